/- texts that the proof reaches, part 1 -/
import Derived.Test.YtffencjoddkghaaGreatDoorProg
import Derived.Shelf.RegionOpenPlain
import Derived.Lib.Strings
import Derived.Lib.Slices
import Derived.Lib.Walk
import Derived.Lib.Builder
import Derived.Lib.AppendStr
import Derived.Lib.UnsafeStr
import Derived.WalkKit
import Derived.Laws.Externs
import Derived.Laws.IdiomCopy
import Derived.Laws.BitsLemmas
import Derived.Lib.FrozenHead2
import Derived.DefersIn
import Derived.ControlIn
import Derived.TacticsIn
import Derived.OrdersIn
import Derived.OrdersHeld
import Derived.Below
import Derived.Laws.AppendOwn
import Derived.Laws.Entries
import Derived.Laws.Slices
import Derived.Laws.Strings
import Derived.Laws.Cells
import Derived.Laws.Rows
import Derived.Laws.NewBlocks
import Derived.Laws.OwnMore
import Derived.Laws.Small
import Derived.Laws.StructEq
import Derived.KernelRfl
import Derived.Maps.AppendAt
import Derived.Deep.Slices
import Derived.RangeFuncLeaves
import Derived.RangeFuncRecord
import Derived.RangeFuncSeq
import Derived.Laws.Tables
import Derived.Lib.SliceRun
import Derived.Laws.CopyRow
set_option linter.all false
open Array renaming getElem?_eq_some_iff->bX,getD_eq_getD_getElem?->cx,getElem?_modify->dh,getElem?_replicate->dy,getElem?_eq_getElem->dH,getElem?_eq_none->eQ,eq_empty_of_size_eq_zero->fc,ext'->gi,replicate_succ->gB,replicate_zero->gE,range->gH,toList_append->gM,empty_append->gT,size_append->ij
open BitVec renaming ofInt->cM
open Bool renaming false->bd,true->bf,not_eq_true'->bQ,false_eq_true->cF,or_eq_true->cZ,eq_iff_iff->eK
open Go renaming Program->bm,Value->bu,Operand->bE,World->bG,TypeId->bJ,execOp->bY,Deferred->cb
open Go.Proofs.Tryz renaming prog->bq,underlying106->dc,underlying9->dn,underlying105->fC,underlying235->gV,underlying197->gW
open List renaming length->bg,all_eq_true->bj,mem_cons->bp,getElem?_eq_some_iff->bw,mem_map->bx,mem_append->bz,getElem?_eq_getElem->bA,length_nil->bF,append_nil->bI,mem_append_left->bK,mem_append_right->bL,nil_append->bM,map_append->bO,mem_of_getElem?->bP,cons_append->bU,getD_eq_getElem?_getD->ca,contains_eq_mem->cl,nodup_append->cu,mem_map_of_mem->cw,length_drop->cz,length_take->cE,nodup_cons->cG,eq_nil_of_length_eq_zero->cH,getElem?_take->cJ,getElem?_map->cK,size_toArray->cN,flatten_cons->cO,range->cQ,map_map->cS,map_nil->cT,map->cX,take_of_length_le->db,length_pos_iff->dp,getElem?_drop->dw,nodup_nil->dv,mem_filter->dz,drop_drop->dD,getElem?_range->dG,getElem_of_mem->dE,getElem?_append_left->dJ,getElem_mem->dL,drop_zero->dU,pairwise_append->ed,isEmpty_iff->eh,getElem?_cons_zero->eg,take_left->ef,append_eq_nil_iff->eu,pairwise_cons->eo,take_length_add_append->eA,find?_eq_none->eL,getElem?_toArray->eS,perm_ext_iff_of_nodup->fD,take_take->fI,drop_take->fF,extract_eq_drop_take->fM,append_toArray->gL,filterMap_cons->gN,push_toArray->iq,map_toArray->iu,mem_toArray->iw,range'_succ->iC
open Nat renaming beq->bk,zero_le->cj,ble->cm,mul_le_mul_right->cr,beq_refl->cD,zero_add->cI,le_trans->cW,le_refl->dk,succ_mul->dq,add_mul->dB,add_zero->dY,add_assoc->ee,lt_of_lt_of_le->ep,zero_mul->ej,le_of_eq->eE,min_eq_left->eI,lt_irrefl->fV,lt_or_ge->ir
open Option renaming some->bc,none->bh,map_eq_some_iff->cv,map_some->da,getD_some->dM
open Sum renaming getLeft?->fy,getRight?->fU
namespace Go
def aO := @if_neg
def aP := @if_pos
def aQ := @congrArg
def aU := @absurd
def aW := @decide_eq_true_eq
def aX := @decide_eq_false_iff_not
def aY := @of_decide_eq_true
end Go
namespace Go
theorem ab {p : Prop} (h : p := by omega) : p := h
theorem ae {p : Prop} (h : p := by decide) : p := h
theorem af {p : Prop} (h : p := by simp) : p := h
theorem ah {p : Prop} (h : p := by decide +kernel) : p := h
theorem ai {p : Prop} (h : p := by rfl) : p := h
theorem aj.{u} {α : Sort u} {a b : α} (h : a = b := by kernel_rfl) : a = b := h
abbrev ak := List UInt8
theorem al.{u} {α : Type u} {a : α} {l : List α} : a ∈ a :: l := List.mem_cons_self
theorem aq {n : Nat} : n ≤ n := dk n
end Go
namespace Go
def bsQ.{u,v}{α:Type u}{β:Type v}(a:α)(f:α->Option β):(bc a).bind f=f a:=rfl
def df{p:Prop}[i:Decidable p](h:¬p):decide p=bd:=decide_eq_false h
def dt{p:Prop}[i:Decidable p](h:p):decide p=bf:=decide_eq_true h
def la.{u}{α:Type u}{a b:List α}:(a++b).length=a.length+b.length:=List.length_append
def lc.{u}{α:Type u}{a:α}{b:List α}:(a::b).length=b.length+1:=List.length_cons
def ctQ.{u}{α:Sort u}(a b:α):(bif bf then a else b)=a:=rfl
def cf.{u}{α:Sort u}(a b:α):(bif bd then a else b)=b:=rfl
def msQ.{u}{α:Type u}{a b:α}:a∈[b]↔a=b:=List.mem_singleton
def mcQ.{u}{α:Type u}(y:α){a:α}{l:List α}(h:a∈l):a∈y::l:=List.mem_cons_of_mem y h
def lb{n m:Nat}(h:cm n m=bf):n<=m:=Nat.le_of_ble_eq_true h
def eb{n m:Nat}(h:bk n m=bf):n=m:=Nat.eq_of_beq_eq_true h
def bn(a b:Bool):((a&&b)=bf)=(a=bf/\b=bf):=Bool.and_eq_true a b
def mk9.{u,v}{α:Type u}{β:Type v}{f:α->β}{a:α}{l:List α}:cX f (a::l)=f a::cX f l:=List.map_cons
def asc.{u}{α:Type u}(a b c:List α):a++b++c=a++(b++c):=List.append_assoc a b c
end Go
namespace Go.Proofs.YtffencjoddkghaaGreatDoor
open Go Go.RowKit
structure zzs(T:bJ):Prop where
 lies:liesAt bq Tryz.prog.depth T (2 / Tryz.prog.cellsOf T) 0 108 1=bf
 ne:T≠5
def zh9:zzs 108:=⟨by kernel_rfl,ae⟩
def zp6:zzs 123:=⟨by kernel_rfl,ae⟩
def zzt:(Tryz.prog.info? 108).map (·.size)=bc 2:=by kernel_rfl
set_option maxHeartbeats 1000000 in
set_option maxRecDepth 100000 in
theorem zwv(b:Nat)(w:bG)(h0:w.cell? ⟨b,0,bh⟩=bc (.pointer (bc ⟨b,0,bh⟩))):
  Calls bq 209 #[.pointer (bc ⟨b,0,bh⟩)] w λe w'=>e=.returned (.tuple #[])/\w'=w:=by
 obtain⟨j,hj,_⟩:=cv.1 zzt
 go_enter Tryz.func209,Tryz.ntmps209
 go_wp2
 rw[Lib.run_neq_ptr_same w _ fC hj]
 go_wp2
 go_end0
 exact⟨rfl,rfl⟩
set_option maxHeartbeats 1000000 in
set_option maxRecDepth 100000 in
theorem zbo{T:bJ}(hT:zzs T)(b:Nat)(w:bG)(h0:w.cell? ⟨b,0,bh⟩=bc (.pointer bh))(hsh:w.shape? b=bc (T,2))(hfz:w.frozen? ⟨b,0,bh⟩=bd):
  Calls bq 209 #[.pointer (bc ⟨b,0,bh⟩)] w λe w'=>e=.returned (.tuple #[])/\w'=w.setCell ⟨b,0,bh⟩ (.pointer (bc ⟨b,0,bh⟩)):=by
 obtain⟨j,hj,hjs⟩:=cv.1 zzt
 go_enter Tryz.func209,Tryz.ntmps209
 go_wp2
 rw[Lib.run_to_unsafe w ⟨b,0,bh⟩ fC gV hj (by rw[hjs];decide) hsh (Nat.zero_lt_succ 1)];simp only[Result.andThen];rw[Oper.upon_value]
 go_wp2
 rw[run_callFunc_extern Tryz.func225 (by kernel_rfl) (by kernel_rfl) (by kernel_rfl) (e:=Extern.AbiNoEscape.same) (by kernel_rfl)];rw[Lib.run_noEscape];simp only[Result.andThen];rw[Oper.upon_value]
 go_wp2
 rw[Lib.run_from_unsafe w ⟨b,0,bh⟩ gV fC hj hsh hT.lies];simp only[Result.andThen];rw[Oper.upon_value]
 go_wp2
 go_end0
 exact⟨rfl,rfl⟩
def infoByte:(Tryz.prog.info? 5).map (λi=>(i.zero,i.size,i.bytes))=bc (bc (.int .u8 0),1,1):=by kernel_rfl
def zT8:∃i,Tryz.prog.info? 5=bc i/\i.zero=bc (.int .u8 0)/\i.size=1/\i.bytes=1:=by
 obtain⟨i,h1,h2⟩:=cv.1 infoByte;simp only[Prod.mk.injEq]at h2;exact⟨i,h1,h2.1,h2.2.1,h2.2.2⟩
def zZu(w w':bG)(v v':bu):Prop:=(∀g,v'.ownBlock=bc g->w.heap.size<=g∨v.ownBlock=bc g)/\∀g,v.ownBlock=bc g->∃cur fr,w'.heap[g]?=bc (.cells cur 5 fr)
def zww(w:bG)(v:bu)(n:Nat)(xs:List bu)(hown:w.ownsRowF 0 5 1 v n xs)(s:ByteArray)(hb:n+s.size<=140737488355328):
  ∃v' w',(Builtin.append_ #[106,9] 106 #[v,.string s]).run bq w=.ok v' w'/\w'.ownsRowF 0 5 1 v' (n+s.size) (xs++Lib.strCells s)/\w.grownBy w' v.ownBlock/\zZu w w' v v':=by
 obtain⟨i,hi,hz,hs,hy⟩:=zT8
 have h63:n+s.size<=maxLen:=by unfold maxLen;omega
 rcases hown.2 with⟨rfl,rfl⟩|⟨g,cap,cur,fz,rfl,hbg,hg,hfz,hnc,hcm,hcs,htake⟩
 ·obtain⟨v',w',h1,h2,h3,_⟩:=Lib.run_append_own_stringF (P:=bq) w w.heap.size 106 9 106 5 i dc dn hi hz hs hy (.slice bh 0 0) 0 xs ⟨hown.1,.inl ⟨rfl,rfl⟩⟩ s h63 hb aq
  refine⟨v',w',h1,⟨h2.1,?_⟩,h3,λg hg=>.inl (h2.lt g hg).1,λg hg=>by cases hg⟩
  rcases h2.2 with h|⟨g,cap,cur,fz,e1,e2,r⟩
  ·exact .inl h
  ·exact .inr ⟨g,cap,cur,fz,e1,cj _,r⟩
 ·obtain⟨v',w',h1,h2,h3,_⟩:=Lib.run_append_own_stringF (P:=bq) w 0 106 9 106 5 i dc dn hi hz hs hy _ n xs hown s h63 hb (cj _)
  refine⟨v',w',h1,h2,h3,?_⟩;by_cases hroom:n+s.size<=cap
  ·have hr:=Lib.run_append_room_stringF (P:=bq) w 106 9 106 5 i dc dn hi hs g n cap cur fz hg (by simpa using hfz) s hroom ab
   rw[h1]at hr;cases hr;refine⟨λg' hg'=>.inr (by simpa[Value.ownBlock]using hg'),λg' hg'=>?_⟩
   rcases h2.2 with⟨e,_⟩|⟨g2,cap2,cur2,fz2,e1,_,e3,_⟩
   ·cases e
   ·cases e1
    simp only[Value.ownBlock,Option.some.injEq]at hg';subst hg';exact⟨_,_,e3⟩
  ·have holds:∀j u,xs[j]?=bc u->w.cell? ((⟨g,0,bh⟩:Addr).add j)=bc u:=hown.cells (g:=g) rfl
   have hr:=Lib.run_append_grow_string (P:=bq) w 106 9 106 5 i (.int .u8 0) dc dn hi hz ⟨g,0,bh⟩ n cap xs (by rw[hs];exact hown.1) holds s ab ab (by rw[hy];exact growslice_fits ab ab);rw[h1]at hr;cases hr;refine⟨λg' hg'=>?_,λg' hg'=>?_⟩
   ·simp only[Value.ownBlock,Option.some.injEq]at hg'
    exact .inl ab
   ·simp only[Value.ownBlock,Option.some.injEq]at hg'
    subst hg';exact⟨_,_,(Lib.alloc_old w.drew _ g (bX.1 hg).1).trans hg⟩
def zp7(w:bG)(v:bu)(n:Nat)(xs:List bu)(hown:w.ownsRowF 0 5 1 v n xs)(a:Addr)(c:Int)(hc:w.cell? a=bc (.int .u8 c))(ha:a.spot=bh)(hb:n+1<=140737488355328):
  ∃v' w',(Builtin.append_ #[106,106] 106 #[v,.slice (bc a) 1 1]).run bq w=.ok v' w'/\w'.ownsRowF 0 5 1 v' (n+1) (xs++[.int .u8 c])/\w.grownBy w' v.ownBlock/\zZu w w' v v':=by
 obtain⟨i,hi,hz,hs,hy⟩:=zT8
 have h63:n+1<=maxLen:=by unfold maxLen;omega
 have hnews:∀j u,[Value.int .u8 c][j]?=bc u->w.cell? (a.add j)=bc u:=by
  intro j u hj
  match j,hj with
  |0,hj=>simp at hj;subst hj;rw[show a.add 0=a from by cases a;simp at ha;subst ha;rfl];exact hc
 have h1':∀u∈[Value.int .u8 c],u.oneCell'=bf:=by intro u hu;simp at hu;subst hu;rfl
 rcases hown.2 with⟨rfl,rfl⟩|⟨g,cap,cur,fz,rfl,hbg,hg,hfz,hnc,hcm,hcs,htake⟩
 ·obtain⟨v',w',h1,h2,h3,_⟩:=run_append_ownF (P:=bq) w w.heap.size 106 106 5 i (.int .u8 0) 1 1 dc hi hz hs hy rfl ae (.slice bh 0 0) 0 xs ⟨hown.1,.inl ⟨rfl,rfl⟩⟩ a 1 1 _ rfl hnews h1' h63 ab aq
  refine⟨v',w',h1,⟨h2.1,?_⟩,h3,λg hg=>.inl (h2.lt g hg).1,λg hg=>by cases hg⟩
  rcases h2.2 with h|⟨g,cap,cur,fz,e1,e2,r⟩
  ·exact .inl h
  ·exact .inr ⟨g,cap,cur,fz,e1,cj _,r⟩
 ·obtain⟨v',w',h1,h2,h3,_⟩:=run_append_ownF (P:=bq) w 0 106 106 5 i (.int .u8 0) 1 1 dc hi hz hs hy rfl ae _ n xs hown a 1 1 _ rfl hnews h1' h63 ab (cj _)
  refine⟨v',w',h1,h2,h3,?_⟩;by_cases hroom:n+1<=cap
  ·have hr:=run_append_roomF (P:=bq) w 106 106 5 i dc hi g n cap cur fz hg (by rw[hs];exact hfz) a 1 1 _ (by rw[hs];rfl) hnews h1' hroom (by rw[hs,hcs];simp;omega)
   rw[h1]at hr;cases hr;refine⟨λg' hg'=>.inr (by simpa[Value.ownBlock]using hg'),λg' hg'=>?_⟩
   rcases h2.2 with⟨e,_⟩|⟨g2,cap2,cur2,fz2,e1,_,e3,_⟩
   ·cases e
   ·cases e1
    simp only[Value.ownBlock,Option.some.injEq]at hg';subst hg';exact⟨_,_,e3⟩
  ·have holds:∀j u,xs[j]?=bc u->w.cell? ((⟨g,0,bh⟩:Addr).add j)=bc u:=hown.cells (g:=g) rfl
   have hr:=run_append_grow (P:=bq) w 106 106 5 i (.int .u8 0) dc hi hz ⟨g,0,bh⟩ n cap xs (by rw[hs];exact hown.1) holds a 1 1 _ (by rw[hs];rfl) hnews ab ab (by rw[hy];exact growslice_fits ab ab);rw[h1]at hr;cases hr;refine⟨λg' hg'=>?_,λg' hg'=>?_⟩
   ·simp only[Value.ownBlock,Option.some.injEq]at hg'
    exact .inl ab
   ·simp only[Value.ownBlock,Option.some.injEq]at hg'
    subst hg';exact⟨_,_,(Lib.alloc_old w.drew _ g (bX.1 hg).1).trans hg⟩
def zwx{ops:Array Oper}{rest:List Oper}{o:Oper}{a:Act}{w:bG}{Q:Exit->Act->bG->Prop}(hgd:o.guard=bh)(sl x:bE)
  (ho:o.op=.call { callee:=.builtin .append,args:=#[sl,x],argTypes:=#[106,9] }) (hty:o.type=106)
  (v:bu) (n:Nat) (xs:List bu) (hs:a.eval sl=v) (hown:w.ownsRowF 0 5 1 v n xs) (s:ByteArray) (hx:a.eval x=.string s) (hb:n+s.size<=140737488355328)
  (h:∀v' w',w'.ownsRowF 0 5 1 v' (n+s.size) (xs++Lib.strCells s)->w.grownBy w' v.ownBlock->zZu w w' v v'->wpList bq ops Q rest (a.put o.dst v') w'):wpList bq ops Q (o::rest) a w:=by
 refine wpList_plain hgd λK hK=>?_
 obtain⟨v',w',hr,h2,h3,h4⟩:=zww w v n xs hown s hb;unfold Oper.wp bY;simp only[ho,hty,resolve,invoke,builtin,Sem.run_bind,Sem.run_pure,Result.andThen_ok,iu,mk9,cT,hs,hx,hr];exact hK _ _ (h v' w' h2 h3 h4)
def zp8{ops:Array Oper}{rest:List Oper}{o:Oper}{a:Act}{w:bG}{Q:Exit->Act->bG->Prop}(hgd:o.guard=bh)(sl x:bE)
  (ho:o.op=.call { callee:=.builtin .append,args:=#[sl,x],argTypes:=#[106,106] }) (hty:o.type=106)
  (v:bu) (n:Nat) (xs:List bu) (hs:a.eval sl=v) (hown:w.ownsRowF 0 5 1 v n xs) (ad:Addr) (c:Int) (hx:a.eval x=.slice (bc ad) 1 1) (hc:w.cell? ad=bc (.int .u8 c)) (ha:ad.spot=bh) (hb:n+1<=140737488355328)
  (h:∀v' w',w'.ownsRowF 0 5 1 v' (n+1) (xs++[.int .u8 c])->w.grownBy w' v.ownBlock->zZu w w' v v'->wpList bq ops Q rest (a.put o.dst v') w'):wpList bq ops Q (o::rest) a w:=by
 refine wpList_plain hgd λK hK=>?_
 obtain⟨v',w',hr,h2,h3,h4⟩:=zp7 w v n xs hown ad c hc ha hb;unfold Oper.wp bY;simp only[ho,hty,resolve,invoke,builtin,Sem.run_bind,Sem.run_pure,Result.andThen_ok,iu,mk9,cT,hs,hx,hr];exact hK _ _ (h v' w' h2 h3 h4)
def HW(b:Nat)(w w':bG):Prop:=∃p v T p' v',w.heap[b]?=bc (.cells #[p,v] T (0,0))/\w'.heap[b]?=bc (.cells #[p',v'] T (0,0))/\w'.os=w.os/\w'.tape=w.tape/\w'.output=w.output/\w.heap.size<=w'.heap.size /\
 (∀k,k<w.heap.size->k≠b->v.ownBlock≠bc k->w'.heap[k]?=w.heap[k]?)/\(∀g,v'.ownBlock=bc g->w.heap.size<=g∨v.ownBlock=bc g)/\∀g,v.ownBlock=bc g->g≠b->∃cur u fr,w'.heap[g]?=bc (.cells cur u fr)
def check{T:bJ}(hT:zzs T)(b:Nat)(bs:List bu)(w:bG)(h:Lib.IsBuilderF T 5 0 b bs w):
  Calls bq 209 #[.pointer (bc ⟨b,0,bh⟩)] w λe w'=>e=.returned (.tuple #[])/\Lib.BuilderAtF T 5 0 b (.pointer (bc ⟨b,0,bh⟩)) bs w'/\∃p v,w.heap[b]?=bc (.cells #[p,v] T (0,0))/\w'.heap[b]?=bc (.cells #[.pointer (bc ⟨b,0,bh⟩),v] T (0,0))/\w'.os=w.os/\w'.tape=w.tape/\w'.output=w.output/\w'.heap.size=w.heap.size/\∀k,k≠b->w'.heap[k]?=w.heap[k]?:=by
 rcases h with h|h
 ·refine(zbo hT b w h.cell0 h.shape h.frozen0).mono ?_
  rintro e w' ⟨rfl,rfl⟩;have h2:=h.used (.pointer (bc ⟨b,0,bh⟩));obtain⟨_,v,hb,_⟩:=h;exact⟨rfl,h2,_,v,hb,by simp[World.setCell,dh,hb],rfl,rfl,rfl,by simp[World.setCell],λk hk=>Below.heap_setCell _ _ _ _ (λe=>hk (by simp[e]))⟩
 ·refine(zwv b w h.cell0).mono ?_
  rintro e w' ⟨rfl,rfl⟩;have h2:=h;obtain⟨_,v,hb,_⟩:=h;exact⟨rfl,h2,_,v,hb,hb,rfl,rfl,rfl,rfl,λ_ _=>rfl⟩
set_option maxHeartbeats 2000000 in
set_option maxRecDepth 100000 in
theorem zzu{T:bJ}(hT:zzs T)(b:Nat)(bs:List bu)(s:ByteArray)(w:bG)(h:Lib.IsBuilderF T 5 0 b bs w)(hlen:bs.length+s.size<=140737488355328):
  (Calls bq 162 #[.pointer (bc ⟨b,0,bh⟩),.string s] w λe w'=>e=.returned (.tuple #[.int .i64 s.size,.nilIface])/\Lib.IsBuilderF T 5 0 b (bs++Lib.strCells s) w'/\HW b w w') /\
  ∀u,CallsDIn Fence.wide 0 bq 162 #[.pointer (bc ⟨b,0,bh⟩),.string s] u w λe u' w'=>u'=u/\(e=.returned (.tuple #[.int .i64 s.size,.nilIface])/\Lib.IsBuilderF T 5 0 b (bs++Lib.strCells s) w'/\HW b w w'):=by
 refine⟨calls_of_wp Tryz.func162 rfl ?_,λu=>callsDIn_of_wp Tryz.func162 rfl trivial (wpIn_wide.2 ?_)⟩
 all_goals
  simp only[Tryz.ntmps162,cN,lc,bF,Nat.reduceAdd,Nat.reduceSub,gB,gE,iq,gL,bM,bU]
  go_wp2_with (go_at_call 209;refine(check hT b bs _ h).mono ?_)
  rintro e w1 ⟨rfl,h1,p0,v0,k1,k2,k3,k4,k5,k6,k7⟩;obtain⟨hB,v,hbk,hown,hne⟩:=h1
  have c0:w1.cell? ⟨b,0,bh⟩=bc (.pointer (bc ⟨b,0,bh⟩)):=by rw[Lib.cell_of_heap hbk];rfl
  have c1:w1.cell? ⟨b,1,bh⟩=bc v:=by rw[Lib.cell_of_heap hbk];rfl
  go_wp2_with (at_builtin;refine zwx rfl _ _ rfl rfl _ _ _ rfl hown s rfl ?c4 ?_)
  case c4=>omega
  intro v' w2 hown' hgrow hwent
  have hlt:b<w1.heap.size:=by
   rcases ir b w1.heap.size with h'|h'
   ·exact h'
   ·simp[eQ h']at hbk
  have hb2:w2.heap[b]?=bc (.cells #[.pointer (bc ⟨b,0,bh⟩),v] T (0,0)):=by
   rw[hgrow.block b hlt (λe=>hne e.symm)];exact hbk
  have d0:w2.cell? ⟨b,0,bh⟩=bc (.pointer (bc ⟨b,0,bh⟩)):=by rw[Lib.cell_of_heap hb2];rfl
  have d1:w2.cell? ⟨b,1,bh⟩=bc v:=by rw[Lib.cell_of_heap hb2];rfl
  have f1:w2.frozen? ⟨b,1,bh⟩=bd:=Lib.frozen_of_heap hb2 1
  obtain⟨ao,n',cap,rfl⟩:∃ao n' cap,v'=.slice ao n' cap:=by
   rcases hown'.2 with⟨hv,_⟩|⟨g,cap,cur,fz,hv,_⟩
   ·exact⟨_,_,_,hv⟩
   ·exact⟨_,_,_,hv⟩
  go_wp2
  go_ret2
  rw[hbk]at k2;cases k2;refine⟨rfl,.inr (Lib.BuilderAtF.put hB hb2 (bs':=bs++Lib.strCells s) (by simpa[Lib.strCells_length]using hown') hT.ne),p0,v0,T,.pointer (bc ⟨b,0,bh⟩),.slice ao n' cap,k1,by simp[World.setCell,dh,hb2],hgrow.os.trans k3,hgrow.tape.trans k4,hgrow.output.trans k5,by simpa[World.setCell]using cW (eE k6.symm) hgrow.size,λk hk hkb hkv=>?_,λg hg=>?_,λg hg hgb=>?_⟩
  ·rw[Below.heap_setCell _ _ _ _ (λe=>hkb (by simp[e])),hgrow.block k ab (λe=>hkv e.symm),k7 k hkb]
  ·have:=hwent.1 g hg
   rwa [k6]at this
  ·obtain⟨cur,fr,e⟩:=hwent.2 g hg
   exact⟨cur,5,fr,by rw[Below.heap_setCell _ _ _ _ (λe=>hgb (by simp[e]))];exact e⟩
set_option maxHeartbeats 2000000 in
set_option maxRecDepth 100000 in
theorem zGx{T:bJ}(hT:zzs T)(b:Nat)(bs:List bu)(c:Int)(w:bG)(h:Lib.IsBuilderF T 5 0 b bs w)(hlen:bs.length+1<=140737488355328):
  (Calls bq 168 #[.pointer (bc ⟨b,0,bh⟩),.int .u8 c] w λe w'=>e=.returned .nilIface/\Lib.IsBuilderF T 5 0 b (bs++[.int .u8 c]) w'/\HW b w w') /\
  ∀u,CallsDIn Fence.wide 0 bq 168 #[.pointer (bc ⟨b,0,bh⟩),.int .u8 c] u w λe u' w'=>u'=u/\(e=.returned .nilIface/\Lib.IsBuilderF T 5 0 b (bs++[.int .u8 c]) w'/\HW b w w'):=by
 refine⟨calls_of_wp Tryz.func168 rfl ?_,λu=>callsDIn_of_wp Tryz.func168 rfl trivial (wpIn_wide.2 ?_)⟩
 all_goals
  simp only[Tryz.ntmps168,cN,lc,bF,Nat.reduceAdd,Nat.reduceSub,gB,gE,iq,gL,bM,bU]
  go_wp2_with (go_at_call 209;refine(check hT b bs _ h).mono ?_)
  rintro e w1 ⟨rfl,h1,p0,v0,k1,k2,k3,k4,k5,k6,k7⟩;obtain⟨hB,v,hbk,hown,hne⟩:=h1
  have c0:w1.cell? ⟨b,0,bh⟩=bc (.pointer (bc ⟨b,0,bh⟩)):=by rw[Lib.cell_of_heap hbk];rfl
  have c1:w1.cell? ⟨b,1,bh⟩=bc v:=by rw[Lib.cell_of_heap hbk];rfl
  go_wp2_with (at_builtin;refine zp8 rfl _ _ rfl rfl _ _ _ rfl (hown.alloc _) ⟨w.heap.size,0,bh⟩ c rfl ?c3 rfl ?c4 ?_)
  case c3 =>
   rw[<- k6,Lib.cell_of_heap (heap_alloc_new w1 _)];rfl
  case c4=>omega
  intro v' w2 hown' hgrow hwent
  have hsz:(w1.alloc (.cells #[.int .u8 c] 5)).heap.size=w1.heap.size+1:=af
  have hlt:b<w1.heap.size:=by
   rcases ir b w1.heap.size with h'|h'
   ·exact h'
   ·simp[eQ h']at hbk
  have hb2:w2.heap[b]?=bc (.cells #[.pointer (bc ⟨b,0,bh⟩),v] T (0,0)):=by
   rw[hgrow.block b (by rw[hsz];omega) (λe=>hne e.symm)];exact(Lib.alloc_old w1 _ b hlt).trans hbk
  have d0:w2.cell? ⟨b,0,bh⟩=bc (.pointer (bc ⟨b,0,bh⟩)):=by rw[Lib.cell_of_heap hb2];rfl
  have d1:w2.cell? ⟨b,1,bh⟩=bc v:=by rw[Lib.cell_of_heap hb2];rfl
  have f1:w2.frozen? ⟨b,1,bh⟩=bd:=Lib.frozen_of_heap hb2 1
  obtain⟨ao,n',cap,rfl⟩:∃ao n' cap,v'=.slice ao n' cap:=by
   rcases hown'.2 with⟨hv,_⟩|⟨g,cap,cur,fz,hv,_⟩
   ·exact⟨_,_,_,hv⟩
   ·exact⟨_,_,_,hv⟩
  go_wp2
  go_ret
  rw[hbk]at k2;cases k2;refine⟨rfl,.inr (Lib.BuilderAtF.put hB hb2 (bs':=bs++[.int .u8 c]) (by simpa using hown') hT.ne),p0,v0,T,.pointer (bc ⟨b,0,bh⟩),.slice ao n' cap,k1,by simp[World.setCell,dh,hb2],hgrow.os.trans k3,hgrow.tape.trans k4,hgrow.output.trans k5,by have h9:=hgrow.size;rw[hsz]at h9;simp only[World.setCell,Array.size_modify];omega,λk hk hkb hkv=>?_,λg hg=>?_,λg hg hgb=>?_⟩
  ·rw[Below.heap_setCell _ _ _ _ (λe=>hkb (by simp[e])),hgrow.block k (by rw[hsz];omega) (λe=>hkv e.symm),Lib.alloc_old w1 _ k ab,k7 k hkb]
  ·rcases hwent.1 g hg with h9|h9
   ·rw[hsz]at h9
    exact .inl ab
   ·exact .inr h9
  ·obtain⟨cur,fr,e⟩:=hwent.2 g hg
   exact⟨cur,5,fr,by rw[Below.heap_setCell _ _ _ _ (λe=>hgb (by simp[e]))];exact e⟩
set_option maxHeartbeats 1000000 in
set_option maxRecDepth 100000 in
theorem zOr{T:bJ}(b:Nat)(bs:List bu)(w:bG)(h:Lib.IsBuilderF T 5 0 b bs w):
  Calls bq 59 #[.pointer (bc ⟨b,0,bh⟩)] w λe w'=>e=.returned (.int .i64 bs.length)/\w'=w:=by
 obtain⟨p,hB,v,hbk,hown,hne⟩:∃p,Lib.BuilderAtF T 5 0 b p bs w:=by
  rcases h with h|h
  ·exact⟨_,h⟩
  ·exact⟨_,h⟩
 obtain⟨ao,cap,rfl⟩:∃ao cap,v=.slice ao bs.length cap:=by
  rcases hown.2 with⟨hv,h0⟩|⟨g,cap,cur,fz,hv,_⟩
  ·exact⟨bh,0,by rw[hv,h0]⟩
  ·exact⟨_,_,hv⟩
 have c1:w.cell? ⟨b,1,bh⟩=bc (.slice ao bs.length cap):=by rw[Lib.cell_of_heap hbk];rfl
 go_enter Tryz.func59,Tryz.ntmps59
 go_wp2
 go_ret
 exact⟨rfl,rfl⟩
def zbp:Tryz.prog.follows .mixedOrders=bf:=by kernel_rfl
def zT9:Tryz.prog.cellsOf 5=1:=by kernel_rfl
def zOs(W:bG)(q:Option Addr):(Builtin.unsafeString_ #[197,3] 9 #[.pointer q,.int .i64 0]).run bq W=.ok (.string .empty) W :=
 Lib.run_unsafeString_none W _ _ _ q
def zaj{b:Nat}{w w':bG}{p v:bu}{T:bJ}(h1:w.heap[b]?=bc (.cells #[p,v] T (0,0)))(h2:w'.heap[b]?=bc (.cells #[p,v] T (0,0)))(ho:w'.os=w.os)(ht:w'.tape=w.tape)(hu:w'.output=w.output)(hs:w.heap.size<=w'.heap.size)
  (hf:∀k,k<w.heap.size->k≠b->v.ownBlock≠bc k->w'.heap[k]?=w.heap[k]?) (hg:∀g,v.ownBlock=bc g->g≠b->∃cur u fr,w'.heap[g]?=bc (.cells cur u fr)):HW b w w' :=
 ⟨p,v,T,p,v,h1,h2,ho,ht,hu,hs,hf,λg hg=>.inr hg,hg⟩
set_option maxHeartbeats 2000000 in
set_option maxRecDepth 100000 in
theorem zp9{T:bJ}(b:Nat)(l:ak)(w:bG)(h:Lib.IsBuilderF T 5 0 b (Lib.byteCells l) w)(h0:l≠[]):
  Calls bq 60 #[.pointer (bc ⟨b,0,bh⟩)] w λe w'=>e=.returned (.string ⟨l.toArray⟩)/\Lib.IsBuilderF T 5 0 b (Lib.byteCells l) w'/\HW b w w':=by
 obtain⟨p,hp,hAt⟩:∃p,(p=.pointer bh∨p=.pointer (bc ⟨b,0,bh⟩))/\Lib.BuilderAtF T 5 0 b p (Lib.byteCells l) w:=by
  rcases h with h|h
  ·exact⟨_,.inl rfl,h⟩
  ·exact⟨_,.inr rfl,h⟩
 obtain⟨hB,v,hbk,hown,hne⟩:=hAt
 have hl0:l.length≠0:=by simpa using h0
 rw[Lib.byteCells_length]at hown
 obtain⟨g,cap,cur,fz,rfl,hbg,hg,hfz,hnc,hcm,hcs,htake⟩:∃g cap cur fz,v=.slice (bc ⟨g,0,bh⟩) l.length cap/\0<=g/\w.heap[g]?=bc (.cells cur 5 fz)/\fz.2<=l.length*1/\l.length<=cap/\cap<=maxLen/\cur.size=cap*1/\cur.toList.take (l.length*1)=Lib.byteCells l:=by
  rcases hown.2 with⟨_,hz⟩|⟨g,cap,cur,fz,hv,r⟩
  ·exact aU hz hl0
  ·exact⟨g,cap,cur,fz,hv,r⟩
 have c1:w.drew.cell? ⟨b,1,bh⟩=bc (.slice (bc ⟨g,0,bh⟩) l.length cap):=by
  have:w.drew.heap[b]?=bc (.cells #[p,.slice (bc ⟨g,0,bh⟩) l.length cap] T (0,0)):=hbk;rw[Lib.cell_of_heap this];rfl
 have hSD:(Builtin.unsafeSliceData_ #[106] 197 #[.slice (bc ⟨g,0,bh⟩) l.length cap]).run bq w.drew=.ok (.pointer (bc ⟨g,0,bh⟩)) w.drew :=
  Lib.run_unsafeSliceData_row _ _ _ _ _ _ ab
 have hUS:(Builtin.unsafeString_ #[197,3] 9 #[.pointer (bc ⟨g,0,bh⟩),.int .i64 l.length]).run bq w.drew=.ok (.string ⟨l.toArray⟩) (w.drew.freeze ⟨g,0,bh⟩ l.length):=by
  refine Lib.run_unsafeString_row w.drew 197 3 9 5 gW zT9 g cur.size (by have hg':w.drew.heap[g]?=bc (.cells cur 5 fz):=hg;simp[World.shape?,hg']) l h0 ab (by unfold maxLen at hcm;omega) ?_;intro j x hx;exact hown.cells (g:=g) rfl j (.int .u8 x.toNat) (by simp[Lib.byteCells,hx])
 have hkeep:Lib.IsBuilderF T 5 0 b (Lib.byteCells l) (w.drew.freeze ⟨g,0,bh⟩ l.length):=by
  have hA:Lib.BuilderAtF T 5 0 b p (Lib.byteCells l) w.drew:=⟨hB,_,hbk,by rw[Lib.byteCells_length];exact hown,hne⟩
  have hF:=hA.froze (g:=g) (cap:=cap) (by rw[Lib.byteCells_length];exact c1);rw[Lib.byteCells_length]at hF
  rcases hp with rfl|rfl
  ·exact .inl hF
  ·exact .inr hF
 have hbg:b≠g:=λe=>hne (by simp[Value.ownBlock,e])
 have hfrz:∀k,k≠g->(w.drew.freeze ⟨g,0,bh⟩ l.length).heap[k]?=w.heap[k]?:=λk hk=>by
  unfold World.freeze;split
  ·rfl
  ·simp only[dh]
   rw[aO (λe=>hk e.symm)];rfl
 have hturn:HW b w (w.drew.freeze ⟨g,0,bh⟩ l.length):=zaj hbk ((hfrz b hbg).trans hbk) (by unfold World.freeze;split<;>rfl) (by unfold World.freeze;split<;>rfl) (by unfold World.freeze;split<;>rfl) (by unfold World.freeze;split;exact dk _;exact eE Array.size_modify.symm) (λk _ _ hk=>hfrz k λe=>hk (by simp[Value.ownBlock,e])) λg' hg' _=>by
  simp only[Value.ownBlock,Option.some.injEq]at hg';subst hg';have hg':w.drew.heap[g]?=bc (.cells cur 5 fz):=hg;unfold World.freeze;split
  ·exact⟨_,_,_,hg'⟩
  ·simp only[dh,if_true,hg',da]
   exact⟨_,_,_,rfl⟩
 have mixed:=zbp
 go_enter Tryz.func60,Tryz.ntmps60
 go_wp2
 go_region_o
 all_goals (go_wp2;go_ret;exact⟨rfl,hkeep,hturn⟩)
set_option maxHeartbeats 2000000 in
set_option maxRecDepth 100000 in
theorem zqa{T:bJ}(b:Nat)(w:bG)(h:Lib.IsBuilderF T 5 0 b [] w):
  Calls bq 60 #[.pointer (bc ⟨b,0,bh⟩)] w λe w'=>e=.returned (.string ⟨#[]⟩)/\Lib.IsBuilderF T 5 0 b [] w'/\HW b w w':=by
 have hUS:=zOs
 obtain⟨p,hp,hA⟩:∃p,(p=.pointer bh∨p=.pointer (bc ⟨b,0,bh⟩))/\Lib.BuilderAtF T 5 0 b p [] w:=by
  rcases h with h|h
  ·exact⟨_,.inl rfl,h⟩
  ·exact⟨_,.inr rfl,h⟩
 have hlt:=hA.lt;have hA':=hA;obtain⟨hB,v,hbk,hown,hne⟩:=hA
 have fin:∀w',Lib.BuilderAtF T 5 0 b p [] w'->Lib.IsBuilderF T 5 0 b [] w':=λw' hk=>by
  rcases hp with rfl|rfl
  ·exact .inl hk
  ·exact .inr hk
 rcases hown.2 with⟨rfl,_⟩|⟨g,cap,cur,fz,rfl,hbg,hg,_,_,_,_,_⟩
 ·have c1:w.drew.cell? ⟨b,1,bh⟩=bc (.slice bh 0 0):=by
   have:w.drew.heap[b]?=bc (.cells #[p,.slice bh 0 0] T (0,0)):=hbk;rw[Lib.cell_of_heap this];rfl
  have hSD:(Builtin.unsafeSliceData_ #[106] 197 #[.slice bh 0 0]).run bq w.drew=.ok (.pointer bh) w.drew:=rfl;have hf:Lib.IsBuilderF T 5 0 b [] w.drew:=fin _ hA'
  have ht:HW b w w.drew:=zaj hbk hbk rfl rfl rfl aq (λ_ _ _ _=>rfl) λg' hg' _=>(by cases hg')
  have mixed:=zbp
  go_enter Tryz.func60,Tryz.ntmps60
  go_wp2
  go_region_o
  all_goals (go_wp2;go_ret;exact⟨rfl,hf,ht⟩)
 ·by_cases hc0:cap=0
  ·subst hc0
   have c1:w.drew.cell? ⟨b,1,bh⟩=bc (.slice (bc ⟨g,0,bh⟩) 0 0):=by
    have:w.drew.heap[b]?=bc (.cells #[p,.slice (bc ⟨g,0,bh⟩) 0 0] T (0,0)):=hbk;rw[Lib.cell_of_heap this];rfl
   have hSD:(Builtin.unsafeSliceData_ #[106] 197 #[.slice (bc ⟨g,0,bh⟩) 0 0]).run bq w.drew=.ok (.pointer (bc ⟨w.drew.heap.size,0,bh⟩)) (w.drew.alloc (.view ⟨g,0,bh⟩ 5)) :=
    Lib.run_unsafeSliceData_zero w.drew _ _ 5 gW ⟨g,0,bh⟩ 0 (5,cur.size) (by have hg':w.drew.heap[g]?=bc (.cells cur 5 fz):=hg;simp[World.shape?,hg'])
   have c2:(w.drew.alloc (.view ⟨g,0,bh⟩ 5)).cell? ⟨b,1,bh⟩=bc (.slice (bc ⟨g,0,bh⟩) 0 0):=by
    have:(w.drew.alloc (.view ⟨g,0,bh⟩ 5)).heap[b]?=_:=(Lib.alloc_old w.drew _ b hlt).trans hbk;rw[Lib.cell_of_heap this];rfl
   have c3:(w.alloc (.view ⟨g,0,bh⟩ 5)).drew.cell? ⟨b,1,bh⟩=bc (.slice (bc ⟨g,0,bh⟩) 0 0):=c2;have c0:w.cell? ⟨b,1,bh⟩=bc (.slice (bc ⟨g,0,bh⟩) 0 0):=c1;have hf:Lib.IsBuilderF T 5 0 b [] (w.drew.alloc (.view ⟨g,0,bh⟩ 5)):=fin _ (hA'.drew.alloc _)
   have ht:HW b w (w.drew.alloc (.view ⟨g,0,bh⟩ 5)):=zaj hbk ((Lib.alloc_old w.drew _ b hlt).trans hbk) rfl rfl rfl (Nat.le_of_lt (by rw[show(w.drew.alloc (.view ⟨g,0,bh⟩ 5)).heap.size=w.drew.heap.size+1 from by simp];exact Nat.lt_succ_self _)) (λk hk _ _=>Lib.alloc_old w.drew _ k hk) λg' hg' _=>by
    simp only[Value.ownBlock,Option.some.injEq]at hg';subst hg';exact⟨_,_,_,(Lib.alloc_old w.drew _ g (bX.1 hg).1).trans hg⟩
   have mixed:=zbp
   go_enter Tryz.func60,Tryz.ntmps60
   go_wp2
   go_region_o
   all_goals (go_wp2;go_ret;exact⟨rfl,hf,ht⟩)
  ·have c1:w.drew.cell? ⟨b,1,bh⟩=bc (.slice (bc ⟨g,0,bh⟩) 0 cap):=by
    have:w.drew.heap[b]?=bc (.cells #[p,.slice (bc ⟨g,0,bh⟩) 0 cap] T (0,0)):=hbk;rw[Lib.cell_of_heap this];rfl
   have hSD:(Builtin.unsafeSliceData_ #[106] 197 #[.slice (bc ⟨g,0,bh⟩) 0 cap]).run bq w.drew=.ok (.pointer (bc ⟨g,0,bh⟩)) w.drew :=
    Lib.run_unsafeSliceData_row _ _ _ _ _ _ hc0
   clear hc0;have hf:Lib.IsBuilderF T 5 0 b [] w.drew:=fin _ hA'
   have ht:HW b w w.drew:=zaj hbk hbk rfl rfl rfl aq (λ_ _ _ _=>rfl) λg' hg' _=>(by
    simp only[Value.ownBlock,Option.some.injEq]at hg';subst hg'
    exact⟨_,_,_,hg⟩)
   have mixed:=zbp
   go_enter Tryz.func60,Tryz.ntmps60
   go_wp2
   go_region_o
   all_goals (go_wp2;go_ret;exact⟨rfl,hf,ht⟩)
def zwy{T:bJ}(b:Nat)(l:ak)(w:bG)(h:Lib.IsBuilderF T 5 0 b (Lib.byteCells l) w):
  Calls bq 60 #[.pointer (bc ⟨b,0,bh⟩)] w λe w'=>e=.returned (.string ⟨l.toArray⟩)/\Lib.IsBuilderF T 5 0 b (Lib.byteCells l) w'/\HW b w w':=by
 cases l with
 |nil=>exact zqa b w h
 |cons x r=>exact zp9 b (x::r) w h af
end Go.Proofs.YtffencjoddkghaaGreatDoor
namespace Go.Eng
open Go Go.RowKit
abbrev yL:=Nat->bu
def upd(ρ:yL)(d:Nat)(v:bu):yL:=λt=>bif bk t d then v else ρ t
abbrev zak:=Exit->yL->List cb->bG->Prop
def ev(ρ:yL):bE->bu
 |.tmp t=>ρ t
 |.const v=>v
 |.global g=>.pointer (bc ⟨g,0,bh⟩)
 |.func f=>.func (.func f) #[] #[]
structure Frm(N:Nat)(ds:List cb)(a:Act)(ρ:yL):Prop where
 size:a.tmps.size=N
 defs:a.defers=ds
 get:∀t,a.tmps.getD t undef=ρ t
def Frm.eval{N:Nat}{ds:List cb}{a:Act}{ρ:yL}(h:Frm N ds a ρ):a.eval=ev ρ:=by
 funext x
 cases x with
 |tmp t=>exact h.get t
 |const v=>rfl
 |global g=>rfl
 |func f=>rfl
def Frm.put{N:Nat}{ds:List cb}{a:Act}{ρ:yL}(h:Frm N ds a ρ){d:Nat}(hd:d<N)(v:bu):Frm N ds (a.put (bc d) v) (upd ρ d v):=by
 refine⟨by simp[Act.put,h.size],h.defs,λt=>?_⟩;simp only[Act.put,upd];by_cases htd:t=d
 ·subst htd
  simp[cx,cD,h.size,hd]
 ·have hb:bk t d=bd:=by
   cases hx:bk t d with
   |false=>rfl
   |true=>exact aU (eb hx) htd
  rw[hb,cf,<- h.get t];simp[cx,Array.getElem?_setIfInBounds_ne (Ne.symm htd)]
def Frm.putNone{N:Nat}{ds:List cb}{a:Act}{ρ:yL}(h:Frm N ds a ρ)(v:bu):Frm N ds (a.put bh v) ρ:=h
def Fw(r:Option Nat):Fence:={ fn:=λ_=>True,depth:=bh,alive:=bd,round:=r }
def A8{n:Nat}{P:bm}{f:FuncId}{args:Array bu}{w:bG}{R:Ending->bG->Prop}(r:Option Nat)(h:Calls P f args w R):CallsIn (Fw r) n P f args w R :=
 (callsIn_wide (n:=n)).2 h
def lift(N:Nat)(Q:zak):Exit->Act->bG->Prop:=λe a w=>∃ρ ds,Frm N ds a ρ/\Q e ρ ds w
def zzv{N:Nat}{Q Q':zak}(h:∀e ρ ds w,Q e ρ ds w->Q' e ρ ds w){e:Exit}{a:Act}{w:bG}:lift N Q e a w->lift N Q' e a w :=
 λ⟨ρ,ds,hf,hq⟩=>⟨ρ,ds,hf,h _ _ _ _ hq⟩
def Wp(P:bm)(r:Option Nat)(N:Nat)(c:Code)(Q:zak)(ρ:yL)(ds:List cb)(w:bG):Prop :=
 ∀a n,Frm N ds a ρ->c.wpIn (Fw r) n P (lift N Q) a w
def andThen(K:yL->List cb->bG->Prop)(Q:zak):zak
 |.normal,ρ,ds,w=>K ρ ds w
 |e,ρ,ds,w=>Q e ρ ds w
def zOt(id:Nat)(Q:zak):zak
 |.exit i,ρ,ds,w=>if i=id then Q .normal ρ ds w else Q (.exit i) ρ ds w
 |e,ρ,ds,w=>Q e ρ ds w
section
variable{P:bm}{r:Option Nat}{N:Nat}{Q:zak}{ρ:yL}{ds:List cb}{w:bG}
def zly{c:Code}{Q':zak}(h:Wp P r N c Q ρ ds w)(hq:∀e ρ ds w,Q e ρ ds w->Q' e ρ ds w):Wp P r N c Q' ρ ds w :=
 λa n hf=>wpIn_mono (h a n hf) λ_ _ _=>zzv hq
def zLz(h:Q .normal ρ ds w):Wp P r N .skip Q ρ ds w:=λ_ _ hf=>wpIn_skip ⟨_,_,hf,h⟩
def zqb{K:yL->List cb->bG->Prop}(h:K ρ ds w):Wp P r N .skip (andThen K Q) ρ ds w:=zLz h
def zUa{id:Nat}(h:Q (.exit id) ρ ds w):Wp P r N (.exit id) Q ρ ds w:=λ_ _ hf=>wpIn_exit ⟨_,_,hf,h⟩
def w_ret(h:Q .ret ρ ds w):Wp P r N .ret Q ρ ds w:=λ_ _ hf=>wpIn_ret ⟨_,_,hf,h⟩
def zwz{x y:Code}(h:Wp P r N x (andThen (λρ ds w=>Wp P r N y Q ρ ds w) Q) ρ ds w):Wp P r N (.seq x y) Q ρ ds w :=
 λa n hf=>wpIn_seq (wpIn_mono (h a n hf) λe a' w' hq=>by
  obtain⟨ρ',ds',hf',hq'⟩:=hq
  cases e with
  |normal=>exact hq' a' n hf'
  |exit id=>exact⟨ρ',ds',hf',hq'⟩
  |goto l=>exact⟨ρ',ds',hf',hq'⟩
  |ret=>exact⟨ρ',ds',hf',hq'⟩
  |panic ch=>exact⟨ρ',ds',hf',hq'⟩
  |outgrown=>exact⟨ρ',ds',hf',hq'⟩)
def zL0{c:bE}{x y:Code}(t:Bool)(hc:ev ρ c=.bool t)(h1:t=bf->Wp P r N x Q ρ ds w)(h2:t=bd->Wp P r N y Q ρ ds w):Wp P r N (.cond c x y) Q ρ ds w :=
 λa n hf=>wpIn_cond_split (by rw[hf.eval];exact hc) (λht=>h1 ht a n hf) (λht=>h2 ht a n hf)
def zOu{id:Nat}{c:Code}(h:Wp P r N c (zOt id Q) ρ ds w):Wp P r N (.block id c) Q ρ ds w :=
 λa n hf=>wpIn_block (wpIn_mono (h a n hf) λe a' w' hq=>by
  obtain⟨ρ',ds',hf',hq'⟩:=hq
  cases e with
  |exit i =>
   simp only[zOt]at hq';simp only[Exit.inBlock];split
   ·rename_i he;rw[aP he]at hq';exact⟨ρ',ds',hf',hq'⟩
   ·rename_i he;rw[aO he]at hq';exact⟨ρ',ds',hf',hq'⟩
  |normal=>exact⟨ρ',ds',hf',hq'⟩
  |goto l=>exact⟨ρ',ds',hf',hq'⟩
  |ret=>exact⟨ρ',ds',hf',hq'⟩
  |panic ch=>exact⟨ρ',ds',hf',hq'⟩
  |outgrown=>exact⟨ρ',ds',hf',hq'⟩)
def least(p:Nat->Prop):∀n,p n->∃m,p m/\∀k,k<m->¬p k:=by
 intro n
 induction n using Nat.strongRecOn with
 |_ n ih =>
  intro h;by_cases hk:∃k,k<n/\p k
  ·obtain⟨k,hkn,hpk⟩:=hk
   exact ih k hkn hpk
  ·exact⟨n,h,λk hkn hpk=>hk ⟨k,hkn,hpk⟩⟩
def gv(all:List Oper)(ρ:yL)(j:Nat):Option Bool :=
 match (all[j]?).bind (·.dst)with
 |some d=>match ρ d with|.bool b=>bc b|_=>bh
 |none=>bh
def wanted(all:List Oper)(ρ:yL)(o:Oper):Bool :=
 match o.guard with
 |none=>bf
 |some (j,want)=>gv all ρ j==bc want
def Frm.yielded{a:Act}(hf:Frm N ds a ρ)(all:List Oper)(j:Nat):Go.yielded all.toArray a.tmps j=gv all ρ j:=by
 unfold Go.yielded gv;simp only[eS]
 cases h:(all[j]?).bind (·.dst)with
 |none=>rfl
 |some d =>
  simp only[bsQ];have hg:=hf.get d;rw[cx]at hg
  cases hx:a.tmps[d]? with
  |none=>rw[hx]at hg;rw[<- hg];rfl
  |some v=>rw[hx]at hg;rw[<- hg];cases v<;>rfl
def Frm.wanted{a:Act}(hf:Frm N ds a ρ)(all:List Oper)(o:Oper):Region.wanted o (Go.yielded all.toArray a.tmps)=wanted all ρ o:=by
 unfold Region.wanted Eng.wanted
 cases o.guard with
 |none=>rfl
 |some p=>simp only[hf.yielded all]
def Ops(P:bm)(r:Option Nat)(N:Nat)(all:List Oper)(Q:zak)(l:List Oper)(ρ:yL)(ds:List cb)(w:bG):Prop :=
 ∀a n,Frm N ds a ρ->wpListIn (Fw r) n P all.toArray (lift N Q) l a w
def ztc{id:Nat}{l:List Oper}(h:Ops P r N l Q l ρ ds w):Wp P r N (.region id l.toArray bd) Q ρ ds w :=
 λa n hf=>wpIn_region_lit (h a n hf)
def ku:Op->Bool|.defer _=>bd|_=>bf
def Ax{o:Oper}(h:ku o.op=bf)(ρ:bE->bu)(ro:Option Nat):o.semAt ro ρ=bY ρ o :=
 Oper.semAt_eq ro ρ o (λc hc=>by rw[hc]at h;cases h)
section
variable{all rest:List Oper}{o:Oper}
def zOv(h:Q .normal ρ ds w):Ops P r N all Q [] ρ ds w:=λ_ _ hf=>⟨_,_,hf,h⟩
def zGy(d:Nat)(hd:o.dst=bc d)(hN:cm (d+1) N=bf)(hw:wanted all ρ o=bd)(h:Ops P r N all Q rest (upd ρ d undef) ds w):Ops P r N all Q (o::rest) ρ ds w:=by
 intro a n hf;have hw':=(hf.wanted all o).trans hw;simp only[wpListIn,hw',cF,if_false];exact⟨λ_ _=>trivial,h _ n (by rw[hd];exact hf.put (lb hN) _)⟩
def zzw(hd:o.dst=bh)(hw:wanted all ρ o=bd)(h:Ops P r N all Q rest ρ ds w):Ops P r N all Q (o::rest) ρ ds w:=by
 intro a n hf;have hw':=(hf.wanted all o).trans hw;simp only[wpListIn,hw',cF,if_false];exact⟨λ_ _=>trivial,h _ n (by rw[hd];exact hf.putNone _)⟩
def zOw(d:Nat)(v:bu){w':bG}(hd:o.dst=bc d)(hN:cm (d+1) N=bf)(hw:wanted all ρ o=bf)(hn:ku o.op=bf)
  (hr:(bY (ev ρ) o).run P w=.ok (.value v) w') (h:Ops P r N all Q rest (upd ρ d v) ds w'):Ops P r N all Q (o::rest) ρ ds w:=by
 intro a n hf;have hw':=(hf.wanted all o).trans hw;simp only[wpListIn,hw',if_true];refine⟨λ_ _=>trivial,?_⟩;rw[Ax hn,hf.eval,hr,Oper.uponIn_value,hd];exact h _ n (hf.put (lb hN) _)
def zzx(d:Nat){w':bG}{f:FuncId}{args:Array bu}{R:Ending->bG->Prop}(hd:o.dst=bc d)(hN:cm (d+1) N=bf)(hw:wanted all ρ o=bf)(hn:ku o.op=bf)
  (hr:(bY (ev ρ) o).run P w=.ok (.enter f args) w') (hc:Calls P f args w' R)
  (h:∀e w'',R e w''->∃v,e=.returned v/\Ops P r N all Q rest (upd ρ d v) ds w''):Ops P r N all Q (o::rest) ρ ds w:=by
 intro a n hf;have hw':=(hf.wanted all o).trans hw;simp only[wpListIn,hw',if_true];refine⟨λ_ _=>trivial,?_⟩;rw[Ax hn,hf.eval,hr,Oper.uponIn_enter];refine⟨λhx=>by simp[Fw]at hx,(A8 r hc).mono λe w'' hR=>?_⟩;obtain⟨v,rfl,hk⟩:=h e w'' hR;rw[hd];exact hk _ n (hf.put (lb hN) _)
end
end
def zbq(ops:Array Oper)(listed:Array Bool):Prop :=
 ∀j o,listed.getD j bd=bf->ops[j]?=bc o->∀e∈o.after,Region.binds .any e=bf->listed.getD e.on bd=bf
def zbq.set{ops:Array Oper}{listed:Array Bool}{i:Nat}(h:zbq ops listed)(hr:i∈Region.ready .any ops listed):zbq ops (listed.setIfInBounds i bf):=by
 intro j o hj ho e he hb;refine getD_set_true ?_;by_cases hji:i=j
 ·subst hji
  obtain⟨_,o',ho',hall⟩:=mem_ready.1 hr;rw[ho]at ho';cases ho';exact hall e he hb
 ·rw[getD_set_ne bd hji]at hj
  exact h j o hj ho e he hb
section
variable{P:bm}{r:Option Nat}{n:Nat}{ops:Array Oper}{jl:Nat}{S T:bG->Prop}{Q:Exit->Act->bG->Prop}
end
section
variable{P:bm}{r:Option Nat}{N:Nat}{Q:zak}{ρ:yL}{ds:List cb}{w:bG}{all:List Oper}{jl:Nat}{S:bG->Prop}{K:yL->List cb->bG->Prop}
end
section
inductive Own where
 |blk (b:Nat) (cs:List bu) (t:bJ)
 |row (e k:Nat) (v:bu) (xs:List (List bu))
 |obj (b:Nat) (o:Obj)
 |objs (W:bG)
variable{W0 w w':bG}{L:List Own}{x x' y:Own}
variable{a b c d e f g i:Own}
end
def zlz:TypeDesc->Bool|.struct _=>bd|.array _ _=>bd|_=>bf
def Scal(P:bm)(t:bJ):Prop:=∃d i,P.underlying t=bc d/\zlz d=bf/\P.info? t=bc i/\i.size=1
def AggT(P:bm)(t:bJ)(k:Nat):Prop:=∃d i,P.underlying t=bc d/\zlz d=bd/\P.info? t=bc i/\i.size=k
section
variable{P:bm}{ρ:yL}{w:bG}{dst:Option Tmp}{ty:bJ}{pos:String}{aft:Array Edge}{gd:Option (Nat×Bool)}
def qD{t:bJ}(h:Scal P t):(isAgg t).run P w=.ok bd w:=by
 obtain⟨d,_,hd,hs,_⟩:=h;unfold isAgg;cases d<;>simp[run_underlying hd,zlz]at hs ⊢
def HX{t k:bJ}(h:AggT P t k):(isAgg t).run P w=.ok bf w:=by
 obtain⟨d,i,hd,hs,_⟩:=h;unfold isAgg;cases d<;>simp[run_underlying hd,zlz]at hs ⊢
def HY{t:bJ}{x:bE}{p:Addr}{v:bu}(hs:Scal P t)(ha:ev ρ x=.pointer (bc p))(hc:w.cell? p=bc v):
  (bY (ev ρ) ⟨dst,.load t x,ty,pos,aft,gd⟩).run P w=.ok (.value v) w:=by
 simp[bY,Instr.loadAt,ha,Instr.sureAddr,loadVar,qD hs,load,Sem.run,hc]
def Ay{t:bJ}{x:bE}{p:Addr}{k:Nat}(cs:List bu)(hs:AggT P t k)(ha:ev ρ x=.pointer (bc p))(hl:cs.length=k)
  (hc:∀j u,cs[j]?=bc u->w.cell? (p.add j)=bc u):
  (bY (ev ρ) ⟨dst,.load t x,ty,pos,aft,gd⟩).run P w=.ok (.value (.agg cs.toArray)) w:=by
 obtain⟨d,i,hd,_,hi,hk⟩:=id hs;subst hl;simp[bY,Instr.loadAt,ha,Instr.sureAddr,loadVar,HX hs,sizeOf,typeInfo,hi,hk,run_loadCells_list w p cs hc]
end
abbrev str(l:ak):bu:=.string ⟨l.toArray⟩
abbrev i64(n:Int):bu:=.int .i64 n
section
variable{P:bm}{ρ:yL}{w:bG}{dst:Option Tmp}{ty:bJ}{pos:String}{aft:Array Edge}{gd:Option (Nat×Bool)}
def zzy(P:bm)(s f off:Nat):Prop:=∃fs fld i,P.underlying s=bc (.struct fs)/\fs[f]?=bc fld/\fld.offset=off/\P.info? fld.type=bc i/\i.size≠0
def Wf{s f off:Nat}{x:bE}{p:Addr}(hf:zzy P s f off)(ha:ev ρ x=.pointer (bc p)):
  (bY (ev ρ) ⟨dst,.fieldAddr s x f,ty,pos,aft,gd⟩).run P w=.ok (.value (.pointer (bc (p.add off)))) w:=by
 obtain⟨fs,fld,i,h1,h2,h3,h4,h5⟩:=hf;subst h3;simp[bY,Instr.fieldAt,run_underlying h1,h2,ha,Instr.sureAddr,fieldPlace,sizeOf,typeInfo,h4,h5]
def zOx(b o n:Nat):(⟨b,o,bh⟩:Addr).add n=⟨b,o+n,bh⟩:=Addr.add_lit b o n
def YJ{s f off:Nat}{x:bE}{b o o':Nat}(hf:zzy P s f off)(ho:o+off=o')(ha:ev ρ x=.pointer (bc ⟨b,o,bh⟩)):
  (bY (ev ρ) ⟨dst,.fieldAddr s x f,ty,pos,aft,gd⟩).run P w=.ok (.value (.pointer (bc ⟨b,o',bh⟩))) w:=by
 subst ho;rw[<- zOx];exact Wf hf ha
def zqc{t:bJ}{x:bE}{s:ak}(ht:P.underlying t=bc .string)(ha:ev ρ x=str s):
  (bY (ev ρ) ⟨dst,.call ⟨.builtin .len,#[x],#[t]⟩,ty,pos,aft,gd⟩).run P w=.ok (.value (i64 s.length)) w:=by
 have hs:(⟨s.toArray⟩:ByteArray).size=s.length:=by show s.toArray.size=_;simp
 simp[bY,resolve,invoke,builtin,ha,Builtin.len_,run_underlying ht,goInt,hs]
def ze9{t e:bJ}{x:bE}{A:Option Addr}{n c:Nat}(ht:P.underlying t=bc (.slice e))(ha:ev ρ x=.slice A n c):
  (bY (ev ρ) ⟨dst,.call ⟨.builtin .len,#[x],#[t]⟩,ty,pos,aft,gd⟩).run P w=.ok (.value (i64 n)) w:=by
 simp[bY,resolve,invoke,builtin,ha,Builtin.len_,run_underlying ht,goInt]
def zia{t t':bJ}{x y:bE}{a b:Bool}(ht:P.underlying t=bc .bool)(ha:ev ρ x=.bool a)(hb:ev ρ y=.bool b):
  (bY (ev ρ) ⟨dst,.binOp .eql t x y t',ty,pos,aft,gd⟩).run P w=.ok (.value (.bool (a==b))) w:=by
 simp[bY,ha,hb,run_eql_bool _ _ _ _ ht,eqGuard]
def zib{t t':bJ}{x y:bE}{a b:Bool}(ht:P.underlying t=bc .bool)(ha:ev ρ x=.bool a)(hb:ev ρ y=.bool b):
  (bY (ev ρ) ⟨dst,.binOp .neq t x y t',ty,pos,aft,gd⟩).run P w=.ok (.value (.bool (!(a==b)))) w:=by
 simp[bY,ha,hb,run_neq_bool _ _ _ _ ht,eqGuard]
end
def zzz{a:Int}(h1:-9223372036854775808<=a)(h2:a<=9223372036854775807):IntKind.i64.wrap a=a:=by
 rw[IntKind.wrap_i64];omega
section
variable{P:bm}{r:Option Nat}{N:Nat}{Q:zak}{ρ:yL}{ds:List cb}{w W0:bG}{L:List Own}
variable{all rest:List Oper}{ty:bJ}{pos:String}{aft:Array Edge}{gd:Option (Nat×Bool)}
def ze (P : bm) (f : FuncId) : Prop := ∃ fn, P.funcs[f]? = bc fn /\ (fn.name == "runtime.NumGoroutine") = bd /\ fn.body.isNone = bd
def ztd{d:Option Tmp}{f:FuncId}{l:List bE}{ts:Array bJ}(vs:List bu)(hf:ze P f)(ha:l.map (ev ρ)=vs):
  (bY (ev ρ) ⟨d,.call ⟨.value (.func f),l.toArray,ts⟩,ty,pos,aft,gd⟩).run P w=.ok (.enter f vs.toArray) w:=by
 obtain⟨fn,h1,h2,h3⟩:=hf;subst ha
 have h2' : ¬ fn.name = "runtime.NumGoroutine" := by simpa using h2
 have h3':¬fn.body=bh:=by intro e;rw[e]at h3;cases h3
 simp[bY,resolve,ev,Deferred.ofValue,invoke,callFunc,program,Sem.run,h1,h2',h3']
def jL(l:List bu):yL:=λt=>l.getD t undef
section
variable{fn:Func}{φ:bu->bG->Prop}
end
end
end Go.Eng
namespace Go.EV
open Go Go.RowKit Go.Eng
structure GVal where
 rep:(Nat->Option (Nat×Nat))->bu->Prop
 mono:∀mk mk' x,(∀L loc,mk L=bc loc->mk' L=bc loc)->rep mk x->rep mk' x
 one:∀mk x,rep mk x->x.oneCell'=bf/\x.cells.toList=[x]
def zL1(sz n:Nat):GVal where
 rep:=λmk x=>∃loc,mk n=bc loc/\n<=loc.2/\loc.2<=maxLen/\((n≠0/\x=.slice (bc ⟨loc.1,0*sz,bh⟩) n (loc.2-0))∨(n=0/\loc.2=0/\x=.slice bh 0 0))
 mono:=λmk mk' x hm ⟨loc,h1,h2⟩=>⟨loc,hm n loc h1,h2⟩
 one:=λmk x h=>by
  obtain⟨loc,_,_,_,⟨_,rfl⟩|⟨_,_,rfl⟩⟩:=h<;>exact⟨rfl,rfl⟩
structure PVal where
 rep:(Addr->Option bu)->bu->Prop
 mono:∀Z Z' x,(∀a x,Z a=bc x->Z' a=bc x)->rep Z x->rep Z' x
 one:∀Z x,rep Z x->x.oneCell'=bf/\x.cells.toList=[x]
inductive V where
 |undef
 |no
 |int (k:IntKind) (n:Int)
 |bool (b:Bool)
 |str (l:ak)
 |nilp
 |ptr (k L off:Nat)
 |vp (cs:List V) (off:Nat)
 |nils
 |sl (sz k L o n:Nat)
 |vs (sz:Nat) (els:List (List V))
 |fn (f:Nat) (first caps:List V)
 |nilf
 |agg (cs:List V)
 |tup (xs:List V)
 |nilm
 |mp (k:Nat)
 |nili
 |ifc (t:Nat) (v:V)
 |gv (k:Nat) (R:GVal)
 |pv (R:PVal)
 deriving Inhabited
abbrev M:=Nat->Nat->Option (Nat×Nat)
abbrev ZM:=Addr->Option bu
mutual
def Rep(m:Option M)(Z:ZM):V->bu->Prop
 |.undef,_=>True
 |.no,x=>x=Go.undef
 |.int k n,x=>x=.int k n
 |.bool b,x=>x=.bool b
 |.str l,x=>x=.string ⟨l.toArray⟩
 |.nilp,x=>x=.pointer bh
 |.ptr k L off,x=>∃f loc,m=bc f/\f k L=bc loc/\x=.pointer (bc ⟨loc.1,off,bh⟩)
 |.vp cs off,x=>∃a:Addr,x=.pointer (bc (a.add off))/\AV Z a 0 cs
 |.nils,x=>x=.slice bh 0 0
 |.sl sz k L o n,x=>∃f loc,m=bc f/\f k L=bc loc/\o+n<=loc.2/\loc.2<=maxLen/\(x=.slice (bc ⟨loc.1,o*sz,bh⟩) n (loc.2-o)∨(loc.2=0/\∃A,x=.slice A 0 0)∨(0<o/\n=0/\∃A c,x=.slice A 0 c/\c<=maxLen))
 |.vs sz els,x=>∃A c,x=.slice A els.length c/\els.length<=c/\c<=maxLen/\(els=[]∨∃a,A=bc a/\wS Z a sz 0 els)
 |.fn f first caps,x=>∃l1 l2:List bu,x=.func (.func f) l1.toArray l2.toArray/\zT m Z first l1/\zT m Z caps l2
 |.nilf,x=>x=.nilFunc
 |.agg cs,x=>∃l:List bu,x=.agg l.toArray/\zT m Z cs l
 |.tup xs,x=>∃l:List bu,x=.tuple l.toArray/\zT m Z xs l
 |.nilm,x=>x=.map bh
 |.mp k,x=>∃f loc,m=bc f/\f k 0=bc loc/\x=.map (bc loc.1)
 |.nili,x=>x=.nilIface
 |.ifc t v,x=>∃y,x=.iface t y/\Rep m Z v y
 |.gv k R,x=>∃f,m=bc f/\R.rep (f k) x
 |.pv R,x=>R.rep Z x
def zT(m:Option M)(Z:ZM):List V->List bu->Prop
 |[],l=>l=[]
 |v::vs,l=>∃x xs,l=x::xs/\Rep m Z v x/\zT m Z vs xs
/-- The cells at a, from number j on, read asZ these. -/
def AV(Z:ZM)(a:Addr):Nat->List V->Prop
 |_,[]=>True
 |j,v::vs=>(∃x,Z (a.add j)=bc x/\Rep bh Z v x)/\AV Z a (j+1) vs
def wS(Z:ZM)(a:Addr)(sz:Nat):Nat->List (List V)->Prop
 |_,[]=>True
 |i,cs::r=>(cs.length=sz/\AV Z (a.add (i*sz)) 0 cs)/\wS Z a sz (i+1) r
end
mutual
/-- The names that a value holds. -/
def V.refs:V->List Nat
 |.ptr k _ _=>[k]
 |.sl _ k _ _ _=>[k]
 |.mp k=>[k]
 |.fn _ first caps=>wP first++wP caps
 |.agg cs=>wP cs
 |.tup xs=>wP xs
 |.ifc _ v=>v.refs
 |.gv k _=>[k]
 |_=>[]
def wP:List V->List Nat
 |[]=>[]
 |v::vs=>v.refs++wP vs
end
mutual
def V.ren(f:Nat->Nat):V->V
 |.ptr k L off=>.ptr (f k) L off
 |.sl sz k L o n=>.sl sz (f k) L o n
 |.mp k=>.mp (f k)
 |.fn g first caps=>.fn g (zfa f first) (zfa f caps)
 |.agg cs=>.agg (zfa f cs)
 |.tup xs=>.tup (zfa f xs)
 |.ifc t v=>.ifc t (v.ren f)
 |.gv k R=>.gv (f k) R
 |v=>v
def zfa(f:Nat->Nat):List V->List V
 |[]=>[]
 |v::vs=>v.ren f::zfa f vs
end
section
variable{m m':Option M}{Z Z':ZM}
mutual
def Rep.up'(hZ:∀a x,Z a=bc x->Z' a=bc x):
  ∀(v:V)(m m':Option M)(_:∀f,m=bc f->∃f',m'=bc f'/\∀k L loc,f k L=bc loc->f' k L=bc loc)(x:bu),Rep m Z v x->Rep m' Z' v x
 |.undef,m,m',hm,x,h=>trivial
 |.no,m,m',hm,x,h=>h
 |.int k n,m,m',hm,x,h=>h
 |.bool b,m,m',hm,x,h=>h
 |.str l,m,m',hm,x,h=>h
 |.nilp,m,m',hm,x,h=>h
 |.ptr k L off,m,m',hm,x,h=>by
  obtain⟨f,loc,h1,h2,h3⟩:=h;obtain⟨f',h4,h5⟩:=hm f h1;exact⟨f',loc,h4,h5 _ _ _ h2,h3⟩
 |.vp cs off,m,m',hm,x,h=>by
  obtain⟨a,h1,h2⟩:=h;exact⟨a,h1,AV.up' hZ a cs 0 h2⟩
 |.nils,m,m',hm,x,h=>h
 |.sl sz k L o n,m,m',hm,x,h=>by
  obtain⟨f,loc,h1,h2,h3⟩:=h;obtain⟨f',h4,h5⟩:=hm f h1;exact⟨f',loc,h4,h5 _ _ _ h2,h3⟩
 |.vs sz els,m,m',hm,x,h=>by
  obtain⟨A,c,h1,h2,h3,h4⟩:=h;refine⟨A,c,h1,h2,h3,?_⟩
  rcases h4 with h4|⟨a,h4,h5⟩
  ·exact .inl h4
  ·exact .inr ⟨a,h4,wS.up' hZ a sz els 0 h5⟩
 |.fn f first caps,m,m',hm,x,h=>by
  obtain⟨l1,l2,h1,h2,h3⟩:=h;exact⟨l1,l2,h1,zT.up' hZ first m m' hm l1 h2,zT.up' hZ caps m m' hm l2 h3⟩
 |.nilf,m,m',hm,x,h=>h
 |.agg cs,m,m',hm,x,h=>by
  obtain⟨l,h1,h2⟩:=h;exact⟨l,h1,zT.up' hZ cs m m' hm l h2⟩
 |.tup xs,m,m',hm,x,h=>by
  obtain⟨l,h1,h2⟩:=h;exact⟨l,h1,zT.up' hZ xs m m' hm l h2⟩
 |.nilm,m,m',hm,x,h=>h
 |.mp k,m,m',hm,x,h=>by
  obtain⟨f,loc,h1,h2,h3⟩:=h;obtain⟨f',h4,h5⟩:=hm f h1;exact⟨f',loc,h4,h5 _ _ _ h2,h3⟩
 |.nili,m,m',hm,x,h=>h
 |.ifc t v,m,m',hm,x,h=>by
  obtain⟨y,h1,h2⟩:=h;exact⟨y,h1,Rep.up' hZ v m m' hm y h2⟩
 |.gv k R,m,m',hm,x,h=>by
  obtain⟨f,h1,h2⟩:=h;obtain⟨f',h4,h5⟩:=hm f h1;exact⟨f',h4,R.mono _ _ _ (h5 k) h2⟩
 |.pv R,m,m',hm,x,h=>R.mono _ _ _ hZ h
def zT.up'(hZ:∀a x,Z a=bc x->Z' a=bc x):
  ∀(vs:List V)(m m':Option M)(_:∀f,m=bc f->∃f',m'=bc f'/\∀k L loc,f k L=bc loc->f' k L=bc loc)(l:List bu),zT m Z vs l->zT m' Z' vs l
 |[],m,m',hm,l,h=>h
 |v::vs,m,m',hm,l,h=>by
  obtain⟨x,xs,h1,h2,h3⟩:=h;exact⟨x,xs,h1,Rep.up' hZ v m m' hm x h2,zT.up' hZ vs m m' hm xs h3⟩
def AV.up'(hZ:∀a x,Z a=bc x->Z' a=bc x)(a:Addr):∀(vs:List V)(j:Nat),AV Z a j vs->AV Z' a j vs
 |[],_,_=>trivial
 |v::vs,j,h=>by
  obtain⟨⟨x,h1,h2⟩,h3⟩:=h;exact⟨⟨x,hZ _ _ h1,Rep.up' hZ v bh bh (λf hf=>by cases hf) x h2⟩,AV.up' hZ a vs (j+1) h3⟩
def wS.up'(hZ:∀a x,Z a=bc x->Z' a=bc x)(a:Addr)(sz:Nat):∀(els:List (List V))(i:Nat),wS Z a sz i els->wS Z' a sz i els
 |[],_,_=>trivial
 |cs::r,i,h=>by
  obtain⟨⟨h1,h2⟩,h3⟩:=h;exact⟨⟨h1,AV.up' hZ _ cs 0 h2⟩,wS.up' hZ a sz r (i+1) h3⟩
end
def Rep.up{v:V}{x:bu}(hZ:∀a x,Z a=bc x->Z' a=bc x)(hm:∀f,m=bc f->∃f',m'=bc f'/\∀k L loc,f k L=bc loc->f' k L=bc loc)(h:Rep m Z v x):Rep m' Z' v x:=Rep.up' hZ v m m' hm x h
def zT.up{v:List V}{x:List bu}(hZ:∀a x,Z a=bc x->Z' a=bc x)(hm:∀f,m=bc f->∃f',m'=bc f'/\∀k L loc,f k L=bc loc->f' k L=bc loc)(h:zT m Z v x):zT m' Z' v x:=zT.up' hZ v m m' hm x h
mutual
/-- The names are moved. -/
def Rep.ren{f f':M}(σ:Nat->Nat):∀(v:V)(x:bu),(∀k∈v.refs,∀L loc,f k L=bc loc->f' (σ k) L=bc loc)->Rep (bc f) Z v x->Rep (bc f') Z (v.ren σ) x
 |.undef,x,_,h=>trivial
 |.no,x,_,h=>h
 |.int k n,x,_,h=>h
 |.bool b,x,_,h=>h
 |.str l,x,_,h=>h
 |.nilp,x,_,h=>h
 |.ptr k L off,x,hm,h=>by
  obtain⟨g,loc,h1,h2,h3⟩:=h;cases h1;exact⟨f',loc,rfl,hm k (by simp[V.refs]) _ _ h2,h3⟩
 |.vp cs off,x,_,h=>h
 |.nils,x,_,h=>h
 |.sl sz k L o n,x,hm,h=>by
  obtain⟨g,loc,h1,h2,h3⟩:=h;cases h1;exact⟨f',loc,rfl,hm k (by simp[V.refs]) _ _ h2,h3⟩
 |.vs sz els,x,_,h=>h
 |.fn g first caps,x,hm,h=>by
  obtain⟨l1,l2,h1,h2,h3⟩:=h;exact⟨l1,l2,h1,zT.ren σ first l1 (λk hk=>hm k (by simp[V.refs,hk])) h2,zT.ren σ caps l2 (λk hk=>hm k (by simp[V.refs,hk])) h3⟩
 |.nilf,x,_,h=>h
 |.agg cs,x,hm,h=>by
  obtain⟨l,h1,h2⟩:=h;exact⟨l,h1,zT.ren σ cs l (λk hk=>hm k (by simpa[V.refs]using hk)) h2⟩
 |.tup xs,x,hm,h=>by
  obtain⟨l,h1,h2⟩:=h;exact⟨l,h1,zT.ren σ xs l (λk hk=>hm k (by simpa[V.refs]using hk)) h2⟩
 |.nilm,x,_,h=>h
 |.mp k,x,hm,h=>by
  obtain⟨g,loc,h1,h2,h3⟩:=h;cases h1;exact⟨f',loc,rfl,hm k (by simp[V.refs]) _ _ h2,h3⟩
 |.nili,x,_,h=>h
 |.ifc t v,x,hm,h=>by
  obtain⟨y,h1,h2⟩:=h;exact⟨y,h1,Rep.ren σ v y (λk hk=>hm k (by simpa[V.refs]using hk)) h2⟩
 |.gv k R,x,hm,h=>by
  obtain⟨g,h1,h2⟩:=h;cases h1;exact⟨f',rfl,R.mono _ _ _ (hm k (by simp[V.refs])) h2⟩
 |.pv R,x,hm,h=>h
def zT.ren{f f':M}(σ:Nat->Nat):∀(vs:List V)(l:List bu),(∀k∈wP vs,∀L loc,f k L=bc loc->f' (σ k) L=bc loc)->zT (bc f) Z vs l->zT (bc f') Z (zfa σ vs) l
 |[],l,_,h=>h
 |v::vs,l,hm,h=>by
  obtain⟨x,xs,h1,h2,h3⟩:=h;exact⟨x,xs,h1,Rep.ren σ v x (λk hk=>hm k (by simp[wP,hk])) h2,zT.ren σ vs xs (λk hk=>hm k (by simp[wP,hk])) h3⟩
end
mutual
def V.ren_id:∀v:V,v.ren id=v
 |.undef|.no|.int ..|.bool ..|.str ..|.nilp|.ptr ..|.vp ..|.nils|.sl ..|.vs ..|.nilf|.nilm|.mp ..|.nili|.gv ..|.pv ..=>rfl
 |.fn g first caps=>by simp only[V.ren,YK first,YK caps]
 |.agg cs=>by simp only[V.ren,YK cs]
 |.tup xs=>by simp only[V.ren,YK xs]
 |.ifc t v=>by simp only[V.ren,V.ren_id v]
def YK:∀vs:List V,zfa id vs=vs
 |[]=>rfl
 |v::vs=>by simp only[zfa,V.ren_id v,YK vs]
end
def Rep.swap{f f':M}{v:V}{x:bu}(hm:∀k∈v.refs,∀L loc,f k L=bc loc->f' k L=bc loc)(h:Rep (bc f) Z v x):Rep (bc f') Z v x:=by
 have:=Rep.ren (f:=f) (f':=f') id v x hm h
 rwa [V.ren_id]at this
def zT.swap{f f':M}{vs:List V}{l:List bu}(hm:∀k∈wP vs,∀L loc,f k L=bc loc->f' k L=bc loc)(h:zT (bc f) Z vs l):zT (bc f') Z vs l:=by
 have:=zT.ren (f:=f) (f':=f') id vs l hm h
 rwa [YK]at this
def Rep.none_some{v:V}{x:bu}(h:Rep bh Z v x):Rep m Z v x:=Rep.up (λ_ _ h=>h) (λf hf=>by cases hf) h
def zT.none_some{vs:List V}{l:List bu}(h:zT bh Z vs l):zT m Z vs l:=zT.up (λ_ _ h=>h) (λf hf=>by cases hf) h
def zT.length:∀{vs:List V}{l:List bu},zT m Z vs l->l.length=vs.length
 |[],l,h=>by cases h;rfl
 |v::vs,l,h=>by
  obtain⟨x,xs,rfl,_,h3⟩:=h;simp[zT.length h3]
def zT.get:∀{vs:List V}{l:List bu},zT m Z vs l->∀{i:Nat}{v:V},vs[i]?=bc v->∃x,l[i]?=bc x/\Rep m Z v x
 |[],l,_,i,v,hv=>by simp at hv
 |u::vs,l,h,i,v,hv=>by
  obtain⟨x,xs,rfl,h2,h3⟩:=h
  cases i with
  |zero=>simp at hv;subst hv;exact⟨x,rfl,h2⟩
  |succ i=>exact zT.get h3 (i:=i) (by simpa using hv)
def zT.of_get:∀{vs:List V}{l:List bu},l.length=vs.length->(∀(i:Nat)(v:V)(x:bu),vs[i]?=bc v->l[i]?=bc x->Rep m Z v x)->zT m Z vs l
 |[],l,hl,_=>cH (by simpa using hl)
 |v::vs,[],hl,_=>by simp at hl
 |v::vs,x::xs,hl,h=>⟨x,xs,rfl,h 0 v x rfl rfl,zT.of_get (by simpa using hl) (λi u y hu hy=>h (i+1) u y (by simpa using hu) (by simpa using hy))⟩
def zT.append:∀{vs us:List V}{l k:List bu},zT m Z vs l->zT m Z us k->zT m Z (vs++us) (l++k)
 |[],us,l,k,h,h'=>by cases h;exact h'
 |v::vs,us,l,k,h,h'=>by
  obtain⟨x,xs,rfl,h2,h3⟩:=h;exact⟨x,xs++k,rfl,h2,zT.append h3 h'⟩
def zT.take{vs:List V}{l:List bu}(n:Nat)(h:zT m Z vs l):zT m Z (vs.take n) (l.take n):=by
 refine zT.of_get (by simp[h.length]) λi v x hv hx=>?_
 rw[cJ]at hv hx;split at hv
 ·rename_i hlt
  rw[aP hlt]at hx;obtain⟨y,hy,hr⟩:=h.get hv;rw[hx]at hy;cases hy;exact hr
 ·cases hv
def zT.drop{vs:List V}{l:List bu}(n:Nat)(h:zT m Z vs l):zT m Z (vs.drop n) (l.drop n):=by
 refine zT.of_get (by simp[h.length]) λi v x hv hx=>?_
 rw[dw]at hv hx;obtain⟨y,hy,hr⟩:=h.get hv;rw[hx]at hy;cases hy;exact hr
def AV.get{a:Addr}:∀{vs:List V}{j:Nat},AV Z a j vs->∀{i:Nat}{v:V},vs[i]?=bc v->∃x,Z (a.add (j+i))=bc x/\Rep bh Z v x
 |[],j,_,i,v,hv=>by simp at hv
 |u::vs,j,h,i,v,hv=>by
  obtain⟨⟨x,h1,h2⟩,h3⟩:=h
  cases i with
  |zero=>simp at hv;subst hv;exact⟨x,h1,h2⟩
  |succ i =>
   obtain⟨y,h4,h5⟩:=AV.get h3 (i:=i) (v:=v) (by simpa using hv);exact⟨y,by rw[<- h4];congr 2;omega,h5⟩
def AV.of_get{a:Addr}:∀{vs:List V}{j:Nat},(∀(i:Nat)(v:V),vs[i]?=bc v->∃x,Z (a.add (j+i))=bc x/\Rep bh Z v x)->AV Z a j vs
 |[],j,_=>trivial
 |u::vs,j,h=>⟨h 0 u rfl,AV.of_get λi v hv=>by
   obtain⟨x,h1,h2⟩:=h (i+1) v (by simpa using hv)
   exact⟨x,by rw[<- h1];congr 2;omega,h2⟩⟩
def wS.get{a:Addr}{sz:Nat}:∀{els:List (List V)}{j:Nat},wS Z a sz j els->∀{i:Nat}{cs:List V},els[i]?=bc cs->cs.length=sz/\AV Z (a.add ((j+i)*sz)) 0 cs
 |[],j,_,i,v,hv=>by simp at hv
 |u::vs,j,h,i,v,hv=>by
  obtain⟨⟨h1,h2⟩,h3⟩:=h
  cases i with
  |zero=>simp at hv;subst hv;exact⟨h1,h2⟩
  |succ i =>
   have:=wS.get h3 (i:=i) (cs:=v) (by simpa using hv);rw[show j+1+i=j+(i+1) by omega]at this;exact this
def wS.of_get{a:Addr}{sz:Nat}:∀{els:List (List V)}{j:Nat},(∀(i:Nat)(cs:List V),els[i]?=bc cs->cs.length=sz/\AV Z (a.add ((j+i)*sz)) 0 cs)->wS Z a sz j els
 |[],j,_=>trivial
 |u::vs,j,h=>⟨h 0 u rfl,wS.of_get λi v hv=>by
   have:=h (i+1) v (by simpa using hv);rw[show j+(i+1)=j+1+i by omega]at this
   exact this⟩
end
mutual
/-- What holds no name needs no map. -/
def Rep.flat{f:M}{Z:ZM}:∀(v:V)(x:bu),v.refs=[]->Rep (bc f) Z v x->Rep bh Z v x
 |.undef,x,_,h=>trivial
 |.no,x,_,h=>h
 |.int k n,x,_,h=>h
 |.bool b,x,_,h=>h
 |.str l,x,_,h=>h
 |.nilp,x,_,h=>h
 |.ptr k L off,x,hr,h=>by cases hr
 |.vp cs off,x,_,h=>h
 |.nils,x,_,h=>h
 |.sl sz k L o n,x,hr,h=>by cases hr
 |.vs sz els,x,_,h=>h
 |.fn g first caps,x,hr,h=>by
  obtain⟨l1,l2,h1,h2,h3⟩:=h;obtain⟨hr1,hr2⟩:=eu.1 hr;exact⟨l1,l2,h1,zT.flat first l1 hr1 h2,zT.flat caps l2 hr2 h3⟩
 |.nilf,x,_,h=>h
 |.agg cs,x,hr,h=>by
  obtain⟨l,h1,h2⟩:=h;exact⟨l,h1,zT.flat cs l hr h2⟩
 |.tup xs,x,hr,h=>by
  obtain⟨l,h1,h2⟩:=h;exact⟨l,h1,zT.flat xs l hr h2⟩
 |.nilm,x,_,h=>h
 |.mp k,x,hr,h=>by cases hr
 |.nili,x,_,h=>h
 |.ifc t v,x,hr,h=>by
  obtain⟨y,h1,h2⟩:=h;exact⟨y,h1,Rep.flat v y hr h2⟩
 |.gv k R,x,hr,h=>by cases hr
 |.pv R,x,hr,h=>h
def zT.flat{f:M}{Z:ZM}:∀(vs:List V)(l:List bu),wP vs=[]->zT (bc f) Z vs l->zT bh Z vs l
 |[],l,_,h=>h
 |v::vs,l,hr,h=>by
  obtain⟨x,xs,h1,h2,h3⟩:=h;obtain⟨hr1,hr2⟩:=eu.1 hr;exact⟨x,xs,h1,Rep.flat v x hr1 h2,zT.flat vs xs hr2 h3⟩
end
def V.one:V->Bool
 |.undef|.no|.agg _|.tup _=>bd
 |_=>bf
def Rep.one{m:Option M}{Z:ZM}{v:V}{x:bu}(h:Rep m Z v x)(h1:v.one=bf):x.oneCell'=bf:=by
 cases v<;>simp only[V.one,cF]at h1<;>simp only[Rep]at h
 case int=>subst h;rfl
 case bool=>subst h;rfl
 case str=>subst h;rfl
 case nilp=>subst h;rfl
 case ptr=>obtain⟨_,_,_,_,rfl⟩:=h;rfl
 case vp=>obtain⟨_,rfl,_⟩:=h;rfl
 case nils=>subst h;rfl
 case sl=>obtain⟨_,_,_,_,_,_,rfl|⟨_,_,rfl⟩|⟨_,_,_,_,rfl,_⟩⟩:=h<;>rfl
 case vs=>obtain⟨_,_,rfl,_⟩:=h;rfl
 case fn=>obtain⟨_,_,rfl,_⟩:=h;rfl
 case nilf=>subst h;rfl
 case nilm=>subst h;rfl
 case mp=>obtain⟨_,_,_,_,rfl⟩:=h;rfl
 case nili=>subst h;rfl
 case ifc=>obtain⟨_,rfl,_⟩:=h;rfl
 case gv k R=>obtain⟨_,_,h⟩:=h;first|exact(R.one _ _ h).1|exact(R.one _ _ h).2
 case pv R=>first|exact(R.one _ _ h).1|exact(R.one _ _ h).2
def V.cells:V->List V
 |.agg cs=>cs
 |v=>[v]
def V.plain:V->Bool
 |.undef|.no=>bd
 |_=>bf
def Rep.cells{m:Option M}{Z:ZM}{v:V}{x:bu}(h:Rep m Z v x)(hp:v.plain=bf):zT m Z v.cells x.cells.toList:=by
 cases v<;>simp only[V.plain,cF]at hp<;>simp only[V.cells]
 case agg=>obtain⟨l,rfl,h2⟩:=h;simpa[Value.cells]using h2
 case tup=>obtain⟨l,rfl,h2⟩:=id h;exact⟨_,[],rfl,h,rfl⟩
 all_goals
  refine⟨x,[],?_,h,rfl⟩;simp only[Rep]at h
 case int=>subst h;rfl
 case bool=>subst h;rfl
 case str=>subst h;rfl
 case nilp=>subst h;rfl
 case ptr=>obtain⟨_,_,_,_,rfl⟩:=h;rfl
 case vp=>obtain⟨_,rfl,_⟩:=h;rfl
 case nils=>subst h;rfl
 case sl=>obtain⟨_,_,_,_,_,_,rfl|⟨_,_,rfl⟩|⟨_,_,_,_,rfl,_⟩⟩:=h<;>rfl
 case vs=>obtain⟨_,_,rfl,_⟩:=h;rfl
 case fn=>obtain⟨_,_,rfl,_⟩:=h;rfl
 case nilf=>subst h;rfl
 case nilm=>subst h;rfl
 case mp=>obtain⟨_,_,_,_,rfl⟩:=h;rfl
 case nili=>subst h;rfl
 case ifc=>obtain⟨_,rfl,_⟩:=h;rfl
 case gv k R=>obtain⟨_,_,h⟩:=h;first|exact(R.one _ _ h).1|exact(R.one _ _ h).2
 case pv R=>first|exact(R.one _ _ h).1|exact(R.one _ _ h).2
end Go.EV
namespace Go.Eng
open Go Go.RowKit
section
variable{P:bm}{r:Option Nat}{N:Nat}{Q:zak}{ρ:yL}{ds:List cb}{w W0:bG}{L:List Own}
variable{all rest:List Oper}{jl:Nat}{S:bG->Prop}{K:yL->List cb->bG->Prop}
variable{dst:Option Tmp}{ty:bJ}{pos:String}{aft:Array Edge}{gd:Option (Nat×Bool)}
section
variable{α:Type}{enc:α->List bu}{k:Nat}{v:bu}{l:List α}
end
def zz0 (P : bm) (f : FuncId) : Bool := match P.funcs[f]? with | some fn => !(fn.name == "runtime.NumGoroutine") && !fn.body.isNone | none => bd
def zj{f:FuncId}(h:zz0 P f=bf):ze P f:=by
 unfold zz0 at h;split at h
 ·rename_i fn hf
  simp only[bn,bQ]at h;exact⟨fn,hf,h.1,h.2⟩
 ·cases h
end
section
variable{P:bm}{r:Option Nat}{N:Nat}{Q:zak}{ρ:yL}{ds:List cb}{w W0:bG}{L:List Own}
variable{all rest:List Oper}{ty:bJ}{pos:String}{aft:Array Edge}{gd:Option (Nat×Bool)}
end
def Vf(W:bG)(l:Nat)(o:Obj):W.grownBy (W.putObj l o) (bc l) :=
 ⟨rfl,rfl,rfl,af,λ_ _ hk=>World.putObj_heap_other (λe=>hk (by rw[e]))⟩
def mark(D:Nat):cb:={ target:=.collected D,args:=#[] }
section
variable{P:bm}{N:Nat}{Q:zak}{ρ:yL}{ds:List cb}{w:bG}
end
def zz1:List cb->bG->bG->Prop
 |[],w,w'=>w'=w
 |d::ds,w,w'=>∃D,d=mark D/\w.heap[D]?=bc (.deferred (bc []))/\zz1 ds (w.putObj D (.deferred bh)) w'
section
variable{P:bm}{N:Nat}{Q:zak}{ρ:yL}{ds:List cb}{w W0:bG}{L:List Own}
def oH{fn:Func}{tmps:Array bu}{R:Ending->bG->Prop}{v:bu}:∀(ds:List cb)(w w':bG),zz1 ds w w'->(results fn tmps).run P w'=.ok v w'->R (.returned v) w'->LeavesInM Fence.wide 0 P fn tmps R ds .returning w
 |[],w,w',ht,hr,hR=>by
  subst ht;exact⟨v,hr,hR⟩
 |d::ds,w,w',⟨D,hd,hh,ht⟩,hr,hR=>by
  subst hd;exact⟨af,.inl ⟨D,_,rfl,run_takeDeferred hh,oH ds _ w' ht hr hR⟩⟩
variable{r:Option Nat}{all rest:List Oper}{ty:bJ}{pos:String}{aft:Array Edge}{gd:Option (Nat×Bool)}
end
end Go.Eng
namespace Go.EV
open Go Go.RowKit Go.Eng
def zUb:Go.Obj->Bool|.loop _|.deferred _=>bf|_=>bd
structure zZv where
 holds:(Nat->Option (Nat×Nat))->ZM->bG->Prop
 blks:(Nat->Option (Nat×Nat))->Nat->Prop
 some_:∀mk b,blks mk b->∃j c,mk j=bc (b,c)/\c≠0
 own:∀mk Z w b,holds mk Z w->blks mk b->∃ob,w.heap[b]?=bc ob/\zUb ob=bd
 keep:∀mk Z Z' w w',holds mk Z w->(∀a x,Z a=bc x->Z' a=bc x)->(∀b,blks mk b->w'.heap[b]?=w.heap[b]?/\∀a x,Z' a=bc x->a.block=b->Z a=bc x)->holds mk Z' w'
inductive Obj where
 |box (t:bJ) (cs:List V)
 |row (t:bJ) (sz fz:Nat) (els:List (List V))
 |map (l:List (V×V))
 |glob (g:Nat) (ob:Go.Obj) (cs:List V)
 |nest (t e sz:Nat) (pd:Option Nat) (ls:List (List (List V)))
 |gen (G:zZv)
 deriving Inhabited
def code(i n:Nat):Nat:=2 ^ i*(2*n+1)
def Obj.ver:Obj->Nat|.row _ _ _ els=>els.length|_=>0
abbrev ax:=List (Nat×Obj)
def keys(H:ax):List Nat:=H.map (·.1)
def u6(m:M)(p:Nat×Obj):Option Nat:=(m p.1 p.2.ver).bind λloc=>if loc.2=0 then bh else bc loc.1
def blkN(mk:Nat->Option (Nat×Nat))(ls:List (List (List V)))(b:Nat):Prop:=∃j c,mk j=bc (b,c)/\c≠0/\(j=0∨∃i l,ls[i]?=bc l/\j=code i l.length)
def blk(m:M)(p:Nat×Obj)(b:Nat):Prop:=match p.2 with
 |.nest _ _ _ _ ls=>blkN (m p.1) ls b
 |.gen G=>G.blks (m p.1) b
 |_=>u6 m p=bc b
def zl0{m m':M}{p:Nat×Obj}(h:m' p.1=m p.1):blk m' p=blk m p:=by
 obtain⟨k,o⟩:=p;simp only at h
 funext b
 cases o<;>simp only[blk,u6,h]
def zGz{m:M}{p:Nat×Obj}{b:Nat}(h:blk m p b):∃j c,m p.1 j=bc (b,c)/\c≠0:=by
 obtain⟨k,o⟩:=p
 have one:u6 m (k,o)=bc b->∃j c,m k j=bc (b,c)/\c≠0:=λh=>by
  unfold u6 at h;obtain⟨loc,e1,e2⟩:=Option.bind_eq_some_iff.1 h;split at e2
  ·cases e2
  ·rename_i hc;cases e2;exact⟨_,loc.2,e1,hc⟩
 cases o with
 |nest t e sz pd ls=>obtain⟨j,c,e1,e2,_⟩:=h;exact⟨j,c,e1,e2⟩
 |gen G=>exact G.some_ _ _ h
 |box t cs=>exact one h
 |row t sz fz els=>exact one h
 |map l=>exact one h
 |glob g ob cs=>exact one h
def ax.get:ax->Nat->Option Obj
 |[],_=>bh
 |(k,o)::r,j=>bif bk j k then bc o else ax.get r j
def zw0(Z:ZM):List (V×V)->List MapEntry->Prop
 |[],l=>l=[]
 |(k,v)::r,l=>∃e es,l=e::es/\Rep bh Z k e.key/\Rep bh Z v e.val/\zw0 Z r es
def zUc(mk:Nat->Option (Nat×Nat))(Z:ZM)(w:bG)(e sz i:Nat)(l:List (List V))(h:Option bu):Prop :=
 (l=[]/\h=bc (.slice bh 0 0)/\mk (code i 0)=bh)∨∃(b cap:Nat)(cur:Array bu)(fr:Nat×Nat),h=bc (.slice (bc ⟨b,0,bh⟩) l.length cap)/\mk (code i l.length)=bc (b,cap)/\0<l.length/\w.heap[b]?=bc (.cells cur e fr)/\fr.2=0/\l.length<=cap/\cap<=maxLen /\
  cur.size=cap*sz/\zT bh Z l.flatten (cur.toList.take (l.length*sz))/\(∀x∈l,x.length=sz)/\∀a x,Z a=bc x->a.block≠b
def uw(mk:Nat->Option (Nat×Nat))(Z:ZM)(w:bG)(t e sz:Nat)(pd:Option Nat)(ls:List (List (List V))):Prop :=
 (ls=[]/\pd=bc 0/\∀b c,mk 0=bc (b,c)->c≠0->∃cur u fr,w.heap[b]?=bc (.cells cur u fr))∨0<sz/\((ls=[]/\(∃b,mk 0=bc (b,0))/\∀L loc,mk L=bc loc->L=0)∨∃(b cap:Nat)(cur:Array bu)(fr:Nat×Nat),mk 0=bc (b,cap)/\0<cap/\w.heap[b]?=bc (.cells cur t fr)/\fr.2=0/\cur.size=cap/\ls.length=cap/\cap<=maxLen/\(∀a x,Z a=bc x->a.block≠b) /\
  (∀i l,ls[i]?=bc l->∃h,zUc mk Z w e sz i l (bc h)/\(pd≠bc i->cur[i]?=bc h)) /\
  (∀j1 j2 c1 c2 g,mk j1=bc (g,c1)->mk j2=bc (g,c2)->(j1=0∨∃i l,ls[i]?=bc l/\j1=code i l.length)->(j2=0∨∃i l,ls[i]?=bc l/\j2=code i l.length)->c1≠0->c2≠0->j1=j2) /\
  ∀L loc,mk L=bc loc->L=0∨∃i n l,ls[i]?=bc l/\n<=l.length/\L=code i n)
def Holds(m:M)(Z:ZM)(w:bG)(k:Nat):Obj->Prop
 |.box t cs=>∃(b:Nat)(cur:Array bu),m k 0=bc (b,1)/\w.heap[b]?=bc (.cells cur t (0,0))/\zT (bc m) Z cs cur.toList/\(∀a x,Z a=bc x->a.block≠b)/\(∀L loc,m k L=bc loc->L<=0)
 |.row t sz fz els=>(0<sz/\els=[]/\fz=0/\(∃b,m k 0=bc (b,0))/\(∀L loc,m k L=bc loc->L<=0))∨∃(b cap:Nat)(cur:Array bu)(fr:Nat×Nat),m k els.length=bc (b,cap)/\0<cap/\w.heap[b]?=bc (.cells cur t fr)/\els.length<=cap/\cap<=maxLen/\cur.size=cap*sz/\0<sz /\
   zT bh Z els.flatten (cur.toList.take (els.length*sz))/\(∀e∈els,e.length=sz)/\fr.2<=fz*sz/\fz<=els.length/\(∀a x,Z a=bc x->a.block=b->a.off<fz*sz)/\(∀L loc,m k L=bc loc->L<=els.length)/\(∀(off:Nat)(x:bu),off<fz*sz->cur[off]?=bc x->Z ⟨b,off,bh⟩=bc x)
 |.map l=>∃(b:Nat)(es:Array MapEntry)(clock:Nat),m k 0=bc (b,1)/\w.heap[b]?=bc (.map es clock)/\zw0 Z l es.toList/\(es.toList.Pairwise λx y=>x.born<y.born)/\(∀e∈es.toList,e.born<clock)/\(∀a x,Z a=bc x->a.block≠b)/\(∃L0,∀L loc,m k L=bc loc->L<=L0)
 |.glob g ob cs=>m k 0=bc (g,1)/\(w.heap[g]?=bc ob/\∃cur u fr,ob=.cells cur u fr/\zT bh Z cs cur.toList)/\∀L loc,m k L=bc loc->L<=0
 |.nest t e sz pd ls=>uw (m k) Z w t e sz pd ls
 |.gen G=>G.holds (m k) Z w
def uw.own{mk:Nat->Option (Nat×Nat)}{Z:ZM}{w:bG}{t e sz:Nat}{pd:Option Nat}{ls:List (List (List V))}(h:uw mk Z w t e sz pd ls){b:Nat}(hb:blkN mk ls b):∃cur u fr,w.heap[b]?=bc (.cells cur u fr):=by
 obtain⟨rfl,_,hd⟩|⟨_,⟨rfl,⟨b0,h1⟩,_⟩|⟨b0,cap,cur,fr,h1,h2,h3,_,_,_,_,_,h9,_⟩⟩:=h
 ·obtain⟨j,c,e1,e2,rfl|⟨i,l,e3,rfl⟩⟩:=hb
  ·exact hd b c e1 e2
  ·simp at e3
 ·obtain⟨j,c,e1,e2,rfl|⟨i,l,e3,rfl⟩⟩:=hb
  ·rw[h1]at e1;cases e1;exact aU rfl e2
  ·simp at e3
 ·obtain⟨j,c,e1,e2,rfl|⟨i,l,e3,rfl⟩⟩:=hb
  ·rw[h1]at e1;cases e1;exact⟨_,_,_,h3⟩
  ·obtain⟨hd,hI,_⟩:=h9 i l e3
   rcases hI with⟨rfl,_,e4⟩|⟨b',cap',cur',fr',_,g2,_,g4,_⟩
   ·rw[bF,e4]at e1;cases e1
   ·rw[g2]at e1;cases e1;exact⟨_,_,_,g4⟩
def uw.keep{mk:Nat->Option (Nat×Nat)}{Z Z':ZM}{w w':bG}{t e sz:Nat}{pd:Option Nat}{ls:List (List (List V))}(h:uw mk Z w t e sz pd ls)(hZ:∀a x,Z a=bc x->Z' a=bc x)
  (hw:∀b,blkN mk ls b->w'.heap[b]?=w.heap[b]?/\∀a x,Z' a=bc x->a.block=b->Z a=bc x):uw mk Z' w' t e sz pd ls:=by
 obtain⟨rfl,rfl,hd⟩|⟨h0,hh|⟨b0,cap,cur,fr,h1,h2,h3,h4,h5,h6,h7,h8,h9,h10,h11⟩⟩:=h
 ·refine .inl ⟨rfl,rfl,λb c e1 e2=>?_⟩
  obtain⟨cur,u,fr,h3⟩:=hd b c e1 e2;exact⟨cur,u,fr,(hw b ⟨0,c,e1,e2,.inl rfl⟩).1.trans h3⟩
 ·exact .inr ⟨h0,.inl hh⟩
 ·obtain⟨hw0,hz0⟩:=hw b0 ⟨0,cap,h1,ab,.inl rfl⟩
  refine .inr ⟨h0,.inr ⟨b0,cap,cur,fr,h1,h2,hw0.trans h3,h4,h5,h6,h7,λa x ha e=>h8 a x (hz0 a x ha e) e,λi l hl=>?_,h10,h11⟩⟩;obtain⟨hd,hI,hc⟩:=h9 i l hl;refine⟨hd,?_,hc⟩
  rcases hI with hh|⟨b',cap',cur',fr',g1,g2,g3,g4,g5,g6,g7,g8,g9,g10,g11⟩
  ·exact .inl hh
  ·obtain⟨hw1,hz1⟩:=hw b' ⟨_,cap',g2,ab,.inr ⟨i,l,hl,rfl⟩⟩
   exact .inr ⟨b',cap',cur',fr',g1,g2,g3,hw1.trans g4,g5,g6,g7,g8,g9.up hZ (λf e=>by cases e),g10,λa x ha e=>g11 a x (hz1 a x ha e) e⟩
structure wQ(m:M)(Z:ZM)(H:ax)(w:bG):Prop where
 frozen:∀a x,Z a=bc x->w.cell? a=bc x
 holds:∀p∈H,Holds m Z w p.1 p.2
 nodup:(keys H).Nodup
 disj:∀p∈H,∀q∈H,∀b,blk m p b->blk m q b->p.1=q.1
structure Step(m:M)(Z:ZM)(F:ax)(w:bG)(m':M)(Z':ZM)(F':ax)(w':bG):Prop where
 sim:wQ m' Z' F' w'
 mext:∀k L loc,m k L=bc loc->m' k L=bc loc
 zext:∀a x,Z a=bc x->Z' a=bc x
 os:w'.os=w.os
 tape:w'.tape=w.tape
 output:w'.output=w.output
 size:w.heap.size<=w'.heap.size
 frame:∀b,b<w.heap.size->(∀p∈F,¬blk m p b)->w'.heap[b]?=w.heap[b]?
 keep:∀k∈keys F,k∈keys F'
 newk:∀k,k ∉ keys F'->m' k=m k
 blks:∀p∈F',∀b,blk m' p b->w.heap.size<=b∨∃q∈F,blk m q b
 znew:∀a x,Z' a=bc x->Z a=bc x∨w.heap.size<=a.block∨∃q∈F,blk m q a.block
def Holds.blk{m:M}{Z:ZM}{w:bG}{k:Nat}{o:Obj}(h:Holds m Z w k o):∀b,EV.blk m (k,o) b->b<w.heap.size:=by
 intro b' hb'
 cases o with
 |box t cs =>
  obtain⟨b,cur,h1,h2,_⟩:=h;simp[EV.blk,EV.u6,Obj.ver,h1]at hb';subst hb';exact(bX.1 h2).1
 |row t sz fz els =>
  rcases h with⟨_,rfl,_,⟨b,h1⟩,_⟩|⟨b,cap,cur,fr,h1,h0,h2,_⟩
  ·simp[EV.blk,EV.u6,Obj.ver,h1]at hb'
  ·have:cap≠0:=ab
   simp[EV.blk,EV.u6,Obj.ver,h1,this]at hb';subst hb';exact(bX.1 h2).1
 |map l =>
  obtain⟨b,es,clock,h1,h2,_⟩:=h;simp[EV.blk,EV.u6,Obj.ver,h1]at hb';subst hb';exact(bX.1 h2).1
 |glob g ob cs =>
  obtain⟨h1,⟨h2,_⟩,_⟩:=h;simp[EV.blk,EV.u6,Obj.ver,h1]at hb';subst hb';exact(bX.1 h2).1
 |nest t e sz pd ls =>
  obtain⟨cur,u,fr,h2⟩:=uw.own h hb';exact(bX.1 h2).1
 |gen G =>
  obtain⟨ob,h2,_⟩:=G.own _ _ _ _ h hb';exact(bX.1 h2).1
def Holds.notLp{m:M}{Z:ZM}{w:bG}{k:Nat}{o:Obj}(h:Holds m Z w k o):∀b,EV.blk m (k,o) b->∃ob,w.heap[b]?=bc ob/\zUb ob=bd:=by
 intro b' hb'
 cases o with
 |box t cs =>
  obtain⟨b,cur,h1,h2,_⟩:=h;simp[EV.blk,EV.u6,Obj.ver,h1]at hb';subst hb';exact⟨_,h2,rfl⟩
 |row t sz fz els =>
  rcases h with⟨_,rfl,_,⟨b,h1⟩,_⟩|⟨b,cap,cur,fr,h1,h0,h2,_⟩
  ·simp[EV.blk,EV.u6,Obj.ver,h1]at hb'
  ·have:cap≠0:=ab
   simp[EV.blk,EV.u6,Obj.ver,h1,this]at hb';subst hb';exact⟨_,h2,rfl⟩
 |map l =>
  obtain⟨b,es,clock,h1,h2,_⟩:=h;simp[EV.blk,EV.u6,Obj.ver,h1]at hb';subst hb';exact⟨_,h2,rfl⟩
 |glob g ob cs =>
  obtain⟨h1,⟨h2,cur,u,fr,rfl,_⟩,_⟩:=h;simp[EV.blk,EV.u6,Obj.ver,h1]at hb';subst hb';exact⟨_,h2,rfl⟩
 |nest t e sz pd ls =>
  obtain⟨cur,u,fr,h2⟩:=uw.own h hb';exact⟨_,h2,rfl⟩
 |gen G=>exact G.own _ _ _ _ h hb'
def zw0.up{Z Z':ZM}(hZ:∀a x,Z a=bc x->Z' a=bc x):∀{l:List (V×V)}{es:List MapEntry},zw0 Z l es->zw0 Z' l es
 |[],_,h=>h
 |(k,v)::r,_,h=>by
  obtain⟨e,es,h1,h2,h3,h4⟩:=h;exact⟨e,es,h1,h2.up hZ (λf hf=>by cases hf),h3.up hZ (λf hf=>by cases hf),zw0.up hZ h4⟩
def Holds.keep{m m':M}{Z Z':ZM}{w w':bG}{k:Nat}{o:Obj}(h:Holds m Z w k o)(hm:∀k L loc,m k L=bc loc->m' k L=bc loc)(hk:m' k=m k)
  (hZ:∀a x,Z a=bc x->Z' a=bc x) (hw:∀b,EV.blk m (k,o) b->w'.heap[b]?=w.heap[b]?/\∀a x,Z' a=bc x->a.block=b->Z a=bc x):Holds m' Z' w' k o:=by
 have hf:∀f,bc m=bc f->∃f',bc m'=bc f'/\∀k L loc,f k L=bc loc->f' k L=bc loc:=λf e=>by cases e;exact⟨m',rfl,hm⟩
 cases o with
 |box t cs =>
  obtain⟨b',cur,h1,h2,h3,h4,h5⟩:=h;obtain⟨hw,hz⟩:=hw b' (by simp[EV.blk,EV.u6,Obj.ver,h1]);exact⟨b',cur,by rw[hk];exact h1,hw.trans h2,h3.up hZ hf,λa x ha e=>h4 a x (hz a x ha e) e,by rw[hk];exact h5⟩
 |row t sz fz els =>
  rcases h with⟨h0,h1,h2,⟨b,h3⟩,h4⟩|⟨b',cap,cur,fr,h1,h0,h2,h3,h4,h5,h6,h7,h8,h9,h10,h11,h12,h13⟩
  ·exact .inl ⟨h0,h1,h2,⟨b,by rw[hk];exact h3⟩,by rw[hk];exact h4⟩
  ·have:cap≠0:=ab
   obtain⟨hw,hz⟩:=hw b' (by simp[EV.blk,EV.u6,Obj.ver,h1,this]);exact .inr ⟨b',cap,cur,fr,by rw[hk];exact h1,h0,hw.trans h2,h3,h4,h5,h6,h7.up hZ (λf e=>by cases e),h8,h9,h10,λa x ha e=>h11 a x (hz a x ha e) e,by rw[hk];exact h12,λoff x ho hx=>hZ _ _ (h13 off x ho hx)⟩
 |map l =>
  obtain⟨b',es,clock,h1,h2,h3,h4,h5,h6,h7⟩:=h;obtain⟨hw,hz⟩:=hw b' (by simp[EV.blk,EV.u6,Obj.ver,h1]);exact⟨b',es,clock,by rw[hk];exact h1,hw.trans h2,h3.up hZ,h4,h5,λa x ha e=>h6 a x (hz a x ha e) e,by rw[hk];exact h7⟩
 |glob g ob cs =>
  obtain⟨h1,⟨h2,cur,u,fr,h5,h3⟩,h4⟩:=h;exact⟨by rw[hk];exact h1,⟨(hw g (by simp[EV.blk,EV.u6,Obj.ver,h1])).1.trans h2,cur,u,fr,h5,h3.up hZ (λf e=>by cases e)⟩,by rw[hk];exact h4⟩
 |nest t e sz pd ls =>
  show uw (m' k) Z' w' t e sz pd ls
  rw[hk];exact uw.keep h hZ hw
 |gen G =>
  show G.holds (m' k) Z' w'
  rw[hk];exact G.keep _ _ _ _ _ h hZ hw
section
variable{m m' m2:M}{Z Z' Z2:ZM}{F F' F2 G H:ax}{w w' w2:bG}
def ay{p:Nat×Obj}(h:p∈H):p.1∈keys H:=cw h
def zH:keys (F++G)=keys F++keys G:=by simp[keys]
def wQ.left(h:wQ m Z (F++G) w):wQ m Z F w :=
  ⟨h.frozen,λp hp=>h.holds p (bK _ hp),by have:=h.nodup;rw[zH]at this;exact(cu.1 this).1,
   λp hp q hq b=>h.disj p (bK _ hp) q (bK _ hq) b⟩
def wQ.perm(h:wQ m Z F w)(hp:F.Perm F'):wQ m Z F' w :=
 ⟨h.frozen,λp hq=>h.holds p (hp.mem_iff.2 hq),(hp.map _).nodup_iff.1 h.nodup,λp hq q hr=>h.disj p (hp.mem_iff.2 hq) q (hp.mem_iff.2 hr)⟩
def Vg(h:(keys (F++G)).Nodup){p q:Nat×Obj}(hp:p∈F)(hq:q∈G):p.1≠q.1:=by
 rw[zH]at h;exact(cu.1 h).2.2 _ (ay hp) _ (ay hq)
def Step.frame_rule(hs:wQ m Z (F++G) w)(h:Step m Z F w m' Z' F' w')(hap:∀p∈F',∀q∈G,p.1≠q.1):Step m Z (F++G) w m' Z' (F'++G) w':=by
 have hblkG:∀q∈G,∀b,blk m q b->b<w.heap.size/\∀p∈F,¬blk m p b:=λq hq b hb=>by
  exact⟨(hs.holds q (bL _ hq)).blk b hb,λp hp hpb=>Vg hs.nodup hp hq (hs.disj p (bK _ hp) q (bL _ hq) b hpb hb)⟩
 have hkG:∀q∈G,m' q.1=m q.1:=λq hq=>h.newk _ λhk=>by
  obtain⟨p,hp,e⟩:=bx.1 hk;exact hap p hp q hq e
 have hbG:∀q∈G,blk m' q=blk m q:=λq hq=>zl0 (hkG q hq)
 have hholdG:∀q∈G,Holds m' Z' w' q.1 q.2:=λq hq=>by
  refine(hs.holds q (bL _ hq)).keep h.mext (hkG q hq) h.zext λb h1=>?_
  have h3:=hblkG q hq b h1;refine⟨h.frame b h3.1 h3.2,λa x ha e=>?_⟩
  rcases h.znew a x ha with h'|h'|⟨p,hp,hpb⟩
  ·exact h'
  ·omega
  ·rw[e]at hpb;exact aU hpb (h3.2 p hp)
 refine⟨⟨h.sim.frozen,λp hp=>?_,?_,λp hp q hq b h1 h2=>?_⟩,h.mext,h.zext,h.os,h.tape,h.output,h.size,λb hb hn=>h.frame b hb λp hp=>hn p (bK _ hp),λk hk=>?_,λk hk=>?_,λp hp b hb=>?_,λa x ha=>?_⟩
 ·rcases bz.1 hp with hp|hp
  ·exact h.sim.holds p hp
  ·exact hholdG p hp
 ·rw[zH]
  refine cu.2 ⟨h.sim.nodup,?_,λa ha b hb=>?_⟩
  ·have:=hs.nodup
   rw[zH]at this;exact(cu.1 this).2.1
  ·obtain⟨p,hp,rfl⟩:=bx.1 ha
   obtain⟨q,hq,rfl⟩:=bx.1 hb;exact hap p hp q hq
 ·have key:∀p∈F',∀q∈G,blk m' p b->blk m' q b->False:=λp hp q hq hpb hqb=>by
   rw[hbG q hq]at hqb;have h3:=hblkG q hq b hqb
   rcases h.blks p hp b hpb with h'|⟨r,hr,hrb⟩
   ·omega
   ·exact h3.2 r hr hrb
  rcases bz.1 hp with hp|hp<;>rcases bz.1 hq with hq|hq
  ·exact h.sim.disj p hp q hq b h1 h2
  ·exact(key p hp q hq h1 h2).elim
  ·exact(key q hq p hp h2 h1).elim
  ·rw[hbG p hp]at h1
   rw[hbG q hq]at h2;exact hs.disj p (bL _ hp) q (bL _ hq) b h1 h2
 ·rw[zH,bz]at hk ⊢
  exact hk.imp (h.keep k) id
 ·rw[zH,bz,not_or]at hk
  exact h.newk k hk.1
 ·rcases bz.1 hp with hp|hp
  ·exact(h.blks p hp b hb).imp id λ⟨q,hq,e⟩=>⟨q,bK _ hq,e⟩
  ·exact .inr ⟨p,bL _ hp,by rw[<- hbG p hp];exact hb⟩
 ·exact(h.znew a x ha).imp id (Or.imp id λ⟨q,hq,e⟩=>⟨q,bK _ hq,e⟩)
def Step.trans(h:Step m Z F w m' Z' F' w')(k:Step m' Z' F' w' m2 Z2 F2 w2):Step m Z F w m2 Z2 F2 w2:=by
 refine⟨k.sim,λ_ _ _ e=>k.mext _ _ _ (h.mext _ _ _ e),λ_ _ e=>k.zext _ _ (h.zext _ _ e),k.os.trans h.os,k.tape.trans h.tape,k.output.trans h.output,cW h.size k.size,λb hb hn=>?_,
  λa ha=>k.keep a (h.keep a ha),λa ha=>(k.newk a ha).trans (h.newk a λh'=>ha (k.keep a h')),λp hp b hb=>?_,λa x ha=>?_⟩
 ·rw[k.frame b (by have:=h.size;omega) λp hp e=>?_,h.frame b hb hn]
  rcases h.blks p hp b e with h'|⟨q,hq,e'⟩
  ·omega
  ·exact hn q hq e'
 ·rcases k.blks p hp b hb with h'|⟨q,hq,e'⟩
  ·exact .inl (by have:=h.size;omega)
  ·exact h.blks q hq b e'
 ·rcases k.znew a x ha with h'|h'|⟨q,hq,e'⟩
  ·exact h.znew a x h'
  ·exact .inr (.inl (by have:=h.size;omega))
  ·exact .inr (h.blks q hq _ e')
def Step.refl(h:wQ m Z F w):Step m Z F w m Z F w :=
 ⟨h,λ_ _ _ e=>e,λ_ _ e=>e,rfl,rfl,rfl,aq,λ_ _ _=>rfl,λ_ h=>h,λ_ _=>rfl,λp hp b hb=>.inr ⟨p,hp,hb⟩,λ_ _ h=>.inl h⟩
def Step.permL(h:Step m Z F w m' Z' F' w')(hp:F.Perm F2):Step m Z F2 w m' Z' F' w' :=
  ⟨h.sim,h.mext,h.zext,h.os,h.tape,h.output,h.size,λb hb hn=>h.frame b hb λp hq=>hn p (hp.mem_iff.1 hq),λk hk=>h.keep k ((hp.map _).mem_iff.2 hk),h.newk,
   λp hq b hb=>(h.blks p hq b hb).imp id λ⟨q,hr,e⟩=>⟨q,hp.mem_iff.1 hr,e⟩,λa x ha=>(h.znew a x ha).imp id (Or.imp id λ⟨q,hr,e⟩=>⟨q,hp.mem_iff.1 hr,e⟩)⟩
def Step.permR(h:Step m Z F w m' Z' F' w')(hp:F'.Perm F2):Step m Z F w m' Z' F2 w' :=
  ⟨h.sim.perm hp,h.mext,h.zext,h.os,h.tape,h.output,h.size,h.frame,λk hk=>(hp.map _).mem_iff.1 (h.keep k hk),λk hk=>h.newk k λh'=>hk ((hp.map _).mem_iff.1 h'),
   λp hq=>h.blks p (hp.mem_iff.2 hq),h.znew⟩
def Step.same(h:wQ m Z F w)(hh:w'.heap=w.heap)(h1:w'.os=w.os)(h2:w'.tape=w.tape)(h3:w'.output=w.output):Step m Z F w m Z F w':=by
 refine⟨⟨λa x ha=>?_,λp hp=>?_,h.nodup,h.disj⟩,λ_ _ _ e=>e,λ_ _ e=>e,h1,h2,h3,by rw[hh];exact dk _,λ_ _ _=>by rw[hh],λ_ h=>h,λ_ _=>rfl,λp hp b hb=>.inr ⟨p,hp,hb⟩,λ_ _ h=>.inl h⟩
 ·have:=h.frozen a x ha
  simpa only[World.cell?,hh]using this
 ·exact(h.holds p hp).keep (λ_ _ _ e=>e) rfl (λ_ _ e=>e) λb _=>⟨by rw[hh],λ_ _ e _=>e⟩
end
abbrev Env:=List (Nat×V)
def Env.get:Env->Nat->V
 |[],_=>.undef
 |(d,v)::r,t=>bif bk t d then v else Env.get r t
def zlq(m:M)(Z:ZM)(ρ:Env)(ρr:yL):Prop:=∀t,Rep (bc m) Z (ρ.get t) (ρr t)
structure Ctx(K0:List Nat) where
 base:List cb
 W0:bG
 m0:M
 Z0:ZM
 F0:ax
 hk:keys F0=K0
 dom0:∀k,k ∉ K0->∀L,m0 k L=bh
structure Vu{K0:List Nat}(c:Ctx K0)(m:M)(Z:ZM)(H:ax)(w:bG):Prop where
 step:Step c.m0 c.Z0 c.F0 c.W0 m Z H w
 dom:∀k,k ∉ keys H->∀L,m k L=bh
def QB{K0:List Nat}(c:Ctx K0)(ρ:Env)(H:ax)(ρr:yL)(w:bG):Prop:=∃m Z,Vu c m Z H w/\zlq m Z ρ ρr
def Step.lp{m m':M}{Z Z':ZM}{F F':ax}{w w':bG}(hs:wQ m Z F w)(h:Step m Z F w m' Z' F' w'){b:Nat}{ob:Go.Obj}(hb:w.heap[b]?=bc ob)(hl:zUb ob=bf):w'.heap[b]?=bc ob:=by
 rw[h.frame b (bX.1 hb).1 λp hp e=>?_,hb];obtain⟨ob',h1,h2⟩:=(hs.holds p hp).notLp b e;rw[hb]at h1;cases h1;rw[hl]at h2;cases h2
def xw{K0:List Nat}(c:Ctx K0)(ds:List cb)(w:bG):Prop:=∃Ds:List (Nat⊕cb),ds=Ds.map (Sum.elim Eng.mark id)/\Ds.filterMap fU=c.base/\(Ds.filterMap fy).Nodup/\(∀D∈Ds.filterMap fy,w.heap[D]?=bc (.deferred (bc []))/\c.W0.heap.size<=D)/\∀d∈c.base,∀D,d.target≠.collected D
def xw.nil{K0:List Nat}{c:Ctx K0}{w:bG}(hb:c.base=[]):xw c [] w:=⟨[],rfl,hb.symm,dv,λ_ h=>(by cases h),λd hd=>(by rw[hb]at hd;cases hd)⟩
def xw.marks{K0:List Nat}{c:Ctx K0}{ds:List cb}{w:bG}(h:xw c ds w)(hb:c.base=[]):∃Ds:List Nat,ds=Ds.map Eng.mark/\Ds.Nodup/\∀D∈Ds,w.heap[D]?=bc (.deferred (bc []))/\c.W0.heap.size<=D:=by
 obtain⟨l,h1,h2,h3,h4,_⟩:=h;rw[hb]at h2;refine⟨l.filterMap fy,?_,h3,h4⟩;subst h1;clear h3 h4 hb
 induction l with
 |nil=>rfl
 |cons x l ih =>
  cases x with
  |inl D=>simp only[gN,fU,fy,mk9,Sum.elim_inl]at h2 ⊢;rw[ih h2]
  |inr d=>simp[gN]at h2
def xw.step{K0:List Nat}{c:Ctx K0}{ds:List cb}{m m':M}{Z Z':ZM}{F F':ax}{w w':bG}(h:xw c ds w)(hs:wQ m Z F w)(st:Step m Z F w m' Z' F' w'):xw c ds w':=by
 obtain⟨Ds,h1,hb,h2,h3,h4⟩:=h;exact⟨Ds,h1,hb,h2,λD hD=>⟨st.lp hs (h3 D hD).1 rfl,(h3 D hD).2⟩,h4⟩
def xw.same{K0:List Nat}{c:Ctx K0}{ds:List cb}{w w':bG}(h:xw c ds w)(hh:w'.heap=w.heap):xw c ds w':=by
 obtain⟨Ds,h1,hb,h2,h3,h4⟩:=h;exact⟨Ds,h1,hb,h2,λD hD=>by rw[hh];exact h3 D hD,h4⟩
def Vu.lps{K0:List Nat}{c:Ctx K0}{m:M}{Z:ZM}{H:ax}{w w':bG}{row:Option Nat}(S:Vu c m Z H w)(hg:w.grownBy w' row)(hr:∀b,row=bc b->c.W0.heap.size<=b/\∃o,w.heap[b]?=bc o/\zUb o=bf):Vu c m Z H w':=by
 have hs:=S.step
 have hblk:∀p∈H,∀b,blk m p b->w'.heap[b]?=w.heap[b]?:=λp hp b hb=>by
  obtain⟨ob,h1,h2⟩:=(hs.sim.holds p hp).notLp b hb
  refine hg.block b (bX.1 h1).1 λe=>?_
  obtain⟨_,o,h3,h4⟩:=hr b e.symm;rw[h1]at h3;cases h3;rw[h4]at h2;cases h2
 have hz:∀a x,Z a=bc x->w'.cell? a=w.cell? a:=λa x ha=>by
  have h1:=hs.sim.frozen a x ha;have h2:=World.block_lt_of_cell? w a h1
  have:w'.heap[a.block]?=w.heap[a.block]?:=by
   refine hg.block _ h2 λe=>?_
   obtain⟨_,o,h3,h4⟩:=hr _ e.symm;simp only[World.cell?,h3]at h1;cases o<;>simp[zUb]at h4<;>cases h1
  simp only[World.cell?,this]
 refine⟨⟨⟨λa x ha=>(hz a x ha).trans (hs.sim.frozen a x ha),λp hp=>(hs.sim.holds p hp).keep (λ_ _ _ e=>e) rfl (λ_ _ e=>e) λb hb=>⟨hblk p hp b hb,λ_ _ e _=>e⟩,hs.sim.nodup,hs.sim.disj⟩,hs.mext,hs.zext,hg.os.trans hs.os,hg.tape.trans hs.tape,hg.output.trans hs.output,cW hs.size hg.size,λb hb hn=>?_,hs.keep,hs.newk,hs.blks,hs.znew⟩,S.dom⟩;rw[hg.block b (ep hb hs.size) λe=>by have:=(hr b e.symm).1;omega];exact hs.frame b hb hn
abbrev wj:=Exit->Env->ax->List cb->Prop
def zl1{K0:List Nat}(c:Ctx K0)(Q:wj)(ds:List cb):zak:=λe ρr ds1 w=>∃ρ H,QB c ρ H ρr w/\xw c ds1 w/\Q e ρ H ds
def WpV{K0:List Nat}(c:Ctx K0)(P:bm)(r:Option Nat)(N:Nat)(code:Code)(Q:wj)(ρ:Env)(H:ax)(ds:List cb):Prop :=
 ∀ρr w ds1,QB c ρ H ρr w->xw c ds1 w->Wp P r N code (zl1 c Q ds) ρr ds1 w
def zz2(K:Env->ax->List cb->Prop)(Q:wj):wj
 |.normal,ρ,H,ds=>K ρ H ds
 |e,ρ,H,ds=>Q e ρ H ds
def zTm(id:Nat)(Q:wj):wj
 |.exit i,ρ,H,ds=>if i=id then Q .normal ρ H ds else Q (.exit i) ρ H ds
 |e,ρ,H,ds=>Q e ρ H ds
def zlq.put{m:M}{Z:ZM}{ρ:Env}{ρr:yL}{v:V}{x:bu}(h:zlq m Z ρ ρr)(d:Nat)(hv:Rep (bc m) Z v x):zlq m Z ((d,v)::ρ) (upd ρr d x):=by
 intro t
 show Rep (bc m) Z (bif bk t d then v else ρ.get t) (bif bk t d then x else ρr t)
 cases bk t d with
 |true=>exact hv
 |false=>exact h t
def zlq.up{m m':M}{Z Z':ZM}{ρ:Env}{ρr:yL}(h:zlq m Z ρ ρr)(hZ:∀a x,Z a=bc x->Z' a=bc x)(hm:∀k L loc,m k L=bc loc->m' k L=bc loc):zlq m' Z' ρ ρr :=
 λt=>(h t).up hZ λf e=>by cases e;exact⟨m',rfl,hm⟩
section
variable{K0:List Nat}{c:Ctx K0}{P:bm}{r:Option Nat}{N:Nat}{Q:wj}{ρ:Env}{H:ax}{ds:List cb}
def zUd(h:Q .normal ρ H ds):WpV c P r N .skip Q ρ H ds:=λ_ _ _ S hM=>zLz ⟨ρ,H,S,hM,h⟩
def zUe{id:Nat}(h:Q (.exit id) ρ H ds):WpV c P r N (.exit id) Q ρ H ds:=λ_ _ _ S hM=>zUa ⟨ρ,H,S,hM,h⟩
def v_ret(h:Q .ret ρ H ds):WpV c P r N .ret Q ρ H ds:=λ_ _ _ S hM=>w_ret ⟨ρ,H,S,hM,h⟩
def v_seq{x y:Code}(h:WpV c P r N x (zz2 (λρ H ds=>WpV c P r N y Q ρ H ds) Q) ρ H ds):WpV c P r N (.seq x y) Q ρ H ds :=
 λρr w ds1 S hM=>zwz (zly (h ρr w ds1 S hM) λe ρr' ds' w' ⟨ρ',H',S',hM',hQ⟩=>by
  cases e with
  |normal=>exact hQ ρr' w' ds' S' hM'
  |exit id=>exact⟨ρ',H',S',hM',hQ⟩
  |goto l=>exact⟨ρ',H',S',hM',hQ⟩
  |ret=>exact⟨ρ',H',S',hM',hQ⟩
  |panic ch=>exact⟨ρ',H',S',hM',hQ⟩
  |outgrown=>exact⟨ρ',H',S',hM',hQ⟩)
def zOy{id:Nat}{x:Code}(h:WpV c P r N x (zTm id Q) ρ H ds):WpV c P r N (.block id x) Q ρ H ds :=
 λρr w ds1 S hM=>zOu (zly (h ρr w ds1 S hM) λe ρr' ds' w' ⟨ρ',H',S',hM',hQ⟩=>by
  cases e with
  |exit i =>
   simp only[zTm]at hQ;simp only[zOt];split
   ·rename_i he;rw[aP he]at hQ;exact⟨ρ',H',S',hM',hQ⟩
   ·rename_i he;rw[aO he]at hQ;exact⟨ρ',H',S',hM',hQ⟩
  |normal=>exact⟨ρ',H',S',hM',hQ⟩
  |goto l=>exact⟨ρ',H',S',hM',hQ⟩
  |ret=>exact⟨ρ',H',S',hM',hQ⟩
  |panic ch=>exact⟨ρ',H',S',hM',hQ⟩
  |outgrown=>exact⟨ρ',H',S',hM',hQ⟩)
def zz3{K:Env->ax->List cb->Prop}(h:K ρ H ds):zz2 K Q .normal ρ H ds:=h
def zz4{K:Env->ax->List cb->Prop}(h:Q .ret ρ H ds):zz2 K Q .ret ρ H ds:=h
def zw1{id:Nat}{K:Env->ax->List cb->Prop}(h:Q (.exit id) ρ H ds):zz2 K Q (.exit id) ρ H ds:=h
def zG0{id:Nat}(h:Q .normal ρ H ds):zTm id Q .normal ρ H ds:=h
def zG1{id:Nat}(h:Q .ret ρ H ds):zTm id Q .ret ρ H ds:=h
def zz5{id:Nat}(h:Q .normal ρ H ds):zTm id Q (.exit id) ρ H ds:=by
 show(if id=id then Q .normal ρ H ds else Q (.exit id) ρ H ds)
 rw[aP rfl];exact h
def zbr{id i:Nat}(hne:bk i id=bd)(h:Q (.exit i) ρ H ds):zTm id Q (.exit i) ρ H ds:=by
 show(if i=id then Q .normal ρ H ds else Q (.exit i) ρ H ds)
 rw[aO (λe=>by subst e;rw[cD]at hne;cases hne)];exact h
end
def zte:bu->V
 |.int k n=>.int k n
 |.bool b=>.bool b
 |.string s=>.str s.data.toList
 |.pointer bh=>.nilp
 |.slice bh 0 0=>.nils
 |.nilFunc=>.nilf
 |.map bh=>.nilm
 |.nilIface=>.nili
 |.func (.func f) a b=>if a.size=0/\b.size=0 then .fn f [] []else .undef
 |_=>.undef
def ofC:bu->V
 |.agg cs=>.agg (cs.toList.map zte)
 |v=>zte v
def evV(ρ:Env):bE->V
 |.tmp t=>ρ.get t
 |.const v=>ofC v
 |.global _=>.undef
 |.func f=>.fn f [] []
def ztf{m:Option M}{Z:ZM}(v:bu):Rep m Z (zte v) v:=by
 unfold zte;split
 ·rfl
 ·rfl
 ·show _=_;simp
 ·rfl
 ·rfl
 ·rfl
 ·rfl
 ·rfl
 ·split
  ·rename_i h
   exact⟨[],[],by rw[fc h.1,fc h.2],rfl,rfl⟩
  ·trivial
 ·trivial
def A9{m:Option M}{Z:ZM}:∀l:List bu,zT m Z (l.map zte) l
 |[]=>rfl
 |v::l=>⟨v,l,rfl,ztf v,A9 l⟩
def zz6{m:Option M}{Z:ZM}(v:bu):Rep m Z (ofC v) v:=by
 unfold ofC;split
 ·exact⟨_,af,A9 _⟩
 ·exact ztf _
def zlq.ev{m:M}{Z:ZM}{ρ:Env}{ρr:yL}(h:zlq m Z ρ ρr)(x:bE):Rep (bc m) Z (evV ρ x) (ev ρr x):=by
 cases x with
 |tmp t=>exact h t
 |const v=>exact zz6 v
 |global g=>trivial
 |func f=>exact⟨[],[],rfl,rfl,rfl⟩
section
variable{K0:List Nat}{c:Ctx K0}{P:bm}{r:Option Nat}{N:Nat}{Q:wj}{ρ:Env}{H:ax}{ds:List cb}
def zz7{x:bE}{a b:Code}(t:Bool)(hc:evV ρ x=.bool t)(h1:t=bf->WpV c P r N a Q ρ H ds)(h2:t=bd->WpV c P r N b Q ρ H ds):WpV c P r N (.cond x a b) Q ρ H ds :=
 λρr w ds1 S hM=>zL0 t (by obtain⟨m,Z,_,hR⟩:=S;have:=hR.ev x;rw[hc]at this;exact this) (λe=>h1 e ρr w ds1 S hM) (λe=>h2 e ρr w ds1 S hM)
def zUf{G:Type}{x:Code}(env:G->Env)(hp:G->ax)(Inv:G->Prop)(μ:G->Nat)(g0:G)(hi:Inv g0)
  (hround:∀g,Inv g->WpV c P r N x (zz2 (λρ' H' ds'=>ds'=ds/\∃g',ρ'=env g'/\H'=hp g'/\Inv g'/\μ g'<μ g) Q) (env g) (hp g) ds):WpV c P r N (.loop x) Q (env g0) (hp g0) ds:=by
 intro ρr w ds1 S hM a n hf
 let I:Act->bG->Nat->Prop:=λa w m=>∃g ρ' ds2,Frm N ds2 a ρ'/\QB c (env g) (hp g) ρ' w/\xw c ds2 w/\Inv g/\μ g=m
 have hex:∀a w,(∃m,I a w m)->∃m,I a w m/\∀k,k<m->¬I a w k:=λa w ⟨m,hm⟩=>least _ m hm
 refine wpIn_loop (λa w=>∃m,I a w m) (λa w=>(Classical.epsilon λm=>I a w m/\∀k,k<m->¬I a w k)) ⟨_,g0,ρr,ds1,hf,S,hM,hi,rfl⟩ ?_;intro a w hI;obtain⟨⟨g,ρ',ds2,hf',hS,hM2,hinv,hm⟩,hmin⟩:=Classical.epsilon_spec (hex a w hI)
 refine wpIn_mono (hround g hinv ρ' w ds2 hS hM2 a n hf') λe a' w' hq=>?_
 obtain⟨ρ2,ds2,hf2,ρv,Hv,S2,hM3,hq⟩:=hq
 cases e with
 |normal =>
  obtain⟨_,g',rfl,rfl,hinv',hlt⟩:=hq
  have hI':I a' w' (μ g'):=⟨g',ρ2,ds2,hf2,S2,hM3,hinv',rfl⟩
  refine⟨⟨_,hI'⟩,?_⟩;obtain⟨_,hmin'⟩:=Classical.epsilon_spec (hex a' w' ⟨_,hI'⟩);refine Nat.lt_of_le_of_lt ?_ (hm▸hlt)
  exact Nat.le_of_not_lt λhl=>hmin' _ hl hI'
 |exit id=>exact⟨ρ2,ds2,hf2,ρv,Hv,S2,hM3,hq⟩
 |goto l=>exact⟨ρ2,ds2,hf2,ρv,Hv,S2,hM3,hq⟩
 |ret=>exact⟨ρ2,ds2,hf2,ρv,Hv,S2,hM3,hq⟩
 |panic ch=>exact⟨ρ2,ds2,hf2,ρv,Hv,S2,hM3,hq⟩
 |outgrown=>exact⟨ρ2,ds2,hf2,ρv,Hv,S2,hM3,hq⟩
end
def ux(ks:List Nat)(H:ax):Option ax :=
 match ks with
 |[]=>bc []
 |k::r=>match H.get k,ux r H with
  |some o,bc l=>bc ((k,o)::l)
  |_,_=>bh
def Obj.refs:Obj->List Nat
 |.box _ cs=>wP cs
 |_=>[]
def yt:List Nat->Bool
 |[]=>bf
 |k::r=>!(r.contains k)&&yt r
def yz:∀{l:List Nat},yt l=bf->l.Nodup
 |[],_=>dv
 |k::r,h=>by
  simp only[yt,bn,bQ,cl,aX]at h;exact cG.2 ⟨h.1,yz h.2⟩
def ax.get_mem:∀{H:ax}{k:Nat}{o:Obj},H.get k=bc o->(k,o)∈H
 |[],_,_,h=>by cases h
 |(k',o')::r,k,o,h=>by
  simp only[ax.get]at h
  cases hb:bk k k' with
  |true =>
   rw[hb]at h;have:=eb hb;subst this;simp only[ctQ,Option.some.injEq]at h;subst h;exact al
  |false =>
   rw[hb]at h;exact mcQ _ (ax.get_mem h)
def xn:∀{ks:List Nat}{H H':ax},ux ks H=bc H'->keys H'=ks/\∀p∈H',p∈H
 |[],_,_,h=>by cases h;exact⟨rfl,λ_ h=>by cases h⟩
 |k::r,H,H',h=>by
  simp only[ux]at h;split at h
  ·rename_i o l h1 h2
   cases h;obtain⟨h3,h4⟩:=xn h2;refine⟨by simp[keys]at h3 ⊢;exact h3,λp hp=>?_⟩
   rcases bp.1 hp with rfl|hp
   ·exact ax.get_mem h1
   ·exact h4 p hp
  ·cases h
def Vu.cut{K0:List Nat}{c:Ctx K0}{m:M}{Z:ZM}{H H':ax}{w:bG}(ks:List Nat)(hH:ux ks H=bc H')(hnd:yt ks=bf)(hK:K0.all ks.contains=bf)(hO:(H'.all λp=>p.2.refs.all ks.contains)=bf)(S:Vu c m Z H w):
  ∃m',Vu c m' Z H' w/\∀v x,v.refs.all ks.contains=bf->Rep (bc m) Z v x->Rep (bc m') Z v x:=by
 obtain⟨hks,hsub⟩:=xn hH
 let m':M:=λk L=>if k∈ks then m k L else bh
 have hin:∀k∈ks,m' k=m k:=λk hk=>by funext L;simp[m',hk]
 have hb:∀p∈H',blk m' p=blk m p:=λp hp'=>zl0 (hin p.1 (hks▸ay hp'))
 have hs:=S.step;refine⟨m',⟨⟨⟨hs.sim.frozen,λp hp'=>?_,by rw[hks];exact yz hnd,λp hp' q hq b h1 h2=>hs.sim.disj p (hsub p hp') q (hsub q hq) b (hb p hp'▸h1) (hb q hq▸h2)⟩,?_,hs.zext,hs.os,hs.tape,hs.output,hs.size,hs.frame,?_,?_,?_,hs.znew⟩,?_⟩,?_⟩
 ·have hh:=hs.sim.holds p (hsub p hp')
  have hmem:p.1∈ks:=hks▸ay hp';obtain⟨k,o⟩:=p
  cases o with
  |box t cs =>
   obtain⟨b,cur,h1,h2,h3,h4,h5⟩:=hh;refine⟨b,cur,by rw[hin k hmem];exact h1,h2,h3.swap λj hj L loc e=>?_,h4,by rw[hin k hmem];exact h5⟩;have:=(bj.1 hO) _ hp';have:=(bj.1 this) j hj;rw[hin j (by simpa using this)];exact e
  |row t sz fz els =>
   rcases hh with⟨h1,h2,h3,⟨b,h4⟩,h5⟩|⟨b,cap,cur,fr,h1,h2⟩
   ·exact .inl ⟨h1,h2,h3,⟨b,by rw[hin k hmem];exact h4⟩,by rw[hin k hmem];exact h5⟩
   ·exact .inr ⟨b,cap,cur,fr,by rw[hin k hmem];exact h1,by rw[hin k hmem];exact h2⟩
  |map l =>
   obtain⟨b,es,clock,h1,h2⟩:=hh;exact⟨b,es,clock,by rw[hin k hmem];exact h1,by rw[hin k hmem];exact h2⟩
  |glob g t cs=>exact⟨by rw[hin k hmem];exact hh.1,hh.2.1,by rw[hin k hmem];exact hh.2.2⟩
  |nest t e sz pd ls =>
   show uw (m' k) _ _ t e sz pd ls
   rw[hin k hmem];exact hh
  |gen G =>
   show G.holds (m' k) _ _
   rw[hin k hmem];exact hh
 ·intro k L loc e
  by_cases hk:k∈K0
  ·have:=(bj.1 hK) k hk
   rw[hin k (by simpa using this)];exact hs.mext k L loc e
  ·rw[c.dom0 k hk]at e;cases e
 ·intro k hk
  rw[hks];have:=(bj.1 hK) k (c.hk▸hk);simpa using this
 ·intro k hk
  rw[hks]at hk
  funext L
  rw[c.dom0 k (λh=>hk (by have:=(bj.1 hK) k h;simpa using this))];simp[m',hk]
 ·intro p hp' b hbb
  exact hs.blks p (hsub p hp') b (hb p hp'▸hbb)
 ·intro k hk L
  rw[hks]at hk;simp[m',hk]
 ·intro v x hr h
  exact h.swap λj hj L loc e=>by
   have:=(bj.1 hr) j hj;rw[hin j (by simpa using this)];exact e
def zOz(P:bm)(o:Oper)(ρr:yL)(w:bG)(R:bu->bG->Prop):Prop :=
 ku o.op=bf/\((∃x w',(bY (ev ρr) o).run P w=.ok (.value x) w'/\R x w')∨(∃w',(bY (ev ρr) o).run P w=.ok .skip w'/\R Go.undef w') ∨
  ∃f args w1,(bY (ev ρr) o).run P w=.ok (.enter f args) w1/\Calls P f args w1 λen w'=>∃x,en=.returned x/\R x w')
def zOz.mono{P:bm}{o:Oper}{ρr:yL}{w:bG}{R R':bu->bG->Prop}(h:zOz P o ρr w R)(hm:∀x w',R x w'->R' x w'):zOz P o ρr w R':=by
 refine⟨h.1,?_⟩
 rcases h.2 with⟨x,w',h1,h2⟩|⟨w',h1,h2⟩|⟨f,args,w1,h1,h2⟩
 ·exact .inl ⟨x,w',h1,hm _ _ h2⟩
 ·exact .inr (.inl ⟨w',h1,hm _ _ h2⟩)
 ·exact .inr (.inr ⟨f,args,w1,h1,Calls.mono h2 λ_ _ ⟨x,e,hr⟩=>⟨x,e,hm _ _ hr⟩⟩)
def Loc(P:bm)(o:Oper)(ρ:Env)(F:ax)(v:V)(F':ax):Prop :=
 ∀ρr m Z w,(∀x∈o.op.operands,Rep (bc m) Z (evV ρ x) (ev ρr x))->wQ m Z F w->(∀k∈keys F',k ∉ keys F->∀L,m k L=bh) ->
  zOz P o ρr w λx w'=>∃m' Z',Step m Z F w m' Z' F' w'/\Rep (bc m') Z' v x
def xx(all:List Oper)(ρ:Env)(o:Oper):Option Bool :=
 match o.guard with
 |none=>bc bf
 |some (j,want)=>match (all[j]?).bind (·.dst)with
  |some d=>match ρ.get d with
   |.bool b=>bc (b==want)
   |.no=>bc bd
   |_=>bh
  |none=>bh
def jD{all:List Oper}{ρ:Env}{ρr:yL}{m:M}{Z:ZM}{o:Oper}{t:Bool}(hR:zlq m Z ρ ρr)(h:xx all ρ o=bc t):wanted all ρr o=t:=by
 unfold xx at h;unfold wanted
 cases hg:o.guard with
 |none=>rw[hg]at h;simpa using h
 |some p =>
  obtain⟨j,want⟩:=p;rw[hg]at h;simp only[gv]at h ⊢
  cases hd:(all[j]?).bind (·.dst)with
  |none=>rw[hd]at h;cases h
  |some d =>
   rw[hd]at h;simp only at h ⊢;have hr:=hR d;split at h
   ·rename_i b hb
    rw[hb]at hr;simp only[Rep]at hr;rw[hr];simp only[Option.some.injEq]at h;subst h;cases b<;>cases want<;>rfl
   ·rename_i hb
    rw[hb]at hr;simp only[Rep]at hr;rw[hr];simp only[Option.some.injEq]at h;subst h;rfl
   ·cases h
def ze2{K0:List Nat}(c:Ctx K0)(P:bm)(r:Option Nat)(N:Nat)(all:List Oper)(Q:wj)(l:List Oper)(ρ:Env)(H:ax)(ds:List cb):Prop :=
 ∀ρr w ds1,QB c ρ H ρr w->xw c ds1 w->Ops P r N all (zl1 c Q ds) l ρr ds1 w
def qK(ks:List Nat)(H:ax):ax:=H.filter λp=>!ks.contains p.1
def wR{α β:Type}(f:α->β):∀{l:List α},(l.map f).Nodup->l.Nodup
 |[],_=>dv
 |a::l,h=>by
  rw[mk9,cG]at h;exact cG.2 ⟨λha=>h.1 (cw ha),wR f h.2⟩
def ja:∀{ks:List Nat}{H F:ax},(keys H).Nodup->ks.Nodup->ux ks H=bc F->H.Perm (F++qK ks H):=by
 intro ks H F hH hks hF
 have h1:∀p,p∈H↔p∈F++qK ks H:=by
  obtain⟨h2,h3⟩:=xn hF;intro p;rw[bz];constructor
  ·intro hp
   by_cases hk:p.1∈ks
   ·left
    rw[<- h2]at hk;obtain⟨q,hq,e⟩:=bx.1 hk;have hqH:=h3 q hq
    have:q=p:=by
     have hinj:∀(l:ax),(keys l).Nodup->∀p∈l,∀q∈l,q.1=p.1->q=p:=by
      intro l hl
      induction l with
      |nil=>intro p hp;cases hp
      |cons a l ih =>
       simp only[keys,mk9,cG]at hl;intro p hp q hq e
       rcases bp.1 hp with h1|h1<;>rcases bp.1 hq with h2|h2
       ·rw[h1,h2]
       ·exact(hl.1 (bx.2 ⟨q,h2,by rw[e,h1]⟩)).elim
       ·exact(hl.1 (bx.2 ⟨p,h1,by rw[<- e,h2]⟩)).elim
       ·exact ih hl.2 p h1 q h2 e
     exact hinj H hH p hp q hqH e
    exact this▸hq
   ·right
    simp only[qK,dz,bQ,cl,aX];exact⟨hp,hk⟩
  ·rintro(hp|hp)
   ·exact h3 p hp
   ·exact(dz.1 hp).1
 have hn:H.Nodup:=wR _ hH
 have hn2:(F++qK ks H).Nodup:=by
  obtain⟨h2,h3⟩:=xn hF;refine cu.2 ⟨wR _ (by show(keys F).Nodup;rw[h2];exact hks),hn.filter _,λa ha b hb e=>?_⟩;subst e;have:=(dz.1 hb).2;simp only[bQ,cl,aX]at this;exact this (h2▸ay ha)
 exact(fD hn hn2).2 h1
def Kw(F':ax)(ks:List Nat)(H:ax):Bool:=F'.all λp=>ks.contains p.1||!((keys H).contains p.1)
section
variable{K0:List Nat}{c:Ctx K0}{P:bm}{r:Option Nat}{N:Nat}{Q:wj}{ρ:Env}{H:ax}{ds:List cb}{all rest:List Oper}{o:Oper}
def Vu.step'{m m':M}{Z Z':ZM}{F F':ax}{w w':bG}{ks:List Nat}(S:Vu c m Z H w)(hks:yt ks=bf)(hF:ux ks H=bc F)(hfr:Kw F' ks H=bf)
  (h:wQ m Z F w->(∀k∈keys F',k ∉ keys F->∀L,m k L=bh)->Step m Z F w m' Z' F' w'):Vu c m' Z' (F'++qK ks H) w':=by
 have hp:=ja S.step.sim.nodup (yz hks) hF;obtain⟨h2,h3⟩:=xn hF;have hs:wQ m Z (F++qK ks H) w:=S.step.sim.perm hp
 have hnew:∀k∈keys F',k ∉ keys F->k ∉ keys H:=by
  intro k hk hkF;obtain⟨p,hp',rfl⟩:=bx.1 hk;have:=(bj.1 hfr) p hp';simp only[cZ,cl,aW,bQ,aX]at this
  rcases this with this|this
  ·exact aU (h2▸this) hkF
  ·exact this
 have hst:=h hs.left (λk hk hkF=>S.dom k (hnew k hk hkF))
 have hap:∀p∈F',∀q∈qK ks H,p.1≠q.1:=by
  intro p hp' q hq e;have hq1:=dz.1 hq;by_cases hpF:p.1∈keys F
  ·have:=hq1.2
   simp only[bQ,cl,aX]at this;exact this (by rw[<- e,<- h2];exact hpF)
  ·exact hnew p.1 (ay hp') hpF (by rw[e];exact ay hq1.1)
 have hfr:=Step.frame_rule hs hst hap;refine⟨(S.step.permR hp).trans hfr,λk hk L=>?_⟩;rw[hfr.newk k hk];exact S.dom k (λhk'=>hk (hfr.keep k ((hp.map _).mem_iff.1 hk'))) L
def zUg(h:Q .normal ρ H ds):ze2 c P r N all Q [] ρ H ds:=λ_ _ _ S hM=>zOv ⟨ρ,H,S,hM,h⟩
def zO0(d:Nat)(hd:o.dst=bc d)(hN:cm (d+1) N=bf)(hw:xx all ρ o=bc bd)(h:ze2 c P r N all Q rest ((d,.no)::ρ) H ds):ze2 c P r N all Q (o::rest) ρ H ds:=by
 rintro ρr w ds1 ⟨m,Z,S,hR⟩ hM;exact zGy d hd hN (jD hR hw) (h _ _ _ ⟨m,Z,S,hR.put d rfl⟩ hM)
def zG2(hd:o.dst=bh)(hw:xx all ρ o=bc bd)(h:ze2 c P r N all Q rest ρ H ds):ze2 c P r N all Q (o::rest) ρ H ds:=by
 rintro ρr w ds1 ⟨m,Z,S,hR⟩ hM;exact zzw hd (jD hR hw) (h _ _ _ ⟨m,Z,S,hR⟩ hM)
def zUh{F F':ax}{v:V}(d:Nat)(ks:List Nat)(hd:o.dst=bc d)(hN:cm (d+1) N=bf)(hw:xx all ρ o=bc bf)(hks:yt ks=bf)(hF:ux ks H=bc F)(hl:Loc P o ρ F v F')(hfr:Kw F' ks H=bf)
  (h:ze2 c P r N all Q rest ((d,v)::ρ) (F'++qK ks H) ds):ze2 c P r N all Q (o::rest) ρ H ds:=by
 rintro ρr w ds1 ⟨m,Z,S,hR⟩ hM a n hf;have hp:=ja S.step.sim.nodup (yz hks) hF;have hs:wQ m Z (F++qK ks H) w:=S.step.sim.perm hp;obtain⟨h2,h3⟩:=xn hF
 obtain⟨hn,hex⟩:=hl ρr m Z w (λx _=>hR.ev x) hs.left (λk hk hkF=>S.dom k (by
  obtain⟨p,hp',rfl⟩:=bx.1 hk;have:=(bj.1 hfr) p hp';simp only[cZ,cl,aW,bQ,aX]at this
  rcases this with this|this
  ·exact aU (h2▸this) hkF
  ·exact this))
 have go:∀x w',(∃m' Z',Step m Z F w m' Z' F' w'/\Rep (bc m') Z' v x)->Ops P r N all (zl1 c Q ds) rest (upd ρr d x) ds1 w':=λx w' ⟨m',Z',hst,hr⟩ =>
  h _ _ _ ⟨m',Z',S.step' hks hF hfr (λ_ _=>hst),(hR.up hst.zext hst.mext).put d hr⟩ (hM.step hs.left hst)
 rcases hex with⟨x,w',hrun,hx⟩|⟨w',hrun,hx⟩|⟨f,args,w1,hrun,hx⟩
 ·exact zOw d x hd hN (jD hR hw) hn hrun (go x w' hx) a n hf
 ·have hw':=(hf.wanted all _).trans (jD hR hw)
  simp only[wpListIn,hw',if_true];refine⟨λ_ _=>trivial,?_⟩;rw[Ax hn,hf.eval,hrun,Oper.uponIn_skip,hd];exact go _ w' hx _ n (hf.put (lb hN) _)
 ·exact zzx d hd hN (jD hR hw) hn hrun hx (λe w'' ⟨x,he,hr⟩=>⟨x,he,go x w'' hr⟩) a n hf
def zO1{F F':ax}{v:V}(ks:List Nat)(hd:o.dst=bh)(hw:xx all ρ o=bc bf)(hks:yt ks=bf)(hF:ux ks H=bc F)(hl:Loc P o ρ F v F')(hfr:Kw F' ks H=bf)
  (h:ze2 c P r N all Q rest ρ (F'++qK ks H) ds):ze2 c P r N all Q (o::rest) ρ H ds:=by
 rintro ρr w ds1 ⟨m,Z,S,hR⟩ hM a n hf;have hp:=ja S.step.sim.nodup (yz hks) hF;have hs:wQ m Z (F++qK ks H) w:=S.step.sim.perm hp;obtain⟨h2,h3⟩:=xn hF
 obtain⟨hn,hex⟩:=hl ρr m Z w (λx _=>hR.ev x) hs.left (λk hk hkF=>S.dom k (by
  obtain⟨p,hp',rfl⟩:=bx.1 hk;have:=(bj.1 hfr) p hp';simp only[cZ,cl,aW,bQ,aX]at this
  rcases this with this|this
  ·exact aU (h2▸this) hkF
  ·exact this))
 have go:∀x w',(∃m' Z',Step m Z F w m' Z' F' w'/\Rep (bc m') Z' v x)->Ops P r N all (zl1 c Q ds) rest ρr ds1 w':=λx w' ⟨m',Z',hst,hr⟩ =>
  h _ _ _ ⟨m',Z',S.step' hks hF hfr (λ_ _=>hst),hR.up hst.zext hst.mext⟩ (hM.step hs.left hst)
 have hw':=(hf.wanted all _).trans (jD hR hw);simp only[wpListIn,hw',if_true];refine⟨λ_ _=>trivial,?_⟩;rw[Ax hn,hf.eval]
 rcases hex with⟨x,w',hrun,hx⟩|⟨w',hrun,hx⟩|⟨f,args,w1,hrun,hx⟩
 ·rw[hrun,Oper.uponIn_value,hd]
  exact go x w' hx _ n (hf.putNone _)
 ·rw[hrun,Oper.uponIn_skip,hd]
  exact go _ w' hx _ n (hf.putNone _)
 ·rw[hrun,Oper.uponIn_enter]
  refine⟨λhx=>by simp[Fw]at hx,(A8 r hx).mono λe w'' ⟨x,he,hr⟩=>?_⟩;subst he;rw[hd];exact go x w'' hr _ n (hf.putNone _)
def zG3{id:Nat}{l:List Oper}(h:ze2 c P r N l Q l ρ H ds):WpV c P r N (.region id l.toArray bd) Q ρ H ds:=λρr w ds1 S hM=>ztc (h ρr w ds1 S hM)
end
end Go.EV
namespace Go.Eng
open Go Go.RowKit
def sub(k:Nat)(v:bu)(lo hi:Nat):bu :=
 match v with
 |.slice A _ c=>.slice (if c=lo then A else A.map (·.add (lo*k))) (hi-lo) (c-lo)
 |v=>v
section
variable{P:bm}{ρ:yL}{w W:bG}{dst:Option Tmp}{ty:bJ}{pos:String}{aft:Array Edge}{gd:Option (Nat×Bool)}{α:Type}{enc:α->List bu}{k:Nat}{v:bu}{l:List α}
end
inductive Tag where
 |int (k:IntKind)
 |bool
 |str
 deriving DecidableEq
def zqd:TypeDesc->Option Tag|.int k=>bc (.int k)|.bool=>bc .bool|.string=>bc .str|_=>bh
def zw2:Tag->bu->Bool|.int k,.int k' _=>decide (k=k')|.bool,.bool _=>bf|.str,.string _=>bf|_,_=>bd
def eqV:bu->bu->Bool|.int _ a,.int _ b=>decide (a=b)|.bool a,.bool b=>a==b|.string a,.string b=>decide (a.data.toList=b.data.toList)|_,_=>bd
def zG4:List bu->List bu->Bool|[],[]=>bf|a::l,b::m=>eqV a b&&zG4 l m|_,_=>bd
def Vh:List Tag->List bu->Bool|[],[]=>bf|k::ks,v::vs=>zw2 k v&&Vh ks vs|_,_=>bd
def zbs(P:bm):List Field->Nat->List Tag->Bool
 |[],_,[]=>bf
 | f :: fs, i, k :: ks => !(f.name == "_") && (bk f.offset i && ((match P.underlying f.type with | some d => decide (zqd d = bc k) | none => bd) && zbs P fs (i + 1) ks))
 |_,_,_=>bd
def zG5(P:bm)(t:bJ)(ks:List Tag):Prop:=P.underlying t=bc (.struct (P.fieldsOf t))/\P.stoodInHeld t=bd/\P.eqGuardType P.depth t=bd/\zbs P (P.fieldsOf t).toList 0 ks=bf
def zic(P:bm)(t:bJ)(ks:List Tag):Bool:=(match P.underlying t with|some (.struct _)=>bf|_=>bd)&&((!P.stoodInHeld t)&&((!P.eqGuardType P.depth t)&&zbs P (P.fieldsOf t).toList 0 ks))
def zO2{P:bm}{t:bJ}{ks:List Tag}(h:zic P t ks=bf):zG5 P t ks:=by
 simp only[zic,bn,bQ]at h;obtain⟨h1,h2,h3,h4⟩:=h;refine⟨?_,h2,h3,h4⟩;split at h1
 ·rename_i fs hf
  simp[Program.fieldsOf,hf]
 ·cases h1
section
variable{P:bm}{ρ:yL}{w:bG}{dst:Option Tmp}{ty:bJ}{pos:String}{aft:Array Edge}{gd:Option (Nat×Bool)}
def zbt{d:Nat}{t:Nat}{k:Tag}{a b:bu}{desc:TypeDesc}(hu:P.underlying t=bc desc)(ht:zqd desc=bc k)(ha:zw2 k a=bf)(hb:zw2 k b=bf):(Op.equalIn (d+1) t a b).run P w=.ok (eqV a b) w:=by
 cases desc<;>simp only[zqd,Option.some.injEq,reduceCtorEq]at ht<;>subst ht<;>(cases a<;>simp only[zw2,cF]at ha<;>cases b<;>simp only[zw2,cF]at hb)
 ·rw[run_equalIn_bool' w d t _ _ hu];rfl
 ·have ha:=aY ha;have hb:=aY hb;subst ha;subst hb
  rw[run_equalIn_int w d t _ _ _ _ hu];rfl
 ·rw[run_equalIn_string w d t _ _ hu];simp only[eqV,ByteArray.toList_eq];congr 1;rw[eK];simp
def ztg{t:Nat}{k:Tag}{desc:TypeDesc}(hu:P.underlying t=bc desc)(ht:zqd desc=bc k):(isAgg t).run P w=.ok bd w:=by
 unfold isAgg;cases desc<;>simp only[zqd,reduceCtorEq]at ht<;>simp[run_underlying hu]
def Zu{d:Nat}{xs ys:List bu}:∀(fs:List Field)(i:Nat)(ks:List Tag),zbs P fs i ks=bf->Vh ks (xs.drop i)=bf->Vh ks (ys.drop i)=bf ->
  (Op.eqFields (d+1) xs.toArray ys.toArray fs).run P w=.ok (zG4 (xs.drop i) (ys.drop i)) w:=by
 intro fs
 induction fs with
 |nil =>
  intro i ks h hx hy
  cases ks with
  |cons k ks=>cases h
  |nil =>
   cases hxs:xs.drop i with
   |cons a l=>rw[hxs]at hx;cases hx
   |nil =>
    cases hys:ys.drop i with
    |cons a l=>rw[hys]at hy;cases hy
    |nil=>simp[Op.eqFields,zG4]
 |cons f fs ih =>
  intro i ks h hx hy
  cases ks with
  |nil=>cases h
  |cons k ks =>
   simp only[zbs,bn]at h;obtain⟨h1,h2,h3,h4⟩:=h;have h2:=eb h2
   have h1 : f.name ≠ "_" := by simpa using h1
   cases hxs:xs.drop i with
   |nil=>rw[hxs]at hx;cases hx
   |cons a l =>
    cases hys:ys.drop i with
    |nil=>rw[hys]at hy;cases hy
    |cons b m =>
     rw[hxs]at hx;rw[hys]at hy;simp only[Vh,bn]at hx hy
     have ex:xs.drop (i+1)=l:=by rw[<- dD,hxs];rfl
     have ey:ys.drop (i+1)=m:=by rw[<- dD,hys];rfl
     have gx:xs[i]?=bc a:=by have:=aQ (·[0]?) hxs;simpa using this
     have gy:ys[i]?=bc b:=by have:=aQ (·[0]?) hys;simpa using this
     cases hu:P.underlying f.type with
     |none=>rw[hu]at h3;cases h3
     |some desc =>
      rw[hu]at h3
      have h3:zqd desc=bc k:=by simpa using h3
      have ih:=ih (i+1) ks h4 (by rw[ex];exact hx.2) (by rw[ey];exact hy.2);rw[ex,ey]at ih
      have px:(part f.type xs.toArray f.offset).run P w=.ok a w:=by simp[part,ztg hu h3,h2,gx]
      have py:(part f.type ys.toArray f.offset).run P w=.ok b w:=by simp[part,ztg hu h3,h2,gy]
      rw[Op.eqFields,aP h1];simp only[Sem.run_bind,px,py,Result.andThen_ok,zbt hu h3 hx.1 hy.1,zG4];cases eqV a b
      ·simp
      ·simp[ih]
def zO3{t t':bJ}{ks:List Tag}{a b:List bu}{x y:bE}(res:Bool)(hF:zG5 P t ks)(ha:ev ρ x=.agg a.toArray)(hb:ev ρ y=.agg b.toArray)(hka:Vh ks a=bf)(hkb:Vh ks b=bf)(hr:zG4 a b=res):
  (bY (ev ρ) ⟨dst,.binOp .eql t x y t',ty,pos,aft,gd⟩).run P w=.ok (.value (.bool res)) w:=by
 obtain⟨h1,h2,h3,h4⟩:=hF;have h:=Zu (P:=P) (w:=w) (d:=9998) (xs:=a) (ys:=b) _ 0 ks h4 (by simpa using hka) (by simpa using hkb);simp only[dU]at h;simp[bY,ha,hb,run_eqGuard_agg w _ t x y _ _ h3,run_eql_struct,run_equalIn_agg w 9999 t _ _ h1 h2,h,hr]
def zO4{t t':bJ}{ks:List Tag}{a b:List bu}{x y:bE}(res:Bool)(hF:zG5 P t ks)(ha:ev ρ x=.agg a.toArray)(hb:ev ρ y=.agg b.toArray)(hka:Vh ks a=bf)(hkb:Vh ks b=bf)(hr:zG4 a b=res):
  (bY (ev ρ) ⟨dst,.binOp .neq t x y t',ty,pos,aft,gd⟩).run P w=.ok (.value (.bool (!res))) w:=by
 obtain⟨h1,h2,h3,h4⟩:=hF;have h:=Zu (P:=P) (w:=w) (d:=9998) (xs:=a) (ys:=b) _ 0 ks h4 (by simpa using hka) (by simpa using hkb);simp only[dU]at h;simp[bY,ha,hb,run_eqGuard_agg w _ t x y _ _ h3,run_neq_struct,run_equalIn_agg w 9999 t _ _ h1 h2,h,hr]
def zw3{t:bJ}{parts:List (Nat×bE)}(ps:List (Nat×bu))(cs:List bu)(hp:parts.map (λp=>(p.1,ev ρ p.2))=ps)(h:P.built t ps=bc cs.toArray):
  (bY (ev ρ) ⟨dst,.build t parts.toArray,ty,pos,aft,gd⟩).run P w=.ok (.value (.agg cs.toArray)) w:=by
 have e:(parts.toArray.map λx=>(x.1,ev ρ x.2))=ps.toArray:=by rw[<- hp];simp
 simp only[bY,e];simp[run_build w t ps.toArray cs.toArray (by simpa using h)]
end
section
variable{P:bm}{r:Option Nat}{N:Nat}{Q:zak}{ρ:yL}{ds:List cb}{w W0:bG}{L:List Own}
variable{all rest:List Oper}{ty:bJ}{pos:String}{aft:Array Edge}{gd:Option (Nat×Bool)}
end
end Go.Eng
namespace Go.EV
open Go Go.RowKit Go.Eng
def tagB(P:bm)(t:bJ):Option Tag:=match P.underlying t with|some d=>zqd d|none=>bh
def zth(P:bm)(t:bJ):Option (List Tag) :=
 match (P.fieldsOf t).toList.mapM (λf=>tagB P f.type)with
 |some ks=>if zic P t ks then bc ks else bh
 |none=>bh
def zbu:Tag->V->Bool|.int k,.int k' _=>decide (k=k')|.bool,.bool _=>bf|.str,.str _=>bf|_,_=>bd
def AW:List Tag->List V->Bool|[],[]=>bf|k::ks,v::vs=>zbu k v&&AW ks vs|_,_=>bd
def zZw:V->V->Bool|.int _ a,.int _ b=>decide (a=b)|.bool a,.bool b=>a==b|.str a,.str b=>decide (a=b)|_,_=>bd
def zz8:List V->List V->Bool|[],[]=>bf|[a],[b]=>zZw a b|a::l,b::m=>zZw a b&&zz8 l m|_,_=>bd
def zUi(op:BinOp)(k:IntKind)(a b:Int):Option V :=
 match op with
 |.and=>bc (.int k (k.wrap (cM k.bits a &&& cM k.bits b).toNat))
 | .or=>bc (.int k (k.wrap (cM k.bits a ||| cM k.bits b).toNat))
 |.xor=>bc (.int k (k.wrap (cM k.bits a ^^^ cM k.bits b).toNat))
 |.andNot=>bc (.int k (k.wrap (cM k.bits a &&& ~~~cM k.bits b).toNat))
 |_=>bh
def zUj(op:BinOp)(k:IntKind)(a b:Int):Option V :=
 match op with
 |.lss=>bc (.bool (decide (a<b)))
 |.leq=>bc (.bool (decide (a<=b)))
 |.gtr=>bc (.bool (decide (a>b)))
 |.geq=>bc (.bool (decide (a>=b)))
 |.eql=>bc (.bool (decide (a=b)))
 |.neq=>bc (.bool (!decide (a=b)))
 |.add=>bc (.int k (k.wrap (a+b)))
 |.sub=>bc (.int k (k.wrap (a-b)))
 |.mul=>bc (.int k (k.wrap (a*b)))
 |.quo=>if b=0 then bh else bc (.int k (k.wrap (a.tdiv b)))
 |.rem=>if b=0 then bh else bc (.int k (a.tmod b))
 |op=>zUi op k a b
def zf0(op:BinOp)(k:IntKind)(a b:Int):Option V :=
 if b<0 then bh else
 match op with
 |.shl=>bc (.int k (k.wrap (a*2 ^ (min b.toNat k.bits))))
 |.shr=>bc (.int k (a.fdiv (2 ^ (min b.toNat k.bits))))
 |_=>bh
def strV(op:BinOp)(a b:ak):Option V :=
 match op with
 |.eql=>bc (.bool (decide (a=b)))
 |.neq=>bc (.bool (!decide (a=b)))
 |.lss=>bc (.bool (Op.bytesLess a b))
 | .leq=>bc (.bool (Op.bytesLess a b||decide (a=b)))
 | .gtr=>bc (.bool (!(Op.bytesLess a b||decide (a=b))))
 |.geq=>bc (.bool (!Op.bytesLess a b))
 |_=>bh
def zG6:V->Option Bool
 |.nilp|.nils|.nilf|.nilm=>bc bf
 |.ptr ..|.vp ..|.fn ..|.mp _=>bc bd
 |.sl _ _ (_+1) _ (_+1)=>bc bd
 |.vs _ (_::_)=>bc bd
 |_=>bh
def zz9(P:bm)(t:bJ):V->Bool
 |.nilp=>match P.underlying t with|some (.pointer _)=>bf|_=>bd
 |.nils=>match P.underlying t with|some (.slice _)=>bf|_=>bd
 |.nilf=>match P.underlying t with|some (.func ..)=>bf|_=>bd
 |.nilm=>match P.underlying t with|some (.map ..)=>bf|_=>bd
 |_=>bd
def zf1:V->V->Bool
 |.nilp,.nilp|.ptr ..,.nilp|.vp ..,.nilp=>bf
 |.nils,.nils|.sl ..,.nils|.vs ..,.nils=>bf
 |.nilf,.nilf|.fn ..,.nilf=>bf
 |.nilm,.nilm|.mp _,.nilm=>bf
 |_,_=>bd
def zab(P:bm)(t:bJ)(x y:V):Option Bool:=if zz9 P t y&&zf1 x y then zG6 x else bh
def zUk(P:bm)(t:bJ):Bool:=match P.underlying t with|some .bool=>bf|_=>bd
def zZx(P:bm)(t:bJ)(x y:V):Option Bool :=
 match x,y with
 |.bool a,.bool b=>if zUk P t then bc (a==b)else bh
 |.agg a,.agg b=>match zth P t with
  |some ks=>if AW ks a&&AW ks b then bc (zz8 a b)else bh
  |none=>bh
 |_,_=>bh
def zl2(P:bm)(op:BinOp)(t:bJ)(x y:V):Option V :=
 match x,y with
 |.int k a,.int k' b=>match op with
  |.shl|.shr=>zf0 op k a b
  |_=>if k=k' then zUj op k a b else bh
 |.str a,.str b=>strV op a b
 |x,y=>match op with
  |.eql=>(zZx P t x y).map .bool
  |.neq=>(zZx P t x y).map λb=>.bool (!b)
  |_=>bh
section
variable{P:bm}{ρr:yL}{w:bG}{dst:Option Tmp}{ty:bJ}{pos:String}{aft:Array Edge}{gd:Option (Nat×Bool)}{m:Option M}{Z:ZM}
def zid{op:BinOp}{t t':bJ}{x y:bE}{k:IntKind}{a b:Int}{v:V}(hx:ev ρr x=.int k a)(hy:ev ρr y=.int k b)(hs:op≠.shl/\op≠.shr)(h:zUj op k a b=bc v):
  ∃u,(bY (ev ρr) ⟨dst,.binOp op t x y t',ty,pos,aft,gd⟩).run P w=.ok (.value u) w/\Rep m Z v u:=by
 cases op<;>simp only[zUj,zUi,Option.some.injEq,reduceCtorEq]at h
 case quo =>
  split at h
  ·cases h
  ·rename_i hb
   simp only[Option.some.injEq]at h;subst h;exact⟨_,by simp[bY,hx,hy,eqGuard,binOp,Op.intDiv,hb],rfl⟩
 case rem =>
  split at h
  ·cases h
  ·rename_i hb
   simp only[Option.some.injEq]at h;subst h;exact⟨_,by simp[bY,hx,hy,eqGuard,binOp,Op.intDiv,hb],rfl⟩
 all_goals
  subst h;exact⟨_,by simp[bY,hx,hy,eqGuard,binOp,Op.intCmp,Op.intArith,Op.intBits];first|rfl|done,rfl⟩
def YL{op:BinOp}{t t':bJ}{x y:bE}{k k':IntKind}{a b:Int}{v:V}(hx:ev ρr x=.int k a)(hy:ev ρr y=.int k' b)(hs:op=.shl∨op=.shr)(h:zf0 op k a b=bc v):
  ∃u,(bY (ev ρr) ⟨dst,.binOp op t x y t',ty,pos,aft,gd⟩).run P w=.ok (.value u) w/\Rep m Z v u:=by
 unfold zf0 at h;split at h
 ·cases h
 ·rename_i hb
  rcases hs with rfl|rfl<;>simp only[Option.some.injEq]at h<;>subst h<;>exact⟨_,by simp[bY,hx,hy,eqGuard,binOp,Op.shift,hb],rfl⟩
def zG7{op:BinOp}{t t':bJ}{x y:bE}{a b:ak}{v:V}(hx:ev ρr x=.string ⟨a.toArray⟩)(hy:ev ρr y=.string ⟨b.toArray⟩)(h:strV op a b=bc v):
  ∃u,(bY (ev ρr) ⟨dst,.binOp op t x y t',ty,pos,aft,gd⟩).run P w=.ok (.value u) w/\Rep m Z v u:=by
 have e:(a==b)=decide (a=b):=by rw[eK];simp
 cases op<;>simp only[strV,Option.some.injEq,reduceCtorEq]at h<;>subst h <;>
  exact⟨_,by simp[bY,hx,hy,eqGuard,binOp,Op.stringOp,ByteArray.toList_eq,e];first|rfl|done,rfl⟩
def zO5{k:Tag}{v:V}{x:bu}(h:Rep m Z v x)(hk:zbu k v=bf):zw2 k x=bf:=by
 cases k<;>cases v<;>simp only[zbu,cF]at hk<;>simp only[Rep]at h<;>subst h
 ·exact hk
 ·rfl
 ·rfl
def Wg:∀{ks:List Tag}{vs:List V}{l:List bu},zT m Z vs l->AW ks vs=bf->Vh ks l=bf
 |[],[],l,h,_=>by cases h;rfl
 |[],_::_,_,_,hk=>by cases hk
 |_::_,[],_,_,hk=>by cases hk
 |k::ks,v::vs,l,h,hk=>by
  obtain⟨x,xs,rfl,h2,h3⟩:=h;simp only[AW,bn]at hk;simp only[Vh,bn];exact⟨zO5 h2 hk.1,Wg h3 hk.2⟩
def zUl{m':Option M}{k:Tag}{u v:V}{x y:bu}(h:Rep m Z u x)(h':Rep m' Z v y)(hk:zbu k u=bf)(hk':zbu k v=bf):eqV x y=zZw u v:=by
 cases k<;>cases u<;>simp only[zbu,cF]at hk<;>cases v<;>simp only[zbu,cF]at hk'<;>simp only[Rep]at h h'<;>subst h<;>subst h'<;>first|rfl|simp[eqV,zZw]
def zAa:∀{ks:List Tag}{us vs:List V}{l k:List bu},zT m Z us l->zT m Z vs k->AW ks us=bf->AW ks vs=bf->zG4 l k=zz8 us vs
 |[],[],[],l,k,h,h',_,_=>by cases h;cases h';rfl
 |[],_::_,_,_,_,_,_,hk,_=>by cases hk
 |[],[],_::_,_,_,_,_,_,hk=>by cases hk
 |_::_,[],_,_,_,_,_,hk,_=>by cases hk
 |_::_,_::_,[],_,_,_,_,_,hk=>by cases hk
 |k::ks,u::us,v::vs,l,l',h,h',hk,hk'=>by
  obtain⟨x,xs,rfl,h2,h3⟩:=h;obtain⟨y,ys,rfl,h4,h5⟩:=h';simp only[AW,bn]at hk hk';have e1:=zUl h2 h4 hk.1 hk'.1;have e2:=zAa h3 h5 hk.2 hk'.2
  cases us with
  |nil =>
   cases vs with
   |nil=>cases h3;cases h5;simp[zG4,zz8,e1]
   |cons v' vs=>cases ks<;>simp only[AW,cF,and_false]at hk hk'
  |cons u' us =>
   cases vs with
   |nil=>cases ks<;>simp only[AW,cF,and_false]at hk hk'
   |cons v' vs=>simp only[zG4,zz8,e1];rw[e2]
def zti{t t':bJ}{x y:bE}{u v:V}{b:Bool}(hx:Rep m Z u (ev ρr x))(hy:Rep m Z v (ev ρr y))(h:zZx P t u v=bc b):
  (bY (ev ρr) ⟨dst,.binOp .eql t x y t',ty,pos,aft,gd⟩).run P w=.ok (.value (.bool b)) w/\(bY (ev ρr) ⟨dst,.binOp .neq t x y t',ty,pos,aft,gd⟩).run P w=.ok (.value (.bool (!b))) w:=by
 unfold zZx at h;split at h
 ·rename_i a a'
  split at h
  ·rename_i hb
   simp only[Option.some.injEq]at h;subst h;unfold zUk at hb;split at hb
   ·rename_i ht
    exact⟨zia ht hx hy,zib ht hx hy⟩
   ·cases hb
  ·cases h
 ·rename_i l l'
  split at h
  ·rename_i ks hks
   split at h
   ·rename_i hk
    simp only[bn]at hk;simp only[Option.some.injEq]at h;subst h;obtain⟨c1,e1,r1⟩:=hx;obtain⟨c2,e2,r2⟩:=hy
    have hF:zG5 P t ks:=by
     unfold zth at hks;split at hks
     ·split at hks
      ·rename_i hc
       simp only[Option.some.injEq]at hks;subst hks;exact zO2 hc
      ·cases hks
     ·cases hks
    have he:=zAa r1 r2 hk.1 hk.2;exact⟨zO3 _ hF e1 e2 (Wg r1 hk.1) (Wg r2 hk.2) he,zO4 _ hF e1 e2 (Wg r1 hk.1) (Wg r2 hk.2) he⟩
   ·cases h
  ·cases h
 ·cases h
def YM{op:BinOp}{t t':bJ}{x y:bE}{u v r:V}(hx:Rep m Z u (ev ρr x))(hy:Rep m Z v (ev ρr y))(h:zl2 P op t u v=bc r):
  ∃z,(bY (ev ρr) ⟨dst,.binOp op t x y t',ty,pos,aft,gd⟩).run P w=.ok (.value z) w/\Rep m Z r z:=by
 unfold zl2 at h;split at h
 ·rename_i k a k' b
  split at h
  ·exact YL hx hy (.inl rfl) h
  ·exact YL hx hy (.inr rfl) h
  ·rename_i h1 h2
   split at h
   ·rename_i hk
    subst hk;exact zid hx hy ⟨h1,h2⟩ h
   ·cases h
 ·exact zG7 hx hy h
 ·split at h
  ·obtain⟨b,hb,rfl⟩:=cv.1 h
   exact⟨_,(zti hx hy hb).1,rfl⟩
  ·obtain⟨b,hb,rfl⟩:=cv.1 h
   exact⟨_,(zti hx hy hb).2,rfl⟩
  ·cases h
end
def zqe(t:Bool)(a b:V):V :=
 match a,b with
 |.bool x,.bool y=>.bool (bif t then x else y)
 |.int k x,.int k' y=>if k=k' then .int k (bif t then x else y)else bif t then .int k x else .int k' y
 |.str x,.str y=>.str (bif t then x else y)
 |a,b=>bif t then a else b
def zG8{m:Option M}{Z:ZM}{t:Bool}{a b:V}{x y:bu}(ha:Rep m Z a x)(hb:Rep m Z b y):Rep m Z (zqe t a b) (bif t then x else y):=by
 unfold zqe;split
 ·cases t<;>assumption
 ·split
  ·rename_i hk;subst hk;cases t<;>assumption
  ·cases t<;>assumption
 ·cases t<;>assumption
 ·cases t<;>assumption
def zal(P:bm)(s f:Nat):Option Nat :=
 match P.underlying s with
 |some (.struct fs)=>match fs[f]? with
  |some fld=>match P.info? fld.type with
   |some i=>if i.size=0 then bh else bc fld.offset
   |none=>bh
  |none=>bh
 |_=>bh
def zqf{P:bm}{s f o:Nat}(h:zal P s f=bc o):zzy P s f o:=by
 unfold zal at h;split at h
 ·rename_i fs hs
  split at h
  ·rename_i fld hf
   split at h
   ·rename_i i hi
    split at h
    ·cases h
    ·rename_i hz
     simp only[Option.some.injEq]at h;exact⟨fs,fld,i,hs,hf,h,hi,hz⟩
   ·cases h
  ·cases h
 ·cases h
def oI(P:bm)(t:Nat):Option (Option Nat) :=
 match P.underlying t,P.info? t with
 |some d,bc i=>if zlz d then(if i.size=1 then bc bh else bh)else bc (bc i.size)
 |_,_=>bh
def u7{P:bm}{t:Nat}(h:oI P t=bc bh):Scal P t:=by
 unfold oI at h;split at h
 ·rename_i d i hd hi
  split at h
  ·rename_i hn
   split at h
   ·rename_i h1;exact⟨d,i,hd,hn,hi,h1⟩
   ·cases h
  ·cases h
 ·cases h
def qL{P:bm}{t k:Nat}(h:oI P t=bc (bc k)):AggT P t k:=by
 unfold oI at h;split at h
 ·rename_i d i hd hi
  split at h
  ·split at h<;>cases h
  ·rename_i hn
   simp only[Option.some.injEq]at h;exact⟨d,i,hd,by simpa using hn,hi,h⟩
 ·cases h
def atV(P:bm)(t:Nat)(cs:List V)(off:Nat):Option V :=
 match oI P t with
 |some bh=>match cs[off]? with|some v=>if v.one then bc v else bh|none=>bh
 |some (bc k)=>if cm (off+k) cs.length then bc (.agg ((cs.drop off).take k))else bh
 |none=>bh
def zl3(P:bm)(s f:Nat)(cs:List V):Option V :=
 match P.underlying s with
 |some (.struct fs)=>match fs[f]? with
  |some fld=>atV P fld.type cs fld.offset
  |none=>bh
 |_=>bh
def zUm(P:bm)(src dst:Nat)(x:V):Option V :=
 match P.underlying src,P.underlying dst,x with
 |some _,bc (.int k),.int _ n=>bc (.int k (k.wrap n))
 |some _,bc .string,.str l=>bc (.str l)
 |_,_,_=>bh
def Wh(P:bm)(t:Nat):Bool:=match P.underlying t with|some (.slice _)=>bf|_=>bd
def zTn(P:bm)(t:Nat)(x:V):Option V :=
 match x with
 |.str l=>match P.underlying t with|some .string=>bc (.int .i64 l.length)|_=>bh
 |.sl _ _ _ _ n=>if Wh P t then bc (.int .i64 n)else bh
 |.vs _ els=>if Wh P t then bc (.int .i64 els.length)else bh
 |.nils=>if Wh P t then bc (.int .i64 0)else bh
 |_=>bh
def zbv(places:List (Nat×Nat))(cells:List V):List (Nat×V)->Option (List V)
 |[]=>bc cells
 |(i,v)::rest=>match places[i]? with
  |none=>bh
  |some (off,size)=>if v.plain&&(bk v.cells.length size&&cm (off+size) cells.length)then zbv places (cells.take off++v.cells++cells.drop (off+size)) rest else bh
def ztj(P:bm)(t:Nat)(parts:List (Nat×V)):Option (List V) :=
 match P.info? t,P.underlying t with
 |some it,bc (.struct fields) =>
  match it.zero,fields.toList.mapM (λf=>(P.info? f.type).map λi=>(f.offset,i.size))with
  |some z,bc places=>zbv places (z.cells.toList.map zte) parts
  |_,_=>bh
 |some it,bc (.array n e) =>
  match it.zero,P.info? e with
  |some z,bc ie=>zbv ((cQ n).map λi=>(i*ie.size,ie.size)) (z.cells.toList.map zte) parts
  |_,_=>bh
 |_,_=>bh
def biV(P:bm)(b:Builtin)(vs:List V)(ts:List bJ):Option V :=
 match b with
 |.len=>match vs,ts with|[v],[t]=>zTn P t v|_,_=>bh
 |.min=>match vs with|[.int k a,.int k' b]=>if k=k' then bc (.int k (min a b))else bh|_=>bh
 |.max=>match vs with
  |[.int k a,.int k' b]=>if k=k' then bc (.int k (max a b))else bh
  |[.int k a,.int k' b,.int k'' c]=>if k=k' then if k=k'' then bc (.int k (max (max a b) c))else bh else bh
  |_=>bh
 |_=>bh
def HZ(P:bm)(ρ:Env):Op->Option V
 |.move x|.assign x=>bc (evV ρ x)
 |.pick c a b=>match evV ρ c with|.bool t=>bc (zqe t (evV ρ a) (evV ρ b))|_=>bh
 |.binOp op t x y _=>match op with
  |.eql=>match zab P t (evV ρ x) (evV ρ y)with
   |some b=>bc (.bool b)
   |none=>match zab P t (evV ρ y) (evV ρ x)with
    |some b=>bc (.bool b)
    |none=>zl2 P .eql t (evV ρ x) (evV ρ y)
  |.neq=>match zab P t (evV ρ x) (evV ρ y)with
   |some b=>bc (.bool (!b))
   |none=>match zab P t (evV ρ y) (evV ρ x)with
    |some b=>bc (.bool (!b))
    |none=>zl2 P .neq t (evV ρ x) (evV ρ y)
  |op=>zl2 P op t (evV ρ x) (evV ρ y)
 |.unOp .not _ x=>match evV ρ x with|.bool b=>bc (.bool (!b))|_=>bh
 |.unOp .neg _ x=>match evV ρ x with|.int k n=>bc (.int k (k.wrap (0-n)))|_=>bh
 |.extract x i=>match evV ρ x with|.tup vs=>vs[i]?|_=>bh
 |.makeFunc (.func f) first cap=>bc (.fn f (first.toList.map (evV ρ)) (cap.toList.map (evV ρ)))
 |.convert src dst x=>zUm P src dst (evV ρ x)
 |.fieldAddr s x f=>match zal P s f with
  |some o=>match evV ρ x with
   |.ptr k L off=>bc (.ptr k L (off+o))
   |.vp cs off=>bc (.vp cs (off+o))
   |_=>bh
  |none=>bh
 |.field s x f=>match evV ρ x with|.agg cs=>zl3 P s f cs|_=>bh
 |.load t a=>match evV ρ a with|.vp cs off=>atV P t cs off|_=>bh
 |.nilCheck x=>match evV ρ x with
  |.ptr k L off=>bc (.ptr k L off)
  |.vp cs off=>bc (.vp cs off)
  |.fn f first caps=>bc (.fn f first caps)
  |_=>bh
 |.call ⟨.builtin b,args,ts⟩=>biV P b (args.toList.map (evV ρ)) ts.toList
 |.build t parts=>(ztj P t (parts.toList.map λp=>(p.1,evV ρ p.2))).map .agg
 |_=>bh
def uy:bu->Bool|.pointer _|.slice ..|.map _|.func ..|.nilFunc=>bf|_=>bd
section
variable{P:bm}{ρr:yL}{w:bG}{dst:Option Tmp}{ty:bJ}{pos:String}{aft:Array Edge}{gd:Option (Nat×Bool)}{m:Option M}{Z:ZM}
def zAb{t t':bJ}{x y:bE}{X Y:bu}{b:Bool}(hx:ev ρr x=X)(hy:ev ρr y=Y)(h1:uy X=bf)(h2:uy Y=bf)(h:(Op.equalIn (9999+1) t X Y).run P w=.ok b w):
  (bY (ev ρr) ⟨dst,.binOp .eql t x y t',ty,pos,aft,gd⟩).run P w=.ok (.value (.bool b)) w/\(bY (ev ρr) ⟨dst,.binOp .neq t x y t',ty,pos,aft,gd⟩).run P w=.ok (.value (.bool (!b))) w:=by
 have h':(Op.equal t X Y).run P w=.ok b w:=h
 cases X<;>simp only[uy,cF]at h1<;>cases Y<;>simp only[uy,cF]at h2 <;>
  exact⟨by simp only[bY,hx,hy,eqGuard,binOp];simp[h'],by simp only[bY,hx,hy,eqGuard,binOp];simp[h']⟩
def zAc(d:Nat){t:bJ}{u v:V}{X Y:bu}{b:Bool}(hx:Rep m Z u X)(hy:Rep m Z v Y)(hf:zf1 u v=bf)(hn:zz9 P t v=bf)(h:zG6 u=bc b):
  uy X=bf/\uy Y=bf/\(Op.equalIn (d+1) t X Y).run P w=.ok b w/\(Op.equalIn (d+1) t Y X).run P w=.ok b w:=by
 have fin:∀{b':Bool},bc b'=bc b->b'=b:=λe=>by injection e
 cases v with
 |nilp =>
  simp only[zz9]at hn;split at hn
  ·rename_i ht
   simp only[Rep]at hy;subst hy
   cases u<;>first
    |(cases hf;done)
    |(simp only[Rep]at hx;cases fin h;subst hx;simp[uy,Op.equalIn,run_underlying ht];done)
    |(simp only[Rep]at hx;cases fin h;obtain⟨_,_,_,_,rfl⟩:=hx;simp[uy,Op.equalIn,run_underlying ht];done)
    |(simp only[Rep]at hx;cases fin h;obtain⟨_,rfl,_⟩:=hx;simp[uy,Op.equalIn,run_underlying ht];done)
  ·cases hn
 |nils =>
  simp only[zz9]at hn;split at hn
  ·rename_i ht
   simp only[Rep]at hy;subst hy
   cases u<;>first
    |(cases hf;done)
    |(simp only[Rep]at hx;cases fin h;subst hx;simp[uy,Op.equalIn,run_underlying ht];done)
    |skip
   ·rename_i sz k L o n
    obtain⟨g,loc,_,_,h3,_,h5⟩:=hx
    cases L with
    |zero=>simp[zG6]at h
    |succ L =>
     cases n with
     |zero=>simp[zG6]at h
     |succ n =>
      cases fin h
      rcases h5 with rfl|⟨h5,_⟩|⟨_,h5,_⟩
      ·simp[uy,Op.equalIn,run_underlying ht]
      ·omega
      ·omega
   rename_i sz els;obtain⟨A,c,rfl,_,_,h4⟩:=hx
   cases els with
   |nil=>simp[zG6]at h
   |cons e els =>
    cases fin h
    rcases h4 with h4|⟨a,rfl,_⟩
    ·cases h4
    ·simp[uy,Op.equalIn,run_underlying ht]
  ·cases hn
 |nilf =>
  simp only[zz9]at hn;split at hn
  ·rename_i ht
   simp only[Rep]at hy;subst hy
   cases u<;>first
    |(cases hf;done)
    |(simp only[Rep]at hx;cases fin h;subst hx;simp[uy,Op.equalIn,run_underlying ht];done)
    |(simp only[Rep]at hx;cases fin h;obtain⟨_,_,rfl,_⟩:=hx;simp[uy,Op.equalIn,run_underlying ht];done)
  ·cases hn
 |nilm =>
  simp only[zz9]at hn;split at hn
  ·rename_i ht
   simp only[Rep]at hy;subst hy
   cases u<;>first
    |(cases hf;done)
    |(simp only[Rep]at hx;cases fin h;subst hx;simp[uy,Op.equalIn,run_underlying ht];done)
    |(simp only[Rep]at hx;cases fin h;obtain⟨_,_,_,_,rfl⟩:=hx;simp[uy,Op.equalIn,run_underlying ht];done)
  ·cases hn
 |_=>cases hn
def Ha{t t':bJ}{x y:bE}{u v:V}{b:Bool}(hx:Rep m Z u (ev ρr x))(hy:Rep m Z v (ev ρr y))(h:zab P t u v=bc b):
  ((bY (ev ρr) ⟨dst,.binOp .eql t x y t',ty,pos,aft,gd⟩).run P w=.ok (.value (.bool b)) w/\(bY (ev ρr) ⟨dst,.binOp .neq t x y t',ty,pos,aft,gd⟩).run P w=.ok (.value (.bool (!b))) w) /\
  ((bY (ev ρr) ⟨dst,.binOp .eql t y x t',ty,pos,aft,gd⟩).run P w=.ok (.value (.bool b)) w/\(bY (ev ρr) ⟨dst,.binOp .neq t y x t',ty,pos,aft,gd⟩).run P w=.ok (.value (.bool (!b))) w):=by
 unfold zab at h;split at h
 ·rename_i hh
  simp only[bn]at hh;obtain⟨h1,h2,h3,h4⟩:=zAc (P:=P) (w:=w) 9999 hx hy hh.2 hh.1 h;exact⟨zAb rfl rfl h1 h2 h3,zAb rfl rfl h2 h1 h4⟩
 ·cases h
def zT.tmps{ρ:Env}{f:bE->V}{g:bE->bu}:∀(l:List bE),(∀x∈l,Rep m Z (f x) (g x))->zT m Z (l.map f) (l.map g)
 |[],_=>rfl
 |x::l,h=>⟨_,_,rfl,h x al,zT.tmps (ρ:=ρ) l λy hy=>h y (mcQ _ hy)⟩
def zbw{off:Nat}{cs us:List V}{l k:List bu}(h:zT m Z cs l)(h':zT m Z us k):zT m Z (cs.take off++us++cs.drop (off+us.length)) (l.take off++k++l.drop (off+k.length)):=by
 rw[h'.length];exact((h.take off).append h').append (h.drop _)
def Wi{α:Type}(v:α):∀(l:List α)(n:Nat),n<l.length->(l.set n v).take (n+1)=l.take n++[v]
 |[],n,h=>by simp at h
 |a::l,0,_=>af
 |a::l,n+1,h=>by
  have:=Wi v l n (by simpa using h);simp[this]
def Wj{α:Type}(v:α):∀(l:List α)(n k:Nat),n<k->(l.set n v).drop k=l.drop k
 |[],n,k,_=>af
 |a::l,0,k+1,_=>af
 |a::l,n+1,k+1,h=>by
  have:=Wj v l n k ab;simp[this]
def zbx{α:Type}:∀(vs:List α)(j off:Nat)(a:Array α),off+j+vs.length<=a.size ->
  ((vs.zipIdx j).foldl (λcs (p:α×Nat)=>cs.setIfInBounds (off+p.2) p.1) a).toList=a.toList.take (off+j)++vs++a.toList.drop (off+j+vs.length)
 |[],j,off,a,_=>af
 |v::vs,j,off,a,h=>by
  simp only[lc]at h;rw[List.zipIdx_cons,List.foldl_cons,zbx vs (j+1) off _ (by simp;omega)]
  have hl:a.toList.length=a.size:=af
  simp only[Array.toList_setIfInBounds,lc];rw[<- ee off j 1,Wi v a.toList (off+j) ab,Wj v a.toList (off+j) _ ab];rw[asc,asc,asc]
  congr 1
  simp only[bU,bM]
  congr 3;omega
def zam{places:List (Nat×Nat)}{place:Nat->Option (Nat×Nat)}(hpl:∀i p,places[i]?=bc p->place i=bc p):∀{parts:List (Nat×V)}{ps:List (Nat×bu)}{cells r:List V}{a:Array bu},zT m Z cells a.toList ->
  (ps.map (·.1)=parts.map (·.1))->zT m Z (parts.map (·.2)) (ps.map (·.2))->zbv places cells parts=bc r->∃a':Array bu,Instr.fill place a ps=bc a'/\zT m Z r a'.toList
 |[],ps,cells,r,a,hc,h1,h2,h=>by
  simp only[zbv,Option.some.injEq]at h;subst h;simp at h1;subst h1;exact⟨a,rfl,hc⟩
 |(i,v)::parts,[],cells,r,a,hc,h1,h2,h=>by simp at h1
 |(i,v)::parts,(i',x)::ps,cells,r,a,hc,h1,h2,h=>by
  simp only[mk9,List.cons.injEq]at h1;obtain⟨rfl,h1⟩:=h1;obtain⟨y,ys,h3,h4,h5⟩:=h2;simp only[mk9,List.cons.injEq]at h3;obtain⟨rfl,rfl⟩:=h3;simp only[zbv]at h;split at h
  ·cases h
  ·rename_i off size hp
   split at h
   ·rename_i hk
    simp only[bn]at hk;obtain⟨hpv,hk1,hk2⟩:=hk;have hk1:=eb hk1;have hk2:=lb hk2;have hcv:=h4.cells hpv
    have hlen:x.cells.size=size:=by have:=hcv.length;simp at this;omega
    have hal:a.size=cells.length:=by have:=hc.length;simpa using this
    have hfold:=zbx x.cells.toList 0 off a (by simp;omega);simp only[dY]at hfold
    have hz:(x.cells.zipIdx.foldl (λcs (p:bu×Nat)=>cs.setIfInBounds (off+p.2) p.1) a)=(x.cells.toList.zipIdx 0).foldl (λcs (p:bu×Nat)=>cs.setIfInBounds (off+p.2) p.1) a:=by
     rw[<- Array.foldl_toList];simp
    have hpr:=zbw (off:=off) hc hcv
    have e:off+size=off+v.cells.length:=ab
    rw[e]at h;obtain⟨a',h6,h7⟩:=zam hpl (a:=x.cells.zipIdx.foldl (λcs (p:bu×Nat)=>cs.setIfInBounds (off+p.2) p.1) a) (by rw[hz,hfold];simpa using hpr) h1 h5 h;refine⟨a',?_,h7⟩;simp only[Instr.fill,hpl _ _ hp];rw[aO (by simp[hlen];omega)];exact h6
   ·cases h
end
section
variable{P:bm}{ρ:Env}{ρr:yL}{w:bG}{dst:Option Tmp}{ty:bJ}{pos:String}{aft:Array Edge}{gd:Option (Nat×Bool)}{m:Option M}{Z:ZM}
def Wk(a:Addr)(i j:Nat):(a.add i).add j=a.add (i+j):=Go.Deep.add_add a i j
def zG9{t off:Nat}{cs:List V}{v:V}{x:bE}{a:Addr}{mm:Option M}(hW:∀a x,Z a=bc x->w.cell? a=bc x)(hx:ev ρr x=.pointer (bc (a.add off)))(hr:AV Z a 0 cs)(h:atV P t cs off=bc v):
  ∃u,(bY (ev ρr) ⟨dst,.load t x,ty,pos,aft,gd⟩).run P w=.ok (.value u) w/\Rep mm Z v u:=by
 unfold atV at h;split at h
 ·rename_i hs
  split at h
  ·rename_i v' hv
   split at h
   ·cases h
    obtain⟨u,h1,h2⟩:=hr.get hv;rw[cI]at h1;exact⟨u,HY (u7 hs) hx (hW _ _ h1),h2.none_some⟩
   ·cases h
  ·cases h
 ·rename_i k hs
  split at h
  ·rename_i hk
   have hk:=lb hk;cases h
   have hex:∀j,j<k->∃u v,cs[off+j]?=bc v/\w.cell? (a.add (off+j))=bc u/\Rep bh Z v u:=λj hj=>by
    have hc:cs[off+j]?=bc (cs[off+j]'ab):=bA ab;obtain⟨u,h1,h2⟩:=hr.get hc;rw[cI]at h1;exact⟨u,_,hc,hW _ _ h1,h2⟩
   let us:List bu:=(cQ k).map λj=>((w.cell? (a.add (off+j))).getD Go.undef)
   have hus:us.length=k:=by simp[us]
   have hget:∀j,j<k->us[j]?=w.cell? (a.add (off+j)):=λj hj=>by
    obtain⟨u,v,_,h2,_⟩:=hex j hj;simp[us,hj,h2]
   refine⟨.agg us.toArray,Ay us (qL hs) hx hus λj u hj=>?_,us,rfl,?_⟩
   ·have hjk:j<k:=by have:=(bw.1 hj).1;omega
    rw[Wk,<- hget j hjk];exact hj
   ·refine zT.of_get (by simp[hus];omega) λj v u hv hu=>?_
    have hjk:j<k:=by have:=(bw.1 hu).1;omega
    rw[cJ,aP hjk,dw]at hv;obtain⟨u',v',h1,h2,h3⟩:=hex j hjk;rw[hv]at h1;cases h1;rw[hget j hjk,h2]at hu;cases hu;exact h3.none_some
  ·cases h
 ·cases h
def zw4{t off:Nat}{cs:List V}{v:V}{l:List bu}(hr:zT m Z cs l)(h:atV P t cs off=bc v):∃u,(part t l.toArray off).run P w=.ok u w/\Rep m Z v u:=by
 unfold atV at h;split at h
 ·rename_i hs
  split at h
  ·rename_i v' hv
   split at h
   ·cases h
    obtain⟨u,h1,h2⟩:=hr.get hv;exact⟨u,by simp[part,qD (u7 hs),h1],h2⟩
   ·cases h
  ·cases h
 ·rename_i k hs
  split at h
  ·rename_i hk
   have hk:=lb hk;cases h;obtain⟨d,i,hd,hn,hi,hik⟩:=id (qL hs);refine⟨.agg ((l.drop off).take k).toArray,?_,_,rfl,(hr.drop off).take k⟩
   have e:l.toArray.extract off (off+k)=((l.drop off).take k).toArray:=by
    apply gi;simp[fM]
   simp[part,HX (qL hs),sizeOf,typeInfo,hi,hik,e]
  ·cases h
 ·cases h
def zqg{t:bJ}{x:bE}{v r:V}(hx:Rep m Z v (ev ρr x))(h:zTn P t v=bc r):
  ∃u,(bY (ev ρr) ⟨dst,.call ⟨.builtin .len,#[x],#[t]⟩,ty,pos,aft,gd⟩).run P w=.ok (.value u) w/\Rep m Z r u:=by
 have hsl:∀{A n c},ev ρr x=.slice A n c->Wh P t=bf->(bY (ev ρr) ⟨dst,.call ⟨.builtin .len,#[x],#[t]⟩,ty,pos,aft,gd⟩).run P w=.ok (.value (i64 n)) w:=λhv hs=>by
  unfold Wh at hs;split at hs
  ·rename_i e ht;exact ze9 ht hv
  ·cases hs
 unfold zTn at h;split at h
 ·split at h
  ·rename_i ht
   cases h;exact⟨_,zqc ht hx,rfl⟩
  ·cases h
 ·split at h
  ·rename_i hs
   cases h;obtain⟨_,_,_,_,h3,_,hv|⟨h0,A,hv⟩|⟨_,h0,A,c',hv,_⟩⟩:=hx
   ·exact⟨_,hsl hv hs,rfl⟩
   ·have h6:=(Nat.add_eq_zero_iff.1 (Nat.le_zero.1 (h0▸h3))).2
    subst h6;exact⟨_,hsl hv hs,rfl⟩
   ·subst h0
    exact⟨_,hsl hv hs,rfl⟩
  ·cases h
 ·split at h
  ·rename_i hs
   cases h;obtain⟨_,_,hv,_⟩:=hx;exact⟨_,hsl hv hs,rfl⟩
  ·cases h
 ·split at h
  ·rename_i hs
   cases h;exact⟨_,hsl hx hs,rfl⟩
  ·cases h
 ·cases h
def zO6{α β:Type}{f:α->β}{l:List α}{b:β}(h:l.map f=[b]):∃x,l=[x]/\f x=b:=by
 match l,h with
 |[x],h=>exact⟨x,rfl,by simpa using h⟩
def zAd{α β:Type}{f:α->β}{l:List α}{b c:β}(h:l.map f=[b,c]):∃x y,l=[x,y]/\f x=b/\f y=c:=by
 match l,h with
 |[x,y],h=>exact⟨x,y,rfl,by simpa using h⟩
def zAe{α β:Type}{f:α->β}{l:List α}{b c d:β}(h:l.map f=[b,c,d]):∃x y z,l=[x,y,z]/\f x=b/\f y=c/\f z=d:=by
 match l,h with
 |[x,y,z],h=>exact⟨x,y,z,rfl,by simpa using h⟩
def zw5{op:Op}{v:V}(h:HZ P ρ op=bc v)(hops:∀x∈op.operands,Rep m Z (evV ρ x) (ev ρr x))(hW:∀a x,Z a=bc x->w.cell? a=bc x):
  ku op=bf/\∃u,(bY (ev ρr) ⟨dst,op,ty,pos,aft,gd⟩).run P w=.ok (.value u) w/\Rep m Z v u:=by
 unfold HZ at h;split at h
 ·cases h;exact⟨rfl,_,by simp[bY],hops _ (by simp[Op.operands])⟩
 ·cases h;exact⟨rfl,_,by simp[bY],hops _ (by simp[Op.operands])⟩
 ·rename_i c a b
  split at h
  ·rename_i t hc
   cases h;have h1:=hops c (by simp[Op.operands]);rw[hc]at h1;simp only[Rep]at h1;refine⟨rfl,_,?_,zG8 (t:=t) (hops a (by simp[Op.operands])) (hops b (by simp[Op.operands]))⟩;simp only[bY,h1,asBool];cases t<;>simp
  ·cases h
 ·rename_i op t x y t'
  have hx:=hops x (by simp[Op.operands]);have hy:=hops y (by simp[Op.operands]);split at h
  ·split at h
   ·rename_i b hb
    cases h;exact⟨rfl,_,(Ha hx hy hb).1.1,rfl⟩
   ·split at h
    ·rename_i b hb
     cases h;exact⟨rfl,_,(Ha hy hx hb).2.1,rfl⟩
    ·exact⟨rfl,YM hx hy h⟩
  ·split at h
   ·rename_i b hb
    cases h;exact⟨rfl,_,(Ha hx hy hb).1.2,rfl⟩
   ·split at h
    ·rename_i b hb
     cases h;exact⟨rfl,_,(Ha hy hx hb).2.2,rfl⟩
    ·exact⟨rfl,YM hx hy h⟩
  ·exact⟨rfl,YM hx hy h⟩
 ·rename_i t x
  have hx:=hops x (by simp[Op.operands]);split at h
  ·rename_i b hb
   cases h;rw[hb]at hx;simp only[Rep]at hx;exact⟨rfl,_,by simp[bY,hx,Op.unary],rfl⟩
  ·cases h
 ·rename_i t x
  have hx:=hops x (by simp[Op.operands]);split at h
  ·rename_i k n hb
   cases h;rw[hb]at hx;simp only[Rep]at hx;exact⟨rfl,_,by simp[bY,hx,Op.unary,Op.intArith],rfl⟩
  ·cases h
 ·rename_i x i
  have hx:=hops x (by simp[Op.operands]);split at h
  ·rename_i vs hv
   rw[hv]at hx;obtain⟨l,e,hl⟩:=hx;obtain⟨u,h1,h2⟩:=hl.get h;exact⟨rfl,u,by simp[bY,e,Instr.extract,h1],h2⟩
  ·cases h
 ·rename_i f first cap
  cases h
  have e:∀l:Array bE,l.map (ev ρr)=(l.toList.map (ev ρr)).toArray:=λl=>gi af
  refine⟨rfl,.func (.func f) (first.toList.map (ev ρr)).toArray (cap.toList.map (ev ρr)).toArray,by simp only[bY,Instr.makeFunc,e];rfl,_,_,rfl,?_,?_⟩
  ·exact zT.tmps (ρ:=ρ) _ λx hx=>hops x (by simp[Op.operands];exact .inl (by simpa using hx))
  ·exact zT.tmps (ρ:=ρ) _ λx hx=>hops x (by simp[Op.operands];exact .inr (by simpa using hx))
 ·rename_i src dst' x
  have hx:=hops x (by simp[Op.operands]);unfold zUm at h;split at h
  ·rename_i d k k' n h1 h2 h3
   cases h;rw[h3]at hx;simp only[Rep]at hx;refine⟨rfl,_,?_,rfl⟩;simp[bY,convert,run_underlying h1,run_underlying h2,hx,Conv.intToInt]
  ·rename_i d l h1 h2 h3
   cases h;rw[h3]at hx;simp only[Rep]at hx;refine⟨rfl,_,?_,rfl⟩;simp[bY,convert,run_underlying h1,run_underlying h2,hx]
  ·cases h
 ·rename_i s x f
  have hx:=hops x (by simp[Op.operands]);split at h
  ·rename_i o ho
   have hF:=zqf ho;split at h
   ·rename_i k L off hv
    cases h;rw[hv]at hx;obtain⟨g,loc,h1,h2,h3⟩:=hx;exact⟨rfl,_,YJ hF rfl h3,g,loc,h1,h2,rfl⟩
   ·rename_i cs off hv
    cases h;rw[hv]at hx;obtain⟨a,h1,h2⟩:=hx;exact⟨rfl,_,Wf hF h1,a,by rw[Wk],h2⟩
   ·cases h
  ·cases h
 ·rename_i s x f
  have hx:=hops x (by simp[Op.operands]);split at h
  ·rename_i cs hv
   rw[hv]at hx;obtain⟨l,e,hl⟩:=hx;unfold zl3 at h;split at h
   ·rename_i fs hs
    split at h
    ·rename_i fld hf
     obtain⟨u,h1,h2⟩:=zw4 (w:=w) hl h;exact⟨rfl,u,by simp[bY,Instr.field,run_underlying hs,hf,e,asAgg,h1],h2⟩
    ·cases h
   ·cases h
  ·cases h
 ·rename_i t x
  have hx:=hops x (by simp[Op.operands]);split at h
  ·rename_i cs off hv
   rw[hv]at hx;obtain⟨a,h1,h2⟩:=hx;exact⟨rfl,zG9 hW h1 h2 h⟩
  ·cases h
 ·rename_i x
  have hx:=hops x (by simp[Op.operands]);split at h
  ·rename_i hv
   cases h;rw[hv]at hx;obtain⟨g,loc,h1,h2,h3⟩:=id hx;exact⟨rfl,_,by simp[bY,h3];rfl,by rw[h3]at hx;exact hx⟩
  ·rename_i hv
   cases h;rw[hv]at hx;obtain⟨a,h3,h4⟩:=id hx;exact⟨rfl,_,by simp[bY,h3];rfl,by rw[h3]at hx;exact hx⟩
  ·rename_i hv
   cases h;rw[hv]at hx;obtain⟨a,b,h3,h4⟩:=id hx;exact⟨rfl,_,by simp[bY,h3];rfl,by rw[h3]at hx;exact hx⟩
  ·cases h
 ·rename_i b args ts
  obtain⟨args⟩:=args;obtain⟨ts⟩:=ts;refine⟨rfl,?_⟩
  have hop:∀x∈args,Rep m Z (evV ρ x) (ev ρr x):=λx hx=>hops x (by simp[Op.operands,Call.operands,hx])
  unfold biV at h;simp only at h;split at h
  ·split at h
   ·rename_i v t hv
    obtain⟨x,rfl,rfl⟩:=zO6 hv;exact zqg (hop x af) h
   ·cases h
  ·split at h
   ·rename_i k a k' b hv
    obtain⟨x,y,rfl,hv2⟩:=zAd hv
    ·skip
     have hx:=hop x af;have hy:=hop y af;rw[hv2.1]at hx;rw[hv2.2]at hy;split at h
     ·rename_i hk;subst hk;cases h
      have h':(if b<a then b else a)=min a b:=ab
      exact⟨_,by simp[bY,resolve,invoke,builtin,(show ev ρr x=_ from hx),(show ev ρr y=_ from hy),Builtin.min_,Builtin.min2,h'],rfl⟩
     ·cases h
   ·cases h
  ·split at h
   ·rename_i k a k' b hv
    obtain⟨x,y,rfl,hv2⟩:=zAd hv
    ·skip
     have hx:=hop x af;have hy:=hop y af;rw[hv2.1]at hx;rw[hv2.2]at hy;split at h
     ·rename_i hk;subst hk;cases h
      have h':(if b>a then b else a)=max a b:=ab
      exact⟨_,by simp[bY,resolve,invoke,builtin,(show ev ρr x=_ from hx),(show ev ρr y=_ from hy),Builtin.max_,Builtin.max2,h'],rfl⟩
     ·cases h
   ·rename_i k a k' b k'' c hv
    obtain⟨x,y,z,rfl,hv2⟩:=zAe hv
    ·skip
     have hx:=hop x af;have hy:=hop y af;have hz:=hop z af;rw[hv2.1]at hx;rw[hv2.2.1]at hy;rw[hv2.2.2]at hz;split at h
     ·rename_i hk;subst hk
      split at h
      ·rename_i hk;subst hk;cases h
       have h1:(if b>a then b else a)=max a b:=ab
       have h2:(if c>max a b then c else max a b)=max (max a b) c:=ab
       exact⟨_,by simp[bY,resolve,invoke,builtin,(show ev ρr x=_ from hx),(show ev ρr y=_ from hy),(show ev ρr z=_ from hz),Builtin.max_,Builtin.max2,h1,h2],rfl⟩
      ·cases h
     ·cases h
   ·cases h
  ·cases h
 ·rename_i t parts
  obtain⟨cs,hb,rfl⟩:=cv.1 h
  have hparts:zT m Z ((parts.toList.map λp=>(p.1,evV ρ p.2)).map (·.2)) ((parts.toList.map λp=>(p.1,ev ρr p.2)).map (·.2)):=by
   rw[cS,cS]
   refine zT.of_get af λi v x hv hx=>?_
   rw[cK]at hv hx;obtain⟨p,hp,rfl⟩:=cv.1 hv;rw[hp]at hx;simp only[da,Option.some.injEq,Function.comp]at hx;subst hx;exact hops p.2 (by have:=bP hp;simp only[Op.operands,iw];exact cw this)
  have hfst:(parts.toList.map λp=>(p.1,ev ρr p.2)).map (·.1)=(parts.toList.map λp=>(p.1,evV ρ p.2)).map (·.1):=af
  have key:∃a:Array bu,P.built t (parts.toList.map λp=>(p.1,ev ρr p.2))=bc a/\zT m Z cs a.toList:=by
   unfold ztj at hb;unfold Program.built;split at hb
   ·rename_i it fields h1 h2
    simp only[h1,h2];split at hb
    ·rename_i z places h3 h4
     simp only[h3,h4];exact zam (places:=places) (by intro i p hp;simpa using hp) (A9 _) hfst hparts hb
    ·cases hb
   ·rename_i it n e h1 h2
    simp only[h1,h2];split at hb
    ·rename_i z ie h3 h4
     simp only[h3,h4];refine zam (places:=(cQ n).map λi=>(i*ie.size,ie.size)) ?_ (A9 _) hfst hparts hb;intro i p hp;rw[cK]at hp;obtain⟨j,hj,rfl⟩:=cv.1 hp
     have hlt:i<n:=by have:=(bw.1 hj).1;simpa using this
     rw[dG hlt]at hj;cases hj;rfl
    ·cases hb
   ·cases hb
  obtain⟨a,ha,hr⟩:=key;refine⟨rfl,.agg a,?_,a.toList,af,hr⟩;have:=zw3 (P:=P) (ρ:=ρr) (w:=w) (dst:=dst) (ty:=ty) (pos:=pos) (aft:=aft) (gd:=gd) (t:=t) (parts:=parts.toList) _ a.toList rfl (by simpa using ha);simpa using this
 ·cases h
end
section
variable{m m':M}{Z Z':ZM}{w w':bG}{k:Nat}{o o':Obj}{b:Nat}
def Wl(ob:Go.Obj){j:Nat}(h:j<w.heap.size):(w.alloc ob).heap[j]?=w.heap[j]?:=Below.heap_alloc w ob j h
def vK(hf:∀a x,Z a=bc x->w.cell? a=bc x){a:Addr}{x:bu}(ha:Z a=bc x):a.block<w.heap.size:=World.block_lt_of_cell? w a (hf a x ha)
def Hb{a:Addr}(h:w'.heap[a.block]?=w.heap[a.block]?):w'.cell? a=w.cell? a:=by simp only[World.cell?,h]
def Step.new(ob:Go.Obj)(loc:Nat)(hf:∀a x,Z a=bc x->w.cell? a=bc x)(hm:∀L,m k L=bh)
  (hh:∀m',m' k o.ver=bc (w.heap.size,loc)->(∀L l,m' k L=bc l->L=o.ver)->(∀k L l,m k L=bc l->m' k L=bc l)->Holds m' Z (w.alloc ob) k o):
  ∃m',Step m Z [] w m' Z [(k,o)] (w.alloc ob)/\m' k o.ver=bc (w.heap.size,loc):=by
 let m':M:=λk' L=>if k'=k then(if L=o.ver then bc (w.heap.size,loc)else bh)else m k' L
 have h1:m' k o.ver=bc (w.heap.size,loc):=by simp[m']
 have h2:∀k L l,m k L=bc l->m' k L=bc l:=λk' L l e=>by
  by_cases hk:k'=k
  ·subst hk;rw[hm]at e;cases e
  ·simp[m',hk,e]
 have h3:∀L l,m' k L=bc l->L=o.ver:=λL l e=>by
  simp only[m',if_true]at e;split at e
  ·assumption
  ·cases e
 refine⟨m',⟨⟨λa x ha=>?_,λp hp=>?_,by simp[keys],λp hp q hq _ _ _=>?_⟩,h2,λ_ _ e=>e,rfl,rfl,rfl,by rw[World.size_alloc];omega,λb hb _=>Wl ob hb,λk hk=>(by cases hk),λk' hk=>?_,λp hp b hb=>?_,λa x ha=>.inl ha⟩,h1⟩
 ·rw[Hb (Wl ob (vK hf ha))];exact hf a x ha
 ·simp only[msQ]at hp
  subst hp;exact hh m' h1 h3 h2
 ·simp only[msQ]at hp hq
  subst hp;subst hq;rfl
 ·funext L
  have:k'≠k:=by simpa[keys]using hk
  simp[m',this]
 ·simp only[msQ]at hp
  subst hp;obtain⟨j,c,e1,_⟩:=zGz hb;have e2:=h3 _ _ e1;subst e2;rw[h1]at e1;cases e1;exact .inl aq
def Obj.single:Obj->Bool|.nest ..|.gen _=>bd|_=>bf
def zby{m:M}{k:Nat}{o o':Obj}(hv:o'.ver=o.ver)(h1:o.single=bf)(h2:o'.single=bf)(b:Nat)(h:blk m (k,o') b):blk m (k,o) b:=by
 cases o<;>cases o'<;>simp only[Obj.single,cF]at h1 h2<;>(simp only[blk,u6,hv]at h ⊢;exact h)
def Step.write(hs:wQ m Z [(k,o)] w)(hb:blk m (k,o) b)(hv:∀b2,blk m (k,o') b2->blk m (k,o) b2)(h1:w'.os=w.os)(h2:w'.tape=w.tape)(h3:w'.output=w.output)(h4:w'.heap.size=w.heap.size)
  (hw:∀j,j≠b->w'.heap[j]?=w.heap[j]?) (hz:∀a x,Z a=bc x->a.block=b->w'.cell? a=bc x) (hh:Holds m Z w' k o'):Step m Z [(k,o)] w m Z [(k,o')] w':=by
 refine⟨⟨λa x ha=>?_,λp hp=>?_,by simp[keys],λp hp q hq _ _ _=>?_⟩,λ_ _ _ e=>e,λ_ _ e=>e,h1,h2,h3,ab,λj hj hn=>hw j λe=>?_,λk hk=>?_,λ_ _=>rfl,λp hp b2 hb2=>?_,λa x ha=>.inl ha⟩
 ·by_cases e:a.block=b
  ·exact hz a x ha e
  ·rw[Hb (hw _ e)];exact hs.frozen a x ha
 ·simp only[msQ]at hp
  subst hp;exact hh
 ·simp only[msQ]at hp hq
  subst hp;subst hq;rfl
 ·subst e;exact hn _ (msQ.2 rfl) hb
 ·simpa[keys]using hk
 ·simp only[msQ]at hp
  subst hp;exact .inr ⟨_,msQ.2 rfl,hv _ hb2⟩
end
def H0(P:bm)(t n:Nat):Bool:=match P.info? t with|some i=>bk i.size n|none=>bd
def zeroV(P:bm)(t:Nat):Option (List V) :=
 match P.info? t with
 |some i=>match i.zero with|some z=>bc (z.cells.toList.map zte)|none=>bh
 |none=>bh
def J4(P:bm)(t:Nat):Option (Nat×Nat) :=
 match P.underlying t with
 |some (.slice e)=>match P.info? e with
  |some i=>if cm 1 i.size&&i.zero.isSome then bc (e,i.size)else bh
  |none=>bh
 |_=>bh
def zw6(n sz:Nat)(parts:List (Nat×V)):Option (List (List V)) :=
 if(parts.map (·.1))=cQ n then
  if parts.all (λp=>p.2.plain&&(bk p.2.cells.length sz&&(p.2.cells.all V.one&&p.2.refs.isEmpty)))then bc (parts.map (·.2.cells))else bh
 else bh
section
variable{P:bm}{ρ:Env}{w:bG}{dst:Option Tmp}{ty:bJ}{pos:String}{aft:Array Edge}{gd:Option (Nat×Bool)}
def zHa{op:Op}{v:V}(h:HZ P ρ op=bc v):Loc P ⟨dst,op,ty,pos,aft,gd⟩ ρ [] v []:=by
 intro ρr m Z w hops hs _;obtain⟨hn,u,h1,h2⟩:=zw5 (P:=P) (w:=w) (dst:=dst) (ty:=ty) (pos:=pos) (aft:=aft) (gd:=gd) h hops hs.frozen;exact⟨hn,.inl ⟨u,w,h1,m,Z,Step.refl hs,h2⟩⟩
def ztk{t k off:Nat}{a:bE}{bt:Nat}{cs:List V}{v:V}(ha:evV ρ a=.ptr k 0 off)(h:atV P t cs off=bc v):Loc P ⟨dst,.load t a,ty,pos,aft,gd⟩ ρ [(k,.box bt cs)] v [(k,.box bt cs)]:=by
 intro ρr m Z w hops hs _;have hx:=hops a (by simp[Op.operands]);rw[ha]at hx;obtain⟨f,loc,h1,h2,h3⟩:=hx;cases h1;obtain⟨b,cur,g1,g2,g3,g4,g5⟩:=hs.holds _ (msQ.2 rfl);rw[g1]at h2;cases h2
 have hcell:∀j u,cur.toList[j]?=bc u->w.cell? ⟨b,j,bh⟩=bc u:=λj u hu=>by
  rw[cell_of_row w b j cur bt (0,0) g2];simpa using hu
 refine⟨rfl,.inl ?_⟩;unfold atV at h;split at h
 ·rename_i hsh
  split at h
  ·rename_i v' hv
   split at h
   ·cases h
    obtain⟨u,h4,h5⟩:=g3.get hv;exact⟨u,w,HY (u7 hsh) h3 (hcell _ _ h4),m,Z,Step.refl hs,h5⟩
   ·cases h
  ·cases h
 ·rename_i n hsh
  split at h
  ·rename_i hk
   have hk:=lb hk;cases h;have hl:=g3.length;refine⟨.agg ((cur.toList.drop off).take n).toArray,w,Ay _ (qL hsh) h3 (by simp at hl ⊢;omega) λj u hj=>?_,m,Z,Step.refl hs,_,rfl,(g3.drop off).take n⟩;rw[Addr.add_lit]
   have hjn:j<n:=by have:=(bw.1 hj).1;simp at this;omega
   rw[cJ,aP hjn,dw]at hj;exact hcell _ _ hj
  ·cases h
 ·cases h
def zAf{t k off bt:Nat}{a x:bE}{cs:List V}(ha:evV ρ a=.ptr k 0 off)(hp:(evV ρ x).plain=bf)(h1:(evV ρ x).cells.all V.one=bf)(hsz:H0 P t (evV ρ x).cells.length=bf)(hfit:off+(evV ρ x).cells.length<=cs.length):
  Loc P ⟨dst,.store t a x,ty,pos,aft,gd⟩ ρ [(k,.box bt cs)] .no [(k,.box bt (cs.take off++(evV ρ x).cells++cs.drop (off+(evV ρ x).cells.length)))]:=by
 intro ρr m Z w hops hs _;have hx:=hops a (by simp[Op.operands]);rw[ha]at hx;obtain⟨f,loc,e1,h2,h3⟩:=hx;cases e1;obtain⟨b,cur,g1,g2,g3,g4,g5⟩:=hs.holds _ (msQ.2 rfl);rw[g1]at h2;cases h2;have hv:=(hops x (by simp[Op.operands])).cells hp;have hlv:=hv.length;have hl:=g3.length
 have hones:∀u∈(ev ρr x).cells.toList,u.oneCell'=bf:=λu hu=>by
  obtain⟨i,hi,he⟩:=dE hu
  have hg:(ev ρr x).cells.toList[i]?=bc u:=by rw[<- he];exact bA hi
  have hvi:(evV ρ x).cells[i]?=bc ((evV ρ x).cells[i]'ab):=bA ab;obtain⟨u',h4,h5⟩:=hv.get hvi;rw[hg]at h4;cases h4;exact h5.one ((bj.1 h1) _ (dL _))
 unfold H0 at hsz;split at hsz
 ·rename_i i hi
  have hik:=eb hsz;have hst:=run_storeCells_at P b off bt (ev ρr x).cells.toList 0 cur w g2 (by simp at hl hlv ⊢;omega) hones;simp only[dY]at hst
  have e:(ev ρr x).cells=(ev ρr x).cells.toList.toArray:=af
  refine⟨rfl,.inr (.inl ⟨w.setRow b (cur.toList.take off++(ev ρr x).cells.toList++cur.toList.drop (off+(ev ρr x).cells.toList.length)).toArray,?_,m,Z,?_,rfl⟩)⟩
  ·have hsz2:(ev ρr x).cells.size=i.size:=by simp at hlv;omega
   simp[bY,Instr.storeAt,h3,Instr.sureAddr,storeVar,sizeOf,typeInfo,hi,hsz2,hst]
  ·refine Step.write (b:=b) hs (by simp[blk,u6,Obj.ver,g1]) (zby rfl rfl rfl) rfl rfl rfl af (λj hj=>setRow_other w b j _ hj) (λa x ha e=>aU e (g4 a x ha)) ?_
   exact⟨b,_,g1,setRow_heap w b _ _ bt _ g2,by simpa using zbw (off:=off) g3 hv,g4,g5⟩
 ·cases hsz
def zAg{t d:Nat}{cs:List V}(h:zeroV P t=bc cs):Loc P ⟨dst,.alloc t,ty,pos,aft,gd⟩ ρ [] (.ptr d 0 0) [(d,.box t cs)]:=by
 intro ρr m Z w hops hs hfr;unfold zeroV at h;split at h
 ·rename_i i hi
  split at h
  ·rename_i z hz
   cases h
   obtain⟨m',h1,h2⟩:=Step.new (m:=m) (Z:=Z) (w:=w) (k:=d) (o:=.box t (z.cells.toList.map zte)) (.cells z.cells t) 1 hs.frozen (λL=>hfr d (by simp[keys]) (by simp[keys]) L) λm' g1 g2 g3 =>
    ⟨w.heap.size,z.cells,g1,World.alloc_heap_new w _,A9 _,λa x ha e=>by have:=vK hs.frozen ha;omega,λL l e=>by have:=g2 L l e;simp only[Obj.ver]at this;omega⟩
   refine⟨rfl,.inl ⟨.pointer (bc ⟨w.heap.size,0,bh⟩),w.alloc (.cells z.cells t),?_,m',Z,h1,m',_,rfl,h2,rfl⟩⟩;simp[bY,Instr.alloc,zeroValue,typeInfo,hi,hz,newVar,newRow,newObj];rfl
  ·cases h
 ·cases h
def zO7{t d:Nat}{x:bE}(hp:(evV ρ x).plain=bf):Loc P ⟨dst,.box t x,ty,pos,aft,gd⟩ ρ [] (.ptr d 0 0) [(d,.box t (evV ρ x).cells)]:=by
 intro ρr m Z w hops hs hfr;have hv:=(hops x (by simp[Op.operands])).cells hp
 obtain⟨m',h1,h2⟩:=Step.new (m:=m) (Z:=Z) (w:=w) (k:=d) (o:=.box t (evV ρ x).cells) (.cells (ev ρr x).cells t) 1 hs.frozen (λL=>hfr d (by simp[keys]) (by simp[keys]) L) λm' g1 g2 g3 =>
  ⟨w.heap.size,(ev ρr x).cells,g1,World.alloc_heap_new w _,hv.up (λ_ _ e=>e) (λf e=>by cases e;exact⟨m',rfl,g3⟩),λa x ha e=>by have:=vK hs.frozen ha;omega,λL l e=>by have:=g2 L l e;simp only[Obj.ver]at this;omega⟩
 refine⟨rfl,.inl ⟨.pointer (bc ⟨w.heap.size,0,bh⟩),w.alloc (.cells (ev ρr x).cells t),?_,m',Z,h1,m',_,rfl,h2,rfl⟩⟩;simp[bY,Instr.box,newVar,newRow,newObj];rfl
def zbz{t d:Nat}:Loc P ⟨dst,.makeMap t bh,ty,pos,aft,gd⟩ ρ [] (.mp d) [(d,.map [])]:=by
 intro ρr m Z w hops hs hfr
 obtain⟨m',h1,h2⟩:=Step.new (m:=m) (Z:=Z) (w:=w) (k:=d) (o:=.map []) (.map #[] 0) 1 hs.frozen (λL=>hfr d (by simp[keys]) (by simp[keys]) L) λm' g1 g2 g3 =>
  ⟨w.heap.size,#[],0,g1,World.alloc_heap_new w _,rfl,af,af,λa x ha e=>by (have:=vK hs.frozen ha;omega),0,λL l e=>by have:=g2 L l e;simp only[Obj.ver]at this;omega⟩
 refine⟨rfl,.inl ⟨.map (bc w.heap.size),w.alloc (.map #[] 0),?_,m',Z,h1,m',_,rfl,h2,rfl⟩⟩;simp[bY,Instr.makeMap,newObj];rfl
def zl4{n sz:Nat}:∀(parts:List (Nat×V))(j:Nat)(cells:List V),parts.map (·.1)=List.range' j parts.length->j+parts.length=n->cells.length=n*sz->(∀p∈parts,p.2.plain=bf/\p.2.cells.length=sz) ->
  zbv ((cQ n).map λi=>(i*sz,sz)) cells parts=bc (cells.take (j*sz)++(parts.map (·.2.cells)).flatten)
 |[],j,cells,_,hn,hc,_=>by
  simp only[zbv,cT,List.flatten_nil,bI,Option.some.injEq];rw[db];simp at hn;subst hn;omega
 |(i,v)::parts,j,cells,h1,hn,hc,hp=>by
  simp only[mk9,lc,iC,List.cons.injEq]at h1 hn;obtain⟨rfl,h1⟩:=h1;obtain⟨hv,hvl⟩:=hp (i,v) al
  have hin:i<n:=ab
  have hpl:((cQ n).map λi=>(i*sz,sz))[i]?=bc (i*sz,sz):=by
   rw[cK,dG hin];rfl
  have hle:i*sz+sz<=n*sz:=by
   have:(i+1)*sz<=n*sz:=cr sz hin
   rwa [dq]at this
  simp only[zbv,hpl,hv,hvl,cD,Bool.true_and]
  have hb:cm (i*sz+sz) cells.length=bf:=by rw[hc];exact Nat.ble_eq_true_of_le hle
  rw[aP hb];rw[zl4 parts (i+1) _ h1 ab (by simp only[la,cE,cz,hvl,hc];omega) (λp hp'=>hp p (mcQ _ hp'))]
  congr 1
  have e:(i+1)*sz=(cells.take (i*sz)++v.cells).length:=by simp[hvl,dq];omega
  rw[e,List.take_left' rfl];simp
def zfb{t d e n sz:Nat}{parts:List (Nat×bE)}{els:List (List V)}(hT:J4 P t=bc (e,sz))(hsz:cm (n*sz) 16777216=bf)(h:zw6 n sz (parts.map λp=>(p.1,evV ρ p.2))=bc els):
  Loc P ⟨dst,.buildSlice t n parts.toArray,ty,pos,aft,gd⟩ ρ [] (.sl sz d n 0 n) [(d,.row e sz 0 els)]:=by
 intro ρr m Z w hops hs hfr;have hsz:=lb hsz;unfold J4 at hT;split at hT
 ·rename_i e' hu
  split at hT
  ·rename_i i hi
   split at hT
   ·rename_i hc
    simp only[Option.some.injEq,Prod.mk.injEq]at hT;obtain⟨rfl,rfl⟩:=hT;simp only[bn]at hc;have h0:=lb hc.1;obtain⟨z,hz⟩:=Option.isSome_iff_exists.1 hc.2;unfold zw6 at h;split at h
    ·rename_i hpos
     split at h
     ·rename_i hall
      cases h
      have hlen:parts.length=n:=by have:=aQ bg hpos;simpa using this
      have hall':∀p∈parts.map (λp=>(p.1,evV ρ p.2)),p.2.plain=bf/\p.2.cells.length=i.size/\p.2.cells.all V.one=bf/\p.2.refs=[]:=λp hp=>by
       have:=(bj.1 hall) p hp;simp only[bn,eh]at this;exact⟨this.1,eb this.2.1,this.2.2.1,this.2.2.2⟩
      have hcells:((gH (n*i.size)).map λj=>z.cells[j % z.cells.size]!).toList.length=n*i.size:=af
      have hfill:=zl4 (n:=n) (sz:=i.size) (parts.map λp=>(p.1,evV ρ p.2)) 0 (((gH (n*i.size)).map λj=>z.cells[j % z.cells.size]!).toList.map λ_=>V.undef) (by rw[hpos];simp[List.range_eq_range',hlen]) (by simp[hlen]) af (λp hp=>⟨(hall' p hp).1,(hall' p hp).2.1⟩);simp only[ej,List.take_zero,bM]at hfill
      have hun:∀l:List bu,zT (bc m) Z (l.map λ_=>V.undef) l:=λl=>by
       induction l with
       |nil=>rfl
       |cons x l ih=>exact⟨x,l,rfl,trivial,ih⟩
      obtain⟨a',hf1,hf2⟩:=zam (m:=bc m) (Z:=Z) (places:=(cQ n).map λj=>(j*i.size,i.size)) (place:=λj=>bc (j*i.size,i.size)) (by
       intro j p hp;rw[cK]at hp;obtain⟨j',hj',rfl⟩:=cv.1 hp
       have hlt:j<n:=by have:=(bw.1 hj').1;simpa using this
       rw[dG hlt]at hj'
       cases hj';rfl) (ps:=parts.map λp=>(p.1,ev ρr p.2)) (hun _) af (by
        rw[cS,cS]
        refine zT.of_get af λi v x hv hx=>?_
        rw[cK]at hv hx;obtain⟨p,hp,rfl⟩:=cv.1 hv;rw[hp]at hx;simp only[da,Option.some.injEq,Function.comp]at hx;subst hx
        exact hops p.2 (by have:=bP hp;simp only[Op.operands,iw];exact cw this)) hfill
      have hels:(((parts.map λp=>(p.1,evV ρ p.2)).map (·.2.cells)):List (List V)).length=n:=by simp[hlen]
      have hflat:∀l:List (Nat×V),(∀p∈l,p.2.refs=[])->wP (l.map (·.2.cells)).flatten=[]:=λl=>by
       induction l with
       |nil=>intro _;rfl
       |cons p l ih =>
        intro hp
        have happ:∀a b:List V,wP (a++b)=wP a++wP b:=λa b=>by
         induction a with
         |nil=>rfl
         |cons x a ih=>simp[wP,ih]
        rw[mk9,cO,happ,ih (λq hq=>hp q (mcQ _ hq)),bI];have h1:=hp p al;cases hv:p.2<;>rw[hv]at h1<;>simp only[V.cells,wP,bI]<;>exact h1
      have hla:∀l:List (Nat×V),(∀p∈l,p.2.cells.length=i.size)->(l.map (·.2.cells)).flatten.length=l.length*i.size:=λl=>by
       induction l with
       |nil=>intro _;simp
       |cons p l ih =>
        intro hp;rw[mk9,cO,la,ih (λq hq=>hp q (mcQ _ hq)),hp p al,lc,dq];omega
      have hasz:a'.size=n*i.size:=by
       have h1:=hf2.length;rw[hla _ (λp hp=>(hall' p hp).2.1)]at h1;simpa[hlen]using h1
      have hf3:=zT.flat _ _ (hflat _ λp hp=>(hall' p hp).2.2.2) hf2
      have hnm:n<=maxLen:=by
       have:n<=n*i.size:=Nat.le_mul_of_pos_right n h0;simp only[maxLen];omega
      obtain⟨m',h1,h2⟩:=Step.new (m:=m) (Z:=Z) (w:=w) (k:=d) (o:=.row e' i.size 0 ((parts.map λp=>(p.1,evV ρ p.2)).map (·.2.cells))) (.cells a' e') n hs.frozen (λL=>hfr d (by simp[keys]) (by simp[keys]) L) λm' g1 g2 g3=>by
       by_cases hn0:n=0
       ·have he:((parts.map λp=>(p.1,evV ρ p.2)).map (·.2.cells))=[]:=cH (by rw[hels,hn0])
        have hv0:(Obj.row e' i.size 0 ((parts.map λp=>(p.1,evV ρ p.2)).map (·.2.cells))).ver=0:=by simp only[Obj.ver];rw[hels,hn0]
        rw[hv0]at g1;subst hn0;exact .inl ⟨h0,he,rfl,⟨_,g1⟩,λL l e=>by have:=g2 L l e;rw[hv0]at this;omega⟩
       refine .inr ⟨w.heap.size,n,a',(0,0),g1,ab,World.alloc_heap_new w _,by rw[hels];exact dk _,hnm,hasz,h0,?_,?_,af,af,λa x ha e=>by have:=vK hs.frozen ha;omega,λL l e=>by have:=g2 L l e;simp only[Obj.ver]at this;omega,λoff x ho=>ab⟩
       ·rw[hels,db (by simp[hasz])]
        exact hf3
       ·intro x hx
        obtain⟨p,hp,rfl⟩:=bx.1 hx;exact(hall' p hp).2.1
      have hver:(Obj.row e' i.size 0 ((parts.map λp=>(p.1,evV ρ p.2)).map (·.2.cells))).ver=n:=hels;rw[hver]at h2;refine⟨rfl,.inl ⟨.slice (bc ⟨w.heap.size,0,bh⟩) n n,w.alloc (.cells a' e'),?_,m',Z,h1,m',_,rfl,h2,af,hnm,.inl af⟩⟩
      have e2:(parts.toArray.map λx=>(x.1,ev ρr x.2)).toList=parts.map λp=>(p.1,ev ρr p.2):=af
      have hgt:¬n*i.size>2 ^ 24:=ab
      simp only[bY,Instr.buildSlice,Sem.run_bind,run_underlying hu,Result.andThen_ok,sizeOf,typeInfo];simp only[program,Sem.run,hi,Sem.run_bind,Sem.run_pure,Result.andThen_ok,aO hgt,e2];by_cases hn0:n*i.size=0
      ·have hA:∀f:Nat->bu,(gH (n*i.size)).map f=#[]:=λf=>by
        have e0:gH 0=(#[]:Array Nat):=rfl;rw[hn0,e0];simp
       rw[hA]at hf1;simp only[aP hn0,Sem.run_pure,Result.andThen_ok,hA,hf1];simp[newRow,newObj];rfl
      ·simp only[aO hn0,Sem.run_bind,zeroValue,typeInfo,program,Sem.run,hi,hz,Sem.run_pure,Result.andThen_ok,hf1]
       simp[newRow,newObj];rfl
     ·cases h
    ·cases h
   ·cases hT
  ·cases hT
 ·cases hT
end
def ax.set:ax->Nat->Obj->ax
 |[],_,_=>[]
 |(k',o')::r,k,o=>bif bk k k' then(k',o)::r else(k',o')::ax.set r k o
def kv(k:Nat):ax->Bool
 |[]=>bd
 |(k',_)::r=>bif bk k k' then bf else kv k r
def yR{k:Nat}:∀{H:ax},kv k H=bf↔k∈keys H
 |[]=>by simp[kv,keys]
 |(k',o)::r=>by
  simp only[kv,keys,mk9,bp]
  cases hb:bk k k' with
  |true=>simp[eb hb]
  |false =>
   have:k≠k':=λe=>by subst e;rw[cD]at hb;cases hb
   simp only[cf,this,false_or];exact yR
def zO8{H:ax}{k:Nat}{o:Obj}(h:H.get k=bc o):ux [k] H=bc [(k,o)]:=by simp[ux,h]
def zlr(d:Option Nat)(v:V)(ρ:Env):Env:=match d with|some d=>(d,v)::ρ|none=>ρ
section
variable{K0:List Nat}{c:Ctx K0}{P:bm}{r:Option Nat}{N:Nat}{Q:wj}{ρ:Env}{H H':ax}{ds:List cb}{all rest:List Oper}{o:Oper}
def QB.perm{ρr:yL}{w:bG}(hp:H.Perm H')(S:QB c ρ H ρr w):QB c ρ H' ρr w:=by
 obtain⟨m,Z,S,hR⟩:=S;exact⟨m,Z,⟨S.step.permR hp,λk hk=>S.dom k λh=>hk ((hp.map _).mem_iff.1 h)⟩,hR⟩
def zO9(hp:H.Perm H')(h:ze2 c P r N all Q rest ρ H' ds):ze2 c P r N all Q rest ρ H ds:=λρr w ds1 S hM=>h ρr w ds1 (S.perm hp) hM
def zHb(h:(keys H).Nodup->ze2 c P r N all Q rest ρ H ds):ze2 c P r N all Q rest ρ H ds:=λρr w ds1 S hM=>by
 obtain⟨m,Z,S',hR⟩:=id S;exact h S'.step.sim.nodup ρr w ds1 S hM
def zUn{F F':ax}{v:V}(ks:List Nat)(hd:(match o.dst with|some d=>cm (d+1) N|none=>bf)=bf)(hw:xx all ρ o=bc bf)(hks:yt ks=bf)(hF:ux ks H=bc F)(hl:Loc P o ρ F v F')(hfr:Kw F' ks H=bf)
  (h:ze2 c P r N all Q rest (zlr o.dst v ρ) (F'++qK ks H) ds):ze2 c P r N all Q (o::rest) ρ H ds:=by
 cases hd':o.dst with
 |none=>rw[hd']at h;exact zO1 ks hd' hw hks hF hl hfr h
 |some d=>rw[hd']at h hd;exact zUh d ks hd' hd hw hks hF hl hfr h
def zHc:qK [] H=H:=by simp[qK]
end
def FnA(P:bm)(f:FuncId)(args:List V)(F:ax)(r:V)(F':ax):Prop :=
 ∀w m Z vals,wQ m Z F w->zT (bc m) Z args vals->(∀k,k ∉ keys F->∀L,m k L=bh) ->
  Calls P f vals.toArray w λen w'=>∃x m' Z',en=.returned x/\Step m Z F w m' Z' F' w'/\Rep (bc m') Z' r x
def zb0(args:List V):Env:=args.zipIdx.map λp=>(p.2,p.1)
def Wm{m:Option M}{Z:ZM}:∀(args:List V)(vals:List bu)(j t:Nat),zT m Z args vals->Rep m Z (Env.get ((args.zipIdx j).map λp=>(p.2,p.1)) t) (if j<=t then vals.getD (t-j) Go.undef else Go.undef)
 |[],vals,j,t,h=>by
  cases h
  show True
  trivial
 |v::args,vals,j,t,h=>by
  obtain⟨x,xs,rfl,h1,h2⟩:=h
  show Rep m Z (bif bk t j then v else(Env.get ((args.zipIdx (j+1)).map λp=>(p.2,p.1)) t)) _
  cases hb:bk t j with
  |true =>
   have:=eb hb;subst this;simpa using h1
  |false =>
   have hne:t≠j:=λe=>by subst e;rw[cD]at hb;cases hb
   have ih:=Wm args xs (j+1) t h2;rw[cf];by_cases hj:j<=t
   ·rw[aP hj]
    rw[aP ab]at ih
    have e:t-j=(t-(j+1))+1:=ab
    rw[e];simpa using ih
   ·rw[aO hj]
    rw[aO ab]at ih;exact ih
def zUo(P:bm)(ρ:Env)(H:ax):ResultVar->Option V
 |.tmp t=>bc (ρ.get t)
 |.cell a ty=>match ρ.get a with
  |.ptr k 0 off=>match H.get k with
   |some (.box _ cs)=>atV P ty cs off
   |_=>bh
  |_=>bh
def zGq(P:bm)(ρ:Env)(H:ax):List ResultVar->Option (List V)
 |[]=>bc []
 |x::l=>match zUo P ρ H x,zGq P ρ H l with|some v,bc vs=>bc (v::vs)|_,_=>bh
def zTo(fn:Func)(ρ:Env)(H:ax)(P:bm):Option V :=
 match zGq P ρ H fn.results.toList with
 |some [v]=>bc v
 |some vs=>bc (.tup vs)
 |none=>bh
def zTp(r:V)(F':ax)(K0:List Nat):Bool :=
 let ks:=keys F'
 yt ks&&(K0.all ks.contains&&(r.refs.all ks.contains&&F'.all λp=>p.2.refs.all ks.contains))
def zUp(P:bm)(fn:Func)(K0:List Nat)(r:V)(F':ax):wj
 |.normal,ρ,H,ds|.ret,ρ,H,ds=>ds=[]/\zTo fn ρ H P=bc r/\ux (keys F') H=bc F'/\zTp r F' K0=bf
 |_,_,_,_=>False
section
variable{P:bm}{f:FuncId}{args:List V}{F F':ax}{r:V}{N:Nat}
def zf2(tmps:Array bu):ResultVar->Sem bu
 |.tmp t=>pure (tmps.getD t Go.undef)
 |.cell a t=>do loadVar t (<- asAddr (tmps.getD a Go.undef))
def zw7{m:M}{Z:ZM}{H:ax}{w:bG}{ρ:Env}{ρr:yL}{v:V}(hs:wQ m Z H w)(hR:zlq m Z ρ ρr){tmps:Array bu}(ht:∀t,tmps.getD t Go.undef=ρr t):∀{x:ResultVar},zUo P ρ H x=bc v ->
  ∃u,(zf2 tmps x).run P w=.ok u w/\Rep (bc m) Z v u
 |.tmp t,h=>by
  cases h;exact⟨ρr t,by simp only[zf2,ht];rfl,hR t⟩
 |.cell a ty,h=>by
  simp only[zUo]at h;split at h
  ·rename_i k off ha
   split at h
   ·rename_i bt cs hk
    obtain⟨b,cur,g1,g2,g3,g4,g5⟩:=hs.holds _ (ax.get_mem hk);have hr:=hR a;rw[ha]at hr;obtain⟨f',loc,e1,e2,e3⟩:=hr;cases e1;rw[g1]at e2;cases e2
    have hcell:∀j u,cur.toList[j]?=bc u->w.cell? ⟨b,j,bh⟩=bc u:=λj u hu=>by
     rw[cell_of_row w b j cur bt (0,0) g2];simpa using hu
    unfold atV at h;split at h
    ·rename_i hsh
     split at h
     ·rename_i u hu
      split at h
      ·cases h
       obtain⟨y,h6,h7⟩:=g3.get hu;have hc:=hcell off y h6;refine⟨y,?_,h7⟩;simp[zf2,ht,e3,asAddr,loadVar,qD (u7 hsh),load,Sem.run,hc]
      ·cases h
     ·cases h
    ·rename_i n hsh
     split at h
     ·rename_i hk2
      have hk2:=lb hk2;cases h;have hl:=g3.length
      have hll:((cur.toList.drop off).take n).length=n:=by simp at hl ⊢;omega
      refine⟨.agg ((cur.toList.drop off).take n).toArray,?_,_,rfl,(g3.drop off).take n⟩;obtain⟨d',i',hd',_,hi',hk'⟩:=id (qL hsh)
      have hcs:∀j u,((cur.toList.drop off).take n)[j]?=bc u->w.cell? ((⟨b,off,bh⟩:Addr).add j)=bc u:=λj u hj=>by
       rw[Addr.add_lit]
       have hjn:j<n:=by have:=(bw.1 hj).1;simp at this;omega
       rw[cJ,aP hjn,dw]at hj;exact hcell _ _ hj
      have hld:=run_loadCells_list (P:=P) w (⟨b,off,bh⟩:Addr) _ hcs;rw[hll]at hld;simp only[zf2,ht,e3,asAddr,loadVar,Sem.run_bind,Sem.run_pure,Result.andThen_ok,HX (qL hsh),if_true];simp[sizeOf,typeInfo,hi',hk',hld,Sem.run]
     ·cases h
    ·cases h
   ·cases h
  ·cases h
def zf3{m:M}{Z:ZM}{H:ax}{w:bG}{ρ:Env}{ρr:yL}(hs:wQ m Z H w)(hR:zlq m Z ρ ρr){tmps:Array bu}(ht:∀t,tmps.getD t Go.undef=ρr t):∀{l:List ResultVar}{vs:List V},zGq P ρ H l=bc vs ->
  ∃us,(l.mapM (zf2 tmps)).run P w=.ok us w/\zT (bc m) Z vs us
 |[],vs,h=>by
  cases h;exact⟨[],af,rfl⟩
 |x::l,vs,h=>by
  simp only[zGq]at h;split at h
  ·rename_i v vs' h1 h2
   cases h;obtain⟨u,h3,h4⟩:=zw7 hs hR ht h1;obtain⟨us,h5,h6⟩:=zf3 hs hR ht h2;exact⟨u::us,by simp[List.mapM_cons,h3,h5],u,us,rfl,h4,h6⟩
  ·cases h
def zf4{m:M}{Z:ZM}{H:ax}{w:bG}{ρ:Env}{ρr:yL}{fn:Func}{r:V}(hs:wQ m Z H w)(hR:zlq m Z ρ ρr)(h:zTo fn ρ H P=bc r){tmps:Array bu}(ht:∀t,tmps.getD t Go.undef=ρr t):
  ∃x,(results fn tmps).run P w=.ok x w/\Rep (bc m) Z r x:=by
 have key:∀vs,zGq P ρ H fn.results.toList=bc vs->∃us:List bu,(results fn tmps).run P w=.ok (if h:us.toArray.size=1 then us.toArray[0]else .tuple us.toArray) w/\zT (bc m) Z vs us:=by
  intro vs hv;obtain⟨us,h1,h2⟩:=zf3 hs hR ht hv;refine⟨us,?_,h2⟩
  have e:results fn tmps=(do let vs <- fn.results.mapM (zf2 tmps);pure (if h:vs.size=1 then vs[0]else .tuple vs)):=by
   unfold results
   congr 1
  rw[e,Array.mapM_eq_mapM_toList];simp[h1]
 unfold zTo at h;split at h
 ·rename_i v hv
  cases h;obtain⟨us,h1,h2⟩:=key _ hv;obtain⟨u,us',rfl,h3,h4⟩:=h2;cases h4;exact⟨u,by simpa using h1,h3⟩
 ·rename_i vs hne hv
  cases h;obtain⟨us,h1,h2⟩:=key _ hv
  have hl:us.toArray.size≠1:=λe=>by
   have:=h2.length;simp only[cN]at e;rw[e]at this
   match vs,this with
   |[v],_=>exact hne v rfl
   |[],h=>simp at h
   |_::_::_,h=>simp at h
  rw[dif_neg hl]at h1;exact⟨_,h1,us,rfl,h2⟩
 ·cases h
def zie{K0:List Nat}{c:Ctx K0}{m:M}{Z:ZM}{H:ax}:∀(Ds:List Nat)(w:bG),Ds.Nodup->(∀D∈Ds,w.heap[D]?=bc (.deferred (bc []))/\c.W0.heap.size<=D)->Vu c m Z H w->∃w',Eng.zz1 (Ds.map Eng.mark) w w'/\Vu c m Z H w'
 |[],w,_,_,S=>⟨w,rfl,S⟩
 |D::Ds,w,hn,hD,S=>by
  obtain⟨h1,h2⟩:=cG.1 hn;obtain⟨h3,h4⟩:=hD D al
  have S':Vu c m Z H (w.putObj D (.deferred bh)):=S.lps (row:=bc D) (Eng.Vf w D _) λb e=>by
   cases e;exact⟨h4,_,h3,rfl⟩
  obtain⟨w',h5,h6⟩:=zie Ds _ h2 (λD' hD'=>by
   obtain⟨h7,h8⟩:=hD D' (mcQ _ hD')
   exact⟨(World.putObj_heap_other (λe=>h1 (by first|(rw[<- e];exact hD')|(rw[e];exact hD')))).trans h7,h8⟩) S'
  exact⟨w',⟨D,rfl,h3,h5⟩,h6⟩
def zAh{fn:Func}{code:Code}(hf:P.funcs[f]?=bc fn)(hb:fn.body=bc code)(hN:fn.ntmps=N)(ha:cm args.length N=bf)
  (h:∀c:Ctx (keys F),WpV c P bh N code (zUp P fn (keys F) r F') (zb0 args) F []):FnA P f args F r F':=by
 intro w m Z vals hs hv hdom;have hvl:=hv.length
 have S:QB (⟨[],w,m,Z,F,rfl,hdom⟩:Ctx (keys F)) (zb0 args) F (jL vals) w:=⟨m,Z,⟨Step.refl hs,hdom⟩,λt=>by
  have:=Wm args vals 0 t hv
  simpa[zb0,jL]using this⟩
 have h':=h ⟨[],w,m,Z,F,rfl,hdom⟩ _ _ _ S (xw.nil rfl);have ha:=lb ha;refine(callsIn_wide (n:=0)).1 (callsIn_of_wp_marks hf hb trivial ?_)
 refine wpIn_mono (h' _ 0 ⟨?_,rfl,λt=>?_⟩) λe a w' hq=>?_
 ·simp;omega
 ·simp only[jL,cx,ca]
  rw[Array.getElem?_append];split
  ·simp
  ·rename_i hlt
   simp only[cN]at hlt;rw[List.getElem?_eq_none ab];simp only[cN];rw[dy];split<;>rfl
 ·obtain⟨ρr',ds',hf',ρ',H',S',hmk,hq⟩:=hq
  obtain⟨Ds,hds,hn,hD⟩:=hmk.marks rfl
  have key:zUp P fn (keys F) r F' .ret ρ' H' []->∃w2 v,Eng.zz1 a.defers w' w2/\(results fn a.tmps).run P w2=.ok v w2/\∃x m' Z',Ending.returned v=.returned x/\Step m Z F w m' Z' F' w2/\Rep (bc m') Z' r x:=by
   rintro⟨_,hres,hsel,hfin⟩;simp only[zTp,bn]at hfin;obtain⟨h1,h2,h3,h4⟩:=hfin;obtain⟨m',Z',S2,hR⟩:=S';obtain⟨w2,ht,S4⟩:=zie Ds w' hn hD S2;obtain⟨m2,S3,hc⟩:=S4.cut (keys F') hsel h1 h2 h4;obtain⟨x,hx1,hx2⟩:=zf4 S4.step.sim hR hres (tmps:=a.tmps) hf'.get;exact⟨w2,x,by rw[hf'.defs,hds];exact ht,hx1,x,m2,Z',rfl,S3.step,hc _ _ h3 hx2⟩
  cases e with
  |normal =>
   obtain⟨w2,v,ht,hr,hR⟩:=key hq;exact Eng.oH _ _ _ ht hr hR
  |ret =>
   obtain⟨w2,v,ht,hr,hR⟩:=key hq;exact Eng.oH _ _ _ ht hr hR
  |panic c=>exact hq.elim
  |exit id=>exact hq.elim
  |goto l=>exact hq.elim
  |outgrown=>exact hq.elim
end
def Obj.ren(σ:Nat->Nat):Obj->Obj
 |.box t cs=>.box t (zfa σ cs)
 |o=>o
def Kx(σ:Nat->Nat)(F:ax):ax:=F.map λp=>(σ p.1,p.2.ren σ)
def asg:List (Nat×Nat)->Nat->Nat
 |[],k=>k
 |(a,b)::r,k=>bif bk k a then b else asg r k
def AX(args:List V)(F:ax):Bool:=(wP args).all (keys F).contains&&F.all λp=>p.2.refs.all (keys F).contains
def vB{σ:Nat->Nat}{F:ax}:keys (Kx σ F)=(keys F).map σ:=by simp[keys,Kx]
def zb1{σ:Nat->Nat}{m mc:M}{p:Nat×Obj}(h:mc p.1=m (σ p.1)):blk mc p=blk m (σ p.1,p.2.ren σ):=by
 obtain⟨k,o⟩:=p;simp only at h
 funext b
 cases o<;>simp only[blk,u6,Obj.ren,Obj.ver,h]
mutual
def Rep.unren{f f':M}{Z:ZM}(σ:Nat->Nat):∀(v:V)(x:bu),(∀k∈v.refs,∀L loc,f (σ k) L=bc loc->f' k L=bc loc)->Rep (bc f) Z (v.ren σ) x->Rep (bc f') Z v x
 |.undef,x,_,h=>trivial
 |.no,x,_,h=>h
 |.int k n,x,_,h=>h
 |.bool b,x,_,h=>h
 |.str l,x,_,h=>h
 |.nilp,x,_,h=>h
 |.ptr k L off,x,hm,h=>by
  obtain⟨g,loc,h1,h2,h3⟩:=h;cases h1;exact⟨f',loc,rfl,hm k (by simp[V.refs]) _ _ h2,h3⟩
 |.vp cs off,x,_,h=>h
 |.nils,x,_,h=>h
 |.sl sz k L o n,x,hm,h=>by
  obtain⟨g,loc,h1,h2,h3⟩:=h;cases h1;exact⟨f',loc,rfl,hm k (by simp[V.refs]) _ _ h2,h3⟩
 |.vs sz els,x,_,h=>h
 |.fn g first caps,x,hm,h=>by
  obtain⟨l1,l2,h1,h2,h3⟩:=h;exact⟨l1,l2,h1,zT.unren σ first l1 (λk hk=>hm k (by simp[V.refs,hk])) h2,zT.unren σ caps l2 (λk hk=>hm k (by simp[V.refs,hk])) h3⟩
 |.nilf,x,_,h=>h
 |.agg cs,x,hm,h=>by
  obtain⟨l,h1,h2⟩:=h;exact⟨l,h1,zT.unren σ cs l (λk hk=>hm k (by simpa[V.refs]using hk)) h2⟩
 |.tup xs,x,hm,h=>by
  obtain⟨l,h1,h2⟩:=h;exact⟨l,h1,zT.unren σ xs l (λk hk=>hm k (by simpa[V.refs]using hk)) h2⟩
 |.nilm,x,_,h=>h
 |.mp k,x,hm,h=>by
  obtain⟨g,loc,h1,h2,h3⟩:=h;cases h1;exact⟨f',loc,rfl,hm k (by simp[V.refs]) _ _ h2,h3⟩
 |.nili,x,_,h=>h
 |.ifc t v,x,hm,h=>by
  obtain⟨y,h1,h2⟩:=h;exact⟨y,h1,Rep.unren σ v y (λk hk=>hm k (by simpa[V.refs]using hk)) h2⟩
 |.gv k R,x,hm,h=>by
  obtain⟨g,h1,h2⟩:=h;cases h1;exact⟨f',rfl,R.mono _ _ _ (hm k (by simp[V.refs])) h2⟩
 |.pv R,x,hm,h=>h
def zT.unren{f f':M}{Z:ZM}(σ:Nat->Nat):∀(vs:List V)(l:List bu),(∀k∈wP vs,∀L loc,f (σ k) L=bc loc->f' k L=bc loc)->zT (bc f) Z (zfa σ vs) l->zT (bc f') Z vs l
 |[],l,_,h=>h
 |v::vs,l,hm,h=>by
  obtain⟨x,xs,h1,h2,h3⟩:=h;exact⟨x,xs,h1,Rep.unren σ v x (λk hk=>hm k (by simp[wP,hk])) h2,zT.unren σ vs xs (λk hk=>hm k (by simp[wP,hk])) h3⟩
end
section
variable{P:bm}{f:FuncId}{args:List V}{F F':ax}{r:V}{σ:Nat->Nat}
def zAi{l:List Nat}(h:(l.map σ).Nodup):∀{a b:Nat},a∈l->b∈l->σ a=σ b->a=b:=by
 induction l with
 |nil=>intro a b ha;cases ha
 |cons x l ih =>
  rw[mk9,cG]at h;intro a b ha hb e
  rcases bp.1 ha with h1|h1<;>rcases bp.1 hb with h2|h2
  ·rw[h1,h2]
  ·subst h1;exact(h.1 (e▸cw h2)).elim
  ·subst h2;exact(h.1 (e▸cw h1)).elim
  ·exact ih h.2 h1 h2 e
def FnA.at(h:FnA P f args F r F')(hσ:yt ((keys F').map σ)=bf)(hcl:AX args F=bf)(hsub:((keys F).all (keys F').contains)=bf):
  ∀w m Z vals,wQ m Z (Kx σ F) w->zT (bc m) Z (zfa σ args) vals->(∀k∈keys (Kx σ F'),k ∉ keys (Kx σ F)->∀L,m k L=bh) ->
   Calls P f vals.toArray w λen w'=>∃x m' Z',en=.returned x/\Step m Z (Kx σ F) w m' Z' (Kx σ F') w'/\Rep (bc m') Z' (r.ren σ) x:=by
 intro w m Z vals hs hv hnew;simp only[AX,bn]at hcl
 have hsub':∀k∈keys F,k∈keys F':=λk hk=>by have:=(bj.1 hsub) k hk;simpa using this
 have hinj:∀{a b:Nat},a∈keys F'->b∈keys F'->σ a=σ b->a=b:=zAi (yz hσ)
 let mc:M:=λk L=>if k∈keys F then m (σ k) L else bh
 have hmc:∀k∈keys F,mc k=m (σ k):=λk hk=>by funext L;simp[mc,hk]
 have hmcn:∀k,k ∉ keys F->∀L,mc k L=bh:=λk hk L=>by simp[mc,hk]
 have hblk:∀p∈F,blk mc p=blk m (σ p.1,p.2.ren σ):=λp hp=>zb1 (hmc p.1 (ay hp))
 have hmem:∀p∈F,(σ p.1,p.2.ren σ)∈Kx σ F:=λp hp=>bx.2 ⟨p,hp,rfl⟩
 have hsc:wQ mc Z F w:=by
  refine⟨hs.frozen,λp hp=>?_,?_,λp hp q hq b h1 h2=>?_⟩
  ·have hh:=hs.holds _ (hmem p hp)
   have hk:=hmc p.1 (ay hp);obtain⟨k,o⟩:=p
   cases o with
   |box t cs =>
    obtain⟨b,cur,h1,h2,h3,h4,h5⟩:=hh;refine⟨b,cur,by rw[hk];exact h1,h2,zT.unren σ cs _ (λj hj L loc e=>?_) h3,h4,by rw[hk];exact h5⟩;have:=(bj.1 hcl.2) _ hp;have:=(bj.1 this) j hj;rw[hmc j (by simpa using this)];exact e
   |row t sz fz els =>
    rcases hh with⟨h1,h2,h3,⟨b,h4⟩,h5⟩|⟨b,cap,cur,fr,h1,h2⟩
    ·exact .inl ⟨h1,h2,h3,⟨b,by rw[hk];exact h4⟩,by rw[hk];exact h5⟩
    ·exact .inr ⟨b,cap,cur,fr,by rw[hk];exact h1,by rw[hk];exact h2⟩
   |map l =>
    obtain⟨b,es,clock,h1,h2⟩:=hh;exact⟨b,es,clock,by rw[hk];exact h1,by rw[hk];exact h2⟩
   |glob g t cs=>exact⟨by rw[hk];exact hh.1,hh.2.1,by rw[hk];exact hh.2.2⟩
   |nest t e sz pd ls =>
    show uw (mc k) _ _ t e sz pd ls
    rw[hk];exact hh
   |gen G =>
    show G.holds (mc k) _ _
    rw[hk];exact hh
  ·have:=hs.nodup
   rw[vB]at this;exact wR _ this
  ·rw[hblk p hp]at h1
   rw[hblk q hq]at h2;exact hinj (hsub' _ (ay hp)) (hsub' _ (ay hq)) (hs.disj _ (hmem p hp) _ (hmem q hq) b h1 h2)
 refine Calls.mono (h w mc Z vals hsc (zT.unren σ args vals (λj hj L loc e=>?_) hv) hmcn) ?_
 ·have:=(bj.1 hcl.1) j hj
  rw[hmc j (by simpa using this)];exact e
 rintro en w' ⟨x,mc',Z',he,hst,hr⟩
 let m':M:=λk2 L=>match (keys F').find? (λi=>decide (σ i=k2))with
  |some i=>mc' i L
  |none=>m k2 L
 have hm'1:∀i∈keys F',m' (σ i)=mc' i:=λi hi=>by
  funext L
  cases hf:(keys F').find? (λj=>decide (σ j=σ i))with
  |none =>
   have:=eL.1 hf i hi;simp at this
  |some j =>
   have h1:=List.find?_some hf;have h2:=List.mem_of_find?_eq_some hf;simp only[aW]at h1;have:=hinj h2 hi h1;subst this;simp only[m',hf]
 have hm'2:∀k,k ∉ keys (Kx σ F')->m' k=m k:=λk hk=>by
  funext L
  have:(keys F').find? (λj=>decide (σ j=k))=bh:=eL.2 λj hj=>by
   simp only[aW];rintro rfl;exact hk (by rw[vB];exact cw hj)
  simp only[m',this]
 have hext:∀i∈keys F',∀L loc,mc' i L=bc loc->m' (σ i) L=bc loc:=λi hi L loc e=>by rw[hm'1 i hi];exact e
 have hext2:∀k L loc,mc' k L=bc loc->m' (σ k) L=bc loc:=λk L loc e=>by
  by_cases hk:k∈keys F'
  ·exact hext k hk L loc e
  ·rw[hst.newk k hk]at e
   rw[hmcn k (λh'=>hk (hsub' k h'))]at e;cases e
 have hblk':∀p∈F',blk m' (σ p.1,p.2.ren σ)=blk mc' p:=λp hp=>(zb1 (hm'1 p.1 (ay hp)).symm).symm
 have hblkF:∀p∈F,∀b,blk mc p b->∃q∈Kx σ F,blk m q b:=λp hp b hb=>⟨_,hmem p hp,by rw[<- hblk p hp];exact hb⟩
 refine⟨x,m',Z',he,⟨⟨hst.sim.frozen,?_,?_,?_⟩,?_,hst.zext,hst.os,hst.tape,hst.output,hst.size,?_,?_,hm'2,?_,?_⟩,Rep.ren σ r x (λk _ L loc e=>hext2 k L loc e) hr⟩
 ·intro q hq
  obtain⟨p,hp,rfl⟩:=bx.1 hq;have hh:=hst.sim.holds p hp;have hk:=hm'1 p.1 (ay hp);obtain⟨k,o⟩:=p
  cases o with
  |box t cs =>
   obtain⟨b,cur,h1,h2,h3,h4,h5⟩:=hh;exact⟨b,cur,by rw[hk];exact h1,h2,zT.ren σ cs _ (λj _ L loc e=>hext2 j L loc e) h3,h4,by rw[hk];exact h5⟩
  |row t sz fz els =>
   rcases hh with⟨h1,h2,h3,⟨b,h4⟩,h5⟩|⟨b,cap,cur,fr,h1,h2⟩
   ·exact .inl ⟨h1,h2,h3,⟨b,by rw[hk];exact h4⟩,by rw[hk];exact h5⟩
   ·exact .inr ⟨b,cap,cur,fr,by rw[hk];exact h1,by rw[hk];exact h2⟩
  |map l =>
   obtain⟨b,es,clock,h1,h2⟩:=hh;exact⟨b,es,clock,by rw[hk];exact h1,by rw[hk];exact h2⟩
  |glob g t cs=>exact⟨by rw[hk];exact hh.1,hh.2.1,by rw[hk];exact hh.2.2⟩
  |nest t e sz pd ls =>
   show uw (m' (σ k)) _ _ t e sz pd ls
   rw[hk];exact hh
  |gen G =>
   show G.holds (m' (σ k)) _ _
   rw[hk];exact hh
 ·rw[vB];exact yz hσ
 ·intro p hp q hq b h1 h2
  obtain⟨p',hp',rfl⟩:=bx.1 hp;obtain⟨q',hq',rfl⟩:=bx.1 hq;rw[hblk' p' hp']at h1;rw[hblk' q' hq']at h2;exact aQ σ (hst.sim.disj p' hp' q' hq' b h1 h2)
 ·intro k L loc e
  by_cases hk:k∈keys (Kx σ F')
  ·rw[vB]at hk
   obtain⟨i,hi,rfl⟩:=bx.1 hk;rw[hm'1 i hi];by_cases hiF:i∈keys F
   ·exact hst.mext i L loc (by rw[hmc i hiF];exact e)
   ·rw[hnew (σ i) (by rw[vB];exact cw hi) (λh'=>by
     rw[vB]at h';obtain⟨j,hj,e'⟩:=bx.1 h';have:=hinj (hsub' j hj) hi e';subst this
     exact hiF hj)]at e
    cases e
  ·rw[hm'2 k hk];exact e
 ·intro b hb hn
  exact hst.frame b hb λp hp e=>by
   obtain⟨q,hq,e'⟩:=hblkF p hp b e;exact hn q hq e'
 ·intro k hk
  rw[vB]at hk ⊢;obtain⟨i,hi,rfl⟩:=bx.1 hk;exact cw (hst.keep i hi)
 ·intro q hq b hb
  obtain⟨p,hp,rfl⟩:=bx.1 hq;rw[hblk' p hp]at hb
  exact(hst.blks p hp b hb).imp id λ⟨p',hp',e⟩=>hblkF p' hp' b e
 ·intro a x ha
  exact(hst.znew a x ha).imp id (Or.imp id λ⟨p',hp',e⟩=>hblkF p' hp' _ e)
end
mutual
inductive av(F:ax):V->V->Prop
 |weak {v v':V} (h:∀(m:Option M)(Z:ZM)(x:bu),Rep m Z v x->Rep m Z v' x):av F v v'
 |same (v:V):av F v v
 |nils (sz:Nat):av F .nils (.vs sz [])
 |row {k sz t fz L:Nat} {els:List (List V)} (h:F.get k=bc (.row t sz fz els)) (hL:L=els.length):av F (.sl sz k L 0 L) (.vs sz els)
 |sub {k sz t fz L o n:Nat} {els:List (List V)} (h:F.get k=bc (.row t sz fz els)) (hL:L=els.length) (hn:o+n<=L):av F (.sl sz k L o n) (.vs sz ((els.drop o).take n))
 |agg {cs cs':List V} (h:kq F cs cs'):av F (.agg cs) (.agg cs')
 |nrow {k sz t fz L:Nat} {els:List (List V)} (h:F.get k=bc (.row t sz fz els)) (hL:L=els.length):av F (.gv k (zL1 sz L)) (.vs sz els)
inductive kq(F:ax):List V->List V->Prop
 |nil:kq F [] []
 |cons {v v':V} {l l':List V} (h:av F v v') (h':kq F l l'):kq F (v::l) (v'::l')
end
def frz:ax->ax
 |[]=>[]
 |(k,.row t sz _ els)::r=>(k,.row t sz els.length els)::frz r
 |p::r=>p::frz r
open Classical in
noncomputable def zl5(m:M)(Z:ZM)(F:ax)(w:bG):ZM:=λa =>
 if a.spot=bh/\∃k t sz fz els b cap,(k,Obj.row t sz fz els)∈F/\m k els.length=bc (b,cap)/\0<cap/\a.block=b/\a.off<els.length*sz then w.cell? a else Z a
def k8:∀{F:ax}{p:Nat×Obj},p∈frz F->(∃k t sz fz els,(k,Obj.row t sz fz els)∈F/\p=(k,.row t sz els.length els))∨(p∈F/\∀t sz fz els,p.2≠.row t sz fz els)
 |[],p,h=>by cases h
 |(k,.row t sz fz els)::r,p,h=>by
  simp only[frz]at h
  rcases bp.1 h with rfl|h
  ·exact .inl ⟨k,t,sz,fz,els,al,rfl⟩
  ·rcases k8 h with⟨k,t,sz,fz,els,h1,h2⟩|⟨h1,h2⟩
   ·exact .inl ⟨k,t,sz,fz,els,mcQ _ h1,h2⟩
   ·exact .inr ⟨mcQ _ h1,h2⟩
 |(k,.box t cs)::r,p,h=>by
  simp only[frz]at h
  rcases bp.1 h with rfl|h
  ·exact .inr ⟨al,λ_ _ _ _ e=>by cases e⟩
  ·rcases k8 h with⟨k,t,sz,fz,els,h1,h2⟩|⟨h1,h2⟩
   ·exact .inl ⟨k,t,sz,fz,els,mcQ _ h1,h2⟩
   ·exact .inr ⟨mcQ _ h1,h2⟩
 |(k,.map l)::r,p,h=>by
  simp only[frz]at h
  rcases bp.1 h with rfl|h
  ·exact .inr ⟨al,λ_ _ _ _ e=>by cases e⟩
  ·rcases k8 h with⟨k,t,sz,fz,els,h1,h2⟩|⟨h1,h2⟩
   ·exact .inl ⟨k,t,sz,fz,els,mcQ _ h1,h2⟩
   ·exact .inr ⟨mcQ _ h1,h2⟩
 |(k,.glob g t cs)::r,p,h=>by
  simp only[frz]at h
  rcases bp.1 h with rfl|h
  ·exact .inr ⟨al,λ_ _ _ _ e=>by cases e⟩
  ·rcases k8 h with⟨k,t,sz,fz,els,h1,h2⟩|⟨h1,h2⟩
   ·exact .inl ⟨k,t,sz,fz,els,mcQ _ h1,h2⟩
   ·exact .inr ⟨mcQ _ h1,h2⟩
 |(k,.nest g t sz0 pd0 ls0)::r,p,h=>by
  simp only[frz]at h
  rcases bp.1 h with rfl|h
  ·exact .inr ⟨al,λ_ _ _ _ e=>by cases e⟩
  ·rcases k8 h with⟨k,t,sz,fz,els,h1,h2⟩|⟨h1,h2⟩
   ·exact .inl ⟨k,t,sz,fz,els,mcQ _ h1,h2⟩
   ·exact .inr ⟨mcQ _ h1,h2⟩
 |(k,.gen g)::r,p,h=>by
  simp only[frz]at h
  rcases bp.1 h with rfl|h
  ·exact .inr ⟨al,λ_ _ _ _ e=>by cases e⟩
  ·rcases k8 h with⟨k,t,sz,fz,els,h1,h2⟩|⟨h1,h2⟩
   ·exact .inl ⟨k,t,sz,fz,els,mcQ _ h1,h2⟩
   ·exact .inr ⟨mcQ _ h1,h2⟩
def wT:∀{F:ax},keys (frz F)=keys F
 |[]=>rfl
 |(k,.row t sz fz els)::r=>by simp only[frz,keys,mk9];congr 1;exact wT
 |(k,.box t cs)::r=>by simp only[frz,keys,mk9];congr 1;exact wT
 |(k,.map l)::r=>by simp only[frz,keys,mk9];congr 1;exact wT
 |(k,.glob g t cs)::r=>by simp only[frz,keys,mk9];congr 1;exact wT
 |(k,.nest g t sz0 pd0 ls0)::r=>by simp only[frz,keys,mk9];congr 1;exact wT
 |(k,.gen g)::r=>by simp only[frz,keys,mk9];congr 1;exact wT
section
variable{m:M}{Z:ZM}{F:ax}{w:bG}
def zqh(hf:∀a x,Z a=bc x->w.cell? a=bc x):∀a x,Z a=bc x->zl5 m Z F w a=bc x:=λa x h=>by
 unfold zl5;split
 ·exact hf a x h
 ·exact h
def zAj(hf:∀a x,Z a=bc x->w.cell? a=bc x):∀a x,zl5 m Z F w a=bc x->w.cell? a=bc x:=λa x h=>by
 unfold zl5 at h;split at h
 ·exact h
 ·exact hf a x h
def ztl:∀{l:ax},(keys l).Nodup->∀p∈l,∀q∈l,q.1=p.1->q=p:=by
 intro l hl
 induction l with
 |nil=>intro p hp;cases hp
 |cons a l ih =>
  simp only[keys,mk9,cG]at hl;intro p hp q hq e
  rcases bp.1 hp with h1|h1<;>rcases bp.1 hq with h2|h2
  ·rw[h1,h2]
  ·exact(hl.1 (bx.2 ⟨q,h2,by rw[e,h1]⟩)).elim
  ·exact(hl.1 (bx.2 ⟨p,h1,by rw[<- e,h2]⟩)).elim
  ·exact ih hl.2 p h1 q h2 e
def Step.freeze(hs:wQ m Z F w):Step m Z F w m (zl5 m Z F w) (frz F) w:=by
 have hver:∀p∈frz F,∃q∈F,p.1=q.1/\blk m p=blk m q:=λp hp=>by
  rcases k8 hp with⟨k,t,sz,fz,els,h1,h2⟩|⟨h1,_⟩
  ·subst h2;exact⟨_,h1,rfl,rfl⟩
  ·exact⟨p,h1,rfl,rfl⟩
 have hzb:∀a x,zl5 m Z F w a=bc x->Z a=bc x∨∃k t sz fz els b cap,(k,Obj.row t sz fz els)∈F/\m k els.length=bc (b,cap)/\0<cap/\a.block=b/\a.off<els.length*sz:=λa x h=>by
  unfold zl5 at h;split at h
  ·rename_i hc;exact .inr hc.2
  ·exact .inl h
 refine⟨⟨zAj hs.frozen,λp hp=>?_,by rw[wT];exact hs.nodup,λp hp q hq b h1 h2=>?_⟩,λ_ _ _ e=>e,zqh hs.frozen,rfl,rfl,rfl,aq,λ_ _ _=>rfl,λk hk=>by rw[wT];exact hk,λ_ _=>rfl,λp hp b hb=>?_,λa x ha=>?_⟩
 ·rcases k8 hp with⟨k,t,sz,fz,els,h1,h2⟩|⟨h1,h2⟩
  ·subst h2
   rcases hs.holds _ h1 with⟨g1,rfl,g3,g4,g5⟩|⟨b,cap,cur,fr,g1,g0,g2,g3,g4,g5,g6,g7,g8,g9,g10,g11,g12,g13⟩
   ·exact .inl ⟨g1,rfl,rfl,g4,g5⟩
   have hc0:cap≠0:=ab
   refine .inr ⟨b,cap,cur,fr,g1,g0,g2,g3,g4,g5,g6,g7.up (zqh hs.frozen) (λf e=>by cases e),g8,cW g9 (cr _ g10),aq,λa x ha e=>?_,g12,λoff x ho hx=>?_⟩
   ·rcases hzb a x ha with h'|⟨k',t',sz',fz',els',b',cap',h1',h2',h0',h3',h4'⟩
    ·exact ep (g11 a x h' e) (cr _ g10)
    ·have hc1:cap'≠0:=ab
     have hk:k'=k:=hs.disj _ h1' _ h1 b (by simp[blk,u6,Obj.ver,h2',hc1,<- h3',e]) (by simp[blk,u6,Obj.ver,g1,hc0]);subst hk;have hq:=ztl hs.nodup _ h1 _ h1' rfl;simp only[Prod.mk.injEq,Obj.row.injEq,true_and]at hq;obtain⟨_,rfl,_,rfl⟩:=hq;exact h4'
   ·unfold zl5
    rw[aP ⟨rfl,k,t,sz,fz,els,b,cap,h1,g1,g0,rfl,ho⟩,cell_of_row w b off cur t fr g2];exact hx
  ·have hh:=hs.holds p h1
   refine hh.keep (λ_ _ _ e=>e) rfl (zqh hs.frozen) λb hb=>⟨rfl,λa x ha e=>?_⟩
   rcases hzb a x ha with h'|⟨k',t',sz',fz',els',b',cap',h1',h2',h0',h3',h4'⟩
   ·exact h'
   ·have hc1:cap'≠0:=ab
    have hk:k'=p.1:=hs.disj _ h1' _ h1 b (by simp[blk,u6,Obj.ver,h2',hc1,<- h3',e]) hb;have:=ztl hs.nodup p h1 _ h1' hk;exact aU (by rw[<- this]) (h2 t' sz' fz' els')
 ·obtain⟨p',hp',e1,e2⟩:=hver p hp
  obtain⟨q',hq',e3,e4⟩:=hver q hq;rw[e1,e3];exact hs.disj p' hp' q' hq' b (e2▸h1) (e4▸h2)
 ·obtain⟨q,hq,_,e⟩:=hver p hp
  exact .inr ⟨q,hq,e▸hb⟩
 ·rcases hzb a x ha with h'|⟨k',t',sz',fz',els',b',cap',h1',h2',h0',h3',h4'⟩
  ·exact .inl h'
  ·have hc1:cap'≠0:=ab
   exact .inr (.inr ⟨_,h1',by simp[blk,u6,Obj.ver,h2',h3',hc1]⟩)
end
def Az{sz:Nat}:∀{els:List (List V)},(∀e∈els,e.length=sz)->∀{i j:Nat}{cs:List V}{v:V},els[i]?=bc cs->cs[j]?=bc v->els.flatten[i*sz+j]?=bc v
 |[],_,i,j,cs,v,h,_=>by simp at h
 |e::r,hk,0,j,cs,v,h,hj=>by
  simp only[eg,Option.some.injEq]at h;subst h;rw[cO,ej,cI,dJ (bw.1 hj).1];exact hj
 |e::r,hk,i+1,j,cs,v,h,hj=>by
  have he:=hk e al;rw[cO,List.getElem?_append_right (by rw[he,dq];omega)];rw[show(i+1)*sz+j-e.length=i*sz+j by rw[he,dq];omega];exact Az (λx hx=>hk x (mcQ _ hx)) (by simpa using h) hj
def j6{sz:Nat}:∀{els:List (List V)},(∀e∈els,e.length=sz)->els.flatten.length=els.length*sz
 |[],_=>af
 |e::r,hk=>by
  rw[cO,la,j6 (λx hx=>hk x (mcQ _ hx)),hk e al,lc,dq];omega
section
variable{m:M}{Z:ZM}{F:ax}{w:bG}
def zqi{k t sz:Nat}{els:List (List V)}(h:Holds m Z w k (.row t sz els.length els)):∃b cap,m k els.length=bc (b,cap)/\els.length<=cap/\(cap=0∨wS Z ⟨b,0,bh⟩ sz 0 els):=by
 rcases h with⟨g1,rfl,g3,⟨b,g4⟩,g5⟩|⟨b,cap,cur,fr,g1,g0,g2,g3,g4,g5,g6,g7,g8,g9,g10,g11,g12,g13⟩
 ·exact⟨b,0,g4,aq,.inl rfl⟩
 refine⟨b,cap,g1,g3,.inr (wS.of_get λi cs hi=>⟨g8 cs (bP hi),AV.of_get λj v hj=>?_⟩)⟩;have hil:i<els.length:=(bw.1 hi).1
 have hjl:j<sz:=by have:=(bw.1 hj).1;rw[g8 cs (bP hi)]at this;exact this
 have hlt:i*sz+j<els.length*sz:=by
  have:(i+1)*sz<=els.length*sz:=cr sz hil;rw[dq]at this;omega
 obtain⟨x,h1,h2⟩:=g7.get (Az g8 hi hj);rw[cJ,aP hlt]at h1;refine⟨x,?_,h2⟩;rw[cI,cI,Wk,Addr.add_lit,cI];exact g13 _ x hlt (by simpa using h1)
def zif{m:Option M}{Z:ZM}{k sz n:Nat}{x:bu}(h:Rep m Z (.gv k (zL1 sz n)) x):Rep m Z (.sl sz k n 0 n) x:=by
 obtain⟨f,hf,loc,h1,h2,h3,h4⟩:=h;refine⟨f,loc,hf,h1,ab,h3,?_⟩
 rcases h4 with⟨_,h4⟩|⟨h5,h6,h4⟩
 ·exact .inl h4
 ·exact .inr (.inl ⟨h6,bh,h4⟩)
def zw8{m:Option M}{Z:ZM}{k sz n:Nat}{x:bu}(hn:n≠0)(h:Rep m Z (.sl sz k n 0 n) x):Rep m Z (.gv k (zL1 sz n)) x:=by
 obtain⟨f,loc,hf,h1,h2,h3,h4⟩:=h;refine⟨f,hf,loc,h1,ab,h3,.inl ⟨hn,?_⟩⟩
 rcases h4 with h4|⟨h4,_⟩|⟨h4,_⟩
 ·exact h4
 ·omega
 ·omega
mutual
def av.rep(hs:∀k t sz fz els,F.get k=bc (.row t sz fz els)->Holds m Z w k (.row t sz els.length els)):∀{v v':V},av F v v'->∀{x:bu},Rep (bc m) Z v x->Rep (bc m) Z v' x
 |_,_,.weak hw,x,h=>hw _ _ _ h
 |_,_,.same v,x,h=>h
 |_,_,.nils sz,x,h=>⟨bh,0,h,aq,cj _,.inl rfl⟩
 |_,_,.row (k:=k) (sz:=sz) (t:=t) (fz:=fz) (L:=L) (els:=els) hg hL,x,h=>by
  subst hL;obtain⟨b,cap,h1,h2,h4⟩:=zqi (hs _ _ _ _ _ hg);obtain⟨f,loc,e1,e2,e3,e4,e5⟩:=h;cases e1;rw[h1]at e2;cases e2
  rcases e5 with e5|⟨e5,A,e6⟩|⟨e5,_⟩
  ·refine⟨_,_,e5,by simpa using h2,by simpa using e4,?_⟩
   rcases h4 with h4|h4
   ·exact .inl (cH ab)
   ·exact .inr ⟨⟨b,0,bh⟩,af,h4⟩
  ·have:els=[]:=cH (by simp only at e5;omega)
   subst this;exact⟨A,0,e6,aq,by simp[maxLen],.inl rfl⟩
  ·omega
 |_,_,.nrow (k:=k) (sz:=sz) (t:=t) (fz:=fz) (L:=L) (els:=els) hg hL,x,h=>by
  subst hL;have h:=zif h;obtain⟨b,cap,h1,h2,h4⟩:=zqi (hs _ _ _ _ _ hg);obtain⟨f,loc,e1,e2,e3,e4,e5⟩:=h;cases e1;rw[h1]at e2;cases e2
  rcases e5 with e5|⟨e5,A,e6⟩|⟨e5,_⟩
  ·refine⟨_,_,e5,by simpa using h2,by simpa using e4,?_⟩
   rcases h4 with h4|h4
   ·exact .inl (cH ab)
   ·exact .inr ⟨⟨b,0,bh⟩,af,h4⟩
  ·have:els=[]:=cH (by simp only at e5;omega)
   subst this;exact⟨A,0,e6,aq,by simp[maxLen],.inl rfl⟩
  ·omega
 |_,_,.sub (k:=k) (sz:=sz) (t:=t) (fz:=fz) (L:=L) (o:=o) (n:=n) (els:=els) hg hL hn,x,h=>by
  subst hL;obtain⟨b,cap,h1,h2,h4⟩:=zqi (hs _ _ _ _ _ hg);obtain⟨f,loc,e1,e2,e3,e4,e5⟩:=h;cases e1;rw[h1]at e2;cases e2
  have hl:((els.drop o).take n).length=n:=by simp;omega
  simp only at e3 e4 e5
  rcases e5 with e5|⟨e5,A,e6⟩|⟨_,e5,A,c',e6,e7⟩
  ·refine⟨bc ⟨b,o*sz,bh⟩,cap-o,by rw[hl];exact e5,by rw[hl];omega,ab,?_⟩
   rcases h4 with h4|h4
   ·exact .inl (cH (by rw[hl];omega))
   refine .inr ⟨_,rfl,wS.of_get λi cs hi=>?_⟩;rw[cJ]at hi;split at hi
   ·rw[dw]at hi
    have:=h4.get hi;refine⟨this.1,?_⟩;have h5:=this.2;rw[Addr.add_lit]at h5 ⊢;rw[show o*sz+(0+i)*sz=0+(0+(o+i))*sz by rw[cI,cI,cI,dB]];exact h5
   ·cases hi
  ·have h0:(els.drop o).take n=[]:=cH (by rw[hl];omega)
   rw[h0];exact⟨A,0,e6,aq,by simp[maxLen],.inl rfl⟩
  ·have h0:(els.drop o).take n=[]:=cH (by rw[hl];omega)
   rw[h0];exact⟨A,c',e6,cj _,e7,.inl rfl⟩
 |_,_,.agg hl,x,h=>by
  obtain⟨l,h1,h2⟩:=h;exact⟨l,h1,kq.rep hs hl h2⟩
def kq.rep(hs:∀k t sz fz els,F.get k=bc (.row t sz fz els)->Holds m Z w k (.row t sz els.length els)):∀{l l':List V},kq F l l'->∀{xs:List bu},zT (bc m) Z l xs->zT (bc m) Z l' xs
 |_,_,.nil,xs,h=>h
 |_,_,.cons h1 h2,xs,h=>by
  obtain⟨x,xs',rfl,h3,h4⟩:=h;exact⟨x,xs',rfl,av.rep hs h1 h3,kq.rep hs h2 h4⟩
end
end
mutual
/-- No slice among it that is only read. -/
def V.bare:V->Bool
 |.vs ..|.vp ..|.pv ..=>bd
 |.agg cs=>Wn cs
 |.tup xs=>Wn xs
 |.fn _ a b=>Wn a&&Wn b
 |.ifc _ v=>v.bare
 |_=>bf
def Wn:List V->Bool
 |[]=>bf
 |v::l=>v.bare&&Wn l
end
mutual
def Rep.bare{m:Option M}{Z Z':ZM}:∀(v:V)(x:bu),v.bare=bf->Rep m Z v x->Rep m Z' v x
 |.undef,x,_,h=>trivial
 |.no,x,_,h=>h
 |.int k n,x,_,h=>h
 |.bool b,x,_,h=>h
 |.str l,x,_,h=>h
 |.nilp,x,_,h=>h
 |.ptr k L off,x,_,h=>h
 |.vp cs off,x,hb,h=>by cases hb
 |.nils,x,_,h=>h
 |.sl sz k L o n,x,_,h=>h
 |.vs sz els,x,hb,h=>by cases hb
 |.fn g first caps,x,hb,h=>by
  obtain⟨l1,l2,h1,h2,h3⟩:=h;simp only[V.bare,bn]at hb;exact⟨l1,l2,h1,zT.bare first l1 hb.1 h2,zT.bare caps l2 hb.2 h3⟩
 |.nilf,x,_,h=>h
 |.agg cs,x,hb,h=>by
  obtain⟨l,h1,h2⟩:=h;exact⟨l,h1,zT.bare cs l hb h2⟩
 |.tup xs,x,hb,h=>by
  obtain⟨l,h1,h2⟩:=h;exact⟨l,h1,zT.bare xs l hb h2⟩
 |.nilm,x,_,h=>h
 |.mp k,x,_,h=>h
 |.nili,x,_,h=>h
 |.ifc t v,x,hb,h=>by
  obtain⟨y,h1,h2⟩:=h;exact⟨y,h1,Rep.bare v y hb h2⟩
 |.gv k R,x,_,h=>h
 |.pv R,x,hb,h=>by cases hb
def zT.bare{m:Option M}{Z Z':ZM}:∀(vs:List V)(l:List bu),Wn vs=bf->zT m Z vs l->zT m Z' vs l
 |[],l,_,h=>h
 |v::vs,l,hb,h=>by
  obtain⟨x,xs,h1,h2,h3⟩:=h;simp only[Wn,bn]at hb;exact⟨x,xs,h1,Rep.bare v x hb.1 h2,zT.bare vs xs hb.2 h3⟩
end
def get_of_mem{F:ax}(hn:(keys F).Nodup):∀{k:Nat}{o:Obj},(k,o)∈F->F.get k=bc o:=by
 induction F with
 |nil=>intro k o h;cases h
 |cons p F ih =>
  obtain⟨k',o'⟩:=p;simp only[keys,mk9,cG]at hn;intro k o h;simp only[ax.get]
  rcases bp.1 h with h|h
  ·cases h;rw[cD];rfl
  ·have hne:k≠k':=λe=>hn.1 (e▸cw h)
   have:bk k k'=bd:=by
    cases hb:bk k k' with
    |true=>exact aU (eb hb) hne
    |false=>rfl
   rw[this,cf];exact ih hn.2 h
section
variable{P:bm}{ρ:Env}{w:bG}{dst:Option Tmp}{ty:bJ}{pos:String}{aft:Array Edge}{gd:Option (Nat×Bool)}{f:FuncId}{l:List bE}{ts:Array bJ}{args:List V}{F F' R:ax}{r:V}
def zAk{ρr:yL}{w:bG}{Rr:bu->bG->Prop}(hf:ze P f)(h:Calls P f (l.map (ev ρr)).toArray w λen w'=>∃x,en=.returned x/\Rr x w'):zOz P ⟨dst,.call ⟨.value (.func f),l.toArray,ts⟩,ty,pos,aft,gd⟩ ρr w Rr :=
 ⟨rfl,.inr (.inr ⟨f,_,w,ztd _ hf rfl,h⟩)⟩
end
inductive Src(sz:Nat)(R:ax):V->List (List V)->Prop
 |vs (ys:List (List V)):Src sz R (.vs sz ys) ys
 |nils:Src sz R .nils []
 |sl {k L t fz:Nat} {ys:List (List V)} (h:R.get k=bc (.row t sz fz ys)) (hL:L=ys.length):Src sz R (.sl sz k L 0 L) ys
def Wo{Z:ZM}{w:bG}{a:Addr}{sz:Nat}{ys:List (List V)}(h0:0<sz)(hf:∀a x,Z a=bc x->w.cell? a=bc x)(h:wS Z a sz 0 ys):
  ∃news:List bu,zT bh Z ys.flatten news/\∀j u,news[j]?=bc u->w.cell? (a.add j)=bc u:=by
 have hlen:∀e∈ys,e.length=sz:=λe he=>by
  obtain⟨i,hi,rfl⟩:=dE he;exact(h.get (bA hi)).1
 have hfl:=j6 hlen
 have key:∀j,j<ys.flatten.length->∃x,w.cell? (a.add j)=bc x/\∀v,ys.flatten[j]?=bc v->Rep bh Z v x:=λj hj=>by
  rw[hfl]at hj;have hdiv:j / sz<ys.length:=(Nat.div_lt_iff_lt_mul h0).2 hj;have hmod:j % sz<sz:=Nat.mod_lt _ h0
  have hjk:j / sz*sz+j % sz=j:=by rw[Nat.mul_comm];exact Nat.div_add_mod j sz
  have hge:ys[j / sz]?=bc (ys[j / sz]'hdiv):=bA hdiv;have hel:=hlen _ (dL hdiv);obtain⟨_,hat⟩:=h.get hge;have hv:(ys[j / sz]'hdiv)[j % sz]?=bc ((ys[j / sz]'hdiv)[j % sz]'ab):=bA ab;obtain⟨x,h1,h2⟩:=hat.get hv;rw[cI,cI,Wk,hjk]at h1;refine⟨x,hf _ _ h1,λv hv'=>?_⟩;have:=Az hlen hge hv;rw[hjk,hv']at this;cases this;exact h2
 let news:List bu:=(cQ ys.flatten.length).map λj=>(w.cell? (a.add j)).getD Go.undef
 have hget:∀j,j<ys.flatten.length->news[j]?=w.cell? (a.add j):=λj hj=>by
  obtain⟨x,h1,_⟩:=key j hj;simp only[news,cK,dG hj,da,h1,dM]
 refine⟨news,zT.of_get (by simp[news]) λj v x hv hx=>?_,λj u hj=>?_⟩
 ·have hj:=(bw.1 hv).1
  obtain⟨y,h1,h2⟩:=key j hj;rw[hget j hj,h1]at hx;cases hx;exact h2 v hv
 ·have hjl:j<ys.flatten.length:=by have:=(bw.1 hj).1;simpa[news]using this
  rw[<- hget j hjl];exact hj
def Src.read{m:M}{Z:ZM}{w:bG}{R:ax}{sz:Nat}{y:V}{ys:List (List V)}{x:bu}(h:Src sz R y ys)(h0:0<sz)(hs:wQ m Z R w)(hx:Rep (bc m) Z y x):
  ∃A c,x=.slice A ys.length c/\ys.length<=maxLen/\(A=bh->ys=[])/\∀a,A=bc a->∃news:List bu,zT bh Z ys.flatten news/\∀j u,news[j]?=bc u->w.cell? (a.add j)=bc u:=by
 cases h with
 |vs =>
  obtain⟨A,c,h1,h2,h3,h4⟩:=hx;refine⟨A,c,h1,ab,λhA=>?_,λa hA=>?_⟩
  ·rcases h4 with h4|⟨a,h4,_⟩
   ·exact h4
   ·rw[hA]at h4;cases h4
  ·rcases h4 with h4|⟨a',h4,h5⟩
   ·subst h4;exact⟨[],rfl,λj u h=>by simp at h⟩
   ·rw[hA]at h4;cases h4
    exact Wo h0 hs.frozen h5
 |nils=>exact⟨bh,0,hx,by simp[maxLen],λ_=>rfl,λa h=>by cases h⟩
 |sl hg hL =>
  subst hL;obtain⟨f,loc,e1,e2,e3,e4,e5⟩:=hx;cases e1
  replace e5:=e5.imp_right λh=>h.resolve_right λh=>fV 0 h.1
  rcases hs.holds _ (ax.get_mem hg)with⟨_,h1,_,⟨b,h3⟩,_⟩|⟨b,cap,cur,fr,g1,g0,g2,g3,g4,g5,g6,g7,g8,g9,g10,g11,g12,g13⟩
  ·subst h1
   rcases e5 with e5|⟨_,A,e5⟩
   ·exact⟨_,_,e5,by simp[maxLen],λ_=>rfl,λa _=>⟨[],rfl,λj u h=>by simp at h⟩⟩
   ·exact⟨_,_,e5,by simp[maxLen],λ_=>rfl,λa _=>⟨[],rfl,λj u h=>by simp at h⟩⟩
  ·rw[g1]at e2;cases e2
   rcases e5 with e5|⟨e5,_⟩
   ·refine⟨_,_,e5,ab,λh=>(by cases h),λa h=>?_⟩
    cases h;refine⟨_,g7,λj u hj=>?_⟩;rw[Addr.add_lit,ej,cI,cell_of_row w b j cur _ fr g2];rw[cJ]at hj;split at hj
    ·simpa using hj
    ·cases hj
   ·simp only at e5;omega
def oJ(P:bm)(t:Nat):Option (Nat×Nat×Nat) :=
 match P.underlying t with
 |some (.slice e)=>match P.info? e with
  |some i=>match i.zero with
   |some z=>if cm 1 i.size&&bk z.cells.size i.size then bc (e,i.size,i.bytes)else bh
   |none=>bh
  |none=>bh
 |_=>bh
def Hc{P:bm}{t e sz bytes:Nat}(h:oJ P t=bc (e,sz,bytes)):∃i z,P.underlying t=bc (.slice e)/\P.info? e=bc i/\i.zero=bc z/\i.size=sz/\i.bytes=bytes/\z.cells.size=sz/\0<sz:=by
 unfold oJ at h;split at h
 ·rename_i e' hu
  split at h
  ·rename_i i hi
   split at h
   ·rename_i z hz
    split at h
    ·rename_i hc
     simp only[bn]at hc;simp only[Option.some.injEq,Prod.mk.injEq]at h;obtain⟨rfl,rfl,rfl⟩:=h;exact⟨i,z,hu,hi,hz,rfl,rfl,eb hc.2,lb hc.1⟩
    ·cases h
   ·cases h
  ·cases h
 ·cases h
section
variable{P:bm}{m:M}{Z:ZM}{w:bG}
def zig{vs:List V}{l:List bu}{mm:Option M}(h:zT mm Z vs l)(h1:vs.all V.one=bf):∀u∈l,u.oneCell'=bf:=λu hu=>by
 obtain⟨i,hi,he⟩:=dE hu;have hl:=h.length;have hv:vs[i]?=bc (vs[i]'ab):=bA ab;obtain⟨u',h4,h5⟩:=h.get hv;rw[bA hi,he]at h4;cases h4;exact h5.one ((bj.1 h1) _ (dL _))
def Step.grown{k t sz fz:Nat}{els all:List (List V)}{cur:Array bu}{cap:Nat}{o:Obj}{w1:bG}(hs:wQ m Z [(k,o)] w)(hver:o.ver=els.length)(hnew:∀L loc,m k L=bc loc->L<=els.length)(hlt:els.length<all.length)
  (hh:w1.heap=w.heap) (h1:w1.os=w.os) (h2:w1.tape=w.tape) (h3:w1.output=w.output)
  (h0:0<sz) (hcap:all.length<=cap) (hcm:cap<=maxLen) (hcs:cur.size=cap*sz) (hr:zT bh Z all.flatten (cur.toList.take (all.length*sz))) (hk:∀e∈all,e.length=sz) (hfz:fz<=els.length):
  ∃m' Z',Step m Z [(k,o)] w m' Z' [(k,.row t sz fz all)] (w1.alloc (.cells cur t))/\m' k all.length=bc (w.heap.size,cap):=by
 let m':M:=λk' L=>if k'=k/\L=all.length then bc (w.heap.size,cap)else m k' L
 have hm1:m' k all.length=bc (w.heap.size,cap):=by simp[m']
 have hm2:∀k' L loc,m k' L=bc loc->m' k' L=bc loc:=λk' L loc e=>by
  by_cases hc:k'=k/\L=all.length
  ·obtain⟨rfl,rfl⟩:=hc
   have:=hnew _ _ e;omega
  ·simp only[m',aO hc];exact e
 let Z':ZM:=λa=>if a.block=w.heap.size/\a.spot=bh/\a.off<fz*sz then cur[a.off]? else Z a
 have hsz:w1.heap.size=w.heap.size:=by rw[hh]
 have hZlt:∀a x,Z a=bc x->a.block<w.heap.size:=λa x ha=>vK hs.frozen ha
 have hZ1:∀a x,Z a=bc x->Z' a=bc x:=λa x ha=>by
  have:=hZlt a x ha;simp only[Z',aO (show ¬(a.block=w.heap.size/\a.spot=bh/\a.off<fz*sz) by omega)];exact ha
 have hnewb:(w1.alloc (.cells cur t)).heap[w.heap.size]?=bc (.cells cur t (0,0)):=by rw[<- hsz];exact World.alloc_heap_new w1 _
 have hcell:∀off,(w1.alloc (.cells cur t)).cell? ⟨w.heap.size,off,bh⟩=cur[off]?:=λoff=>cell_of_row _ _ off cur t (0,0) hnewb
 have hold:∀j,j<w.heap.size->(w1.alloc (.cells cur t)).heap[j]?=w.heap[j]?:=λj hj=>by rw[<- hh];exact Below.heap_alloc w1 _ j ab
 have hc0:cap≠0:=ab
 refine⟨m',Z',⟨⟨λa x ha=>?_,λp hp=>?_,by simp[keys],λp hp q hq _ _ _=>?_⟩,hm2,hZ1,h1,h2,h3,by simp[hsz],λj hj _=>hold j hj,λj hj=>by simpa[keys]using hj,λj hj=>?_,λp hp b hb=>?_,λa x ha=>?_⟩,hm1⟩
 ·simp only[Z']at ha
  split at ha
  ·rename_i hc
   obtain⟨b,off,sp⟩:=a;obtain⟨rfl,rfl,_⟩:=hc;rw[hcell];exact ha
  ·rw[Hb (hold _ (hZlt a x ha))];exact hs.frozen a x ha
 ·simp only[msQ]at hp
  subst hp;refine .inr ⟨w.heap.size,cap,cur,(0,0),hm1,ab,hnewb,hcap,hcm,hcs,h0,hr.up hZ1 (λf e=>by cases e),hk,af,ab,λa x ha e=>?_,λL loc e=>?_,λoff x ho hx=>?_⟩
  ·simp only[Z']at ha
   split at ha
   ·rename_i hc;exact hc.2.2
   ·have:=hZlt a x ha;omega
  ·simp only[m']at e
   split at e
   ·rename_i hc;omega
   ·have:=hnew _ _ e;omega
  ·simp only[Z']
   rw[aP (by simp[ho])];exact hx
 ·simp only[msQ]at hp hq
  subst hp;subst hq;rfl
 ·funext L
  have:j≠k:=by simpa[keys]using hj
  simp[m',this]
 ·simp only[msQ]at hp
  subst hp;simp only[blk,u6,u6,Obj.ver,hm1,bsQ,aO hc0,Option.some.injEq]at hb;exact .inl ab
 ·simp only[Z']at ha
  split at ha
  ·rename_i hc;exact .inr (.inl ab)
  ·exact .inl ha
def Step.roomed{k t sz fz:Nat}{els all:List (List V)}{b cap:Nat}{cur cur':Array bu}{fr:Nat×Nat}(hs:wQ m Z [(k,.row t sz fz els)] w)(g1:m k els.length=bc (b,cap))(g0:0<cap)(g2:w.heap[b]?=bc (.cells cur t fr))
  (hle:els.length<=all.length) (hcap:all.length<=cap) (hcs:cur'.size=cap*sz) (hsame:∀off,off<els.length*sz->cur'[off]?=cur[off]?) (hr:zT bh Z all.flatten (cur'.toList.take (all.length*sz))) (hk:∀e∈all,e.length=sz)
  {w':bG} (hw:w'=w.setRow b cur'):∃m',Step m Z [(k,.row t sz fz els)] w m' Z [(k,.row t sz fz all)] w'/\m' k all.length=bc (b,cap):=by
 subst hw
 rcases hs.holds _ (msQ.2 rfl)with⟨_,h1,_,⟨b',h3⟩,_⟩|⟨b',cap',cur0,fr',g1',g0',g2',g3,g4,g5,g6,g7,g8,g9,g10,g11,g12,g13⟩
 ·subst h1
  have:=g1.symm.trans h3;simp only[Option.some.injEq,Prod.mk.injEq]at this;omega
 rw[g1]at g1';simp only[Option.some.injEq,Prod.mk.injEq]at g1';obtain⟨rfl,rfl⟩:=g1';rw[g2]at g2';simp only[Option.some.injEq,Obj.cells.injEq]at g2';obtain⟨rfl,_,rfl⟩:=g2'
 let m':M:=λk' L=>if k'=k/\L=all.length then bc (b,cap)else m k' L
 have hm1:m' k all.length=bc (b,cap):=by simp[m']
 have hm2:∀k' L loc,m k' L=bc loc->m' k' L=bc loc:=λk' L loc e=>by
  by_cases hc:k'=k/\L=all.length
  ·obtain⟨rfl,rfl⟩:=hc
   have h:=g12 _ _ e
   have:all.length=els.length:=ab
   rw[this,g1]at e;rw[hm1];exact e
  ·simp only[m',aO hc];exact e
 have hc0:cap≠0:=ab
 have hnewb:=setRow_heap w b cur cur' t fr g2;have hblt:b<w.heap.size:=(bX.1 g2).1;have hfzle:fz*sz<=els.length*sz:=cr _ g10
 have hcell:∀off,(w.setRow b cur').cell? ⟨b,off,bh⟩=cur'[off]?:=λoff=>cell_of_row _ _ off cur' t fr hnewb
 refine⟨m',⟨⟨λa x ha=>?_,λp hp=>?_,by simp[keys],λp hp q hq _ _ _=>?_⟩,hm2,λ_ _ e=>e,rfl,rfl,rfl,af,λj hj hn=>setRow_other w b j _ λe=>?_,λj hj=>by simpa[keys]using hj,λj hj=>?_,λp hp b' hb=>?_,λa x ha=>.inl ha⟩,hm1⟩
 ·by_cases e:a.block=b
  ·have hlt:=g11 a x ha e
   have hc:=hs.frozen a x ha;obtain⟨bb,off,sp⟩:=a;simp only at e hlt;subst e
   have hsp:sp=bh:=by
    simp only[World.cell?,g2]at hc
    cases sp with
    |none=>rfl
    |some _=>simp at hc
   subst hsp;rw[cell_of_row w bb off cur t fr g2]at hc;rw[hcell,hsame off ab];exact hc
  ·rw[Hb (setRow_other w b _ _ e)];exact hs.frozen a x ha
 ·simp only[msQ]at hp
  subst hp;refine .inr ⟨b,cap,cur',fr,hm1,g0,hnewb,hcap,g4,hcs,g6,hr,hk,by have:=cr sz hle;omega,ab,g11,λL loc e=>?_,λoff x ho hx=>?_⟩
  ·simp only[m']at e
   split at e
   ·rename_i hc;omega
   ·have:=g12 _ _ e;omega
  ·rw[hsame off ab]at hx
   exact g13 off x ho hx
 ·simp only[msQ]at hp hq
  subst hp;subst hq;rfl
 ·subst e
  exact hn _ (msQ.2 rfl) (by simp[blk,u6,Obj.ver,g1,hc0])
 ·funext L
  have:j≠k:=by simpa[keys]using hj
  simp[m',this]
 ·simp only[msQ]at hp
  subst hp;simp only[blk,u6,u6,Obj.ver,hm1,bsQ,aO hc0,Option.some.injEq]at hb;exact .inr ⟨_,msQ.2 rfl,by simp[blk,u6,Obj.ver,g1,hc0,hb]⟩
end
section
variable{P:bm}{ρ:Env}{dst:Option Tmp}{ty:bJ}{pos:String}{aft:Array Edge}{gd:Option (Nat×Bool)}
def Ky{α:Type}(a b:List (List α)):(a++b).flatten=a.flatten++b.flatten:=List.flatten_append
def zw9{t e sz bytes:Nat}{x y:bE}{k fz L:Nat}{els ys:List (List V)}{R:ax}(hT:oJ P t=bc (e,sz,bytes))(hx:evV ρ x=.sl sz k L 0 L)(hL:L=els.length)(hy:Src sz R (evV ρ y) ys)
  (h1:∀c∈ys,c.all V.one=bf) (hlen:(els.length+ys.length)*bytes<=140737488355328) (h63:els.length+ys.length<=9223372036854775807) (hkR:kv k R=bd) (hkl:∀c∈ys,c.length=sz):
  Loc P ⟨dst,.call ⟨.builtin .append,#[x,y],#[t,t]⟩,ty,pos,aft,gd⟩ ρ ((k,.row e sz fz els)::R) (.sl sz k (els++ys).length 0 (els++ys).length) ((k,.row e sz fz (els++ys))::R):=by
 intro ρr m Z w hops hs hnew;obtain⟨i,z,hu,hi,hz,hisz,hib,hzs,h0⟩:=Hc hT;subst hisz;subst hib;subst hL;have hX:=hops x (by simp[Op.operands,Call.operands]);have hY:=hops y (by simp[Op.operands,Call.operands]);rw[hx]at hX;have hs1:wQ m Z [(k,.row e i.size fz els)] w:=wQ.left (F:=[(k,.row e i.size fz els)]) (G:=R) hs;have hsR:wQ m Z R w:=wQ.left (F:=R) (G:=[(k,.row e i.size fz els)]) (hs.perm (List.perm_append_comm (l₁:=[(k,Obj.row e i.size fz els)]) (l₂:=R)));obtain⟨A,c,hYv,hym,hA,hnews⟩:=hy.read h0 hsR hY
 have hap:∀p∈[(k,Obj.row e i.size fz (els++ys))],∀q∈R,p.1≠q.1:=λp hp q hq e'=>by
  simp only[msQ]at hp;subst hp;have e':k=q.1:=e';rw[yR.2 (by rw[e'];exact ay hq)]at hkR;cases hkR
 have hfr:∀{m' Z' w'},Step m Z [(k,.row e i.size fz els)] w m' Z' [(k,.row e i.size fz (els++ys))] w'->Step m Z ((k,.row e i.size fz els)::R) w m' Z' ((k,.row e i.size fz (els++ys))::R) w':=λh=>Step.frame_rule (F:=[(k,.row e i.size fz els)]) (G:=R) (F':=[(k,.row e i.size fz (els++ys))]) hs h hap
 have fin:∀{v w'},(Builtin.append_ #[t,t] ty #[ev ρr x,ev ρr y]).run P w=.ok v w'->(bY (ev ρr) ⟨dst,.call ⟨.builtin .append,#[x,y],#[t,t]⟩,ty,pos,aft,gd⟩).run P w=.ok (.value v) w':=λh=>by
  simp[bY,resolve,invoke,builtin,h]
 have hlenA:(els++ys).length=els.length+ys.length:=af
 obtain⟨f,loc,e1,e2,e3,e4,e5⟩:=hX;cases e1
 replace e5:=e5.imp_right λh=>h.resolve_right λh=>fV 0 h.1
 by_cases hys:ys=[]
 ·-- nothing is appended
  subst hys
  have hcapx:∃A' c',ev ρr x=.slice A' els.length c'/\els.length<=c':=by
   rcases e5 with e5|⟨e5,A',e6⟩
   ·exact⟨_,_,e5,ab⟩
   ·exact⟨A',0,by rw[e6];congr 1;omega,ab⟩
  obtain⟨A',c',hXv,hc'⟩:=hcapx
  have hrun:(Builtin.append_ #[t,t] ty #[ev ρr x,ev ρr y]).run P w=.ok (ev ρr x) w:=by
   rw[hXv,hYv]
   have hf:(Builtin.firstCells i.size 0 (.slice A 0 c)).run P w=.ok #[] w:=by
    cases A with
    |none=>simp[Builtin.firstCells]
    |some a=>simp[Builtin.firstCells,loadCells,loadCellsFrom]
   cases A' with
   |none=>simp[Builtin.append_,run_underlying hu,sizeOf,typeInfo,hi,Builtin.lenOf,hc',hf]
   |some a'=>simp[Builtin.append_,run_underlying hu,sizeOf,typeInfo,hi,Builtin.lenOf,hc',hf,storeCells]
  simp only[bI];refine⟨rfl,.inl ⟨_,w,fin hrun,m,Z,Step.refl hs,m,loc,rfl,e2,e3,e4,e5.imp_right .inl⟩⟩
 have hn0:0<ys.length:=dp.2 hys
 obtain⟨a,rfl⟩:∃a,A=bc a:=by
  cases A with
  |none=>exact aU (hA rfl) hys
  |some a=>exact⟨a,rfl⟩
 obtain⟨news,hn1,hn2⟩:=hnews a rfl
 have hnl:news.length=ys.length*i.size:=by rw[hn1.length,j6 hkl]
 have hones:∀u∈news,u.oneCell'=bf:=zig hn1 (bj.2 λv hv=>by
  obtain⟨c,hc,hvc⟩:=List.mem_flatten.1 hv
  exact(bj.1 (h1 c hc)) v hvc)
 have hmax:els.length+ys.length<=maxLen:=by simp only[maxLen];omega
 rcases hs1.holds _ (msQ.2 rfl)with⟨_,g1,g2,⟨b,g3⟩,g4⟩|⟨b,cap,cur,fr,g1,g0,g2,g3,g4,g5,g6,g7,g8,g9,g10,g11,g12,g13⟩
 ·-- an empty row without room
  subst g1;subst g2;have g3:m k 0=bc (b,0):=g3;rw[show m k ([]:List (List V)).length=m k 0 from rfl,g3]at e2;cases e2;have hgr:=grownCap_ge w ys.length 0 e;have hgm:=grownCap_le_maxLen w ys.length 0 e (by simpa using hmax)
  obtain⟨m',Z',hst,hm'⟩:=Step.grown (m:=m) (Z:=Z) (w:=w) (k:=k) (t:=e) (sz:=i.size) (fz:=0) (els:=[]) (all:=[]++ys) (cur:=news.toArray++Builtin.zeroCells z.cells (grownCap w ys.length 0 e-ys.length)) (cap:=grownCap w ys.length 0 e) (w1:=w.drew) hs1 rfl (by simpa using g4) (by simpa using hn0) rfl rfl rfl rfl h0 (by simpa using hgr) hgm
   (by simp only[ij,cN,size_zeroCells,hzs,hnl,<- dB];congr 1;omega)
   (by
    have:(news.toArray++Builtin.zeroCells z.cells (grownCap w ys.length 0 e-ys.length)).toList.take (([]++ys:List (List V)).length*i.size)=news:=by
     simp only[gM,bM,<- hnl];exact ef
    rw[this];simpa using hn1) (by simpa using hkl) (cj _)
  have hr:=run_append_nil (P:=P) w t ty e i z hu hi hz a ys.length c news hnl hn2 hn0 ab (by have:=hlen;simp only[bF,cI]at this;omega)
  rcases e5 with e5|⟨_,A',e5⟩
  ·simp only[bF,ej]at e5
   have hr2:=run_append_grow (P:=P) w t ty e i z hu hi hz ⟨b,0,bh⟩ 0 0 [] af (λj v h=>by simp at h) a ys.length c news hnl hn2 ab ab (growslice_fits ab (by simpa using hlen));simp only[cI,bM,gT]at hr2;refine⟨rfl,.inl ⟨_,_,fin (by rw[e5,hYv];exact hr2),m',Z',hfr hst,m',_,rfl,hm',by simpa using hgr,hgm,.inl af⟩⟩
  ·cases A' with
   |none=>exact⟨rfl,.inl ⟨_,_,fin (by rw[e5,hYv];exact hr),m',Z',hfr hst,m',_,rfl,hm',by simpa using hgr,hgm,.inl af⟩⟩
   |some a' =>
    have hr2:=run_append_grow (P:=P) w t ty e i z hu hi hz a' 0 0 [] af (λj v h=>by simp at h) a ys.length c news hnl hn2 ab ab (growslice_fits ab (by simpa using hlen));simp only[cI,bM,gT]at hr2;exact⟨rfl,.inl ⟨_,_,fin (by rw[e5,hYv];exact hr2),m',Z',hfr hst,m',_,rfl,hm',by simpa using hgr,hgm,.inl af⟩⟩
 ·have g1:m k els.length=bc (b,cap):=g1
  rw[g1]at e2;cases e2
  have e5:ev ρr x=.slice (bc ⟨b,0,bh⟩) els.length cap:=by
   rcases e5 with e5|⟨e5,_⟩
   ·simpa using e5
   ·simp only at e5;omega
  have hfl:=j6 g8
  have hcl:cur.toList.length=cap*i.size:=by simpa using g5
  by_cases hroom:els.length+ys.length<=cap
  ·have hfit:els.length*i.size+news.length<=cur.size:=by rw[hnl,g5,<- dB];exact cr _ hroom
   have hr:=run_append_roomF (P:=P) w t ty e i hu hi b els.length cap cur fr g2 (cW g9 (cr _ g10)) a ys.length c news hnl hn2 hones hroom hfit
   have hlt:els.length*i.size<=cur.toList.length:=by rw[hcl];exact cr _ g3
   obtain⟨m',hst,hm'⟩:=Step.roomed (all:=els++ys) (cur':=(cur.toList.take (els.length*i.size)++news++cur.toList.drop (els.length*i.size+news.length)).toArray) hs1 g1 g0 g2 af ab
    (by simp only[cN,la,cE,cz];(have:cur.size=cur.toList.length:=af);omega)
    (λoff ho=>by
     simp only[eS,asc]
     rw[dJ (by simp only[cE];omega),cJ,aP ho];simp)
    (by
     have e6:((els++ys).length*i.size)=(cur.toList.take (els.length*i.size)++news).length:=by
      have h7:(cur.toList.take (els.length*i.size)).length=els.length*i.size:=by rw[cE];omega
      rw[hlenA,la (a:=cur.toList.take (els.length*i.size)),h7,hnl,dB]
     rw[e6,Ky];simp only[];rw[ef]
     exact g7.append hn1)
    (λc hc=>by
     rcases bz.1 hc with hc|hc
     ·exact g8 c hc
     ·exact hkl c hc) rfl
   exact⟨rfl,.inl ⟨_,_,fin (by rw[e5,hYv];exact hr),m',Z,hfr hst,m',_,rfl,hm',by simp only[hlenA];omega,g4,.inl (by simp[hlenA])⟩⟩
  ·have hgr:=grownCap_ge w (els.length+ys.length) cap e
   have hgm:=grownCap_le_maxLen w (els.length+ys.length) cap e hmax
   have htl:(cur.toList.take (els.length*i.size)).length=els.length*i.size:=by rw[cE,hcl];exact eI (cr _ g3)
   have hr:=run_append_grow (P:=P) w t ty e i z hu hi hz ⟨b,0,bh⟩ els.length cap (cur.toList.take (els.length*i.size)) htl (λj v h=>by
    rw[Addr.add_lit,cI,cell_of_row w b j cur e fr g2];rw[cJ]at h;split at h
    ·simpa using h
    ·cases h) a ys.length c news hnl hn2 ab ab (growslice_fits ab hlen)
   obtain⟨m',Z',hst,hm'⟩:=Step.grown (m:=m) (Z:=Z) (w:=w) (k:=k) (t:=e) (sz:=i.size) (fz:=fz) (els:=els) (all:=els++ys) (cur:=(cur.toList.take (els.length*i.size)).toArray++news.toArray++Builtin.zeroCells z.cells (grownCap w (els.length+ys.length) cap e-(els.length+ys.length))) (cap:=grownCap w (els.length+ys.length) cap e) (w1:=w.drew) hs1 rfl g12 ab rfl rfl rfl rfl h0 ab hgm
    (by simp only[ij,cN,size_zeroCells,hzs,hnl,htl,<- dB];congr 1;omega)
    (by
     have e6:((els++ys).length*i.size)=(cur.toList.take (els.length*i.size)++news).length:=by
      rw[hlenA,la (a:=cur.toList.take (els.length*i.size)),htl,hnl,dB]
     rw[e6,Ky];simp only[gM];rw[ef]
     exact g7.append hn1)
    (λc hc=>by
     rcases bz.1 hc with hc|hc
     ·exact g8 c hc
     ·exact hkl c hc) g10
   exact⟨rfl,.inl ⟨_,_,fin (by rw[e5,hYv];exact hr),m',Z',hfr hst,m',_,rfl,hm',by simp only[hlenA];omega,hgm,.inl (by simp[hlenA])⟩⟩
end
section
variable{P:bm}{ρ:Env}{dst:Option Tmp}{ty:bJ}{pos:String}{aft:Array Edge}{gd:Option (Nat×Bool)}
def zL2(P:bm)(t:Nat):Bool:=match P.underlying t with|some .string=>bf|_=>bd
def zAl{t:Nat}(h:zL2 P t=bf):P.underlying t=bc .string:=by
 unfold zL2 at h;split at h
 ·assumption
 ·cases h
def zl6{t:bJ}{x ix:bE}{k:IntKind}{i:Int}{l:ak}(ht:zL2 P t=bf)(hx:evV ρ x=.str l)(hi:evV ρ ix=.int k i)(h0:0<=i)(h1:i<l.length):
  Loc P ⟨dst,.index t x ix,ty,pos,aft,gd⟩ ρ [] (.int .u8 ((l.getD i.toNat 0).toNat)) []:=by
 intro ρr m Z w hops hs _;have hX:=hops x (by simp[Op.operands]);have hI:=hops ix (by simp[Op.operands]);rw[hx]at hX;rw[hi]at hI;have hX:ev ρr x=.string ⟨l.toArray⟩:=hX;have hI:ev ρr ix=.int k i:=hI
 have hlt:i.toNat<l.length:=ab
 have hg:(⟨l.toArray⟩:ByteArray)[i.toNat]?=bc (l.getD i.toNat 0):=by
  have hsz:(⟨l.toArray⟩:ByteArray).size=l.length:=by show l.toArray.size=_;simp
  rw[getElem?_pos _ _ (by rw[hsz];exact hlt)]
  congr 1
  show l.toArray[i.toNat]=_
  simp[ca,bA hlt]
 refine⟨rfl,.inl ⟨_,w,?_,m,Z,Step.refl hs,rfl⟩⟩;simp[bY,Instr.index,asIntOf,hX,hI,run_underlying (zAl ht),h0,hg]
def zqj{t e sz:Nat}{x ix:bE}{k:IntKind}{i:Int}{els:List (List V)}{cs:List V}(ht:J4 P t=bc (e,sz))(hx:evV ρ x=.vs sz els)(hi:evV ρ ix=.int k i)(h0:0<=i)(hc:els[i.toNat]?=bc cs):
  Loc P ⟨dst,.indexAddr t x ix,ty,pos,aft,gd⟩ ρ [] (.vp cs 0) []:=by
 intro ρr m Z w hops hs _;have hX:=hops x (by simp[Op.operands]);have hI:=hops ix (by simp[Op.operands]);rw[hx]at hX;rw[hi]at hI;have hI:ev ρr ix=.int k i:=hI;obtain⟨A,c,h1,h2,h3,h4⟩:=hX;have hlt:=(bw.1 hc).1
 rcases h4 with h4|⟨a,rfl,h5⟩
 ·subst h4;simp at hlt
 have h6:=(h5.get hc).2;rw[cI]at h6;unfold J4 at ht;split at ht
 ·rename_i e' hu
  split at ht
  ·rename_i ii hii
   split at ht
   ·simp only[Option.some.injEq,Prod.mk.injEq]at ht
    obtain⟨rfl,hsz⟩:=ht;refine⟨rfl,.inl ⟨.pointer (bc (a.add (i.toNat*sz))),w,?_,m,Z,Step.refl hs,a.add (i.toNat*sz),by rw[Addr.add_zero'],h6⟩⟩
    have h7:¬((els.length:Int)<=i):=ab
    simp[bY,Instr.indexAt,run_underlying hu,asIntOf,h1,hI,sizeOf,typeInfo,hii,hsz,h0,h7]
   ·cases ht
  ·cases ht
 ·cases ht
def zl7{t e sz kk L o n:Nat}{x ix:bE}{k:IntKind}{i:Int}(ht:J4 P t=bc (e,sz))(hx:evV ρ x=.sl sz kk L o n)(hi:evV ρ ix=.int k i)(h0:0<=i)(h1:i<n):
  Loc P ⟨dst,.indexAddr t x ix,ty,pos,aft,gd⟩ ρ [] (.ptr kk L (o*sz+i.toNat*sz)) []:=by
 intro ρr m Z w hops hs _;have hX:=hops x (by simp[Op.operands]);have hI:=hops ix (by simp[Op.operands]);rw[hx]at hX;rw[hi]at hI;have hI:ev ρr ix=.int k i:=hI;obtain⟨f,loc,e1,e2,e3,e4,e5⟩:=hX;cases e1
 have e5:ev ρr x=.slice (bc ⟨loc.1,o*sz,bh⟩) n (loc.2-o):=by
  rcases e5 with e5|⟨e5,_⟩|⟨_,e5,_⟩
  ·exact e5
  ·omega
  ·omega
 unfold J4 at ht;split at ht
 ·rename_i e' hu
  split at ht
  ·rename_i ii hii
   split at ht
   ·simp only[Option.some.injEq,Prod.mk.injEq]at ht
    obtain⟨rfl,hsz⟩:=ht;refine⟨rfl,.inl ⟨.pointer (bc ⟨loc.1,o*sz+i.toNat*sz,bh⟩),w,?_,m,Z,Step.refl hs,m,loc,rfl,e2,rfl⟩⟩
    have h7:¬((n:Int)<=i):=ab
    simp[bY,Instr.indexAt,run_underlying hu,asIntOf,e5,hI,sizeOf,typeInfo,hii,hsz,h0,h7,Addr.add_lit]
   ·cases ht
  ·cases ht
 ·cases ht
def zAm{m:M}{Z:ZM}{w:bG}{k t sz fz:Nat}{els:List (List V)}{i:Nat}{cs:List V}(h:Holds m Z w k (.row t sz fz els))(hc:els[i]?=bc cs):
  ∃b cap cur fr,m k els.length=bc (b,cap)/\w.heap[b]?=bc (.cells cur t fr)/\∀j v,cs[j]?=bc v->∃x,cur[i*sz+j]?=bc x/\Rep bh Z v x:=by
 have hlt:=(bw.1 hc).1
 rcases h with⟨_,rfl,_⟩|⟨b,cap,cur,fr,g1,g0,g2,g3,g4,g5,g6,g7,g8,g9,g10,g11,g12,g13⟩
 ·simp at hlt
 refine⟨b,cap,cur,fr,g1,g2,λj v hj=>?_⟩;obtain⟨x,h1,h2⟩:=g7.get (Az g8 hc hj);rw[cJ]at h1;split at h1
 ·exact⟨x,by simpa using h1,h2⟩
 ·cases h1
def zqk{t et sz fz k L off:Nat}{a:bE}{els:List (List V)}{cs:List V}{v:V}(i j:Nat)(ha:evV ρ a=.ptr k L off)(hL:L=els.length)(hoff:off=i*sz+j)(hc:els[i]?=bc cs)(hv:atV P t cs j=bc v):
  Loc P ⟨dst,.load t a,ty,pos,aft,gd⟩ ρ [(k,.row et sz fz els)] v [(k,.row et sz fz els)]:=by
 intro ρr m Z w hops hs _;have hX:=hops a (by simp[Op.operands]);rw[ha]at hX;subst hL;subst hoff;obtain⟨f,loc,e1,e2,e3⟩:=hX;cases e1;obtain⟨b,cap,cur,fr,g1,g2,g3⟩:=zAm (hs.holds _ (msQ.2 rfl)) hc;have g1:m k els.length=bc (b,cap):=g1;rw[g1]at e2;cases e2
 have hcell:∀q,w.cell? ⟨b,q,bh⟩=cur[q]?:=λq=>cell_of_row w b q cur et fr g2
 refine⟨rfl,.inl ?_⟩;unfold atV at hv;split at hv
 ·rename_i hsh
  split at hv
  ·rename_i v' hv'
   split at hv
   ·cases hv
    obtain⟨u,h4,h5⟩:=g3 _ _ hv';exact⟨u,w,HY (u7 hsh) e3 (by rw[hcell];exact h4),m,Z,Step.refl hs,h5.none_some⟩
   ·cases hv
  ·cases hv
 ·rename_i n hsh
  split at hv
  ·rename_i hk
   have hk:=lb hk;cases hv
   let us:List bu:=(cQ n).map λq=>(cur[i*sz+(j+q)]?).getD Go.undef
   have hex:∀q,q<n->∃u v,cs[j+q]?=bc v/\cur[i*sz+(j+q)]?=bc u/\Rep bh Z v u:=λq hq=>by
    have hcq:cs[j+q]?=bc (cs[j+q]'ab):=bA ab;obtain⟨u,h1,h2⟩:=g3 _ _ hcq;exact⟨u,_,hcq,h1,h2⟩
   have hget:∀q,q<n->us[q]?=cur[i*sz+(j+q)]?:=λq hq=>by
    obtain⟨u,v,_,h2,_⟩:=hex q hq;simp only[us,cK,dG hq,da,h2,dM]
   refine⟨.agg us.toArray,w,Ay us (qL hsh) e3 (by simp[us]) λq u hq=>?_,m,Z,Step.refl hs,us,rfl,?_⟩
   ·have hqn:q<n:=by have:=(bw.1 hq).1;simpa[us]using this
    rw[Addr.add_lit,hcell,ee,<- hget q hqn];exact hq
   ·refine zT.of_get (by simp[us];omega) λq v u hv hu=>?_
    have hqn:q<n:=by have:=(bw.1 hu).1;simpa[us]using this
    rw[cJ,aP hqn,dw]at hv;obtain⟨u',v',h1,h2,h3⟩:=hex q hqn;rw[hv]at h1;cases h1;rw[hget q hqn,h2]at hu;cases hu;exact h3.none_some
  ·cases hv
 ·cases hv
def Zv{α:Type}{k off:Nat}{us:List α}:∀(xs:List (List α)),(∀x∈xs,x.length=k)->∀(i:Nat)(x:List α),xs[i]?=bc x->off+us.length<=k ->
  (xs.set i (x.take off++us++x.drop (off+us.length))).flatten=xs.flatten.take (i*k+off)++us++xs.flatten.drop (i*k+off+us.length)
 |[],_,i,x,h,_=>by simp at h
 |y::xs,hk,0,x,h,hf=>by
  have hy:=hk y al;simp only[eg,Option.some.injEq]at h;subst h;rw[List.set_cons_zero,cO,cO,ej,cI,List.take_append_of_le_length ab,List.drop_append_of_le_length ab];simp[asc]
 |y::xs,hk,i+1,x,h,hf=>by
  have hy:=hk y al;have ih:=Zv (us:=us) (off:=off) xs (λz hz=>hk z (mcQ _ hz)) i x (by simpa using h) hf;rw[List.set_cons_succ,cO,cO,ih,show(i+1)*k+off=y.length+(i*k+off) by rw[hy,dq];omega,eA,ee,List.drop_append];rw[List.drop_of_length_le (by omega:y.length<=y.length+(i*k+off)+us.length),show y.length+(i*k+off)+us.length-y.length=i*k+(off+us.length) by omega];simp[asc]
def zxa{α:Type}(c us:List α)(p n:Nat)(h:p+us.length<=n)(hn:n<=c.length):(c.take p++us++c.drop (p+us.length)).take n=(c.take n).take p++us++(c.take n).drop (p+us.length):=by
 have hA:(c.take p++us).length=p+us.length:=by simp only[la,cE];omega
 have e:n=(c.take p++us).length+(n-(p+us.length)):=ab
 have e1:(c.take n).take p=c.take p:=by rw[fI,eI ab]
 rw[e1,fF]
 conv=>lhs;rw[e]
 rw[eA]
def zl8{t et sz fz k L off:Nat}{a x:bE}{els:List (List V)}{cs:List V}(i j:Nat)(ha:evV ρ a=.ptr k L off)(hL:L=els.length)(hoff:off=i*sz+j)(hc:els[i]?=bc cs)(hfz:fz<=i)
  (hp:(evV ρ x).plain=bf) (h1:(evV ρ x).cells.all V.one=bf) (hrf:(evV ρ x).refs=[]) (hsz:H0 P t (evV ρ x).cells.length=bf) (hfit:j+(evV ρ x).cells.length<=sz):
  Loc P ⟨dst,.store t a x,ty,pos,aft,gd⟩ ρ [(k,.row et sz fz els)] .no [(k,.row et sz fz (els.set i (cs.take j++(evV ρ x).cells++cs.drop (j+(evV ρ x).cells.length))))]:=by
 intro ρr m Z w hops hs _;have hX:=hops a (by simp[Op.operands]);rw[ha]at hX;subst hL;subst hoff;obtain⟨f,loc,e1,e2,e3⟩:=hX;cases e1;have hlt:=(bw.1 hc).1
 rcases hs.holds _ (msQ.2 rfl)with⟨_,g1,_⟩|⟨b,cap,cur,fr,g1,g0,g2,g3,g4,g5,g6,g7,g8,g9,g10,g11,g12,g13⟩
 ·subst g1;simp at hlt
 have g1:m k els.length=bc (b,cap):=g1;rw[g1]at e2;cases e2;have hv0:=(hops x (by simp[Op.operands])).cells hp
 have hv:zT bh Z (evV ρ x).cells (ev ρr x).cells.toList:=by
  refine zT.flat _ _ ?_ hv0;cases hxv:evV ρ x<;>rw[hxv]at hrf<;>simp only[V.cells,wP,bI]<;>exact hrf
 have hlv:=hv.length;have hones:=zig hv h1;have hcs:=g8 cs (bP hc)
 have hle:i*sz+sz<=els.length*sz:=by
  have:(i+1)*sz<=els.length*sz:=cr sz hlt
  rwa [dq]at this
 have hle2:els.length*sz<=cap*sz:=cr sz g3;have hfl:fz*sz<=i*sz:=cr sz hfz
 have hcl:cur.toList.length=cap*sz:=by simpa using g5
 unfold H0 at hsz;split at hsz
 ·rename_i ii hi
  have hik:=eb hsz;have hst:=run_storeCells_atF P b (i*sz+j) et fr (ev ρr x).cells.toList 0 cur w g2 ab ab hones;simp only[dY]at hst
  have hsz2:(ev ρr x).cells.size=ii.size:=by simp at hlv;omega
  have hnewb:=setRow_heap w b cur (cur.toList.take (i*sz+j)++(ev ρr x).cells.toList++cur.toList.drop (i*sz+j+(ev ρr x).cells.toList.length)).toArray et fr g2
  have hlen:(els.set i (cs.take j++(evV ρ x).cells++cs.drop (j+(evV ρ x).cells.length))).length=els.length:=af
  have hc0:cap≠0:=ab
  refine⟨rfl,.inr (.inl ⟨w.setRow b (cur.toList.take (i*sz+j)++(ev ρr x).cells.toList++cur.toList.drop (i*sz+j+(ev ρr x).cells.toList.length)).toArray,?_,m,Z,?_,rfl⟩)⟩
  ·simp[bY,Instr.storeAt,e3,Instr.sureAddr,storeVar,sizeOf,typeInfo,hi,hsz2,hst]
  ·have hsame:∀off,off<i*sz+j->(cur.toList.take (i*sz+j)++(ev ρr x).cells.toList++cur.toList.drop (i*sz+j+(ev ρr x).cells.toList.length)).toArray[off]?=cur[off]?:=λoff ho=>by
    simp only[eS,asc];rw[dJ (by simp only[cE];omega),cJ,aP ho];simp
   refine Step.write (b:=b) hs (by simp[blk,u6,Obj.ver,g1,hc0]) (zby (by simp[Obj.ver]) rfl rfl) rfl rfl rfl af (λq hq=>setRow_other w b q _ hq) (λaa y ha' e=>?_) ?_
   ·have hl:=g11 aa y ha' e
    have hc':=hs.frozen aa y ha';obtain⟨bb,off,sp⟩:=aa;simp only at e hl;subst e
    have hsp:sp=bh:=by
     simp only[World.cell?,g2]at hc'
     cases sp with
     |none=>rfl
     |some _=>simp at hc'
    subst hsp;rw[cell_of_row w bb off cur et fr g2]at hc';rw[cell_of_row _ bb off _ et fr hnewb,hsame off ab];exact hc'
   ·refine .inr ⟨b,cap,_,fr,by rw[hlen];exact g1,g0,hnewb,by rw[hlen];exact g3,g4,?_,g6,?_,?_,g9,by rw[hlen];exact g10,g11,by rw[hlen];exact g12,λoff y ho hy=>?_⟩
    ·simp only[cN,la,cE,cz];have:cur.size=cur.toList.length:=af
     omega
    ·rw[hlen,Zv els g8 i cs hc ab]
     simp only[];rw[zxa _ _ _ _ ab ab];have:=zbw (off:=i*sz+j) g7 hv;exact this
    ·intro c hcc
     rcases List.mem_or_eq_of_mem_set hcc with hcc|rfl
     ·exact g8 c hcc
     ·simp only[la,cE,cz];omega
    ·rw[hsame off ab]at hy
     exact g13 off y ho hy
 ·cases hsz
end
def ztm(ρ:Env):Option bE->Int->Int->Prop
 |none,d,i=>i=d
 |some x,_,i=>∃k,evV ρ x=.int k i
section
variable{P:bm}{ρ:Env}{dst:Option Tmp}{ty:bJ}{pos:String}{aft:Array Edge}{gd:Option (Nat×Bool)}
def zAn{ρr:yL}{m:Option M}{Z:ZM}{o:Option bE}{d i:Int}(h:ztm ρ o d i)(hr:∀x∈o,Rep m Z (evV ρ x) (ev ρr x)):(o=bh/\i=d)∨∃x k,o=bc x/\ev ρr x=.int k i:=by
 cases o with
 |none=>exact .inl ⟨rfl,h⟩
 |some x =>
  obtain⟨k,hk⟩:=h;have:=hr x rfl;rw[hk]at this;exact .inr ⟨x,k,rfl,this⟩
def YN{w:bG}{ρr:yL}{m:Option M}{Z:ZM}{lo hi:Option bE}{l h:Int}{isS:Bool}{len cap:Nat}(hl:ztm ρ lo 0 l)(hh:ztm ρ hi len h)(hrl:∀x∈lo,Rep m Z (evV ρ x) (ev ρr x))(hrh:∀x∈hi,Rep m Z (evV ρ x) (ev ρr x))
  (h0:0<=l) (h1:l<=h) (h2:h<=len) (hc:len<=cap):(Instr.sliceBounds isS len cap (lo.map (ev ρr)) (hi.map (ev ρr)) bh).run P w=.ok (l.toNat,h.toNat,cap) w:=by
 have h3:h<=(cap:Int):=ab
 have h4:0<=h:=ab
 have h5:((h.toNat:Nat):Int)=h:=Int.toNat_of_nonneg h4
 rcases zAn hl hrl with⟨rfl,rfl⟩|⟨x,k,rfl,hx⟩<;>rcases zAn hh hrh with⟨rfl,rfl⟩|⟨y,k',rfl,hy⟩
 ·simp[Instr.sliceBounds]
 ·simp[Instr.sliceBounds,Instr.sliceBound,asIntOf,hy,h4,h3]
 ·simp[Instr.sliceBounds,Instr.sliceBound,asIntOf,hx,h0,h1]
 ·simp[Instr.sliceBounds,Instr.sliceBound,asIntOf,hx,hy,h4,h3,h0,h5,h1]
def zl9{t:bJ}{x:bE}{lo hi:Option bE}{l h:Int}{s:ak}(ht:zL2 P t=bf)(hx:evV ρ x=.str s)(hl:ztm ρ lo 0 l)(hh:ztm ρ hi s.length h)(h0:0<=l)(h1:l<=h)(h2:h<=s.length):
  Loc P ⟨dst,.slice t x lo hi bh,ty,pos,aft,gd⟩ ρ [] (.str ((s.take h.toNat).drop l.toNat)) []:=by
 intro ρr m Z w hops hs _;have hX:=hops x (by simp[Op.operands]);rw[hx]at hX;have hX:ev ρr x=.string ⟨s.toArray⟩:=hX
 have hsz:(⟨s.toArray⟩:ByteArray).size=s.length:=by show s.toArray.size=_;simp
 have hb:=YN (P:=P) (w:=w) (isS:=bd) (cap:=s.length) hl hh (λy hy=>hops y (by simp[Op.operands];right;left;simpa using hy)) (λy hy=>hops y (by simp[Op.operands];right;right;simpa using hy)) h0 h1 h2 aq;refine⟨rfl,.inl ⟨.string ((⟨s.toArray⟩:ByteArray).extract l.toNat h.toNat),w,?_,m,Z,Step.refl hs,?_⟩⟩
 ·simp[bY,Instr.sliceAt,Instr.slice,run_underlying (zAl ht),hX,hsz,hb]
 ·show _=_
  congr 1
  apply ByteArray.ext;rw[ByteArray.data_extract];apply gi;simp[fM,fF]
def zql{t e sz:Nat}{x:bE}{lo hi:Option bE}{l h:Int}{els:List (List V)}(ht:J4 P t=bc (e,sz))(hx:evV ρ x=.vs sz els)(hl:ztm ρ lo 0 l)(hh:ztm ρ hi els.length h)(h0:0<=l)(h1:l<=h)(h2:h<=els.length):
  Loc P ⟨dst,.slice t x lo hi bh,ty,pos,aft,gd⟩ ρ [] (.vs sz ((els.take h.toNat).drop l.toNat)) []:=by
 intro ρr m Z w hops hs _;have hX:=hops x (by simp[Op.operands]);rw[hx]at hX;obtain⟨A,c,g1,g2,g3,g4⟩:=hX;have hb:=YN (P:=P) (w:=w) (isS:=bf) (cap:=c) hl hh (λy hy=>hops y (by simp[Op.operands];right;left;simpa using hy)) (λy hy=>hops y (by simp[Op.operands];right;right;simpa using hy)) h0 h1 h2 g2;unfold J4 at ht;split at ht
 ·rename_i e' hu
  split at ht
  ·rename_i ii hii
   split at ht
   ·simp only[Option.some.injEq,Prod.mk.injEq]at ht
    obtain⟨rfl,hsz⟩:=ht
    have hlen:((els.take h.toNat).drop l.toNat).length=h.toNat-l.toNat:=by simp;omega
    refine⟨rfl,.inl ⟨.slice (if c=l.toNat then A else A.map (·.add (l.toNat*sz))) (h.toNat-l.toNat) (c-l.toNat),w,?_,m,Z,Step.refl hs,(if c=l.toNat then A else A.map (·.add (l.toNat*sz))),c-l.toNat,by rw[hlen],by rw[hlen];omega,ab,?_⟩⟩
    ·simp[bY,Instr.sliceAt,Instr.slice,run_underlying hu,g1,hb,sizeOf,typeInfo,hii,hsz]
    ·by_cases he:(els.take h.toNat).drop l.toNat=[]
     ·exact .inl he
     ·have hpos:0<h.toNat-l.toNat:=by rw[<- hlen];exact dp.2 he
      rcases g4 with g4|⟨a,rfl,g5⟩
      ·subst g4;simp at h2;omega
      ·refine .inr ⟨a.add (l.toNat*sz),by rw[aO ab];rfl,wS.of_get λi cs hi=>?_⟩
       rw[dw,cJ]at hi;split at hi
       ·have:=g5.get hi
        refine⟨this.1,?_⟩;have h6:=this.2;rw[Wk,cI,<- dB]
        rwa [cI]at h6
       ·cases hi
   ·cases ht
  ·cases ht
 ·cases ht
def zma{t e sz k L o n:Nat}{x:bE}{lo hi:Option bE}{l h:Int}(ht:J4 P t=bc (e,sz))(hx:evV ρ x=.sl sz k L o n)(hl:ztm ρ lo 0 l)(hh:ztm ρ hi n h)(h0:0<=l)(h1:l<=h)(h2:h<=n):
  Loc P ⟨dst,.slice t x lo hi bh,ty,pos,aft,gd⟩ ρ [] (.sl sz k L (o+l.toNat) (h.toNat-l.toNat)) []:=by
 intro ρr m Z w hops hs _;have hX:=hops x (by simp[Op.operands]);rw[hx]at hX;obtain⟨f,loc,e1,e2,e3,e4,e5⟩:=hX;cases e1
 have hbnd:∀c,n<=c->(Instr.sliceBounds bf n c (lo.map (ev ρr)) (hi.map (ev ρr)) bh).run P w=.ok (l.toNat,h.toNat,c) w:=λc hc =>
  YN (P:=P) (w:=w) (isS:=bf) (cap:=c) hl hh (λy hy=>hops y (by simp[Op.operands];right;left;simpa using hy)) (λy hy=>hops y (by simp[Op.operands];right;right;simpa using hy)) h0 h1 h2 hc
 unfold J4 at ht;split at ht
 ·rename_i e' hu
  split at ht
  ·rename_i ii hii
   split at ht
   ·simp only[Option.some.injEq,Prod.mk.injEq]at ht
    obtain⟨rfl,hsz⟩:=ht
    have run:∀A c,ev ρr x=.slice A n c->n<=c->(bY (ev ρr) ⟨dst,.slice t x lo hi bh,ty,pos,aft,gd⟩).run P w=.ok (.value (.slice (if c=l.toNat then A else A.map (·.add (l.toNat*sz))) (h.toNat-l.toNat) (c-l.toNat))) w:=λA c hv hc=>by
     simp[bY,Instr.sliceAt,Instr.slice,run_underlying hu,hv,hbnd c hc,sizeOf,typeInfo,hii,hsz]
    rcases e5 with e5|⟨e5,A,e6⟩|⟨e5,e6,A,c,e7,e8⟩
    ·refine⟨rfl,.inl ⟨_,w,run _ _ e5 ab,m,Z,Step.refl hs,m,loc,rfl,e2,ab,e4,?_⟩⟩
     by_cases hc:loc.2-o=l.toNat
     ·by_cases hl0:l.toNat=0
      ·rw[aP hc]
       by_cases ho:0<o
       ·exact .inr (.inr ⟨ab,ab,_,_,by rw[show h.toNat-l.toNat=0 by omega],ab⟩)
       ·refine .inl ?_
        rw[show o=0 by omega];simp[hl0]
      ·rw[aP hc]
       exact .inr (.inr ⟨ab,ab,_,_,by rw[show h.toNat-l.toNat=0 by omega],ab⟩)
     ·rw[aO hc]
      refine .inl ?_;simp only[da,Addr.add_lit,dB];rw[Nat.sub_sub]
    ·have hn:n=0:=ab
     subst hn
     have hl0:l.toNat=0:=ab
     have hh0:h.toNat=0:=ab
     refine⟨rfl,.inl ⟨_,w,run _ _ e6 aq,m,Z,Step.refl hs,m,loc,rfl,e2,ab,e4,.inr (.inl ⟨e5,_,by rw[hl0,hh0]⟩)⟩⟩
    ·subst e6
     have hl0:l.toNat=0:=ab
     have hh0:h.toNat=0:=ab
     refine⟨rfl,.inl ⟨_,w,run _ _ e7 (cj _),m,Z,Step.refl hs,m,loc,rfl,e2,ab,e4,.inr (.inr ⟨ab,ab,_,_,by rw[hh0,hl0],ab⟩)⟩⟩
   ·cases ht
  ·cases ht
 ·cases ht
def zxb{t t':bJ}{x y:bE}{a b:ak}(hx:evV ρ x=.str a)(hy:evV ρ y=.str b)(h:a.length+b.length<=9223372036854775807):
  Loc P ⟨dst,.binOp .add t x y t',ty,pos,aft,gd⟩ ρ [] (.str (a++b)) []:=by
 intro ρr m Z w hops hs _;have hX:=hops x (by simp[Op.operands]);have hY:=hops y (by simp[Op.operands]);rw[hx]at hX;rw[hy]at hY;have hX:ev ρr x=.string ⟨a.toArray⟩:=hX;have hY:ev ρr y=.string ⟨b.toArray⟩:=hY
 have ha:(⟨a.toArray⟩:ByteArray).size=a.length:=by show a.toArray.size=_;simp
 have hb:(⟨b.toArray⟩:ByteArray).size=b.length:=by show b.toArray.size=_;simp
 have hm:¬(((a.length+b.length:Nat):Int)>IntKind.i64.max):=by
  have:IntKind.i64.max=9223372036854775807:=ae
  omega
 refine⟨rfl,.inl ⟨.string ((⟨a.toArray⟩:ByteArray)++⟨b.toArray⟩),w,?_,m,Z,Step.refl hs,?_⟩⟩
 ·simp only[bY,hX,hY,eqGuard,binOp,Op.stringOp,ha,hb,aO hm]
  simp
 ·show _=_
  congr 1
def zPa{op:BinOp}{t t':bJ}{x y:bE}{k:IntKind}{a b:Int}(hop:op=.quo∨op=.rem)(hx:evV ρ x=.int k a)(hy:evV ρ y=.int k b)(hb:b≠0):
  Loc P ⟨dst,.binOp op t x y t',ty,pos,aft,gd⟩ ρ [] (.int k (match op with|.quo=>k.wrap (a.tdiv b)|_=>a.tmod b)) []:=by
 intro ρr m Z w hops hs _;have hX:=hops x (by simp[Op.operands]);have hY:=hops y (by simp[Op.operands]);rw[hx]at hX;rw[hy]at hY
 rcases hop with rfl|rfl
 ·obtain⟨u,h1,h2⟩:=zid (P:=P) (w:=w) (dst:=dst) (ty:=ty) (pos:=pos) (aft:=aft) (gd:=gd) (t:=t) (t':=t') (op:=.quo) (m:=bc m) (Z:=Z) (v:=.int k (k.wrap (a.tdiv b))) hX hY af (by simp[zUj,hb])
  exact⟨rfl,.inl ⟨u,w,h1,m,Z,Step.refl hs,h2⟩⟩
 ·obtain⟨u,h1,h2⟩:=zid (P:=P) (w:=w) (dst:=dst) (ty:=ty) (pos:=pos) (aft:=aft) (gd:=gd) (t:=t) (t':=t') (op:=.rem) (m:=bc m) (Z:=Z) (v:=.int k (a.tmod b)) hX hY af (by simp[zUj,hb])
  exact⟨rfl,.inl ⟨u,w,h1,m,Z,Step.refl hs,h2⟩⟩
end
section
variable{K0:List Nat}{c:Ctx K0}{P:bm}{r:Option Nat}{N:Nat}{Q:wj}{ρ:Env}{H H':ax}{ds:List cb}{all l rest:List Oper}{x:Code}
def QB.step{F F':ax}{ks:List Nat}{ρr:yL}{w:bG}{ρ':Env}(hks:yt ks=bf)(hF:ux ks H=bc F)(hfr:Kw F' ks H=bf)
  (h:∀m Z,wQ m Z F w->(∀k∈keys F',k ∉ keys F->∀L,m k L=bh)->zlq m Z ρ ρr->∃m' Z',Step m Z F w m' Z' F' w/\zlq m' Z' ρ' ρr) (S:QB c ρ H ρr w):QB c ρ' (F'++qK ks H) ρr w:=by
 obtain⟨m,Z,S,hR⟩:=S;have hp:=ja S.step.sim.nodup (yz hks) hF;obtain⟨h2,h3⟩:=xn hF;have hs:wQ m Z (F++qK ks H) w:=S.step.sim.perm hp
 obtain⟨m',Z',hst,hR'⟩:=h m Z hs.left (λk hk hkF=>S.dom k (by
  obtain⟨p,hp',rfl⟩:=bx.1 hk;have:=(bj.1 hfr) p hp';simp only[cZ,cl,aW,bQ,aX]at this
  rcases this with this|this
  ·exact aU (h2▸this) hkF
  ·exact this)) hR
 exact⟨m',Z',S.step' hks hF hfr (λ_ _=>hst),hR'⟩
def zfc{F:ax}{ks:List Nat}(h:∀p∈F,p.1∈ks):Kw F ks H=bf:=bj.2 λp hp=>by simp[h p hp]
def QB.freeze{F:ax}(ks:List Nat){ρr:yL}{w:bG}(hks:yt ks=bf)(hF:ux ks H=bc F)(S:QB c ρ H ρr w):QB c ρ (frz F++qK ks H) ρr w :=
 QB.step hks hF (zfc λp hp=>by rw[<- (xn hF).1,<- wT];exact ay hp) (λm Z hs _ hR=>⟨m,_,Step.freeze hs,hR.up (Step.freeze hs).zext λ_ _ _ e=>e⟩) S
def QB.nilRow(t d e sz:Nat){ρr:yL}{w:bG}(hsz:cm 1 sz=bf)(ht:ρ.get t=.nils)(hd:kv d H=bd)(S:QB c ρ H ρr w):QB c ((t,.sl sz d 0 0 0)::ρ) ((d,.row e sz 0 [])::H) ρr w:=by
 have hd':d ∉ keys H:=λh=>by rw[yR.2 h]at hd;cases hd
 have:=QB.step (c:=c) (ρ:=ρ) (H:=H) (F:=[]) (F':=[(d,.row e sz 0 [])]) (ks:=[]) (ρ':=(t,.sl sz d 0 0 0)::ρ) (ρr:=ρr) (w:=w) rfl rfl (by simp[Kw,hd']) (λm Z hs hnew hR=>by
  have hnew':∀L,m d L=bh:=λL=>hnew d (by simp[keys]) (by simp[keys]) L
  let m':M:=λk' L=>if k'=d/\L=0 then bc (0,0)else m k' L
  have h1:m' d 0=bc (0,0):=by simp[m']
  have h2:∀k L loc,m k L=bc loc->m' k L=bc loc:=λk L loc e=>by
   by_cases hc:k=d/\L=0
   ·obtain⟨rfl,rfl⟩:=hc;rw[hnew']at e;cases e
   ·simp only[m',aO hc];exact e
  refine⟨m',Z,⟨⟨hs.frozen,λp hp=>?_,by simp[keys],λp hp q hq _ _ _=>?_⟩,h2,λ_ _ e=>e,rfl,rfl,rfl,aq,λ_ _ _=>rfl,λk hk=>(by cases hk),λk hk=>?_,λp hp b hb=>?_,λ_ _ e=>.inl e⟩,?_⟩
  ·simp only[msQ]at hp
   subst hp;refine .inl ⟨lb hsz,rfl,rfl,⟨0,h1⟩,λL loc e=>?_⟩;simp only[m']at e;split at e
   ·rename_i hc;omega
   ·rw[hnew']at e;cases e
  ·simp only[msQ]at hp hq
   subst hp;subst hq;rfl
  ·funext L
   have:k≠d:=by simpa[keys]using hk
   simp[m',this]
  ·simp only[msQ]at hp
   subst hp;simp[blk,u6,Obj.ver,h1]at hb
  ·intro u
   have hu:=(hR u).up (Z':=Z) (m':=bc m') (λ_ _ e=>e) (λf e=>by cases e;exact⟨m',rfl,h2⟩)
   show Rep (bc m') Z (bif bk u t then V.sl sz d 0 0 0 else ρ.get u) (ρr u)
   cases hb:bk u t with
   |false=>exact hu
   |true =>
    have:=eb hb;subst this;rw[ht]at hu
    exact⟨m',_,rfl,h1,aq,cj _,.inr (.inl ⟨rfl,bh,hu⟩)⟩) S
 rw[zHc]at this;exact this
end
def evF(e:Nat->V):bE->V
 |.tmp t=>e t
 |.const v=>ofC v
 |.global _=>.undef
 |.func f=>.fn f [] []
def zb2(ρ:Env)(x:bE):evF ρ.get x=evV ρ x:=by cases x<;>rfl
def zAo(P:bm)(o:Oper)(g:bE->V)(F:ax)(v:V)(F':ax):Prop :=
 ∀ρr m Z w,(∀x∈o.op.operands,Rep (bc m) Z (g x) (ev ρr x))->wQ m Z F w->(∀k∈keys F',k ∉ keys F->∀L,m k L=bh) ->
  zOz P o ρr w λx w'=>∃m' Z',Step m Z F w m' Z' F' w'/\Rep (bc m') Z' v x
def zAo.congr{P:bm}{o:Oper}{g g':bE->V}{F F':ax}{v:V}(h:zAo P o g F v F')(hg:∀x∈o.op.operands,g' x=g x):zAo P o g' F v F' :=
 λρr m Z w hops=>h ρr m Z w λx hx=>by rw[<- hg x hx];exact hops x hx
def AY(all:List Oper)(e:Nat->V)(o:Oper):Option Bool :=
 match o.guard with
 |none=>bc bf
 |some (j,want)=>match (all[j]?).bind (·.dst)with
  |some d=>match e d with
   |.bool b=>bc (b==want)
   |.no=>bc bd
   |_=>bh
  |none=>bh
def zp2(d:Option Nat)(v:V)(e:Nat->V):Nat->V:=match d with|some d=>λt=>bif bk t d then v else e t|none=>e
def zih(d:Option Nat)(v:V)(ρ:Env):(zlr d v ρ).get=zp2 d v ρ.get:=by
 cases d with
 |none=>rfl
 |some d=>rfl
structure FP where
 i:Nat
 fk:List Nat
 rk:List Nat
 ld:Option (Nat×Nat×Nat)
 kc:List (Nat×Nat×Nat)
abbrev FP.m(i:Nat)(fk rk:List Nat):FP:=⟨i,fk,rk,bh,[]⟩
abbrev HF:=Nat->Option Obj
def ze3(F':ax)(η:HF):HF:=λk=>if k∈keys F' then F'.get k else η k
def zHd(P:bm)(o:Oper)(e:Nat->V)(η η1:HF)(v:V)(fp:FP):Prop :=
 (∀k t off,fp.ld=bc (k,t,off)->fp.fk=[]/\fp.rk=[k]/\(∃bt cs,η k=bc (.box bt cs)/\atV P t cs off=bc v)/\∀bt cs,atV P t cs off=bc v->zAo P o (evF e) [(k,.box bt cs)] v [(k,.box bt cs)]) /\
 (∀k t off,(k,t,off)∈fp.kc->k∈fp.fk/\∃bt cs cs',η k=bc (.box bt cs)/\η1 k=bc (.box bt cs')/\atV P t cs off=atV P t cs' off)
def zL3{P:bm}{o:Oper}{e:Nat->V}{η η1:HF}{v:V}{i:Nat}{fk rk:List Nat}:zHd P o e η η1 v (.m i fk rk):=⟨λ_ _ _ h=>(by cases h),λ_ _ _ h=>(by cases h)⟩
def j7(P:bm)(N:Nat)(all:List Oper)(fp:FP)(e:Nat->V)(η:HF)(e1:Nat->V)(η1:HF):Prop :=
  ∃o v,all[fp.i]?=bc o/\ku o.op=bf/\(∀d,o.dst=bc d->d+1<=N)/\e1=zp2 o.dst v e /\
    ((AY all e o=bc bd/\v=.no/\η1=η/\fp.fk=[]/\fp.rk=[]) ∨
     (AY all e o=bc bf/\∃F R F',zAo P o (evF e) (F++R) v (F'++R)/\(keys (F'++R)).Nodup/\(keys F).Nodup/\(∀k∈keys F,k∈keys F')/\keys F'=fp.fk/\keys R=fp.rk /\
       (∀p∈F++R,η p.1=bc p.2)/\(∀k∈keys F',k ∉ keys F->η k=bh)/\η1=ze3 F' η/\zHd P o e η η1 v fp))
def zUq(all:List Oper)(o:Oper)(d:Nat):Bool :=
 o.op.operands.toList.any (λ| .tmp t=>bk t d | _=>bd)||(match o.guard with | some (j,_)=>(match (all[j]?).bind (·.dst)with | some d'=>bk d' d | none=>bf) | none=>bd)
def Zw(all:List Oper)(o o':Oper):Bool :=
 (match o.dst with|some d=>!zUq all o' d|none=>bf)&&(match o.dst,o'.dst with|some d,bc d'=>!Nat.beq d d'|_,_=>bf)
def zzl(k:Nat):List Nat->Bool|[]=>bd|j::r=>bif bk k j then bf else zzl k r
def zmb:List Nat->List Nat->Bool|[],_=>bf|k::r,l=>!zzl k l&&zmb r l
def zPb(a b:FP):Bool:=zmb a.fk b.fk&&(zmb a.fk b.rk&&zmb a.rk b.fk)
def zUr(a b:Nat×Nat×Nat):Bool:=bk a.1 b.1&&(bk a.2.1 b.2.1&&bk a.2.2 b.2.2)
def ldB(a b:FP):Bool:=match a.ld with
 |some x=>a.fk.isEmpty&&(b.kc.any (zUr x))
 |none=>bd
def Vi(all:List Oper)(a b:FP):Bool :=
 match all[a.i]?,all[b.i]? with
 | some o,bc o'=>Zw all o o'&&(Zw all o' o&&(zPb a b||ldB a b))
 |_,_=>bd
def JR(all:List Oper)(a b:FP):Bool :=
 match all[a.i]?,all[b.i]? with
 |some o,bc o'=>Zw all o o'&&(Zw all o' o&&(zmb a.fk b.fk&&zmb a.fk b.rk))
 |_,_=>bd
def zL4{a b:FP}(h:ldB a b=bf):a.fk=[]/\∃k t off,a.ld=bc (k,t,off)/\(k,t,off)∈b.kc:=by
 unfold ldB at h;split at h
 ·rename_i x hx
  simp only[bn,eh,List.any_eq_true,zUr]at h;obtain⟨h1,y,h2,h3,h4,h5⟩:=h;refine⟨h1,y.1,y.2.1,y.2.2,?_,h2⟩;rw[hx,<- eb h3,<- eb h4,<- eb h5]
 ·cases h
def Wq{k:Nat}:∀{l:List Nat},zzl k l=bf↔k∈l
 |[]=>by simp[zzl]
 |j::r=>by
  simp only[zzl,bp]
  cases hb:bk k j with
  |true=>simp[eb hb]
  |false =>
   have:k≠j:=λe=>by subst e;rw[cD]at hb;cases hb
   simp only[cf,this,false_or];exact Wq
def H5:∀{l k:List Nat},zmb l k=bf->∀x∈l,x ∉ k
 |[],_,_,x,h=>by cases h
 |j::r,k,h,x,hx=>by
  simp only[zmb,bn,bQ]at h
  rcases bp.1 hx with rfl|hx
  ·intro hk;rw[Wq.2 hk]at h;cases h.1
  ·exact H5 h.2 x hx
def zii{all:List Oper}{o o':Oper}{v:V}{e:Nat->V}(h:Zw all o o'=bf):(∀x∈o'.op.operands,evF (zp2 o.dst v e) x=evF e x)/\AY all (zp2 o.dst v e) o'=AY all e o':=by
 simp only[Zw,bn]at h
 cases hd:o.dst with
 |none=>exact⟨λ_ _=>rfl,rfl⟩
 |some d =>
  rw[hd]at h;simp only[bQ,zUq,Bool.or_eq_false_iff]at h;refine⟨λx hx=>?_,?_⟩
  ·cases x with
   |tmp t =>
    have:=(List.any_eq_false.1 h.1.1) (.tmp t) (by simpa using hx);simp only[Bool.not_eq_true]at this;simp only[evF,zp2,this,cf]
   |_=>rfl
  ·unfold AY
   cases hg:o'.guard with
   |none=>rfl
   |some p =>
    obtain⟨j,want⟩:=p;have h2:=h.1.2;rw[hg]at h2;simp only at h2 ⊢
    cases hj:(all[j]?).bind (·.dst)with
    |none=>rfl
    |some d' =>
     rw[hj]at h2;simp only at h2 ⊢;simp only[zp2,h2,cf]
def put_comm{o o':Oper}{all:List Oper}{v v':V}{e:Nat->V}(h:Zw all o o'=bf):zp2 o.dst v (zp2 o'.dst v' e)=zp2 o'.dst v' (zp2 o.dst v e):=by
 simp only[Zw,bn]at h
 cases hd:o.dst with
 |none=>rfl
 |some d =>
  cases hd':o'.dst with
  |none=>rfl
  |some d' =>
   rw[hd,hd']at h;simp only[bQ]at h
   funext t
   simp only[zp2]
   cases h1:bk t d with
   |false=>rfl
   |true =>
    cases h2:bk t d' with
    |false=>rfl
    |true =>
     have:=eb h1;have:=eb h2
     subst_vars
     rw[cD]at h;cases h.2
def xP{F:ax}{η:HF}{k:Nat}(h:k ∉ keys F):ze3 F η k=η k:=by simp[ze3,h]
def zAp{F G:ax}{η:HF}(h:∀k∈keys F,k ∉ keys G):ze3 F (ze3 G η)=ze3 G (ze3 F η):=by
 funext k
 by_cases h1:k∈keys F
 ·have h2:=h k h1
  rw[xP h2];simp[ze3,h1]
 ·rw[xP h1]
  by_cases h2:k∈keys G
  ·simp[ze3,h2]
  ·rw[xP h2,xP h2,xP h1]
def j7.swap{P:bm}{N:Nat}{all:List Oper}{a b:FP}{e e1 e2:Nat->V}{η η1 η2:HF}(h:j7 P N all a e η e1 η1)(k:j7 P N all b e1 η1 e2 η2)(hi:Vi all a b=bf):
  ∃e1' η1',j7 P N all b e η e1' η1'/\j7 P N all a e1' η1' e2 η2:=by
 obtain⟨o,v,ho,hn,hd,rfl,h⟩:=h;obtain⟨o',v',ho',hn',hd',rfl,k⟩:=k;simp only[Vi,ho,ho',bn,cZ,zPb]at hi;obtain⟨hs,hs',hi⟩:=hi;obtain⟨ev1,ew1⟩:=zii (v:=v) (e:=e) hs;obtain⟨ev2,ew2⟩:=zii (v:=v') (e:=e) hs';rw[ew1]at k
 have hA:∀{η3:HF},(AY all e o'=bc bd/\v'=.no/\η3=η/\b.fk=[]/\b.rk=[])∨(AY all e o'=bc bf/\∃F R F',zAo P o' (evF e) (F++R) v' (F'++R)/\(keys (F'++R)).Nodup/\(keys F).Nodup/\(∀k∈keys F,k∈keys F')/\keys F'=b.fk/\keys R=b.rk /\
   (∀p∈F++R,η p.1=bc p.2)/\(∀k∈keys F',k ∉ keys F->η k=bh)/\η3=ze3 F' η/\zHd P o' e η η3 v' b)->j7 P N all b e η (zp2 o'.dst v' e) η3:=λh=>⟨o',v',ho',hn',hd',rfl,h⟩
 have hB:∀{η0 η3:HF},(AY all e o=bc bd/\v=.no/\η3=η0/\a.fk=[]/\a.rk=[])∨(AY all e o=bc bf/\∃F R F',zAo P o (evF e) (F++R) v (F'++R)/\(keys (F'++R)).Nodup/\(keys F).Nodup/\(∀k∈keys F,k∈keys F')/\keys F'=a.fk/\keys R=a.rk /\
   (∀p∈F++R,η0 p.1=bc p.2)/\(∀k∈keys F',k ∉ keys F->η0 k=bh)/\η3=ze3 F' η0/\zHd P o e η0 η3 v a)->j7 P N all a (zp2 o'.dst v' e) η0 (zp2 o'.dst v' (zp2 o.dst v e)) η3:=λh=>by
  refine⟨o,v,ho,hn,hd,put_comm (v:=v') (v':=v) hs',?_⟩
  rcases h with⟨h1,h2⟩|⟨h1,F,R,F',h2,h3,h4,h5,h6,h7,h8,h9,h10,f1,f2⟩
  ·exact .inl ⟨ew2.trans h1,h2⟩
  ·refine .inr ⟨ew2.trans h1,F,R,F',h2.congr (λx hx=>ev2 x hx),h3,h4,h5,h6,h7,h8,h9,h10,λk t off hk=>?_,f2⟩
   obtain⟨g1,g2,g3,g4⟩:=f1 k t off hk;exact⟨g1,g2,g3,λbt cs hc=>(g4 bt cs hc).congr λx hx=>ev2 x hx⟩
 rcases k with⟨k1,k2,rfl,k4,k5⟩|⟨k1,F2,R2,F2',l2,n2,nf2,s2,ek2,er2,g2,f2,rfl,q2,q2'⟩
 ·exact⟨_,η,hA (.inl ⟨k1,k2,rfl,k4,k5⟩),hB h⟩
 ·have l2':zAo P o' (evF e) (F2++R2) v' (F2'++R2):=l2.congr (λx hx=>(ev1 x hx).symm)
  have q3:∀k t off,b.ld=bc (k,t,off)->b.fk=[]/\b.rk=[k]/\(∃bt cs,η1 k=bc (.box bt cs)/\atV P t cs off=bc v')/\∀bt cs,atV P t cs off=bc v'->zAo P o' (evF e) [(k,.box bt cs)] v' [(k,.box bt cs)]:=λk t off hk=>by
   obtain⟨g1,g2,g3,g4⟩:=q2 k t off hk;exact⟨g1,g2,g3,λbt cs hc=>(g4 bt cs hc).congr λx hx=>(ev1 x hx).symm⟩
  rcases h with⟨h1,h2,rfl,h4,h5⟩|⟨h1,F1,R1,F1',l1,n1,nf1,s1,ek1,er1,g1,f1,rfl,q1,q1'⟩
  ·exact⟨_,_,hA (.inr ⟨k1,F2,R2,F2',l2',n2,nf2,s2,ek2,er2,g2,f2,rfl,q3,q2'⟩),hB (.inl ⟨h1,h2,rfl,h4,h5⟩)⟩
  ·rcases hi with⟨hk1,hk2,hk3⟩|hi
   ·have hk1:=H5 hk1
    have hk2:=H5 hk2;have hk3:=H5 hk3
    have hout2:∀k∈keys F2'++keys R2,k ∉ keys F1':=λk hk hk1'=>by
     rw[ek1]at hk1'
     rcases bz.1 hk with hk|hk
     ·rw[ek2]at hk;exact hk1 k hk1' hk
     ·rw[er2]at hk;exact hk2 k hk1' hk
    have hout1:∀k∈keys F1'++keys R1,k ∉ keys F2':=λk hk hk2'=>by
     rw[ek2]at hk2'
     rcases bz.1 hk with hk|hk
     ·rw[ek1]at hk;exact hk1 k hk hk2'
     ·rw[er1]at hk;exact hk3 k hk hk2'
    have hkey2:∀p∈F2++R2,p.1∈keys F2'++keys R2:=λp hp=>by
     rcases bz.1 hp with hp|hp
     ·exact bK _ (s2 _ (ay hp))
     ·exact bL _ (ay hp)
    have hkey1:∀p∈F1++R1,p.1∈keys F1'++keys R1:=λp hp=>by
     rcases bz.1 hp with hp|hp
     ·exact bK _ (s1 _ (ay hp))
     ·exact bL _ (ay hp)
    have hcm:ze3 F2' (ze3 F1' η)=ze3 F1' (ze3 F2' η):=zAp λk hk hk'=>hout2 k (bK _ hk) hk'
    refine⟨_,ze3 F2' η,hA (.inr ⟨k1,F2,R2,F2',l2',n2,nf2,s2,ek2,er2,λp hp=>?_,λk hk hkF=>?_,rfl,λk t off hk=>?_,λk t off hk=>?_⟩),hB (.inr ⟨h1,F1,R1,F1',l1,n1,nf1,s1,ek1,er1,λp hp=>?_,λk hk hkF=>?_,hcm,λk t off hk=>?_,λk t off hk=>?_⟩)⟩
    ·rw[<- g2 p hp,xP (hout2 _ (hkey2 p hp))]
    ·rw[<- f2 k hk hkF,xP (hout2 k (bK _ hk))]
    ·obtain⟨w1,w2,w3,w4⟩:=q3 k t off hk
     rw[xP (hout2 k (bL _ (by rw[er2,w2];exact msQ.2 rfl)))]at w3;exact⟨w1,w2,w3,w4⟩
    ·obtain⟨w1,bt,cs,cs',w2,w3,w4⟩:=q2' k t off hk
     have hk0:=hout2 k (bK _ (by rw[ek2];exact w1));rw[xP hk0]at w2;rw[hcm,xP hk0]at w3;exact⟨w1,bt,cs,cs',w2,w3,w4⟩
    ·rw[<- g1 p hp,xP (hout1 _ (hkey1 p hp))]
    ·rw[<- f1 k hk hkF,xP (hout1 k (bK _ hk))]
    ·obtain⟨w1,w2,w3,w4⟩:=q1 k t off hk
     rw[<- xP (F:=F2') (η:=η) (hout1 k (bL _ (by rw[er1,w2];exact msQ.2 rfl)))]at w3;exact⟨w1,w2,w3,w4⟩
    ·obtain⟨w1,bt,cs,cs',w2,w3,w4⟩:=q1' k t off hk
     have hk0:=hout1 k (bK _ (by rw[ek1];exact w1));rw[<- xP (F:=F2') (η:=η) hk0]at w2;rw[<- xP (F:=F2') (η:=ze3 F1' η) hk0]at w3;exact⟨w1,bt,cs,cs',w2,w3,w4⟩
   ·obtain⟨i1,k,t,off,i2,i3⟩:=zL4 hi
    have e1:F1'=[]:=by
     have:keys F1'=[]:=by rw[ek1,i1]
     exact List.map_eq_nil_iff.1 this
    subst e1
    have hη:ze3 [] η=η:=funext λk=>xP (by simp[keys])
    obtain⟨w1,w2,⟨bt,cs,w3,w4⟩,w5⟩:=q1 k t off i2;rw[hη]at g2 f2 q2' q3 ⊢;obtain⟨u1,bt',cs1,cs2,u2,u3,u4⟩:=q2' k t off i3;rw[w3]at u2;cases u2;have ha:atV P t cs2 off=bc v:=u4.symm.trans w4
    have hnil:∀k t off,(k,t,off) ∉ a.kc:=λk t off hk=>by
     have:=(q1' k t off hk).1;rw[i1]at this;cases this
    refine⟨_,ze3 F2' η,hA (.inr ⟨k1,F2,R2,F2',l2',n2,nf2,s2,ek2,er2,g2,f2,rfl,q3,q2'⟩),hB (.inr ⟨h1,[],[(k,.box bt cs2)],[],w5 _ _ ha,?_,dv,λk hk=>hk,i1.symm,w2.symm,λp hp=>?_,λk hk=>(by cases hk),(funext λk=>xP (by simp[keys])).symm,λk' t' off' hk=>?_,λk t off hk=>aU hk (hnil k t off)⟩)⟩
    ·simp[keys]
    ·cases msQ.1 hp
     exact u3
    ·rw[i2]at hk
     cases hk;exact⟨w1,w2,⟨bt,cs2,u3,ha⟩,w5⟩
inductive zij(P:bm)(N:Nat)(all:List Oper):List FP->(Nat->V)->HF->(Nat->V)->HF->Prop
 |nil {e:Nat->V} {η:HF}:zij P N all [] e η e η
 |cons {a:FP} {l:List FP} {e e1 e2:Nat->V} {η η1 η2:HF} (h:j7 P N all a e η e1 η1) (k:zij P N all l e1 η1 e2 η2):zij P N all (a::l) e η e2 η2
def zij.front{P:bm}{N:Nat}{all:List Oper}{b:FP}{l2:List FP}:∀{l1:List FP}{e e2:Nat->V}{η η2:HF},zij P N all (l1++b::l2) e η e2 η2->(∀a∈l1,Vi all a b=bf) ->
  ∃e1 η1,j7 P N all b e η e1 η1/\zij P N all (l1++l2) e1 η1 e2 η2
 |[],e,e2,η,η2,h,_=>by
  cases h with
  |cons h k=>exact⟨_,_,h,k⟩
 |a::l1,e,e2,η,η2,h,hi=>by
  cases h with
  |cons h k =>
   obtain⟨e1,η1,h1,h2⟩:=zij.front (l1:=l1) k λc hc=>hi c (mcQ _ hc)
   obtain⟨e1',η1',h3,h4⟩:=h.swap h1 (hi a al);exact⟨e1',η1',h3,.cons h4 h2⟩
def Vj(l:List Edge)(acc:List Nat):Nat->Nat:=λs=>match l with
 |[]=>s
 | e::r=>Vj r acc (if Region.binds .any e then s ||| 2 ^ e.on ||| acc.getD e.on 0 else s)
def jE:List Oper->List Nat->List Nat
 |[],acc=>acc
 |o::r,acc=>jE r (acc++[Vj o.after.toList acc 0])
def zik(ms:List Nat)(j i:Nat):Bool:=(ms.getD j 0).testBit i
def zf5{acc:List Nat}{i:Nat}:∀{l:List Edge}{s:Nat},(Vj l acc s).testBit i=bf->s.testBit i=bf∨∃e∈l,Region.binds .any e=bf/\(e.on=i∨(acc.getD e.on 0).testBit i=bf)
 |[],s,h=>.inl h
 |e::r,s,h=>by
  simp only[Vj]at h
  rcases zf5 h with h|⟨e',he',h1,h2⟩
  ·split at h
   ·rename_i hb
    simp only[Nat.testBit_or,cZ]at h
    rcases h with(h|h)|h
    ·exact .inl h
    ·refine .inr ⟨e,al,hb,.inl ?_⟩
     rw[Nat.testBit_two_pow]at h;simpa using h
    ·exact .inr ⟨e,al,hb,.inr h⟩
   ·exact .inl h
  ·exact .inr ⟨e',mcQ _ he',h1,h2⟩
def zf6:∀(l:List Oper)(acc:List Nat),(jE l acc).take acc.length=acc/\∀(k:Nat)(o:Oper),l[k]?=bc o->(jE l acc).getD (acc.length+k) 0=Vj o.after.toList ((jE l acc).take (acc.length+k)) 0
 |[],acc=>⟨by simp[jE],λk o h=>by simp at h⟩
 |o::r,acc=>by
  obtain⟨h1,h2⟩:=zf6 r (acc++[Vj o.after.toList acc 0]);simp only[jE]
  have hl:(acc++[Vj o.after.toList acc 0]).length=acc.length+1:=af
  rw[hl]at h1 h2
  have hta:(jE r (acc++[Vj o.after.toList acc 0])).take acc.length=acc:=by
   have:=aQ (List.take acc.length) h1;rw[fI,eI ab]at this;rw[this];simp
  refine⟨hta,λk o' hk=>?_⟩
  cases k with
  |zero =>
   simp only[eg,Option.some.injEq]at hk;subst hk;rw[dY,hta,ca]
   have:(jE r (acc++[Vj o.after.toList acc 0]))[acc.length]?=bc (Vj o.after.toList acc 0):=by
    have h3:=aQ (λl=>l[acc.length]?) h1;simp only[cJ]at h3;rw[aP ab]at h3;rw[h3];simp
   rw[this];rfl
  |succ k =>
   have:=h2 k o' (by simpa using hk);rw[show acc.length+1+k=acc.length+(k+1) by omega]at this;exact this
def Wr(all:List Oper):Bool:=(cQ all.length).all λj=>match all[j]? with
 | some o=>o.after.toList.all λe=>!Region.binds .any e||cm (e.on+1) j
 |none=>bf
def zil{all:List Oper}(h:Wr all=bf){j:Nat}{o:Oper}(ho:all[j]?=bc o){e:Edge}(he:e∈o.after)(hb:Region.binds .any e=bf):e.on<j:=by
 have hj:j<all.length:=(bw.1 ho).1;have h1:=(bj.1 h) j (List.mem_range.2 hj);rw[ho]at h1;have h2:=(bj.1 h1) e (by simpa using he);simp only[hb,Bool.not_true,Bool.false_or]at h2;exact lb h2
def zf7{all:List Oper}(hE:Wr all=bf){listed:Array Bool}(hc:zbq all.toArray listed):∀(j:Nat)(o:Oper),all[j]?=bc o->(∀e∈o.after,Region.binds .any e=bf->listed.getD e.on bd=bf)->∀i,zik (jE all []) j i=bf->listed.getD i bd=bf:=by
 intro j
 induction j using Nat.strongRecOn with
 |_ j ih =>
  intro o ho hpre i hi;have hs:=(zf6 all []).2 j o ho;simp only[bF,cI]at hs;unfold zik at hi;rw[hs]at hi
  rcases zf5 hi with h|⟨e,he,hb,h⟩
  ·simp at h
  ·have he':e∈o.after:=by simpa using he
   have hlt:=zil hE ho he' hb;have hl:=hpre e he' hb
   rcases h with rfl|h
   ·exact hl
   ·have hj:j<all.length:=(bw.1 ho).1
    have ho2:all[e.on]?=bc (all[e.on]'ab):=bA ab;refine ih e.on hlt _ ho2 (λe2 he2 hb2=>hc e.on _ hl (by simpa using ho2) e2 he2 hb2) i ?_;unfold zik;rw[ca,cJ,aP hlt,<- ca]at h;exact h
def jz(all:List Oper)(ms:List Nat):List FP->Bool
 |[]=>bf
 | a::r=>r.all (λb=>zik ms b.i a.i||Vi all a b)&&jz all ms r
def Kz{all:List Oper}{ms:List Nat}{b:FP}{l2:List FP}:∀{l1:List FP},jz all ms (l1++b::l2)=bf->(∀a∈l1,zik ms b.i a.i=bf∨Vi all a b=bf)/\jz all ms (l1++l2)=bf
 |[],h=>by
  simp only[bM,jz,bn]at h;exact⟨λ_ h=>(by cases h),h.2⟩
 |a::l1,h=>by
  simp only[bU,jz,bn]at h;obtain⟨h1,h2⟩:=Kz h.2;have h3:=bj.1 h.1;refine⟨λx hx=>?_,?_⟩
  ·rcases bp.1 hx with rfl|hx
   ·have:=h3 b af
    simpa using this
   ·exact h1 x hx
  ·simp only[bU,jz,bn]
   refine⟨bj.2 λx hx=>h3 x ?_,h2⟩
   rcases bz.1 hx with hx|hx
   ·exact bK _ hx
   ·exact bL _ (mcQ _ hx)
def zmc:∀{l:List Nat},l.Nodup->yt l=bf
 |[],_=>rfl
 |k::r,h=>by
  rw[cG]at h;simp only[yt,bn,bQ,cl,aX];exact⟨h.1,zmc h.2⟩
def YO{H:ax}:∀{F:ax},(∀p∈F,H.get p.1=bc p.2)->ux (keys F) H=bc F
 |[],_=>rfl
 |(k,o)::r,h=>by
  have h1:=h (k,o) al
  have h2:=YO (F:=r) λp hp=>h p (mcQ _ hp)
  show(match H.get k,ux (keys r) H with|some o,bc l=>bc ((k,o)::l)|_,_=>bh)=_
  rw[h1,h2]
def get_none:∀{H:ax}{k:Nat},k ∉ keys H↔H.get k=bh
 |[],k=>by simp[keys,ax.get]
 |(k',o)::r,k=>by
  simp only[keys,mk9,bp,not_or,ax.get]
  cases hb:bk k k' with
  |true=>simp[eb hb]
  |false =>
   have:k≠k':=λe=>by subst e;rw[cD]at hb;cases hb
   simp only[cf,ne_eq,this,not_false_eq_true,true_and];exact get_none
def get_append{A B:ax}{k:Nat}:(A++B).get k=if k∈keys A then A.get k else B.get k:=by
 induction A with
 |nil=>simp[keys]
 |cons p A ih =>
  obtain⟨k',o⟩:=p;simp only[bU,ax.get,keys,mk9,bp]
  cases hb:bk k k' with
  |true=>simp[eb hb]
  |false =>
   have:k≠k':=λe=>by subst e;rw[cD]at hb;cases hb
   simp only[cf,this,false_or];exact ih
def Vv{ks:List Nat}{H:ax}{k:Nat}(h:k ∉ ks):(qK ks H).get k=H.get k:=by
 induction H with
 |nil=>rfl
 |cons p H ih =>
  obtain⟨k',o⟩:=p;simp only[qK,List.filter_cons];split
  ·simp only[ax.get]
   rw[show ax.get (List.filter (λp=>!ks.contains p.1) H) k=ax.get H k from ih]
  ·rename_i hc
   have hk':k'∈ks:=by simpa using hc
   have hne:k≠k':=λe=>h (e▸hk')
   have hb:bk k k'=bd:=by
    cases hb:bk k k' with
    |true=>exact aU (eb hb) hne
    |false=>rfl
   simp only[ax.get,hb,cf];exact ih
def Vw{A B:ax}(hA:(keys A).Nodup)(hB:(keys B).Nodup)(h:∀k,A.get k=B.get k):A.Perm B:=by
 refine(fD (wR _ hA) (wR _ hB)).2 λp=>?_
 obtain⟨k,o⟩:=p;constructor
 ·intro hp
  have:=get_of_mem hA hp;rw[h]at this;exact ax.get_mem this
 ·intro hp
  have:=get_of_mem hB hp;rw[<- h]at this;exact ax.get_mem this
section
variable{K0:List Nat}{c:Ctx K0}{P:bm}{r:Option Nat}{N:Nat}{all:List Oper}{ds:List cb}
def zPc(c:Ctx K0)(N:Nat)(ds:List cb)(e:Nat->V)(η:HF)(a:Act)(w:bG):Prop :=
 xw c ds w/\∃ρr ρ H,Frm N ds a ρr/\ρ.get=e/\H.get=η/\QB c ρ H ρr w
def zmd{fp:FP}{e e1:Nat->V}{η η1:HF}{a:Act}{w:bG}{n:Nat}{Q:Exit->Act->bG->Prop}{KK:Act->bG->Prop}(hs:j7 P N all fp e η e1 η1)(S:zPc c N ds e η a w)(h:∀a' w',zPc c N ds e1 η1 a' w'->KK a' w'):wpOpIn (Fw r) n P all.toArray Q fp.i KK a w:=by
 obtain⟨o,v,ho,hn,hd,rfl,hcase⟩:=hs;obtain⟨hM,ρr,ρ,H,hf,rfl,rfl,SA⟩:=S;obtain⟨m,Z,SC,hR⟩:=id SA
 have hput:∀{x:bu}{H1:ax}{m':M}{Z':ZM}{w':bG},xw c ds w'->Vu c m' Z' H1 w'->zlq m' Z' ρ ρr->Rep (bc m') Z' v x->zPc c N ds (zp2 o.dst v ρ.get) H1.get (a.put o.dst x) w':=by
  intro x H1 m' Z' w' hM' S' hR' hx
  cases hdst:o.dst with
  |none=>exact⟨hM',ρr,ρ,H1,hf.putNone _,rfl,rfl,m',Z',S',hR'⟩
  |some d=>exact⟨hM',upd ρr d x,(d,v)::ρ,H1,hf.put (Nat.lt_of_succ_le (hd d hdst)) x,rfl,rfl,m',Z',S',hR'.put d hx⟩
 have ho':all.toArray[fp.i]?=bc o:=by simpa using ho
 unfold wpOpIn;simp only[ho']
 rcases hcase with⟨hw,rfl,rfl,_,_⟩|⟨hw,F,R,F',hl,hnd,hnF,hsub,_,_,hget,hnew,rfl,_⟩
 ·have hw':=(hf.wanted all o).trans (jD hR hw)
  simp only[hw',cF,if_false];exact⟨λ_ _=>trivial,h _ _ (hput hM SC hR rfl)⟩
 ·have hw':=(hf.wanted all o).trans (jD hR hw)
  simp only[hw',if_true];refine⟨λ_ _=>trivial,?_⟩;rw[Ax hn,hf.eval];have hHn:=SC.step.sim.nodup
  have hFR:(keys (F++R)).Nodup:=by
   rw[zH]at hnd ⊢;obtain⟨_,h2,h3⟩:=cu.1 hnd;exact cu.2 ⟨hnF,h2,λa ha b hb=>h3 a (hsub a ha) b hb⟩
  have hsel:ux (keys (F++R)) H=bc (F++R):=YO hget
  have hfresh:Kw (F'++R) (keys (F++R)) H=bf:=bj.2 λp hp=>by
   simp only[cZ,cl,aW,bQ,aX];rw[zH,bz]
   rcases bz.1 hp with hp|hp
   ·by_cases hpF:p.1∈keys F
    ·exact .inl (.inl hpF)
    ·exact .inr (get_none.2 (hnew p.1 (ay hp) hpF))
   ·exact .inl (.inr (ay hp))
  have hperm:=ja hHn hFR hsel;have hsim:wQ m Z ((F++R)++qK (keys (F++R)) H) w:=SC.step.sim.perm hperm
  obtain⟨hn',hex⟩:=hl ρr m Z w (λx _=>by rw[zb2];exact hR.ev x) hsim.left (λk hk hkF=>SC.dom k (by
   obtain⟨p,hp',rfl⟩:=bx.1 hk;have:=(bj.1 hfresh) p hp';simp only[cZ,cl,aW,bQ,aX]at this
   rcases this with this|this
   ·exact aU this hkF
   ·exact this))
  have hgetH:((F'++R)++qK (keys (F++R)) H).get=ze3 F' H.get:=by
   funext k
   rw[get_append];by_cases h1:k∈keys (F'++R)
   ·rw[aP h1,get_append]
    by_cases h2:k∈keys F'
    ·simp[ze3,h2]
    ·rw[aO h2,xP h2]
     have h3:k∈keys R:=by
      rw[zH,bz]at h1;exact h1.resolve_left h2
     obtain⟨p,hp,rfl⟩:=bx.1 h3;rw[hget p (bL _ hp)]
     have hnR:(keys R).Nodup:=by rw[zH]at hnd;exact(cu.1 hnd).2.1
     exact get_of_mem hnR hp
   ·rw[aO h1]
    rw[zH,bz,not_or]at h1;rw[xP h1.1];exact Vv (by rw[zH,bz];exact λh'=>h'.elim (λh'=>h1.1 (hsub k h')) h1.2)
  have go:∀x w',(∃m' Z',Step m Z (F++R) w m' Z' (F'++R) w'/\Rep (bc m') Z' v x)->KK (a.put o.dst x) w':=λx w' ⟨m',Z',hst,hr⟩=>by
   refine h _ _ ?_;rw[<- hgetH];exact hput (hM.step hsim.left hst) (SC.step' (zmc hFR) hsel hfresh λ_ _=>hst) (hR.up hst.zext hst.mext) hr
  rcases hex with⟨x,w',hrun,hx⟩|⟨w',hrun,hx⟩|⟨f,args,w1,hrun,hx⟩
  ·rw[hrun,Oper.uponIn_value];exact go x w' hx
  ·rw[hrun,Oper.uponIn_skip];exact go _ w' hx
  ·rw[hrun,Oper.uponIn_enter]
   refine⟨λhx=>by simp[Fw]at hx,(A8 r hx).mono λen w'' ⟨x,he,hr⟩=>?_⟩;subst he;exact go x w'' hr
def zme{L:List FP}{i:Nat}(h:i∈L.map (·.i)):∃l1 b l2,L=l1++b::l2/\b.i=i:=by
 obtain⟨b,hb,rfl⟩:=bx.1 h;obtain⟨l1,l2,rfl⟩:=List.append_of_mem hb;exact⟨l1,b,l2,rfl,rfl⟩
def zPd(hE:Wr all=bf){Q:Exit->Act->bG->Prop}{n:Nat}{e2:Nat->V}{η2:HF}(hQ:∀a w,zPc c N ds e2 η2 a w->Q .normal a w):∀(fuel:Nat)(L:List FP)(listed:Array Bool)(e:Nat->V)(η:HF)(a:Act)(w:bG),
  zij P N all L e η e2 η2->jz all (jE all []) L=bf->(L.map (·.i)).Pairwise (· < ·)->(∀i,i<all.length->(listed.getD i bd=bd↔i∈L.map (·.i)))->(∀i∈L.map (·.i),i<all.length)->zbq all.toArray listed->listed.size=all.length->L.length<=fuel ->
  zPc c N ds e η a w->wpAnyIn (Fw r) n P .any all.toArray Q fuel listed a w:=by
 intro fuel
 have hempty:∀(L:List FP)(listed:Array Bool),(L.map (·.i)).Pairwise (· < ·)->(∀i,i<all.length->(listed.getD i bd=bd↔i∈L.map (·.i)))->(∀i∈L.map (·.i),i<all.length)->listed.size=all.length->Region.ready .any all.toArray listed=[]->L=[]:=by
  intro L listed hp hl hlt hsz hr
  cases L with
  |nil=>rfl
  |cons b L =>
   exfalso;have hb:=hlt b.i af
   have hmem:b.i∈Region.ready .any all.toArray listed:=by
    refine mem_ready.2 ⟨?_,all[b.i]'hb,by simpa using bA hb,λe' he' hbind=>?_⟩
    ·have:=(hl b.i hb).2 af
     have hlt':b.i<listed.size:=ab
     simp only[cx,dH hlt',dM]at this ⊢;exact this
    ·have hlt2:=zil hE (bA hb) he' hbind
     cases hq:listed.getD e'.on bd with
     |true=>rfl
     |false =>
      have:=(hl e'.on ab).1 hq;rw[mk9]at this hp
      rcases bp.1 this with h'|h'
      ·rw[h']at hlt2;exact aU hlt2 (fV _)
      ·have h2:=(eo.1 hp).1 _ h'
       exact aU (Nat.lt_trans hlt2 h2) (fV _)
   rw[hr]at hmem;cases hmem
 induction fuel with
 |zero =>
  intro L listed e η a w hch _ hp hl hlt hc hsz hlen S;have:L=[]:=cH ab;subst this;cases hch;refine⟨?_,hQ a w S⟩
  refine List.eq_nil_iff_forall_not_mem.2 λj hj=>?_
  obtain⟨h1,o,ho,_⟩:=mem_ready.1 hj
  have hj':j<all.length:=by have:=(bX.1 ho).1;simpa using this
  have hlt':j<listed.size:=ab
  have:listed.getD j bd=bd:=by
   simp only[cx,dH hlt',dM]at h1 ⊢;exact h1
  have:=(hl j hj').1 this;cases this
 |succ fuel ih =>
  intro L listed e η a w hch hcp hp hl hlt hc hsz hlen S;refine⟨λhr=>?_,λj hj=>?_⟩
  ·have:=hempty L listed hp hl hlt hsz hr
   subst this;cases hch;exact hQ a w S
  ·obtain⟨h1,o,ho,hpre⟩:=mem_ready.1 hj
   have hj':j<all.length:=by have:=(bX.1 ho).1;simpa using this
   have hjs:j<listed.size:=ab
   have hjf:listed.getD j bd=bd:=by
    simp only[cx,dH hjs,dM]at h1 ⊢;exact h1
   obtain⟨l1,b,l2,rfl,rfl⟩:=zme ((hl j hj').1 hjf);obtain⟨hfr,hcp'⟩:=Kz hcp;have hpm:((l1++b::l2).map (·.i)).Pairwise (· < ·):=hp;rw[bO,mk9,ed]at hpm;obtain⟨hp1,hp2,hp3⟩:=hpm;have hp2':=eo.1 hp2
   have hind:∀x∈l1,Vi all x b=bf:=λx hx=>by
    rcases hfr x hx with h'|h'
    ·exfalso
     have hxl:=zf7 hE hc b.i o (by simpa using ho) hpre x.i h';have hxn:x.i<all.length:=hlt x.i (by simp;exact .inl ⟨x,hx,rfl⟩);have:=(hl x.i hxn).2 (by simp;exact .inl ⟨x,hx,rfl⟩);rw[hxl]at this;cases this
    ·exact h'
   obtain⟨e1,η1,hop,hch'⟩:=hch.front hind
   refine zmd hop S λa' w' S'=>ih (l1++l2) _ e1 η1 a' w' hch' hcp' ?_ ?_ ?_ (hc.set hj) (by simpa using hsz) (by simp at hlen ⊢;omega) S'
   ·rw[bO,ed]
    exact⟨hp1,hp2'.2,λx hx y hy=>hp3 x hx y (mcQ _ hy)⟩
   ·intro i hi
    have hne:i=b.i∨i≠b.i:=Decidable.em _
    rcases hne with rfl|hne
    ·have hnot:b.i ∉ (l1++l2).map (·.i):=by
      rw[bO,bz];rintro(h'|h')
      ·have:=hp3 _ h' b.i al;omega
      ·have:=hp2'.1 _ h';omega
     have h9:(listed.setIfInBounds b.i bf).getD b.i bd=bf:=by simp[hjs]
     rw[h9];exact⟨λh'=>(by cases h'),λh'=>aU h' hnot⟩
    ·rw[getD_set_ne bd (Ne.symm hne),hl i hi]
     simp only[bO,mk9,bz,bp,hne,false_or]
   ·intro i hi
    refine hlt i ?_;rw[bO,bz]at hi;simp only[bO,mk9,bz,bp]
    rcases hi with hi|hi
    ·exact .inl hi
    ·exact .inr (.inr hi)
def Zx(l:List Oper):zbq l.toArray (Array.replicate l.length bd):=by
 intro j o hj _;exfalso;simp only[cx,dy]at hj;split at hj<;>cases hj
def zb3(P:bm)(N:Nat)(all:List Oper)(done:List FP)(l:List Oper)(ρ:Env)(H:ax)(K:Env->ax->Prop):Prop :=
 ∃fps ρ' H',(keys H).Nodup->(fps.map (·.i)=List.range' (all.length-l.length) l.length/\zij P N all fps ρ.get H.get ρ'.get H'.get/\(keys H').Nodup/\jz all (jE all []) (done.reverse++fps)=bf/\K ρ' H')
variable{ρ:Env}{H:ax}{Q:wj}
def zUs{id:Nat}(hm:P.follows .mixedOrders=bf)(hE:Wr all=bf)(h:zb3 P N all [] all ρ H λρ' H'=>Q .normal ρ' H' ds):WpV c P r N (.region id all.toArray bf) Q ρ H ds:=by
 intro ρr w ds1 S hM a n hf;obtain⟨fps,ρ',H',h⟩:=h;obtain⟨m,Z,SC,hR⟩:=S;obtain⟨h1,h2,h3,h4,h5⟩:=h SC.step.sim.nodup
 have hdrew:QB c ρ H ρr w.drew:=⟨m,Z,⟨SC.step.trans (Step.same SC.step.sim rfl rfl rfl rfl),SC.dom⟩,hR⟩
 rw[Nat.sub_self]at h1;refine wpIn_region_any hm ?_
 have hrange:∀i,i∈fps.map (·.i)↔i<all.length:=λi=>by rw[h1,List.mem_range'];simp
 refine zPd (c:=c) (ds:=ds1) (r:=r) hE (e2:=ρ'.get) (η2:=H'.get) (λa' w' S'=>?_) all.toArray.size fps _ ρ.get H.get a _ h2 (by simpa using h4) ?_ ?_ ?_ ?_ af ?_ ⟨hM.same rfl,ρr,ρ,H,hf,rfl,rfl,hdrew⟩
 ·obtain⟨hM',ρr',ρ2,H2,hf',e1,e2,m',Z',SC',hR'⟩:=S'
  refine⟨ρr',ds1,hf',ρ',H',?_,hM',h5⟩
  have hp:H2.Perm H':=Vw SC'.step.sim.nodup h3 λk=>by rw[e2]
  have:QB c ρ' H2 ρr' w':=⟨m',Z',SC',λt=>by rw[<- e1];exact hR' t⟩
  exact this.perm hp
 ·rw[h1]
  exact List.pairwise_lt_range'
 ·intro i hi
  rw[hrange];simp only[cN,cx,dy];rw[aP hi];simp[hi]
 ·exact λi hi=>(hrange i).1 hi
 ·have:=Zx all
  simpa using this
 ·have:=aQ bg h1
  simp at this;simp[this]
end
section
variable{P:bm}{N:Nat}{all rest:List Oper}{done:List FP}{ρ:Env}{H:ax}{K:Env->ax->Prop}{o:Oper}
def d_nil(hc:jz all (jE all []) done.reverse=bf)(h:K ρ H):zb3 P N all done [] ρ H K :=
 ⟨[],ρ,H,λhn=>⟨rfl,.nil,hn,by simpa using hc,h⟩⟩
def zL5{fp:FP}{ρ1:Env}{H1:ax}(hi:fp.i=all.length-(rest.length+1))(hlen:rest.length+1<=all.length)(hs:(keys H).Nodup->(keys H1).Nodup/\j7 P N all fp ρ.get H.get ρ1.get H1.get)(h:zb3 P N all (fp::done) rest ρ1 H1 K):zb3 P N all done (o::rest) ρ H K:=by
 obtain⟨fps,ρ',H',h⟩:=h;refine⟨fp::fps,ρ',H',λhn=>?_⟩;obtain⟨hn1,hs⟩:=hs hn;obtain⟨h1,h2,h3,h4,h5⟩:=h hn1;refine⟨?_,.cons hs h2,h3,by simpa using h4,h5⟩;rw[mk9,h1,lc,iC,hi]
 congr 2
 omega
def zUt(i:Nat)(hi:(all.length-(rest.length+1))=i)(hlen:cm (rest.length+1) all.length=bf)(ho:all[i]?=bc o)(hn:ku o.op=bf)(hd:(match o.dst with|some d=>cm (d+1) N|none=>bf)=bf)(hw:xx all ρ o=bc bd)
  (h:zb3 P N all (.m i [] []::done) rest (zlr o.dst .no ρ) H K):zb3 P N all done (o::rest) ρ H K:=by
 refine zL5 hi.symm (lb hlen) (λhnd=>⟨hnd,o,.no,ho,hn,λd hd'=>?_,zih _ _ _,.inl ⟨hw,rfl,rfl,rfl,rfl⟩⟩) h;rw[hd']at hd;exact lb hd
end
def Vx:Op->Bool|.defer _=>bd|_=>bf
section
variable{P:bm}{N:Nat}{all rest:List Oper}{ρ:Env}{H H':ax}{K:Env->ax->Prop}
def AZ{op:Op}(h:Vx op=bf):ku op=bf:=by cases op<;>first|rfl|cases h
end
end Go.EV
