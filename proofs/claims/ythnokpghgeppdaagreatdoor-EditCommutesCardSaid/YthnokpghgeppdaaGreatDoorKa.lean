/- texts that the proof reaches, part 1 -/
import Derived.Test.YthnokpghgeppdaaGreatDoorProg
import Derived.Shelf.RegionOpenPlain
import Derived.Lib.Strings
import Derived.Lib.Slices
import Derived.Lib.Walk
import Derived.Lib.Builder
import Derived.Lib.AppendStr
import Derived.Lib.UnsafeStr
import Derived.WalkKit
import Derived.Laws.Externs
import Derived.Laws.IdiomCopy
import Derived.Laws.BitsLemmas
import Derived.Lib.FrozenHead2
import Derived.DefersIn
import Derived.ControlIn
import Derived.TacticsIn
import Derived.OrdersIn
import Derived.OrdersHeld
import Derived.Below
import Derived.Laws.AppendOwn
import Derived.Laws.Entries
import Derived.Laws.Slices
import Derived.Laws.Strings
import Derived.Laws.Cells
import Derived.Laws.Rows
import Derived.Laws.NewBlocks
import Derived.Laws.OwnMore
import Derived.Laws.Small
import Derived.Laws.StructEq
import Derived.KernelRfl
import Derived.Maps.AppendAt
import Derived.Deep.Slices
import Derived.RangeFuncLeaves
import Derived.RangeFuncRecord
import Derived.RangeFuncSeq
import Derived.Laws.Tables
import Derived.Lib.SliceRun
import Derived.Laws.CopyRow
set_option linter.all false
namespace Go.Proofs.YthnokpghgeppdaaGreatDoor
open Go Go.RowKit
structure zzq(T:TypeId):Prop where
 lies:liesAt Tryz.prog Tryz.prog.depth T (2 / Tryz.prog.cellsOf T) 0 107 1=true
 ne:T≠5
theorem bldTB:zzq 107:=⟨by kernel_rfl,by decide⟩
theorem ztv:(Tryz.prog.info? 107).map (·.size)=some 2:=by kernel_rfl
set_option maxHeartbeats 1000000 in
set_option maxRecDepth 100000 in
theorem zi6(b:Nat)(w:World)(h0:w.cell? ⟨b,0,none⟩=some (.pointer (some ⟨b,0,none⟩))):
  Calls Tryz.prog 178 #[.pointer (some ⟨b,0,none⟩)] w fun e w'=>e=.returned (.tuple #[])∧w'=w:=by
 obtain⟨j,hj,_⟩:=Option.map_eq_some_iff.1 ztv
 go_enter Tryz.func178,Tryz.ntmps178
 go_wp2
 rw[Lib.run_neq_ptr_same w _ Tryz.underlying104 hj]
 go_wp2
 go_end0
 exact⟨rfl,rfl⟩
set_option maxHeartbeats 1000000 in
set_option maxRecDepth 100000 in
theorem zee{T:TypeId}(hT:zzq T)(b:Nat)(w:World)(h0:w.cell? ⟨b,0,none⟩=some (.pointer none))(hsh:w.shape? b=some (T,2))(hfz:w.frozen? ⟨b,0,none⟩=false):
  Calls Tryz.prog 178 #[.pointer (some ⟨b,0,none⟩)] w fun e w'=>e=.returned (.tuple #[])∧w'=w.setCell ⟨b,0,none⟩ (.pointer (some ⟨b,0,none⟩)):=by
 obtain⟨j,hj,hjs⟩:=Option.map_eq_some_iff.1 ztv
 go_enter Tryz.func178,Tryz.ntmps178
 go_wp2
 rw[Lib.run_to_unsafe w ⟨b,0,none⟩ Tryz.underlying104 Tryz.underlying279 hj (by rw[hjs];decide) hsh (Nat.zero_lt_succ 1)];simp only[Result.andThen];rw[Oper.upon_value]
 go_wp2
 rw[run_callFunc_extern Tryz.func227 (by kernel_rfl) (by kernel_rfl) (by kernel_rfl) (e:=Extern.AbiNoEscape.same) (by kernel_rfl)];rw[Lib.run_noEscape];simp only[Result.andThen];rw[Oper.upon_value]
 go_wp2
 rw[Lib.run_from_unsafe w ⟨b,0,none⟩ Tryz.underlying279 Tryz.underlying104 hj hsh hT.lies];simp only[Result.andThen];rw[Oper.upon_value]
 go_wp2
 go_end0
 exact⟨rfl,rfl⟩
theorem infoByte:(Tryz.prog.info? 5).map (fun i=>(i.zero,i.size,i.bytes))=some (some (.int .u8 0),1,1):=by kernel_rfl
theorem info5:∃i,Tryz.prog.info? 5=some i∧i.zero=some (.int .u8 0)∧i.size=1∧i.bytes=1:=by
 obtain⟨i,h1,h2⟩:=Option.map_eq_some_iff.1 infoByte;simp only[Prod.mk.injEq]at h2;exact⟨i,h1,h2.1,h2.2.1,h2.2.2⟩
def Went(w w':World)(v v':Value):Prop:=(∀g,v'.ownBlock=some g→w.heap.size≤g∨v.ownBlock=some g)∧∀g,v.ownBlock=some g→∃cur fr,w'.heap[g]?=some (.cells cur 5 fr)
theorem zi7(w:World)(v:Value)(n:Nat)(xs:List Value)(hown:w.ownsRowF 0 5 1 v n xs)(s:ByteArray)(hb:n+s.size≤140737488355328):
  ∃v' w',(Builtin.append_ #[105,9] 105 #[v,.string s]).run Tryz.prog w=.ok v' w'∧w'.ownsRowF 0 5 1 v' (n+s.size) (xs++Lib.strCells s)∧w.grownBy w' v.ownBlock∧Went w w' v v':=by
 obtain⟨i,hi,hz,hs,hy⟩:=info5
 have h63:n+s.size≤maxLen:=by unfold maxLen;omega
 rcases hown.2 with⟨rfl,rfl⟩|⟨g,cap,cur,fz,rfl,hbg,hg,hfz,hnc,hcm,hcs,htake⟩
 ·obtain⟨v',w',h1,h2,h3,_⟩:=Lib.run_append_own_stringF (P:=Tryz.prog) w w.heap.size 105 9 105 5 i Tryz.underlying105 Tryz.underlying9 hi hz hs hy (.slice none 0 0) 0 xs ⟨hown.1,.inl ⟨rfl,rfl⟩⟩ s h63 hb (Nat.le_refl _)
  refine⟨v',w',h1,⟨h2.1,?_⟩,h3,fun g hg=>.inl (h2.lt g hg).1,fun g hg=>by cases hg⟩
  rcases h2.2 with h|⟨g,cap,cur,fz,e1,e2,r⟩
  ·exact .inl h
  ·exact .inr ⟨g,cap,cur,fz,e1,Nat.zero_le _,r⟩
 ·obtain⟨v',w',h1,h2,h3,_⟩:=Lib.run_append_own_stringF (P:=Tryz.prog) w 0 105 9 105 5 i Tryz.underlying105 Tryz.underlying9 hi hz hs hy _ n xs hown s h63 hb (Nat.zero_le _)
  refine⟨v',w',h1,h2,h3,?_⟩;by_cases hroom:n+s.size≤cap
  ·have hr:=Lib.run_append_room_stringF (P:=Tryz.prog) w 105 9 105 5 i Tryz.underlying105 Tryz.underlying9 hi hs g n cap cur fz hg (by simpa using hfz) s hroom (by omega)
   rw[h1]at hr;cases hr;refine⟨fun g' hg'=>.inr (by simpa[Value.ownBlock]using hg'),fun g' hg'=>?_⟩
   rcases h2.2 with⟨e,_⟩|⟨g2,cap2,cur2,fz2,e1,_,e3,_⟩
   ·cases e
   ·cases e1
    simp only[Value.ownBlock,Option.some.injEq]at hg';subst hg';exact⟨_,_,e3⟩
  ·have holds:∀j u,xs[j]?=some u→w.cell? ((⟨g,0,none⟩:Addr).add j)=some u:=hown.cells (g:=g) rfl
   have hr:=Lib.run_append_grow_string (P:=Tryz.prog) w 105 9 105 5 i (.int .u8 0) Tryz.underlying105 Tryz.underlying9 hi hz ⟨g,0,none⟩ n cap xs (by rw[hs];exact hown.1) holds s (by omega) (by omega) (by rw[hy];exact growslice_fits (by omega) (by omega));rw[h1]at hr;cases hr;refine⟨fun g' hg'=>?_,fun g' hg'=>?_⟩
   ·simp only[Value.ownBlock,Option.some.injEq]at hg'
    exact .inl (by omega)
   ·simp only[Value.ownBlock,Option.some.injEq]at hg'
    subst hg';exact⟨_,_,(Lib.alloc_old w.drew _ g (Array.getElem?_eq_some_iff.1 hg).1).trans hg⟩
theorem zi8{ops:Array Oper}{rest:List Oper}{o:Oper}{a:Act}{w:World}{Q:Exit→Act→World→Prop}(hgd:o.guard=none)(sl x:Operand)
  (ho:o.op=.call { callee:=.builtin .append,args:=#[sl,x],argTypes:=#[105,9] }) (hty:o.type=105)
  (v:Value) (n:Nat) (xs:List Value) (hs:a.eval sl=v) (hown:w.ownsRowF 0 5 1 v n xs) (s:ByteArray) (hx:a.eval x=.string s) (hb:n+s.size≤140737488355328)
  (h:∀v' w',w'.ownsRowF 0 5 1 v' (n+s.size) (xs++Lib.strCells s)→w.grownBy w' v.ownBlock→Went w w' v v'→wpList Tryz.prog ops Q rest (a.put o.dst v') w'):wpList Tryz.prog ops Q (o::rest) a w:=by
 refine wpList_plain hgd fun K hK=>?_
 obtain⟨v',w',hr,h2,h3,h4⟩:=zi7 w v n xs hown s hb;unfold Oper.wp execOp;simp only[ho,hty,resolve,invoke,builtin,Sem.run_bind,Sem.run_pure,Result.andThen_ok,List.map_toArray,List.map_cons,List.map_nil,hs,hx,hr];exact hK _ _ (h v' w' h2 h3 h4)
def Qw(b:Nat)(w w':World):Prop:=∃p v T p' v',w.heap[b]?=some (.cells #[p,v] T (0,0))∧w'.heap[b]?=some (.cells #[p',v'] T (0,0))∧w'.os=w.os∧w'.tape=w.tape∧w'.output=w.output∧w.heap.size≤w'.heap.size ∧
 (∀k,k<w.heap.size→k≠b→v.ownBlock≠some k→w'.heap[k]?=w.heap[k]?)∧(∀g,v'.ownBlock=some g→w.heap.size≤g∨v.ownBlock=some g)∧∀g,v.ownBlock=some g→g≠b→∃cur u fr,w'.heap[g]?=some (.cells cur u fr)
theorem check{T:TypeId}(hT:zzq T)(b:Nat)(bs:List Value)(w:World)(h:Lib.IsBuilderF T 5 0 b bs w):
  Calls Tryz.prog 178 #[.pointer (some ⟨b,0,none⟩)] w fun e w'=>e=.returned (.tuple #[])∧Lib.BuilderAtF T 5 0 b (.pointer (some ⟨b,0,none⟩)) bs w'∧∃p v,w.heap[b]?=some (.cells #[p,v] T (0,0))∧w'.heap[b]?=some (.cells #[.pointer (some ⟨b,0,none⟩),v] T (0,0))∧w'.os=w.os∧w'.tape=w.tape∧w'.output=w.output∧w'.heap.size=w.heap.size∧∀k,k≠b→w'.heap[k]?=w.heap[k]?:=by
 rcases h with h|h
 ·refine(zee hT b w h.cell0 h.shape h.frozen0).mono ?_
  rintro e w' ⟨rfl,rfl⟩;have h2:=h.used (.pointer (some ⟨b,0,none⟩));obtain⟨_,v,hb,_⟩:=h;exact⟨rfl,h2,_,v,hb,by simp[World.setCell,Array.getElem?_modify,hb],rfl,rfl,rfl,by simp[World.setCell],fun k hk=>Below.heap_setCell _ _ _ _ (fun e=>hk (by simp[e]))⟩
 ·refine(zi6 b w h.cell0).mono ?_
  rintro e w' ⟨rfl,rfl⟩;have h2:=h;obtain⟨_,v,hb,_⟩:=h;exact⟨rfl,h2,_,v,hb,hb,rfl,rfl,rfl,rfl,fun _ _=>rfl⟩
set_option maxHeartbeats 2000000 in
set_option maxRecDepth 100000 in
theorem zu6{T:TypeId}(hT:zzq T)(b:Nat)(bs:List Value)(s:ByteArray)(w:World)(h:Lib.IsBuilderF T 5 0 b bs w)(hlen:bs.length+s.size≤140737488355328):
  (Calls Tryz.prog 65 #[.pointer (some ⟨b,0,none⟩),.string s] w fun e w'=>e=.returned (.tuple #[.int .i64 s.size,.nilIface])∧Lib.IsBuilderF T 5 0 b (bs++Lib.strCells s) w'∧Qw b w w') ∧
  ∀u,CallsDIn Fence.wide 0 Tryz.prog 65 #[.pointer (some ⟨b,0,none⟩),.string s] u w fun e u' w'=>u'=u∧(e=.returned (.tuple #[.int .i64 s.size,.nilIface])∧Lib.IsBuilderF T 5 0 b (bs++Lib.strCells s) w'∧Qw b w w'):=by
 refine⟨calls_of_wp Tryz.func65 rfl ?_,fun u=>callsDIn_of_wp Tryz.func65 rfl trivial (wpIn_wide.2 ?_)⟩
 all_goals
  simp only[Tryz.ntmps65,List.size_toArray,List.length_cons,List.length_nil,Nat.reduceAdd,Nat.reduceSub,Array.replicate_succ,Array.replicate_zero,List.push_toArray,List.append_toArray,List.nil_append,List.cons_append]
  go_wp2_with (go_at_call 178;refine(check hT b bs _ h).mono ?_)
  rintro e w1 ⟨rfl,h1,p0,v0,k1,k2,k3,k4,k5,k6,k7⟩;obtain⟨hB,v,hbk,hown,hne⟩:=h1
  have c0:w1.cell? ⟨b,0,none⟩=some (.pointer (some ⟨b,0,none⟩)):=by rw[Lib.cell_of_heap hbk];rfl
  have c1:w1.cell? ⟨b,1,none⟩=some v:=by rw[Lib.cell_of_heap hbk];rfl
  go_wp2_with (at_builtin;refine zi8 rfl _ _ rfl rfl _ _ _ rfl hown s rfl ?c4 ?_)
  case c4=>omega
  intro v' w2 hown' hgrow hwent
  have hlt:b<w1.heap.size:=by
   rcases Nat.lt_or_ge b w1.heap.size with h'|h'
   ·exact h'
   ·simp[Array.getElem?_eq_none h']at hbk
  have hb2:w2.heap[b]?=some (.cells #[.pointer (some ⟨b,0,none⟩),v] T (0,0)):=by
   rw[hgrow.block b hlt (fun e=>hne e.symm)];exact hbk
  have d0:w2.cell? ⟨b,0,none⟩=some (.pointer (some ⟨b,0,none⟩)):=by rw[Lib.cell_of_heap hb2];rfl
  have d1:w2.cell? ⟨b,1,none⟩=some v:=by rw[Lib.cell_of_heap hb2];rfl
  have f1:w2.frozen? ⟨b,1,none⟩=false:=Lib.frozen_of_heap hb2 1
  obtain⟨ao,n',cap,rfl⟩:∃ao n' cap,v'=.slice ao n' cap:=by
   rcases hown'.2 with⟨hv,_⟩|⟨g,cap,cur,fz,hv,_⟩
   ·exact⟨_,_,_,hv⟩
   ·exact⟨_,_,_,hv⟩
  go_wp2
  go_ret2
  rw[hbk]at k2;cases k2;refine⟨rfl,.inr (Lib.BuilderAtF.put hB hb2 (bs':=bs++Lib.strCells s) (by simpa[Lib.strCells_length]using hown') hT.ne),p0,v0,T,.pointer (some ⟨b,0,none⟩),.slice ao n' cap,k1,by simp[World.setCell,Array.getElem?_modify,hb2],hgrow.os.trans k3,hgrow.tape.trans k4,hgrow.output.trans k5,by simpa[World.setCell]using Nat.le_trans (Nat.le_of_eq k6.symm) hgrow.size,fun k hk hkb hkv=>?_,fun g hg=>?_,fun g hg hgb=>?_⟩
  ·rw[Below.heap_setCell _ _ _ _ (fun e=>hkb (by simp[e])),hgrow.block k (by omega) (fun e=>hkv e.symm),k7 k hkb]
  ·have:=hwent.1 g hg
   rwa [k6]at this
  ·obtain⟨cur,fr,e⟩:=hwent.2 g hg
   exact⟨cur,5,fr,by rw[Below.heap_setCell _ _ _ _ (fun e=>hgb (by simp[e]))];exact e⟩
set_option maxHeartbeats 1000000 in
set_option maxRecDepth 100000 in
theorem zu7{T:TypeId}(b:Nat)(bs:List Value)(w:World)(h:Lib.IsBuilderF T 5 0 b bs w):
  Calls Tryz.prog 66 #[.pointer (some ⟨b,0,none⟩)] w fun e w'=>e=.returned (.int .i64 bs.length)∧w'=w:=by
 obtain⟨p,hB,v,hbk,hown,hne⟩:∃p,Lib.BuilderAtF T 5 0 b p bs w:=by
  rcases h with h|h
  ·exact⟨_,h⟩
  ·exact⟨_,h⟩
 obtain⟨ao,cap,rfl⟩:∃ao cap,v=.slice ao bs.length cap:=by
  rcases hown.2 with⟨hv,h0⟩|⟨g,cap,cur,fz,hv,_⟩
  ·exact⟨none,0,by rw[hv,h0]⟩
  ·exact⟨_,_,hv⟩
 have c1:w.cell? ⟨b,1,none⟩=some (.slice ao bs.length cap):=by rw[Lib.cell_of_heap hbk];rfl
 go_enter Tryz.func66,Tryz.ntmps66
 go_wp2
 go_ret
 exact⟨rfl,rfl⟩
theorem zgo:Tryz.prog.follows .mixedOrders=true:=by kernel_rfl
theorem zzr:Tryz.prog.cellsOf 5=1:=by kernel_rfl
theorem zu8(W:World)(q:Option Addr):(Builtin.unsafeString_ #[226,3] 9 #[.pointer q,.int .i64 0]).run Tryz.prog W=.ok (.string .empty) W :=
 Lib.run_unsafeString_none W _ _ _ q
theorem K4{b:Nat}{w w':World}{p v:Value}{T:TypeId}(h1:w.heap[b]?=some (.cells #[p,v] T (0,0)))(h2:w'.heap[b]?=some (.cells #[p,v] T (0,0)))(ho:w'.os=w.os)(ht:w'.tape=w.tape)(hu:w'.output=w.output)(hs:w.heap.size≤w'.heap.size)
  (hf:∀k,k<w.heap.size→k≠b→v.ownBlock≠some k→w'.heap[k]?=w.heap[k]?) (hg:∀g,v.ownBlock=some g→g≠b→∃cur u fr,w'.heap[g]?=some (.cells cur u fr)):Qw b w w' :=
 ⟨p,v,T,p,v,h1,h2,ho,ht,hu,hs,hf,fun g hg=>.inr hg,hg⟩
set_option maxHeartbeats 2000000 in
set_option maxRecDepth 100000 in
theorem zef{T:TypeId}(b:Nat)(l:List UInt8)(w:World)(h:Lib.IsBuilderF T 5 0 b (Lib.byteCells l) w)(h0:l≠[]):
  Calls Tryz.prog 67 #[.pointer (some ⟨b,0,none⟩)] w fun e w'=>e=.returned (.string ⟨l.toArray⟩)∧Lib.IsBuilderF T 5 0 b (Lib.byteCells l) w'∧Qw b w w':=by
 obtain⟨p,hp,hAt⟩:∃p,(p=.pointer none∨p=.pointer (some ⟨b,0,none⟩))∧Lib.BuilderAtF T 5 0 b p (Lib.byteCells l) w:=by
  rcases h with h|h
  ·exact⟨_,.inl rfl,h⟩
  ·exact⟨_,.inr rfl,h⟩
 obtain⟨hB,v,hbk,hown,hne⟩:=hAt
 have hl0:l.length≠0:=by simpa using h0
 rw[Lib.byteCells_length]at hown
 obtain⟨g,cap,cur,fz,rfl,hbg,hg,hfz,hnc,hcm,hcs,htake⟩:∃g cap cur fz,v=.slice (some ⟨g,0,none⟩) l.length cap∧0≤g∧w.heap[g]?=some (.cells cur 5 fz)∧fz.2≤l.length*1∧l.length≤cap∧cap≤maxLen∧cur.size=cap*1∧cur.toList.take (l.length*1)=Lib.byteCells l:=by
  rcases hown.2 with⟨_,hz⟩|⟨g,cap,cur,fz,hv,r⟩
  ·exact absurd hz hl0
  ·exact⟨g,cap,cur,fz,hv,r⟩
 have c1:w.drew.cell? ⟨b,1,none⟩=some (.slice (some ⟨g,0,none⟩) l.length cap):=by
  have:w.drew.heap[b]?=some (.cells #[p,.slice (some ⟨g,0,none⟩) l.length cap] T (0,0)):=hbk;rw[Lib.cell_of_heap this];rfl
 have hSD:(Builtin.unsafeSliceData_ #[105] 226 #[.slice (some ⟨g,0,none⟩) l.length cap]).run Tryz.prog w.drew=.ok (.pointer (some ⟨g,0,none⟩)) w.drew :=
  Lib.run_unsafeSliceData_row _ _ _ _ _ _ (by omega)
 have hUS:(Builtin.unsafeString_ #[226,3] 9 #[.pointer (some ⟨g,0,none⟩),.int .i64 l.length]).run Tryz.prog w.drew=.ok (.string ⟨l.toArray⟩) (w.drew.freeze ⟨g,0,none⟩ l.length):=by
  refine Lib.run_unsafeString_row w.drew 226 3 9 5 Tryz.underlying226 zzr g cur.size (by have hg':w.drew.heap[g]?=some (.cells cur 5 fz):=hg;simp[World.shape?,hg']) l h0 (by omega) (by unfold maxLen at hcm;omega) ?_;intro j x hx;exact hown.cells (g:=g) rfl j (.int .u8 x.toNat) (by simp[Lib.byteCells,hx])
 have hkeep:Lib.IsBuilderF T 5 0 b (Lib.byteCells l) (w.drew.freeze ⟨g,0,none⟩ l.length):=by
  have hA:Lib.BuilderAtF T 5 0 b p (Lib.byteCells l) w.drew:=⟨hB,_,hbk,by rw[Lib.byteCells_length];exact hown,hne⟩
  have hF:=hA.froze (g:=g) (cap:=cap) (by rw[Lib.byteCells_length];exact c1);rw[Lib.byteCells_length]at hF
  rcases hp with rfl|rfl
  ·exact .inl hF
  ·exact .inr hF
 have hbg:b≠g:=fun e=>hne (by simp[Value.ownBlock,e])
 have hfrz:∀k,k≠g→(w.drew.freeze ⟨g,0,none⟩ l.length).heap[k]?=w.heap[k]?:=fun k hk=>by
  unfold World.freeze;split
  ·rfl
  ·simp only[Array.getElem?_modify]
   rw[if_neg (fun e=>hk e.symm)];rfl
 have hturn:Qw b w (w.drew.freeze ⟨g,0,none⟩ l.length):=K4 hbk ((hfrz b hbg).trans hbk) (by unfold World.freeze;split<;>rfl) (by unfold World.freeze;split<;>rfl) (by unfold World.freeze;split<;>rfl) (by unfold World.freeze;split;exact Nat.le_refl _;exact Nat.le_of_eq Array.size_modify.symm) (fun k _ _ hk=>hfrz k fun e=>hk (by simp[Value.ownBlock,e])) fun g' hg' _=>by
  simp only[Value.ownBlock,Option.some.injEq]at hg';subst hg';have hg':w.drew.heap[g]?=some (.cells cur 5 fz):=hg;unfold World.freeze;split
  ·exact⟨_,_,_,hg'⟩
  ·simp only[Array.getElem?_modify,if_true,hg',Option.map_some]
   exact⟨_,_,_,rfl⟩
 have mixed:=zgo
 go_enter Tryz.func67,Tryz.ntmps67
 go_wp2
 go_region_o
 all_goals (go_wp2;go_ret;exact⟨rfl,hkeep,hturn⟩)
set_option maxHeartbeats 2000000 in
set_option maxRecDepth 100000 in
theorem zeg{T:TypeId}(b:Nat)(w:World)(h:Lib.IsBuilderF T 5 0 b [] w):
  Calls Tryz.prog 67 #[.pointer (some ⟨b,0,none⟩)] w fun e w'=>e=.returned (.string ⟨#[]⟩)∧Lib.IsBuilderF T 5 0 b [] w'∧Qw b w w':=by
 have hUS:=zu8
 obtain⟨p,hp,hA⟩:∃p,(p=.pointer none∨p=.pointer (some ⟨b,0,none⟩))∧Lib.BuilderAtF T 5 0 b p [] w:=by
  rcases h with h|h
  ·exact⟨_,.inl rfl,h⟩
  ·exact⟨_,.inr rfl,h⟩
 have hlt:=hA.lt;have hA':=hA;obtain⟨hB,v,hbk,hown,hne⟩:=hA
 have fin:∀w',Lib.BuilderAtF T 5 0 b p [] w'→Lib.IsBuilderF T 5 0 b [] w':=fun w' hk=>by
  rcases hp with rfl|rfl
  ·exact .inl hk
  ·exact .inr hk
 rcases hown.2 with⟨rfl,_⟩|⟨g,cap,cur,fz,rfl,hbg,hg,_,_,_,_,_⟩
 ·have c1:w.drew.cell? ⟨b,1,none⟩=some (.slice none 0 0):=by
   have:w.drew.heap[b]?=some (.cells #[p,.slice none 0 0] T (0,0)):=hbk;rw[Lib.cell_of_heap this];rfl
  have hSD:(Builtin.unsafeSliceData_ #[105] 226 #[.slice none 0 0]).run Tryz.prog w.drew=.ok (.pointer none) w.drew:=rfl;have hf:Lib.IsBuilderF T 5 0 b [] w.drew:=fin _ hA'
  have ht:Qw b w w.drew:=K4 hbk hbk rfl rfl rfl (Nat.le_refl _) (fun _ _ _ _=>rfl) fun g' hg' _=>(by cases hg')
  have mixed:=zgo
  go_enter Tryz.func67,Tryz.ntmps67
  go_wp2
  go_region_o
  all_goals (go_wp2;go_ret;exact⟨rfl,hf,ht⟩)
 ·by_cases hc0:cap=0
  ·subst hc0
   have c1:w.drew.cell? ⟨b,1,none⟩=some (.slice (some ⟨g,0,none⟩) 0 0):=by
    have:w.drew.heap[b]?=some (.cells #[p,.slice (some ⟨g,0,none⟩) 0 0] T (0,0)):=hbk;rw[Lib.cell_of_heap this];rfl
   have hSD:(Builtin.unsafeSliceData_ #[105] 226 #[.slice (some ⟨g,0,none⟩) 0 0]).run Tryz.prog w.drew=.ok (.pointer (some ⟨w.drew.heap.size,0,none⟩)) (w.drew.alloc (.view ⟨g,0,none⟩ 5)) :=
    Lib.run_unsafeSliceData_zero w.drew _ _ 5 Tryz.underlying226 ⟨g,0,none⟩ 0 (5,cur.size) (by have hg':w.drew.heap[g]?=some (.cells cur 5 fz):=hg;simp[World.shape?,hg'])
   have c2:(w.drew.alloc (.view ⟨g,0,none⟩ 5)).cell? ⟨b,1,none⟩=some (.slice (some ⟨g,0,none⟩) 0 0):=by
    have:(w.drew.alloc (.view ⟨g,0,none⟩ 5)).heap[b]?=_:=(Lib.alloc_old w.drew _ b hlt).trans hbk;rw[Lib.cell_of_heap this];rfl
   have c3:(w.alloc (.view ⟨g,0,none⟩ 5)).drew.cell? ⟨b,1,none⟩=some (.slice (some ⟨g,0,none⟩) 0 0):=c2;have c0:w.cell? ⟨b,1,none⟩=some (.slice (some ⟨g,0,none⟩) 0 0):=c1;have hf:Lib.IsBuilderF T 5 0 b [] (w.drew.alloc (.view ⟨g,0,none⟩ 5)):=fin _ (hA'.drew.alloc _)
   have ht:Qw b w (w.drew.alloc (.view ⟨g,0,none⟩ 5)):=K4 hbk ((Lib.alloc_old w.drew _ b hlt).trans hbk) rfl rfl rfl (Nat.le_of_lt (by rw[show(w.drew.alloc (.view ⟨g,0,none⟩ 5)).heap.size=w.drew.heap.size+1 from by simp];exact Nat.lt_succ_self _)) (fun k hk _ _=>Lib.alloc_old w.drew _ k hk) fun g' hg' _=>by
    simp only[Value.ownBlock,Option.some.injEq]at hg';subst hg';exact⟨_,_,_,(Lib.alloc_old w.drew _ g (Array.getElem?_eq_some_iff.1 hg).1).trans hg⟩
   have mixed:=zgo
   go_enter Tryz.func67,Tryz.ntmps67
   go_wp2
   go_region_o
   all_goals (go_wp2;go_ret;exact⟨rfl,hf,ht⟩)
  ·have c1:w.drew.cell? ⟨b,1,none⟩=some (.slice (some ⟨g,0,none⟩) 0 cap):=by
    have:w.drew.heap[b]?=some (.cells #[p,.slice (some ⟨g,0,none⟩) 0 cap] T (0,0)):=hbk;rw[Lib.cell_of_heap this];rfl
   have hSD:(Builtin.unsafeSliceData_ #[105] 226 #[.slice (some ⟨g,0,none⟩) 0 cap]).run Tryz.prog w.drew=.ok (.pointer (some ⟨g,0,none⟩)) w.drew :=
    Lib.run_unsafeSliceData_row _ _ _ _ _ _ hc0
   clear hc0;have hf:Lib.IsBuilderF T 5 0 b [] w.drew:=fin _ hA'
   have ht:Qw b w w.drew:=K4 hbk hbk rfl rfl rfl (Nat.le_refl _) (fun _ _ _ _=>rfl) fun g' hg' _=>(by
    simp only[Value.ownBlock,Option.some.injEq]at hg';subst hg'
    exact⟨_,_,_,hg⟩)
   have mixed:=zgo
   go_enter Tryz.func67,Tryz.ntmps67
   go_wp2
   go_region_o
   all_goals (go_wp2;go_ret;exact⟨rfl,hf,ht⟩)
theorem zi9{T:TypeId}(b:Nat)(l:List UInt8)(w:World)(h:Lib.IsBuilderF T 5 0 b (Lib.byteCells l) w):
  Calls Tryz.prog 67 #[.pointer (some ⟨b,0,none⟩)] w fun e w'=>e=.returned (.string ⟨l.toArray⟩)∧Lib.IsBuilderF T 5 0 b (Lib.byteCells l) w'∧Qw b w w':=by
 cases l with
 |nil=>exact zeg b w h
 |cons x r=>exact zef b (x::r) w h (by simp)
end Go.Proofs.YthnokpghgeppdaaGreatDoor
namespace Go.Eng
open Go Go.RowKit
abbrev zR:=Nat→Value
def upd(ρ:zR)(d:Nat)(v:Value):zR:=fun t=>bif Nat.beq t d then v else ρ t
abbrev Wc:=Exit→zR→List Deferred→World→Prop
def ev(ρ:zR):Operand→Value
 |.tmp t=>ρ t
 |.const v=>v
 |.global g=>.pointer (some ⟨g,0,none⟩)
 |.func f=>.func (.func f) #[] #[]
structure Frm(N:Nat)(ds:List Deferred)(a:Act)(ρ:zR):Prop where
 size:a.tmps.size=N
 defs:a.defers=ds
 get:∀t,a.tmps.getD t undef=ρ t
theorem Frm.eval{N:Nat}{ds:List Deferred}{a:Act}{ρ:zR}(h:Frm N ds a ρ):a.eval=ev ρ:=by
 funext x
 cases x with
 |tmp t=>exact h.get t
 |const v=>rfl
 |global g=>rfl
 |func f=>rfl
theorem Frm.put{N:Nat}{ds:List Deferred}{a:Act}{ρ:zR}(h:Frm N ds a ρ){d:Nat}(hd:d<N)(v:Value):Frm N ds (a.put (some d) v) (upd ρ d v):=by
 refine⟨by simp[Act.put,h.size],h.defs,fun t=>?_⟩;simp only[Act.put,upd];by_cases htd:t=d
 ·subst htd
  simp[Array.getD_eq_getD_getElem?,Nat.beq_refl,h.size,hd]
 ·have hb:Nat.beq t d=false:=by
   cases hx:Nat.beq t d with
   |false=>rfl
   |true=>exact absurd (Nat.eq_of_beq_eq_true hx) htd
  rw[hb,cond_false,← h.get t];simp[Array.getD_eq_getD_getElem?,Array.getElem?_setIfInBounds_ne (Ne.symm htd)]
theorem Frm.putNone{N:Nat}{ds:List Deferred}{a:Act}{ρ:zR}(h:Frm N ds a ρ)(v:Value):Frm N ds (a.put none v) ρ:=h
def Fw(r:Option Nat):Fence:={ fn:=fun _=>True,depth:=none,alive:=false,round:=r }
theorem ql{n:Nat}{P:Program}{f:FuncId}{args:Array Value}{w:World}{R:Ending→World→Prop}(r:Option Nat)(h:Calls P f args w R):CallsIn (Fw r) n P f args w R :=
 (callsIn_wide (n:=n)).2 h
def lift(N:Nat)(Q:Wc):Exit→Act→World→Prop:=fun e a w=>∃ρ ds,Frm N ds a ρ∧Q e ρ ds w
theorem zlq{N:Nat}{Q Q':Wc}(h:∀e ρ ds w,Q e ρ ds w→Q' e ρ ds w){e:Exit}{a:Act}{w:World}:lift N Q e a w→lift N Q' e a w :=
 fun⟨ρ,ds,hf,hq⟩=>⟨ρ,ds,hf,h _ _ _ _ hq⟩
def Wp(P:Program)(r:Option Nat)(N:Nat)(c:Code)(Q:Wc)(ρ:zR)(ds:List Deferred)(w:World):Prop :=
 ∀a n,Frm N ds a ρ→c.wpIn (Fw r) n P (lift N Q) a w
def andThen(K:zR→List Deferred→World→Prop)(Q:Wc):Wc
 |.normal,ρ,ds,w=>K ρ ds w
 |e,ρ,ds,w=>Q e ρ ds w
def zu9(id:Nat)(Q:Wc):Wc
 |.exit i,ρ,ds,w=>if i=id then Q .normal ρ ds w else Q (.exit i) ρ ds w
 |e,ρ,ds,w=>Q e ρ ds w
section
variable{P:Program}{r:Option Nat}{N:Nat}{Q:Wc}{ρ:zR}{ds:List Deferred}{w:World}
theorem zgp{c:Code}{Q':Wc}(h:Wp P r N c Q ρ ds w)(hq:∀e ρ ds w,Q e ρ ds w→Q' e ρ ds w):Wp P r N c Q' ρ ds w :=
 fun a n hf=>wpIn_mono (h a n hf) fun _ _ _=>zlq hq
theorem zzs(h:Q .normal ρ ds w):Wp P r N .skip Q ρ ds w:=fun _ _ hf=>wpIn_skip ⟨_,_,hf,h⟩
theorem zzt{id:Nat}(h:Q (.exit id) ρ ds w):Wp P r N (.exit id) Q ρ ds w:=fun _ _ hf=>wpIn_exit ⟨_,_,hf,h⟩
theorem w_ret(h:Q .ret ρ ds w):Wp P r N .ret Q ρ ds w:=fun _ _ hf=>wpIn_ret ⟨_,_,hf,h⟩
theorem w_seq{x y:Code}(h:Wp P r N x (andThen (fun ρ ds w=>Wp P r N y Q ρ ds w) Q) ρ ds w):Wp P r N (.seq x y) Q ρ ds w :=
 fun a n hf=>wpIn_seq (wpIn_mono (h a n hf) fun e a' w' hq=>by
  obtain⟨ρ',ds',hf',hq'⟩:=hq
  cases e with
  |normal=>exact hq' a' n hf'
  |exit id=>exact⟨ρ',ds',hf',hq'⟩
  |goto l=>exact⟨ρ',ds',hf',hq'⟩
  |ret=>exact⟨ρ',ds',hf',hq'⟩
  |panic ch=>exact⟨ρ',ds',hf',hq'⟩
  |outgrown=>exact⟨ρ',ds',hf',hq'⟩)
theorem zzu{c:Operand}{x y:Code}(t:Bool)(hc:ev ρ c=.bool t)(h1:t=true→Wp P r N x Q ρ ds w)(h2:t=false→Wp P r N y Q ρ ds w):Wp P r N (.cond c x y) Q ρ ds w :=
 fun a n hf=>wpIn_cond_split (by rw[hf.eval];exact hc) (fun ht=>h1 ht a n hf) (fun ht=>h2 ht a n hf)
theorem zva{id:Nat}{c:Code}(h:Wp P r N c (zu9 id Q) ρ ds w):Wp P r N (.block id c) Q ρ ds w :=
 fun a n hf=>wpIn_block (wpIn_mono (h a n hf) fun e a' w' hq=>by
  obtain⟨ρ',ds',hf',hq'⟩:=hq
  cases e with
  |exit i =>
   simp only[zu9]at hq';simp only[Exit.inBlock];split
   ·rename_i he;rw[if_pos he]at hq';exact⟨ρ',ds',hf',hq'⟩
   ·rename_i he;rw[if_neg he]at hq';exact⟨ρ',ds',hf',hq'⟩
  |normal=>exact⟨ρ',ds',hf',hq'⟩
  |goto l=>exact⟨ρ',ds',hf',hq'⟩
  |ret=>exact⟨ρ',ds',hf',hq'⟩
  |panic ch=>exact⟨ρ',ds',hf',hq'⟩
  |outgrown=>exact⟨ρ',ds',hf',hq'⟩)
theorem least(p:Nat→Prop):∀n,p n→∃m,p m∧∀k,k<m→¬p k:=by
 intro n
 induction n using Nat.strongRecOn with
 |_ n ih =>
  intro h;by_cases hk:∃k,k<n∧p k
  ·obtain⟨k,hkn,hpk⟩:=hk
   exact ih k hkn hpk
  ·exact⟨n,h,fun k hkn hpk=>hk ⟨k,hkn,hpk⟩⟩
def gv(all:List Oper)(ρ:zR)(j:Nat):Option Bool :=
 match (all[j]?).bind (·.dst)with
 |some d=>match ρ d with|.bool b=>some b|_=>none
 |none=>none
def wanted(all:List Oper)(ρ:zR)(o:Oper):Bool :=
 match o.guard with
 |none=>true
 |some (j,want)=>gv all ρ j==some want
theorem Frm.yielded{a:Act}(hf:Frm N ds a ρ)(all:List Oper)(j:Nat):Go.yielded all.toArray a.tmps j=gv all ρ j:=by
 unfold Go.yielded gv;simp only[List.getElem?_toArray]
 cases h:(all[j]?).bind (·.dst)with
 |none=>rfl
 |some d =>
  simp only[Option.bind_some];have hg:=hf.get d;rw[Array.getD_eq_getD_getElem?]at hg
  cases hx:a.tmps[d]? with
  |none=>rw[hx]at hg;rw[← hg];rfl
  |some v=>rw[hx]at hg;rw[← hg];cases v<;>rfl
theorem Frm.wanted{a:Act}(hf:Frm N ds a ρ)(all:List Oper)(o:Oper):Region.wanted o (Go.yielded all.toArray a.tmps)=wanted all ρ o:=by
 unfold Region.wanted Eng.wanted
 cases o.guard with
 |none=>rfl
 |some p=>simp only[hf.yielded all]
def Ops(P:Program)(r:Option Nat)(N:Nat)(all:List Oper)(Q:Wc)(l:List Oper)(ρ:zR)(ds:List Deferred)(w:World):Prop :=
 ∀a n,Frm N ds a ρ→wpListIn (Fw r) n P all.toArray (lift N Q) l a w
theorem zqt{id:Nat}{l:List Oper}(h:Ops P r N l Q l ρ ds w):Wp P r N (.region id l.toArray false) Q ρ ds w :=
 fun a n hf=>wpIn_region_lit (h a n hf)
def wD:Op→Bool|.defer _=>false|_=>true
theorem qP{o:Oper}(h:wD o.op=true)(ρ:Operand→Value)(ro:Option Nat):o.semAt ro ρ=execOp ρ o :=
 Oper.semAt_eq ro ρ o (fun c hc=>by rw[hc]at h;cases h)
section
variable{all rest:List Oper}{o:Oper}
theorem zvb(h:Q .normal ρ ds w):Ops P r N all Q [] ρ ds w:=fun _ _ hf=>⟨_,_,hf,h⟩
theorem zqu(d:Nat)(hd:o.dst=some d)(hN:Nat.ble (d+1) N=true)(hw:wanted all ρ o=false)(h:Ops P r N all Q rest (upd ρ d undef) ds w):Ops P r N all Q (o::rest) ρ ds w:=by
 intro a n hf;have hw':=(hf.wanted all o).trans hw;simp only[wpListIn,hw',Bool.false_eq_true,if_false];exact⟨fun _ _=>trivial,h _ n (by rw[hd];exact hf.put (Nat.le_of_ble_eq_true hN) _)⟩
theorem zlr(hd:o.dst=none)(hw:wanted all ρ o=false)(h:Ops P r N all Q rest ρ ds w):Ops P r N all Q (o::rest) ρ ds w:=by
 intro a n hf;have hw':=(hf.wanted all o).trans hw;simp only[wpListIn,hw',Bool.false_eq_true,if_false];exact⟨fun _ _=>trivial,h _ n (by rw[hd];exact hf.putNone _)⟩
theorem zls(d:Nat)(v:Value){w':World}(hd:o.dst=some d)(hN:Nat.ble (d+1) N=true)(hw:wanted all ρ o=true)(hn:wD o.op=true)
  (hr:(execOp (ev ρ) o).run P w=.ok (.value v) w') (h:Ops P r N all Q rest (upd ρ d v) ds w'):Ops P r N all Q (o::rest) ρ ds w:=by
 intro a n hf;have hw':=(hf.wanted all o).trans hw;simp only[wpListIn,hw',if_true];refine⟨fun _ _=>trivial,?_⟩;rw[qP hn,hf.eval,hr,Oper.uponIn_value,hd];exact h _ n (hf.put (Nat.le_of_ble_eq_true hN) _)
theorem zlt(d:Nat){w':World}{f:FuncId}{args:Array Value}{R:Ending→World→Prop}(hd:o.dst=some d)(hN:Nat.ble (d+1) N=true)(hw:wanted all ρ o=true)(hn:wD o.op=true)
  (hr:(execOp (ev ρ) o).run P w=.ok (.enter f args) w') (hc:Calls P f args w' R)
  (h:∀e w'',R e w''→∃v,e=.returned v∧Ops P r N all Q rest (upd ρ d v) ds w''):Ops P r N all Q (o::rest) ρ ds w:=by
 intro a n hf;have hw':=(hf.wanted all o).trans hw;simp only[wpListIn,hw',if_true];refine⟨fun _ _=>trivial,?_⟩;rw[qP hn,hf.eval,hr,Oper.uponIn_enter];refine⟨fun hx=>by simp[Fw]at hx,(ql r hc).mono fun e w'' hR=>?_⟩;obtain⟨v,rfl,hk⟩:=h e w'' hR;rw[hd];exact hk _ n (hf.put (Nat.le_of_ble_eq_true hN) _)
end
end
def Qx(ops:Array Oper)(listed:Array Bool):Prop :=
 ∀j o,listed.getD j false=true→ops[j]?=some o→∀e∈o.after,Region.binds .any e=true→listed.getD e.on false=true
theorem Qx.set{ops:Array Oper}{listed:Array Bool}{i:Nat}(h:Qx ops listed)(hr:i∈Region.ready .any ops listed):Qx ops (listed.setIfInBounds i true):=by
 intro j o hj ho e he hb;refine getD_set_true ?_;by_cases hji:i=j
 ·subst hji
  obtain⟨_,o',ho',hall⟩:=mem_ready.1 hr;rw[ho]at ho';cases ho';exact hall e he hb
 ·rw[getD_set_ne false hji]at hj
  exact h j o hj ho e he hb
section
variable{P:Program}{r:Option Nat}{n:Nat}{ops:Array Oper}{jl:Nat}{S T:World→Prop}{Q:Exit→Act→World→Prop}
end
section
variable{P:Program}{r:Option Nat}{N:Nat}{Q:Wc}{ρ:zR}{ds:List Deferred}{w:World}{all:List Oper}{jl:Nat}{S:World→Prop}{K:zR→List Deferred→World→Prop}
end
section
inductive Own where
 |blk (b:Nat) (cs:List Value) (t:TypeId)
 |row (e k:Nat) (v:Value) (xs:List (List Value))
 |obj (b:Nat) (o:Obj)
 |objs (W:World)
variable{W0 w w':World}{L:List Own}{x x' y:Own}
variable{a b c d e f g i:Own}
end
def zae:TypeDesc→Bool|.struct _=>false|.array _ _=>false|_=>true
def Scal(P:Program)(t:TypeId):Prop:=∃d i,P.underlying t=some d∧zae d=true∧P.info? t=some i∧i.size=1
def AggT(P:Program)(t:TypeId)(k:Nat):Prop:=∃d i,P.underlying t=some d∧zae d=false∧P.info? t=some i∧i.size=k
section
variable{P:Program}{ρ:zR}{w:World}{dst:Option Tmp}{ty:TypeId}{pos:String}{aft:Array Edge}{gd:Option (Nat×Bool)}
theorem vq{t:TypeId}(h:Scal P t):(isAgg t).run P w=.ok false w:=by
 obtain⟨d,_,hd,hs,_⟩:=h;unfold isAgg;cases d<;>simp[run_underlying hd,zae]at hs ⊢
theorem qQ{t k:TypeId}(h:AggT P t k):(isAgg t).run P w=.ok true w:=by
 obtain⟨d,i,hd,hs,_⟩:=h;unfold isAgg;cases d<;>simp[run_underlying hd,zae]at hs ⊢
theorem qR{t:TypeId}{x:Operand}{p:Addr}{v:Value}(hs:Scal P t)(ha:ev ρ x=.pointer (some p))(hc:w.cell? p=some v):
  (execOp (ev ρ) ⟨dst,.load t x,ty,pos,aft,gd⟩).run P w=.ok (.value v) w:=by
 simp[execOp,Instr.loadAt,ha,Instr.sureAddr,loadVar,vq hs,load,Sem.run,hc]
theorem kH{t:TypeId}{x:Operand}{p:Addr}{k:Nat}(cs:List Value)(hs:AggT P t k)(ha:ev ρ x=.pointer (some p))(hl:cs.length=k)
  (hc:∀j u,cs[j]?=some u→w.cell? (p.add j)=some u):
  (execOp (ev ρ) ⟨dst,.load t x,ty,pos,aft,gd⟩).run P w=.ok (.value (.agg cs.toArray)) w:=by
 obtain⟨d,i,hd,_,hi,hk⟩:=id hs;subst hl;simp[execOp,Instr.loadAt,ha,Instr.sureAddr,loadVar,qQ hs,sizeOf,typeInfo,hi,hk,run_loadCells_list w p cs hc]
end
abbrev str(l:List UInt8):Value:=.string ⟨l.toArray⟩
abbrev i64(n:Int):Value:=.int .i64 n
section
variable{P:Program}{ρ:zR}{w:World}{dst:Option Tmp}{ty:TypeId}{pos:String}{aft:Array Edge}{gd:Option (Nat×Bool)}
def zlu(P:Program)(s f off:Nat):Prop:=∃fs fld i,P.underlying s=some (.struct fs)∧fs[f]?=some fld∧fld.offset=off∧P.info? fld.type=some i∧i.size≠0
theorem Hy{s f off:Nat}{x:Operand}{p:Addr}(hf:zlu P s f off)(ha:ev ρ x=.pointer (some p)):
  (execOp (ev ρ) ⟨dst,.fieldAddr s x f,ty,pos,aft,gd⟩).run P w=.ok (.value (.pointer (some (p.add off)))) w:=by
 obtain⟨fs,fld,i,h1,h2,h3,h4,h5⟩:=hf;subst h3;simp[execOp,Instr.fieldAt,run_underlying h1,h2,ha,Instr.sureAddr,fieldPlace,sizeOf,typeInfo,h4,h5]
theorem zvc(b o n:Nat):(⟨b,o,none⟩:Addr).add n=⟨b,o+n,none⟩:=Addr.add_lit b o n
theorem JY{s f off:Nat}{x:Operand}{b o o':Nat}(hf:zlu P s f off)(ho:o+off=o')(ha:ev ρ x=.pointer (some ⟨b,o,none⟩)):
  (execOp (ev ρ) ⟨dst,.fieldAddr s x f,ty,pos,aft,gd⟩).run P w=.ok (.value (.pointer (some ⟨b,o',none⟩))) w:=by
 subst ho;rw[← zvc];exact Hy hf ha
theorem zeh{t:TypeId}{x:Operand}{s:List UInt8}(ht:P.underlying t=some .string)(ha:ev ρ x=str s):
  (execOp (ev ρ) ⟨dst,.call ⟨.builtin .len,#[x],#[t]⟩,ty,pos,aft,gd⟩).run P w=.ok (.value (i64 s.length)) w:=by
 have hs:(⟨s.toArray⟩:ByteArray).size=s.length:=by show s.toArray.size=_;simp
 simp[execOp,resolve,invoke,builtin,ha,Builtin.len_,run_underlying ht,goInt,hs]
theorem Wd{t e:TypeId}{x:Operand}{A:Option Addr}{n c:Nat}(ht:P.underlying t=some (.slice e))(ha:ev ρ x=.slice A n c):
  (execOp (ev ρ) ⟨dst,.call ⟨.builtin .len,#[x],#[t]⟩,ty,pos,aft,gd⟩).run P w=.ok (.value (i64 n)) w:=by
 simp[execOp,resolve,invoke,builtin,ha,Builtin.len_,run_underlying ht,goInt]
theorem YP{t t':TypeId}{x y:Operand}{a b:Bool}(ht:P.underlying t=some .bool)(ha:ev ρ x=.bool a)(hb:ev ρ y=.bool b):
  (execOp (ev ρ) ⟨dst,.binOp .eql t x y t',ty,pos,aft,gd⟩).run P w=.ok (.value (.bool (a==b))) w:=by
 simp[execOp,ha,hb,run_eql_bool _ _ _ _ ht,eqGuard]
theorem YQ{t t':TypeId}{x y:Operand}{a b:Bool}(ht:P.underlying t=some .bool)(ha:ev ρ x=.bool a)(hb:ev ρ y=.bool b):
  (execOp (ev ρ) ⟨dst,.binOp .neq t x y t',ty,pos,aft,gd⟩).run P w=.ok (.value (.bool (!(a==b)))) w:=by
 simp[execOp,ha,hb,run_neq_bool _ _ _ _ ht,eqGuard]
end
theorem zlv{a:Int}(h1:-9223372036854775808≤a)(h2:a≤9223372036854775807):IntKind.i64.wrap a=a:=by
 rw[IntKind.wrap_i64];omega
section
variable{P:Program}{r:Option Nat}{N:Nat}{Q:Wc}{ρ:zR}{ds:List Deferred}{w W0:World}{L:List Own}
variable{all rest:List Oper}{ty:TypeId}{pos:String}{aft:Array Edge}{gd:Option (Nat×Bool)}
def za (P : Program) (f : FuncId) : Prop := ∃ fn, P.funcs[f]? = some fn ∧ (fn.name == "runtime.NumGoroutine") = false ∧ fn.body.isNone = false
theorem zgq{d:Option Tmp}{f:FuncId}{l:List Operand}{ts:Array TypeId}(vs:List Value)(hf:za P f)(ha:l.map (ev ρ)=vs):
  (execOp (ev ρ) ⟨d,.call ⟨.value (.func f),l.toArray,ts⟩,ty,pos,aft,gd⟩).run P w=.ok (.enter f vs.toArray) w:=by
 obtain⟨fn,h1,h2,h3⟩:=hf;subst ha
 have h2' : ¬ fn.name = "runtime.NumGoroutine" := by simpa using h2
 have h3':¬fn.body=none:=by intro e;rw[e]at h3;cases h3
 simp[execOp,resolve,ev,Deferred.ofValue,invoke,callFunc,program,Sem.run,h1,h2',h3']
def YR(l:List Value):zR:=fun t=>l.getD t undef
section
variable{fn:Func}{φ:Value→World→Prop}
end
end
end Go.Eng
namespace Go.EV
open Go Go.RowKit Go.Eng
structure GVal where
 rep:(Nat→Option (Nat×Nat))→Value→Prop
 mono:∀mk mk' x,(∀L loc,mk L=some loc→mk' L=some loc)→rep mk x→rep mk' x
 one:∀mk x,rep mk x→x.oneCell'=true∧x.cells.toList=[x]
def ztw(sz n:Nat):GVal where
 rep:=fun mk x=>∃loc,mk n=some loc∧n≤loc.2∧loc.2≤maxLen∧((n≠0∧x=.slice (some ⟨loc.1,0*sz,none⟩) n (loc.2-0))∨(n=0∧loc.2=0∧x=.slice none 0 0))
 mono:=fun mk mk' x hm ⟨loc,h1,h2⟩=>⟨loc,hm n loc h1,h2⟩
 one:=fun mk x h=>by
  obtain⟨loc,_,_,_,⟨_,rfl⟩|⟨_,_,rfl⟩⟩:=h<;>exact⟨rfl,rfl⟩
structure PVal where
 rep:(Addr→Option Value)→Value→Prop
 mono:∀Z Z' x,(∀a x,Z a=some x→Z' a=some x)→rep Z x→rep Z' x
 one:∀Z x,rep Z x→x.oneCell'=true∧x.cells.toList=[x]
inductive V where
 |undef
 |no
 |int (k:IntKind) (n:Int)
 |bool (b:Bool)
 |str (l:List UInt8)
 |nilp
 |ptr (k L off:Nat)
 |vp (cs:List V) (off:Nat)
 |nils
 |sl (sz k L o n:Nat)
 |vs (sz:Nat) (els:List (List V))
 |fn (f:Nat) (first caps:List V)
 |nilf
 |agg (cs:List V)
 |tup (xs:List V)
 |nilm
 |mp (k:Nat)
 |nili
 |ifc (t:Nat) (v:V)
 |gv (k:Nat) (R:GVal)
 |pv (R:PVal)
 deriving Inhabited
abbrev M:=Nat→Nat→Option (Nat×Nat)
abbrev ZM:=Addr→Option Value
mutual
def Rep(m:Option M)(Z:ZM):V→Value→Prop
 |.undef,_=>True
 |.no,x=>x=Go.undef
 |.int k n,x=>x=.int k n
 |.bool b,x=>x=.bool b
 |.str l,x=>x=.string ⟨l.toArray⟩
 |.nilp,x=>x=.pointer none
 |.ptr k L off,x=>∃f loc,m=some f∧f k L=some loc∧x=.pointer (some ⟨loc.1,off,none⟩)
 |.vp cs off,x=>∃a:Addr,x=.pointer (some (a.add off))∧kV Z a 0 cs
 |.nils,x=>x=.slice none 0 0
 |.sl sz k L o n,x=>∃f loc,m=some f∧f k L=some loc∧o+n≤loc.2∧loc.2≤maxLen∧(x=.slice (some ⟨loc.1,o*sz,none⟩) n (loc.2-o)∨(loc.2=0∧∃A,x=.slice A 0 0)∨(0<o∧n=0∧∃A c,x=.slice A 0 c∧c≤maxLen))
 |.vs sz els,x=>∃A c,x=.slice A els.length c∧els.length≤c∧c≤maxLen∧(els=[]∨∃a,A=some a∧yH Z a sz 0 els)
 |.fn f first caps,x=>∃l1 l2:List Value,x=.func (.func f) l1.toArray l2.toArray∧zo m Z first l1∧zo m Z caps l2
 |.nilf,x=>x=.nilFunc
 |.agg cs,x=>∃l:List Value,x=.agg l.toArray∧zo m Z cs l
 |.tup xs,x=>∃l:List Value,x=.tuple l.toArray∧zo m Z xs l
 |.nilm,x=>x=.map none
 |.mp k,x=>∃f loc,m=some f∧f k 0=some loc∧x=.map (some loc.1)
 |.nili,x=>x=.nilIface
 |.ifc t v,x=>∃y,x=.iface t y∧Rep m Z v y
 |.gv k R,x=>∃f,m=some f∧R.rep (f k) x
 |.pv R,x=>R.rep Z x
def zo(m:Option M)(Z:ZM):List V→List Value→Prop
 |[],l=>l=[]
 |v::vs,l=>∃x xs,l=x::xs∧Rep m Z v x∧zo m Z vs xs
/-- The cells at a, from number j on, read as these. -/
def kV(Z:ZM)(a:Addr):Nat→List V→Prop
 |_,[]=>True
 |j,v::vs=>(∃x,Z (a.add j)=some x∧Rep none Z v x)∧kV Z a (j+1) vs
def yH(Z:ZM)(a:Addr)(sz:Nat):Nat→List (List V)→Prop
 |_,[]=>True
 |i,cs::r=>(cs.length=sz∧kV Z (a.add (i*sz)) 0 cs)∧yH Z a sz (i+1) r
end
mutual
/-- The names that a value holds. -/
def V.refs:V→List Nat
 |.ptr k _ _=>[k]
 |.sl _ k _ _ _=>[k]
 |.mp k=>[k]
 |.fn _ first caps=>yI first++yI caps
 |.agg cs=>yI cs
 |.tup xs=>yI xs
 |.ifc _ v=>v.refs
 |.gv k _=>[k]
 |_=>[]
def yI:List V→List Nat
 |[]=>[]
 |v::vs=>v.refs++yI vs
end
mutual
def V.ren(f:Nat→Nat):V→V
 |.ptr k L off=>.ptr (f k) L off
 |.sl sz k L o n=>.sl sz (f k) L o n
 |.mp k=>.mp (f k)
 |.fn g first caps=>.fn g (We f first) (We f caps)
 |.agg cs=>.agg (We f cs)
 |.tup xs=>.tup (We f xs)
 |.ifc t v=>.ifc t (v.ren f)
 |.gv k R=>.gv (f k) R
 |v=>v
def We(f:Nat→Nat):List V→List V
 |[]=>[]
 |v::vs=>v.ren f::We f vs
end
section
variable{m m':Option M}{Z Z':ZM}
mutual
theorem Rep.up'(hZ:∀a x,Z a=some x→Z' a=some x):
  ∀(v:V)(m m':Option M)(_:∀f,m=some f→∃f',m'=some f'∧∀k L loc,f k L=some loc→f' k L=some loc)(x:Value),Rep m Z v x→Rep m' Z' v x
 |.undef,m,m',hm,x,h=>trivial
 |.no,m,m',hm,x,h=>h
 |.int k n,m,m',hm,x,h=>h
 |.bool b,m,m',hm,x,h=>h
 |.str l,m,m',hm,x,h=>h
 |.nilp,m,m',hm,x,h=>h
 |.ptr k L off,m,m',hm,x,h=>by
  obtain⟨f,loc,h1,h2,h3⟩:=h;obtain⟨f',h4,h5⟩:=hm f h1;exact⟨f',loc,h4,h5 _ _ _ h2,h3⟩
 |.vp cs off,m,m',hm,x,h=>by
  obtain⟨a,h1,h2⟩:=h;exact⟨a,h1,kV.up' hZ a cs 0 h2⟩
 |.nils,m,m',hm,x,h=>h
 |.sl sz k L o n,m,m',hm,x,h=>by
  obtain⟨f,loc,h1,h2,h3⟩:=h;obtain⟨f',h4,h5⟩:=hm f h1;exact⟨f',loc,h4,h5 _ _ _ h2,h3⟩
 |.vs sz els,m,m',hm,x,h=>by
  obtain⟨A,c,h1,h2,h3,h4⟩:=h;refine⟨A,c,h1,h2,h3,?_⟩
  rcases h4 with h4|⟨a,h4,h5⟩
  ·exact .inl h4
  ·exact .inr ⟨a,h4,yH.up' hZ a sz els 0 h5⟩
 |.fn f first caps,m,m',hm,x,h=>by
  obtain⟨l1,l2,h1,h2,h3⟩:=h;exact⟨l1,l2,h1,zo.up' hZ first m m' hm l1 h2,zo.up' hZ caps m m' hm l2 h3⟩
 |.nilf,m,m',hm,x,h=>h
 |.agg cs,m,m',hm,x,h=>by
  obtain⟨l,h1,h2⟩:=h;exact⟨l,h1,zo.up' hZ cs m m' hm l h2⟩
 |.tup xs,m,m',hm,x,h=>by
  obtain⟨l,h1,h2⟩:=h;exact⟨l,h1,zo.up' hZ xs m m' hm l h2⟩
 |.nilm,m,m',hm,x,h=>h
 |.mp k,m,m',hm,x,h=>by
  obtain⟨f,loc,h1,h2,h3⟩:=h;obtain⟨f',h4,h5⟩:=hm f h1;exact⟨f',loc,h4,h5 _ _ _ h2,h3⟩
 |.nili,m,m',hm,x,h=>h
 |.ifc t v,m,m',hm,x,h=>by
  obtain⟨y,h1,h2⟩:=h;exact⟨y,h1,Rep.up' hZ v m m' hm y h2⟩
 |.gv k R,m,m',hm,x,h=>by
  obtain⟨f,h1,h2⟩:=h;obtain⟨f',h4,h5⟩:=hm f h1;exact⟨f',h4,R.mono _ _ _ (h5 k) h2⟩
 |.pv R,m,m',hm,x,h=>R.mono _ _ _ hZ h
theorem zo.up'(hZ:∀a x,Z a=some x→Z' a=some x):
  ∀(vs:List V)(m m':Option M)(_:∀f,m=some f→∃f',m'=some f'∧∀k L loc,f k L=some loc→f' k L=some loc)(l:List Value),zo m Z vs l→zo m' Z' vs l
 |[],m,m',hm,l,h=>h
 |v::vs,m,m',hm,l,h=>by
  obtain⟨x,xs,h1,h2,h3⟩:=h;exact⟨x,xs,h1,Rep.up' hZ v m m' hm x h2,zo.up' hZ vs m m' hm xs h3⟩
theorem kV.up'(hZ:∀a x,Z a=some x→Z' a=some x)(a:Addr):∀(vs:List V)(j:Nat),kV Z a j vs→kV Z' a j vs
 |[],_,_=>trivial
 |v::vs,j,h=>by
  obtain⟨⟨x,h1,h2⟩,h3⟩:=h;exact⟨⟨x,hZ _ _ h1,Rep.up' hZ v none none (fun f hf=>by cases hf) x h2⟩,kV.up' hZ a vs (j+1) h3⟩
theorem yH.up'(hZ:∀a x,Z a=some x→Z' a=some x)(a:Addr)(sz:Nat):∀(els:List (List V))(i:Nat),yH Z a sz i els→yH Z' a sz i els
 |[],_,_=>trivial
 |cs::r,i,h=>by
  obtain⟨⟨h1,h2⟩,h3⟩:=h;exact⟨⟨h1,kV.up' hZ _ cs 0 h2⟩,yH.up' hZ a sz r (i+1) h3⟩
end
theorem Rep.up{v:V}{x:Value}(hZ:∀a x,Z a=some x→Z' a=some x)(hm:∀f,m=some f→∃f',m'=some f'∧∀k L loc,f k L=some loc→f' k L=some loc)(h:Rep m Z v x):Rep m' Z' v x:=Rep.up' hZ v m m' hm x h
theorem zo.up{v:List V}{x:List Value}(hZ:∀a x,Z a=some x→Z' a=some x)(hm:∀f,m=some f→∃f',m'=some f'∧∀k L loc,f k L=some loc→f' k L=some loc)(h:zo m Z v x):zo m' Z' v x:=zo.up' hZ v m m' hm x h
mutual
/-- The names are moved. -/
theorem Rep.ren{f f':M}(σ:Nat→Nat):∀(v:V)(x:Value),(∀k∈v.refs,∀L loc,f k L=some loc→f' (σ k) L=some loc)→Rep (some f) Z v x→Rep (some f') Z (v.ren σ) x
 |.undef,x,_,h=>trivial
 |.no,x,_,h=>h
 |.int k n,x,_,h=>h
 |.bool b,x,_,h=>h
 |.str l,x,_,h=>h
 |.nilp,x,_,h=>h
 |.ptr k L off,x,hm,h=>by
  obtain⟨g,loc,h1,h2,h3⟩:=h;cases h1;exact⟨f',loc,rfl,hm k (by simp[V.refs]) _ _ h2,h3⟩
 |.vp cs off,x,_,h=>h
 |.nils,x,_,h=>h
 |.sl sz k L o n,x,hm,h=>by
  obtain⟨g,loc,h1,h2,h3⟩:=h;cases h1;exact⟨f',loc,rfl,hm k (by simp[V.refs]) _ _ h2,h3⟩
 |.vs sz els,x,_,h=>h
 |.fn g first caps,x,hm,h=>by
  obtain⟨l1,l2,h1,h2,h3⟩:=h;exact⟨l1,l2,h1,zo.ren σ first l1 (fun k hk=>hm k (by simp[V.refs,hk])) h2,zo.ren σ caps l2 (fun k hk=>hm k (by simp[V.refs,hk])) h3⟩
 |.nilf,x,_,h=>h
 |.agg cs,x,hm,h=>by
  obtain⟨l,h1,h2⟩:=h;exact⟨l,h1,zo.ren σ cs l (fun k hk=>hm k (by simpa[V.refs]using hk)) h2⟩
 |.tup xs,x,hm,h=>by
  obtain⟨l,h1,h2⟩:=h;exact⟨l,h1,zo.ren σ xs l (fun k hk=>hm k (by simpa[V.refs]using hk)) h2⟩
 |.nilm,x,_,h=>h
 |.mp k,x,hm,h=>by
  obtain⟨g,loc,h1,h2,h3⟩:=h;cases h1;exact⟨f',loc,rfl,hm k (by simp[V.refs]) _ _ h2,h3⟩
 |.nili,x,_,h=>h
 |.ifc t v,x,hm,h=>by
  obtain⟨y,h1,h2⟩:=h;exact⟨y,h1,Rep.ren σ v y (fun k hk=>hm k (by simpa[V.refs]using hk)) h2⟩
 |.gv k R,x,hm,h=>by
  obtain⟨g,h1,h2⟩:=h;cases h1;exact⟨f',rfl,R.mono _ _ _ (hm k (by simp[V.refs])) h2⟩
 |.pv R,x,hm,h=>h
theorem zo.ren{f f':M}(σ:Nat→Nat):∀(vs:List V)(l:List Value),(∀k∈yI vs,∀L loc,f k L=some loc→f' (σ k) L=some loc)→zo (some f) Z vs l→zo (some f') Z (We σ vs) l
 |[],l,_,h=>h
 |v::vs,l,hm,h=>by
  obtain⟨x,xs,h1,h2,h3⟩:=h;exact⟨x,xs,h1,Rep.ren σ v x (fun k hk=>hm k (by simp[yI,hk])) h2,zo.ren σ vs xs (fun k hk=>hm k (by simp[yI,hk])) h3⟩
end
mutual
theorem V.ren_id:∀v:V,v.ren id=v
 |.undef|.no|.int ..|.bool ..|.str ..|.nilp|.ptr ..|.vp ..|.nils|.sl ..|.vs ..|.nilf|.nilm|.mp ..|.nili|.gv ..|.pv ..=>rfl
 |.fn g first caps=>by simp only[V.ren,JZ first,JZ caps]
 |.agg cs=>by simp only[V.ren,JZ cs]
 |.tup xs=>by simp only[V.ren,JZ xs]
 |.ifc t v=>by simp only[V.ren,V.ren_id v]
theorem JZ:∀vs:List V,We id vs=vs
 |[]=>rfl
 |v::vs=>by simp only[We,V.ren_id v,JZ vs]
end
theorem Rep.swap{f f':M}{v:V}{x:Value}(hm:∀k∈v.refs,∀L loc,f k L=some loc→f' k L=some loc)(h:Rep (some f) Z v x):Rep (some f') Z v x:=by
 have:=Rep.ren (f:=f) (f':=f') id v x hm h
 rwa [V.ren_id]at this
theorem zo.swap{f f':M}{vs:List V}{l:List Value}(hm:∀k∈yI vs,∀L loc,f k L=some loc→f' k L=some loc)(h:zo (some f) Z vs l):zo (some f') Z vs l:=by
 have:=zo.ren (f:=f) (f':=f') id vs l hm h
 rwa [JZ]at this
theorem Rep.none_some{v:V}{x:Value}(h:Rep none Z v x):Rep m Z v x:=Rep.up (fun _ _ h=>h) (fun f hf=>by cases hf) h
theorem zo.none_some{vs:List V}{l:List Value}(h:zo none Z vs l):zo m Z vs l:=zo.up (fun _ _ h=>h) (fun f hf=>by cases hf) h
theorem zo.length:∀{vs:List V}{l:List Value},zo m Z vs l→l.length=vs.length
 |[],l,h=>by cases h;rfl
 |v::vs,l,h=>by
  obtain⟨x,xs,rfl,_,h3⟩:=h;simp[zo.length h3]
theorem zo.get:∀{vs:List V}{l:List Value},zo m Z vs l→∀{i:Nat}{v:V},vs[i]?=some v→∃x,l[i]?=some x∧Rep m Z v x
 |[],l,_,i,v,hv=>by simp at hv
 |u::vs,l,h,i,v,hv=>by
  obtain⟨x,xs,rfl,h2,h3⟩:=h
  cases i with
  |zero=>simp at hv;subst hv;exact⟨x,rfl,h2⟩
  |succ i=>exact zo.get h3 (i:=i) (by simpa using hv)
theorem zo.of_get:∀{vs:List V}{l:List Value},l.length=vs.length→(∀(i:Nat)(v:V)(x:Value),vs[i]?=some v→l[i]?=some x→Rep m Z v x)→zo m Z vs l
 |[],l,hl,_=>List.eq_nil_of_length_eq_zero (by simpa using hl)
 |v::vs,[],hl,_=>by simp at hl
 |v::vs,x::xs,hl,h=>⟨x,xs,rfl,h 0 v x rfl rfl,zo.of_get (by simpa using hl) (fun i u y hu hy=>h (i+1) u y (by simpa using hu) (by simpa using hy))⟩
theorem zo.append:∀{vs us:List V}{l k:List Value},zo m Z vs l→zo m Z us k→zo m Z (vs++us) (l++k)
 |[],us,l,k,h,h'=>by cases h;exact h'
 |v::vs,us,l,k,h,h'=>by
  obtain⟨x,xs,rfl,h2,h3⟩:=h;exact⟨x,xs++k,rfl,h2,zo.append h3 h'⟩
theorem zo.take{vs:List V}{l:List Value}(n:Nat)(h:zo m Z vs l):zo m Z (vs.take n) (l.take n):=by
 refine zo.of_get (by simp[h.length]) fun i v x hv hx=>?_
 rw[List.getElem?_take]at hv hx;split at hv
 ·rename_i hlt
  rw[if_pos hlt]at hx;obtain⟨y,hy,hr⟩:=h.get hv;rw[hx]at hy;cases hy;exact hr
 ·cases hv
theorem zo.drop{vs:List V}{l:List Value}(n:Nat)(h:zo m Z vs l):zo m Z (vs.drop n) (l.drop n):=by
 refine zo.of_get (by simp[h.length]) fun i v x hv hx=>?_
 rw[List.getElem?_drop]at hv hx;obtain⟨y,hy,hr⟩:=h.get hv;rw[hx]at hy;cases hy;exact hr
theorem kV.get{a:Addr}:∀{vs:List V}{j:Nat},kV Z a j vs→∀{i:Nat}{v:V},vs[i]?=some v→∃x,Z (a.add (j+i))=some x∧Rep none Z v x
 |[],j,_,i,v,hv=>by simp at hv
 |u::vs,j,h,i,v,hv=>by
  obtain⟨⟨x,h1,h2⟩,h3⟩:=h
  cases i with
  |zero=>simp at hv;subst hv;exact⟨x,h1,h2⟩
  |succ i =>
   obtain⟨y,h4,h5⟩:=kV.get h3 (i:=i) (v:=v) (by simpa using hv);exact⟨y,by rw[← h4];congr 2;omega,h5⟩
theorem kV.of_get{a:Addr}:∀{vs:List V}{j:Nat},(∀(i:Nat)(v:V),vs[i]?=some v→∃x,Z (a.add (j+i))=some x∧Rep none Z v x)→kV Z a j vs
 |[],j,_=>trivial
 |u::vs,j,h=>⟨h 0 u rfl,kV.of_get fun i v hv=>by
   obtain⟨x,h1,h2⟩:=h (i+1) v (by simpa using hv)
   exact⟨x,by rw[← h1];congr 2;omega,h2⟩⟩
theorem yH.get{a:Addr}{sz:Nat}:∀{els:List (List V)}{j:Nat},yH Z a sz j els→∀{i:Nat}{cs:List V},els[i]?=some cs→cs.length=sz∧kV Z (a.add ((j+i)*sz)) 0 cs
 |[],j,_,i,v,hv=>by simp at hv
 |u::vs,j,h,i,v,hv=>by
  obtain⟨⟨h1,h2⟩,h3⟩:=h
  cases i with
  |zero=>simp at hv;subst hv;exact⟨h1,h2⟩
  |succ i =>
   have:=yH.get h3 (i:=i) (cs:=v) (by simpa using hv);rw[show j+1+i=j+(i+1) by omega]at this;exact this
theorem yH.of_get{a:Addr}{sz:Nat}:∀{els:List (List V)}{j:Nat},(∀(i:Nat)(cs:List V),els[i]?=some cs→cs.length=sz∧kV Z (a.add ((j+i)*sz)) 0 cs)→yH Z a sz j els
 |[],j,_=>trivial
 |u::vs,j,h=>⟨h 0 u rfl,yH.of_get fun i v hv=>by
   have:=h (i+1) v (by simpa using hv);rw[show j+(i+1)=j+1+i by omega]at this
   exact this⟩
end
mutual
/-- What holds no name needs no map. -/
theorem Rep.flat{f:M}{Z:ZM}:∀(v:V)(x:Value),v.refs=[]→Rep (some f) Z v x→Rep none Z v x
 |.undef,x,_,h=>trivial
 |.no,x,_,h=>h
 |.int k n,x,_,h=>h
 |.bool b,x,_,h=>h
 |.str l,x,_,h=>h
 |.nilp,x,_,h=>h
 |.ptr k L off,x,hr,h=>by cases hr
 |.vp cs off,x,_,h=>h
 |.nils,x,_,h=>h
 |.sl sz k L o n,x,hr,h=>by cases hr
 |.vs sz els,x,_,h=>h
 |.fn g first caps,x,hr,h=>by
  obtain⟨l1,l2,h1,h2,h3⟩:=h;obtain⟨hr1,hr2⟩:=List.append_eq_nil_iff.1 hr;exact⟨l1,l2,h1,zo.flat first l1 hr1 h2,zo.flat caps l2 hr2 h3⟩
 |.nilf,x,_,h=>h
 |.agg cs,x,hr,h=>by
  obtain⟨l,h1,h2⟩:=h;exact⟨l,h1,zo.flat cs l hr h2⟩
 |.tup xs,x,hr,h=>by
  obtain⟨l,h1,h2⟩:=h;exact⟨l,h1,zo.flat xs l hr h2⟩
 |.nilm,x,_,h=>h
 |.mp k,x,hr,h=>by cases hr
 |.nili,x,_,h=>h
 |.ifc t v,x,hr,h=>by
  obtain⟨y,h1,h2⟩:=h;exact⟨y,h1,Rep.flat v y hr h2⟩
 |.gv k R,x,hr,h=>by cases hr
 |.pv R,x,hr,h=>h
theorem zo.flat{f:M}{Z:ZM}:∀(vs:List V)(l:List Value),yI vs=[]→zo (some f) Z vs l→zo none Z vs l
 |[],l,_,h=>h
 |v::vs,l,hr,h=>by
  obtain⟨x,xs,h1,h2,h3⟩:=h;obtain⟨hr1,hr2⟩:=List.append_eq_nil_iff.1 hr;exact⟨x,xs,h1,Rep.flat v x hr1 h2,zo.flat vs xs hr2 h3⟩
end
def V.one:V→Bool
 |.undef|.no|.agg _|.tup _=>false
 |_=>true
theorem Rep.one{m:Option M}{Z:ZM}{v:V}{x:Value}(h:Rep m Z v x)(h1:v.one=true):x.oneCell'=true:=by
 cases v<;>simp only[V.one,Bool.false_eq_true]at h1<;>simp only[Rep]at h
 case int=>subst h;rfl
 case bool=>subst h;rfl
 case str=>subst h;rfl
 case nilp=>subst h;rfl
 case ptr=>obtain⟨_,_,_,_,rfl⟩:=h;rfl
 case vp=>obtain⟨_,rfl,_⟩:=h;rfl
 case nils=>subst h;rfl
 case sl=>obtain⟨_,_,_,_,_,_,rfl|⟨_,_,rfl⟩|⟨_,_,_,_,rfl,_⟩⟩:=h<;>rfl
 case vs=>obtain⟨_,_,rfl,_⟩:=h;rfl
 case fn=>obtain⟨_,_,rfl,_⟩:=h;rfl
 case nilf=>subst h;rfl
 case nilm=>subst h;rfl
 case mp=>obtain⟨_,_,_,_,rfl⟩:=h;rfl
 case nili=>subst h;rfl
 case ifc=>obtain⟨_,rfl,_⟩:=h;rfl
 case gv k R=>obtain⟨_,_,h⟩:=h;first|exact(R.one _ _ h).1|exact(R.one _ _ h).2
 case pv R=>first|exact(R.one _ _ h).1|exact(R.one _ _ h).2
def V.cells:V→List V
 |.agg cs=>cs
 |v=>[v]
def V.plain:V→Bool
 |.undef|.no=>false
 |_=>true
theorem Rep.cells{m:Option M}{Z:ZM}{v:V}{x:Value}(h:Rep m Z v x)(hp:v.plain=true):zo m Z v.cells x.cells.toList:=by
 cases v<;>simp only[V.plain,Bool.false_eq_true]at hp<;>simp only[V.cells]
 case agg=>obtain⟨l,rfl,h2⟩:=h;simpa[Value.cells]using h2
 case tup=>obtain⟨l,rfl,h2⟩:=id h;exact⟨_,[],rfl,h,rfl⟩
 all_goals
  refine⟨x,[],?_,h,rfl⟩;simp only[Rep]at h
 case int=>subst h;rfl
 case bool=>subst h;rfl
 case str=>subst h;rfl
 case nilp=>subst h;rfl
 case ptr=>obtain⟨_,_,_,_,rfl⟩:=h;rfl
 case vp=>obtain⟨_,rfl,_⟩:=h;rfl
 case nils=>subst h;rfl
 case sl=>obtain⟨_,_,_,_,_,_,rfl|⟨_,_,rfl⟩|⟨_,_,_,_,rfl,_⟩⟩:=h<;>rfl
 case vs=>obtain⟨_,_,rfl,_⟩:=h;rfl
 case fn=>obtain⟨_,_,rfl,_⟩:=h;rfl
 case nilf=>subst h;rfl
 case nilm=>subst h;rfl
 case mp=>obtain⟨_,_,_,_,rfl⟩:=h;rfl
 case nili=>subst h;rfl
 case ifc=>obtain⟨_,rfl,_⟩:=h;rfl
 case gv k R=>obtain⟨_,_,h⟩:=h;first|exact(R.one _ _ h).1|exact(R.one _ _ h).2
 case pv R=>first|exact(R.one _ _ h).1|exact(R.one _ _ h).2
end Go.EV
namespace Go.Eng
open Go Go.RowKit
section
variable{P:Program}{r:Option Nat}{N:Nat}{Q:Wc}{ρ:zR}{ds:List Deferred}{w W0:World}{L:List Own}
variable{all rest:List Oper}{jl:Nat}{S:World→Prop}{K:zR→List Deferred→World→Prop}
variable{dst:Option Tmp}{ty:TypeId}{pos:String}{aft:Array Edge}{gd:Option (Nat×Bool)}
section
variable{α:Type}{enc:α→List Value}{k:Nat}{v:Value}{l:List α}
end
def zlw (P : Program) (f : FuncId) : Bool := match P.funcs[f]? with | some fn => !(fn.name == "runtime.NumGoroutine") && !fn.body.isNone | none => false
theorem zd{f:FuncId}(h:zlw P f=true):za P f:=by
 unfold zlw at h;split at h
 ·rename_i fn hf
  simp only[Bool.and_eq_true,Bool.not_eq_true']at h;exact⟨fn,hf,h.1,h.2⟩
 ·cases h
end
section
variable{P:Program}{r:Option Nat}{N:Nat}{Q:Wc}{ρ:zR}{ds:List Deferred}{w W0:World}{L:List Own}
variable{all rest:List Oper}{ty:TypeId}{pos:String}{aft:Array Edge}{gd:Option (Nat×Bool)}
end
theorem Wf(W:World)(l:Nat)(o:Obj):W.grownBy (W.putObj l o) (some l) :=
 ⟨rfl,rfl,rfl,by simp,fun _ _ hk=>World.putObj_heap_other (fun e=>hk (by rw[e]))⟩
def mark(D:Nat):Deferred:={ target:=.collected D,args:=#[] }
section
variable{P:Program}{N:Nat}{Q:Wc}{ρ:zR}{ds:List Deferred}{w:World}
end
def zqv:List Deferred→World→World→Prop
 |[],w,w'=>w'=w
 |d::ds,w,w'=>∃D,d=mark D∧w.heap[D]?=some (.deferred (some []))∧zqv ds (w.putObj D (.deferred none)) w'
section
variable{P:Program}{N:Nat}{Q:Wc}{ρ:zR}{ds:List Deferred}{w W0:World}{L:List Own}
theorem j6{fn:Func}{tmps:Array Value}{R:Ending→World→Prop}{v:Value}:∀(ds:List Deferred)(w w':World),zqv ds w w'→(results fn tmps).run P w'=.ok v w'→R (.returned v) w'→LeavesInM Fence.wide 0 P fn tmps R ds .returning w
 |[],w,w',ht,hr,hR=>by
  subst ht;exact⟨v,hr,hR⟩
 |d::ds,w,w',⟨D,hd,hh,ht⟩,hr,hR=>by
  subst hd;exact⟨by simp,.inl ⟨D,_,rfl,run_takeDeferred hh,j6 ds _ w' ht hr hR⟩⟩
variable{r:Option Nat}{all rest:List Oper}{ty:TypeId}{pos:String}{aft:Array Edge}{gd:Option (Nat×Bool)}
end
end Go.Eng
namespace Go.EV
open Go Go.RowKit Go.Eng
def zzv:Go.Obj→Bool|.loop _|.deferred _=>true|_=>false
structure zEi where
 holds:(Nat→Option (Nat×Nat))→ZM→World→Prop
 blks:(Nat→Option (Nat×Nat))→Nat→Prop
 some_:∀mk b,blks mk b→∃j c,mk j=some (b,c)∧c≠0
 own:∀mk Z w b,holds mk Z w→blks mk b→∃ob,w.heap[b]?=some ob∧zzv ob=false
 keep:∀mk Z Z' w w',holds mk Z w→(∀a x,Z a=some x→Z' a=some x)→(∀b,blks mk b→w'.heap[b]?=w.heap[b]?∧∀a x,Z' a=some x→a.block=b→Z a=some x)→holds mk Z' w'
inductive Obj where
 |box (t:TypeId) (cs:List V)
 |row (t:TypeId) (sz fz:Nat) (els:List (List V))
 |map (l:List (V×V))
 |glob (g:Nat) (ob:Go.Obj) (cs:List V)
 |nest (t e sz:Nat) (pd:Option Nat) (ls:List (List (List V)))
 |gen (G:zEi)
 deriving Inhabited
def code(i n:Nat):Nat:=2 ^ i*(2*n+1)
def Obj.ver:Obj→Nat|.row _ _ _ els=>els.length|_=>0
abbrev Heap:=List (Nat×Obj)
def keys(H:Heap):List Nat:=H.map (·.1)
def jI(m:M)(p:Nat×Obj):Option Nat:=(m p.1 p.2.ver).bind fun loc=>if loc.2=0 then none else some loc.1
def blkN(mk:Nat→Option (Nat×Nat))(ls:List (List (List V)))(b:Nat):Prop:=∃j c,mk j=some (b,c)∧c≠0∧(j=0∨∃i l,ls[i]?=some l∧j=code i l.length)
def blk(m:M)(p:Nat×Obj)(b:Nat):Prop:=match p.2 with
 |.nest _ _ _ _ ls=>blkN (m p.1) ls b
 |.gen G=>G.blks (m p.1) b
 |_=>jI m p=some b
theorem zaf{m m':M}{p:Nat×Obj}(h:m' p.1=m p.1):blk m' p=blk m p:=by
 obtain⟨k,o⟩:=p;simp only at h
 funext b
 cases o<;>simp only[blk,jI,h]
theorem zqw{m:M}{p:Nat×Obj}{b:Nat}(h:blk m p b):∃j c,m p.1 j=some (b,c)∧c≠0:=by
 obtain⟨k,o⟩:=p
 have one:jI m (k,o)=some b→∃j c,m k j=some (b,c)∧c≠0:=fun h=>by
  unfold jI at h;obtain⟨loc,e1,e2⟩:=Option.bind_eq_some_iff.1 h;split at e2
  ·cases e2
  ·rename_i hc;cases e2;exact⟨_,loc.2,e1,hc⟩
 cases o with
 |nest t e sz pd ls=>obtain⟨j,c,e1,e2,_⟩:=h;exact⟨j,c,e1,e2⟩
 |gen G=>exact G.some_ _ _ h
 |box t cs=>exact one h
 |row t sz fz els=>exact one h
 |map l=>exact one h
 |glob g ob cs=>exact one h
def Heap.get:Heap→Nat→Option Obj
 |[],_=>none
 |(k,o)::r,j=>bif Nat.beq j k then some o else Heap.get r j
def zja(Z:ZM):List (V×V)→List MapEntry→Prop
 |[],l=>l=[]
 |(k,v)::r,l=>∃e es,l=e::es∧Rep none Z k e.key∧Rep none Z v e.val∧zja Z r es
def zzw(mk:Nat→Option (Nat×Nat))(Z:ZM)(w:World)(e sz i:Nat)(l:List (List V))(h:Option Value):Prop :=
 (l=[]∧h=some (.slice none 0 0)∧mk (code i 0)=none)∨∃(b cap:Nat)(cur:Array Value)(fr:Nat×Nat),h=some (.slice (some ⟨b,0,none⟩) l.length cap)∧mk (code i l.length)=some (b,cap)∧0<l.length∧w.heap[b]?=some (.cells cur e fr)∧fr.2=0∧l.length≤cap∧cap≤maxLen ∧
  cur.size=cap*sz∧zo none Z l.flatten (cur.toList.take (l.length*sz))∧(∀x∈l,x.length=sz)∧∀a x,Z a=some x→a.block≠b
def jd(mk:Nat→Option (Nat×Nat))(Z:ZM)(w:World)(t e sz:Nat)(pd:Option Nat)(ls:List (List (List V))):Prop :=
 (ls=[]∧pd=some 0∧∀b c,mk 0=some (b,c)→c≠0→∃cur u fr,w.heap[b]?=some (.cells cur u fr))∨0<sz∧((ls=[]∧(∃b,mk 0=some (b,0))∧∀L loc,mk L=some loc→L=0)∨∃(b cap:Nat)(cur:Array Value)(fr:Nat×Nat),mk 0=some (b,cap)∧0<cap∧w.heap[b]?=some (.cells cur t fr)∧fr.2=0∧cur.size=cap∧ls.length=cap∧cap≤maxLen∧(∀a x,Z a=some x→a.block≠b) ∧
  (∀i l,ls[i]?=some l→∃h,zzw mk Z w e sz i l (some h)∧(pd≠some i→cur[i]?=some h)) ∧
  (∀j1 j2 c1 c2 g,mk j1=some (g,c1)→mk j2=some (g,c2)→(j1=0∨∃i l,ls[i]?=some l∧j1=code i l.length)→(j2=0∨∃i l,ls[i]?=some l∧j2=code i l.length)→c1≠0→c2≠0→j1=j2) ∧
  ∀L loc,mk L=some loc→L=0∨∃i n l,ls[i]?=some l∧n≤l.length∧L=code i n)
def Holds(m:M)(Z:ZM)(w:World)(k:Nat):Obj→Prop
 |.box t cs=>∃(b:Nat)(cur:Array Value),m k 0=some (b,1)∧w.heap[b]?=some (.cells cur t (0,0))∧zo (some m) Z cs cur.toList∧(∀a x,Z a=some x→a.block≠b)∧(∀L loc,m k L=some loc→L≤0)
 |.row t sz fz els=>(0<sz∧els=[]∧fz=0∧(∃b,m k 0=some (b,0))∧(∀L loc,m k L=some loc→L≤0))∨∃(b cap:Nat)(cur:Array Value)(fr:Nat×Nat),m k els.length=some (b,cap)∧0<cap∧w.heap[b]?=some (.cells cur t fr)∧els.length≤cap∧cap≤maxLen∧cur.size=cap*sz∧0<sz ∧
   zo none Z els.flatten (cur.toList.take (els.length*sz))∧(∀e∈els,e.length=sz)∧fr.2≤fz*sz∧fz≤els.length∧(∀a x,Z a=some x→a.block=b→a.off<fz*sz)∧(∀L loc,m k L=some loc→L≤els.length)∧(∀(off:Nat)(x:Value),off<fz*sz→cur[off]?=some x→Z ⟨b,off,none⟩=some x)
 |.map l=>∃(b:Nat)(es:Array MapEntry)(clock:Nat),m k 0=some (b,1)∧w.heap[b]?=some (.map es clock)∧zja Z l es.toList∧(es.toList.Pairwise fun x y=>x.born<y.born)∧(∀e∈es.toList,e.born<clock)∧(∀a x,Z a=some x→a.block≠b)∧(∃L0,∀L loc,m k L=some loc→L≤L0)
 |.glob g ob cs=>m k 0=some (g,1)∧(w.heap[g]?=some ob∧∃cur u fr,ob=.cells cur u fr∧zo none Z cs cur.toList)∧∀L loc,m k L=some loc→L≤0
 |.nest t e sz pd ls=>jd (m k) Z w t e sz pd ls
 |.gen G=>G.holds (m k) Z w
theorem jd.own{mk:Nat→Option (Nat×Nat)}{Z:ZM}{w:World}{t e sz:Nat}{pd:Option Nat}{ls:List (List (List V))}(h:jd mk Z w t e sz pd ls){b:Nat}(hb:blkN mk ls b):∃cur u fr,w.heap[b]?=some (.cells cur u fr):=by
 obtain⟨rfl,_,hd⟩|⟨_,⟨rfl,⟨b0,h1⟩,_⟩|⟨b0,cap,cur,fr,h1,h2,h3,_,_,_,_,_,h9,_⟩⟩:=h
 ·obtain⟨j,c,e1,e2,rfl|⟨i,l,e3,rfl⟩⟩:=hb
  ·exact hd b c e1 e2
  ·simp at e3
 ·obtain⟨j,c,e1,e2,rfl|⟨i,l,e3,rfl⟩⟩:=hb
  ·rw[h1]at e1;cases e1;exact absurd rfl e2
  ·simp at e3
 ·obtain⟨j,c,e1,e2,rfl|⟨i,l,e3,rfl⟩⟩:=hb
  ·rw[h1]at e1;cases e1;exact⟨_,_,_,h3⟩
  ·obtain⟨hd,hI,_⟩:=h9 i l e3
   rcases hI with⟨rfl,_,e4⟩|⟨b',cap',cur',fr',_,g2,_,g4,_⟩
   ·rw[List.length_nil,e4]at e1;cases e1
   ·rw[g2]at e1;cases e1;exact⟨_,_,_,g4⟩
theorem jd.keep{mk:Nat→Option (Nat×Nat)}{Z Z':ZM}{w w':World}{t e sz:Nat}{pd:Option Nat}{ls:List (List (List V))}(h:jd mk Z w t e sz pd ls)(hZ:∀a x,Z a=some x→Z' a=some x)
  (hw:∀b,blkN mk ls b→w'.heap[b]?=w.heap[b]?∧∀a x,Z' a=some x→a.block=b→Z a=some x):jd mk Z' w' t e sz pd ls:=by
 obtain⟨rfl,rfl,hd⟩|⟨h0,hh|⟨b0,cap,cur,fr,h1,h2,h3,h4,h5,h6,h7,h8,h9,h10,h11⟩⟩:=h
 ·refine .inl ⟨rfl,rfl,fun b c e1 e2=>?_⟩
  obtain⟨cur,u,fr,h3⟩:=hd b c e1 e2;exact⟨cur,u,fr,(hw b ⟨0,c,e1,e2,.inl rfl⟩).1.trans h3⟩
 ·exact .inr ⟨h0,.inl hh⟩
 ·obtain⟨hw0,hz0⟩:=hw b0 ⟨0,cap,h1,by omega,.inl rfl⟩
  refine .inr ⟨h0,.inr ⟨b0,cap,cur,fr,h1,h2,hw0.trans h3,h4,h5,h6,h7,fun a x ha e=>h8 a x (hz0 a x ha e) e,fun i l hl=>?_,h10,h11⟩⟩;obtain⟨hd,hI,hc⟩:=h9 i l hl;refine⟨hd,?_,hc⟩
  rcases hI with hh|⟨b',cap',cur',fr',g1,g2,g3,g4,g5,g6,g7,g8,g9,g10,g11⟩
  ·exact .inl hh
  ·obtain⟨hw1,hz1⟩:=hw b' ⟨_,cap',g2,by omega,.inr ⟨i,l,hl,rfl⟩⟩
   exact .inr ⟨b',cap',cur',fr',g1,g2,g3,hw1.trans g4,g5,g6,g7,g8,g9.up hZ (fun f e=>by cases e),g10,fun a x ha e=>g11 a x (hz1 a x ha e) e⟩
structure xx(m:M)(Z:ZM)(H:Heap)(w:World):Prop where
 frozen:∀a x,Z a=some x→w.cell? a=some x
 holds:∀p∈H,Holds m Z w p.1 p.2
 nodup:(keys H).Nodup
 disj:∀p∈H,∀q∈H,∀b,blk m p b→blk m q b→p.1=q.1
structure Step(m:M)(Z:ZM)(F:Heap)(w:World)(m':M)(Z':ZM)(F':Heap)(w':World):Prop where
 sim:xx m' Z' F' w'
 mext:∀k L loc,m k L=some loc→m' k L=some loc
 zext:∀a x,Z a=some x→Z' a=some x
 os:w'.os=w.os
 tape:w'.tape=w.tape
 output:w'.output=w.output
 size:w.heap.size≤w'.heap.size
 frame:∀b,b<w.heap.size→(∀p∈F,¬blk m p b)→w'.heap[b]?=w.heap[b]?
 keep:∀k∈keys F,k∈keys F'
 newk:∀k,k ∉ keys F'→m' k=m k
 blks:∀p∈F',∀b,blk m' p b→w.heap.size≤b∨∃q∈F,blk m q b
 znew:∀a x,Z' a=some x→Z a=some x∨w.heap.size≤a.block∨∃q∈F,blk m q a.block
theorem Holds.blk{m:M}{Z:ZM}{w:World}{k:Nat}{o:Obj}(h:Holds m Z w k o):∀b,EV.blk m (k,o) b→b<w.heap.size:=by
 intro b' hb'
 cases o with
 |box t cs =>
  obtain⟨b,cur,h1,h2,_⟩:=h;simp[EV.blk,EV.jI,Obj.ver,h1]at hb';subst hb';exact(Array.getElem?_eq_some_iff.1 h2).1
 |row t sz fz els =>
  rcases h with⟨_,rfl,_,⟨b,h1⟩,_⟩|⟨b,cap,cur,fr,h1,h0,h2,_⟩
  ·simp[EV.blk,EV.jI,Obj.ver,h1]at hb'
  ·have:cap≠0:=by omega
   simp[EV.blk,EV.jI,Obj.ver,h1,this]at hb';subst hb';exact(Array.getElem?_eq_some_iff.1 h2).1
 |map l =>
  obtain⟨b,es,clock,h1,h2,_⟩:=h;simp[EV.blk,EV.jI,Obj.ver,h1]at hb';subst hb';exact(Array.getElem?_eq_some_iff.1 h2).1
 |glob g ob cs =>
  obtain⟨h1,⟨h2,_⟩,_⟩:=h;simp[EV.blk,EV.jI,Obj.ver,h1]at hb';subst hb';exact(Array.getElem?_eq_some_iff.1 h2).1
 |nest t e sz pd ls =>
  obtain⟨cur,u,fr,h2⟩:=jd.own h hb';exact(Array.getElem?_eq_some_iff.1 h2).1
 |gen G =>
  obtain⟨ob,h2,_⟩:=G.own _ _ _ _ h hb';exact(Array.getElem?_eq_some_iff.1 h2).1
theorem Holds.notLp{m:M}{Z:ZM}{w:World}{k:Nat}{o:Obj}(h:Holds m Z w k o):∀b,EV.blk m (k,o) b→∃ob,w.heap[b]?=some ob∧zzv ob=false:=by
 intro b' hb'
 cases o with
 |box t cs =>
  obtain⟨b,cur,h1,h2,_⟩:=h;simp[EV.blk,EV.jI,Obj.ver,h1]at hb';subst hb';exact⟨_,h2,rfl⟩
 |row t sz fz els =>
  rcases h with⟨_,rfl,_,⟨b,h1⟩,_⟩|⟨b,cap,cur,fr,h1,h0,h2,_⟩
  ·simp[EV.blk,EV.jI,Obj.ver,h1]at hb'
  ·have:cap≠0:=by omega
   simp[EV.blk,EV.jI,Obj.ver,h1,this]at hb';subst hb';exact⟨_,h2,rfl⟩
 |map l =>
  obtain⟨b,es,clock,h1,h2,_⟩:=h;simp[EV.blk,EV.jI,Obj.ver,h1]at hb';subst hb';exact⟨_,h2,rfl⟩
 |glob g ob cs =>
  obtain⟨h1,⟨h2,cur,u,fr,rfl,_⟩,_⟩:=h;simp[EV.blk,EV.jI,Obj.ver,h1]at hb';subst hb';exact⟨_,h2,rfl⟩
 |nest t e sz pd ls =>
  obtain⟨cur,u,fr,h2⟩:=jd.own h hb';exact⟨_,h2,rfl⟩
 |gen G=>exact G.own _ _ _ _ h hb'
theorem zja.up{Z Z':ZM}(hZ:∀a x,Z a=some x→Z' a=some x):∀{l:List (V×V)}{es:List MapEntry},zja Z l es→zja Z' l es
 |[],_,h=>h
 |(k,v)::r,_,h=>by
  obtain⟨e,es,h1,h2,h3,h4⟩:=h;exact⟨e,es,h1,h2.up hZ (fun f hf=>by cases hf),h3.up hZ (fun f hf=>by cases hf),zja.up hZ h4⟩
theorem Holds.keep{m m':M}{Z Z':ZM}{w w':World}{k:Nat}{o:Obj}(h:Holds m Z w k o)(hm:∀k L loc,m k L=some loc→m' k L=some loc)(hk:m' k=m k)
  (hZ:∀a x,Z a=some x→Z' a=some x) (hw:∀b,EV.blk m (k,o) b→w'.heap[b]?=w.heap[b]?∧∀a x,Z' a=some x→a.block=b→Z a=some x):Holds m' Z' w' k o:=by
 have hf:∀f,some m=some f→∃f',some m'=some f'∧∀k L loc,f k L=some loc→f' k L=some loc:=fun f e=>by cases e;exact⟨m',rfl,hm⟩
 cases o with
 |box t cs =>
  obtain⟨b',cur,h1,h2,h3,h4,h5⟩:=h;obtain⟨hw,hz⟩:=hw b' (by simp[EV.blk,EV.jI,Obj.ver,h1]);exact⟨b',cur,by rw[hk];exact h1,hw.trans h2,h3.up hZ hf,fun a x ha e=>h4 a x (hz a x ha e) e,by rw[hk];exact h5⟩
 |row t sz fz els =>
  rcases h with⟨h0,h1,h2,⟨b,h3⟩,h4⟩|⟨b',cap,cur,fr,h1,h0,h2,h3,h4,h5,h6,h7,h8,h9,h10,h11,h12,h13⟩
  ·exact .inl ⟨h0,h1,h2,⟨b,by rw[hk];exact h3⟩,by rw[hk];exact h4⟩
  ·have:cap≠0:=by omega
   obtain⟨hw,hz⟩:=hw b' (by simp[EV.blk,EV.jI,Obj.ver,h1,this]);exact .inr ⟨b',cap,cur,fr,by rw[hk];exact h1,h0,hw.trans h2,h3,h4,h5,h6,h7.up hZ (fun f e=>by cases e),h8,h9,h10,fun a x ha e=>h11 a x (hz a x ha e) e,by rw[hk];exact h12,fun off x ho hx=>hZ _ _ (h13 off x ho hx)⟩
 |map l =>
  obtain⟨b',es,clock,h1,h2,h3,h4,h5,h6,h7⟩:=h;obtain⟨hw,hz⟩:=hw b' (by simp[EV.blk,EV.jI,Obj.ver,h1]);exact⟨b',es,clock,by rw[hk];exact h1,hw.trans h2,h3.up hZ,h4,h5,fun a x ha e=>h6 a x (hz a x ha e) e,by rw[hk];exact h7⟩
 |glob g ob cs =>
  obtain⟨h1,⟨h2,cur,u,fr,h5,h3⟩,h4⟩:=h;exact⟨by rw[hk];exact h1,⟨(hw g (by simp[EV.blk,EV.jI,Obj.ver,h1])).1.trans h2,cur,u,fr,h5,h3.up hZ (fun f e=>by cases e)⟩,by rw[hk];exact h4⟩
 |nest t e sz pd ls =>
  show jd (m' k) Z' w' t e sz pd ls
  rw[hk];exact jd.keep h hZ hw
 |gen G =>
  show G.holds (m' k) Z' w'
  rw[hk];exact G.keep _ _ _ _ _ h hZ hw
section
variable{m m' m2:M}{Z Z' Z2:ZM}{F F' F2 G H:Heap}{w w' w2:World}
theorem mem_keys{p:Nat×Obj}(h:p∈H):p.1∈keys H:=List.mem_map_of_mem h
theorem zm:keys (F++G)=keys F++keys G:=by simp[keys]
theorem xx.left(h:xx m Z (F++G) w):xx m Z F w :=
  ⟨h.frozen,fun p hp=>h.holds p (List.mem_append_left _ hp),by have:=h.nodup;rw[zm]at this;exact(List.nodup_append.1 this).1,
   fun p hp q hq b=>h.disj p (List.mem_append_left _ hp) q (List.mem_append_left _ hq) b⟩
theorem xx.perm(h:xx m Z F w)(hp:F.Perm F'):xx m Z F' w :=
 ⟨h.frozen,fun p hq=>h.holds p (hp.mem_iff.2 hq),(hp.map _).nodup_iff.1 h.nodup,fun p hq q hr=>h.disj p (hp.mem_iff.2 hq) q (hp.mem_iff.2 hr)⟩
theorem Av(h:(keys (F++G)).Nodup){p q:Nat×Obj}(hp:p∈F)(hq:q∈G):p.1≠q.1:=by
 rw[zm]at h;exact(List.nodup_append.1 h).2.2 _ (mem_keys hp) _ (mem_keys hq)
theorem Step.frame_rule(hs:xx m Z (F++G) w)(h:Step m Z F w m' Z' F' w')(hap:∀p∈F',∀q∈G,p.1≠q.1):Step m Z (F++G) w m' Z' (F'++G) w':=by
 have hblkG:∀q∈G,∀b,blk m q b→b<w.heap.size∧∀p∈F,¬blk m p b:=fun q hq b hb=>by
  exact⟨(hs.holds q (List.mem_append_right _ hq)).blk b hb,fun p hp hpb=>Av hs.nodup hp hq (hs.disj p (List.mem_append_left _ hp) q (List.mem_append_right _ hq) b hpb hb)⟩
 have hkG:∀q∈G,m' q.1=m q.1:=fun q hq=>h.newk _ fun hk=>by
  obtain⟨p,hp,e⟩:=List.mem_map.1 hk;exact hap p hp q hq e
 have hbG:∀q∈G,blk m' q=blk m q:=fun q hq=>zaf (hkG q hq)
 have hholdG:∀q∈G,Holds m' Z' w' q.1 q.2:=fun q hq=>by
  refine(hs.holds q (List.mem_append_right _ hq)).keep h.mext (hkG q hq) h.zext fun b h1=>?_
  have h3:=hblkG q hq b h1;refine⟨h.frame b h3.1 h3.2,fun a x ha e=>?_⟩
  rcases h.znew a x ha with h'|h'|⟨p,hp,hpb⟩
  ·exact h'
  ·omega
  ·rw[e]at hpb;exact absurd hpb (h3.2 p hp)
 refine⟨⟨h.sim.frozen,fun p hp=>?_,?_,fun p hp q hq b h1 h2=>?_⟩,h.mext,h.zext,h.os,h.tape,h.output,h.size,fun b hb hn=>h.frame b hb fun p hp=>hn p (List.mem_append_left _ hp),fun k hk=>?_,fun k hk=>?_,fun p hp b hb=>?_,fun a x ha=>?_⟩
 ·rcases List.mem_append.1 hp with hp|hp
  ·exact h.sim.holds p hp
  ·exact hholdG p hp
 ·rw[zm]
  refine List.nodup_append.2 ⟨h.sim.nodup,?_,fun a ha b hb=>?_⟩
  ·have:=hs.nodup
   rw[zm]at this;exact(List.nodup_append.1 this).2.1
  ·obtain⟨p,hp,rfl⟩:=List.mem_map.1 ha
   obtain⟨q,hq,rfl⟩:=List.mem_map.1 hb;exact hap p hp q hq
 ·have key:∀p∈F',∀q∈G,blk m' p b→blk m' q b→False:=fun p hp q hq hpb hqb=>by
   rw[hbG q hq]at hqb;have h3:=hblkG q hq b hqb
   rcases h.blks p hp b hpb with h'|⟨r,hr,hrb⟩
   ·omega
   ·exact h3.2 r hr hrb
  rcases List.mem_append.1 hp with hp|hp<;>rcases List.mem_append.1 hq with hq|hq
  ·exact h.sim.disj p hp q hq b h1 h2
  ·exact(key p hp q hq h1 h2).elim
  ·exact(key q hq p hp h2 h1).elim
  ·rw[hbG p hp]at h1
   rw[hbG q hq]at h2;exact hs.disj p (List.mem_append_right _ hp) q (List.mem_append_right _ hq) b h1 h2
 ·rw[zm,List.mem_append]at hk ⊢
  exact hk.imp (h.keep k) id
 ·rw[zm,List.mem_append,not_or]at hk
  exact h.newk k hk.1
 ·rcases List.mem_append.1 hp with hp|hp
  ·exact(h.blks p hp b hb).imp id fun⟨q,hq,e⟩=>⟨q,List.mem_append_left _ hq,e⟩
  ·exact .inr ⟨p,List.mem_append_right _ hp,by rw[← hbG p hp];exact hb⟩
 ·exact(h.znew a x ha).imp id (Or.imp id fun⟨q,hq,e⟩=>⟨q,List.mem_append_left _ hq,e⟩)
theorem Step.trans(h:Step m Z F w m' Z' F' w')(k:Step m' Z' F' w' m2 Z2 F2 w2):Step m Z F w m2 Z2 F2 w2:=by
 refine⟨k.sim,fun _ _ _ e=>k.mext _ _ _ (h.mext _ _ _ e),fun _ _ e=>k.zext _ _ (h.zext _ _ e),k.os.trans h.os,k.tape.trans h.tape,k.output.trans h.output,Nat.le_trans h.size k.size,fun b hb hn=>?_,
  fun a ha=>k.keep a (h.keep a ha),fun a ha=>(k.newk a ha).trans (h.newk a fun h'=>ha (k.keep a h')),fun p hp b hb=>?_,fun a x ha=>?_⟩
 ·rw[k.frame b (by have:=h.size;omega) fun p hp e=>?_,h.frame b hb hn]
  rcases h.blks p hp b e with h'|⟨q,hq,e'⟩
  ·omega
  ·exact hn q hq e'
 ·rcases k.blks p hp b hb with h'|⟨q,hq,e'⟩
  ·exact .inl (by have:=h.size;omega)
  ·exact h.blks q hq b e'
 ·rcases k.znew a x ha with h'|h'|⟨q,hq,e'⟩
  ·exact h.znew a x h'
  ·exact .inr (.inl (by have:=h.size;omega))
  ·exact .inr (h.blks q hq _ e')
theorem Step.refl(h:xx m Z F w):Step m Z F w m Z F w :=
 ⟨h,fun _ _ _ e=>e,fun _ _ e=>e,rfl,rfl,rfl,Nat.le_refl _,fun _ _ _=>rfl,fun _ h=>h,fun _ _=>rfl,fun p hp b hb=>.inr ⟨p,hp,hb⟩,fun _ _ h=>.inl h⟩
theorem Step.permL(h:Step m Z F w m' Z' F' w')(hp:F.Perm F2):Step m Z F2 w m' Z' F' w' :=
  ⟨h.sim,h.mext,h.zext,h.os,h.tape,h.output,h.size,fun b hb hn=>h.frame b hb fun p hq=>hn p (hp.mem_iff.1 hq),fun k hk=>h.keep k ((hp.map _).mem_iff.2 hk),h.newk,
   fun p hq b hb=>(h.blks p hq b hb).imp id fun⟨q,hr,e⟩=>⟨q,hp.mem_iff.1 hr,e⟩,fun a x ha=>(h.znew a x ha).imp id (Or.imp id fun⟨q,hr,e⟩=>⟨q,hp.mem_iff.1 hr,e⟩)⟩
theorem Step.permR(h:Step m Z F w m' Z' F' w')(hp:F'.Perm F2):Step m Z F w m' Z' F2 w' :=
  ⟨h.sim.perm hp,h.mext,h.zext,h.os,h.tape,h.output,h.size,h.frame,fun k hk=>(hp.map _).mem_iff.1 (h.keep k hk),fun k hk=>h.newk k fun h'=>hk ((hp.map _).mem_iff.1 h'),
   fun p hq=>h.blks p (hp.mem_iff.2 hq),h.znew⟩
theorem Step.same(h:xx m Z F w)(hh:w'.heap=w.heap)(h1:w'.os=w.os)(h2:w'.tape=w.tape)(h3:w'.output=w.output):Step m Z F w m Z F w':=by
 refine⟨⟨fun a x ha=>?_,fun p hp=>?_,h.nodup,h.disj⟩,fun _ _ _ e=>e,fun _ _ e=>e,h1,h2,h3,by rw[hh];exact Nat.le_refl _,fun _ _ _=>by rw[hh],fun _ h=>h,fun _ _=>rfl,fun p hp b hb=>.inr ⟨p,hp,hb⟩,fun _ _ h=>.inl h⟩
 ·have:=h.frozen a x ha
  simpa only[World.cell?,hh]using this
 ·exact(h.holds p hp).keep (fun _ _ _ e=>e) rfl (fun _ _ e=>e) fun b _=>⟨by rw[hh],fun _ _ e _=>e⟩
end
abbrev Env:=List (Nat×V)
def Env.get:Env→Nat→V
 |[],_=>.undef
 |(d,v)::r,t=>bif Nat.beq t d then v else Env.get r t
def zeb(m:M)(Z:ZM)(ρ:Env)(ρr:zR):Prop:=∀t,Rep (some m) Z (ρ.get t) (ρr t)
structure Ctx(K0:List Nat) where
 base:List Deferred
 W0:World
 m0:M
 Z0:ZM
 F0:Heap
 hk:keys F0=K0
 dom0:∀k,k ∉ K0→∀L,m0 k L=none
structure YS{K0:List Nat}(c:Ctx K0)(m:M)(Z:ZM)(H:Heap)(w:World):Prop where
 step:Step c.m0 c.Z0 c.F0 c.W0 m Z H w
 dom:∀k,k ∉ keys H→∀L,m k L=none
def JX{K0:List Nat}(c:Ctx K0)(ρ:Env)(H:Heap)(ρr:zR)(w:World):Prop:=∃m Z,YS c m Z H w∧zeb m Z ρ ρr
theorem Step.lp{m m':M}{Z Z':ZM}{F F':Heap}{w w':World}(hs:xx m Z F w)(h:Step m Z F w m' Z' F' w'){b:Nat}{ob:Go.Obj}(hb:w.heap[b]?=some ob)(hl:zzv ob=true):w'.heap[b]?=some ob:=by
 rw[h.frame b (Array.getElem?_eq_some_iff.1 hb).1 fun p hp e=>?_,hb];obtain⟨ob',h1,h2⟩:=(hs.holds p hp).notLp b e;rw[hb]at h1;cases h1;rw[hl]at h2;cases h2
def yJ{K0:List Nat}(c:Ctx K0)(ds:List Deferred)(w:World):Prop:=∃Ds:List (Nat⊕Deferred),ds=Ds.map (Sum.elim Eng.mark id)∧Ds.filterMap Sum.getRight?=c.base∧(Ds.filterMap Sum.getLeft?).Nodup∧(∀D∈Ds.filterMap Sum.getLeft?,w.heap[D]?=some (.deferred (some []))∧c.W0.heap.size≤D)∧∀d∈c.base,∀D,d.target≠.collected D
theorem yJ.nil{K0:List Nat}{c:Ctx K0}{w:World}(hb:c.base=[]):yJ c [] w:=⟨[],rfl,hb.symm,List.nodup_nil,fun _ h=>(by cases h),fun d hd=>(by rw[hb]at hd;cases hd)⟩
theorem yJ.marks{K0:List Nat}{c:Ctx K0}{ds:List Deferred}{w:World}(h:yJ c ds w)(hb:c.base=[]):∃Ds:List Nat,ds=Ds.map Eng.mark∧Ds.Nodup∧∀D∈Ds,w.heap[D]?=some (.deferred (some []))∧c.W0.heap.size≤D:=by
 obtain⟨l,h1,h2,h3,h4,_⟩:=h;rw[hb]at h2;refine⟨l.filterMap Sum.getLeft?,?_,h3,h4⟩;subst h1;clear h3 h4 hb
 induction l with
 |nil=>rfl
 |cons x l ih =>
  cases x with
  |inl D=>simp only[List.filterMap_cons,Sum.getRight?,Sum.getLeft?,List.map_cons,Sum.elim_inl]at h2 ⊢;rw[ih h2]
  |inr d=>simp[List.filterMap_cons]at h2
theorem yJ.step{K0:List Nat}{c:Ctx K0}{ds:List Deferred}{m m':M}{Z Z':ZM}{F F':Heap}{w w':World}(h:yJ c ds w)(hs:xx m Z F w)(st:Step m Z F w m' Z' F' w'):yJ c ds w':=by
 obtain⟨Ds,h1,hb,h2,h3,h4⟩:=h;exact⟨Ds,h1,hb,h2,fun D hD=>⟨st.lp hs (h3 D hD).1 rfl,(h3 D hD).2⟩,h4⟩
theorem yJ.same{K0:List Nat}{c:Ctx K0}{ds:List Deferred}{w w':World}(h:yJ c ds w)(hh:w'.heap=w.heap):yJ c ds w':=by
 obtain⟨Ds,h1,hb,h2,h3,h4⟩:=h;exact⟨Ds,h1,hb,h2,fun D hD=>by rw[hh];exact h3 D hD,h4⟩
theorem YS.lps{K0:List Nat}{c:Ctx K0}{m:M}{Z:ZM}{H:Heap}{w w':World}{row:Option Nat}(S:YS c m Z H w)(hg:w.grownBy w' row)(hr:∀b,row=some b→c.W0.heap.size≤b∧∃o,w.heap[b]?=some o∧zzv o=true):YS c m Z H w':=by
 have hs:=S.step
 have hblk:∀p∈H,∀b,blk m p b→w'.heap[b]?=w.heap[b]?:=fun p hp b hb=>by
  obtain⟨ob,h1,h2⟩:=(hs.sim.holds p hp).notLp b hb
  refine hg.block b (Array.getElem?_eq_some_iff.1 h1).1 fun e=>?_
  obtain⟨_,o,h3,h4⟩:=hr b e.symm;rw[h1]at h3;cases h3;rw[h4]at h2;cases h2
 have hz:∀a x,Z a=some x→w'.cell? a=w.cell? a:=fun a x ha=>by
  have h1:=hs.sim.frozen a x ha;have h2:=World.block_lt_of_cell? w a h1
  have:w'.heap[a.block]?=w.heap[a.block]?:=by
   refine hg.block _ h2 fun e=>?_
   obtain⟨_,o,h3,h4⟩:=hr _ e.symm;simp only[World.cell?,h3]at h1;cases o<;>simp[zzv]at h4<;>cases h1
  simp only[World.cell?,this]
 refine⟨⟨⟨fun a x ha=>(hz a x ha).trans (hs.sim.frozen a x ha),fun p hp=>(hs.sim.holds p hp).keep (fun _ _ _ e=>e) rfl (fun _ _ e=>e) fun b hb=>⟨hblk p hp b hb,fun _ _ e _=>e⟩,hs.sim.nodup,hs.sim.disj⟩,hs.mext,hs.zext,hg.os.trans hs.os,hg.tape.trans hs.tape,hg.output.trans hs.output,Nat.le_trans hs.size hg.size,fun b hb hn=>?_,hs.keep,hs.newk,hs.blks,hs.znew⟩,S.dom⟩;rw[hg.block b (Nat.lt_of_lt_of_le hb hs.size) fun e=>by have:=(hr b e.symm).1;omega];exact hs.frame b hb hn
abbrev yf:=Exit→Env→Heap→List Deferred→Prop
def zag{K0:List Nat}(c:Ctx K0)(Q:yf)(ds:List Deferred):Wc:=fun e ρr ds1 w=>∃ρ H,JX c ρ H ρr w∧yJ c ds1 w∧Q e ρ H ds
def WpV{K0:List Nat}(c:Ctx K0)(P:Program)(r:Option Nat)(N:Nat)(code:Code)(Q:yf)(ρ:Env)(H:Heap)(ds:List Deferred):Prop :=
 ∀ρr w ds1,JX c ρ H ρr w→yJ c ds1 w→Wp P r N code (zag c Q ds) ρr ds1 w
def zlx(K:Env→Heap→List Deferred→Prop)(Q:yf):yf
 |.normal,ρ,H,ds=>K ρ H ds
 |e,ρ,H,ds=>Q e ρ H ds
def zze(id:Nat)(Q:yf):yf
 |.exit i,ρ,H,ds=>if i=id then Q .normal ρ H ds else Q (.exit i) ρ H ds
 |e,ρ,H,ds=>Q e ρ H ds
theorem zeb.put{m:M}{Z:ZM}{ρ:Env}{ρr:zR}{v:V}{x:Value}(h:zeb m Z ρ ρr)(d:Nat)(hv:Rep (some m) Z v x):zeb m Z ((d,v)::ρ) (upd ρr d x):=by
 intro t
 show Rep (some m) Z (bif Nat.beq t d then v else ρ.get t) (bif Nat.beq t d then x else ρr t)
 cases Nat.beq t d with
 |true=>exact hv
 |false=>exact h t
theorem zeb.up{m m':M}{Z Z':ZM}{ρ:Env}{ρr:zR}(h:zeb m Z ρ ρr)(hZ:∀a x,Z a=some x→Z' a=some x)(hm:∀k L loc,m k L=some loc→m' k L=some loc):zeb m' Z' ρ ρr :=
 fun t=>(h t).up hZ fun f e=>by cases e;exact⟨m',rfl,hm⟩
section
variable{K0:List Nat}{c:Ctx K0}{P:Program}{r:Option Nat}{N:Nat}{Q:yf}{ρ:Env}{H:Heap}{ds:List Deferred}
theorem zzx(h:Q .normal ρ H ds):WpV c P r N .skip Q ρ H ds:=fun _ _ _ S hM=>zzs ⟨ρ,H,S,hM,h⟩
theorem zzy{id:Nat}(h:Q (.exit id) ρ H ds):WpV c P r N (.exit id) Q ρ H ds:=fun _ _ _ S hM=>zzt ⟨ρ,H,S,hM,h⟩
theorem v_ret(h:Q .ret ρ H ds):WpV c P r N .ret Q ρ H ds:=fun _ _ _ S hM=>w_ret ⟨ρ,H,S,hM,h⟩
theorem v_seq{x y:Code}(h:WpV c P r N x (zlx (fun ρ H ds=>WpV c P r N y Q ρ H ds) Q) ρ H ds):WpV c P r N (.seq x y) Q ρ H ds :=
 fun ρr w ds1 S hM=>w_seq (zgp (h ρr w ds1 S hM) fun e ρr' ds' w' ⟨ρ',H',S',hM',hQ⟩=>by
  cases e with
  |normal=>exact hQ ρr' w' ds' S' hM'
  |exit id=>exact⟨ρ',H',S',hM',hQ⟩
  |goto l=>exact⟨ρ',H',S',hM',hQ⟩
  |ret=>exact⟨ρ',H',S',hM',hQ⟩
  |panic ch=>exact⟨ρ',H',S',hM',hQ⟩
  |outgrown=>exact⟨ρ',H',S',hM',hQ⟩)
theorem zvd{id:Nat}{x:Code}(h:WpV c P r N x (zze id Q) ρ H ds):WpV c P r N (.block id x) Q ρ H ds :=
 fun ρr w ds1 S hM=>zva (zgp (h ρr w ds1 S hM) fun e ρr' ds' w' ⟨ρ',H',S',hM',hQ⟩=>by
  cases e with
  |exit i =>
   simp only[zze]at hQ;simp only[zu9];split
   ·rename_i he;rw[if_pos he]at hQ;exact⟨ρ',H',S',hM',hQ⟩
   ·rename_i he;rw[if_neg he]at hQ;exact⟨ρ',H',S',hM',hQ⟩
  |normal=>exact⟨ρ',H',S',hM',hQ⟩
  |goto l=>exact⟨ρ',H',S',hM',hQ⟩
  |ret=>exact⟨ρ',H',S',hM',hQ⟩
  |panic ch=>exact⟨ρ',H',S',hM',hQ⟩
  |outgrown=>exact⟨ρ',H',S',hM',hQ⟩)
theorem zly{K:Env→Heap→List Deferred→Prop}(h:K ρ H ds):zlx K Q .normal ρ H ds:=h
theorem zlz{K:Env→Heap→List Deferred→Prop}(h:Q .ret ρ H ds):zlx K Q .ret ρ H ds:=h
theorem zjb{id:Nat}{K:Env→Heap→List Deferred→Prop}(h:Q (.exit id) ρ H ds):zlx K Q (.exit id) ρ H ds:=h
theorem zqx{id:Nat}(h:Q .normal ρ H ds):zze id Q .normal ρ H ds:=h
theorem zqy{id:Nat}(h:Q .ret ρ H ds):zze id Q .ret ρ H ds:=h
theorem zl0{id:Nat}(h:Q .normal ρ H ds):zze id Q (.exit id) ρ H ds:=by
 show(if id=id then Q .normal ρ H ds else Q (.exit id) ρ H ds)
 rw[if_pos rfl];exact h
theorem Qy{id i:Nat}(hne:Nat.beq i id=false)(h:Q (.exit i) ρ H ds):zze id Q (.exit i) ρ H ds:=by
 show(if i=id then Q .normal ρ H ds else Q (.exit i) ρ H ds)
 rw[if_neg (fun e=>by subst e;rw[Nat.beq_refl]at hne;cases hne)];exact h
end
def zgr:Value→V
 |.int k n=>.int k n
 |.bool b=>.bool b
 |.string s=>.str s.data.toList
 |.pointer none=>.nilp
 |.slice none 0 0=>.nils
 |.nilFunc=>.nilf
 |.map none=>.nilm
 |.nilIface=>.nili
 |.func (.func f) a b=>if a.size=0∧b.size=0 then .fn f [] []else .undef
 |_=>.undef
def ofC:Value→V
 |.agg cs=>.agg (cs.toList.map zgr)
 |v=>zgr v
def evV(ρ:Env):Operand→V
 |.tmp t=>ρ.get t
 |.const v=>ofC v
 |.global _=>.undef
 |.func f=>.fn f [] []
theorem zgs{m:Option M}{Z:ZM}(v:Value):Rep m Z (zgr v) v:=by
 unfold zgr;split
 ·rfl
 ·rfl
 ·show _=_;simp
 ·rfl
 ·rfl
 ·rfl
 ·rfl
 ·rfl
 ·split
  ·rename_i h
   exact⟨[],[],by rw[Array.eq_empty_of_size_eq_zero h.1,Array.eq_empty_of_size_eq_zero h.2],rfl,rfl⟩
  ·trivial
 ·trivial
theorem qm{m:Option M}{Z:ZM}:∀l:List Value,zo m Z (l.map zgr) l
 |[]=>rfl
 |v::l=>⟨v,l,rfl,zgs v,qm l⟩
theorem zl1{m:Option M}{Z:ZM}(v:Value):Rep m Z (ofC v) v:=by
 unfold ofC;split
 ·exact⟨_,by simp,qm _⟩
 ·exact zgs _
theorem zeb.ev{m:M}{Z:ZM}{ρ:Env}{ρr:zR}(h:zeb m Z ρ ρr)(x:Operand):Rep (some m) Z (evV ρ x) (ev ρr x):=by
 cases x with
 |tmp t=>exact h t
 |const v=>exact zl1 v
 |global g=>trivial
 |func f=>exact⟨[],[],rfl,rfl,rfl⟩
section
variable{K0:List Nat}{c:Ctx K0}{P:Program}{r:Option Nat}{N:Nat}{Q:yf}{ρ:Env}{H:Heap}{ds:List Deferred}
theorem zl2{x:Operand}{a b:Code}(t:Bool)(hc:evV ρ x=.bool t)(h1:t=true→WpV c P r N a Q ρ H ds)(h2:t=false→WpV c P r N b Q ρ H ds):WpV c P r N (.cond x a b) Q ρ H ds :=
 fun ρr w ds1 S hM=>zzu t (by obtain⟨m,Z,_,hR⟩:=S;have:=hR.ev x;rw[hc]at this;exact this) (fun e=>h1 e ρr w ds1 S hM) (fun e=>h2 e ρr w ds1 S hM)
theorem zzz{G:Type}{x:Code}(env:G→Env)(hp:G→Heap)(Inv:G→Prop)(μ:G→Nat)(g0:G)(hi:Inv g0)
  (hround:∀g,Inv g→WpV c P r N x (zlx (fun ρ' H' ds'=>ds'=ds∧∃g',ρ'=env g'∧H'=hp g'∧Inv g'∧μ g'<μ g) Q) (env g) (hp g) ds):WpV c P r N (.loop x) Q (env g0) (hp g0) ds:=by
 intro ρr w ds1 S hM a n hf
 let I:Act→World→Nat→Prop:=fun a w m=>∃g ρ' ds2,Frm N ds2 a ρ'∧JX c (env g) (hp g) ρ' w∧yJ c ds2 w∧Inv g∧μ g=m
 have hex:∀a w,(∃m,I a w m)→∃m,I a w m∧∀k,k<m→¬I a w k:=fun a w ⟨m,hm⟩=>least _ m hm
 refine wpIn_loop (fun a w=>∃m,I a w m) (fun a w=>(Classical.epsilon fun m=>I a w m∧∀k,k<m→¬I a w k)) ⟨_,g0,ρr,ds1,hf,S,hM,hi,rfl⟩ ?_;intro a w hI;obtain⟨⟨g,ρ',ds2,hf',hS,hM2,hinv,hm⟩,hmin⟩:=Classical.epsilon_spec (hex a w hI)
 refine wpIn_mono (hround g hinv ρ' w ds2 hS hM2 a n hf') fun e a' w' hq=>?_
 obtain⟨ρ2,ds2,hf2,ρv,Hv,S2,hM3,hq⟩:=hq
 cases e with
 |normal =>
  obtain⟨_,g',rfl,rfl,hinv',hlt⟩:=hq
  have hI':I a' w' (μ g'):=⟨g',ρ2,ds2,hf2,S2,hM3,hinv',rfl⟩
  refine⟨⟨_,hI'⟩,?_⟩;obtain⟨_,hmin'⟩:=Classical.epsilon_spec (hex a' w' ⟨_,hI'⟩);refine Nat.lt_of_le_of_lt ?_ (hm▸hlt)
  exact Nat.le_of_not_lt fun hl=>hmin' _ hl hI'
 |exit id=>exact⟨ρ2,ds2,hf2,ρv,Hv,S2,hM3,hq⟩
 |goto l=>exact⟨ρ2,ds2,hf2,ρv,Hv,S2,hM3,hq⟩
 |ret=>exact⟨ρ2,ds2,hf2,ρv,Hv,S2,hM3,hq⟩
 |panic ch=>exact⟨ρ2,ds2,hf2,ρv,Hv,S2,hM3,hq⟩
 |outgrown=>exact⟨ρ2,ds2,hf2,ρv,Hv,S2,hM3,hq⟩
end
def je(ks:List Nat)(H:Heap):Option Heap :=
 match ks with
 |[]=>some []
 |k::r=>match H.get k,je r H with
  |some o,some l=>some ((k,o)::l)
  |_,_=>none
def Obj.refs:Obj→List Nat
 |.box _ cs=>yI cs
 |_=>[]
def nodupB:List Nat→Bool
 |[]=>true
 |k::r=>!(r.contains k)&&nodupB r
theorem zM:∀{l:List Nat},nodupB l=true→l.Nodup
 |[],_=>List.nodup_nil
 |k::r,h=>by
  simp only[nodupB,Bool.and_eq_true,Bool.not_eq_true',List.contains_eq_mem,decide_eq_false_iff_not]at h;exact List.nodup_cons.2 ⟨h.1,zM h.2⟩
theorem Heap.get_mem:∀{H:Heap}{k:Nat}{o:Obj},H.get k=some o→(k,o)∈H
 |[],_,_,h=>by cases h
 |(k',o')::r,k,o,h=>by
  simp only[Heap.get]at h
  cases hb:Nat.beq k k' with
  |true =>
   rw[hb]at h;have:=Nat.eq_of_beq_eq_true hb;subst this;simp only[cond_true,Option.some.injEq]at h;subst h;exact List.mem_cons_self ..
  |false =>
   rw[hb]at h;exact List.mem_cons_of_mem _ (Heap.get_mem h)
theorem zX:∀{ks:List Nat}{H H':Heap},je ks H=some H'→keys H'=ks∧∀p∈H',p∈H
 |[],_,_,h=>by cases h;exact⟨rfl,fun _ h=>by cases h⟩
 |k::r,H,H',h=>by
  simp only[je]at h;split at h
  ·rename_i o l h1 h2
   cases h;obtain⟨h3,h4⟩:=zX h2;refine⟨by simp[keys]at h3 ⊢;exact h3,fun p hp=>?_⟩
   rcases List.mem_cons.1 hp with rfl|hp
   ·exact Heap.get_mem h1
   ·exact h4 p hp
  ·cases h
theorem YS.cut{K0:List Nat}{c:Ctx K0}{m:M}{Z:ZM}{H H':Heap}{w:World}(ks:List Nat)(hH:je ks H=some H')(hnd:nodupB ks=true)(hK:K0.all ks.contains=true)(hO:(H'.all fun p=>p.2.refs.all ks.contains)=true)(S:YS c m Z H w):
  ∃m',YS c m' Z H' w∧∀v x,v.refs.all ks.contains=true→Rep (some m) Z v x→Rep (some m') Z v x:=by
 obtain⟨hks,hsub⟩:=zX hH
 let m':M:=fun k L=>if k∈ks then m k L else none
 have hin:∀k∈ks,m' k=m k:=fun k hk=>by funext L;simp[m',hk]
 have hb:∀p∈H',blk m' p=blk m p:=fun p hp'=>zaf (hin p.1 (hks▸mem_keys hp'))
 have hs:=S.step;refine⟨m',⟨⟨⟨hs.sim.frozen,fun p hp'=>?_,by rw[hks];exact zM hnd,fun p hp' q hq b h1 h2=>hs.sim.disj p (hsub p hp') q (hsub q hq) b (hb p hp'▸h1) (hb q hq▸h2)⟩,?_,hs.zext,hs.os,hs.tape,hs.output,hs.size,hs.frame,?_,?_,?_,hs.znew⟩,?_⟩,?_⟩
 ·have hh:=hs.sim.holds p (hsub p hp')
  have hmem:p.1∈ks:=hks▸mem_keys hp';obtain⟨k,o⟩:=p
  cases o with
  |box t cs =>
   obtain⟨b,cur,h1,h2,h3,h4,h5⟩:=hh;refine⟨b,cur,by rw[hin k hmem];exact h1,h2,h3.swap fun j hj L loc e=>?_,h4,by rw[hin k hmem];exact h5⟩;have:=(List.all_eq_true.1 hO) _ hp';have:=(List.all_eq_true.1 this) j hj;rw[hin j (by simpa using this)];exact e
  |row t sz fz els =>
   rcases hh with⟨h1,h2,h3,⟨b,h4⟩,h5⟩|⟨b,cap,cur,fr,h1,h2⟩
   ·exact .inl ⟨h1,h2,h3,⟨b,by rw[hin k hmem];exact h4⟩,by rw[hin k hmem];exact h5⟩
   ·exact .inr ⟨b,cap,cur,fr,by rw[hin k hmem];exact h1,by rw[hin k hmem];exact h2⟩
  |map l =>
   obtain⟨b,es,clock,h1,h2⟩:=hh;exact⟨b,es,clock,by rw[hin k hmem];exact h1,by rw[hin k hmem];exact h2⟩
  |glob g t cs=>exact⟨by rw[hin k hmem];exact hh.1,hh.2.1,by rw[hin k hmem];exact hh.2.2⟩
  |nest t e sz pd ls =>
   show jd (m' k) _ _ t e sz pd ls
   rw[hin k hmem];exact hh
  |gen G =>
   show G.holds (m' k) _ _
   rw[hin k hmem];exact hh
 ·intro k L loc e
  by_cases hk:k∈K0
  ·have:=(List.all_eq_true.1 hK) k hk
   rw[hin k (by simpa using this)];exact hs.mext k L loc e
  ·rw[c.dom0 k hk]at e;cases e
 ·intro k hk
  rw[hks];have:=(List.all_eq_true.1 hK) k (c.hk▸hk);simpa using this
 ·intro k hk
  rw[hks]at hk
  funext L
  rw[c.dom0 k (fun h=>hk (by have:=(List.all_eq_true.1 hK) k h;simpa using this))];simp[m',hk]
 ·intro p hp' b hbb
  exact hs.blks p (hsub p hp') b (hb p hp'▸hbb)
 ·intro k hk L
  rw[hks]at hk;simp[m',hk]
 ·intro v x hr h
  exact h.swap fun j hj L loc e=>by
   have:=(List.all_eq_true.1 hr) j hj;rw[hin j (by simpa using this)];exact e
def zve(P:Program)(o:Oper)(ρr:zR)(w:World)(R:Value→World→Prop):Prop :=
 wD o.op=true∧((∃x w',(execOp (ev ρr) o).run P w=.ok (.value x) w'∧R x w')∨(∃w',(execOp (ev ρr) o).run P w=.ok .skip w'∧R Go.undef w') ∨
  ∃f args w1,(execOp (ev ρr) o).run P w=.ok (.enter f args) w1∧Calls P f args w1 fun en w'=>∃x,en=.returned x∧R x w')
theorem zve.mono{P:Program}{o:Oper}{ρr:zR}{w:World}{R R':Value→World→Prop}(h:zve P o ρr w R)(hm:∀x w',R x w'→R' x w'):zve P o ρr w R':=by
 refine⟨h.1,?_⟩
 rcases h.2 with⟨x,w',h1,h2⟩|⟨w',h1,h2⟩|⟨f,args,w1,h1,h2⟩
 ·exact .inl ⟨x,w',h1,hm _ _ h2⟩
 ·exact .inr (.inl ⟨w',h1,hm _ _ h2⟩)
 ·exact .inr (.inr ⟨f,args,w1,h1,Calls.mono h2 fun _ _ ⟨x,e,hr⟩=>⟨x,e,hm _ _ hr⟩⟩)
def Loc(P:Program)(o:Oper)(ρ:Env)(F:Heap)(v:V)(F':Heap):Prop :=
 ∀ρr m Z w,(∀x∈o.op.operands,Rep (some m) Z (evV ρ x) (ev ρr x))→xx m Z F w→(∀k∈keys F',k ∉ keys F→∀L,m k L=none) →
  zve P o ρr w fun x w'=>∃m' Z',Step m Z F w m' Z' F' w'∧Rep (some m') Z' v x
def zS(all:List Oper)(ρ:Env)(o:Oper):Option Bool :=
 match o.guard with
 |none=>some true
 |some (j,want)=>match (all[j]?).bind (·.dst)with
  |some d=>match ρ.get d with
   |.bool b=>some (b==want)
   |.no=>some false
   |_=>none
  |none=>none
theorem xl{all:List Oper}{ρ:Env}{ρr:zR}{m:M}{Z:ZM}{o:Oper}{t:Bool}(hR:zeb m Z ρ ρr)(h:zS all ρ o=some t):wanted all ρr o=t:=by
 unfold zS at h;unfold wanted
 cases hg:o.guard with
 |none=>rw[hg]at h;simpa using h
 |some p =>
  obtain⟨j,want⟩:=p;rw[hg]at h;simp only[gv]at h ⊢
  cases hd:(all[j]?).bind (·.dst)with
  |none=>rw[hd]at h;cases h
  |some d =>
   rw[hd]at h;simp only at h ⊢;have hr:=hR d;split at h
   ·rename_i b hb
    rw[hb]at hr;simp only[Rep]at hr;rw[hr];simp only[Option.some.injEq]at h;subst h;cases b<;>cases want<;>rfl
   ·rename_i hb
    rw[hb]at hr;simp only[Rep]at hr;rw[hr];simp only[Option.some.injEq]at h;subst h;rfl
   ·cases h
def KY{K0:List Nat}(c:Ctx K0)(P:Program)(r:Option Nat)(N:Nat)(all:List Oper)(Q:yf)(l:List Oper)(ρ:Env)(H:Heap)(ds:List Deferred):Prop :=
 ∀ρr w ds1,JX c ρ H ρr w→yJ c ds1 w→Ops P r N all (zag c Q ds) l ρr ds1 w
def vU(ks:List Nat)(H:Heap):Heap:=H.filter fun p=>!ks.contains p.1
theorem yE{α β:Type}(f:α→β):∀{l:List α},(l.map f).Nodup→l.Nodup
 |[],_=>List.nodup_nil
 |a::l,h=>by
  rw[List.map_cons,List.nodup_cons]at h;exact List.nodup_cons.2 ⟨fun ha=>h.1 (List.mem_map_of_mem ha),yE f h.2⟩
theorem wm:∀{ks:List Nat}{H F:Heap},(keys H).Nodup→ks.Nodup→je ks H=some F→H.Perm (F++vU ks H):=by
 intro ks H F hH hks hF
 have h1:∀p,p∈H↔p∈F++vU ks H:=by
  obtain⟨h2,h3⟩:=zX hF;intro p;rw[List.mem_append];constructor
  ·intro hp
   by_cases hk:p.1∈ks
   ·left
    rw[← h2]at hk;obtain⟨q,hq,e⟩:=List.mem_map.1 hk;have hqH:=h3 q hq
    have:q=p:=by
     have hinj:∀(l:Heap),(keys l).Nodup→∀p∈l,∀q∈l,q.1=p.1→q=p:=by
      intro l hl
      induction l with
      |nil=>intro p hp;cases hp
      |cons a l ih =>
       simp only[keys,List.map_cons,List.nodup_cons]at hl;intro p hp q hq e
       rcases List.mem_cons.1 hp with h1|h1<;>rcases List.mem_cons.1 hq with h2|h2
       ·rw[h1,h2]
       ·exact(hl.1 (List.mem_map.2 ⟨q,h2,by rw[e,h1]⟩)).elim
       ·exact(hl.1 (List.mem_map.2 ⟨p,h1,by rw[← e,h2]⟩)).elim
       ·exact ih hl.2 p h1 q h2 e
     exact hinj H hH p hp q hqH e
    exact this▸hq
   ·right
    simp only[vU,List.mem_filter,Bool.not_eq_true',List.contains_eq_mem,decide_eq_false_iff_not];exact⟨hp,hk⟩
  ·rintro(hp|hp)
   ·exact h3 p hp
   ·exact(List.mem_filter.1 hp).1
 have hn:H.Nodup:=yE _ hH
 have hn2:(F++vU ks H).Nodup:=by
  obtain⟨h2,h3⟩:=zX hF;refine List.nodup_append.2 ⟨yE _ (by show(keys F).Nodup;rw[h2];exact hks),hn.filter _,fun a ha b hb e=>?_⟩;subst e;have:=(List.mem_filter.1 hb).2;simp only[Bool.not_eq_true',List.contains_eq_mem,decide_eq_false_iff_not]at this;exact this (h2▸mem_keys ha)
 exact(List.perm_ext_iff_of_nodup hn hn2).2 h1
def uW(F':Heap)(ks:List Nat)(H:Heap):Bool:=F'.all fun p=>ks.contains p.1||!((keys H).contains p.1)
section
variable{K0:List Nat}{c:Ctx K0}{P:Program}{r:Option Nat}{N:Nat}{Q:yf}{ρ:Env}{H:Heap}{ds:List Deferred}{all rest:List Oper}{o:Oper}
theorem YS.step'{m m':M}{Z Z':ZM}{F F':Heap}{w w':World}{ks:List Nat}(S:YS c m Z H w)(hks:nodupB ks=true)(hF:je ks H=some F)(hfr:uW F' ks H=true)
  (h:xx m Z F w→(∀k∈keys F',k ∉ keys F→∀L,m k L=none)→Step m Z F w m' Z' F' w'):YS c m' Z' (F'++vU ks H) w':=by
 have hp:=wm S.step.sim.nodup (zM hks) hF;obtain⟨h2,h3⟩:=zX hF;have hs:xx m Z (F++vU ks H) w:=S.step.sim.perm hp
 have hnew:∀k∈keys F',k ∉ keys F→k ∉ keys H:=by
  intro k hk hkF;obtain⟨p,hp',rfl⟩:=List.mem_map.1 hk;have:=(List.all_eq_true.1 hfr) p hp';simp only[Bool.or_eq_true,List.contains_eq_mem,decide_eq_true_eq,Bool.not_eq_true',decide_eq_false_iff_not]at this
  rcases this with this|this
  ·exact absurd (h2▸this) hkF
  ·exact this
 have hst:=h hs.left (fun k hk hkF=>S.dom k (hnew k hk hkF))
 have hap:∀p∈F',∀q∈vU ks H,p.1≠q.1:=by
  intro p hp' q hq e;have hq1:=List.mem_filter.1 hq;by_cases hpF:p.1∈keys F
  ·have:=hq1.2
   simp only[Bool.not_eq_true',List.contains_eq_mem,decide_eq_false_iff_not]at this;exact this (by rw[← e,← h2];exact hpF)
  ·exact hnew p.1 (mem_keys hp') hpF (by rw[e];exact mem_keys hq1.1)
 have hfr:=Step.frame_rule hs hst hap;refine⟨(S.step.permR hp).trans hfr,fun k hk L=>?_⟩;rw[hfr.newk k hk];exact S.dom k (fun hk'=>hk (hfr.keep k ((hp.map _).mem_iff.1 hk'))) L
theorem zz0(h:Q .normal ρ H ds):KY c P r N all Q [] ρ H ds:=fun _ _ _ S hM=>zvb ⟨ρ,H,S,hM,h⟩
theorem zvf(d:Nat)(hd:o.dst=some d)(hN:Nat.ble (d+1) N=true)(hw:zS all ρ o=some false)(h:KY c P r N all Q rest ((d,.no)::ρ) H ds):KY c P r N all Q (o::rest) ρ H ds:=by
 rintro ρr w ds1 ⟨m,Z,S,hR⟩ hM;exact zqu d hd hN (xl hR hw) (h _ _ _ ⟨m,Z,S,hR.put d rfl⟩ hM)
theorem zqz(hd:o.dst=none)(hw:zS all ρ o=some false)(h:KY c P r N all Q rest ρ H ds):KY c P r N all Q (o::rest) ρ H ds:=by
 rintro ρr w ds1 ⟨m,Z,S,hR⟩ hM;exact zlr hd (xl hR hw) (h _ _ _ ⟨m,Z,S,hR⟩ hM)
theorem zz1{F F':Heap}{v:V}(d:Nat)(ks:List Nat)(hd:o.dst=some d)(hN:Nat.ble (d+1) N=true)(hw:zS all ρ o=some true)(hks:nodupB ks=true)(hF:je ks H=some F)(hl:Loc P o ρ F v F')(hfr:uW F' ks H=true)
  (h:KY c P r N all Q rest ((d,v)::ρ) (F'++vU ks H) ds):KY c P r N all Q (o::rest) ρ H ds:=by
 rintro ρr w ds1 ⟨m,Z,S,hR⟩ hM a n hf;have hp:=wm S.step.sim.nodup (zM hks) hF;have hs:xx m Z (F++vU ks H) w:=S.step.sim.perm hp;obtain⟨h2,h3⟩:=zX hF
 obtain⟨hn,hex⟩:=hl ρr m Z w (fun x _=>hR.ev x) hs.left (fun k hk hkF=>S.dom k (by
  obtain⟨p,hp',rfl⟩:=List.mem_map.1 hk;have:=(List.all_eq_true.1 hfr) p hp';simp only[Bool.or_eq_true,List.contains_eq_mem,decide_eq_true_eq,Bool.not_eq_true',decide_eq_false_iff_not]at this
  rcases this with this|this
  ·exact absurd (h2▸this) hkF
  ·exact this))
 have go:∀x w',(∃m' Z',Step m Z F w m' Z' F' w'∧Rep (some m') Z' v x)→Ops P r N all (zag c Q ds) rest (upd ρr d x) ds1 w':=fun x w' ⟨m',Z',hst,hr⟩ =>
  h _ _ _ ⟨m',Z',S.step' hks hF hfr (fun _ _=>hst),(hR.up hst.zext hst.mext).put d hr⟩ (hM.step hs.left hst)
 rcases hex with⟨x,w',hrun,hx⟩|⟨w',hrun,hx⟩|⟨f,args,w1,hrun,hx⟩
 ·exact zls d x hd hN (xl hR hw) hn hrun (go x w' hx) a n hf
 ·have hw':=(hf.wanted all _).trans (xl hR hw)
  simp only[wpListIn,hw',if_true];refine⟨fun _ _=>trivial,?_⟩;rw[qP hn,hf.eval,hrun,Oper.uponIn_skip,hd];exact go _ w' hx _ n (hf.put (Nat.le_of_ble_eq_true hN) _)
 ·exact zlt d hd hN (xl hR hw) hn hrun hx (fun e w'' ⟨x,he,hr⟩=>⟨x,he,go x w'' hr⟩) a n hf
theorem zvg{F F':Heap}{v:V}(ks:List Nat)(hd:o.dst=none)(hw:zS all ρ o=some true)(hks:nodupB ks=true)(hF:je ks H=some F)(hl:Loc P o ρ F v F')(hfr:uW F' ks H=true)
  (h:KY c P r N all Q rest ρ (F'++vU ks H) ds):KY c P r N all Q (o::rest) ρ H ds:=by
 rintro ρr w ds1 ⟨m,Z,S,hR⟩ hM a n hf;have hp:=wm S.step.sim.nodup (zM hks) hF;have hs:xx m Z (F++vU ks H) w:=S.step.sim.perm hp;obtain⟨h2,h3⟩:=zX hF
 obtain⟨hn,hex⟩:=hl ρr m Z w (fun x _=>hR.ev x) hs.left (fun k hk hkF=>S.dom k (by
  obtain⟨p,hp',rfl⟩:=List.mem_map.1 hk;have:=(List.all_eq_true.1 hfr) p hp';simp only[Bool.or_eq_true,List.contains_eq_mem,decide_eq_true_eq,Bool.not_eq_true',decide_eq_false_iff_not]at this
  rcases this with this|this
  ·exact absurd (h2▸this) hkF
  ·exact this))
 have go:∀x w',(∃m' Z',Step m Z F w m' Z' F' w'∧Rep (some m') Z' v x)→Ops P r N all (zag c Q ds) rest ρr ds1 w':=fun x w' ⟨m',Z',hst,hr⟩ =>
  h _ _ _ ⟨m',Z',S.step' hks hF hfr (fun _ _=>hst),hR.up hst.zext hst.mext⟩ (hM.step hs.left hst)
 have hw':=(hf.wanted all _).trans (xl hR hw);simp only[wpListIn,hw',if_true];refine⟨fun _ _=>trivial,?_⟩;rw[qP hn,hf.eval]
 rcases hex with⟨x,w',hrun,hx⟩|⟨w',hrun,hx⟩|⟨f,args,w1,hrun,hx⟩
 ·rw[hrun,Oper.uponIn_value,hd]
  exact go x w' hx _ n (hf.putNone _)
 ·rw[hrun,Oper.uponIn_skip,hd]
  exact go _ w' hx _ n (hf.putNone _)
 ·rw[hrun,Oper.uponIn_enter]
  refine⟨fun hx=>by simp[Fw]at hx,(ql r hx).mono fun e w'' ⟨x,he,hr⟩=>?_⟩;subst he;rw[hd];exact go x w'' hr _ n (hf.putNone _)
theorem zq0{id:Nat}{l:List Oper}(h:KY c P r N l Q l ρ H ds):WpV c P r N (.region id l.toArray false) Q ρ H ds:=fun ρr w ds1 S hM=>zqt (h ρr w ds1 S hM)
end
end Go.EV
namespace Go.Eng
open Go Go.RowKit
def sub(k:Nat)(v:Value)(lo hi:Nat):Value :=
 match v with
 |.slice A _ c=>.slice (if c=lo then A else A.map (·.add (lo*k))) (hi-lo) (c-lo)
 |v=>v
section
variable{P:Program}{ρ:zR}{w W:World}{dst:Option Tmp}{ty:TypeId}{pos:String}{aft:Array Edge}{gd:Option (Nat×Bool)}{α:Type}{enc:α→List Value}{k:Nat}{v:Value}{l:List α}
end
inductive Tag where
 |int (k:IntKind)
 |bool
 |str
 deriving DecidableEq
def zei:TypeDesc→Option Tag|.int k=>some (.int k)|.bool=>some .bool|.string=>some .str|_=>none
def zjc:Tag→Value→Bool|.int k,.int k' _=>decide (k=k')|.bool,.bool _=>true|.str,.string _=>true|_,_=>false
def eqV:Value→Value→Bool|.int _ a,.int _ b=>decide (a=b)|.bool a,.bool b=>a==b|.string a,.string b=>decide (a.data.toList=b.data.toList)|_,_=>false
def zq1:List Value→List Value→Bool|[],[]=>true|a::l,b::m=>eqV a b&&zq1 l m|_,_=>false
def Aw:List Tag→List Value→Bool|[],[]=>true|k::ks,v::vs=>zjc k v&&Aw ks vs|_,_=>false
def Qz(P:Program):List Field→Nat→List Tag→Bool
 |[],_,[]=>true
 | f :: fs, i, k :: ks => !(f.name == "_") && (Nat.beq f.offset i && ((match P.underlying f.type with | some d => decide (zei d = some k) | none => false) && Qz P fs (i + 1) ks))
 |_,_,_=>false
def zq2(P:Program)(t:TypeId)(ks:List Tag):Prop:=P.underlying t=some (.struct (P.fieldsOf t))∧P.stoodInHeld t=false∧P.eqGuardType P.depth t=false∧Qz P (P.fieldsOf t).toList 0 ks=true
def YT(P:Program)(t:TypeId)(ks:List Tag):Bool:=(match P.underlying t with|some (.struct _)=>true|_=>false)&&((!P.stoodInHeld t)&&((!P.eqGuardType P.depth t)&&Qz P (P.fieldsOf t).toList 0 ks))
theorem zvh{P:Program}{t:TypeId}{ks:List Tag}(h:YT P t ks=true):zq2 P t ks:=by
 simp only[YT,Bool.and_eq_true,Bool.not_eq_true']at h;obtain⟨h1,h2,h3,h4⟩:=h;refine⟨?_,h2,h3,h4⟩;split at h1
 ·rename_i fs hf
  simp[Program.fieldsOf,hf]
 ·cases h1
section
variable{P:Program}{ρ:zR}{w:World}{dst:Option Tmp}{ty:TypeId}{pos:String}{aft:Array Edge}{gd:Option (Nat×Bool)}
theorem QA{d:Nat}{t:Nat}{k:Tag}{a b:Value}{desc:TypeDesc}(hu:P.underlying t=some desc)(ht:zei desc=some k)(ha:zjc k a=true)(hb:zjc k b=true):(Op.equalIn (d+1) t a b).run P w=.ok (eqV a b) w:=by
 cases desc<;>simp only[zei,Option.some.injEq,reduceCtorEq]at ht<;>subst ht<;>(cases a<;>simp only[zjc,Bool.false_eq_true]at ha<;>cases b<;>simp only[zjc,Bool.false_eq_true]at hb)
 ·rw[run_equalIn_bool' w d t _ _ hu];rfl
 ·have ha:=of_decide_eq_true ha;have hb:=of_decide_eq_true hb;subst ha;subst hb
  rw[run_equalIn_int w d t _ _ _ _ hu];rfl
 ·rw[run_equalIn_string w d t _ _ hu];simp only[eqV,ByteArray.toList_eq];congr 1;rw[Bool.eq_iff_iff];simp
theorem zgt{t:Nat}{k:Tag}{desc:TypeDesc}(hu:P.underlying t=some desc)(ht:zei desc=some k):(isAgg t).run P w=.ok false w:=by
 unfold isAgg;cases desc<;>simp only[zei,reduceCtorEq]at ht<;>simp[run_underlying hu]
theorem KA{d:Nat}{xs ys:List Value}:∀(fs:List Field)(i:Nat)(ks:List Tag),Qz P fs i ks=true→Aw ks (xs.drop i)=true→Aw ks (ys.drop i)=true →
  (Op.eqFields (d+1) xs.toArray ys.toArray fs).run P w=.ok (zq1 (xs.drop i) (ys.drop i)) w:=by
 intro fs
 induction fs with
 |nil =>
  intro i ks h hx hy
  cases ks with
  |cons k ks=>cases h
  |nil =>
   cases hxs:xs.drop i with
   |cons a l=>rw[hxs]at hx;cases hx
   |nil =>
    cases hys:ys.drop i with
    |cons a l=>rw[hys]at hy;cases hy
    |nil=>simp[Op.eqFields,zq1]
 |cons f fs ih =>
  intro i ks h hx hy
  cases ks with
  |nil=>cases h
  |cons k ks =>
   simp only[Qz,Bool.and_eq_true]at h;obtain⟨h1,h2,h3,h4⟩:=h;have h2:=Nat.eq_of_beq_eq_true h2
   have h1 : f.name ≠ "_" := by simpa using h1
   cases hxs:xs.drop i with
   |nil=>rw[hxs]at hx;cases hx
   |cons a l =>
    cases hys:ys.drop i with
    |nil=>rw[hys]at hy;cases hy
    |cons b m =>
     rw[hxs]at hx;rw[hys]at hy;simp only[Aw,Bool.and_eq_true]at hx hy
     have ex:xs.drop (i+1)=l:=by rw[← List.drop_drop,hxs];rfl
     have ey:ys.drop (i+1)=m:=by rw[← List.drop_drop,hys];rfl
     have gx:xs[i]?=some a:=by have:=congrArg (·[0]?) hxs;simpa using this
     have gy:ys[i]?=some b:=by have:=congrArg (·[0]?) hys;simpa using this
     cases hu:P.underlying f.type with
     |none=>rw[hu]at h3;cases h3
     |some desc =>
      rw[hu]at h3
      have h3:zei desc=some k:=by simpa using h3
      have ih:=ih (i+1) ks h4 (by rw[ex];exact hx.2) (by rw[ey];exact hy.2);rw[ex,ey]at ih
      have px:(part f.type xs.toArray f.offset).run P w=.ok a w:=by simp[part,zgt hu h3,h2,gx]
      have py:(part f.type ys.toArray f.offset).run P w=.ok b w:=by simp[part,zgt hu h3,h2,gy]
      rw[Op.eqFields,if_pos h1];simp only[Sem.run_bind,px,py,Result.andThen_ok,QA hu h3 hx.1 hy.1,zq1];cases eqV a b
      ·simp
      ·simp[ih]
theorem zvi{t t':TypeId}{ks:List Tag}{a b:List Value}{x y:Operand}(res:Bool)(hF:zq2 P t ks)(ha:ev ρ x=.agg a.toArray)(hb:ev ρ y=.agg b.toArray)(hka:Aw ks a=true)(hkb:Aw ks b=true)(hr:zq1 a b=res):
  (execOp (ev ρ) ⟨dst,.binOp .eql t x y t',ty,pos,aft,gd⟩).run P w=.ok (.value (.bool res)) w:=by
 obtain⟨h1,h2,h3,h4⟩:=hF;have h:=KA (P:=P) (w:=w) (d:=9998) (xs:=a) (ys:=b) _ 0 ks h4 (by simpa using hka) (by simpa using hkb);simp only[List.drop_zero]at h;simp[execOp,ha,hb,run_eqGuard_agg w _ t x y _ _ h3,run_eql_struct,run_equalIn_agg w 9999 t _ _ h1 h2,h,hr]
theorem zvj{t t':TypeId}{ks:List Tag}{a b:List Value}{x y:Operand}(res:Bool)(hF:zq2 P t ks)(ha:ev ρ x=.agg a.toArray)(hb:ev ρ y=.agg b.toArray)(hka:Aw ks a=true)(hkb:Aw ks b=true)(hr:zq1 a b=res):
  (execOp (ev ρ) ⟨dst,.binOp .neq t x y t',ty,pos,aft,gd⟩).run P w=.ok (.value (.bool (!res))) w:=by
 obtain⟨h1,h2,h3,h4⟩:=hF;have h:=KA (P:=P) (w:=w) (d:=9998) (xs:=a) (ys:=b) _ 0 ks h4 (by simpa using hka) (by simpa using hkb);simp only[List.drop_zero]at h;simp[execOp,ha,hb,run_eqGuard_agg w _ t x y _ _ h3,run_neq_struct,run_equalIn_agg w 9999 t _ _ h1 h2,h,hr]
theorem zjd{t:TypeId}{parts:List (Nat×Operand)}(ps:List (Nat×Value))(cs:List Value)(hp:parts.map (fun p=>(p.1,ev ρ p.2))=ps)(h:P.built t ps=some cs.toArray):
  (execOp (ev ρ) ⟨dst,.build t parts.toArray,ty,pos,aft,gd⟩).run P w=.ok (.value (.agg cs.toArray)) w:=by
 have e:(parts.toArray.map fun x=>(x.1,ev ρ x.2))=ps.toArray:=by rw[← hp];simp
 simp only[execOp,e];simp[run_build w t ps.toArray cs.toArray (by simpa using h)]
end
section
variable{P:Program}{r:Option Nat}{N:Nat}{Q:Wc}{ρ:zR}{ds:List Deferred}{w W0:World}{L:List Own}
variable{all rest:List Oper}{ty:TypeId}{pos:String}{aft:Array Edge}{gd:Option (Nat×Bool)}
end
end Go.Eng
namespace Go.EV
open Go Go.RowKit Go.Eng
def tagB(P:Program)(t:TypeId):Option Tag:=match P.underlying t with|some d=>zei d|none=>none
def zgu(P:Program)(t:TypeId):Option (List Tag) :=
 match (P.fieldsOf t).toList.mapM (fun f=>tagB P f.type)with
 |some ks=>if YT P t ks then some ks else none
 |none=>none
def QB:Tag→V→Bool|.int k,.int k' _=>decide (k=k')|.bool,.bool _=>true|.str,.str _=>true|_,_=>false
def kW:List Tag→List V→Bool|[],[]=>true|k::ks,v::vs=>QB k v&&kW ks vs|_,_=>false
def zEj:V→V→Bool|.int _ a,.int _ b=>decide (a=b)|.bool a,.bool b=>a==b|.str a,.str b=>decide (a=b)|_,_=>false
def zl3:List V→List V→Bool|[],[]=>true|[a],[b]=>zEj a b|a::l,b::m=>zEj a b&&zl3 l m|_,_=>false
def zz2(op:BinOp)(k:IntKind)(a b:Int):Option V :=
 match op with
 |.and=>some (.int k (k.wrap (BitVec.ofInt k.bits a &&& BitVec.ofInt k.bits b).toNat))
 | .or=>some (.int k (k.wrap (BitVec.ofInt k.bits a ||| BitVec.ofInt k.bits b).toNat))
 |.xor=>some (.int k (k.wrap (BitVec.ofInt k.bits a ^^^ BitVec.ofInt k.bits b).toNat))
 |.andNot=>some (.int k (k.wrap (BitVec.ofInt k.bits a &&& ~~~BitVec.ofInt k.bits b).toNat))
 |_=>none
def zz3(op:BinOp)(k:IntKind)(a b:Int):Option V :=
 match op with
 |.lss=>some (.bool (decide (a<b)))
 |.leq=>some (.bool (decide (a≤b)))
 |.gtr=>some (.bool (decide (a>b)))
 |.geq=>some (.bool (decide (a≥b)))
 |.eql=>some (.bool (decide (a=b)))
 |.neq=>some (.bool (!decide (a=b)))
 |.add=>some (.int k (k.wrap (a+b)))
 |.sub=>some (.int k (k.wrap (a-b)))
 |.mul=>some (.int k (k.wrap (a*b)))
 |.quo=>if b=0 then none else some (.int k (k.wrap (a.tdiv b)))
 |.rem=>if b=0 then none else some (.int k (a.tmod b))
 |op=>zz2 op k a b
def WC(op:BinOp)(k:IntKind)(a b:Int):Option V :=
 if b<0 then none else
 match op with
 |.shl=>some (.int k (k.wrap (a*2 ^ (min b.toNat k.bits))))
 |.shr=>some (.int k (a.fdiv (2 ^ (min b.toNat k.bits))))
 |_=>none
def strV(op:BinOp)(a b:List UInt8):Option V :=
 match op with
 |.eql=>some (.bool (decide (a=b)))
 |.neq=>some (.bool (!decide (a=b)))
 |.lss=>some (.bool (Op.bytesLess a b))
 | .leq=>some (.bool (Op.bytesLess a b||decide (a=b)))
 | .gtr=>some (.bool (!(Op.bytesLess a b||decide (a=b))))
 |.geq=>some (.bool (!Op.bytesLess a b))
 |_=>none
def zq3:V→Option Bool
 |.nilp|.nils|.nilf|.nilm=>some true
 |.ptr ..|.vp ..|.fn ..|.mp _=>some false
 |.sl _ _ (_+1) _ (_+1)=>some false
 |.vs _ (_::_)=>some false
 |_=>none
def zl4(P:Program)(t:TypeId):V→Bool
 |.nilp=>match P.underlying t with|some (.pointer _)=>true|_=>false
 |.nils=>match P.underlying t with|some (.slice _)=>true|_=>false
 |.nilf=>match P.underlying t with|some (.func ..)=>true|_=>false
 |.nilm=>match P.underlying t with|some (.map ..)=>true|_=>false
 |_=>false
def WD:V→V→Bool
 |.nilp,.nilp|.ptr ..,.nilp|.vp ..,.nilp=>true
 |.nils,.nils|.sl ..,.nils|.vs ..,.nils=>true
 |.nilf,.nilf|.fn ..,.nilf=>true
 |.nilm,.nilm|.mp _,.nilm=>true
 |_,_=>false
def KZ(P:Program)(t:TypeId)(x y:V):Option Bool:=if zl4 P t y&&WD x y then zq3 x else none
def zz4(P:Program)(t:TypeId):Bool:=match P.underlying t with|some .bool=>true|_=>false
def zEk(P:Program)(t:TypeId)(x y:V):Option Bool :=
 match x,y with
 |.bool a,.bool b=>if zz4 P t then some (a==b)else none
 |.agg a,.agg b=>match zgu P t with
  |some ks=>if kW ks a&&kW ks b then some (zl3 a b)else none
  |none=>none
 |_,_=>none
def zah(P:Program)(op:BinOp)(t:TypeId)(x y:V):Option V :=
 match x,y with
 |.int k a,.int k' b=>match op with
  |.shl|.shr=>WC op k a b
  |_=>if k=k' then zz3 op k a b else none
 |.str a,.str b=>strV op a b
 |x,y=>match op with
  |.eql=>(zEk P t x y).map .bool
  |.neq=>(zEk P t x y).map fun b=>.bool (!b)
  |_=>none
section
variable{P:Program}{ρr:zR}{w:World}{dst:Option Tmp}{ty:TypeId}{pos:String}{aft:Array Edge}{gd:Option (Nat×Bool)}{m:Option M}{Z:ZM}
theorem YU{op:BinOp}{t t':TypeId}{x y:Operand}{k:IntKind}{a b:Int}{v:V}(hx:ev ρr x=.int k a)(hy:ev ρr y=.int k b)(hs:op≠.shl∧op≠.shr)(h:zz3 op k a b=some v):
  ∃u,(execOp (ev ρr) ⟨dst,.binOp op t x y t',ty,pos,aft,gd⟩).run P w=.ok (.value u) w∧Rep m Z v u:=by
 cases op<;>simp only[zz3,zz2,Option.some.injEq,reduceCtorEq]at h
 case quo =>
  split at h
  ·cases h
  ·rename_i hb
   simp only[Option.some.injEq]at h;subst h;exact⟨_,by simp[execOp,hx,hy,eqGuard,binOp,Op.intDiv,hb],rfl⟩
 case rem =>
  split at h
  ·cases h
  ·rename_i hb
   simp only[Option.some.injEq]at h;subst h;exact⟨_,by simp[execOp,hx,hy,eqGuard,binOp,Op.intDiv,hb],rfl⟩
 all_goals
  subst h;exact⟨_,by simp[execOp,hx,hy,eqGuard,binOp,Op.intCmp,Op.intArith,Op.intBits];first|rfl|done,rfl⟩
theorem J0{op:BinOp}{t t':TypeId}{x y:Operand}{k k':IntKind}{a b:Int}{v:V}(hx:ev ρr x=.int k a)(hy:ev ρr y=.int k' b)(hs:op=.shl∨op=.shr)(h:WC op k a b=some v):
  ∃u,(execOp (ev ρr) ⟨dst,.binOp op t x y t',ty,pos,aft,gd⟩).run P w=.ok (.value u) w∧Rep m Z v u:=by
 unfold WC at h;split at h
 ·cases h
 ·rename_i hb
  rcases hs with rfl|rfl<;>simp only[Option.some.injEq]at h<;>subst h<;>exact⟨_,by simp[execOp,hx,hy,eqGuard,binOp,Op.shift,hb],rfl⟩
theorem zq4{op:BinOp}{t t':TypeId}{x y:Operand}{a b:List UInt8}{v:V}(hx:ev ρr x=.string ⟨a.toArray⟩)(hy:ev ρr y=.string ⟨b.toArray⟩)(h:strV op a b=some v):
  ∃u,(execOp (ev ρr) ⟨dst,.binOp op t x y t',ty,pos,aft,gd⟩).run P w=.ok (.value u) w∧Rep m Z v u:=by
 have e:(a==b)=decide (a=b):=by rw[Bool.eq_iff_iff];simp
 cases op<;>simp only[strV,Option.some.injEq,reduceCtorEq]at h<;>subst h <;>
  exact⟨_,by simp[execOp,hx,hy,eqGuard,binOp,Op.stringOp,ByteArray.toList_eq,e];first|rfl|done,rfl⟩
theorem zvk{k:Tag}{v:V}{x:Value}(h:Rep m Z v x)(hk:QB k v=true):zjc k x=true:=by
 cases k<;>cases v<;>simp only[QB,Bool.false_eq_true]at hk<;>simp only[Rep]at h<;>subst h
 ·exact hk
 ·rfl
 ·rfl
theorem Hz:∀{ks:List Tag}{vs:List V}{l:List Value},zo m Z vs l→kW ks vs=true→Aw ks l=true
 |[],[],l,h,_=>by cases h;rfl
 |[],_::_,_,_,hk=>by cases hk
 |_::_,[],_,_,hk=>by cases hk
 |k::ks,v::vs,l,h,hk=>by
  obtain⟨x,xs,rfl,h2,h3⟩:=h;simp only[kW,Bool.and_eq_true]at hk;simp only[Aw,Bool.and_eq_true];exact⟨zvk h2 hk.1,Hz h3 hk.2⟩
theorem zz5{m':Option M}{k:Tag}{u v:V}{x y:Value}(h:Rep m Z u x)(h':Rep m' Z v y)(hk:QB k u=true)(hk':QB k v=true):eqV x y=zEj u v:=by
 cases k<;>cases u<;>simp only[QB,Bool.false_eq_true]at hk<;>cases v<;>simp only[QB,Bool.false_eq_true]at hk'<;>simp only[Rep]at h h'<;>subst h<;>subst h'<;>first|rfl|simp[eqV,zEj]
theorem zl5:∀{ks:List Tag}{us vs:List V}{l k:List Value},zo m Z us l→zo m Z vs k→kW ks us=true→kW ks vs=true→zq1 l k=zl3 us vs
 |[],[],[],l,k,h,h',_,_=>by cases h;cases h';rfl
 |[],_::_,_,_,_,_,_,hk,_=>by cases hk
 |[],[],_::_,_,_,_,_,_,hk=>by cases hk
 |_::_,[],_,_,_,_,_,hk,_=>by cases hk
 |_::_,_::_,[],_,_,_,_,_,hk=>by cases hk
 |k::ks,u::us,v::vs,l,l',h,h',hk,hk'=>by
  obtain⟨x,xs,rfl,h2,h3⟩:=h;obtain⟨y,ys,rfl,h4,h5⟩:=h';simp only[kW,Bool.and_eq_true]at hk hk';have e1:=zz5 h2 h4 hk.1 hk'.1;have e2:=zl5 h3 h5 hk.2 hk'.2
  cases us with
  |nil =>
   cases vs with
   |nil=>cases h3;cases h5;simp[zq1,zl3,e1]
   |cons v' vs=>cases ks<;>simp only[kW,Bool.false_eq_true,and_false]at hk hk'
  |cons u' us =>
   cases vs with
   |nil=>cases ks<;>simp only[kW,Bool.false_eq_true,and_false]at hk hk'
   |cons v' vs=>simp only[zq1,zl3,e1];rw[e2]
theorem zgv{t t':TypeId}{x y:Operand}{u v:V}{b:Bool}(hx:Rep m Z u (ev ρr x))(hy:Rep m Z v (ev ρr y))(h:zEk P t u v=some b):
  (execOp (ev ρr) ⟨dst,.binOp .eql t x y t',ty,pos,aft,gd⟩).run P w=.ok (.value (.bool b)) w∧(execOp (ev ρr) ⟨dst,.binOp .neq t x y t',ty,pos,aft,gd⟩).run P w=.ok (.value (.bool (!b))) w:=by
 unfold zEk at h;split at h
 ·rename_i a a'
  split at h
  ·rename_i hb
   simp only[Option.some.injEq]at h;subst h;unfold zz4 at hb;split at hb
   ·rename_i ht
    exact⟨YP ht hx hy,YQ ht hx hy⟩
   ·cases hb
  ·cases h
 ·rename_i l l'
  split at h
  ·rename_i ks hks
   split at h
   ·rename_i hk
    simp only[Bool.and_eq_true]at hk;simp only[Option.some.injEq]at h;subst h;obtain⟨c1,e1,r1⟩:=hx;obtain⟨c2,e2,r2⟩:=hy
    have hF:zq2 P t ks:=by
     unfold zgu at hks;split at hks
     ·split at hks
      ·rename_i hc
       simp only[Option.some.injEq]at hks;subst hks;exact zvh hc
      ·cases hks
     ·cases hks
    have he:=zl5 r1 r2 hk.1 hk.2;exact⟨zvi _ hF e1 e2 (Hz r1 hk.1) (Hz r2 hk.2) he,zvj _ hF e1 e2 (Hz r1 hk.1) (Hz r2 hk.2) he⟩
   ·cases h
  ·cases h
 ·cases h
theorem J1{op:BinOp}{t t':TypeId}{x y:Operand}{u v r:V}(hx:Rep m Z u (ev ρr x))(hy:Rep m Z v (ev ρr y))(h:zah P op t u v=some r):
  ∃z,(execOp (ev ρr) ⟨dst,.binOp op t x y t',ty,pos,aft,gd⟩).run P w=.ok (.value z) w∧Rep m Z r z:=by
 unfold zah at h;split at h
 ·rename_i k a k' b
  split at h
  ·exact J0 hx hy (.inl rfl) h
  ·exact J0 hx hy (.inr rfl) h
  ·rename_i h1 h2
   split at h
   ·rename_i hk
    subst hk;exact YU hx hy ⟨h1,h2⟩ h
   ·cases h
 ·exact zq4 hx hy h
 ·split at h
  ·obtain⟨b,hb,rfl⟩:=Option.map_eq_some_iff.1 h
   exact⟨_,(zgv hx hy hb).1,rfl⟩
  ·obtain⟨b,hb,rfl⟩:=Option.map_eq_some_iff.1 h
   exact⟨_,(zgv hx hy hb).2,rfl⟩
  ·cases h
end
def zej(t:Bool)(a b:V):V :=
 match a,b with
 |.bool x,.bool y=>.bool (bif t then x else y)
 |.int k x,.int k' y=>if k=k' then .int k (bif t then x else y)else bif t then .int k x else .int k' y
 |.str x,.str y=>.str (bif t then x else y)
 |a,b=>bif t then a else b
theorem zq5{m:Option M}{Z:ZM}{t:Bool}{a b:V}{x y:Value}(ha:Rep m Z a x)(hb:Rep m Z b y):Rep m Z (zej t a b) (bif t then x else y):=by
 unfold zej;split
 ·cases t<;>assumption
 ·split
  ·rename_i hk;subst hk;cases t<;>assumption
  ·cases t<;>assumption
 ·cases t<;>assumption
 ·cases t<;>assumption
def K5(P:Program)(s f:Nat):Option Nat :=
 match P.underlying s with
 |some (.struct fs)=>match fs[f]? with
  |some fld=>match P.info? fld.type with
   |some i=>if i.size=0 then none else some fld.offset
   |none=>none
  |none=>none
 |_=>none
theorem zek{P:Program}{s f o:Nat}(h:K5 P s f=some o):zlu P s f o:=by
 unfold K5 at h;split at h
 ·rename_i fs hs
  split at h
  ·rename_i fld hf
   split at h
   ·rename_i i hi
    split at h
    ·cases h
    ·rename_i hz
     simp only[Option.some.injEq]at h;exact⟨fs,fld,i,hs,hf,h,hi,hz⟩
   ·cases h
  ·cases h
 ·cases h
def j7(P:Program)(t:Nat):Option (Option Nat) :=
 match P.underlying t,P.info? t with
 |some d,some i=>if zae d then(if i.size=1 then some none else none)else some (some i.size)
 |_,_=>none
theorem jJ{P:Program}{t:Nat}(h:j7 P t=some none):Scal P t:=by
 unfold j7 at h;split at h
 ·rename_i d i hd hi
  split at h
  ·rename_i hn
   split at h
   ·rename_i h1;exact⟨d,i,hd,hn,hi,h1⟩
   ·cases h
  ·cases h
 ·cases h
theorem vw{P:Program}{t k:Nat}(h:j7 P t=some (some k)):AggT P t k:=by
 unfold j7 at h;split at h
 ·rename_i d i hd hi
  split at h
  ·split at h<;>cases h
  ·rename_i hn
   simp only[Option.some.injEq]at h;exact⟨d,i,hd,by simpa using hn,hi,h⟩
 ·cases h
def atV(P:Program)(t:Nat)(cs:List V)(off:Nat):Option V :=
 match j7 P t with
 |some none=>match cs[off]? with|some v=>if v.one then some v else none|none=>none
 |some (some k)=>if Nat.ble (off+k) cs.length then some (.agg ((cs.drop off).take k))else none
 |none=>none
def zai(P:Program)(s f:Nat)(cs:List V):Option V :=
 match P.underlying s with
 |some (.struct fs)=>match fs[f]? with
  |some fld=>atV P fld.type cs fld.offset
  |none=>none
 |_=>none
def zz6(P:Program)(src dst:Nat)(x:V):Option V :=
 match P.underlying src,P.underlying dst,x with
 |some _,some (.int k),.int _ n=>some (.int k (k.wrap n))
 |some _,some .string,.str l=>some (.str l)
 |_,_,_=>none
def kI(P:Program)(t:Nat):Bool:=match P.underlying t with|some (.slice _)=>true|_=>false
def zzf(P:Program)(t:Nat)(x:V):Option V :=
 match x with
 |.str l=>match P.underlying t with|some .string=>some (.int .i64 l.length)|_=>none
 |.sl _ _ _ _ n=>if kI P t then some (.int .i64 n)else none
 |.vs _ els=>if kI P t then some (.int .i64 els.length)else none
 |.nils=>if kI P t then some (.int .i64 0)else none
 |_=>none
def QC(places:List (Nat×Nat))(cells:List V):List (Nat×V)→Option (List V)
 |[]=>some cells
 |(i,v)::rest=>match places[i]? with
  |none=>none
  |some (off,size)=>if v.plain&&(Nat.beq v.cells.length size&&Nat.ble (off+size) cells.length)then QC places (cells.take off++v.cells++cells.drop (off+size)) rest else none
def zgw(P:Program)(t:Nat)(parts:List (Nat×V)):Option (List V) :=
 match P.info? t,P.underlying t with
 |some it,some (.struct fields) =>
  match it.zero,fields.toList.mapM (fun f=>(P.info? f.type).map fun i=>(f.offset,i.size))with
  |some z,some places=>QC places (z.cells.toList.map zgr) parts
  |_,_=>none
 |some it,some (.array n e) =>
  match it.zero,P.info? e with
  |some z,some ie=>QC ((List.range n).map fun i=>(i*ie.size,ie.size)) (z.cells.toList.map zgr) parts
  |_,_=>none
 |_,_=>none
def biV(P:Program)(b:Builtin)(vs:List V)(ts:List TypeId):Option V :=
 match b with
 |.len=>match vs,ts with|[v],[t]=>zzf P t v|_,_=>none
 |.min=>match vs with|[.int k a,.int k' b]=>if k=k' then some (.int k (min a b))else none|_=>none
 |.max=>match vs with
  |[.int k a,.int k' b]=>if k=k' then some (.int k (max a b))else none
  |[.int k a,.int k' b,.int k'' c]=>if k=k' then if k=k'' then some (.int k (max (max a b) c))else none else none
  |_=>none
 |_=>none
def qS(P:Program)(ρ:Env):Op→Option V
 |.move x|.assign x=>some (evV ρ x)
 |.pick c a b=>match evV ρ c with|.bool t=>some (zej t (evV ρ a) (evV ρ b))|_=>none
 |.binOp op t x y _=>match op with
  |.eql=>match KZ P t (evV ρ x) (evV ρ y)with
   |some b=>some (.bool b)
   |none=>match KZ P t (evV ρ y) (evV ρ x)with
    |some b=>some (.bool b)
    |none=>zah P .eql t (evV ρ x) (evV ρ y)
  |.neq=>match KZ P t (evV ρ x) (evV ρ y)with
   |some b=>some (.bool (!b))
   |none=>match KZ P t (evV ρ y) (evV ρ x)with
    |some b=>some (.bool (!b))
    |none=>zah P .neq t (evV ρ x) (evV ρ y)
  |op=>zah P op t (evV ρ x) (evV ρ y)
 |.unOp .not _ x=>match evV ρ x with|.bool b=>some (.bool (!b))|_=>none
 |.unOp .neg _ x=>match evV ρ x with|.int k n=>some (.int k (k.wrap (0-n)))|_=>none
 |.extract x i=>match evV ρ x with|.tup vs=>vs[i]?|_=>none
 |.makeFunc (.func f) first cap=>some (.fn f (first.toList.map (evV ρ)) (cap.toList.map (evV ρ)))
 |.convert src dst x=>zz6 P src dst (evV ρ x)
 |.fieldAddr s x f=>match K5 P s f with
  |some o=>match evV ρ x with
   |.ptr k L off=>some (.ptr k L (off+o))
   |.vp cs off=>some (.vp cs (off+o))
   |_=>none
  |none=>none
 |.field s x f=>match evV ρ x with|.agg cs=>zai P s f cs|_=>none
 |.load t a=>match evV ρ a with|.vp cs off=>atV P t cs off|_=>none
 |.nilCheck x=>match evV ρ x with
  |.ptr k L off=>some (.ptr k L off)
  |.vp cs off=>some (.vp cs off)
  |.fn f first caps=>some (.fn f first caps)
  |_=>none
 |.call ⟨.builtin b,args,ts⟩=>biV P b (args.toList.map (evV ρ)) ts.toList
 |.build t parts=>(zgw P t (parts.toList.map fun p=>(p.1,evV ρ p.2))).map .agg
 |_=>none
def jf:Value→Bool|.pointer _|.slice ..|.map _|.func ..|.nilFunc=>true|_=>false
section
variable{P:Program}{ρr:zR}{w:World}{dst:Option Tmp}{ty:TypeId}{pos:String}{aft:Array Edge}{gd:Option (Nat×Bool)}{m:Option M}{Z:ZM}
theorem zel{t t':TypeId}{x y:Operand}{X Y:Value}{b:Bool}(hx:ev ρr x=X)(hy:ev ρr y=Y)(h1:jf X=true)(h2:jf Y=true)(h:(Op.equalIn (9999+1) t X Y).run P w=.ok b w):
  (execOp (ev ρr) ⟨dst,.binOp .eql t x y t',ty,pos,aft,gd⟩).run P w=.ok (.value (.bool b)) w∧(execOp (ev ρr) ⟨dst,.binOp .neq t x y t',ty,pos,aft,gd⟩).run P w=.ok (.value (.bool (!b))) w:=by
 have h':(Op.equal t X Y).run P w=.ok b w:=h
 cases X<;>simp only[jf,Bool.false_eq_true]at h1<;>cases Y<;>simp only[jf,Bool.false_eq_true]at h2 <;>
  exact⟨by simp only[execOp,hx,hy,eqGuard,binOp];simp[h'],by simp only[execOp,hx,hy,eqGuard,binOp];simp[h']⟩
theorem zl6(d:Nat){t:TypeId}{u v:V}{X Y:Value}{b:Bool}(hx:Rep m Z u X)(hy:Rep m Z v Y)(hf:WD u v=true)(hn:zl4 P t v=true)(h:zq3 u=some b):
  jf X=true∧jf Y=true∧(Op.equalIn (d+1) t X Y).run P w=.ok b w∧(Op.equalIn (d+1) t Y X).run P w=.ok b w:=by
 have fin:∀{b':Bool},some b'=some b→b'=b:=fun e=>by injection e
 cases v with
 |nilp =>
  simp only[zl4]at hn;split at hn
  ·rename_i ht
   simp only[Rep]at hy;subst hy
   cases u<;>first
    |(cases hf;done)
    |(simp only[Rep]at hx;cases fin h;subst hx;simp[jf,Op.equalIn,run_underlying ht];done)
    |(simp only[Rep]at hx;cases fin h;obtain⟨_,_,_,_,rfl⟩:=hx;simp[jf,Op.equalIn,run_underlying ht];done)
    |(simp only[Rep]at hx;cases fin h;obtain⟨_,rfl,_⟩:=hx;simp[jf,Op.equalIn,run_underlying ht];done)
  ·cases hn
 |nils =>
  simp only[zl4]at hn;split at hn
  ·rename_i ht
   simp only[Rep]at hy;subst hy
   cases u<;>first
    |(cases hf;done)
    |(simp only[Rep]at hx;cases fin h;subst hx;simp[jf,Op.equalIn,run_underlying ht];done)
    |skip
   ·rename_i sz k L o n
    obtain⟨g,loc,_,_,h3,_,h5⟩:=hx
    cases L with
    |zero=>simp[zq3]at h
    |succ L =>
     cases n with
     |zero=>simp[zq3]at h
     |succ n =>
      cases fin h
      rcases h5 with rfl|⟨h5,_⟩|⟨_,h5,_⟩
      ·simp[jf,Op.equalIn,run_underlying ht]
      ·omega
      ·omega
   rename_i sz els;obtain⟨A,c,rfl,_,_,h4⟩:=hx
   cases els with
   |nil=>simp[zq3]at h
   |cons e els =>
    cases fin h
    rcases h4 with h4|⟨a,rfl,_⟩
    ·cases h4
    ·simp[jf,Op.equalIn,run_underlying ht]
  ·cases hn
 |nilf =>
  simp only[zl4]at hn;split at hn
  ·rename_i ht
   simp only[Rep]at hy;subst hy
   cases u<;>first
    |(cases hf;done)
    |(simp only[Rep]at hx;cases fin h;subst hx;simp[jf,Op.equalIn,run_underlying ht];done)
    |(simp only[Rep]at hx;cases fin h;obtain⟨_,_,rfl,_⟩:=hx;simp[jf,Op.equalIn,run_underlying ht];done)
  ·cases hn
 |nilm =>
  simp only[zl4]at hn;split at hn
  ·rename_i ht
   simp only[Rep]at hy;subst hy
   cases u<;>first
    |(cases hf;done)
    |(simp only[Rep]at hx;cases fin h;subst hx;simp[jf,Op.equalIn,run_underlying ht];done)
    |(simp only[Rep]at hx;cases fin h;obtain⟨_,_,_,_,rfl⟩:=hx;simp[jf,Op.equalIn,run_underlying ht];done)
  ·cases hn
 |_=>cases hn
theorem qn{t t':TypeId}{x y:Operand}{u v:V}{b:Bool}(hx:Rep m Z u (ev ρr x))(hy:Rep m Z v (ev ρr y))(h:KZ P t u v=some b):
  ((execOp (ev ρr) ⟨dst,.binOp .eql t x y t',ty,pos,aft,gd⟩).run P w=.ok (.value (.bool b)) w∧(execOp (ev ρr) ⟨dst,.binOp .neq t x y t',ty,pos,aft,gd⟩).run P w=.ok (.value (.bool (!b))) w) ∧
  ((execOp (ev ρr) ⟨dst,.binOp .eql t y x t',ty,pos,aft,gd⟩).run P w=.ok (.value (.bool b)) w∧(execOp (ev ρr) ⟨dst,.binOp .neq t y x t',ty,pos,aft,gd⟩).run P w=.ok (.value (.bool (!b))) w):=by
 unfold KZ at h;split at h
 ·rename_i hh
  simp only[Bool.and_eq_true]at hh;obtain⟨h1,h2,h3,h4⟩:=zl6 (P:=P) (w:=w) 9999 hx hy hh.2 hh.1 h;exact⟨zel rfl rfl h1 h2 h3,zel rfl rfl h2 h1 h4⟩
 ·cases h
theorem zo.tmps{ρ:Env}{f:Operand→V}{g:Operand→Value}:∀(l:List Operand),(∀x∈l,Rep m Z (f x) (g x))→zo m Z (l.map f) (l.map g)
 |[],_=>rfl
 |x::l,h=>⟨_,_,rfl,h x (List.mem_cons_self ..),zo.tmps (ρ:=ρ) l fun y hy=>h y (List.mem_cons_of_mem _ hy)⟩
theorem QD{off:Nat}{cs us:List V}{l k:List Value}(h:zo m Z cs l)(h':zo m Z us k):zo m Z (cs.take off++us++cs.drop (off+us.length)) (l.take off++k++l.drop (off+k.length)):=by
 rw[h'.length];exact((h.take off).append h').append (h.drop _)
theorem HA{α:Type}(v:α):∀(l:List α)(n:Nat),n<l.length→(l.set n v).take (n+1)=l.take n++[v]
 |[],n,h=>by simp at h
 |a::l,0,_=>by simp
 |a::l,n+1,h=>by
  have:=HA v l n (by simpa using h);simp[this]
theorem HB{α:Type}(v:α):∀(l:List α)(n k:Nat),n<k→(l.set n v).drop k=l.drop k
 |[],n,k,_=>by simp
 |a::l,0,k+1,_=>by simp
 |a::l,n+1,k+1,h=>by
  have:=HB v l n k (by omega);simp[this]
theorem QE{α:Type}:∀(vs:List α)(j off:Nat)(a:Array α),off+j+vs.length≤a.size →
  ((vs.zipIdx j).foldl (fun cs (p:α×Nat)=>cs.setIfInBounds (off+p.2) p.1) a).toList=a.toList.take (off+j)++vs++a.toList.drop (off+j+vs.length)
 |[],j,off,a,_=>by simp
 |v::vs,j,off,a,h=>by
  simp only[List.length_cons]at h;rw[List.zipIdx_cons,List.foldl_cons,QE vs (j+1) off _ (by simp;omega)]
  have hl:a.toList.length=a.size:=by simp
  simp only[Array.toList_setIfInBounds,List.length_cons];rw[← Nat.add_assoc off j 1,HA v a.toList (off+j) (by omega),HB v a.toList (off+j) _ (by omega)];rw[List.append_assoc,List.append_assoc,List.append_assoc]
  congr 1
  simp only[List.cons_append,List.nil_append]
  congr 3;omega
theorem K6{places:List (Nat×Nat)}{place:Nat→Option (Nat×Nat)}(hpl:∀i p,places[i]?=some p→place i=some p):∀{parts:List (Nat×V)}{ps:List (Nat×Value)}{cells r:List V}{a:Array Value},zo m Z cells a.toList →
  (ps.map (·.1)=parts.map (·.1))→zo m Z (parts.map (·.2)) (ps.map (·.2))→QC places cells parts=some r→∃a':Array Value,Instr.fill place a ps=some a'∧zo m Z r a'.toList
 |[],ps,cells,r,a,hc,h1,h2,h=>by
  simp only[QC,Option.some.injEq]at h;subst h;simp at h1;subst h1;exact⟨a,rfl,hc⟩
 |(i,v)::parts,[],cells,r,a,hc,h1,h2,h=>by simp at h1
 |(i,v)::parts,(i',x)::ps,cells,r,a,hc,h1,h2,h=>by
  simp only[List.map_cons,List.cons.injEq]at h1;obtain⟨rfl,h1⟩:=h1;obtain⟨y,ys,h3,h4,h5⟩:=h2;simp only[List.map_cons,List.cons.injEq]at h3;obtain⟨rfl,rfl⟩:=h3;simp only[QC]at h;split at h
  ·cases h
  ·rename_i off size hp
   split at h
   ·rename_i hk
    simp only[Bool.and_eq_true]at hk;obtain⟨hpv,hk1,hk2⟩:=hk;have hk1:=Nat.eq_of_beq_eq_true hk1;have hk2:=Nat.le_of_ble_eq_true hk2;have hcv:=h4.cells hpv
    have hlen:x.cells.size=size:=by have:=hcv.length;simp at this;omega
    have hal:a.size=cells.length:=by have:=hc.length;simpa using this
    have hfold:=QE x.cells.toList 0 off a (by simp;omega);simp only[Nat.add_zero]at hfold
    have hz:(x.cells.zipIdx.foldl (fun cs (p:Value×Nat)=>cs.setIfInBounds (off+p.2) p.1) a)=(x.cells.toList.zipIdx 0).foldl (fun cs (p:Value×Nat)=>cs.setIfInBounds (off+p.2) p.1) a:=by
     rw[← Array.foldl_toList];simp
    have hpr:=QD (off:=off) hc hcv
    have e:off+size=off+v.cells.length:=by omega
    rw[e]at h;obtain⟨a',h6,h7⟩:=K6 hpl (a:=x.cells.zipIdx.foldl (fun cs (p:Value×Nat)=>cs.setIfInBounds (off+p.2) p.1) a) (by rw[hz,hfold];simpa using hpr) h1 h5 h;refine⟨a',?_,h7⟩;simp only[Instr.fill,hpl _ _ hp];rw[if_neg (by simp[hlen];omega)];exact h6
   ·cases h
end
section
variable{P:Program}{ρ:Env}{ρr:zR}{w:World}{dst:Option Tmp}{ty:TypeId}{pos:String}{aft:Array Edge}{gd:Option (Nat×Bool)}{m:Option M}{Z:ZM}
theorem HC(a:Addr)(i j:Nat):(a.add i).add j=a.add (i+j):=Go.Deep.add_add a i j
theorem zq6{t off:Nat}{cs:List V}{v:V}{x:Operand}{a:Addr}{mm:Option M}(hW:∀a x,Z a=some x→w.cell? a=some x)(hx:ev ρr x=.pointer (some (a.add off)))(hr:kV Z a 0 cs)(h:atV P t cs off=some v):
  ∃u,(execOp (ev ρr) ⟨dst,.load t x,ty,pos,aft,gd⟩).run P w=.ok (.value u) w∧Rep mm Z v u:=by
 unfold atV at h;split at h
 ·rename_i hs
  split at h
  ·rename_i v' hv
   split at h
   ·cases h
    obtain⟨u,h1,h2⟩:=hr.get hv;rw[Nat.zero_add]at h1;exact⟨u,qR (jJ hs) hx (hW _ _ h1),h2.none_some⟩
   ·cases h
  ·cases h
 ·rename_i k hs
  split at h
  ·rename_i hk
   have hk:=Nat.le_of_ble_eq_true hk;cases h
   have hex:∀j,j<k→∃u v,cs[off+j]?=some v∧w.cell? (a.add (off+j))=some u∧Rep none Z v u:=fun j hj=>by
    have hc:cs[off+j]?=some (cs[off+j]'(by omega)):=List.getElem?_eq_getElem (by omega);obtain⟨u,h1,h2⟩:=hr.get hc;rw[Nat.zero_add]at h1;exact⟨u,_,hc,hW _ _ h1,h2⟩
   let us:List Value:=(List.range k).map fun j=>((w.cell? (a.add (off+j))).getD Go.undef)
   have hus:us.length=k:=by simp[us]
   have hget:∀j,j<k→us[j]?=w.cell? (a.add (off+j)):=fun j hj=>by
    obtain⟨u,v,_,h2,_⟩:=hex j hj;simp[us,hj,h2]
   refine⟨.agg us.toArray,kH us (vw hs) hx hus fun j u hj=>?_,us,rfl,?_⟩
   ·have hjk:j<k:=by have:=(List.getElem?_eq_some_iff.1 hj).1;omega
    rw[HC,← hget j hjk];exact hj
   ·refine zo.of_get (by simp[hus];omega) fun j v u hv hu=>?_
    have hjk:j<k:=by have:=(List.getElem?_eq_some_iff.1 hu).1;omega
    rw[List.getElem?_take,if_pos hjk,List.getElem?_drop]at hv;obtain⟨u',v',h1,h2,h3⟩:=hex j hjk;rw[hv]at h1;cases h1;rw[hget j hjk,h2]at hu;cases hu;exact h3.none_some
  ·cases h
 ·cases h
theorem zje{t off:Nat}{cs:List V}{v:V}{l:List Value}(hr:zo m Z cs l)(h:atV P t cs off=some v):∃u,(part t l.toArray off).run P w=.ok u w∧Rep m Z v u:=by
 unfold atV at h;split at h
 ·rename_i hs
  split at h
  ·rename_i v' hv
   split at h
   ·cases h
    obtain⟨u,h1,h2⟩:=hr.get hv;exact⟨u,by simp[part,vq (jJ hs),h1],h2⟩
   ·cases h
  ·cases h
 ·rename_i k hs
  split at h
  ·rename_i hk
   have hk:=Nat.le_of_ble_eq_true hk;cases h;obtain⟨d,i,hd,hn,hi,hik⟩:=id (vw hs);refine⟨.agg ((l.drop off).take k).toArray,?_,_,rfl,(hr.drop off).take k⟩
   have e:l.toArray.extract off (off+k)=((l.drop off).take k).toArray:=by
    apply Array.ext';simp[List.extract_eq_drop_take]
   simp[part,qQ (vw hs),sizeOf,typeInfo,hi,hik,e]
  ·cases h
 ·cases h
theorem zem{t:TypeId}{x:Operand}{v r:V}(hx:Rep m Z v (ev ρr x))(h:zzf P t v=some r):
  ∃u,(execOp (ev ρr) ⟨dst,.call ⟨.builtin .len,#[x],#[t]⟩,ty,pos,aft,gd⟩).run P w=.ok (.value u) w∧Rep m Z r u:=by
 have hsl:∀{A n c},ev ρr x=.slice A n c→kI P t=true→(execOp (ev ρr) ⟨dst,.call ⟨.builtin .len,#[x],#[t]⟩,ty,pos,aft,gd⟩).run P w=.ok (.value (i64 n)) w:=fun hv hs=>by
  unfold kI at hs;split at hs
  ·rename_i e ht;exact Wd ht hv
  ·cases hs
 unfold zzf at h;split at h
 ·split at h
  ·rename_i ht
   cases h;exact⟨_,zeh ht hx,rfl⟩
  ·cases h
 ·split at h
  ·rename_i hs
   cases h;obtain⟨_,_,_,_,h3,_,hv|⟨h0,A,hv⟩|⟨_,h0,A,c',hv,_⟩⟩:=hx
   ·exact⟨_,hsl hv hs,rfl⟩
   ·have h6:=(Nat.add_eq_zero_iff.1 (Nat.le_zero.1 (h0▸h3))).2
    subst h6;exact⟨_,hsl hv hs,rfl⟩
   ·subst h0
    exact⟨_,hsl hv hs,rfl⟩
  ·cases h
 ·split at h
  ·rename_i hs
   cases h;obtain⟨_,_,hv,_⟩:=hx;exact⟨_,hsl hv hs,rfl⟩
  ·cases h
 ·split at h
  ·rename_i hs
   cases h;exact⟨_,hsl hx hs,rfl⟩
  ·cases h
 ·cases h
theorem zvl{α β:Type}{f:α→β}{l:List α}{b:β}(h:l.map f=[b]):∃x,l=[x]∧f x=b:=by
 match l,h with
 |[x],h=>exact⟨x,rfl,by simpa using h⟩
theorem zl7{α β:Type}{f:α→β}{l:List α}{b c:β}(h:l.map f=[b,c]):∃x y,l=[x,y]∧f x=b∧f y=c:=by
 match l,h with
 |[x,y],h=>exact⟨x,y,rfl,by simpa using h⟩
theorem zl8{α β:Type}{f:α→β}{l:List α}{b c d:β}(h:l.map f=[b,c,d]):∃x y z,l=[x,y,z]∧f x=b∧f y=c∧f z=d:=by
 match l,h with
 |[x,y,z],h=>exact⟨x,y,z,rfl,by simpa using h⟩
theorem zjf{op:Op}{v:V}(h:qS P ρ op=some v)(hops:∀x∈op.operands,Rep m Z (evV ρ x) (ev ρr x))(hW:∀a x,Z a=some x→w.cell? a=some x):
  wD op=true∧∃u,(execOp (ev ρr) ⟨dst,op,ty,pos,aft,gd⟩).run P w=.ok (.value u) w∧Rep m Z v u:=by
 unfold qS at h;split at h
 ·cases h;exact⟨rfl,_,by simp[execOp],hops _ (by simp[Op.operands])⟩
 ·cases h;exact⟨rfl,_,by simp[execOp],hops _ (by simp[Op.operands])⟩
 ·rename_i c a b
  split at h
  ·rename_i t hc
   cases h;have h1:=hops c (by simp[Op.operands]);rw[hc]at h1;simp only[Rep]at h1;refine⟨rfl,_,?_,zq5 (t:=t) (hops a (by simp[Op.operands])) (hops b (by simp[Op.operands]))⟩;simp only[execOp,h1,asBool];cases t<;>simp
  ·cases h
 ·rename_i op t x y t'
  have hx:=hops x (by simp[Op.operands]);have hy:=hops y (by simp[Op.operands]);split at h
  ·split at h
   ·rename_i b hb
    cases h;exact⟨rfl,_,(qn hx hy hb).1.1,rfl⟩
   ·split at h
    ·rename_i b hb
     cases h;exact⟨rfl,_,(qn hy hx hb).2.1,rfl⟩
    ·exact⟨rfl,J1 hx hy h⟩
  ·split at h
   ·rename_i b hb
    cases h;exact⟨rfl,_,(qn hx hy hb).1.2,rfl⟩
   ·split at h
    ·rename_i b hb
     cases h;exact⟨rfl,_,(qn hy hx hb).2.2,rfl⟩
    ·exact⟨rfl,J1 hx hy h⟩
  ·exact⟨rfl,J1 hx hy h⟩
 ·rename_i t x
  have hx:=hops x (by simp[Op.operands]);split at h
  ·rename_i b hb
   cases h;rw[hb]at hx;simp only[Rep]at hx;exact⟨rfl,_,by simp[execOp,hx,Op.unary],rfl⟩
  ·cases h
 ·rename_i t x
  have hx:=hops x (by simp[Op.operands]);split at h
  ·rename_i k n hb
   cases h;rw[hb]at hx;simp only[Rep]at hx;exact⟨rfl,_,by simp[execOp,hx,Op.unary,Op.intArith],rfl⟩
  ·cases h
 ·rename_i x i
  have hx:=hops x (by simp[Op.operands]);split at h
  ·rename_i vs hv
   rw[hv]at hx;obtain⟨l,e,hl⟩:=hx;obtain⟨u,h1,h2⟩:=hl.get h;exact⟨rfl,u,by simp[execOp,e,Instr.extract,h1],h2⟩
  ·cases h
 ·rename_i f first cap
  cases h
  have e:∀l:Array Operand,l.map (ev ρr)=(l.toList.map (ev ρr)).toArray:=fun l=>Array.ext' (by simp)
  refine⟨rfl,.func (.func f) (first.toList.map (ev ρr)).toArray (cap.toList.map (ev ρr)).toArray,by simp only[execOp,Instr.makeFunc,e];rfl,_,_,rfl,?_,?_⟩
  ·exact zo.tmps (ρ:=ρ) _ fun x hx=>hops x (by simp[Op.operands];exact .inl (by simpa using hx))
  ·exact zo.tmps (ρ:=ρ) _ fun x hx=>hops x (by simp[Op.operands];exact .inr (by simpa using hx))
 ·rename_i src dst' x
  have hx:=hops x (by simp[Op.operands]);unfold zz6 at h;split at h
  ·rename_i d k k' n h1 h2 h3
   cases h;rw[h3]at hx;simp only[Rep]at hx;refine⟨rfl,_,?_,rfl⟩;simp[execOp,convert,run_underlying h1,run_underlying h2,hx,Conv.intToInt]
  ·rename_i d l h1 h2 h3
   cases h;rw[h3]at hx;simp only[Rep]at hx;refine⟨rfl,_,?_,rfl⟩;simp[execOp,convert,run_underlying h1,run_underlying h2,hx]
  ·cases h
 ·rename_i s x f
  have hx:=hops x (by simp[Op.operands]);split at h
  ·rename_i o ho
   have hF:=zek ho;split at h
   ·rename_i k L off hv
    cases h;rw[hv]at hx;obtain⟨g,loc,h1,h2,h3⟩:=hx;exact⟨rfl,_,JY hF rfl h3,g,loc,h1,h2,rfl⟩
   ·rename_i cs off hv
    cases h;rw[hv]at hx;obtain⟨a,h1,h2⟩:=hx;exact⟨rfl,_,Hy hF h1,a,by rw[HC],h2⟩
   ·cases h
  ·cases h
 ·rename_i s x f
  have hx:=hops x (by simp[Op.operands]);split at h
  ·rename_i cs hv
   rw[hv]at hx;obtain⟨l,e,hl⟩:=hx;unfold zai at h;split at h
   ·rename_i fs hs
    split at h
    ·rename_i fld hf
     obtain⟨u,h1,h2⟩:=zje (w:=w) hl h;exact⟨rfl,u,by simp[execOp,Instr.field,run_underlying hs,hf,e,asAgg,h1],h2⟩
    ·cases h
   ·cases h
  ·cases h
 ·rename_i t x
  have hx:=hops x (by simp[Op.operands]);split at h
  ·rename_i cs off hv
   rw[hv]at hx;obtain⟨a,h1,h2⟩:=hx;exact⟨rfl,zq6 hW h1 h2 h⟩
  ·cases h
 ·rename_i x
  have hx:=hops x (by simp[Op.operands]);split at h
  ·rename_i hv
   cases h;rw[hv]at hx;obtain⟨g,loc,h1,h2,h3⟩:=id hx;exact⟨rfl,_,by simp[execOp,h3];rfl,by rw[h3]at hx;exact hx⟩
  ·rename_i hv
   cases h;rw[hv]at hx;obtain⟨a,h3,h4⟩:=id hx;exact⟨rfl,_,by simp[execOp,h3];rfl,by rw[h3]at hx;exact hx⟩
  ·rename_i hv
   cases h;rw[hv]at hx;obtain⟨a,b,h3,h4⟩:=id hx;exact⟨rfl,_,by simp[execOp,h3];rfl,by rw[h3]at hx;exact hx⟩
  ·cases h
 ·rename_i b args ts
  obtain⟨args⟩:=args;obtain⟨ts⟩:=ts;refine⟨rfl,?_⟩
  have hop:∀x∈args,Rep m Z (evV ρ x) (ev ρr x):=fun x hx=>hops x (by simp[Op.operands,Call.operands,hx])
  unfold biV at h;simp only at h;split at h
  ·split at h
   ·rename_i v t hv
    obtain⟨x,rfl,rfl⟩:=zvl hv;exact zem (hop x (by simp)) h
   ·cases h
  ·split at h
   ·rename_i k a k' b hv
    obtain⟨x,y,rfl,hv2⟩:=zl7 hv
    ·skip
     have hx:=hop x (by simp);have hy:=hop y (by simp);rw[hv2.1]at hx;rw[hv2.2]at hy;split at h
     ·rename_i hk;subst hk;cases h
      have h':(if b<a then b else a)=min a b:=by omega
      exact⟨_,by simp[execOp,resolve,invoke,builtin,(show ev ρr x=_ from hx),(show ev ρr y=_ from hy),Builtin.min_,Builtin.min2,h'],rfl⟩
     ·cases h
   ·cases h
  ·split at h
   ·rename_i k a k' b hv
    obtain⟨x,y,rfl,hv2⟩:=zl7 hv
    ·skip
     have hx:=hop x (by simp);have hy:=hop y (by simp);rw[hv2.1]at hx;rw[hv2.2]at hy;split at h
     ·rename_i hk;subst hk;cases h
      have h':(if b>a then b else a)=max a b:=by omega
      exact⟨_,by simp[execOp,resolve,invoke,builtin,(show ev ρr x=_ from hx),(show ev ρr y=_ from hy),Builtin.max_,Builtin.max2,h'],rfl⟩
     ·cases h
   ·rename_i k a k' b k'' c hv
    obtain⟨x,y,z,rfl,hv2⟩:=zl8 hv
    ·skip
     have hx:=hop x (by simp);have hy:=hop y (by simp);have hz:=hop z (by simp);rw[hv2.1]at hx;rw[hv2.2.1]at hy;rw[hv2.2.2]at hz;split at h
     ·rename_i hk;subst hk
      split at h
      ·rename_i hk;subst hk;cases h
       have h1:(if b>a then b else a)=max a b:=by omega
       have h2:(if c>max a b then c else max a b)=max (max a b) c:=by omega
       exact⟨_,by simp[execOp,resolve,invoke,builtin,(show ev ρr x=_ from hx),(show ev ρr y=_ from hy),(show ev ρr z=_ from hz),Builtin.max_,Builtin.max2,h1,h2],rfl⟩
      ·cases h
     ·cases h
   ·cases h
  ·cases h
 ·rename_i t parts
  obtain⟨cs,hb,rfl⟩:=Option.map_eq_some_iff.1 h
  have hparts:zo m Z ((parts.toList.map fun p=>(p.1,evV ρ p.2)).map (·.2)) ((parts.toList.map fun p=>(p.1,ev ρr p.2)).map (·.2)):=by
   rw[List.map_map,List.map_map]
   refine zo.of_get (by simp) fun i v x hv hx=>?_
   rw[List.getElem?_map]at hv hx;obtain⟨p,hp,rfl⟩:=Option.map_eq_some_iff.1 hv;rw[hp]at hx;simp only[Option.map_some,Option.some.injEq,Function.comp]at hx;subst hx;exact hops p.2 (by have:=List.mem_of_getElem? hp;simp only[Op.operands,List.mem_toArray];exact List.mem_map_of_mem this)
  have hfst:(parts.toList.map fun p=>(p.1,ev ρr p.2)).map (·.1)=(parts.toList.map fun p=>(p.1,evV ρ p.2)).map (·.1):=by simp
  have key:∃a:Array Value,P.built t (parts.toList.map fun p=>(p.1,ev ρr p.2))=some a∧zo m Z cs a.toList:=by
   unfold zgw at hb;unfold Program.built;split at hb
   ·rename_i it fields h1 h2
    simp only[h1,h2];split at hb
    ·rename_i z places h3 h4
     simp only[h3,h4];exact K6 (places:=places) (by intro i p hp;simpa using hp) (qm _) hfst hparts hb
    ·cases hb
   ·rename_i it n e h1 h2
    simp only[h1,h2];split at hb
    ·rename_i z ie h3 h4
     simp only[h3,h4];refine K6 (places:=(List.range n).map fun i=>(i*ie.size,ie.size)) ?_ (qm _) hfst hparts hb;intro i p hp;rw[List.getElem?_map]at hp;obtain⟨j,hj,rfl⟩:=Option.map_eq_some_iff.1 hp
     have hlt:i<n:=by have:=(List.getElem?_eq_some_iff.1 hj).1;simpa using this
     rw[List.getElem?_range hlt]at hj;cases hj;rfl
    ·cases hb
   ·cases hb
  obtain⟨a,ha,hr⟩:=key;refine⟨rfl,.agg a,?_,a.toList,by simp,hr⟩;have:=zjd (P:=P) (ρ:=ρr) (w:=w) (dst:=dst) (ty:=ty) (pos:=pos) (aft:=aft) (gd:=gd) (t:=t) (parts:=parts.toList) _ a.toList rfl (by simpa using ha);simpa using this
 ·cases h
end
section
variable{m m':M}{Z Z':ZM}{w w':World}{k:Nat}{o o':Obj}{b:Nat}
theorem HD(ob:Go.Obj){j:Nat}(h:j<w.heap.size):(w.alloc ob).heap[j]?=w.heap[j]?:=Below.heap_alloc w ob j h
theorem xS(hf:∀a x,Z a=some x→w.cell? a=some x){a:Addr}{x:Value}(ha:Z a=some x):a.block<w.heap.size:=World.block_lt_of_cell? w a (hf a x ha)
theorem qo{a:Addr}(h:w'.heap[a.block]?=w.heap[a.block]?):w'.cell? a=w.cell? a:=by simp only[World.cell?,h]
theorem Step.new(ob:Go.Obj)(loc:Nat)(hf:∀a x,Z a=some x→w.cell? a=some x)(hm:∀L,m k L=none)
  (hh:∀m',m' k o.ver=some (w.heap.size,loc)→(∀L l,m' k L=some l→L=o.ver)→(∀k L l,m k L=some l→m' k L=some l)→Holds m' Z (w.alloc ob) k o):
  ∃m',Step m Z [] w m' Z [(k,o)] (w.alloc ob)∧m' k o.ver=some (w.heap.size,loc):=by
 let m':M:=fun k' L=>if k'=k then(if L=o.ver then some (w.heap.size,loc)else none)else m k' L
 have h1:m' k o.ver=some (w.heap.size,loc):=by simp[m']
 have h2:∀k L l,m k L=some l→m' k L=some l:=fun k' L l e=>by
  by_cases hk:k'=k
  ·subst hk;rw[hm]at e;cases e
  ·simp[m',hk,e]
 have h3:∀L l,m' k L=some l→L=o.ver:=fun L l e=>by
  simp only[m',if_true]at e;split at e
  ·assumption
  ·cases e
 refine⟨m',⟨⟨fun a x ha=>?_,fun p hp=>?_,by simp[keys],fun p hp q hq _ _ _=>?_⟩,h2,fun _ _ e=>e,rfl,rfl,rfl,by rw[World.size_alloc];omega,fun b hb _=>HD ob hb,fun k hk=>(by cases hk),fun k' hk=>?_,fun p hp b hb=>?_,fun a x ha=>.inl ha⟩,h1⟩
 ·rw[qo (HD ob (xS hf ha))];exact hf a x ha
 ·simp only[List.mem_singleton]at hp
  subst hp;exact hh m' h1 h3 h2
 ·simp only[List.mem_singleton]at hp hq
  subst hp;subst hq;rfl
 ·funext L
  have:k'≠k:=by simpa[keys]using hk
  simp[m',this]
 ·simp only[List.mem_singleton]at hp
  subst hp;obtain⟨j,c,e1,_⟩:=zqw hb;have e2:=h3 _ _ e1;subst e2;rw[h1]at e1;cases e1;exact .inl (Nat.le_refl _)
def Obj.single:Obj→Bool|.nest ..|.gen _=>false|_=>true
theorem QF{m:M}{k:Nat}{o o':Obj}(hv:o'.ver=o.ver)(h1:o.single=true)(h2:o'.single=true)(b:Nat)(h:blk m (k,o') b):blk m (k,o) b:=by
 cases o<;>cases o'<;>simp only[Obj.single,Bool.false_eq_true]at h1 h2<;>(simp only[blk,jI,hv]at h ⊢;exact h)
theorem Step.write(hs:xx m Z [(k,o)] w)(hb:blk m (k,o) b)(hv:∀b2,blk m (k,o') b2→blk m (k,o) b2)(h1:w'.os=w.os)(h2:w'.tape=w.tape)(h3:w'.output=w.output)(h4:w'.heap.size=w.heap.size)
  (hw:∀j,j≠b→w'.heap[j]?=w.heap[j]?) (hz:∀a x,Z a=some x→a.block=b→w'.cell? a=some x) (hh:Holds m Z w' k o'):Step m Z [(k,o)] w m Z [(k,o')] w':=by
 refine⟨⟨fun a x ha=>?_,fun p hp=>?_,by simp[keys],fun p hp q hq _ _ _=>?_⟩,fun _ _ _ e=>e,fun _ _ e=>e,h1,h2,h3,by omega,fun j hj hn=>hw j fun e=>?_,fun k hk=>?_,fun _ _=>rfl,fun p hp b2 hb2=>?_,fun a x ha=>.inl ha⟩
 ·by_cases e:a.block=b
  ·exact hz a x ha e
  ·rw[qo (hw _ e)];exact hs.frozen a x ha
 ·simp only[List.mem_singleton]at hp
  subst hp;exact hh
 ·simp only[List.mem_singleton]at hp hq
  subst hp;subst hq;rfl
 ·subst e;exact hn _ (List.mem_singleton.2 rfl) hb
 ·simpa[keys]using hk
 ·simp only[List.mem_singleton]at hp
  subst hp;exact .inr ⟨_,List.mem_singleton.2 rfl,hv _ hb2⟩
end
def qT(P:Program)(t n:Nat):Bool:=match P.info? t with|some i=>Nat.beq i.size n|none=>false
def zeroV(P:Program)(t:Nat):Option (List V) :=
 match P.info? t with
 |some i=>match i.zero with|some z=>some (z.cells.toList.map zgr)|none=>none
 |none=>none
def uK(P:Program)(t:Nat):Option (Nat×Nat) :=
 match P.underlying t with
 |some (.slice e)=>match P.info? e with
  |some i=>if Nat.ble 1 i.size&&i.zero.isSome then some (e,i.size)else none
  |none=>none
 |_=>none
def zjg(n sz:Nat)(parts:List (Nat×V)):Option (List (List V)) :=
 if(parts.map (·.1))=List.range n then
  if parts.all (fun p=>p.2.plain&&(Nat.beq p.2.cells.length sz&&(p.2.cells.all V.one&&p.2.refs.isEmpty)))then some (parts.map (·.2.cells))else none
 else none
section
variable{P:Program}{ρ:Env}{w:World}{dst:Option Tmp}{ty:TypeId}{pos:String}{aft:Array Edge}{gd:Option (Nat×Bool)}
theorem zq7{op:Op}{v:V}(h:qS P ρ op=some v):Loc P ⟨dst,op,ty,pos,aft,gd⟩ ρ [] v []:=by
 intro ρr m Z w hops hs _;obtain⟨hn,u,h1,h2⟩:=zjf (P:=P) (w:=w) (dst:=dst) (ty:=ty) (pos:=pos) (aft:=aft) (gd:=gd) h hops hs.frozen;exact⟨hn,.inl ⟨u,w,h1,m,Z,Step.refl hs,h2⟩⟩
theorem zgx{t k off:Nat}{a:Operand}{bt:Nat}{cs:List V}{v:V}(ha:evV ρ a=.ptr k 0 off)(h:atV P t cs off=some v):Loc P ⟨dst,.load t a,ty,pos,aft,gd⟩ ρ [(k,.box bt cs)] v [(k,.box bt cs)]:=by
 intro ρr m Z w hops hs _;have hx:=hops a (by simp[Op.operands]);rw[ha]at hx;obtain⟨f,loc,h1,h2,h3⟩:=hx;cases h1;obtain⟨b,cur,g1,g2,g3,g4,g5⟩:=hs.holds _ (List.mem_singleton.2 rfl);rw[g1]at h2;cases h2
 have hcell:∀j u,cur.toList[j]?=some u→w.cell? ⟨b,j,none⟩=some u:=fun j u hu=>by
  rw[cell_of_row w b j cur bt (0,0) g2];simpa using hu
 refine⟨rfl,.inl ?_⟩;unfold atV at h;split at h
 ·rename_i hsh
  split at h
  ·rename_i v' hv
   split at h
   ·cases h
    obtain⟨u,h4,h5⟩:=g3.get hv;exact⟨u,w,qR (jJ hsh) h3 (hcell _ _ h4),m,Z,Step.refl hs,h5⟩
   ·cases h
  ·cases h
 ·rename_i n hsh
  split at h
  ·rename_i hk
   have hk:=Nat.le_of_ble_eq_true hk;cases h;have hl:=g3.length;refine⟨.agg ((cur.toList.drop off).take n).toArray,w,kH _ (vw hsh) h3 (by simp at hl ⊢;omega) fun j u hj=>?_,m,Z,Step.refl hs,_,rfl,(g3.drop off).take n⟩;rw[Addr.add_lit]
   have hjn:j<n:=by have:=(List.getElem?_eq_some_iff.1 hj).1;simp at this;omega
   rw[List.getElem?_take,if_pos hjn,List.getElem?_drop]at hj;exact hcell _ _ hj
  ·cases h
 ·cases h
theorem zl9{t k off bt:Nat}{a x:Operand}{cs:List V}(ha:evV ρ a=.ptr k 0 off)(hp:(evV ρ x).plain=true)(h1:(evV ρ x).cells.all V.one=true)(hsz:qT P t (evV ρ x).cells.length=true)(hfit:off+(evV ρ x).cells.length≤cs.length):
  Loc P ⟨dst,.store t a x,ty,pos,aft,gd⟩ ρ [(k,.box bt cs)] .no [(k,.box bt (cs.take off++(evV ρ x).cells++cs.drop (off+(evV ρ x).cells.length)))]:=by
 intro ρr m Z w hops hs _;have hx:=hops a (by simp[Op.operands]);rw[ha]at hx;obtain⟨f,loc,e1,h2,h3⟩:=hx;cases e1;obtain⟨b,cur,g1,g2,g3,g4,g5⟩:=hs.holds _ (List.mem_singleton.2 rfl);rw[g1]at h2;cases h2;have hv:=(hops x (by simp[Op.operands])).cells hp;have hlv:=hv.length;have hl:=g3.length
 have hones:∀u∈(ev ρr x).cells.toList,u.oneCell'=true:=fun u hu=>by
  obtain⟨i,hi,he⟩:=List.getElem_of_mem hu
  have hg:(ev ρr x).cells.toList[i]?=some u:=by rw[← he];exact List.getElem?_eq_getElem hi
  have hvi:(evV ρ x).cells[i]?=some ((evV ρ x).cells[i]'(by omega)):=List.getElem?_eq_getElem (by omega);obtain⟨u',h4,h5⟩:=hv.get hvi;rw[hg]at h4;cases h4;exact h5.one ((List.all_eq_true.1 h1) _ (List.getElem_mem _))
 unfold qT at hsz;split at hsz
 ·rename_i i hi
  have hik:=Nat.eq_of_beq_eq_true hsz;have hst:=run_storeCells_at P b off bt (ev ρr x).cells.toList 0 cur w g2 (by simp at hl hlv ⊢;omega) hones;simp only[Nat.add_zero]at hst
  have e:(ev ρr x).cells=(ev ρr x).cells.toList.toArray:=by simp
  refine⟨rfl,.inr (.inl ⟨w.setRow b (cur.toList.take off++(ev ρr x).cells.toList++cur.toList.drop (off+(ev ρr x).cells.toList.length)).toArray,?_,m,Z,?_,rfl⟩)⟩
  ·have hsz2:(ev ρr x).cells.size=i.size:=by simp at hlv;omega
   simp[execOp,Instr.storeAt,h3,Instr.sureAddr,storeVar,sizeOf,typeInfo,hi,hsz2,hst]
  ·refine Step.write (b:=b) hs (by simp[blk,jI,Obj.ver,g1]) (QF rfl rfl rfl) rfl rfl rfl (by simp) (fun j hj=>setRow_other w b j _ hj) (fun a x ha e=>absurd e (g4 a x ha)) ?_
   exact⟨b,_,g1,setRow_heap w b _ _ bt _ g2,by simpa using QD (off:=off) g3 hv,g4,g5⟩
 ·cases hsz
theorem zma{t d:Nat}{cs:List V}(h:zeroV P t=some cs):Loc P ⟨dst,.alloc t,ty,pos,aft,gd⟩ ρ [] (.ptr d 0 0) [(d,.box t cs)]:=by
 intro ρr m Z w hops hs hfr;unfold zeroV at h;split at h
 ·rename_i i hi
  split at h
  ·rename_i z hz
   cases h
   obtain⟨m',h1,h2⟩:=Step.new (m:=m) (Z:=Z) (w:=w) (k:=d) (o:=.box t (z.cells.toList.map zgr)) (.cells z.cells t) 1 hs.frozen (fun L=>hfr d (by simp[keys]) (by simp[keys]) L) fun m' g1 g2 g3 =>
    ⟨w.heap.size,z.cells,g1,World.alloc_heap_new w _,qm _,fun a x ha e=>by have:=xS hs.frozen ha;omega,fun L l e=>by have:=g2 L l e;simp only[Obj.ver]at this;omega⟩
   refine⟨rfl,.inl ⟨.pointer (some ⟨w.heap.size,0,none⟩),w.alloc (.cells z.cells t),?_,m',Z,h1,m',_,rfl,h2,rfl⟩⟩;simp[execOp,Instr.alloc,zeroValue,typeInfo,hi,hz,newVar,newRow,newObj];rfl
  ·cases h
 ·cases h
theorem zvm{t d:Nat}{x:Operand}(hp:(evV ρ x).plain=true):Loc P ⟨dst,.box t x,ty,pos,aft,gd⟩ ρ [] (.ptr d 0 0) [(d,.box t (evV ρ x).cells)]:=by
 intro ρr m Z w hops hs hfr;have hv:=(hops x (by simp[Op.operands])).cells hp
 obtain⟨m',h1,h2⟩:=Step.new (m:=m) (Z:=Z) (w:=w) (k:=d) (o:=.box t (evV ρ x).cells) (.cells (ev ρr x).cells t) 1 hs.frozen (fun L=>hfr d (by simp[keys]) (by simp[keys]) L) fun m' g1 g2 g3 =>
  ⟨w.heap.size,(ev ρr x).cells,g1,World.alloc_heap_new w _,hv.up (fun _ _ e=>e) (fun f e=>by cases e;exact⟨m',rfl,g3⟩),fun a x ha e=>by have:=xS hs.frozen ha;omega,fun L l e=>by have:=g2 L l e;simp only[Obj.ver]at this;omega⟩
 refine⟨rfl,.inl ⟨.pointer (some ⟨w.heap.size,0,none⟩),w.alloc (.cells (ev ρr x).cells t),?_,m',Z,h1,m',_,rfl,h2,rfl⟩⟩;simp[execOp,Instr.box,newVar,newRow,newObj];rfl
theorem QG{t d:Nat}:Loc P ⟨dst,.makeMap t none,ty,pos,aft,gd⟩ ρ [] (.mp d) [(d,.map [])]:=by
 intro ρr m Z w hops hs hfr
 obtain⟨m',h1,h2⟩:=Step.new (m:=m) (Z:=Z) (w:=w) (k:=d) (o:=.map []) (.map #[] 0) 1 hs.frozen (fun L=>hfr d (by simp[keys]) (by simp[keys]) L) fun m' g1 g2 g3 =>
  ⟨w.heap.size,#[],0,g1,World.alloc_heap_new w _,rfl,by simp,by simp,fun a x ha e=>by (have:=xS hs.frozen ha;omega),0,fun L l e=>by have:=g2 L l e;simp only[Obj.ver]at this;omega⟩
 refine⟨rfl,.inl ⟨.map (some w.heap.size),w.alloc (.map #[] 0),?_,m',Z,h1,m',_,rfl,h2,rfl⟩⟩;simp[execOp,Instr.makeMap,newObj];rfl
theorem zaj{n sz:Nat}:∀(parts:List (Nat×V))(j:Nat)(cells:List V),parts.map (·.1)=List.range' j parts.length→j+parts.length=n→cells.length=n*sz→(∀p∈parts,p.2.plain=true∧p.2.cells.length=sz) →
  QC ((List.range n).map fun i=>(i*sz,sz)) cells parts=some (cells.take (j*sz)++(parts.map (·.2.cells)).flatten)
 |[],j,cells,_,hn,hc,_=>by
  simp only[QC,List.map_nil,List.flatten_nil,List.append_nil,Option.some.injEq];rw[List.take_of_length_le];simp at hn;subst hn;omega
 |(i,v)::parts,j,cells,h1,hn,hc,hp=>by
  simp only[List.map_cons,List.length_cons,List.range'_succ,List.cons.injEq]at h1 hn;obtain⟨rfl,h1⟩:=h1;obtain⟨hv,hvl⟩:=hp (i,v) (List.mem_cons_self ..)
  have hin:i<n:=by omega
  have hpl:((List.range n).map fun i=>(i*sz,sz))[i]?=some (i*sz,sz):=by
   rw[List.getElem?_map,List.getElem?_range hin];rfl
  have hle:i*sz+sz≤n*sz:=by
   have:(i+1)*sz≤n*sz:=Nat.mul_le_mul_right sz hin
   rwa [Nat.succ_mul]at this
  simp only[QC,hpl,hv,hvl,Nat.beq_refl,Bool.true_and]
  have hb:Nat.ble (i*sz+sz) cells.length=true:=by rw[hc];exact Nat.ble_eq_true_of_le hle
  rw[if_pos hb];rw[zaj parts (i+1) _ h1 (by omega) (by simp only[List.length_append,List.length_take,List.length_drop,hvl,hc];omega) (fun p hp'=>hp p (List.mem_cons_of_mem _ hp'))]
  congr 1
  have e:(i+1)*sz=(cells.take (i*sz)++v.cells).length:=by simp[hvl,Nat.succ_mul];omega
  rw[e,List.take_left' rfl];simp
theorem Wg{t d e n sz:Nat}{parts:List (Nat×Operand)}{els:List (List V)}(hT:uK P t=some (e,sz))(hsz:Nat.ble (n*sz) 16777216=true)(h:zjg n sz (parts.map fun p=>(p.1,evV ρ p.2))=some els):
  Loc P ⟨dst,.buildSlice t n parts.toArray,ty,pos,aft,gd⟩ ρ [] (.sl sz d n 0 n) [(d,.row e sz 0 els)]:=by
 intro ρr m Z w hops hs hfr;have hsz:=Nat.le_of_ble_eq_true hsz;unfold uK at hT;split at hT
 ·rename_i e' hu
  split at hT
  ·rename_i i hi
   split at hT
   ·rename_i hc
    simp only[Option.some.injEq,Prod.mk.injEq]at hT;obtain⟨rfl,rfl⟩:=hT;simp only[Bool.and_eq_true]at hc;have h0:=Nat.le_of_ble_eq_true hc.1;obtain⟨z,hz⟩:=Option.isSome_iff_exists.1 hc.2;unfold zjg at h;split at h
    ·rename_i hpos
     split at h
     ·rename_i hall
      cases h
      have hlen:parts.length=n:=by have:=congrArg List.length hpos;simpa using this
      have hall':∀p∈parts.map (fun p=>(p.1,evV ρ p.2)),p.2.plain=true∧p.2.cells.length=i.size∧p.2.cells.all V.one=true∧p.2.refs=[]:=fun p hp=>by
       have:=(List.all_eq_true.1 hall) p hp;simp only[Bool.and_eq_true,List.isEmpty_iff]at this;exact⟨this.1,Nat.eq_of_beq_eq_true this.2.1,this.2.2.1,this.2.2.2⟩
      have hcells:((Array.range (n*i.size)).map fun j=>z.cells[j % z.cells.size]!).toList.length=n*i.size:=by simp
      have hfill:=zaj (n:=n) (sz:=i.size) (parts.map fun p=>(p.1,evV ρ p.2)) 0 (((Array.range (n*i.size)).map fun j=>z.cells[j % z.cells.size]!).toList.map fun _=>V.undef) (by rw[hpos];simp[List.range_eq_range',hlen]) (by simp[hlen]) (by simp) (fun p hp=>⟨(hall' p hp).1,(hall' p hp).2.1⟩);simp only[Nat.zero_mul,List.take_zero,List.nil_append]at hfill
      have hun:∀l:List Value,zo (some m) Z (l.map fun _=>V.undef) l:=fun l=>by
       induction l with
       |nil=>rfl
       |cons x l ih=>exact⟨x,l,rfl,trivial,ih⟩
      obtain⟨a',hf1,hf2⟩:=K6 (m:=some m) (Z:=Z) (places:=(List.range n).map fun j=>(j*i.size,i.size)) (place:=fun j=>some (j*i.size,i.size)) (by
       intro j p hp;rw[List.getElem?_map]at hp;obtain⟨j',hj',rfl⟩:=Option.map_eq_some_iff.1 hp
       have hlt:j<n:=by have:=(List.getElem?_eq_some_iff.1 hj').1;simpa using this
       rw[List.getElem?_range hlt]at hj'
       cases hj';rfl) (ps:=parts.map fun p=>(p.1,ev ρr p.2)) (hun _) (by simp) (by
        rw[List.map_map,List.map_map]
        refine zo.of_get (by simp) fun i v x hv hx=>?_
        rw[List.getElem?_map]at hv hx;obtain⟨p,hp,rfl⟩:=Option.map_eq_some_iff.1 hv;rw[hp]at hx;simp only[Option.map_some,Option.some.injEq,Function.comp]at hx;subst hx
        exact hops p.2 (by have:=List.mem_of_getElem? hp;simp only[Op.operands,List.mem_toArray];exact List.mem_map_of_mem this)) hfill
      have hels:(((parts.map fun p=>(p.1,evV ρ p.2)).map (·.2.cells)):List (List V)).length=n:=by simp[hlen]
      have hflat:∀l:List (Nat×V),(∀p∈l,p.2.refs=[])→yI (l.map (·.2.cells)).flatten=[]:=fun l=>by
       induction l with
       |nil=>intro _;rfl
       |cons p l ih =>
        intro hp
        have happ:∀a b:List V,yI (a++b)=yI a++yI b:=fun a b=>by
         induction a with
         |nil=>rfl
         |cons x a ih=>simp[yI,ih]
        rw[List.map_cons,List.flatten_cons,happ,ih (fun q hq=>hp q (List.mem_cons_of_mem _ hq)),List.append_nil];have h1:=hp p (List.mem_cons_self ..);cases hv:p.2<;>rw[hv]at h1<;>simp only[V.cells,yI,List.append_nil]<;>exact h1
      have hla:∀l:List (Nat×V),(∀p∈l,p.2.cells.length=i.size)→(l.map (·.2.cells)).flatten.length=l.length*i.size:=fun l=>by
       induction l with
       |nil=>intro _;simp
       |cons p l ih =>
        intro hp;rw[List.map_cons,List.flatten_cons,List.length_append,ih (fun q hq=>hp q (List.mem_cons_of_mem _ hq)),hp p (List.mem_cons_self ..),List.length_cons,Nat.succ_mul];omega
      have hasz:a'.size=n*i.size:=by
       have h1:=hf2.length;rw[hla _ (fun p hp=>(hall' p hp).2.1)]at h1;simpa[hlen]using h1
      have hf3:=zo.flat _ _ (hflat _ fun p hp=>(hall' p hp).2.2.2) hf2
      have hnm:n≤maxLen:=by
       have:n≤n*i.size:=Nat.le_mul_of_pos_right n h0;simp only[maxLen];omega
      obtain⟨m',h1,h2⟩:=Step.new (m:=m) (Z:=Z) (w:=w) (k:=d) (o:=.row e' i.size 0 ((parts.map fun p=>(p.1,evV ρ p.2)).map (·.2.cells))) (.cells a' e') n hs.frozen (fun L=>hfr d (by simp[keys]) (by simp[keys]) L) fun m' g1 g2 g3=>by
       by_cases hn0:n=0
       ·have he:((parts.map fun p=>(p.1,evV ρ p.2)).map (·.2.cells))=[]:=List.eq_nil_of_length_eq_zero (by rw[hels,hn0])
        have hv0:(Obj.row e' i.size 0 ((parts.map fun p=>(p.1,evV ρ p.2)).map (·.2.cells))).ver=0:=by simp only[Obj.ver];rw[hels,hn0]
        rw[hv0]at g1;subst hn0;exact .inl ⟨h0,he,rfl,⟨_,g1⟩,fun L l e=>by have:=g2 L l e;rw[hv0]at this;omega⟩
       refine .inr ⟨w.heap.size,n,a',(0,0),g1,by omega,World.alloc_heap_new w _,by rw[hels];exact Nat.le_refl _,hnm,hasz,h0,?_,?_,by simp,by simp,fun a x ha e=>by have:=xS hs.frozen ha;omega,fun L l e=>by have:=g2 L l e;simp only[Obj.ver]at this;omega,fun off x ho=>by omega⟩
       ·rw[hels,List.take_of_length_le (by simp[hasz])]
        exact hf3
       ·intro x hx
        obtain⟨p,hp,rfl⟩:=List.mem_map.1 hx;exact(hall' p hp).2.1
      have hver:(Obj.row e' i.size 0 ((parts.map fun p=>(p.1,evV ρ p.2)).map (·.2.cells))).ver=n:=hels;rw[hver]at h2;refine⟨rfl,.inl ⟨.slice (some ⟨w.heap.size,0,none⟩) n n,w.alloc (.cells a' e'),?_,m',Z,h1,m',_,rfl,h2,by simp,hnm,.inl (by simp)⟩⟩
      have e2:(parts.toArray.map fun x=>(x.1,ev ρr x.2)).toList=parts.map fun p=>(p.1,ev ρr p.2):=by simp
      have hgt:¬n*i.size>2 ^ 24:=by omega
      simp only[execOp,Instr.buildSlice,Sem.run_bind,run_underlying hu,Result.andThen_ok,sizeOf,typeInfo];simp only[program,Sem.run,hi,Sem.run_bind,Sem.run_pure,Result.andThen_ok,if_neg hgt,e2];by_cases hn0:n*i.size=0
      ·have hA:∀f:Nat→Value,(Array.range (n*i.size)).map f=#[]:=fun f=>by
        have e0:Array.range 0=(#[]:Array Nat):=rfl;rw[hn0,e0];simp
       rw[hA]at hf1;simp only[if_pos hn0,Sem.run_pure,Result.andThen_ok,hA,hf1];simp[newRow,newObj];rfl
      ·simp only[if_neg hn0,Sem.run_bind,zeroValue,typeInfo,program,Sem.run,hi,hz,Sem.run_pure,Result.andThen_ok,hf1]
       simp[newRow,newObj];rfl
     ·cases h
    ·cases h
   ·cases hT
  ·cases hT
 ·cases hT
end
def Heap.set:Heap→Nat→Obj→Heap
 |[],_,_=>[]
 |(k',o')::r,k,o=>bif Nat.beq k k' then(k',o)::r else(k',o')::Heap.set r k o
def wE(k:Nat):Heap→Bool
 |[]=>false
 |(k',_)::r=>bif Nat.beq k k' then true else wE k r
theorem zQ{k:Nat}:∀{H:Heap},wE k H=true↔k∈keys H
 |[]=>by simp[wE,keys]
 |(k',o)::r=>by
  simp only[wE,keys,List.map_cons,List.mem_cons]
  cases hb:Nat.beq k k' with
  |true=>simp[Nat.eq_of_beq_eq_true hb]
  |false =>
   have:k≠k':=fun e=>by subst e;rw[Nat.beq_refl]at hb;cases hb
   simp only[cond_false,this,false_or];exact zQ
theorem zvn{H:Heap}{k:Nat}{o:Obj}(h:H.get k=some o):je [k] H=some [(k,o)]:=by simp[je,h]
def zak(d:Option Nat)(v:V)(ρ:Env):Env:=match d with|some d=>(d,v)::ρ|none=>ρ
section
variable{K0:List Nat}{c:Ctx K0}{P:Program}{r:Option Nat}{N:Nat}{Q:yf}{ρ:Env}{H H':Heap}{ds:List Deferred}{all rest:List Oper}{o:Oper}
theorem JX.perm{ρr:zR}{w:World}(hp:H.Perm H')(S:JX c ρ H ρr w):JX c ρ H' ρr w:=by
 obtain⟨m,Z,S,hR⟩:=S;exact⟨m,Z,⟨S.step.permR hp,fun k hk=>S.dom k fun h=>hk ((hp.map _).mem_iff.1 h)⟩,hR⟩
theorem zvo(hp:H.Perm H')(h:KY c P r N all Q rest ρ H' ds):KY c P r N all Q rest ρ H ds:=fun ρr w ds1 S hM=>h ρr w ds1 (S.perm hp) hM
theorem zq8(h:(keys H).Nodup→KY c P r N all Q rest ρ H ds):KY c P r N all Q rest ρ H ds:=fun ρr w ds1 S hM=>by
 obtain⟨m,Z,S',hR⟩:=id S;exact h S'.step.sim.nodup ρr w ds1 S hM
theorem zz7{F F':Heap}{v:V}(ks:List Nat)(hd:(match o.dst with|some d=>Nat.ble (d+1) N|none=>true)=true)(hw:zS all ρ o=some true)(hks:nodupB ks=true)(hF:je ks H=some F)(hl:Loc P o ρ F v F')(hfr:uW F' ks H=true)
  (h:KY c P r N all Q rest (zak o.dst v ρ) (F'++vU ks H) ds):KY c P r N all Q (o::rest) ρ H ds:=by
 cases hd':o.dst with
 |none=>rw[hd']at h;exact zvg ks hd' hw hks hF hl hfr h
 |some d=>rw[hd']at h hd;exact zz1 d ks hd' hd hw hks hF hl hfr h
theorem zq9:vU [] H=H:=by simp[vU]
end
def FnA(P:Program)(f:FuncId)(args:List V)(F:Heap)(r:V)(F':Heap):Prop :=
 ∀w m Z vals,xx m Z F w→zo (some m) Z args vals→(∀k,k ∉ keys F→∀L,m k L=none) →
  Calls P f vals.toArray w fun en w'=>∃x m' Z',en=.returned x∧Step m Z F w m' Z' F' w'∧Rep (some m') Z' r x
def zjh(args:List V):Env:=args.zipIdx.map fun p=>(p.2,p.1)
theorem zal{m:Option M}{Z:ZM}:∀(args:List V)(vals:List Value)(j t:Nat),zo m Z args vals→Rep m Z (Env.get ((args.zipIdx j).map fun p=>(p.2,p.1)) t) (if j≤t then vals.getD (t-j) Go.undef else Go.undef)
 |[],vals,j,t,h=>by
  cases h
  show True
  trivial
 |v::args,vals,j,t,h=>by
  obtain⟨x,xs,rfl,h1,h2⟩:=h
  show Rep m Z (bif Nat.beq t j then v else(Env.get ((args.zipIdx (j+1)).map fun p=>(p.2,p.1)) t)) _
  cases hb:Nat.beq t j with
  |true =>
   have:=Nat.eq_of_beq_eq_true hb;subst this;simpa using h1
  |false =>
   have hne:t≠j:=fun e=>by subst e;rw[Nat.beq_refl]at hb;cases hb
   have ih:=zal args xs (j+1) t h2;rw[cond_false];by_cases hj:j≤t
   ·rw[if_pos hj]
    rw[if_pos (by omega)]at ih
    have e:t-j=(t-(j+1))+1:=by omega
    rw[e];simpa using ih
   ·rw[if_neg hj]
    rw[if_neg (by omega)]at ih;exact ih
def zz8(P:Program)(ρ:Env)(H:Heap):ResultVar→Option V
 |.tmp t=>some (ρ.get t)
 |.cell a ty=>match ρ.get a with
  |.ptr k 0 off=>match H.get k with
   |some (.box _ cs)=>atV P ty cs off
   |_=>none
  |_=>none
def zqq(P:Program)(ρ:Env)(H:Heap):List ResultVar→Option (List V)
 |[]=>some []
 |x::l=>match zz8 P ρ H x,zqq P ρ H l with|some v,some vs=>some (v::vs)|_,_=>none
def zzg(fn:Func)(ρ:Env)(H:Heap)(P:Program):Option V :=
 match zqq P ρ H fn.results.toList with
 |some [v]=>some v
 |some vs=>some (.tup vs)
 |none=>none
def zEl(r:V)(F':Heap)(K0:List Nat):Bool :=
 let ks:=keys F'
 nodupB ks&&(K0.all ks.contains&&(r.refs.all ks.contains&&F'.all fun p=>p.2.refs.all ks.contains))
def zEm(P:Program)(fn:Func)(K0:List Nat)(r:V)(F':Heap):yf
 |.normal,ρ,H,ds|.ret,ρ,H,ds=>ds=[]∧zzg fn ρ H P=some r∧je (keys F') H=some F'∧zEl r F' K0=true
 |_,_,_,_=>False
section
variable{P:Program}{f:FuncId}{args:List V}{F F':Heap}{r:V}{N:Nat}
def WE(tmps:Array Value):ResultVar→Sem Value
 |.tmp t=>pure (tmps.getD t Go.undef)
 |.cell a t=>do loadVar t (← asAddr (tmps.getD a Go.undef))
theorem zji{m:M}{Z:ZM}{H:Heap}{w:World}{ρ:Env}{ρr:zR}{v:V}(hs:xx m Z H w)(hR:zeb m Z ρ ρr){tmps:Array Value}(ht:∀t,tmps.getD t Go.undef=ρr t):∀{x:ResultVar},zz8 P ρ H x=some v →
  ∃u,(WE tmps x).run P w=.ok u w∧Rep (some m) Z v u
 |.tmp t,h=>by
  cases h;exact⟨ρr t,by simp only[WE,ht];rfl,hR t⟩
 |.cell a ty,h=>by
  simp only[zz8]at h;split at h
  ·rename_i k off ha
   split at h
   ·rename_i bt cs hk
    obtain⟨b,cur,g1,g2,g3,g4,g5⟩:=hs.holds _ (Heap.get_mem hk);have hr:=hR a;rw[ha]at hr;obtain⟨f',loc,e1,e2,e3⟩:=hr;cases e1;rw[g1]at e2;cases e2
    have hcell:∀j u,cur.toList[j]?=some u→w.cell? ⟨b,j,none⟩=some u:=fun j u hu=>by
     rw[cell_of_row w b j cur bt (0,0) g2];simpa using hu
    unfold atV at h;split at h
    ·rename_i hsh
     split at h
     ·rename_i u hu
      split at h
      ·cases h
       obtain⟨y,h6,h7⟩:=g3.get hu;have hc:=hcell off y h6;refine⟨y,?_,h7⟩;simp[WE,ht,e3,asAddr,loadVar,vq (jJ hsh),load,Sem.run,hc]
      ·cases h
     ·cases h
    ·rename_i n hsh
     split at h
     ·rename_i hk2
      have hk2:=Nat.le_of_ble_eq_true hk2;cases h;have hl:=g3.length
      have hll:((cur.toList.drop off).take n).length=n:=by simp at hl ⊢;omega
      refine⟨.agg ((cur.toList.drop off).take n).toArray,?_,_,rfl,(g3.drop off).take n⟩;obtain⟨d',i',hd',_,hi',hk'⟩:=id (vw hsh)
      have hcs:∀j u,((cur.toList.drop off).take n)[j]?=some u→w.cell? ((⟨b,off,none⟩:Addr).add j)=some u:=fun j u hj=>by
       rw[Addr.add_lit]
       have hjn:j<n:=by have:=(List.getElem?_eq_some_iff.1 hj).1;simp at this;omega
       rw[List.getElem?_take,if_pos hjn,List.getElem?_drop]at hj;exact hcell _ _ hj
      have hld:=run_loadCells_list (P:=P) w (⟨b,off,none⟩:Addr) _ hcs;rw[hll]at hld;simp only[WE,ht,e3,asAddr,loadVar,Sem.run_bind,Sem.run_pure,Result.andThen_ok,qQ (vw hsh),if_true];simp[sizeOf,typeInfo,hi',hk',hld,Sem.run]
     ·cases h
    ·cases h
   ·cases h
  ·cases h
theorem WG{m:M}{Z:ZM}{H:Heap}{w:World}{ρ:Env}{ρr:zR}(hs:xx m Z H w)(hR:zeb m Z ρ ρr){tmps:Array Value}(ht:∀t,tmps.getD t Go.undef=ρr t):∀{l:List ResultVar}{vs:List V},zqq P ρ H l=some vs →
  ∃us,(l.mapM (WE tmps)).run P w=.ok us w∧zo (some m) Z vs us
 |[],vs,h=>by
  cases h;exact⟨[],by simp,rfl⟩
 |x::l,vs,h=>by
  simp only[zqq]at h;split at h
  ·rename_i v vs' h1 h2
   cases h;obtain⟨u,h3,h4⟩:=zji hs hR ht h1;obtain⟨us,h5,h6⟩:=WG hs hR ht h2;exact⟨u::us,by simp[List.mapM_cons,h3,h5],u,us,rfl,h4,h6⟩
  ·cases h
theorem zjj{m:M}{Z:ZM}{H:Heap}{w:World}{ρ:Env}{ρr:zR}{fn:Func}{r:V}(hs:xx m Z H w)(hR:zeb m Z ρ ρr)(h:zzg fn ρ H P=some r){tmps:Array Value}(ht:∀t,tmps.getD t Go.undef=ρr t):
  ∃x,(results fn tmps).run P w=.ok x w∧Rep (some m) Z r x:=by
 have key:∀vs,zqq P ρ H fn.results.toList=some vs→∃us:List Value,(results fn tmps).run P w=.ok (if h:us.toArray.size=1 then us.toArray[0]else .tuple us.toArray) w∧zo (some m) Z vs us:=by
  intro vs hv;obtain⟨us,h1,h2⟩:=WG hs hR ht hv;refine⟨us,?_,h2⟩
  have e:results fn tmps=(do let vs ← fn.results.mapM (WE tmps);pure (if h:vs.size=1 then vs[0]else .tuple vs)):=by
   unfold results
   congr 1
  rw[e,Array.mapM_eq_mapM_toList];simp[h1]
 unfold zzg at h;split at h
 ·rename_i v hv
  cases h;obtain⟨us,h1,h2⟩:=key _ hv;obtain⟨u,us',rfl,h3,h4⟩:=h2;cases h4;exact⟨u,by simpa using h1,h3⟩
 ·rename_i vs hne hv
  cases h;obtain⟨us,h1,h2⟩:=key _ hv
  have hl:us.toArray.size≠1:=fun e=>by
   have:=h2.length;simp only[List.size_toArray]at e;rw[e]at this
   match vs,this with
   |[v],_=>exact hne v rfl
   |[],h=>simp at h
   |_::_::_,h=>simp at h
  rw[dif_neg hl]at h1;exact⟨_,h1,us,rfl,h2⟩
 ·cases h
theorem zgy{K0:List Nat}{c:Ctx K0}{m:M}{Z:ZM}{H:Heap}:∀(Ds:List Nat)(w:World),Ds.Nodup→(∀D∈Ds,w.heap[D]?=some (.deferred (some []))∧c.W0.heap.size≤D)→YS c m Z H w→∃w',Eng.zqv (Ds.map Eng.mark) w w'∧YS c m Z H w'
 |[],w,_,_,S=>⟨w,rfl,S⟩
 |D::Ds,w,hn,hD,S=>by
  obtain⟨h1,h2⟩:=List.nodup_cons.1 hn;obtain⟨h3,h4⟩:=hD D (List.mem_cons_self ..)
  have S':YS c m Z H (w.putObj D (.deferred none)):=S.lps (row:=some D) (Eng.Wf w D _) fun b e=>by
   cases e;exact⟨h4,_,h3,rfl⟩
  obtain⟨w',h5,h6⟩:=zgy Ds _ h2 (fun D' hD'=>by
   obtain⟨h7,h8⟩:=hD D' (List.mem_cons_of_mem _ hD')
   exact⟨(World.putObj_heap_other (fun e=>h1 (by first|(rw[← e];exact hD')|(rw[e];exact hD')))).trans h7,h8⟩) S'
  exact⟨w',⟨D,rfl,h3,h5⟩,h6⟩
theorem zmb{fn:Func}{code:Code}(hf:P.funcs[f]?=some fn)(hb:fn.body=some code)(hN:fn.ntmps=N)(ha:Nat.ble args.length N=true)
  (h:∀c:Ctx (keys F),WpV c P none N code (zEm P fn (keys F) r F') (zjh args) F []):FnA P f args F r F':=by
 intro w m Z vals hs hv hdom;have hvl:=hv.length
 have S:JX (⟨[],w,m,Z,F,rfl,hdom⟩:Ctx (keys F)) (zjh args) F (YR vals) w:=⟨m,Z,⟨Step.refl hs,hdom⟩,fun t=>by
  have:=zal args vals 0 t hv
  simpa[zjh,YR]using this⟩
 have h':=h ⟨[],w,m,Z,F,rfl,hdom⟩ _ _ _ S (yJ.nil rfl);have ha:=Nat.le_of_ble_eq_true ha;refine(callsIn_wide (n:=0)).1 (callsIn_of_wp_marks hf hb trivial ?_)
 refine wpIn_mono (h' _ 0 ⟨?_,rfl,fun t=>?_⟩) fun e a w' hq=>?_
 ·simp;omega
 ·simp only[YR,Array.getD_eq_getD_getElem?,List.getD_eq_getElem?_getD]
  rw[Array.getElem?_append];split
  ·simp
  ·rename_i hlt
   simp only[List.size_toArray]at hlt;rw[List.getElem?_eq_none (by omega)];simp only[List.size_toArray];rw[Array.getElem?_replicate];split<;>rfl
 ·obtain⟨ρr',ds',hf',ρ',H',S',hmk,hq⟩:=hq
  obtain⟨Ds,hds,hn,hD⟩:=hmk.marks rfl
  have key:zEm P fn (keys F) r F' .ret ρ' H' []→∃w2 v,Eng.zqv a.defers w' w2∧(results fn a.tmps).run P w2=.ok v w2∧∃x m' Z',Ending.returned v=.returned x∧Step m Z F w m' Z' F' w2∧Rep (some m') Z' r x:=by
   rintro⟨_,hres,hsel,hfin⟩;simp only[zEl,Bool.and_eq_true]at hfin;obtain⟨h1,h2,h3,h4⟩:=hfin;obtain⟨m',Z',S2,hR⟩:=S';obtain⟨w2,ht,S4⟩:=zgy Ds w' hn hD S2;obtain⟨m2,S3,hc⟩:=S4.cut (keys F') hsel h1 h2 h4;obtain⟨x,hx1,hx2⟩:=zjj S4.step.sim hR hres (tmps:=a.tmps) hf'.get;exact⟨w2,x,by rw[hf'.defs,hds];exact ht,hx1,x,m2,Z',rfl,S3.step,hc _ _ h3 hx2⟩
  cases e with
  |normal =>
   obtain⟨w2,v,ht,hr,hR⟩:=key hq;exact Eng.j6 _ _ _ ht hr hR
  |ret =>
   obtain⟨w2,v,ht,hr,hR⟩:=key hq;exact Eng.j6 _ _ _ ht hr hR
  |panic c=>exact hq.elim
  |exit id=>exact hq.elim
  |goto l=>exact hq.elim
  |outgrown=>exact hq.elim
end
def Obj.ren(σ:Nat→Nat):Obj→Obj
 |.box t cs=>.box t (We σ cs)
 |o=>o
def uX(σ:Nat→Nat)(F:Heap):Heap:=F.map fun p=>(σ p.1,p.2.ren σ)
def asg:List (Nat×Nat)→Nat→Nat
 |[],k=>k
 |(a,b)::r,k=>bif Nat.beq k a then b else asg r k
def qU(args:List V)(F:Heap):Bool:=(yI args).all (keys F).contains&&F.all fun p=>p.2.refs.all (keys F).contains
theorem xf{σ:Nat→Nat}{F:Heap}:keys (uX σ F)=(keys F).map σ:=by simp[keys,uX]
theorem QH{σ:Nat→Nat}{m mc:M}{p:Nat×Obj}(h:mc p.1=m (σ p.1)):blk mc p=blk m (σ p.1,p.2.ren σ):=by
 obtain⟨k,o⟩:=p;simp only at h
 funext b
 cases o<;>simp only[blk,jI,Obj.ren,Obj.ver,h]
mutual
theorem Rep.unren{f f':M}{Z:ZM}(σ:Nat→Nat):∀(v:V)(x:Value),(∀k∈v.refs,∀L loc,f (σ k) L=some loc→f' k L=some loc)→Rep (some f) Z (v.ren σ) x→Rep (some f') Z v x
 |.undef,x,_,h=>trivial
 |.no,x,_,h=>h
 |.int k n,x,_,h=>h
 |.bool b,x,_,h=>h
 |.str l,x,_,h=>h
 |.nilp,x,_,h=>h
 |.ptr k L off,x,hm,h=>by
  obtain⟨g,loc,h1,h2,h3⟩:=h;cases h1;exact⟨f',loc,rfl,hm k (by simp[V.refs]) _ _ h2,h3⟩
 |.vp cs off,x,_,h=>h
 |.nils,x,_,h=>h
 |.sl sz k L o n,x,hm,h=>by
  obtain⟨g,loc,h1,h2,h3⟩:=h;cases h1;exact⟨f',loc,rfl,hm k (by simp[V.refs]) _ _ h2,h3⟩
 |.vs sz els,x,_,h=>h
 |.fn g first caps,x,hm,h=>by
  obtain⟨l1,l2,h1,h2,h3⟩:=h;exact⟨l1,l2,h1,zo.unren σ first l1 (fun k hk=>hm k (by simp[V.refs,hk])) h2,zo.unren σ caps l2 (fun k hk=>hm k (by simp[V.refs,hk])) h3⟩
 |.nilf,x,_,h=>h
 |.agg cs,x,hm,h=>by
  obtain⟨l,h1,h2⟩:=h;exact⟨l,h1,zo.unren σ cs l (fun k hk=>hm k (by simpa[V.refs]using hk)) h2⟩
 |.tup xs,x,hm,h=>by
  obtain⟨l,h1,h2⟩:=h;exact⟨l,h1,zo.unren σ xs l (fun k hk=>hm k (by simpa[V.refs]using hk)) h2⟩
 |.nilm,x,_,h=>h
 |.mp k,x,hm,h=>by
  obtain⟨g,loc,h1,h2,h3⟩:=h;cases h1;exact⟨f',loc,rfl,hm k (by simp[V.refs]) _ _ h2,h3⟩
 |.nili,x,_,h=>h
 |.ifc t v,x,hm,h=>by
  obtain⟨y,h1,h2⟩:=h;exact⟨y,h1,Rep.unren σ v y (fun k hk=>hm k (by simpa[V.refs]using hk)) h2⟩
 |.gv k R,x,hm,h=>by
  obtain⟨g,h1,h2⟩:=h;cases h1;exact⟨f',rfl,R.mono _ _ _ (hm k (by simp[V.refs])) h2⟩
 |.pv R,x,hm,h=>h
theorem zo.unren{f f':M}{Z:ZM}(σ:Nat→Nat):∀(vs:List V)(l:List Value),(∀k∈yI vs,∀L loc,f (σ k) L=some loc→f' k L=some loc)→zo (some f) Z (We σ vs) l→zo (some f') Z vs l
 |[],l,_,h=>h
 |v::vs,l,hm,h=>by
  obtain⟨x,xs,h1,h2,h3⟩:=h;exact⟨x,xs,h1,Rep.unren σ v x (fun k hk=>hm k (by simp[yI,hk])) h2,zo.unren σ vs xs (fun k hk=>hm k (by simp[yI,hk])) h3⟩
end
section
variable{P:Program}{f:FuncId}{args:List V}{F F':Heap}{r:V}{σ:Nat→Nat}
theorem zmc{l:List Nat}(h:(l.map σ).Nodup):∀{a b:Nat},a∈l→b∈l→σ a=σ b→a=b:=by
 induction l with
 |nil=>intro a b ha;cases ha
 |cons x l ih =>
  rw[List.map_cons,List.nodup_cons]at h;intro a b ha hb e
  rcases List.mem_cons.1 ha with h1|h1<;>rcases List.mem_cons.1 hb with h2|h2
  ·rw[h1,h2]
  ·subst h1;exact(h.1 (e▸List.mem_map_of_mem h2)).elim
  ·subst h2;exact(h.1 (e▸List.mem_map_of_mem h1)).elim
  ·exact ih h.2 h1 h2 e
theorem FnA.at(h:FnA P f args F r F')(hσ:nodupB ((keys F').map σ)=true)(hcl:qU args F=true)(hsub:((keys F).all (keys F').contains)=true):
  ∀w m Z vals,xx m Z (uX σ F) w→zo (some m) Z (We σ args) vals→(∀k∈keys (uX σ F'),k ∉ keys (uX σ F)→∀L,m k L=none) →
   Calls P f vals.toArray w fun en w'=>∃x m' Z',en=.returned x∧Step m Z (uX σ F) w m' Z' (uX σ F') w'∧Rep (some m') Z' (r.ren σ) x:=by
 intro w m Z vals hs hv hnew;simp only[qU,Bool.and_eq_true]at hcl
 have hsub':∀k∈keys F,k∈keys F':=fun k hk=>by have:=(List.all_eq_true.1 hsub) k hk;simpa using this
 have hinj:∀{a b:Nat},a∈keys F'→b∈keys F'→σ a=σ b→a=b:=zmc (zM hσ)
 let mc:M:=fun k L=>if k∈keys F then m (σ k) L else none
 have hmc:∀k∈keys F,mc k=m (σ k):=fun k hk=>by funext L;simp[mc,hk]
 have hmcn:∀k,k ∉ keys F→∀L,mc k L=none:=fun k hk L=>by simp[mc,hk]
 have hblk:∀p∈F,blk mc p=blk m (σ p.1,p.2.ren σ):=fun p hp=>QH (hmc p.1 (mem_keys hp))
 have hmem:∀p∈F,(σ p.1,p.2.ren σ)∈uX σ F:=fun p hp=>List.mem_map.2 ⟨p,hp,rfl⟩
 have hsc:xx mc Z F w:=by
  refine⟨hs.frozen,fun p hp=>?_,?_,fun p hp q hq b h1 h2=>?_⟩
  ·have hh:=hs.holds _ (hmem p hp)
   have hk:=hmc p.1 (mem_keys hp);obtain⟨k,o⟩:=p
   cases o with
   |box t cs =>
    obtain⟨b,cur,h1,h2,h3,h4,h5⟩:=hh;refine⟨b,cur,by rw[hk];exact h1,h2,zo.unren σ cs _ (fun j hj L loc e=>?_) h3,h4,by rw[hk];exact h5⟩;have:=(List.all_eq_true.1 hcl.2) _ hp;have:=(List.all_eq_true.1 this) j hj;rw[hmc j (by simpa using this)];exact e
   |row t sz fz els =>
    rcases hh with⟨h1,h2,h3,⟨b,h4⟩,h5⟩|⟨b,cap,cur,fr,h1,h2⟩
    ·exact .inl ⟨h1,h2,h3,⟨b,by rw[hk];exact h4⟩,by rw[hk];exact h5⟩
    ·exact .inr ⟨b,cap,cur,fr,by rw[hk];exact h1,by rw[hk];exact h2⟩
   |map l =>
    obtain⟨b,es,clock,h1,h2⟩:=hh;exact⟨b,es,clock,by rw[hk];exact h1,by rw[hk];exact h2⟩
   |glob g t cs=>exact⟨by rw[hk];exact hh.1,hh.2.1,by rw[hk];exact hh.2.2⟩
   |nest t e sz pd ls =>
    show jd (mc k) _ _ t e sz pd ls
    rw[hk];exact hh
   |gen G =>
    show G.holds (mc k) _ _
    rw[hk];exact hh
  ·have:=hs.nodup
   rw[xf]at this;exact yE _ this
  ·rw[hblk p hp]at h1
   rw[hblk q hq]at h2;exact hinj (hsub' _ (mem_keys hp)) (hsub' _ (mem_keys hq)) (hs.disj _ (hmem p hp) _ (hmem q hq) b h1 h2)
 refine Calls.mono (h w mc Z vals hsc (zo.unren σ args vals (fun j hj L loc e=>?_) hv) hmcn) ?_
 ·have:=(List.all_eq_true.1 hcl.1) j hj
  rw[hmc j (by simpa using this)];exact e
 rintro en w' ⟨x,mc',Z',he,hst,hr⟩
 let m':M:=fun k2 L=>match (keys F').find? (fun i=>decide (σ i=k2))with
  |some i=>mc' i L
  |none=>m k2 L
 have hm'1:∀i∈keys F',m' (σ i)=mc' i:=fun i hi=>by
  funext L
  cases hf:(keys F').find? (fun j=>decide (σ j=σ i))with
  |none =>
   have:=List.find?_eq_none.1 hf i hi;simp at this
  |some j =>
   have h1:=List.find?_some hf;have h2:=List.mem_of_find?_eq_some hf;simp only[decide_eq_true_eq]at h1;have:=hinj h2 hi h1;subst this;simp only[m',hf]
 have hm'2:∀k,k ∉ keys (uX σ F')→m' k=m k:=fun k hk=>by
  funext L
  have:(keys F').find? (fun j=>decide (σ j=k))=none:=List.find?_eq_none.2 fun j hj=>by
   simp only[decide_eq_true_eq];rintro rfl;exact hk (by rw[xf];exact List.mem_map_of_mem hj)
  simp only[m',this]
 have hext:∀i∈keys F',∀L loc,mc' i L=some loc→m' (σ i) L=some loc:=fun i hi L loc e=>by rw[hm'1 i hi];exact e
 have hext2:∀k L loc,mc' k L=some loc→m' (σ k) L=some loc:=fun k L loc e=>by
  by_cases hk:k∈keys F'
  ·exact hext k hk L loc e
  ·rw[hst.newk k hk]at e
   rw[hmcn k (fun h'=>hk (hsub' k h'))]at e;cases e
 have hblk':∀p∈F',blk m' (σ p.1,p.2.ren σ)=blk mc' p:=fun p hp=>(QH (hm'1 p.1 (mem_keys hp)).symm).symm
 have hblkF:∀p∈F,∀b,blk mc p b→∃q∈uX σ F,blk m q b:=fun p hp b hb=>⟨_,hmem p hp,by rw[← hblk p hp];exact hb⟩
 refine⟨x,m',Z',he,⟨⟨hst.sim.frozen,?_,?_,?_⟩,?_,hst.zext,hst.os,hst.tape,hst.output,hst.size,?_,?_,hm'2,?_,?_⟩,Rep.ren σ r x (fun k _ L loc e=>hext2 k L loc e) hr⟩
 ·intro q hq
  obtain⟨p,hp,rfl⟩:=List.mem_map.1 hq;have hh:=hst.sim.holds p hp;have hk:=hm'1 p.1 (mem_keys hp);obtain⟨k,o⟩:=p
  cases o with
  |box t cs =>
   obtain⟨b,cur,h1,h2,h3,h4,h5⟩:=hh;exact⟨b,cur,by rw[hk];exact h1,h2,zo.ren σ cs _ (fun j _ L loc e=>hext2 j L loc e) h3,h4,by rw[hk];exact h5⟩
  |row t sz fz els =>
   rcases hh with⟨h1,h2,h3,⟨b,h4⟩,h5⟩|⟨b,cap,cur,fr,h1,h2⟩
   ·exact .inl ⟨h1,h2,h3,⟨b,by rw[hk];exact h4⟩,by rw[hk];exact h5⟩
   ·exact .inr ⟨b,cap,cur,fr,by rw[hk];exact h1,by rw[hk];exact h2⟩
  |map l =>
   obtain⟨b,es,clock,h1,h2⟩:=hh;exact⟨b,es,clock,by rw[hk];exact h1,by rw[hk];exact h2⟩
  |glob g t cs=>exact⟨by rw[hk];exact hh.1,hh.2.1,by rw[hk];exact hh.2.2⟩
  |nest t e sz pd ls =>
   show jd (m' (σ k)) _ _ t e sz pd ls
   rw[hk];exact hh
  |gen G =>
   show G.holds (m' (σ k)) _ _
   rw[hk];exact hh
 ·rw[xf];exact zM hσ
 ·intro p hp q hq b h1 h2
  obtain⟨p',hp',rfl⟩:=List.mem_map.1 hp;obtain⟨q',hq',rfl⟩:=List.mem_map.1 hq;rw[hblk' p' hp']at h1;rw[hblk' q' hq']at h2;exact congrArg σ (hst.sim.disj p' hp' q' hq' b h1 h2)
 ·intro k L loc e
  by_cases hk:k∈keys (uX σ F')
  ·rw[xf]at hk
   obtain⟨i,hi,rfl⟩:=List.mem_map.1 hk;rw[hm'1 i hi];by_cases hiF:i∈keys F
   ·exact hst.mext i L loc (by rw[hmc i hiF];exact e)
   ·rw[hnew (σ i) (by rw[xf];exact List.mem_map_of_mem hi) (fun h'=>by
     rw[xf]at h';obtain⟨j,hj,e'⟩:=List.mem_map.1 h';have:=hinj (hsub' j hj) hi e';subst this
     exact hiF hj)]at e
    cases e
  ·rw[hm'2 k hk];exact e
 ·intro b hb hn
  exact hst.frame b hb fun p hp e=>by
   obtain⟨q,hq,e'⟩:=hblkF p hp b e;exact hn q hq e'
 ·intro k hk
  rw[xf]at hk ⊢;obtain⟨i,hi,rfl⟩:=List.mem_map.1 hk;exact List.mem_map_of_mem (hst.keep i hi)
 ·intro q hq b hb
  obtain⟨p,hp,rfl⟩:=List.mem_map.1 hq;rw[hblk' p hp]at hb
  exact(hst.blks p hp b hb).imp id fun⟨p',hp',e⟩=>hblkF p' hp' b e
 ·intro a x ha
  exact(hst.znew a x ha).imp id (Or.imp id fun⟨p',hp',e⟩=>hblkF p' hp' _ e)
end
mutual
inductive View(F:Heap):V→V→Prop
 |weak {v v':V} (h:∀(m:Option M)(Z:ZM)(x:Value),Rep m Z v x→Rep m Z v' x):View F v v'
 |same (v:V):View F v v
 |nils (sz:Nat):View F .nils (.vs sz [])
 |row {k sz t fz L:Nat} {els:List (List V)} (h:F.get k=some (.row t sz fz els)) (hL:L=els.length):View F (.sl sz k L 0 L) (.vs sz els)
 |sub {k sz t fz L o n:Nat} {els:List (List V)} (h:F.get k=some (.row t sz fz els)) (hL:L=els.length) (hn:o+n≤L):View F (.sl sz k L o n) (.vs sz ((els.drop o).take n))
 |agg {cs cs':List V} (h:wC F cs cs'):View F (.agg cs) (.agg cs')
 |nrow {k sz t fz L:Nat} {els:List (List V)} (h:F.get k=some (.row t sz fz els)) (hL:L=els.length):View F (.gv k (ztw sz L)) (.vs sz els)
inductive wC(F:Heap):List V→List V→Prop
 |nil:wC F [] []
 |cons {v v':V} {l l':List V} (h:View F v v') (h':wC F l l'):wC F (v::l) (v'::l')
end
def frz:Heap→Heap
 |[]=>[]
 |(k,.row t sz _ els)::r=>(k,.row t sz els.length els)::frz r
 |p::r=>p::frz r
open Classical in
noncomputable def zam(m:M)(Z:ZM)(F:Heap)(w:World):ZM:=fun a =>
 if a.spot=none∧∃k t sz fz els b cap,(k,Obj.row t sz fz els)∈F∧m k els.length=some (b,cap)∧0<cap∧a.block=b∧a.off<els.length*sz then w.cell? a else Z a
theorem wZ:∀{F:Heap}{p:Nat×Obj},p∈frz F→(∃k t sz fz els,(k,Obj.row t sz fz els)∈F∧p=(k,.row t sz els.length els))∨(p∈F∧∀t sz fz els,p.2≠.row t sz fz els)
 |[],p,h=>by cases h
 |(k,.row t sz fz els)::r,p,h=>by
  simp only[frz]at h
  rcases List.mem_cons.1 h with rfl|h
  ·exact .inl ⟨k,t,sz,fz,els,List.mem_cons_self ..,rfl⟩
  ·rcases wZ h with⟨k,t,sz,fz,els,h1,h2⟩|⟨h1,h2⟩
   ·exact .inl ⟨k,t,sz,fz,els,List.mem_cons_of_mem _ h1,h2⟩
   ·exact .inr ⟨List.mem_cons_of_mem _ h1,h2⟩
 |(k,.box t cs)::r,p,h=>by
  simp only[frz]at h
  rcases List.mem_cons.1 h with rfl|h
  ·exact .inr ⟨List.mem_cons_self ..,fun _ _ _ _ e=>by cases e⟩
  ·rcases wZ h with⟨k,t,sz,fz,els,h1,h2⟩|⟨h1,h2⟩
   ·exact .inl ⟨k,t,sz,fz,els,List.mem_cons_of_mem _ h1,h2⟩
   ·exact .inr ⟨List.mem_cons_of_mem _ h1,h2⟩
 |(k,.map l)::r,p,h=>by
  simp only[frz]at h
  rcases List.mem_cons.1 h with rfl|h
  ·exact .inr ⟨List.mem_cons_self ..,fun _ _ _ _ e=>by cases e⟩
  ·rcases wZ h with⟨k,t,sz,fz,els,h1,h2⟩|⟨h1,h2⟩
   ·exact .inl ⟨k,t,sz,fz,els,List.mem_cons_of_mem _ h1,h2⟩
   ·exact .inr ⟨List.mem_cons_of_mem _ h1,h2⟩
 |(k,.glob g t cs)::r,p,h=>by
  simp only[frz]at h
  rcases List.mem_cons.1 h with rfl|h
  ·exact .inr ⟨List.mem_cons_self ..,fun _ _ _ _ e=>by cases e⟩
  ·rcases wZ h with⟨k,t,sz,fz,els,h1,h2⟩|⟨h1,h2⟩
   ·exact .inl ⟨k,t,sz,fz,els,List.mem_cons_of_mem _ h1,h2⟩
   ·exact .inr ⟨List.mem_cons_of_mem _ h1,h2⟩
 |(k,.nest g t sz0 pd0 ls0)::r,p,h=>by
  simp only[frz]at h
  rcases List.mem_cons.1 h with rfl|h
  ·exact .inr ⟨List.mem_cons_self ..,fun _ _ _ _ e=>by cases e⟩
  ·rcases wZ h with⟨k,t,sz,fz,els,h1,h2⟩|⟨h1,h2⟩
   ·exact .inl ⟨k,t,sz,fz,els,List.mem_cons_of_mem _ h1,h2⟩
   ·exact .inr ⟨List.mem_cons_of_mem _ h1,h2⟩
 |(k,.gen g)::r,p,h=>by
  simp only[frz]at h
  rcases List.mem_cons.1 h with rfl|h
  ·exact .inr ⟨List.mem_cons_self ..,fun _ _ _ _ e=>by cases e⟩
  ·rcases wZ h with⟨k,t,sz,fz,els,h1,h2⟩|⟨h1,h2⟩
   ·exact .inl ⟨k,t,sz,fz,els,List.mem_cons_of_mem _ h1,h2⟩
   ·exact .inr ⟨List.mem_cons_of_mem _ h1,h2⟩
theorem yK:∀{F:Heap},keys (frz F)=keys F
 |[]=>rfl
 |(k,.row t sz fz els)::r=>by simp only[frz,keys,List.map_cons];congr 1;exact yK
 |(k,.box t cs)::r=>by simp only[frz,keys,List.map_cons];congr 1;exact yK
 |(k,.map l)::r=>by simp only[frz,keys,List.map_cons];congr 1;exact yK
 |(k,.glob g t cs)::r=>by simp only[frz,keys,List.map_cons];congr 1;exact yK
 |(k,.nest g t sz0 pd0 ls0)::r=>by simp only[frz,keys,List.map_cons];congr 1;exact yK
 |(k,.gen g)::r=>by simp only[frz,keys,List.map_cons];congr 1;exact yK
section
variable{m:M}{Z:ZM}{F:Heap}{w:World}
theorem zen(hf:∀a x,Z a=some x→w.cell? a=some x):∀a x,Z a=some x→zam m Z F w a=some x:=fun a x h=>by
 unfold zam;split
 ·exact hf a x h
 ·exact h
theorem zmd(hf:∀a x,Z a=some x→w.cell? a=some x):∀a x,zam m Z F w a=some x→w.cell? a=some x:=fun a x h=>by
 unfold zam at h;split at h
 ·exact h
 ·exact hf a x h
theorem zgz:∀{l:Heap},(keys l).Nodup→∀p∈l,∀q∈l,q.1=p.1→q=p:=by
 intro l hl
 induction l with
 |nil=>intro p hp;cases hp
 |cons a l ih =>
  simp only[keys,List.map_cons,List.nodup_cons]at hl;intro p hp q hq e
  rcases List.mem_cons.1 hp with h1|h1<;>rcases List.mem_cons.1 hq with h2|h2
  ·rw[h1,h2]
  ·exact(hl.1 (List.mem_map.2 ⟨q,h2,by rw[e,h1]⟩)).elim
  ·exact(hl.1 (List.mem_map.2 ⟨p,h1,by rw[← e,h2]⟩)).elim
  ·exact ih hl.2 p h1 q h2 e
theorem Step.freeze(hs:xx m Z F w):Step m Z F w m (zam m Z F w) (frz F) w:=by
 have hver:∀p∈frz F,∃q∈F,p.1=q.1∧blk m p=blk m q:=fun p hp=>by
  rcases wZ hp with⟨k,t,sz,fz,els,h1,h2⟩|⟨h1,_⟩
  ·subst h2;exact⟨_,h1,rfl,rfl⟩
  ·exact⟨p,h1,rfl,rfl⟩
 have hzb:∀a x,zam m Z F w a=some x→Z a=some x∨∃k t sz fz els b cap,(k,Obj.row t sz fz els)∈F∧m k els.length=some (b,cap)∧0<cap∧a.block=b∧a.off<els.length*sz:=fun a x h=>by
  unfold zam at h;split at h
  ·rename_i hc;exact .inr hc.2
  ·exact .inl h
 refine⟨⟨zmd hs.frozen,fun p hp=>?_,by rw[yK];exact hs.nodup,fun p hp q hq b h1 h2=>?_⟩,fun _ _ _ e=>e,zen hs.frozen,rfl,rfl,rfl,Nat.le_refl _,fun _ _ _=>rfl,fun k hk=>by rw[yK];exact hk,fun _ _=>rfl,fun p hp b hb=>?_,fun a x ha=>?_⟩
 ·rcases wZ hp with⟨k,t,sz,fz,els,h1,h2⟩|⟨h1,h2⟩
  ·subst h2
   rcases hs.holds _ h1 with⟨g1,rfl,g3,g4,g5⟩|⟨b,cap,cur,fr,g1,g0,g2,g3,g4,g5,g6,g7,g8,g9,g10,g11,g12,g13⟩
   ·exact .inl ⟨g1,rfl,rfl,g4,g5⟩
   have hc0:cap≠0:=by omega
   refine .inr ⟨b,cap,cur,fr,g1,g0,g2,g3,g4,g5,g6,g7.up (zen hs.frozen) (fun f e=>by cases e),g8,Nat.le_trans g9 (Nat.mul_le_mul_right _ g10),Nat.le_refl _,fun a x ha e=>?_,g12,fun off x ho hx=>?_⟩
   ·rcases hzb a x ha with h'|⟨k',t',sz',fz',els',b',cap',h1',h2',h0',h3',h4'⟩
    ·exact Nat.lt_of_lt_of_le (g11 a x h' e) (Nat.mul_le_mul_right _ g10)
    ·have hc1:cap'≠0:=by omega
     have hk:k'=k:=hs.disj _ h1' _ h1 b (by simp[blk,jI,Obj.ver,h2',hc1,← h3',e]) (by simp[blk,jI,Obj.ver,g1,hc0]);subst hk;have hq:=zgz hs.nodup _ h1 _ h1' rfl;simp only[Prod.mk.injEq,Obj.row.injEq,true_and]at hq;obtain⟨_,rfl,_,rfl⟩:=hq;exact h4'
   ·unfold zam
    rw[if_pos ⟨rfl,k,t,sz,fz,els,b,cap,h1,g1,g0,rfl,ho⟩,cell_of_row w b off cur t fr g2];exact hx
  ·have hh:=hs.holds p h1
   refine hh.keep (fun _ _ _ e=>e) rfl (zen hs.frozen) fun b hb=>⟨rfl,fun a x ha e=>?_⟩
   rcases hzb a x ha with h'|⟨k',t',sz',fz',els',b',cap',h1',h2',h0',h3',h4'⟩
   ·exact h'
   ·have hc1:cap'≠0:=by omega
    have hk:k'=p.1:=hs.disj _ h1' _ h1 b (by simp[blk,jI,Obj.ver,h2',hc1,← h3',e]) hb;have:=zgz hs.nodup p h1 _ h1' hk;exact absurd (by rw[← this]) (h2 t' sz' fz' els')
 ·obtain⟨p',hp',e1,e2⟩:=hver p hp
  obtain⟨q',hq',e3,e4⟩:=hver q hq;rw[e1,e3];exact hs.disj p' hp' q' hq' b (e2▸h1) (e4▸h2)
 ·obtain⟨q,hq,_,e⟩:=hver p hp
  exact .inr ⟨q,hq,e▸hb⟩
 ·rcases hzb a x ha with h'|⟨k',t',sz',fz',els',b',cap',h1',h2',h0',h3',h4'⟩
  ·exact .inl h'
  ·have hc1:cap'≠0:=by omega
   exact .inr (.inr ⟨_,h1',by simp[blk,jI,Obj.ver,h2',h3',hc1]⟩)
end
theorem kJ{sz:Nat}:∀{els:List (List V)},(∀e∈els,e.length=sz)→∀{i j:Nat}{cs:List V}{v:V},els[i]?=some cs→cs[j]?=some v→els.flatten[i*sz+j]?=some v
 |[],_,i,j,cs,v,h,_=>by simp at h
 |e::r,hk,0,j,cs,v,h,hj=>by
  simp only[List.getElem?_cons_zero,Option.some.injEq]at h;subst h;rw[List.flatten_cons,Nat.zero_mul,Nat.zero_add,List.getElem?_append_left (List.getElem?_eq_some_iff.1 hj).1];exact hj
 |e::r,hk,i+1,j,cs,v,h,hj=>by
  have he:=hk e (List.mem_cons_self ..);rw[List.flatten_cons,List.getElem?_append_right (by rw[he,Nat.succ_mul];omega)];rw[show(i+1)*sz+j-e.length=i*sz+j by rw[he,Nat.succ_mul];omega];exact kJ (fun x hx=>hk x (List.mem_cons_of_mem _ hx)) (by simpa using h) hj
theorem wo{sz:Nat}:∀{els:List (List V)},(∀e∈els,e.length=sz)→els.flatten.length=els.length*sz
 |[],_=>by simp
 |e::r,hk=>by
  rw[List.flatten_cons,List.length_append,wo (fun x hx=>hk x (List.mem_cons_of_mem _ hx)),hk e (List.mem_cons_self ..),List.length_cons,Nat.succ_mul];omega
section
variable{m:M}{Z:ZM}{F:Heap}{w:World}
theorem zeo{k t sz:Nat}{els:List (List V)}(h:Holds m Z w k (.row t sz els.length els)):∃b cap,m k els.length=some (b,cap)∧els.length≤cap∧(cap=0∨yH Z ⟨b,0,none⟩ sz 0 els):=by
 rcases h with⟨g1,rfl,g3,⟨b,g4⟩,g5⟩|⟨b,cap,cur,fr,g1,g0,g2,g3,g4,g5,g6,g7,g8,g9,g10,g11,g12,g13⟩
 ·exact⟨b,0,g4,Nat.le_refl _,.inl rfl⟩
 refine⟨b,cap,g1,g3,.inr (yH.of_get fun i cs hi=>⟨g8 cs (List.mem_of_getElem? hi),kV.of_get fun j v hj=>?_⟩)⟩;have hil:i<els.length:=(List.getElem?_eq_some_iff.1 hi).1
 have hjl:j<sz:=by have:=(List.getElem?_eq_some_iff.1 hj).1;rw[g8 cs (List.mem_of_getElem? hi)]at this;exact this
 have hlt:i*sz+j<els.length*sz:=by
  have:(i+1)*sz≤els.length*sz:=Nat.mul_le_mul_right sz hil;rw[Nat.succ_mul]at this;omega
 obtain⟨x,h1,h2⟩:=g7.get (kJ g8 hi hj);rw[List.getElem?_take,if_pos hlt]at h1;refine⟨x,?_,h2⟩;rw[Nat.zero_add,Nat.zero_add,HC,Addr.add_lit,Nat.zero_add];exact g13 _ x hlt (by simpa using h1)
theorem YV{m:Option M}{Z:ZM}{k sz n:Nat}{x:Value}(h:Rep m Z (.gv k (ztw sz n)) x):Rep m Z (.sl sz k n 0 n) x:=by
 obtain⟨f,hf,loc,h1,h2,h3,h4⟩:=h;refine⟨f,loc,hf,h1,by omega,h3,?_⟩
 rcases h4 with⟨_,h4⟩|⟨h5,h6,h4⟩
 ·exact .inl h4
 ·exact .inr (.inl ⟨h6,none,h4⟩)
theorem zjk{m:Option M}{Z:ZM}{k sz n:Nat}{x:Value}(hn:n≠0)(h:Rep m Z (.sl sz k n 0 n) x):Rep m Z (.gv k (ztw sz n)) x:=by
 obtain⟨f,loc,hf,h1,h2,h3,h4⟩:=h;refine⟨f,hf,loc,h1,by omega,h3,.inl ⟨hn,?_⟩⟩
 rcases h4 with h4|⟨h4,_⟩|⟨h4,_⟩
 ·exact h4
 ·omega
 ·omega
mutual
theorem View.rep(hs:∀k t sz fz els,F.get k=some (.row t sz fz els)→Holds m Z w k (.row t sz els.length els)):∀{v v':V},View F v v'→∀{x:Value},Rep (some m) Z v x→Rep (some m) Z v' x
 |_,_,.weak hw,x,h=>hw _ _ _ h
 |_,_,.same v,x,h=>h
 |_,_,.nils sz,x,h=>⟨none,0,h,Nat.le_refl _,Nat.zero_le _,.inl rfl⟩
 |_,_,.row (k:=k) (sz:=sz) (t:=t) (fz:=fz) (L:=L) (els:=els) hg hL,x,h=>by
  subst hL;obtain⟨b,cap,h1,h2,h4⟩:=zeo (hs _ _ _ _ _ hg);obtain⟨f,loc,e1,e2,e3,e4,e5⟩:=h;cases e1;rw[h1]at e2;cases e2
  rcases e5 with e5|⟨e5,A,e6⟩|⟨e5,_⟩
  ·refine⟨_,_,e5,by simpa using h2,by simpa using e4,?_⟩
   rcases h4 with h4|h4
   ·exact .inl (List.eq_nil_of_length_eq_zero (by omega))
   ·exact .inr ⟨⟨b,0,none⟩,by simp,h4⟩
  ·have:els=[]:=List.eq_nil_of_length_eq_zero (by simp only at e5;omega)
   subst this;exact⟨A,0,e6,Nat.le_refl _,by simp[maxLen],.inl rfl⟩
  ·omega
 |_,_,.nrow (k:=k) (sz:=sz) (t:=t) (fz:=fz) (L:=L) (els:=els) hg hL,x,h=>by
  subst hL;have h:=YV h;obtain⟨b,cap,h1,h2,h4⟩:=zeo (hs _ _ _ _ _ hg);obtain⟨f,loc,e1,e2,e3,e4,e5⟩:=h;cases e1;rw[h1]at e2;cases e2
  rcases e5 with e5|⟨e5,A,e6⟩|⟨e5,_⟩
  ·refine⟨_,_,e5,by simpa using h2,by simpa using e4,?_⟩
   rcases h4 with h4|h4
   ·exact .inl (List.eq_nil_of_length_eq_zero (by omega))
   ·exact .inr ⟨⟨b,0,none⟩,by simp,h4⟩
  ·have:els=[]:=List.eq_nil_of_length_eq_zero (by simp only at e5;omega)
   subst this;exact⟨A,0,e6,Nat.le_refl _,by simp[maxLen],.inl rfl⟩
  ·omega
 |_,_,.sub (k:=k) (sz:=sz) (t:=t) (fz:=fz) (L:=L) (o:=o) (n:=n) (els:=els) hg hL hn,x,h=>by
  subst hL;obtain⟨b,cap,h1,h2,h4⟩:=zeo (hs _ _ _ _ _ hg);obtain⟨f,loc,e1,e2,e3,e4,e5⟩:=h;cases e1;rw[h1]at e2;cases e2
  have hl:((els.drop o).take n).length=n:=by simp;omega
  simp only at e3 e4 e5
  rcases e5 with e5|⟨e5,A,e6⟩|⟨_,e5,A,c',e6,e7⟩
  ·refine⟨some ⟨b,o*sz,none⟩,cap-o,by rw[hl];exact e5,by rw[hl];omega,by omega,?_⟩
   rcases h4 with h4|h4
   ·exact .inl (List.eq_nil_of_length_eq_zero (by rw[hl];omega))
   refine .inr ⟨_,rfl,yH.of_get fun i cs hi=>?_⟩;rw[List.getElem?_take]at hi;split at hi
   ·rw[List.getElem?_drop]at hi
    have:=h4.get hi;refine⟨this.1,?_⟩;have h5:=this.2;rw[Addr.add_lit]at h5 ⊢;rw[show o*sz+(0+i)*sz=0+(0+(o+i))*sz by rw[Nat.zero_add,Nat.zero_add,Nat.zero_add,Nat.add_mul]];exact h5
   ·cases hi
  ·have h0:(els.drop o).take n=[]:=List.eq_nil_of_length_eq_zero (by rw[hl];omega)
   rw[h0];exact⟨A,0,e6,Nat.le_refl _,by simp[maxLen],.inl rfl⟩
  ·have h0:(els.drop o).take n=[]:=List.eq_nil_of_length_eq_zero (by rw[hl];omega)
   rw[h0];exact⟨A,c',e6,Nat.zero_le _,e7,.inl rfl⟩
 |_,_,.agg hl,x,h=>by
  obtain⟨l,h1,h2⟩:=h;exact⟨l,h1,wC.rep hs hl h2⟩
theorem wC.rep(hs:∀k t sz fz els,F.get k=some (.row t sz fz els)→Holds m Z w k (.row t sz els.length els)):∀{l l':List V},wC F l l'→∀{xs:List Value},zo (some m) Z l xs→zo (some m) Z l' xs
 |_,_,.nil,xs,h=>h
 |_,_,.cons h1 h2,xs,h=>by
  obtain⟨x,xs',rfl,h3,h4⟩:=h;exact⟨x,xs',rfl,View.rep hs h1 h3,wC.rep hs h2 h4⟩
end
end
mutual
/-- No slice among it that is only read. -/
def V.bare:V→Bool
 |.vs ..|.vp ..|.pv ..=>false
 |.agg cs=>HE cs
 |.tup xs=>HE xs
 |.fn _ a b=>HE a&&HE b
 |.ifc _ v=>v.bare
 |_=>true
def HE:List V→Bool
 |[]=>true
 |v::l=>v.bare&&HE l
end
mutual
theorem Rep.bare{m:Option M}{Z Z':ZM}:∀(v:V)(x:Value),v.bare=true→Rep m Z v x→Rep m Z' v x
 |.undef,x,_,h=>trivial
 |.no,x,_,h=>h
 |.int k n,x,_,h=>h
 |.bool b,x,_,h=>h
 |.str l,x,_,h=>h
 |.nilp,x,_,h=>h
 |.ptr k L off,x,_,h=>h
 |.vp cs off,x,hb,h=>by cases hb
 |.nils,x,_,h=>h
 |.sl sz k L o n,x,_,h=>h
 |.vs sz els,x,hb,h=>by cases hb
 |.fn g first caps,x,hb,h=>by
  obtain⟨l1,l2,h1,h2,h3⟩:=h;simp only[V.bare,Bool.and_eq_true]at hb;exact⟨l1,l2,h1,zo.bare first l1 hb.1 h2,zo.bare caps l2 hb.2 h3⟩
 |.nilf,x,_,h=>h
 |.agg cs,x,hb,h=>by
  obtain⟨l,h1,h2⟩:=h;exact⟨l,h1,zo.bare cs l hb h2⟩
 |.tup xs,x,hb,h=>by
  obtain⟨l,h1,h2⟩:=h;exact⟨l,h1,zo.bare xs l hb h2⟩
 |.nilm,x,_,h=>h
 |.mp k,x,_,h=>h
 |.nili,x,_,h=>h
 |.ifc t v,x,hb,h=>by
  obtain⟨y,h1,h2⟩:=h;exact⟨y,h1,Rep.bare v y hb h2⟩
 |.gv k R,x,_,h=>h
 |.pv R,x,hb,h=>by cases hb
theorem zo.bare{m:Option M}{Z Z':ZM}:∀(vs:List V)(l:List Value),HE vs=true→zo m Z vs l→zo m Z' vs l
 |[],l,_,h=>h
 |v::vs,l,hb,h=>by
  obtain⟨x,xs,h1,h2,h3⟩:=h;simp only[HE,Bool.and_eq_true]at hb;exact⟨x,xs,h1,Rep.bare v x hb.1 h2,zo.bare vs xs hb.2 h3⟩
end
theorem get_of_mem{F:Heap}(hn:(keys F).Nodup):∀{k:Nat}{o:Obj},(k,o)∈F→F.get k=some o:=by
 induction F with
 |nil=>intro k o h;cases h
 |cons p F ih =>
  obtain⟨k',o'⟩:=p;simp only[keys,List.map_cons,List.nodup_cons]at hn;intro k o h;simp only[Heap.get]
  rcases List.mem_cons.1 h with h|h
  ·cases h;rw[Nat.beq_refl];rfl
  ·have hne:k≠k':=fun e=>hn.1 (e▸List.mem_map_of_mem h)
   have:Nat.beq k k'=false:=by
    cases hb:Nat.beq k k' with
    |true=>exact absurd (Nat.eq_of_beq_eq_true hb) hne
    |false=>rfl
   rw[this,cond_false];exact ih hn.2 h
section
variable{P:Program}{ρ:Env}{w:World}{dst:Option Tmp}{ty:TypeId}{pos:String}{aft:Array Edge}{gd:Option (Nat×Bool)}{f:FuncId}{l:List Operand}{ts:Array TypeId}{args:List V}{F F' R:Heap}{r:V}
theorem zme{ρr:zR}{w:World}{Rr:Value→World→Prop}(hf:za P f)(h:Calls P f (l.map (ev ρr)).toArray w fun en w'=>∃x,en=.returned x∧Rr x w'):zve P ⟨dst,.call ⟨.value (.func f),l.toArray,ts⟩,ty,pos,aft,gd⟩ ρr w Rr :=
 ⟨rfl,.inr (.inr ⟨f,_,w,zgq _ hf rfl,h⟩)⟩
end
inductive Src(sz:Nat)(R:Heap):V→List (List V)→Prop
 |vs (ys:List (List V)):Src sz R (.vs sz ys) ys
 |nils:Src sz R .nils []
 |sl {k L t fz:Nat} {ys:List (List V)} (h:R.get k=some (.row t sz fz ys)) (hL:L=ys.length):Src sz R (.sl sz k L 0 L) ys
theorem zmf{Z:ZM}{w:World}{a:Addr}{sz:Nat}{ys:List (List V)}(h0:0<sz)(hf:∀a x,Z a=some x→w.cell? a=some x)(h:yH Z a sz 0 ys):
  ∃news:List Value,zo none Z ys.flatten news∧∀j u,news[j]?=some u→w.cell? (a.add j)=some u:=by
 have hlen:∀e∈ys,e.length=sz:=fun e he=>by
  obtain⟨i,hi,rfl⟩:=List.getElem_of_mem he;exact(h.get (List.getElem?_eq_getElem hi)).1
 have hfl:=wo hlen
 have key:∀j,j<ys.flatten.length→∃x,w.cell? (a.add j)=some x∧∀v,ys.flatten[j]?=some v→Rep none Z v x:=fun j hj=>by
  rw[hfl]at hj;have hdiv:j / sz<ys.length:=(Nat.div_lt_iff_lt_mul h0).2 hj;have hmod:j % sz<sz:=Nat.mod_lt _ h0
  have hjk:j / sz*sz+j % sz=j:=by rw[Nat.mul_comm];exact Nat.div_add_mod j sz
  have hge:ys[j / sz]?=some (ys[j / sz]'hdiv):=List.getElem?_eq_getElem hdiv;have hel:=hlen _ (List.getElem_mem hdiv);obtain⟨_,hat⟩:=h.get hge;have hv:(ys[j / sz]'hdiv)[j % sz]?=some ((ys[j / sz]'hdiv)[j % sz]'(by omega)):=List.getElem?_eq_getElem (by omega);obtain⟨x,h1,h2⟩:=hat.get hv;rw[Nat.zero_add,Nat.zero_add,HC,hjk]at h1;refine⟨x,hf _ _ h1,fun v hv'=>?_⟩;have:=kJ hlen hge hv;rw[hjk,hv']at this;cases this;exact h2
 let news:List Value:=(List.range ys.flatten.length).map fun j=>(w.cell? (a.add j)).getD Go.undef
 have hget:∀j,j<ys.flatten.length→news[j]?=w.cell? (a.add j):=fun j hj=>by
  obtain⟨x,h1,_⟩:=key j hj;simp only[news,List.getElem?_map,List.getElem?_range hj,Option.map_some,h1,Option.getD_some]
 refine⟨news,zo.of_get (by simp[news]) fun j v x hv hx=>?_,fun j u hj=>?_⟩
 ·have hj:=(List.getElem?_eq_some_iff.1 hv).1
  obtain⟨y,h1,h2⟩:=key j hj;rw[hget j hj,h1]at hx;cases hx;exact h2 v hv
 ·have hjl:j<ys.flatten.length:=by have:=(List.getElem?_eq_some_iff.1 hj).1;simpa[news]using this
  rw[← hget j hjl];exact hj
theorem Src.read{m:M}{Z:ZM}{w:World}{R:Heap}{sz:Nat}{y:V}{ys:List (List V)}{x:Value}(h:Src sz R y ys)(h0:0<sz)(hs:xx m Z R w)(hx:Rep (some m) Z y x):
  ∃A c,x=.slice A ys.length c∧ys.length≤maxLen∧(A=none→ys=[])∧∀a,A=some a→∃news:List Value,zo none Z ys.flatten news∧∀j u,news[j]?=some u→w.cell? (a.add j)=some u:=by
 cases h with
 |vs =>
  obtain⟨A,c,h1,h2,h3,h4⟩:=hx;refine⟨A,c,h1,by omega,fun hA=>?_,fun a hA=>?_⟩
  ·rcases h4 with h4|⟨a,h4,_⟩
   ·exact h4
   ·rw[hA]at h4;cases h4
  ·rcases h4 with h4|⟨a',h4,h5⟩
   ·subst h4;exact⟨[],rfl,fun j u h=>by simp at h⟩
   ·rw[hA]at h4;cases h4
    exact zmf h0 hs.frozen h5
 |nils=>exact⟨none,0,hx,by simp[maxLen],fun _=>rfl,fun a h=>by cases h⟩
 |sl hg hL =>
  subst hL;obtain⟨f,loc,e1,e2,e3,e4,e5⟩:=hx;cases e1
  replace e5:=e5.imp_right fun h=>h.resolve_right fun h=>Nat.lt_irrefl 0 h.1
  rcases hs.holds _ (Heap.get_mem hg)with⟨_,h1,_,⟨b,h3⟩,_⟩|⟨b,cap,cur,fr,g1,g0,g2,g3,g4,g5,g6,g7,g8,g9,g10,g11,g12,g13⟩
  ·subst h1
   rcases e5 with e5|⟨_,A,e5⟩
   ·exact⟨_,_,e5,by simp[maxLen],fun _=>rfl,fun a _=>⟨[],rfl,fun j u h=>by simp at h⟩⟩
   ·exact⟨_,_,e5,by simp[maxLen],fun _=>rfl,fun a _=>⟨[],rfl,fun j u h=>by simp at h⟩⟩
  ·rw[g1]at e2;cases e2
   rcases e5 with e5|⟨e5,_⟩
   ·refine⟨_,_,e5,by omega,fun h=>(by cases h),fun a h=>?_⟩
    cases h;refine⟨_,g7,fun j u hj=>?_⟩;rw[Addr.add_lit,Nat.zero_mul,Nat.zero_add,cell_of_row w b j cur _ fr g2];rw[List.getElem?_take]at hj;split at hj
    ·simpa using hj
    ·cases hj
   ·simp only at e5;omega
def j8(P:Program)(t:Nat):Option (Nat×Nat×Nat) :=
 match P.underlying t with
 |some (.slice e)=>match P.info? e with
  |some i=>match i.zero with
   |some z=>if Nat.ble 1 i.size&&Nat.beq z.cells.size i.size then some (e,i.size,i.bytes)else none
   |none=>none
  |none=>none
 |_=>none
theorem qp{P:Program}{t e sz bytes:Nat}(h:j8 P t=some (e,sz,bytes)):∃i z,P.underlying t=some (.slice e)∧P.info? e=some i∧i.zero=some z∧i.size=sz∧i.bytes=bytes∧z.cells.size=sz∧0<sz:=by
 unfold j8 at h;split at h
 ·rename_i e' hu
  split at h
  ·rename_i i hi
   split at h
   ·rename_i z hz
    split at h
    ·rename_i hc
     simp only[Bool.and_eq_true]at hc;simp only[Option.some.injEq,Prod.mk.injEq]at h;obtain⟨rfl,rfl,rfl⟩:=h;exact⟨i,z,hu,hi,hz,rfl,rfl,Nat.eq_of_beq_eq_true hc.2,Nat.le_of_ble_eq_true hc.1⟩
    ·cases h
   ·cases h
  ·cases h
 ·cases h
section
variable{P:Program}{m:M}{Z:ZM}{w:World}
theorem YW{vs:List V}{l:List Value}{mm:Option M}(h:zo mm Z vs l)(h1:vs.all V.one=true):∀u∈l,u.oneCell'=true:=fun u hu=>by
 obtain⟨i,hi,he⟩:=List.getElem_of_mem hu;have hl:=h.length;have hv:vs[i]?=some (vs[i]'(by omega)):=List.getElem?_eq_getElem (by omega);obtain⟨u',h4,h5⟩:=h.get hv;rw[List.getElem?_eq_getElem hi,he]at h4;cases h4;exact h5.one ((List.all_eq_true.1 h1) _ (List.getElem_mem _))
theorem Step.grown{k t sz fz:Nat}{els all:List (List V)}{cur:Array Value}{cap:Nat}{o:Obj}{w1:World}(hs:xx m Z [(k,o)] w)(hver:o.ver=els.length)(hnew:∀L loc,m k L=some loc→L≤els.length)(hlt:els.length<all.length)
  (hh:w1.heap=w.heap) (h1:w1.os=w.os) (h2:w1.tape=w.tape) (h3:w1.output=w.output)
  (h0:0<sz) (hcap:all.length≤cap) (hcm:cap≤maxLen) (hcs:cur.size=cap*sz) (hr:zo none Z all.flatten (cur.toList.take (all.length*sz))) (hk:∀e∈all,e.length=sz) (hfz:fz≤els.length):
  ∃m' Z',Step m Z [(k,o)] w m' Z' [(k,.row t sz fz all)] (w1.alloc (.cells cur t))∧m' k all.length=some (w.heap.size,cap):=by
 let m':M:=fun k' L=>if k'=k∧L=all.length then some (w.heap.size,cap)else m k' L
 have hm1:m' k all.length=some (w.heap.size,cap):=by simp[m']
 have hm2:∀k' L loc,m k' L=some loc→m' k' L=some loc:=fun k' L loc e=>by
  by_cases hc:k'=k∧L=all.length
  ·obtain⟨rfl,rfl⟩:=hc
   have:=hnew _ _ e;omega
  ·simp only[m',if_neg hc];exact e
 let Z':ZM:=fun a=>if a.block=w.heap.size∧a.spot=none∧a.off<fz*sz then cur[a.off]? else Z a
 have hsz:w1.heap.size=w.heap.size:=by rw[hh]
 have hZlt:∀a x,Z a=some x→a.block<w.heap.size:=fun a x ha=>xS hs.frozen ha
 have hZ1:∀a x,Z a=some x→Z' a=some x:=fun a x ha=>by
  have:=hZlt a x ha;simp only[Z',if_neg (show ¬(a.block=w.heap.size∧a.spot=none∧a.off<fz*sz) by omega)];exact ha
 have hnewb:(w1.alloc (.cells cur t)).heap[w.heap.size]?=some (.cells cur t (0,0)):=by rw[← hsz];exact World.alloc_heap_new w1 _
 have hcell:∀off,(w1.alloc (.cells cur t)).cell? ⟨w.heap.size,off,none⟩=cur[off]?:=fun off=>cell_of_row _ _ off cur t (0,0) hnewb
 have hold:∀j,j<w.heap.size→(w1.alloc (.cells cur t)).heap[j]?=w.heap[j]?:=fun j hj=>by rw[← hh];exact Below.heap_alloc w1 _ j (by omega)
 have hc0:cap≠0:=by omega
 refine⟨m',Z',⟨⟨fun a x ha=>?_,fun p hp=>?_,by simp[keys],fun p hp q hq _ _ _=>?_⟩,hm2,hZ1,h1,h2,h3,by simp[hsz],fun j hj _=>hold j hj,fun j hj=>by simpa[keys]using hj,fun j hj=>?_,fun p hp b hb=>?_,fun a x ha=>?_⟩,hm1⟩
 ·simp only[Z']at ha
  split at ha
  ·rename_i hc
   obtain⟨b,off,sp⟩:=a;obtain⟨rfl,rfl,_⟩:=hc;rw[hcell];exact ha
  ·rw[qo (hold _ (hZlt a x ha))];exact hs.frozen a x ha
 ·simp only[List.mem_singleton]at hp
  subst hp;refine .inr ⟨w.heap.size,cap,cur,(0,0),hm1,by omega,hnewb,hcap,hcm,hcs,h0,hr.up hZ1 (fun f e=>by cases e),hk,by simp,by omega,fun a x ha e=>?_,fun L loc e=>?_,fun off x ho hx=>?_⟩
  ·simp only[Z']at ha
   split at ha
   ·rename_i hc;exact hc.2.2
   ·have:=hZlt a x ha;omega
  ·simp only[m']at e
   split at e
   ·rename_i hc;omega
   ·have:=hnew _ _ e;omega
  ·simp only[Z']
   rw[if_pos (by simp[ho])];exact hx
 ·simp only[List.mem_singleton]at hp hq
  subst hp;subst hq;rfl
 ·funext L
  have:j≠k:=by simpa[keys]using hj
  simp[m',this]
 ·simp only[List.mem_singleton]at hp
  subst hp;simp only[blk,jI,jI,Obj.ver,hm1,Option.bind_some,if_neg hc0,Option.some.injEq]at hb;exact .inl (by omega)
 ·simp only[Z']at ha
  split at ha
  ·rename_i hc;exact .inr (.inl (by omega))
  ·exact .inl ha
theorem Step.roomed{k t sz fz:Nat}{els all:List (List V)}{b cap:Nat}{cur cur':Array Value}{fr:Nat×Nat}(hs:xx m Z [(k,.row t sz fz els)] w)(g1:m k els.length=some (b,cap))(g0:0<cap)(g2:w.heap[b]?=some (.cells cur t fr))
  (hle:els.length≤all.length) (hcap:all.length≤cap) (hcs:cur'.size=cap*sz) (hsame:∀off,off<els.length*sz→cur'[off]?=cur[off]?) (hr:zo none Z all.flatten (cur'.toList.take (all.length*sz))) (hk:∀e∈all,e.length=sz)
  {w':World} (hw:w'=w.setRow b cur'):∃m',Step m Z [(k,.row t sz fz els)] w m' Z [(k,.row t sz fz all)] w'∧m' k all.length=some (b,cap):=by
 subst hw
 rcases hs.holds _ (List.mem_singleton.2 rfl)with⟨_,h1,_,⟨b',h3⟩,_⟩|⟨b',cap',cur0,fr',g1',g0',g2',g3,g4,g5,g6,g7,g8,g9,g10,g11,g12,g13⟩
 ·subst h1
  have:=g1.symm.trans h3;simp only[Option.some.injEq,Prod.mk.injEq]at this;omega
 rw[g1]at g1';simp only[Option.some.injEq,Prod.mk.injEq]at g1';obtain⟨rfl,rfl⟩:=g1';rw[g2]at g2';simp only[Option.some.injEq,Obj.cells.injEq]at g2';obtain⟨rfl,_,rfl⟩:=g2'
 let m':M:=fun k' L=>if k'=k∧L=all.length then some (b,cap)else m k' L
 have hm1:m' k all.length=some (b,cap):=by simp[m']
 have hm2:∀k' L loc,m k' L=some loc→m' k' L=some loc:=fun k' L loc e=>by
  by_cases hc:k'=k∧L=all.length
  ·obtain⟨rfl,rfl⟩:=hc
   have h:=g12 _ _ e
   have:all.length=els.length:=by omega
   rw[this,g1]at e;rw[hm1];exact e
  ·simp only[m',if_neg hc];exact e
 have hc0:cap≠0:=by omega
 have hnewb:=setRow_heap w b cur cur' t fr g2;have hblt:b<w.heap.size:=(Array.getElem?_eq_some_iff.1 g2).1;have hfzle:fz*sz≤els.length*sz:=Nat.mul_le_mul_right _ g10
 have hcell:∀off,(w.setRow b cur').cell? ⟨b,off,none⟩=cur'[off]?:=fun off=>cell_of_row _ _ off cur' t fr hnewb
 refine⟨m',⟨⟨fun a x ha=>?_,fun p hp=>?_,by simp[keys],fun p hp q hq _ _ _=>?_⟩,hm2,fun _ _ e=>e,rfl,rfl,rfl,by simp,fun j hj hn=>setRow_other w b j _ fun e=>?_,fun j hj=>by simpa[keys]using hj,fun j hj=>?_,fun p hp b' hb=>?_,fun a x ha=>.inl ha⟩,hm1⟩
 ·by_cases e:a.block=b
  ·have hlt:=g11 a x ha e
   have hc:=hs.frozen a x ha;obtain⟨bb,off,sp⟩:=a;simp only at e hlt;subst e
   have hsp:sp=none:=by
    simp only[World.cell?,g2]at hc
    cases sp with
    |none=>rfl
    |some _=>simp at hc
   subst hsp;rw[cell_of_row w bb off cur t fr g2]at hc;rw[hcell,hsame off (by omega)];exact hc
  ·rw[qo (setRow_other w b _ _ e)];exact hs.frozen a x ha
 ·simp only[List.mem_singleton]at hp
  subst hp;refine .inr ⟨b,cap,cur',fr,hm1,g0,hnewb,hcap,g4,hcs,g6,hr,hk,by have:=Nat.mul_le_mul_right sz hle;omega,by omega,g11,fun L loc e=>?_,fun off x ho hx=>?_⟩
  ·simp only[m']at e
   split at e
   ·rename_i hc;omega
   ·have:=g12 _ _ e;omega
  ·rw[hsame off (by omega)]at hx
   exact g13 off x ho hx
 ·simp only[List.mem_singleton]at hp hq
  subst hp;subst hq;rfl
 ·subst e
  exact hn _ (List.mem_singleton.2 rfl) (by simp[blk,jI,Obj.ver,g1,hc0])
 ·funext L
  have:j≠k:=by simpa[keys]using hj
  simp[m',this]
 ·simp only[List.mem_singleton]at hp
  subst hp;simp only[blk,jI,jI,Obj.ver,hm1,Option.bind_some,if_neg hc0,Option.some.injEq]at hb;exact .inr ⟨_,List.mem_singleton.2 rfl,by simp[blk,jI,Obj.ver,g1,hc0,hb]⟩
end
section
variable{P:Program}{ρ:Env}{dst:Option Tmp}{ty:TypeId}{pos:String}{aft:Array Edge}{gd:Option (Nat×Bool)}
theorem uY{α:Type}(a b:List (List α)):(a++b).flatten=a.flatten++b.flatten:=List.flatten_append
theorem zjl{t e sz bytes:Nat}{x y:Operand}{k fz L:Nat}{els ys:List (List V)}{R:Heap}(hT:j8 P t=some (e,sz,bytes))(hx:evV ρ x=.sl sz k L 0 L)(hL:L=els.length)(hy:Src sz R (evV ρ y) ys)
  (h1:∀c∈ys,c.all V.one=true) (hlen:(els.length+ys.length)*bytes≤140737488355328) (h63:els.length+ys.length≤9223372036854775807) (hkR:wE k R=false) (hkl:∀c∈ys,c.length=sz):
  Loc P ⟨dst,.call ⟨.builtin .append,#[x,y],#[t,t]⟩,ty,pos,aft,gd⟩ ρ ((k,.row e sz fz els)::R) (.sl sz k (els++ys).length 0 (els++ys).length) ((k,.row e sz fz (els++ys))::R):=by
 intro ρr m Z w hops hs hnew;obtain⟨i,z,hu,hi,hz,hisz,hib,hzs,h0⟩:=qp hT;subst hisz;subst hib;subst hL;have hX:=hops x (by simp[Op.operands,Call.operands]);have hY:=hops y (by simp[Op.operands,Call.operands]);rw[hx]at hX;have hs1:xx m Z [(k,.row e i.size fz els)] w:=xx.left (F:=[(k,.row e i.size fz els)]) (G:=R) hs;have hsR:xx m Z R w:=xx.left (F:=R) (G:=[(k,.row e i.size fz els)]) (hs.perm (List.perm_append_comm (l₁:=[(k,Obj.row e i.size fz els)]) (l₂:=R)));obtain⟨A,c,hYv,hym,hA,hnews⟩:=hy.read h0 hsR hY
 have hap:∀p∈[(k,Obj.row e i.size fz (els++ys))],∀q∈R,p.1≠q.1:=fun p hp q hq e'=>by
  simp only[List.mem_singleton]at hp;subst hp;have e':k=q.1:=e';rw[zQ.2 (by rw[e'];exact mem_keys hq)]at hkR;cases hkR
 have hfr:∀{m' Z' w'},Step m Z [(k,.row e i.size fz els)] w m' Z' [(k,.row e i.size fz (els++ys))] w'→Step m Z ((k,.row e i.size fz els)::R) w m' Z' ((k,.row e i.size fz (els++ys))::R) w':=fun h=>Step.frame_rule (F:=[(k,.row e i.size fz els)]) (G:=R) (F':=[(k,.row e i.size fz (els++ys))]) hs h hap
 have fin:∀{v w'},(Builtin.append_ #[t,t] ty #[ev ρr x,ev ρr y]).run P w=.ok v w'→(execOp (ev ρr) ⟨dst,.call ⟨.builtin .append,#[x,y],#[t,t]⟩,ty,pos,aft,gd⟩).run P w=.ok (.value v) w':=fun h=>by
  simp[execOp,resolve,invoke,builtin,h]
 have hlenA:(els++ys).length=els.length+ys.length:=by simp
 obtain⟨f,loc,e1,e2,e3,e4,e5⟩:=hX;cases e1
 replace e5:=e5.imp_right fun h=>h.resolve_right fun h=>Nat.lt_irrefl 0 h.1
 by_cases hys:ys=[]
 ·-- nothing is appended
  subst hys
  have hcapx:∃A' c',ev ρr x=.slice A' els.length c'∧els.length≤c':=by
   rcases e5 with e5|⟨e5,A',e6⟩
   ·exact⟨_,_,e5,by omega⟩
   ·exact⟨A',0,by rw[e6];congr 1;omega,by omega⟩
  obtain⟨A',c',hXv,hc'⟩:=hcapx
  have hrun:(Builtin.append_ #[t,t] ty #[ev ρr x,ev ρr y]).run P w=.ok (ev ρr x) w:=by
   rw[hXv,hYv]
   have hf:(Builtin.firstCells i.size 0 (.slice A 0 c)).run P w=.ok #[] w:=by
    cases A with
    |none=>simp[Builtin.firstCells]
    |some a=>simp[Builtin.firstCells,loadCells,loadCellsFrom]
   cases A' with
   |none=>simp[Builtin.append_,run_underlying hu,sizeOf,typeInfo,hi,Builtin.lenOf,hc',hf]
   |some a'=>simp[Builtin.append_,run_underlying hu,sizeOf,typeInfo,hi,Builtin.lenOf,hc',hf,storeCells]
  simp only[List.append_nil];refine⟨rfl,.inl ⟨_,w,fin hrun,m,Z,Step.refl hs,m,loc,rfl,e2,e3,e4,e5.imp_right .inl⟩⟩
 have hn0:0<ys.length:=List.length_pos_iff.2 hys
 obtain⟨a,rfl⟩:∃a,A=some a:=by
  cases A with
  |none=>exact absurd (hA rfl) hys
  |some a=>exact⟨a,rfl⟩
 obtain⟨news,hn1,hn2⟩:=hnews a rfl
 have hnl:news.length=ys.length*i.size:=by rw[hn1.length,wo hkl]
 have hones:∀u∈news,u.oneCell'=true:=YW hn1 (List.all_eq_true.2 fun v hv=>by
  obtain⟨c,hc,hvc⟩:=List.mem_flatten.1 hv
  exact(List.all_eq_true.1 (h1 c hc)) v hvc)
 have hmax:els.length+ys.length≤maxLen:=by simp only[maxLen];omega
 rcases hs1.holds _ (List.mem_singleton.2 rfl)with⟨_,g1,g2,⟨b,g3⟩,g4⟩|⟨b,cap,cur,fr,g1,g0,g2,g3,g4,g5,g6,g7,g8,g9,g10,g11,g12,g13⟩
 ·-- an empty row without room
  subst g1;subst g2;have g3:m k 0=some (b,0):=g3;rw[show m k ([]:List (List V)).length=m k 0 from rfl,g3]at e2;cases e2;have hgr:=grownCap_ge w ys.length 0 e;have hgm:=grownCap_le_maxLen w ys.length 0 e (by simpa using hmax)
  obtain⟨m',Z',hst,hm'⟩:=Step.grown (m:=m) (Z:=Z) (w:=w) (k:=k) (t:=e) (sz:=i.size) (fz:=0) (els:=[]) (all:=[]++ys) (cur:=news.toArray++Builtin.zeroCells z.cells (grownCap w ys.length 0 e-ys.length)) (cap:=grownCap w ys.length 0 e) (w1:=w.drew) hs1 rfl (by simpa using g4) (by simpa using hn0) rfl rfl rfl rfl h0 (by simpa using hgr) hgm
   (by simp only[Array.size_append,List.size_toArray,size_zeroCells,hzs,hnl,← Nat.add_mul];congr 1;omega)
   (by
    have:(news.toArray++Builtin.zeroCells z.cells (grownCap w ys.length 0 e-ys.length)).toList.take (([]++ys:List (List V)).length*i.size)=news:=by
     simp only[Array.toList_append,List.nil_append,← hnl];exact List.take_left
    rw[this];simpa using hn1) (by simpa using hkl) (Nat.zero_le _)
  have hr:=run_append_nil (P:=P) w t ty e i z hu hi hz a ys.length c news hnl hn2 hn0 (by omega) (by have:=hlen;simp only[List.length_nil,Nat.zero_add]at this;omega)
  rcases e5 with e5|⟨_,A',e5⟩
  ·simp only[List.length_nil,Nat.zero_mul]at e5
   have hr2:=run_append_grow (P:=P) w t ty e i z hu hi hz ⟨b,0,none⟩ 0 0 [] (by simp) (fun j v h=>by simp at h) a ys.length c news hnl hn2 (by omega) (by omega) (growslice_fits (by omega) (by simpa using hlen));simp only[Nat.zero_add,List.nil_append,Array.empty_append]at hr2;refine⟨rfl,.inl ⟨_,_,fin (by rw[e5,hYv];exact hr2),m',Z',hfr hst,m',_,rfl,hm',by simpa using hgr,hgm,.inl (by simp)⟩⟩
  ·cases A' with
   |none=>exact⟨rfl,.inl ⟨_,_,fin (by rw[e5,hYv];exact hr),m',Z',hfr hst,m',_,rfl,hm',by simpa using hgr,hgm,.inl (by simp)⟩⟩
   |some a' =>
    have hr2:=run_append_grow (P:=P) w t ty e i z hu hi hz a' 0 0 [] (by simp) (fun j v h=>by simp at h) a ys.length c news hnl hn2 (by omega) (by omega) (growslice_fits (by omega) (by simpa using hlen));simp only[Nat.zero_add,List.nil_append,Array.empty_append]at hr2;exact⟨rfl,.inl ⟨_,_,fin (by rw[e5,hYv];exact hr2),m',Z',hfr hst,m',_,rfl,hm',by simpa using hgr,hgm,.inl (by simp)⟩⟩
 ·have g1:m k els.length=some (b,cap):=g1
  rw[g1]at e2;cases e2
  have e5:ev ρr x=.slice (some ⟨b,0,none⟩) els.length cap:=by
   rcases e5 with e5|⟨e5,_⟩
   ·simpa using e5
   ·simp only at e5;omega
  have hfl:=wo g8
  have hcl:cur.toList.length=cap*i.size:=by simpa using g5
  by_cases hroom:els.length+ys.length≤cap
  ·have hfit:els.length*i.size+news.length≤cur.size:=by rw[hnl,g5,← Nat.add_mul];exact Nat.mul_le_mul_right _ hroom
   have hr:=run_append_roomF (P:=P) w t ty e i hu hi b els.length cap cur fr g2 (Nat.le_trans g9 (Nat.mul_le_mul_right _ g10)) a ys.length c news hnl hn2 hones hroom hfit
   have hlt:els.length*i.size≤cur.toList.length:=by rw[hcl];exact Nat.mul_le_mul_right _ g3
   obtain⟨m',hst,hm'⟩:=Step.roomed (all:=els++ys) (cur':=(cur.toList.take (els.length*i.size)++news++cur.toList.drop (els.length*i.size+news.length)).toArray) hs1 g1 g0 g2 (by simp) (by omega)
    (by simp only[List.size_toArray,List.length_append,List.length_take,List.length_drop];(have:cur.size=cur.toList.length:=by simp);omega)
    (fun off ho=>by
     simp only[List.getElem?_toArray,List.append_assoc]
     rw[List.getElem?_append_left (by simp only[List.length_take];omega),List.getElem?_take,if_pos ho];simp)
    (by
     have e6:((els++ys).length*i.size)=(cur.toList.take (els.length*i.size)++news).length:=by
      have h7:(cur.toList.take (els.length*i.size)).length=els.length*i.size:=by rw[List.length_take];omega
      rw[hlenA,List.length_append («as»:=cur.toList.take (els.length*i.size)),h7,hnl,Nat.add_mul]
     rw[e6,uY];simp only[];rw[List.take_left]
     exact g7.append hn1)
    (fun c hc=>by
     rcases List.mem_append.1 hc with hc|hc
     ·exact g8 c hc
     ·exact hkl c hc) rfl
   exact⟨rfl,.inl ⟨_,_,fin (by rw[e5,hYv];exact hr),m',Z,hfr hst,m',_,rfl,hm',by simp only[hlenA];omega,g4,.inl (by simp[hlenA])⟩⟩
  ·have hgr:=grownCap_ge w (els.length+ys.length) cap e
   have hgm:=grownCap_le_maxLen w (els.length+ys.length) cap e hmax
   have htl:(cur.toList.take (els.length*i.size)).length=els.length*i.size:=by rw[List.length_take,hcl];exact Nat.min_eq_left (Nat.mul_le_mul_right _ g3)
   have hr:=run_append_grow (P:=P) w t ty e i z hu hi hz ⟨b,0,none⟩ els.length cap (cur.toList.take (els.length*i.size)) htl (fun j v h=>by
    rw[Addr.add_lit,Nat.zero_add,cell_of_row w b j cur e fr g2];rw[List.getElem?_take]at h;split at h
    ·simpa using h
    ·cases h) a ys.length c news hnl hn2 (by omega) (by omega) (growslice_fits (by omega) hlen)
   obtain⟨m',Z',hst,hm'⟩:=Step.grown (m:=m) (Z:=Z) (w:=w) (k:=k) (t:=e) (sz:=i.size) (fz:=fz) (els:=els) (all:=els++ys) (cur:=(cur.toList.take (els.length*i.size)).toArray++news.toArray++Builtin.zeroCells z.cells (grownCap w (els.length+ys.length) cap e-(els.length+ys.length))) (cap:=grownCap w (els.length+ys.length) cap e) (w1:=w.drew) hs1 rfl g12 (by omega) rfl rfl rfl rfl h0 (by omega) hgm
    (by simp only[Array.size_append,List.size_toArray,size_zeroCells,hzs,hnl,htl,← Nat.add_mul];congr 1;omega)
    (by
     have e6:((els++ys).length*i.size)=(cur.toList.take (els.length*i.size)++news).length:=by
      rw[hlenA,List.length_append («as»:=cur.toList.take (els.length*i.size)),htl,hnl,Nat.add_mul]
     rw[e6,uY];simp only[Array.toList_append];rw[List.take_left]
     exact g7.append hn1)
    (fun c hc=>by
     rcases List.mem_append.1 hc with hc|hc
     ·exact g8 c hc
     ·exact hkl c hc) g10
   exact⟨rfl,.inl ⟨_,_,fin (by rw[e5,hYv];exact hr),m',Z',hfr hst,m',_,rfl,hm',by simp only[hlenA];omega,hgm,.inl (by simp[hlenA])⟩⟩
end
section
variable{P:Program}{ρ:Env}{dst:Option Tmp}{ty:TypeId}{pos:String}{aft:Array Edge}{gd:Option (Nat×Bool)}
def ztx(P:Program)(t:Nat):Bool:=match P.underlying t with|some .string=>true|_=>false
theorem zmg{t:Nat}(h:ztx P t=true):P.underlying t=some .string:=by
 unfold ztx at h;split at h
 ·assumption
 ·cases h
theorem zan{t:TypeId}{x ix:Operand}{k:IntKind}{i:Int}{l:List UInt8}(ht:ztx P t=true)(hx:evV ρ x=.str l)(hi:evV ρ ix=.int k i)(h0:0≤i)(h1:i<l.length):
  Loc P ⟨dst,.index t x ix,ty,pos,aft,gd⟩ ρ [] (.int .u8 ((l.getD i.toNat 0).toNat)) []:=by
 intro ρr m Z w hops hs _;have hX:=hops x (by simp[Op.operands]);have hI:=hops ix (by simp[Op.operands]);rw[hx]at hX;rw[hi]at hI;have hX:ev ρr x=.string ⟨l.toArray⟩:=hX;have hI:ev ρr ix=.int k i:=hI
 have hlt:i.toNat<l.length:=by omega
 have hg:(⟨l.toArray⟩:ByteArray)[i.toNat]?=some (l.getD i.toNat 0):=by
  have hsz:(⟨l.toArray⟩:ByteArray).size=l.length:=by show l.toArray.size=_;simp
  rw[getElem?_pos _ _ (by rw[hsz];exact hlt)]
  congr 1
  show l.toArray[i.toNat]=_
  simp[List.getD_eq_getElem?_getD,List.getElem?_eq_getElem hlt]
 refine⟨rfl,.inl ⟨_,w,?_,m,Z,Step.refl hs,rfl⟩⟩;simp[execOp,Instr.index,asIntOf,hX,hI,run_underlying (zmg ht),h0,hg]
theorem zep{t e sz:Nat}{x ix:Operand}{k:IntKind}{i:Int}{els:List (List V)}{cs:List V}(ht:uK P t=some (e,sz))(hx:evV ρ x=.vs sz els)(hi:evV ρ ix=.int k i)(h0:0≤i)(hc:els[i.toNat]?=some cs):
  Loc P ⟨dst,.indexAddr t x ix,ty,pos,aft,gd⟩ ρ [] (.vp cs 0) []:=by
 intro ρr m Z w hops hs _;have hX:=hops x (by simp[Op.operands]);have hI:=hops ix (by simp[Op.operands]);rw[hx]at hX;rw[hi]at hI;have hI:ev ρr ix=.int k i:=hI;obtain⟨A,c,h1,h2,h3,h4⟩:=hX;have hlt:=(List.getElem?_eq_some_iff.1 hc).1
 rcases h4 with h4|⟨a,rfl,h5⟩
 ·subst h4;simp at hlt
 have h6:=(h5.get hc).2;rw[Nat.zero_add]at h6;unfold uK at ht;split at ht
 ·rename_i e' hu
  split at ht
  ·rename_i ii hii
   split at ht
   ·simp only[Option.some.injEq,Prod.mk.injEq]at ht
    obtain⟨rfl,hsz⟩:=ht;refine⟨rfl,.inl ⟨.pointer (some (a.add (i.toNat*sz))),w,?_,m,Z,Step.refl hs,a.add (i.toNat*sz),by rw[Addr.add_zero'],h6⟩⟩
    have h7:¬((els.length:Int)≤i):=by omega
    simp[execOp,Instr.indexAt,run_underlying hu,asIntOf,h1,hI,sizeOf,typeInfo,hii,hsz,h0,h7]
   ·cases ht
  ·cases ht
 ·cases ht
theorem zao{t e sz kk L o n:Nat}{x ix:Operand}{k:IntKind}{i:Int}(ht:uK P t=some (e,sz))(hx:evV ρ x=.sl sz kk L o n)(hi:evV ρ ix=.int k i)(h0:0≤i)(h1:i<n):
  Loc P ⟨dst,.indexAddr t x ix,ty,pos,aft,gd⟩ ρ [] (.ptr kk L (o*sz+i.toNat*sz)) []:=by
 intro ρr m Z w hops hs _;have hX:=hops x (by simp[Op.operands]);have hI:=hops ix (by simp[Op.operands]);rw[hx]at hX;rw[hi]at hI;have hI:ev ρr ix=.int k i:=hI;obtain⟨f,loc,e1,e2,e3,e4,e5⟩:=hX;cases e1
 have e5:ev ρr x=.slice (some ⟨loc.1,o*sz,none⟩) n (loc.2-o):=by
  rcases e5 with e5|⟨e5,_⟩|⟨_,e5,_⟩
  ·exact e5
  ·omega
  ·omega
 unfold uK at ht;split at ht
 ·rename_i e' hu
  split at ht
  ·rename_i ii hii
   split at ht
   ·simp only[Option.some.injEq,Prod.mk.injEq]at ht
    obtain⟨rfl,hsz⟩:=ht;refine⟨rfl,.inl ⟨.pointer (some ⟨loc.1,o*sz+i.toNat*sz,none⟩),w,?_,m,Z,Step.refl hs,m,loc,rfl,e2,rfl⟩⟩
    have h7:¬((n:Int)≤i):=by omega
    simp[execOp,Instr.indexAt,run_underlying hu,asIntOf,e5,hI,sizeOf,typeInfo,hii,hsz,h0,h7,Addr.add_lit]
   ·cases ht
  ·cases ht
 ·cases ht
theorem zmh{m:M}{Z:ZM}{w:World}{k t sz fz:Nat}{els:List (List V)}{i:Nat}{cs:List V}(h:Holds m Z w k (.row t sz fz els))(hc:els[i]?=some cs):
  ∃b cap cur fr,m k els.length=some (b,cap)∧w.heap[b]?=some (.cells cur t fr)∧∀j v,cs[j]?=some v→∃x,cur[i*sz+j]?=some x∧Rep none Z v x:=by
 have hlt:=(List.getElem?_eq_some_iff.1 hc).1
 rcases h with⟨_,rfl,_⟩|⟨b,cap,cur,fr,g1,g0,g2,g3,g4,g5,g6,g7,g8,g9,g10,g11,g12,g13⟩
 ·simp at hlt
 refine⟨b,cap,cur,fr,g1,g2,fun j v hj=>?_⟩;obtain⟨x,h1,h2⟩:=g7.get (kJ g8 hc hj);rw[List.getElem?_take]at h1;split at h1
 ·exact⟨x,by simpa using h1,h2⟩
 ·cases h1
theorem zeq{t et sz fz k L off:Nat}{a:Operand}{els:List (List V)}{cs:List V}{v:V}(i j:Nat)(ha:evV ρ a=.ptr k L off)(hL:L=els.length)(hoff:off=i*sz+j)(hc:els[i]?=some cs)(hv:atV P t cs j=some v):
  Loc P ⟨dst,.load t a,ty,pos,aft,gd⟩ ρ [(k,.row et sz fz els)] v [(k,.row et sz fz els)]:=by
 intro ρr m Z w hops hs _;have hX:=hops a (by simp[Op.operands]);rw[ha]at hX;subst hL;subst hoff;obtain⟨f,loc,e1,e2,e3⟩:=hX;cases e1;obtain⟨b,cap,cur,fr,g1,g2,g3⟩:=zmh (hs.holds _ (List.mem_singleton.2 rfl)) hc;have g1:m k els.length=some (b,cap):=g1;rw[g1]at e2;cases e2
 have hcell:∀q,w.cell? ⟨b,q,none⟩=cur[q]?:=fun q=>cell_of_row w b q cur et fr g2
 refine⟨rfl,.inl ?_⟩;unfold atV at hv;split at hv
 ·rename_i hsh
  split at hv
  ·rename_i v' hv'
   split at hv
   ·cases hv
    obtain⟨u,h4,h5⟩:=g3 _ _ hv';exact⟨u,w,qR (jJ hsh) e3 (by rw[hcell];exact h4),m,Z,Step.refl hs,h5.none_some⟩
   ·cases hv
  ·cases hv
 ·rename_i n hsh
  split at hv
  ·rename_i hk
   have hk:=Nat.le_of_ble_eq_true hk;cases hv
   let us:List Value:=(List.range n).map fun q=>(cur[i*sz+(j+q)]?).getD Go.undef
   have hex:∀q,q<n→∃u v,cs[j+q]?=some v∧cur[i*sz+(j+q)]?=some u∧Rep none Z v u:=fun q hq=>by
    have hcq:cs[j+q]?=some (cs[j+q]'(by omega)):=List.getElem?_eq_getElem (by omega);obtain⟨u,h1,h2⟩:=g3 _ _ hcq;exact⟨u,_,hcq,h1,h2⟩
   have hget:∀q,q<n→us[q]?=cur[i*sz+(j+q)]?:=fun q hq=>by
    obtain⟨u,v,_,h2,_⟩:=hex q hq;simp only[us,List.getElem?_map,List.getElem?_range hq,Option.map_some,h2,Option.getD_some]
   refine⟨.agg us.toArray,w,kH us (vw hsh) e3 (by simp[us]) fun q u hq=>?_,m,Z,Step.refl hs,us,rfl,?_⟩
   ·have hqn:q<n:=by have:=(List.getElem?_eq_some_iff.1 hq).1;simpa[us]using this
    rw[Addr.add_lit,hcell,Nat.add_assoc,← hget q hqn];exact hq
   ·refine zo.of_get (by simp[us];omega) fun q v u hv hu=>?_
    have hqn:q<n:=by have:=(List.getElem?_eq_some_iff.1 hu).1;simpa[us]using this
    rw[List.getElem?_take,if_pos hqn,List.getElem?_drop]at hv;obtain⟨u',v',h1,h2,h3⟩:=hex q hqn;rw[hv]at h1;cases h1;rw[hget q hqn,h2]at hu;cases hu;exact h3.none_some
  ·cases hv
 ·cases hv
theorem KB{α:Type}{k off:Nat}{us:List α}:∀(xs:List (List α)),(∀x∈xs,x.length=k)→∀(i:Nat)(x:List α),xs[i]?=some x→off+us.length≤k →
  (xs.set i (x.take off++us++x.drop (off+us.length))).flatten=xs.flatten.take (i*k+off)++us++xs.flatten.drop (i*k+off+us.length)
 |[],_,i,x,h,_=>by simp at h
 |y::xs,hk,0,x,h,hf=>by
  have hy:=hk y (List.mem_cons_self ..);simp only[List.getElem?_cons_zero,Option.some.injEq]at h;subst h;rw[List.set_cons_zero,List.flatten_cons,List.flatten_cons,Nat.zero_mul,Nat.zero_add,List.take_append_of_le_length (by omega),List.drop_append_of_le_length (by omega)];simp[List.append_assoc]
 |y::xs,hk,i+1,x,h,hf=>by
  have hy:=hk y (List.mem_cons_self ..);have ih:=KB (us:=us) (off:=off) xs (fun z hz=>hk z (List.mem_cons_of_mem _ hz)) i x (by simpa using h) hf;rw[List.set_cons_succ,List.flatten_cons,List.flatten_cons,ih,show(i+1)*k+off=y.length+(i*k+off) by rw[hy,Nat.succ_mul];omega,List.take_length_add_append,Nat.add_assoc,List.drop_append];rw[List.drop_of_length_le (by omega:y.length≤y.length+(i*k+off)+us.length),show y.length+(i*k+off)+us.length-y.length=i*k+(off+us.length) by omega];simp[List.append_assoc]
theorem zjm{α:Type}(c us:List α)(p n:Nat)(h:p+us.length≤n)(hn:n≤c.length):(c.take p++us++c.drop (p+us.length)).take n=(c.take n).take p++us++(c.take n).drop (p+us.length):=by
 have hA:(c.take p++us).length=p+us.length:=by simp only[List.length_append,List.length_take];omega
 have e:n=(c.take p++us).length+(n-(p+us.length)):=by omega
 have e1:(c.take n).take p=c.take p:=by rw[List.take_take,Nat.min_eq_left (by omega)]
 rw[e1,List.drop_take]
 conv=>lhs;rw[e]
 rw[List.take_length_add_append]
theorem zap{t et sz fz k L off:Nat}{a x:Operand}{els:List (List V)}{cs:List V}(i j:Nat)(ha:evV ρ a=.ptr k L off)(hL:L=els.length)(hoff:off=i*sz+j)(hc:els[i]?=some cs)(hfz:fz≤i)
  (hp:(evV ρ x).plain=true) (h1:(evV ρ x).cells.all V.one=true) (hrf:(evV ρ x).refs=[]) (hsz:qT P t (evV ρ x).cells.length=true) (hfit:j+(evV ρ x).cells.length≤sz):
  Loc P ⟨dst,.store t a x,ty,pos,aft,gd⟩ ρ [(k,.row et sz fz els)] .no [(k,.row et sz fz (els.set i (cs.take j++(evV ρ x).cells++cs.drop (j+(evV ρ x).cells.length))))]:=by
 intro ρr m Z w hops hs _;have hX:=hops a (by simp[Op.operands]);rw[ha]at hX;subst hL;subst hoff;obtain⟨f,loc,e1,e2,e3⟩:=hX;cases e1;have hlt:=(List.getElem?_eq_some_iff.1 hc).1
 rcases hs.holds _ (List.mem_singleton.2 rfl)with⟨_,g1,_⟩|⟨b,cap,cur,fr,g1,g0,g2,g3,g4,g5,g6,g7,g8,g9,g10,g11,g12,g13⟩
 ·subst g1;simp at hlt
 have g1:m k els.length=some (b,cap):=g1;rw[g1]at e2;cases e2;have hv0:=(hops x (by simp[Op.operands])).cells hp
 have hv:zo none Z (evV ρ x).cells (ev ρr x).cells.toList:=by
  refine zo.flat _ _ ?_ hv0;cases hxv:evV ρ x<;>rw[hxv]at hrf<;>simp only[V.cells,yI,List.append_nil]<;>exact hrf
 have hlv:=hv.length;have hones:=YW hv h1;have hcs:=g8 cs (List.mem_of_getElem? hc)
 have hle:i*sz+sz≤els.length*sz:=by
  have:(i+1)*sz≤els.length*sz:=Nat.mul_le_mul_right sz hlt
  rwa [Nat.succ_mul]at this
 have hle2:els.length*sz≤cap*sz:=Nat.mul_le_mul_right sz g3;have hfl:fz*sz≤i*sz:=Nat.mul_le_mul_right sz hfz
 have hcl:cur.toList.length=cap*sz:=by simpa using g5
 unfold qT at hsz;split at hsz
 ·rename_i ii hi
  have hik:=Nat.eq_of_beq_eq_true hsz;have hst:=run_storeCells_atF P b (i*sz+j) et fr (ev ρr x).cells.toList 0 cur w g2 (by omega) (by omega) hones;simp only[Nat.add_zero]at hst
  have hsz2:(ev ρr x).cells.size=ii.size:=by simp at hlv;omega
  have hnewb:=setRow_heap w b cur (cur.toList.take (i*sz+j)++(ev ρr x).cells.toList++cur.toList.drop (i*sz+j+(ev ρr x).cells.toList.length)).toArray et fr g2
  have hlen:(els.set i (cs.take j++(evV ρ x).cells++cs.drop (j+(evV ρ x).cells.length))).length=els.length:=by simp
  have hc0:cap≠0:=by omega
  refine⟨rfl,.inr (.inl ⟨w.setRow b (cur.toList.take (i*sz+j)++(ev ρr x).cells.toList++cur.toList.drop (i*sz+j+(ev ρr x).cells.toList.length)).toArray,?_,m,Z,?_,rfl⟩)⟩
  ·simp[execOp,Instr.storeAt,e3,Instr.sureAddr,storeVar,sizeOf,typeInfo,hi,hsz2,hst]
  ·have hsame:∀off,off<i*sz+j→(cur.toList.take (i*sz+j)++(ev ρr x).cells.toList++cur.toList.drop (i*sz+j+(ev ρr x).cells.toList.length)).toArray[off]?=cur[off]?:=fun off ho=>by
    simp only[List.getElem?_toArray,List.append_assoc];rw[List.getElem?_append_left (by simp only[List.length_take];omega),List.getElem?_take,if_pos ho];simp
   refine Step.write (b:=b) hs (by simp[blk,jI,Obj.ver,g1,hc0]) (QF (by simp[Obj.ver]) rfl rfl) rfl rfl rfl (by simp) (fun q hq=>setRow_other w b q _ hq) (fun aa y ha' e=>?_) ?_
   ·have hl:=g11 aa y ha' e
    have hc':=hs.frozen aa y ha';obtain⟨bb,off,sp⟩:=aa;simp only at e hl;subst e
    have hsp:sp=none:=by
     simp only[World.cell?,g2]at hc'
     cases sp with
     |none=>rfl
     |some _=>simp at hc'
    subst hsp;rw[cell_of_row w bb off cur et fr g2]at hc';rw[cell_of_row _ bb off _ et fr hnewb,hsame off (by omega)];exact hc'
   ·refine .inr ⟨b,cap,_,fr,by rw[hlen];exact g1,g0,hnewb,by rw[hlen];exact g3,g4,?_,g6,?_,?_,g9,by rw[hlen];exact g10,g11,by rw[hlen];exact g12,fun off y ho hy=>?_⟩
    ·simp only[List.size_toArray,List.length_append,List.length_take,List.length_drop];have:cur.size=cur.toList.length:=by simp
     omega
    ·rw[hlen,KB els g8 i cs hc (by omega)]
     simp only[];rw[zjm _ _ _ _ (by omega) (by omega)];have:=QD (off:=i*sz+j) g7 hv;exact this
    ·intro c hcc
     rcases List.mem_or_eq_of_mem_set hcc with hcc|rfl
     ·exact g8 c hcc
     ·simp only[List.length_append,List.length_take,List.length_drop];omega
    ·rw[hsame off (by omega)]at hy
     exact g13 off y ho hy
 ·cases hsz
end
def zg0(ρ:Env):Option Operand→Int→Int→Prop
 |none,d,i=>i=d
 |some x,_,i=>∃k,evV ρ x=.int k i
section
variable{P:Program}{ρ:Env}{dst:Option Tmp}{ty:TypeId}{pos:String}{aft:Array Edge}{gd:Option (Nat×Bool)}
theorem zmi{ρr:zR}{m:Option M}{Z:ZM}{o:Option Operand}{d i:Int}(h:zg0 ρ o d i)(hr:∀x∈o,Rep m Z (evV ρ x) (ev ρr x)):(o=none∧i=d)∨∃x k,o=some x∧ev ρr x=.int k i:=by
 cases o with
 |none=>exact .inl ⟨rfl,h⟩
 |some x =>
  obtain⟨k,hk⟩:=h;have:=hr x rfl;rw[hk]at this;exact .inr ⟨x,k,rfl,this⟩
theorem J2{w:World}{ρr:zR}{m:Option M}{Z:ZM}{lo hi:Option Operand}{l h:Int}{isS:Bool}{len cap:Nat}(hl:zg0 ρ lo 0 l)(hh:zg0 ρ hi len h)(hrl:∀x∈lo,Rep m Z (evV ρ x) (ev ρr x))(hrh:∀x∈hi,Rep m Z (evV ρ x) (ev ρr x))
  (h0:0≤l) (h1:l≤h) (h2:h≤len) (hc:len≤cap):(Instr.sliceBounds isS len cap (lo.map (ev ρr)) (hi.map (ev ρr)) none).run P w=.ok (l.toNat,h.toNat,cap) w:=by
 have h3:h≤(cap:Int):=by omega
 have h4:0≤h:=by omega
 have h5:((h.toNat:Nat):Int)=h:=Int.toNat_of_nonneg h4
 rcases zmi hl hrl with⟨rfl,rfl⟩|⟨x,k,rfl,hx⟩<;>rcases zmi hh hrh with⟨rfl,rfl⟩|⟨y,k',rfl,hy⟩
 ·simp[Instr.sliceBounds]
 ·simp[Instr.sliceBounds,Instr.sliceBound,asIntOf,hy,h4,h3]
 ·simp[Instr.sliceBounds,Instr.sliceBound,asIntOf,hx,h0,h1]
 ·simp[Instr.sliceBounds,Instr.sliceBound,asIntOf,hx,hy,h4,h3,h0,h5,h1]
theorem zaq{t:TypeId}{x:Operand}{lo hi:Option Operand}{l h:Int}{s:List UInt8}(ht:ztx P t=true)(hx:evV ρ x=.str s)(hl:zg0 ρ lo 0 l)(hh:zg0 ρ hi s.length h)(h0:0≤l)(h1:l≤h)(h2:h≤s.length):
  Loc P ⟨dst,.slice t x lo hi none,ty,pos,aft,gd⟩ ρ [] (.str ((s.take h.toNat).drop l.toNat)) []:=by
 intro ρr m Z w hops hs _;have hX:=hops x (by simp[Op.operands]);rw[hx]at hX;have hX:ev ρr x=.string ⟨s.toArray⟩:=hX
 have hsz:(⟨s.toArray⟩:ByteArray).size=s.length:=by show s.toArray.size=_;simp
 have hb:=J2 (P:=P) (w:=w) (isS:=false) (cap:=s.length) hl hh (fun y hy=>hops y (by simp[Op.operands];right;left;simpa using hy)) (fun y hy=>hops y (by simp[Op.operands];right;right;simpa using hy)) h0 h1 h2 (Nat.le_refl _);refine⟨rfl,.inl ⟨.string ((⟨s.toArray⟩:ByteArray).extract l.toNat h.toNat),w,?_,m,Z,Step.refl hs,?_⟩⟩
 ·simp[execOp,Instr.sliceAt,Instr.slice,run_underlying (zmg ht),hX,hsz,hb]
 ·show _=_
  congr 1
  apply ByteArray.ext;rw[ByteArray.data_extract];apply Array.ext';simp[List.extract_eq_drop_take,List.drop_take]
theorem zer{t e sz:Nat}{x:Operand}{lo hi:Option Operand}{l h:Int}{els:List (List V)}(ht:uK P t=some (e,sz))(hx:evV ρ x=.vs sz els)(hl:zg0 ρ lo 0 l)(hh:zg0 ρ hi els.length h)(h0:0≤l)(h1:l≤h)(h2:h≤els.length):
  Loc P ⟨dst,.slice t x lo hi none,ty,pos,aft,gd⟩ ρ [] (.vs sz ((els.take h.toNat).drop l.toNat)) []:=by
 intro ρr m Z w hops hs _;have hX:=hops x (by simp[Op.operands]);rw[hx]at hX;obtain⟨A,c,g1,g2,g3,g4⟩:=hX;have hb:=J2 (P:=P) (w:=w) (isS:=true) (cap:=c) hl hh (fun y hy=>hops y (by simp[Op.operands];right;left;simpa using hy)) (fun y hy=>hops y (by simp[Op.operands];right;right;simpa using hy)) h0 h1 h2 g2;unfold uK at ht;split at ht
 ·rename_i e' hu
  split at ht
  ·rename_i ii hii
   split at ht
   ·simp only[Option.some.injEq,Prod.mk.injEq]at ht
    obtain⟨rfl,hsz⟩:=ht
    have hlen:((els.take h.toNat).drop l.toNat).length=h.toNat-l.toNat:=by simp;omega
    refine⟨rfl,.inl ⟨.slice (if c=l.toNat then A else A.map (·.add (l.toNat*sz))) (h.toNat-l.toNat) (c-l.toNat),w,?_,m,Z,Step.refl hs,(if c=l.toNat then A else A.map (·.add (l.toNat*sz))),c-l.toNat,by rw[hlen],by rw[hlen];omega,by omega,?_⟩⟩
    ·simp[execOp,Instr.sliceAt,Instr.slice,run_underlying hu,g1,hb,sizeOf,typeInfo,hii,hsz]
    ·by_cases he:(els.take h.toNat).drop l.toNat=[]
     ·exact .inl he
     ·have hpos:0<h.toNat-l.toNat:=by rw[← hlen];exact List.length_pos_iff.2 he
      rcases g4 with g4|⟨a,rfl,g5⟩
      ·subst g4;simp at h2;omega
      ·refine .inr ⟨a.add (l.toNat*sz),by rw[if_neg (by omega)];rfl,yH.of_get fun i cs hi=>?_⟩
       rw[List.getElem?_drop,List.getElem?_take]at hi;split at hi
       ·have:=g5.get hi
        refine⟨this.1,?_⟩;have h6:=this.2;rw[HC,Nat.zero_add,← Nat.add_mul]
        rwa [Nat.zero_add]at h6
       ·cases hi
   ·cases ht
  ·cases ht
 ·cases ht
theorem zar{t e sz k L o n:Nat}{x:Operand}{lo hi:Option Operand}{l h:Int}(ht:uK P t=some (e,sz))(hx:evV ρ x=.sl sz k L o n)(hl:zg0 ρ lo 0 l)(hh:zg0 ρ hi n h)(h0:0≤l)(h1:l≤h)(h2:h≤n):
  Loc P ⟨dst,.slice t x lo hi none,ty,pos,aft,gd⟩ ρ [] (.sl sz k L (o+l.toNat) (h.toNat-l.toNat)) []:=by
 intro ρr m Z w hops hs _;have hX:=hops x (by simp[Op.operands]);rw[hx]at hX;obtain⟨f,loc,e1,e2,e3,e4,e5⟩:=hX;cases e1
 have hbnd:∀c,n≤c→(Instr.sliceBounds true n c (lo.map (ev ρr)) (hi.map (ev ρr)) none).run P w=.ok (l.toNat,h.toNat,c) w:=fun c hc =>
  J2 (P:=P) (w:=w) (isS:=true) (cap:=c) hl hh (fun y hy=>hops y (by simp[Op.operands];right;left;simpa using hy)) (fun y hy=>hops y (by simp[Op.operands];right;right;simpa using hy)) h0 h1 h2 hc
 unfold uK at ht;split at ht
 ·rename_i e' hu
  split at ht
  ·rename_i ii hii
   split at ht
   ·simp only[Option.some.injEq,Prod.mk.injEq]at ht
    obtain⟨rfl,hsz⟩:=ht
    have run:∀A c,ev ρr x=.slice A n c→n≤c→(execOp (ev ρr) ⟨dst,.slice t x lo hi none,ty,pos,aft,gd⟩).run P w=.ok (.value (.slice (if c=l.toNat then A else A.map (·.add (l.toNat*sz))) (h.toNat-l.toNat) (c-l.toNat))) w:=fun A c hv hc=>by
     simp[execOp,Instr.sliceAt,Instr.slice,run_underlying hu,hv,hbnd c hc,sizeOf,typeInfo,hii,hsz]
    rcases e5 with e5|⟨e5,A,e6⟩|⟨e5,e6,A,c,e7,e8⟩
    ·refine⟨rfl,.inl ⟨_,w,run _ _ e5 (by omega),m,Z,Step.refl hs,m,loc,rfl,e2,by omega,e4,?_⟩⟩
     by_cases hc:loc.2-o=l.toNat
     ·by_cases hl0:l.toNat=0
      ·rw[if_pos hc]
       by_cases ho:0<o
       ·exact .inr (.inr ⟨by omega,by omega,_,_,by rw[show h.toNat-l.toNat=0 by omega],by omega⟩)
       ·refine .inl ?_
        rw[show o=0 by omega];simp[hl0]
      ·rw[if_pos hc]
       exact .inr (.inr ⟨by omega,by omega,_,_,by rw[show h.toNat-l.toNat=0 by omega],by omega⟩)
     ·rw[if_neg hc]
      refine .inl ?_;simp only[Option.map_some,Addr.add_lit,Nat.add_mul];rw[Nat.sub_sub]
    ·have hn:n=0:=by omega
     subst hn
     have hl0:l.toNat=0:=by omega
     have hh0:h.toNat=0:=by omega
     refine⟨rfl,.inl ⟨_,w,run _ _ e6 (Nat.le_refl _),m,Z,Step.refl hs,m,loc,rfl,e2,by omega,e4,.inr (.inl ⟨e5,_,by rw[hl0,hh0]⟩)⟩⟩
    ·subst e6
     have hl0:l.toNat=0:=by omega
     have hh0:h.toNat=0:=by omega
     refine⟨rfl,.inl ⟨_,w,run _ _ e7 (Nat.zero_le _),m,Z,Step.refl hs,m,loc,rfl,e2,by omega,e4,.inr (.inr ⟨by omega,by omega,_,_,by rw[hh0,hl0],by omega⟩)⟩⟩
   ·cases ht
  ·cases ht
 ·cases ht
theorem zjn{t t':TypeId}{x y:Operand}{a b:List UInt8}(hx:evV ρ x=.str a)(hy:evV ρ y=.str b)(h:a.length+b.length≤9223372036854775807):
  Loc P ⟨dst,.binOp .add t x y t',ty,pos,aft,gd⟩ ρ [] (.str (a++b)) []:=by
 intro ρr m Z w hops hs _;have hX:=hops x (by simp[Op.operands]);have hY:=hops y (by simp[Op.operands]);rw[hx]at hX;rw[hy]at hY;have hX:ev ρr x=.string ⟨a.toArray⟩:=hX;have hY:ev ρr y=.string ⟨b.toArray⟩:=hY
 have ha:(⟨a.toArray⟩:ByteArray).size=a.length:=by show a.toArray.size=_;simp
 have hb:(⟨b.toArray⟩:ByteArray).size=b.length:=by show b.toArray.size=_;simp
 have hm:¬(((a.length+b.length:Nat):Int)>IntKind.i64.max):=by
  have:IntKind.i64.max=9223372036854775807:=by decide
  omega
 refine⟨rfl,.inl ⟨.string ((⟨a.toArray⟩:ByteArray)++⟨b.toArray⟩),w,?_,m,Z,Step.refl hs,?_⟩⟩
 ·simp only[execOp,hX,hY,eqGuard,binOp,Op.stringOp,ha,hb,if_neg hm]
  simp
 ·show _=_
  congr 1
theorem zvp{op:BinOp}{t t':TypeId}{x y:Operand}{k:IntKind}{a b:Int}(hop:op=.quo∨op=.rem)(hx:evV ρ x=.int k a)(hy:evV ρ y=.int k b)(hb:b≠0):
  Loc P ⟨dst,.binOp op t x y t',ty,pos,aft,gd⟩ ρ [] (.int k (match op with|.quo=>k.wrap (a.tdiv b)|_=>a.tmod b)) []:=by
 intro ρr m Z w hops hs _;have hX:=hops x (by simp[Op.operands]);have hY:=hops y (by simp[Op.operands]);rw[hx]at hX;rw[hy]at hY
 rcases hop with rfl|rfl
 ·obtain⟨u,h1,h2⟩:=YU (P:=P) (w:=w) (dst:=dst) (ty:=ty) (pos:=pos) (aft:=aft) (gd:=gd) (t:=t) (t':=t') (op:=.quo) (m:=some m) (Z:=Z) (v:=.int k (k.wrap (a.tdiv b))) hX hY (by simp) (by simp[zz3,hb])
  exact⟨rfl,.inl ⟨u,w,h1,m,Z,Step.refl hs,h2⟩⟩
 ·obtain⟨u,h1,h2⟩:=YU (P:=P) (w:=w) (dst:=dst) (ty:=ty) (pos:=pos) (aft:=aft) (gd:=gd) (t:=t) (t':=t') (op:=.rem) (m:=some m) (Z:=Z) (v:=.int k (a.tmod b)) hX hY (by simp) (by simp[zz3,hb])
  exact⟨rfl,.inl ⟨u,w,h1,m,Z,Step.refl hs,h2⟩⟩
end
section
variable{K0:List Nat}{c:Ctx K0}{P:Program}{r:Option Nat}{N:Nat}{Q:yf}{ρ:Env}{H H':Heap}{ds:List Deferred}{all l rest:List Oper}{x:Code}
theorem JX.step{F F':Heap}{ks:List Nat}{ρr:zR}{w:World}{ρ':Env}(hks:nodupB ks=true)(hF:je ks H=some F)(hfr:uW F' ks H=true)
  (h:∀m Z,xx m Z F w→(∀k∈keys F',k ∉ keys F→∀L,m k L=none)→zeb m Z ρ ρr→∃m' Z',Step m Z F w m' Z' F' w∧zeb m' Z' ρ' ρr) (S:JX c ρ H ρr w):JX c ρ' (F'++vU ks H) ρr w:=by
 obtain⟨m,Z,S,hR⟩:=S;have hp:=wm S.step.sim.nodup (zM hks) hF;obtain⟨h2,h3⟩:=zX hF;have hs:xx m Z (F++vU ks H) w:=S.step.sim.perm hp
 obtain⟨m',Z',hst,hR'⟩:=h m Z hs.left (fun k hk hkF=>S.dom k (by
  obtain⟨p,hp',rfl⟩:=List.mem_map.1 hk;have:=(List.all_eq_true.1 hfr) p hp';simp only[Bool.or_eq_true,List.contains_eq_mem,decide_eq_true_eq,Bool.not_eq_true',decide_eq_false_iff_not]at this
  rcases this with this|this
  ·exact absurd (h2▸this) hkF
  ·exact this)) hR
 exact⟨m',Z',S.step' hks hF hfr (fun _ _=>hst),hR'⟩
theorem Wh{F:Heap}{ks:List Nat}(h:∀p∈F,p.1∈ks):uW F ks H=true:=List.all_eq_true.2 fun p hp=>by simp[h p hp]
theorem JX.freeze{F:Heap}(ks:List Nat){ρr:zR}{w:World}(hks:nodupB ks=true)(hF:je ks H=some F)(S:JX c ρ H ρr w):JX c ρ (frz F++vU ks H) ρr w :=
 JX.step hks hF (Wh fun p hp=>by rw[← (zX hF).1,← yK];exact mem_keys hp) (fun m Z hs _ hR=>⟨m,_,Step.freeze hs,hR.up (Step.freeze hs).zext fun _ _ _ e=>e⟩) S
theorem JX.nilRow(t d e sz:Nat){ρr:zR}{w:World}(hsz:Nat.ble 1 sz=true)(ht:ρ.get t=.nils)(hd:wE d H=false)(S:JX c ρ H ρr w):JX c ((t,.sl sz d 0 0 0)::ρ) ((d,.row e sz 0 [])::H) ρr w:=by
 have hd':d ∉ keys H:=fun h=>by rw[zQ.2 h]at hd;cases hd
 have:=JX.step (c:=c) (ρ:=ρ) (H:=H) (F:=[]) (F':=[(d,.row e sz 0 [])]) (ks:=[]) (ρ':=(t,.sl sz d 0 0 0)::ρ) (ρr:=ρr) (w:=w) rfl rfl (by simp[uW,hd']) (fun m Z hs hnew hR=>by
  have hnew':∀L,m d L=none:=fun L=>hnew d (by simp[keys]) (by simp[keys]) L
  let m':M:=fun k' L=>if k'=d∧L=0 then some (0,0)else m k' L
  have h1:m' d 0=some (0,0):=by simp[m']
  have h2:∀k L loc,m k L=some loc→m' k L=some loc:=fun k L loc e=>by
   by_cases hc:k=d∧L=0
   ·obtain⟨rfl,rfl⟩:=hc;rw[hnew']at e;cases e
   ·simp only[m',if_neg hc];exact e
  refine⟨m',Z,⟨⟨hs.frozen,fun p hp=>?_,by simp[keys],fun p hp q hq _ _ _=>?_⟩,h2,fun _ _ e=>e,rfl,rfl,rfl,Nat.le_refl _,fun _ _ _=>rfl,fun k hk=>(by cases hk),fun k hk=>?_,fun p hp b hb=>?_,fun _ _ e=>.inl e⟩,?_⟩
  ·simp only[List.mem_singleton]at hp
   subst hp;refine .inl ⟨Nat.le_of_ble_eq_true hsz,rfl,rfl,⟨0,h1⟩,fun L loc e=>?_⟩;simp only[m']at e;split at e
   ·rename_i hc;omega
   ·rw[hnew']at e;cases e
  ·simp only[List.mem_singleton]at hp hq
   subst hp;subst hq;rfl
  ·funext L
   have:k≠d:=by simpa[keys]using hk
   simp[m',this]
  ·simp only[List.mem_singleton]at hp
   subst hp;simp[blk,jI,Obj.ver,h1]at hb
  ·intro u
   have hu:=(hR u).up (Z':=Z) (m':=some m') (fun _ _ e=>e) (fun f e=>by cases e;exact⟨m',rfl,h2⟩)
   show Rep (some m') Z (bif Nat.beq u t then V.sl sz d 0 0 0 else ρ.get u) (ρr u)
   cases hb:Nat.beq u t with
   |false=>exact hu
   |true =>
    have:=Nat.eq_of_beq_eq_true hb;subst this;rw[ht]at hu
    exact⟨m',_,rfl,h1,Nat.le_refl _,Nat.zero_le _,.inr (.inl ⟨rfl,none,hu⟩)⟩) S
 rw[zq9]at this;exact this
end
def evF(e:Nat→V):Operand→V
 |.tmp t=>e t
 |.const v=>ofC v
 |.global _=>.undef
 |.func f=>.fn f [] []
theorem QI(ρ:Env)(x:Operand):evF ρ.get x=evV ρ x:=by cases x<;>rfl
def zmj(P:Program)(o:Oper)(g:Operand→V)(F:Heap)(v:V)(F':Heap):Prop :=
 ∀ρr m Z w,(∀x∈o.op.operands,Rep (some m) Z (g x) (ev ρr x))→xx m Z F w→(∀k∈keys F',k ∉ keys F→∀L,m k L=none) →
  zve P o ρr w fun x w'=>∃m' Z',Step m Z F w m' Z' F' w'∧Rep (some m') Z' v x
theorem zmj.congr{P:Program}{o:Oper}{g g':Operand→V}{F F':Heap}{v:V}(h:zmj P o g F v F')(hg:∀x∈o.op.operands,g' x=g x):zmj P o g' F v F' :=
 fun ρr m Z w hops=>h ρr m Z w fun x hx=>by rw[← hg x hx];exact hops x hx
def kX(all:List Oper)(e:Nat→V)(o:Oper):Option Bool :=
 match o.guard with
 |none=>some true
 |some (j,want)=>match (all[j]?).bind (·.dst)with
  |some d=>match e d with
   |.bool b=>some (b==want)
   |.no=>some false
   |_=>none
  |none=>none
def zec(d:Option Nat)(v:V)(e:Nat→V):Nat→V:=match d with|some d=>fun t=>bif Nat.beq t d then v else e t|none=>e
theorem YX(d:Option Nat)(v:V)(ρ:Env):(zak d v ρ).get=zec d v ρ.get:=by
 cases d with
 |none=>rfl
 |some d=>rfl
structure FP where
 i:Nat
 fk:List Nat
 rk:List Nat
 ld:Option (Nat×Nat×Nat)
 kc:List (Nat×Nat×Nat)
abbrev FP.m(i:Nat)(fk rk:List Nat):FP:=⟨i,fk,rk,none,[]⟩
abbrev HF:=Nat→Option Obj
def V9(F':Heap)(η:HF):HF:=fun k=>if k∈keys F' then F'.get k else η k
def zra(P:Program)(o:Oper)(e:Nat→V)(η η1:HF)(v:V)(fp:FP):Prop :=
 (∀k t off,fp.ld=some (k,t,off)→fp.fk=[]∧fp.rk=[k]∧(∃bt cs,η k=some (.box bt cs)∧atV P t cs off=some v)∧∀bt cs,atV P t cs off=some v→zmj P o (evF e) [(k,.box bt cs)] v [(k,.box bt cs)]) ∧
 (∀k t off,(k,t,off)∈fp.kc→k∈fp.fk∧∃bt cs cs',η k=some (.box bt cs)∧η1 k=some (.box bt cs')∧atV P t cs off=atV P t cs' off)
theorem zty{P:Program}{o:Oper}{e:Nat→V}{η η1:HF}{v:V}{i:Nat}{fk rk:List Nat}:zra P o e η η1 v (.m i fk rk):=⟨fun _ _ _ h=>(by cases h),fun _ _ _ h=>(by cases h)⟩
def wq(P:Program)(N:Nat)(all:List Oper)(fp:FP)(e:Nat→V)(η:HF)(e1:Nat→V)(η1:HF):Prop :=
  ∃o v,all[fp.i]?=some o∧wD o.op=true∧(∀d,o.dst=some d→d+1≤N)∧e1=zec o.dst v e ∧
    ((kX all e o=some false∧v=.no∧η1=η∧fp.fk=[]∧fp.rk=[]) ∨
     (kX all e o=some true∧∃F R F',zmj P o (evF e) (F++R) v (F'++R)∧(keys (F'++R)).Nodup∧(keys F).Nodup∧(∀k∈keys F,k∈keys F')∧keys F'=fp.fk∧keys R=fp.rk ∧
       (∀p∈F++R,η p.1=some p.2)∧(∀k∈keys F',k ∉ keys F→η k=none)∧η1=V9 F' η∧zra P o e η η1 v fp))
def zz9(all:List Oper)(o:Oper)(d:Nat):Bool :=
 o.op.operands.toList.any (fun | .tmp t=>Nat.beq t d | _=>false)||(match o.guard with | some (j,_)=>(match (all[j]?).bind (·.dst)with | some d'=>Nat.beq d' d | none=>true) | none=>false)
def KC(all:List Oper)(o o':Oper):Bool :=
 (match o.dst with|some d=>!zz9 all o' d|none=>true)&&(match o.dst,o'.dst with|some d,some d'=>!Nat.beq d d'|_,_=>true)
def zlk(k:Nat):List Nat→Bool|[]=>false|j::r=>bif Nat.beq k j then true else zlk k r
def zas:List Nat→List Nat→Bool|[],_=>true|k::r,l=>!zlk k l&&zas r l
def zvq(a b:FP):Bool:=zas a.fk b.fk&&(zas a.fk b.rk&&zas a.rk b.fk)
def zAa(a b:Nat×Nat×Nat):Bool:=Nat.beq a.1 b.1&&(Nat.beq a.2.1 b.2.1&&Nat.beq a.2.2 b.2.2)
def ldB(a b:FP):Bool:=match a.ld with
 |some x=>a.fk.isEmpty&&(b.kc.any (zAa x))
 |none=>false
def Ax(all:List Oper)(a b:FP):Bool :=
 match all[a.i]?,all[b.i]? with
 | some o,some o'=>KC all o o'&&(KC all o' o&&(zvq a b||ldB a b))
 |_,_=>false
def ux(all:List Oper)(a b:FP):Bool :=
 match all[a.i]?,all[b.i]? with
 |some o,some o'=>KC all o o'&&(KC all o' o&&(zas a.fk b.fk&&zas a.fk b.rk))
 |_,_=>false
theorem ztz{a b:FP}(h:ldB a b=true):a.fk=[]∧∃k t off,a.ld=some (k,t,off)∧(k,t,off)∈b.kc:=by
 unfold ldB at h;split at h
 ·rename_i x hx
  simp only[Bool.and_eq_true,List.isEmpty_iff,List.any_eq_true,zAa]at h;obtain⟨h1,y,h2,h3,h4,h5⟩:=h;refine⟨h1,y.1,y.2.1,y.2.2,?_,h2⟩;rw[hx,← Nat.eq_of_beq_eq_true h3,← Nat.eq_of_beq_eq_true h4,← Nat.eq_of_beq_eq_true h5]
 ·cases h
theorem HG{k:Nat}:∀{l:List Nat},zlk k l=true↔k∈l
 |[]=>by simp[zlk]
 |j::r=>by
  simp only[zlk,List.mem_cons]
  cases hb:Nat.beq k j with
  |true=>simp[Nat.eq_of_beq_eq_true hb]
  |false =>
   have:k≠j:=fun e=>by subst e;rw[Nat.beq_refl]at hb;cases hb
   simp only[cond_false,this,false_or];exact HG
theorem qV:∀{l k:List Nat},zas l k=true→∀x∈l,x ∉ k
 |[],_,_,x,h=>by cases h
 |j::r,k,h,x,hx=>by
  simp only[zas,Bool.and_eq_true,Bool.not_eq_true']at h
  rcases List.mem_cons.1 hx with rfl|hx
  ·intro hk;rw[HG.2 hk]at h;cases h.1
  ·exact qV h.2 x hx
theorem YY{all:List Oper}{o o':Oper}{v:V}{e:Nat→V}(h:KC all o o'=true):(∀x∈o'.op.operands,evF (zec o.dst v e) x=evF e x)∧kX all (zec o.dst v e) o'=kX all e o':=by
 simp only[KC,Bool.and_eq_true]at h
 cases hd:o.dst with
 |none=>exact⟨fun _ _=>rfl,rfl⟩
 |some d =>
  rw[hd]at h;simp only[Bool.not_eq_true',zz9,Bool.or_eq_false_iff]at h;refine⟨fun x hx=>?_,?_⟩
  ·cases x with
   |tmp t =>
    have:=(List.any_eq_false.1 h.1.1) (.tmp t) (by simpa using hx);simp only[Bool.not_eq_true]at this;simp only[evF,zec,this,cond_false]
   |_=>rfl
  ·unfold kX
   cases hg:o'.guard with
   |none=>rfl
   |some p =>
    obtain⟨j,want⟩:=p;have h2:=h.1.2;rw[hg]at h2;simp only at h2 ⊢
    cases hj:(all[j]?).bind (·.dst)with
    |none=>rfl
    |some d' =>
     rw[hj]at h2;simp only at h2 ⊢;simp only[zec,h2,cond_false]
theorem put_comm{o o':Oper}{all:List Oper}{v v':V}{e:Nat→V}(h:KC all o o'=true):zec o.dst v (zec o'.dst v' e)=zec o'.dst v' (zec o.dst v e):=by
 simp only[KC,Bool.and_eq_true]at h
 cases hd:o.dst with
 |none=>rfl
 |some d =>
  cases hd':o'.dst with
  |none=>rfl
  |some d' =>
   rw[hd,hd']at h;simp only[Bool.not_eq_true']at h
   funext t
   simp only[zec]
   cases h1:Nat.beq t d with
   |false=>rfl
   |true =>
    cases h2:Nat.beq t d' with
    |false=>rfl
    |true =>
     have:=Nat.eq_of_beq_eq_true h1;have:=Nat.eq_of_beq_eq_true h2
     subst_vars
     rw[Nat.beq_refl]at h;cases h.2
theorem yb{F:Heap}{η:HF}{k:Nat}(h:k ∉ keys F):V9 F η k=η k:=by simp[V9,h]
theorem zmk{F G:Heap}{η:HF}(h:∀k∈keys F,k ∉ keys G):V9 F (V9 G η)=V9 G (V9 F η):=by
 funext k
 by_cases h1:k∈keys F
 ·have h2:=h k h1
  rw[yb h2];simp[V9,h1]
 ·rw[yb h1]
  by_cases h2:k∈keys G
  ·simp[V9,h2]
  ·rw[yb h2,yb h2,yb h1]
theorem wq.swap{P:Program}{N:Nat}{all:List Oper}{a b:FP}{e e1 e2:Nat→V}{η η1 η2:HF}(h:wq P N all a e η e1 η1)(k:wq P N all b e1 η1 e2 η2)(hi:Ax all a b=true):
  ∃e1' η1',wq P N all b e η e1' η1'∧wq P N all a e1' η1' e2 η2:=by
 obtain⟨o,v,ho,hn,hd,rfl,h⟩:=h;obtain⟨o',v',ho',hn',hd',rfl,k⟩:=k;simp only[Ax,ho,ho',Bool.and_eq_true,Bool.or_eq_true,zvq]at hi;obtain⟨hs,hs',hi⟩:=hi;obtain⟨ev1,ew1⟩:=YY (v:=v) (e:=e) hs;obtain⟨ev2,ew2⟩:=YY (v:=v') (e:=e) hs';rw[ew1]at k
 have hA:∀{η3:HF},(kX all e o'=some false∧v'=.no∧η3=η∧b.fk=[]∧b.rk=[])∨(kX all e o'=some true∧∃F R F',zmj P o' (evF e) (F++R) v' (F'++R)∧(keys (F'++R)).Nodup∧(keys F).Nodup∧(∀k∈keys F,k∈keys F')∧keys F'=b.fk∧keys R=b.rk ∧
   (∀p∈F++R,η p.1=some p.2)∧(∀k∈keys F',k ∉ keys F→η k=none)∧η3=V9 F' η∧zra P o' e η η3 v' b)→wq P N all b e η (zec o'.dst v' e) η3:=fun h=>⟨o',v',ho',hn',hd',rfl,h⟩
 have hB:∀{η0 η3:HF},(kX all e o=some false∧v=.no∧η3=η0∧a.fk=[]∧a.rk=[])∨(kX all e o=some true∧∃F R F',zmj P o (evF e) (F++R) v (F'++R)∧(keys (F'++R)).Nodup∧(keys F).Nodup∧(∀k∈keys F,k∈keys F')∧keys F'=a.fk∧keys R=a.rk ∧
   (∀p∈F++R,η0 p.1=some p.2)∧(∀k∈keys F',k ∉ keys F→η0 k=none)∧η3=V9 F' η0∧zra P o e η0 η3 v a)→wq P N all a (zec o'.dst v' e) η0 (zec o'.dst v' (zec o.dst v e)) η3:=fun h=>by
  refine⟨o,v,ho,hn,hd,put_comm (v:=v') (v':=v) hs',?_⟩
  rcases h with⟨h1,h2⟩|⟨h1,F,R,F',h2,h3,h4,h5,h6,h7,h8,h9,h10,f1,f2⟩
  ·exact .inl ⟨ew2.trans h1,h2⟩
  ·refine .inr ⟨ew2.trans h1,F,R,F',h2.congr (fun x hx=>ev2 x hx),h3,h4,h5,h6,h7,h8,h9,h10,fun k t off hk=>?_,f2⟩
   obtain⟨g1,g2,g3,g4⟩:=f1 k t off hk;exact⟨g1,g2,g3,fun bt cs hc=>(g4 bt cs hc).congr fun x hx=>ev2 x hx⟩
 rcases k with⟨k1,k2,rfl,k4,k5⟩|⟨k1,F2,R2,F2',l2,n2,nf2,s2,ek2,er2,g2,f2,rfl,q2,q2'⟩
 ·exact⟨_,η,hA (.inl ⟨k1,k2,rfl,k4,k5⟩),hB h⟩
 ·have l2':zmj P o' (evF e) (F2++R2) v' (F2'++R2):=l2.congr (fun x hx=>(ev1 x hx).symm)
  have q3:∀k t off,b.ld=some (k,t,off)→b.fk=[]∧b.rk=[k]∧(∃bt cs,η1 k=some (.box bt cs)∧atV P t cs off=some v')∧∀bt cs,atV P t cs off=some v'→zmj P o' (evF e) [(k,.box bt cs)] v' [(k,.box bt cs)]:=fun k t off hk=>by
   obtain⟨g1,g2,g3,g4⟩:=q2 k t off hk;exact⟨g1,g2,g3,fun bt cs hc=>(g4 bt cs hc).congr fun x hx=>(ev1 x hx).symm⟩
  rcases h with⟨h1,h2,rfl,h4,h5⟩|⟨h1,F1,R1,F1',l1,n1,nf1,s1,ek1,er1,g1,f1,rfl,q1,q1'⟩
  ·exact⟨_,_,hA (.inr ⟨k1,F2,R2,F2',l2',n2,nf2,s2,ek2,er2,g2,f2,rfl,q3,q2'⟩),hB (.inl ⟨h1,h2,rfl,h4,h5⟩)⟩
  ·rcases hi with⟨hk1,hk2,hk3⟩|hi
   ·have hk1:=qV hk1
    have hk2:=qV hk2;have hk3:=qV hk3
    have hout2:∀k∈keys F2'++keys R2,k ∉ keys F1':=fun k hk hk1'=>by
     rw[ek1]at hk1'
     rcases List.mem_append.1 hk with hk|hk
     ·rw[ek2]at hk;exact hk1 k hk1' hk
     ·rw[er2]at hk;exact hk2 k hk1' hk
    have hout1:∀k∈keys F1'++keys R1,k ∉ keys F2':=fun k hk hk2'=>by
     rw[ek2]at hk2'
     rcases List.mem_append.1 hk with hk|hk
     ·rw[ek1]at hk;exact hk1 k hk hk2'
     ·rw[er1]at hk;exact hk3 k hk hk2'
    have hkey2:∀p∈F2++R2,p.1∈keys F2'++keys R2:=fun p hp=>by
     rcases List.mem_append.1 hp with hp|hp
     ·exact List.mem_append_left _ (s2 _ (mem_keys hp))
     ·exact List.mem_append_right _ (mem_keys hp)
    have hkey1:∀p∈F1++R1,p.1∈keys F1'++keys R1:=fun p hp=>by
     rcases List.mem_append.1 hp with hp|hp
     ·exact List.mem_append_left _ (s1 _ (mem_keys hp))
     ·exact List.mem_append_right _ (mem_keys hp)
    have hcm:V9 F2' (V9 F1' η)=V9 F1' (V9 F2' η):=zmk fun k hk hk'=>hout2 k (List.mem_append_left _ hk) hk'
    refine⟨_,V9 F2' η,hA (.inr ⟨k1,F2,R2,F2',l2',n2,nf2,s2,ek2,er2,fun p hp=>?_,fun k hk hkF=>?_,rfl,fun k t off hk=>?_,fun k t off hk=>?_⟩),hB (.inr ⟨h1,F1,R1,F1',l1,n1,nf1,s1,ek1,er1,fun p hp=>?_,fun k hk hkF=>?_,hcm,fun k t off hk=>?_,fun k t off hk=>?_⟩)⟩
    ·rw[← g2 p hp,yb (hout2 _ (hkey2 p hp))]
    ·rw[← f2 k hk hkF,yb (hout2 k (List.mem_append_left _ hk))]
    ·obtain⟨w1,w2,w3,w4⟩:=q3 k t off hk
     rw[yb (hout2 k (List.mem_append_right _ (by rw[er2,w2];exact List.mem_singleton.2 rfl)))]at w3;exact⟨w1,w2,w3,w4⟩
    ·obtain⟨w1,bt,cs,cs',w2,w3,w4⟩:=q2' k t off hk
     have hk0:=hout2 k (List.mem_append_left _ (by rw[ek2];exact w1));rw[yb hk0]at w2;rw[hcm,yb hk0]at w3;exact⟨w1,bt,cs,cs',w2,w3,w4⟩
    ·rw[← g1 p hp,yb (hout1 _ (hkey1 p hp))]
    ·rw[← f1 k hk hkF,yb (hout1 k (List.mem_append_left _ hk))]
    ·obtain⟨w1,w2,w3,w4⟩:=q1 k t off hk
     rw[← yb (F:=F2') (η:=η) (hout1 k (List.mem_append_right _ (by rw[er1,w2];exact List.mem_singleton.2 rfl)))]at w3;exact⟨w1,w2,w3,w4⟩
    ·obtain⟨w1,bt,cs,cs',w2,w3,w4⟩:=q1' k t off hk
     have hk0:=hout1 k (List.mem_append_left _ (by rw[ek1];exact w1));rw[← yb (F:=F2') (η:=η) hk0]at w2;rw[← yb (F:=F2') (η:=V9 F1' η) hk0]at w3;exact⟨w1,bt,cs,cs',w2,w3,w4⟩
   ·obtain⟨i1,k,t,off,i2,i3⟩:=ztz hi
    have e1:F1'=[]:=by
     have:keys F1'=[]:=by rw[ek1,i1]
     exact List.map_eq_nil_iff.1 this
    subst e1
    have hη:V9 [] η=η:=funext fun k=>yb (by simp[keys])
    obtain⟨w1,w2,⟨bt,cs,w3,w4⟩,w5⟩:=q1 k t off i2;rw[hη]at g2 f2 q2' q3 ⊢;obtain⟨u1,bt',cs1,cs2,u2,u3,u4⟩:=q2' k t off i3;rw[w3]at u2;cases u2;have ha:atV P t cs2 off=some v:=u4.symm.trans w4
    have hnil:∀k t off,(k,t,off) ∉ a.kc:=fun k t off hk=>by
     have:=(q1' k t off hk).1;rw[i1]at this;cases this
    refine⟨_,V9 F2' η,hA (.inr ⟨k1,F2,R2,F2',l2',n2,nf2,s2,ek2,er2,g2,f2,rfl,q3,q2'⟩),hB (.inr ⟨h1,[],[(k,.box bt cs2)],[],w5 _ _ ha,?_,List.nodup_nil,fun k hk=>hk,i1.symm,w2.symm,fun p hp=>?_,fun k hk=>(by cases hk),(funext fun k=>yb (by simp[keys])).symm,fun k' t' off' hk=>?_,fun k t off hk=>absurd hk (hnil k t off)⟩)⟩
    ·simp[keys]
    ·cases List.mem_singleton.1 hp
     exact u3
    ·rw[i2]at hk
     cases hk;exact⟨w1,w2,⟨bt,cs2,u3,ha⟩,w5⟩
inductive YZ(P:Program)(N:Nat)(all:List Oper):List FP→(Nat→V)→HF→(Nat→V)→HF→Prop
 |nil {e:Nat→V} {η:HF}:YZ P N all [] e η e η
 |cons {a:FP} {l:List FP} {e e1 e2:Nat→V} {η η1 η2:HF} (h:wq P N all a e η e1 η1) (k:YZ P N all l e1 η1 e2 η2):YZ P N all (a::l) e η e2 η2
theorem YZ.front{P:Program}{N:Nat}{all:List Oper}{b:FP}{l2:List FP}:∀{l1:List FP}{e e2:Nat→V}{η η2:HF},YZ P N all (l1++b::l2) e η e2 η2→(∀a∈l1,Ax all a b=true) →
  ∃e1 η1,wq P N all b e η e1 η1∧YZ P N all (l1++l2) e1 η1 e2 η2
 |[],e,e2,η,η2,h,_=>by
  cases h with
  |cons h k=>exact⟨_,_,h,k⟩
 |a::l1,e,e2,η,η2,h,hi=>by
  cases h with
  |cons h k =>
   obtain⟨e1,η1,h1,h2⟩:=YZ.front (l1:=l1) k fun c hc=>hi c (List.mem_cons_of_mem _ hc)
   obtain⟨e1',η1',h3,h4⟩:=h.swap h1 (hi a (List.mem_cons_self ..));exact⟨e1',η1',h3,.cons h4 h2⟩
def Ay(l:List Edge)(acc:List Nat):Nat→Nat:=fun s=>match l with
 |[]=>s
 | e::r=>Ay r acc (if Region.binds .any e then s ||| 2 ^ e.on ||| acc.getD e.on 0 else s)
def xT:List Oper→List Nat→List Nat
 |[],acc=>acc
 |o::r,acc=>xT r (acc++[Ay o.after.toList acc 0])
def Y0(ms:List Nat)(j i:Nat):Bool:=(ms.getD j 0).testBit i
theorem WH{acc:List Nat}{i:Nat}:∀{l:List Edge}{s:Nat},(Ay l acc s).testBit i=true→s.testBit i=true∨∃e∈l,Region.binds .any e=true∧(e.on=i∨(acc.getD e.on 0).testBit i=true)
 |[],s,h=>.inl h
 |e::r,s,h=>by
  simp only[Ay]at h
  rcases WH h with h|⟨e',he',h1,h2⟩
  ·split at h
   ·rename_i hb
    simp only[Nat.testBit_or,Bool.or_eq_true]at h
    rcases h with(h|h)|h
    ·exact .inl h
    ·refine .inr ⟨e,List.mem_cons_self ..,hb,.inl ?_⟩
     rw[Nat.testBit_two_pow]at h;simpa using h
    ·exact .inr ⟨e,List.mem_cons_self ..,hb,.inr h⟩
   ·exact .inl h
  ·exact .inr ⟨e',List.mem_cons_of_mem _ he',h1,h2⟩
theorem WI:∀(l:List Oper)(acc:List Nat),(xT l acc).take acc.length=acc∧∀(k:Nat)(o:Oper),l[k]?=some o→(xT l acc).getD (acc.length+k) 0=Ay o.after.toList ((xT l acc).take (acc.length+k)) 0
 |[],acc=>⟨by simp[xT],fun k o h=>by simp at h⟩
 |o::r,acc=>by
  obtain⟨h1,h2⟩:=WI r (acc++[Ay o.after.toList acc 0]);simp only[xT]
  have hl:(acc++[Ay o.after.toList acc 0]).length=acc.length+1:=by simp
  rw[hl]at h1 h2
  have hta:(xT r (acc++[Ay o.after.toList acc 0])).take acc.length=acc:=by
   have:=congrArg (List.take acc.length) h1;rw[List.take_take,Nat.min_eq_left (by omega)]at this;rw[this];simp
  refine⟨hta,fun k o' hk=>?_⟩
  cases k with
  |zero =>
   simp only[List.getElem?_cons_zero,Option.some.injEq]at hk;subst hk;rw[Nat.add_zero,hta,List.getD_eq_getElem?_getD]
   have:(xT r (acc++[Ay o.after.toList acc 0]))[acc.length]?=some (Ay o.after.toList acc 0):=by
    have h3:=congrArg (fun l=>l[acc.length]?) h1;simp only[List.getElem?_take]at h3;rw[if_pos (by omega)]at h3;rw[h3];simp
   rw[this];rfl
  |succ k =>
   have:=h2 k o' (by simpa using hk);rw[show acc.length+1+k=acc.length+(k+1) by omega]at this;exact this
def HH(all:List Oper):Bool:=(List.range all.length).all fun j=>match all[j]? with
 | some o=>o.after.toList.all fun e=>!Region.binds .any e||Nat.ble (e.on+1) j
 |none=>true
theorem Y1{all:List Oper}(h:HH all=true){j:Nat}{o:Oper}(ho:all[j]?=some o){e:Edge}(he:e∈o.after)(hb:Region.binds .any e=true):e.on<j:=by
 have hj:j<all.length:=(List.getElem?_eq_some_iff.1 ho).1;have h1:=(List.all_eq_true.1 h) j (List.mem_range.2 hj);rw[ho]at h1;have h2:=(List.all_eq_true.1 h1) e (by simpa using he);simp only[hb,Bool.not_true,Bool.false_or]at h2;exact Nat.le_of_ble_eq_true h2
theorem WJ{all:List Oper}(hE:HH all=true){listed:Array Bool}(hc:Qx all.toArray listed):∀(j:Nat)(o:Oper),all[j]?=some o→(∀e∈o.after,Region.binds .any e=true→listed.getD e.on false=true)→∀i,Y0 (xT all []) j i=true→listed.getD i false=true:=by
 intro j
 induction j using Nat.strongRecOn with
 |_ j ih =>
  intro o ho hpre i hi;have hs:=(WI all []).2 j o ho;simp only[List.length_nil,Nat.zero_add]at hs;unfold Y0 at hi;rw[hs]at hi
  rcases WH hi with h|⟨e,he,hb,h⟩
  ·simp at h
  ·have he':e∈o.after:=by simpa using he
   have hlt:=Y1 hE ho he' hb;have hl:=hpre e he' hb
   rcases h with rfl|h
   ·exact hl
   ·have hj:j<all.length:=(List.getElem?_eq_some_iff.1 ho).1
    have ho2:all[e.on]?=some (all[e.on]'(by omega)):=List.getElem?_eq_getElem (by omega);refine ih e.on hlt _ ho2 (fun e2 he2 hb2=>hc e.on _ hl (by simpa using ho2) e2 he2 hb2) i ?_;unfold Y0;rw[List.getD_eq_getElem?_getD,List.getElem?_take,if_pos hlt,← List.getD_eq_getElem?_getD]at h;exact h
def xI(all:List Oper)(ms:List Nat):List FP→Bool
 |[]=>true
 | a::r=>r.all (fun b=>Y0 ms b.i a.i||Ax all a b)&&xI all ms r
theorem uZ{all:List Oper}{ms:List Nat}{b:FP}{l2:List FP}:∀{l1:List FP},xI all ms (l1++b::l2)=true→(∀a∈l1,Y0 ms b.i a.i=true∨Ax all a b=true)∧xI all ms (l1++l2)=true
 |[],h=>by
  simp only[List.nil_append,xI,Bool.and_eq_true]at h;exact⟨fun _ h=>(by cases h),h.2⟩
 |a::l1,h=>by
  simp only[List.cons_append,xI,Bool.and_eq_true]at h;obtain⟨h1,h2⟩:=uZ h.2;have h3:=List.all_eq_true.1 h.1;refine⟨fun x hx=>?_,?_⟩
  ·rcases List.mem_cons.1 hx with rfl|hx
   ·have:=h3 b (by simp)
    simpa using this
   ·exact h1 x hx
  ·simp only[List.cons_append,xI,Bool.and_eq_true]
   refine⟨List.all_eq_true.2 fun x hx=>h3 x ?_,h2⟩
   rcases List.mem_append.1 hx with hx|hx
   ·exact List.mem_append_left _ hx
   ·exact List.mem_append_right _ (List.mem_cons_of_mem _ hx)
theorem zat:∀{l:List Nat},l.Nodup→nodupB l=true
 |[],_=>rfl
 |k::r,h=>by
  rw[List.nodup_cons]at h;simp only[nodupB,Bool.and_eq_true,Bool.not_eq_true',List.contains_eq_mem,decide_eq_false_iff_not];exact⟨h.1,zat h.2⟩
theorem QJ{H:Heap}:∀{F:Heap},(∀p∈F,H.get p.1=some p.2)→je (keys F) H=some F
 |[],_=>rfl
 |(k,o)::r,h=>by
  have h1:=h (k,o) (List.mem_cons_self ..)
  have h2:=QJ (F:=r) fun p hp=>h p (List.mem_cons_of_mem _ hp)
  show(match H.get k,je (keys r) H with|some o,some l=>some ((k,o)::l)|_,_=>none)=_
  rw[h1,h2]
theorem get_none:∀{H:Heap}{k:Nat},k ∉ keys H↔H.get k=none
 |[],k=>by simp[keys,Heap.get]
 |(k',o)::r,k=>by
  simp only[keys,List.map_cons,List.mem_cons,not_or,Heap.get]
  cases hb:Nat.beq k k' with
  |true=>simp[Nat.eq_of_beq_eq_true hb]
  |false =>
   have:k≠k':=fun e=>by subst e;rw[Nat.beq_refl]at hb;cases hb
   simp only[cond_false,ne_eq,this,not_false_eq_true,true_and];exact get_none
theorem get_append{A B:Heap}{k:Nat}:(A++B).get k=if k∈keys A then A.get k else B.get k:=by
 induction A with
 |nil=>simp[keys]
 |cons p A ih =>
  obtain⟨k',o⟩:=p;simp only[List.cons_append,Heap.get,keys,List.map_cons,List.mem_cons]
  cases hb:Nat.beq k k' with
  |true=>simp[Nat.eq_of_beq_eq_true hb]
  |false =>
   have:k≠k':=fun e=>by subst e;rw[Nat.beq_refl]at hb;cases hb
   simp only[cond_false,this,false_or];exact ih
theorem AM{ks:List Nat}{H:Heap}{k:Nat}(h:k ∉ ks):(vU ks H).get k=H.get k:=by
 induction H with
 |nil=>rfl
 |cons p H ih =>
  obtain⟨k',o⟩:=p;simp only[vU,List.filter_cons];split
  ·simp only[Heap.get]
   rw[show Heap.get (List.filter (fun p=>!ks.contains p.1) H) k=Heap.get H k from ih]
  ·rename_i hc
   have hk':k'∈ks:=by simpa using hc
   have hne:k≠k':=fun e=>h (e▸hk')
   have hb:Nat.beq k k'=false:=by
    cases hb:Nat.beq k k' with
    |true=>exact absurd (Nat.eq_of_beq_eq_true hb) hne
    |false=>rfl
   simp only[Heap.get,hb,cond_false];exact ih
theorem AN{A B:Heap}(hA:(keys A).Nodup)(hB:(keys B).Nodup)(h:∀k,A.get k=B.get k):A.Perm B:=by
 refine(List.perm_ext_iff_of_nodup (yE _ hA) (yE _ hB)).2 fun p=>?_
 obtain⟨k,o⟩:=p;constructor
 ·intro hp
  have:=get_of_mem hA hp;rw[h]at this;exact Heap.get_mem this
 ·intro hp
  have:=get_of_mem hB hp;rw[← h]at this;exact Heap.get_mem this
section
variable{K0:List Nat}{c:Ctx K0}{P:Program}{r:Option Nat}{N:Nat}{all:List Oper}{ds:List Deferred}
def zvr(c:Ctx K0)(N:Nat)(ds:List Deferred)(e:Nat→V)(η:HF)(a:Act)(w:World):Prop :=
 yJ c ds w∧∃ρr ρ H,Frm N ds a ρr∧ρ.get=e∧H.get=η∧JX c ρ H ρr w
theorem zau{fp:FP}{e e1:Nat→V}{η η1:HF}{a:Act}{w:World}{n:Nat}{Q:Exit→Act→World→Prop}{KK:Act→World→Prop}(hs:wq P N all fp e η e1 η1)(S:zvr c N ds e η a w)(h:∀a' w',zvr c N ds e1 η1 a' w'→KK a' w'):wpOpIn (Fw r) n P all.toArray Q fp.i KK a w:=by
 obtain⟨o,v,ho,hn,hd,rfl,hcase⟩:=hs;obtain⟨hM,ρr,ρ,H,hf,rfl,rfl,SA⟩:=S;obtain⟨m,Z,SC,hR⟩:=id SA
 have hput:∀{x:Value}{H1:Heap}{m':M}{Z':ZM}{w':World},yJ c ds w'→YS c m' Z' H1 w'→zeb m' Z' ρ ρr→Rep (some m') Z' v x→zvr c N ds (zec o.dst v ρ.get) H1.get (a.put o.dst x) w':=by
  intro x H1 m' Z' w' hM' S' hR' hx
  cases hdst:o.dst with
  |none=>exact⟨hM',ρr,ρ,H1,hf.putNone _,rfl,rfl,m',Z',S',hR'⟩
  |some d=>exact⟨hM',upd ρr d x,(d,v)::ρ,H1,hf.put (Nat.lt_of_succ_le (hd d hdst)) x,rfl,rfl,m',Z',S',hR'.put d hx⟩
 have ho':all.toArray[fp.i]?=some o:=by simpa using ho
 unfold wpOpIn;simp only[ho']
 rcases hcase with⟨hw,rfl,rfl,_,_⟩|⟨hw,F,R,F',hl,hnd,hnF,hsub,_,_,hget,hnew,rfl,_⟩
 ·have hw':=(hf.wanted all o).trans (xl hR hw)
  simp only[hw',Bool.false_eq_true,if_false];exact⟨fun _ _=>trivial,h _ _ (hput hM SC hR rfl)⟩
 ·have hw':=(hf.wanted all o).trans (xl hR hw)
  simp only[hw',if_true];refine⟨fun _ _=>trivial,?_⟩;rw[qP hn,hf.eval];have hHn:=SC.step.sim.nodup
  have hFR:(keys (F++R)).Nodup:=by
   rw[zm]at hnd ⊢;obtain⟨_,h2,h3⟩:=List.nodup_append.1 hnd;exact List.nodup_append.2 ⟨hnF,h2,fun a ha b hb=>h3 a (hsub a ha) b hb⟩
  have hsel:je (keys (F++R)) H=some (F++R):=QJ hget
  have hfresh:uW (F'++R) (keys (F++R)) H=true:=List.all_eq_true.2 fun p hp=>by
   simp only[Bool.or_eq_true,List.contains_eq_mem,decide_eq_true_eq,Bool.not_eq_true',decide_eq_false_iff_not];rw[zm,List.mem_append]
   rcases List.mem_append.1 hp with hp|hp
   ·by_cases hpF:p.1∈keys F
    ·exact .inl (.inl hpF)
    ·exact .inr (get_none.2 (hnew p.1 (mem_keys hp) hpF))
   ·exact .inl (.inr (mem_keys hp))
  have hperm:=wm hHn hFR hsel;have hsim:xx m Z ((F++R)++vU (keys (F++R)) H) w:=SC.step.sim.perm hperm
  obtain⟨hn',hex⟩:=hl ρr m Z w (fun x _=>by rw[QI];exact hR.ev x) hsim.left (fun k hk hkF=>SC.dom k (by
   obtain⟨p,hp',rfl⟩:=List.mem_map.1 hk;have:=(List.all_eq_true.1 hfresh) p hp';simp only[Bool.or_eq_true,List.contains_eq_mem,decide_eq_true_eq,Bool.not_eq_true',decide_eq_false_iff_not]at this
   rcases this with this|this
   ·exact absurd this hkF
   ·exact this))
  have hgetH:((F'++R)++vU (keys (F++R)) H).get=V9 F' H.get:=by
   funext k
   rw[get_append];by_cases h1:k∈keys (F'++R)
   ·rw[if_pos h1,get_append]
    by_cases h2:k∈keys F'
    ·simp[V9,h2]
    ·rw[if_neg h2,yb h2]
     have h3:k∈keys R:=by
      rw[zm,List.mem_append]at h1;exact h1.resolve_left h2
     obtain⟨p,hp,rfl⟩:=List.mem_map.1 h3;rw[hget p (List.mem_append_right _ hp)]
     have hnR:(keys R).Nodup:=by rw[zm]at hnd;exact(List.nodup_append.1 hnd).2.1
     exact get_of_mem hnR hp
   ·rw[if_neg h1]
    rw[zm,List.mem_append,not_or]at h1;rw[yb h1.1];exact AM (by rw[zm,List.mem_append];exact fun h'=>h'.elim (fun h'=>h1.1 (hsub k h')) h1.2)
  have go:∀x w',(∃m' Z',Step m Z (F++R) w m' Z' (F'++R) w'∧Rep (some m') Z' v x)→KK (a.put o.dst x) w':=fun x w' ⟨m',Z',hst,hr⟩=>by
   refine h _ _ ?_;rw[← hgetH];exact hput (hM.step hsim.left hst) (SC.step' (zat hFR) hsel hfresh fun _ _=>hst) (hR.up hst.zext hst.mext) hr
  rcases hex with⟨x,w',hrun,hx⟩|⟨w',hrun,hx⟩|⟨f,args,w1,hrun,hx⟩
  ·rw[hrun,Oper.uponIn_value];exact go x w' hx
  ·rw[hrun,Oper.uponIn_skip];exact go _ w' hx
  ·rw[hrun,Oper.uponIn_enter]
   refine⟨fun hx=>by simp[Fw]at hx,(ql r hx).mono fun en w'' ⟨x,he,hr⟩=>?_⟩;subst he;exact go x w'' hr
theorem zav{L:List FP}{i:Nat}(h:i∈L.map (·.i)):∃l1 b l2,L=l1++b::l2∧b.i=i:=by
 obtain⟨b,hb,rfl⟩:=List.mem_map.1 h;obtain⟨l1,l2,rfl⟩:=List.append_of_mem hb;exact⟨l1,b,l2,rfl,rfl⟩
theorem zvs(hE:HH all=true){Q:Exit→Act→World→Prop}{n:Nat}{e2:Nat→V}{η2:HF}(hQ:∀a w,zvr c N ds e2 η2 a w→Q .normal a w):∀(fuel:Nat)(L:List FP)(listed:Array Bool)(e:Nat→V)(η:HF)(a:Act)(w:World),
  YZ P N all L e η e2 η2→xI all (xT all []) L=true→(L.map (·.i)).Pairwise (· < ·)→(∀i,i<all.length→(listed.getD i false=false↔i∈L.map (·.i)))→(∀i∈L.map (·.i),i<all.length)→Qx all.toArray listed→listed.size=all.length→L.length≤fuel →
  zvr c N ds e η a w→wpAnyIn (Fw r) n P .any all.toArray Q fuel listed a w:=by
 intro fuel
 have hempty:∀(L:List FP)(listed:Array Bool),(L.map (·.i)).Pairwise (· < ·)→(∀i,i<all.length→(listed.getD i false=false↔i∈L.map (·.i)))→(∀i∈L.map (·.i),i<all.length)→listed.size=all.length→Region.ready .any all.toArray listed=[]→L=[]:=by
  intro L listed hp hl hlt hsz hr
  cases L with
  |nil=>rfl
  |cons b L =>
   exfalso;have hb:=hlt b.i (by simp)
   have hmem:b.i∈Region.ready .any all.toArray listed:=by
    refine mem_ready.2 ⟨?_,all[b.i]'hb,by simpa using List.getElem?_eq_getElem hb,fun e' he' hbind=>?_⟩
    ·have:=(hl b.i hb).2 (by simp)
     have hlt':b.i<listed.size:=by omega
     simp only[Array.getD_eq_getD_getElem?,Array.getElem?_eq_getElem hlt',Option.getD_some]at this ⊢;exact this
    ·have hlt2:=Y1 hE (List.getElem?_eq_getElem hb) he' hbind
     cases hq:listed.getD e'.on false with
     |true=>rfl
     |false =>
      have:=(hl e'.on (by omega)).1 hq;rw[List.map_cons]at this hp
      rcases List.mem_cons.1 this with h'|h'
      ·rw[h']at hlt2;exact absurd hlt2 (Nat.lt_irrefl _)
      ·have h2:=(List.pairwise_cons.1 hp).1 _ h'
       exact absurd (Nat.lt_trans hlt2 h2) (Nat.lt_irrefl _)
   rw[hr]at hmem;cases hmem
 induction fuel with
 |zero =>
  intro L listed e η a w hch _ hp hl hlt hc hsz hlen S;have:L=[]:=List.eq_nil_of_length_eq_zero (by omega);subst this;cases hch;refine⟨?_,hQ a w S⟩
  refine List.eq_nil_iff_forall_not_mem.2 fun j hj=>?_
  obtain⟨h1,o,ho,_⟩:=mem_ready.1 hj
  have hj':j<all.length:=by have:=(Array.getElem?_eq_some_iff.1 ho).1;simpa using this
  have hlt':j<listed.size:=by omega
  have:listed.getD j false=false:=by
   simp only[Array.getD_eq_getD_getElem?,Array.getElem?_eq_getElem hlt',Option.getD_some]at h1 ⊢;exact h1
  have:=(hl j hj').1 this;cases this
 |succ fuel ih =>
  intro L listed e η a w hch hcp hp hl hlt hc hsz hlen S;refine⟨fun hr=>?_,fun j hj=>?_⟩
  ·have:=hempty L listed hp hl hlt hsz hr
   subst this;cases hch;exact hQ a w S
  ·obtain⟨h1,o,ho,hpre⟩:=mem_ready.1 hj
   have hj':j<all.length:=by have:=(Array.getElem?_eq_some_iff.1 ho).1;simpa using this
   have hjs:j<listed.size:=by omega
   have hjf:listed.getD j false=false:=by
    simp only[Array.getD_eq_getD_getElem?,Array.getElem?_eq_getElem hjs,Option.getD_some]at h1 ⊢;exact h1
   obtain⟨l1,b,l2,rfl,rfl⟩:=zav ((hl j hj').1 hjf);obtain⟨hfr,hcp'⟩:=uZ hcp;have hpm:((l1++b::l2).map (·.i)).Pairwise (· < ·):=hp;rw[List.map_append,List.map_cons,List.pairwise_append]at hpm;obtain⟨hp1,hp2,hp3⟩:=hpm;have hp2':=List.pairwise_cons.1 hp2
   have hind:∀x∈l1,Ax all x b=true:=fun x hx=>by
    rcases hfr x hx with h'|h'
    ·exfalso
     have hxl:=WJ hE hc b.i o (by simpa using ho) hpre x.i h';have hxn:x.i<all.length:=hlt x.i (by simp;exact .inl ⟨x,hx,rfl⟩);have:=(hl x.i hxn).2 (by simp;exact .inl ⟨x,hx,rfl⟩);rw[hxl]at this;cases this
    ·exact h'
   obtain⟨e1,η1,hop,hch'⟩:=hch.front hind
   refine zau hop S fun a' w' S'=>ih (l1++l2) _ e1 η1 a' w' hch' hcp' ?_ ?_ ?_ (hc.set hj) (by simpa using hsz) (by simp at hlen ⊢;omega) S'
   ·rw[List.map_append,List.pairwise_append]
    exact⟨hp1,hp2'.2,fun x hx y hy=>hp3 x hx y (List.mem_cons_of_mem _ hy)⟩
   ·intro i hi
    have hne:i=b.i∨i≠b.i:=Decidable.em _
    rcases hne with rfl|hne
    ·have hnot:b.i ∉ (l1++l2).map (·.i):=by
      rw[List.map_append,List.mem_append];rintro(h'|h')
      ·have:=hp3 _ h' b.i (List.mem_cons_self ..);omega
      ·have:=hp2'.1 _ h';omega
     have h9:(listed.setIfInBounds b.i true).getD b.i false=true:=by simp[hjs]
     rw[h9];exact⟨fun h'=>(by cases h'),fun h'=>absurd h' hnot⟩
    ·rw[getD_set_ne false (Ne.symm hne),hl i hi]
     simp only[List.map_append,List.map_cons,List.mem_append,List.mem_cons,hne,false_or]
   ·intro i hi
    refine hlt i ?_;rw[List.map_append,List.mem_append]at hi;simp only[List.map_append,List.map_cons,List.mem_append,List.mem_cons]
    rcases hi with hi|hi
    ·exact .inl hi
    ·exact .inr (.inr hi)
theorem KD(l:List Oper):Qx l.toArray (Array.replicate l.length false):=by
 intro j o hj _;exfalso;simp only[Array.getD_eq_getD_getElem?,Array.getElem?_replicate]at hj;split at hj<;>cases hj
def QK(P:Program)(N:Nat)(all:List Oper)(done:List FP)(l:List Oper)(ρ:Env)(H:Heap)(K:Env→Heap→Prop):Prop :=
 ∃fps ρ' H',(keys H).Nodup→(fps.map (·.i)=List.range' (all.length-l.length) l.length∧YZ P N all fps ρ.get H.get ρ'.get H'.get∧(keys H').Nodup∧xI all (xT all []) (done.reverse++fps)=true∧K ρ' H')
variable{ρ:Env}{H:Heap}{Q:yf}
theorem zAb{id:Nat}(hm:P.follows .mixedOrders=true)(hE:HH all=true)(h:QK P N all [] all ρ H fun ρ' H'=>Q .normal ρ' H' ds):WpV c P r N (.region id all.toArray true) Q ρ H ds:=by
 intro ρr w ds1 S hM a n hf;obtain⟨fps,ρ',H',h⟩:=h;obtain⟨m,Z,SC,hR⟩:=S;obtain⟨h1,h2,h3,h4,h5⟩:=h SC.step.sim.nodup
 have hdrew:JX c ρ H ρr w.drew:=⟨m,Z,⟨SC.step.trans (Step.same SC.step.sim rfl rfl rfl rfl),SC.dom⟩,hR⟩
 rw[Nat.sub_self]at h1;refine wpIn_region_any hm ?_
 have hrange:∀i,i∈fps.map (·.i)↔i<all.length:=fun i=>by rw[h1,List.mem_range'];simp
 refine zvs (c:=c) (ds:=ds1) (r:=r) hE (e2:=ρ'.get) (η2:=H'.get) (fun a' w' S'=>?_) all.toArray.size fps _ ρ.get H.get a _ h2 (by simpa using h4) ?_ ?_ ?_ ?_ (by simp) ?_ ⟨hM.same rfl,ρr,ρ,H,hf,rfl,rfl,hdrew⟩
 ·obtain⟨hM',ρr',ρ2,H2,hf',e1,e2,m',Z',SC',hR'⟩:=S'
  refine⟨ρr',ds1,hf',ρ',H',?_,hM',h5⟩
  have hp:H2.Perm H':=AN SC'.step.sim.nodup h3 fun k=>by rw[e2]
  have:JX c ρ' H2 ρr' w':=⟨m',Z',SC',fun t=>by rw[← e1];exact hR' t⟩
  exact this.perm hp
 ·rw[h1]
  exact List.pairwise_lt_range'
 ·intro i hi
  rw[hrange];simp only[List.size_toArray,Array.getD_eq_getD_getElem?,Array.getElem?_replicate];rw[if_pos hi];simp[hi]
 ·exact fun i hi=>(hrange i).1 hi
 ·have:=KD all
  simpa using this
 ·have:=congrArg List.length h1
  simp at this;simp[this]
end
section
variable{P:Program}{N:Nat}{all rest:List Oper}{done:List FP}{ρ:Env}{H:Heap}{K:Env→Heap→Prop}{o:Oper}
theorem d_nil(hc:xI all (xT all []) done.reverse=true)(h:K ρ H):QK P N all done [] ρ H K :=
 ⟨[],ρ,H,fun hn=>⟨rfl,.nil,hn,by simpa using hc,h⟩⟩
theorem zt0{fp:FP}{ρ1:Env}{H1:Heap}(hi:fp.i=all.length-(rest.length+1))(hlen:rest.length+1≤all.length)(hs:(keys H).Nodup→(keys H1).Nodup∧wq P N all fp ρ.get H.get ρ1.get H1.get)(h:QK P N all (fp::done) rest ρ1 H1 K):QK P N all done (o::rest) ρ H K:=by
 obtain⟨fps,ρ',H',h⟩:=h;refine⟨fp::fps,ρ',H',fun hn=>?_⟩;obtain⟨hn1,hs⟩:=hs hn;obtain⟨h1,h2,h3,h4,h5⟩:=h hn1;refine⟨?_,.cons hs h2,h3,by simpa using h4,h5⟩;rw[List.map_cons,h1,List.length_cons,List.range'_succ,hi]
 congr 2
 omega
theorem zAc(i:Nat)(hi:(all.length-(rest.length+1))=i)(hlen:Nat.ble (rest.length+1) all.length=true)(ho:all[i]?=some o)(hn:wD o.op=true)(hd:(match o.dst with|some d=>Nat.ble (d+1) N|none=>true)=true)(hw:zS all ρ o=some false)
  (h:QK P N all (.m i [] []::done) rest (zak o.dst .no ρ) H K):QK P N all done (o::rest) ρ H K:=by
 refine zt0 hi.symm (Nat.le_of_ble_eq_true hlen) (fun hnd=>⟨hnd,o,.no,ho,hn,fun d hd'=>?_,YX _ _ _,.inl ⟨hw,rfl,rfl,rfl,rfl⟩⟩) h;rw[hd']at hd;exact Nat.le_of_ble_eq_true hd
end
def AO:Op→Bool|.defer _=>false|_=>true
section
variable{P:Program}{N:Nat}{all rest:List Oper}{ρ:Env}{H H':Heap}{K:Env→Heap→Prop}
theorem kY{op:Op}(h:AO op=true):wD op=true:=by cases op<;>first|rfl|cases h
end
section
variable{K0:List Nat}{c:Ctx K0}{P:Program}{r:Option Nat}{N:Nat}{Q:yf}{ρ:Env}{H H':Heap}{ds:List Deferred}{all rest l:List Oper}{o:Oper}{x:Code}{K:Env→Heap→Prop}{done done':List FP}
def zt1(N:Nat)(o:Oper):Bool:=match o.dst with|some d=>Nat.ble (d+1) N|none=>true
theorem zvt{id:Nat}(h:KY c P r N l Q l ρ H ds):WpV c P r N (.region id l.toArray false) Q ρ H ds:=zq0 h
def Cut(K0:List Nat)(ρ':Env)(H':Heap)(ρ1:Env)(H1:Heap):Prop:=∀(c:Ctx K0) ρr w,JX c ρ' H' ρr w→JX c ρ1 H1 ρr w
theorem Cut.trans{K0:List Nat}{ρ1 ρ2 ρ3:Env}{H1 H2 H3:Heap}(h:Cut K0 ρ1 H1 ρ2 H2)(k:Cut K0 ρ2 H2 ρ3 H3):Cut K0 ρ1 H1 ρ3 H3:=fun c ρr w S=>k c ρr w (h c ρr w S)
theorem Cut.refl{K0:List Nat}{ρ1:Env}{H1:Heap}:Cut K0 ρ1 H1 ρ1 H1:=fun _ _ _ S=>S
theorem WK{F ρ1:Heap}(ks:List Nat)(hks:nodupB ks=true)(hF:je ks H=some F)(hρ1:frz F++vU ks H=ρ1):Cut K0 ρ H ρ ρ1:=fun c ρr w S=>by subst hρ1;exact S.freeze ks hks hF
theorem zjo(t d e sz:Nat)(hsz:Nat.ble 1 sz=true)(ht:ρ.get t=.nils)(hd:wE d H=false):Cut K0 ρ H ((t,.sl sz d 0 0 0)::ρ) ((d,.row e sz 0 [])::H):=fun c ρr w S=>S.nilRow t d e sz hsz ht hd
theorem zAd(t:Nat){v v':V}(h1:ρ.get t=v)(h2:v=v'):Cut K0 ρ H ((t,v')::ρ) H:=fun c ρr w S=>by
 subst h2;obtain⟨m,Z,S,hr⟩:=S;refine⟨m,Z,S,fun u=>?_⟩
 show Rep (some m) Z (bif Nat.beq u t then v else ρ.get u) (ρr u)
 cases hb:Nat.beq u t with
 |false=>exact hr u
 |true =>
  have:=Nat.eq_of_beq_eq_true hb;subst this;rw[← h1];exact hr u
theorem v_to(ρ1:Env)(H1:Heap)(h:Cut K0 ρ H ρ1 H1)(k:WpV c P r N x Q ρ1 H1 ds):WpV c P r N x Q ρ H ds:=fun ρr w ds1 S hM=>k ρr w ds1 (h c ρr w S) hM
theorem o_to(ρ1:Env)(H1:Heap)(h:Cut K0 ρ H ρ1 H1)(k:KY c P r N all Q l ρ1 H1 ds):KY c P r N all Q l ρ H ds:=fun ρr w ds1 S hM=>k ρr w ds1 (h c ρr w S) hM
def zml{G:Type}(K0:List Nat)(ds:List Deferred)(env:G→Env)(hp:G→Heap)(Inv:G→Prop)(μ:G→Nat)(g:G)(Q:yf):yf
 |.normal,ρ',H',ds'=>ds'=ds∧∃g',Inv g'∧μ g'<μ g∧Cut K0 ρ' H' (env g') (hp g')
 |e,ρ',H',ds'=>Q e ρ' H' ds'
theorem zrb{G:Type}(env:G→Env)(hp:G→Heap)(Inv:G→Prop)(μ:G→Nat)(g0:G)(hi:Inv g0)(h0:Cut K0 ρ H (env g0) (hp g0))
  (hround:∀g,Inv g→WpV c P r N x (zml K0 ds env hp Inv μ g Q) (env g) (hp g) ds):WpV c P r N (.loop x) Q ρ H ds:=by
 refine v_to _ _ h0 ?_
 refine zzz env hp Inv μ g0 hi fun g hg=>?_
 intro ρr w ds1 SA hM
 refine zgp (hround g hg ρr w ds1 SA hM) fun e ρr' ds' w' ⟨ρ',H',S',hM',hQ⟩=>?_
 cases e with
 |normal =>
  obtain⟨_,g',hi',hlt,hc⟩:=hQ;exact⟨_,_,hc c _ _ S',hM',rfl,g',rfl,rfl,hi',hlt⟩
 |exit id=>exact⟨ρ',H',S',hM',hQ⟩
 |goto l=>exact⟨ρ',H',S',hM',hQ⟩
 |ret=>exact⟨ρ',H',S',hM',hQ⟩
 |panic ch=>exact⟨ρ',H',S',hM',hQ⟩
 |outgrown=>exact⟨ρ',H',S',hM',hQ⟩
theorem zrc{G:Type}{env:G→Env}{hp:G→Heap}{Inv:G→Prop}{μ:G→Nat}{g:G}(g':G)(hi:Inv g')(hμ:μ g'<μ g)(h:Cut K0 ρ H (env g') (hp g')):zml K0 ds env hp Inv μ g Q .normal ρ H ds :=
 ⟨rfl,g',hi,hμ,h⟩
theorem zrd{G:Type}{env:G→Env}{hp:G→Heap}{Inv:G→Prop}{μ:G→Nat}{g:G}(h:Q .ret ρ H ds):zml K0 ds env hp Inv μ g Q .ret ρ H ds:=h
theorem zmm{G:Type}{env:G→Env}{hp:G→Heap}{Inv:G→Prop}{μ:G→Nat}{g:G}{id:Nat}(h:Q (.exit id) ρ H ds):zml K0 ds env hp Inv μ g Q (.exit id) ρ H ds:=h
def zre{S Z:Type}(K0:List Nat)(ds:List Deferred)(env:S→Env)(hp:S→Heap)(L:Nat→S→Option Z)(z:Z)(n:Nat)(q:S)(Q:yf):yf :=
 zml K0 ds (fun g:Nat×S=>env g.2) (fun g=>hp g.2) (fun g=>L g.1 g.2=some z) (fun g=>g.1) (n+1,q) Q
theorem zmn{S Z:Type}(env:S→Env)(hp:S→Heap)(L:Nat→S→Option Z){z:Z}(h00:∀q,L 0 q=none)(n:Nat)(s0:S)(hs:L n s0=some z)(h0:Cut K0 ρ H (env s0) (hp s0))
  (hround:∀K q,L (K+1) q=some z→WpV c P r N x (zre K0 ds env hp L z K q Q) (env q) (hp q) ds):WpV c P r N (.loop x) Q ρ H ds :=
 zrb (fun g:Nat×S=>env g.2) (fun g=>hp g.2) (fun g=>L g.1 g.2=some z) (fun g=>g.1) (n,s0) hs h0 fun g hg=>by
  obtain⟨K,q⟩:=g
  cases K with
  |zero=>rw[h00]at hg;cases hg
  |succ K=>exact hround K q hg
theorem K7{S Z:Type}{env:S→Env}{hp:S→Heap}{L:Nat→S→Option Z}{z:Z}{Kn:Nat}{q:S}(q':S)(hs:L Kn q'=some z)(h:Cut K0 ρ H (env q') (hp q')):
  zre K0 ds env hp L z Kn q Q .normal ρ H ds:=zrc (Kn,q') hs (Nat.lt_succ_self _) h
theorem Y2{S Z:Type}{env:S→Env}{hp:S→Heap}{L:Nat→S→Option Z}{z:Z}{Kn:Nat}{q:S}(h:Q .ret ρ H ds):zre K0 ds env hp L z Kn q Q .ret ρ H ds:=zrd h
theorem HI{S Z:Type}{env:S→Env}{hp:S→Heap}{L:Nat→S→Option Z}{z:Z}{Kn:Nat}{q:S}{id:Nat}(h:Q (.exit id) ρ H ds):zre K0 ds env hp L z Kn q Q (.exit id) ρ H ds:=zmm h
end
section
variable{P:Program}{ρ:Env}{dst:Option Tmp}{ty:TypeId}{pos:String}{aft:Array Edge}{gd:Option (Nat×Bool)}
theorem QL{t e sz bytes n:Nat}{x y:Operand}{k fz L:Nat}{els ys all:List (List V)}{R:Heap}(hT:j8 P t=some (e,sz,bytes))(hx:evV ρ x=.sl sz k L 0 L)(hL:els.length=L)(hy:Src sz R (evV ρ y) ys)
  (h1:∀c∈ys,c.all V.one=true) (hkl:∀c∈ys,c.length=sz) (hkR:wE k R=false) (hall:els++ys=all) (hn:all.length=n) (hlen:n*bytes≤140737488355328) (h63:n≤9223372036854775807):
  Loc P ⟨dst,.call ⟨.builtin .append,#[x,y],#[t,t]⟩,ty,pos,aft,gd⟩ ρ ((k,.row e sz fz els)::R) (.sl sz k n 0 n) ((k,.row e sz fz all)::R):=by
 subst hall;subst hn
 have hl:(els++ys).length=els.length+ys.length:=by simp
 exact zjl hT hx hL.symm hy h1 (by rw[← hl];exact hlen) (by rw[← hl];exact h63) hkR hkl
theorem Y3{t e sz kk L n:Nat}{x ix:Operand}{k:IntKind}{i:Int}(ht:uK P t=some (e,sz))(hx:evV ρ x=.sl sz kk L 0 n)(hi:evV ρ ix=.int k i)(h0:0≤i)(h1:i<n):
  Loc P ⟨dst,.indexAddr t x ix,ty,pos,aft,gd⟩ ρ [] (.ptr kk L (i.toNat*sz+0)) []:=by
 have:=zao (P:=P) (ρ:=ρ) (dst:=dst) (ty:=ty) (pos:=pos) (aft:=aft) (gd:=gd) ht hx hi h0 h1
 rwa [Nat.zero_mul,Nat.zero_add]at this
theorem zaw{t e sz:Nat}{x:Operand}{lo hi:Option Operand}{l h:Int}{els all:List (List V)}(ht:uK P t=some (e,sz))(hx:evV ρ x=.vs sz els)(hl:zg0 ρ lo 0 l)(hh:zg0 ρ hi els.length h)(h0:0≤l)(h1:l≤h)(h2:h≤els.length)(hall:(els.take h.toNat).drop l.toNat=all):
  Loc P ⟨dst,.slice t x lo hi none,ty,pos,aft,gd⟩ ρ [] (.vs sz all) []:=by subst hall;exact zer ht hx hl hh h0 h1 h2
theorem zvu{α:Type}[Inhabited α](enc:α→List V){l:List α}{i:Nat}(h:i<l.length):(l.map enc)[i]?=some (enc (l.getD i default)):=by
 rw[List.getElem?_map,List.getElem?_eq_getElem h,List.getD_eq_getElem?_getD,List.getElem?_eq_getElem h];rfl
theorem zg1{α:Type}(enc:α→List V)(h:∀a,(enc a).all V.one=true)(l:List α):∀c∈l.map enc,c.all V.one=true:=fun c hc=>by
 obtain⟨a,_,rfl⟩:=List.mem_map.1 hc;exact h a
theorem zg2{α:Type}(enc:α→List V){k:Nat}(h:∀a,(enc a).length=k)(l:List α):∀c∈l.map enc,c.length=k:=fun c hc=>by
 obtain⟨a,_,rfl⟩:=List.mem_map.1 hc;exact h a
end
section
variable{P:Program}{ρ:Env}{dst:Option Tmp}{ty:TypeId}{pos:String}{aft:Array Edge}{gd:Option (Nat×Bool)}{f:FuncId}{l:List Operand}{ts:Array TypeId}{args vs:List V}{F F' R:Heap}{r:V}
end
def idx{α:Type}[Inhabited α](l:List α)(i:Int):Option α:=if 0≤i∧i<l.length then some (l.getD i.toNat default)else none
def cut{α:Type}(l:List α)(lo hi:Int):Option (List α):=if 0≤lo∧lo≤hi∧hi≤l.length then some ((l.take hi.toNat).drop lo.toNat)else none
def grd(p:Prop)[Decidable p]:Option Unit:=if p then some ()else none
theorem Y4{α:Type}[Inhabited α]{l:List α}{i:Int}{x:α}(h:idx l i=some x):0≤i∧i<l.length∧x=l.getD i.toNat default:=by
 unfold idx at h;split at h
 ·rename_i hc;cases h;exact⟨hc.1,hc.2,rfl⟩
 ·cases h
theorem zg3{α:Type}{l:List α}{lo hi:Int}{x:List α}(h:cut l lo hi=some x):0≤lo∧lo≤hi∧hi≤l.length∧x=(l.take hi.toNat).drop lo.toNat:=by
 unfold cut at h;split at h
 ·rename_i hc;cases h;exact⟨hc.1,hc.2.1,hc.2.2,rfl⟩
 ·cases h
theorem yg{p:Prop}[Decidable p]{u:Unit}(h:grd p=some u):p:=by
 unfold grd at h;split at h
 ·assumption
 ·cases h
abbrev w64(n:Int):Int:=IntKind.i64.wrap n
def zll(k:IntKind)(n:Int):List V:=[.int k n]
def encI(n:Int):List V:=[.int .i64 n]
def zzh(s:List UInt8):List V:=[.str s]
end Go.EV
