/- texts that the proof reaches, part 1 -/
import Derived.Test.YtffencjoddkghaaGreatDoorProg
import Derived.Shelf.RegionOpenPlain
import Derived.Lib.Strings
import Derived.Lib.Slices
import Derived.Lib.Walk
import Derived.Lib.Builder
import Derived.Lib.AppendStr
import Derived.Lib.UnsafeStr
import Derived.WalkKit
import Derived.Laws.Externs
import Derived.Laws.IdiomCopy
import Derived.Laws.BitsLemmas
import Derived.Lib.FrozenHead2
import Derived.DefersIn
import Derived.ControlIn
import Derived.TacticsIn
import Derived.OrdersIn
import Derived.OrdersHeld
import Derived.Below
import Derived.Laws.AppendOwn
import Derived.Laws.Entries
import Derived.Laws.Slices
import Derived.Laws.Strings
import Derived.Laws.Cells
import Derived.Laws.Rows
import Derived.Laws.NewBlocks
import Derived.Laws.OwnMore
import Derived.Laws.Small
import Derived.Laws.StructEq
import Derived.KernelRfl
import Derived.Maps.AppendAt
import Derived.Deep.Slices
import Derived.RangeFuncLeaves
import Derived.RangeFuncRecord
import Derived.RangeFuncSeq
import Derived.Laws.Tables
import Derived.Lib.SliceRun
import Derived.Laws.CopyRow
set_option linter.all false
namespace Go
theorem ab {p : Prop} (h : p := by omega) : p := h
theorem ae {p : Prop} (h : p := by decide) : p := h
theorem af {p : Prop} (h : p := by simp) : p := h
theorem ah {p : Prop} (h : p := by decide +kernel) : p := h
theorem ai {p : Prop} (h : p := by rfl) : p := h
theorem aj.{u} {α : Sort u} {a b : α} (h : a = b := by kernel_rfl) : a = b := h
abbrev ak := List UInt8
theorem al.{u} {α : Type u} {a : α} {l : List α} : a ∈ a :: l := List.mem_cons_self
theorem aq {n : Nat} : n ≤ n := Nat.le_refl n
end Go
namespace Go
def bsQ.{u,v}{α:Type u}{β:Type v}(a:α)(f:α->Option β):(some a).bind f=f a:=rfl
def df{p:Prop}[i:Decidable p](h:¬p):decide p=false:=decide_eq_false h
def dt{p:Prop}[i:Decidable p](h:p):decide p=true:=decide_eq_true h
def la.{u}{α:Type u}{a b:List α}:(a++b).length=a.length+b.length:=List.length_append
def lc.{u}{α:Type u}{a:α}{b:List α}:(a::b).length=b.length+1:=List.length_cons
def ctQ.{u}{α:Sort u}(a b:α):(bif true then a else b)=a:=rfl
def cf.{u}{α:Sort u}(a b:α):(bif false then a else b)=b:=rfl
def msQ.{u}{α:Type u}{a b:α}:a∈[b]↔a=b:=List.mem_singleton
def mcQ.{u}{α:Type u}(y:α){a:α}{l:List α}(h:a∈l):a∈y::l:=List.mem_cons_of_mem y h
def lb{n m:Nat}(h:Nat.ble n m=true):n<=m:=Nat.le_of_ble_eq_true h
def eb{n m:Nat}(h:Nat.beq n m=true):n=m:=Nat.eq_of_beq_eq_true h
def bn(a b:Bool):((a&&b)=true)=(a=true/\b=true):=Bool.and_eq_true a b
def mk9.{u,v}{α:Type u}{β:Type v}{f:α->β}{a:α}{l:List α}:List.map f (a::l)=f a::List.map f l:=List.map_cons
def asc.{u}{α:Type u}(a b c:List α):a++b++c=a++(b++c):=List.append_assoc a b c
end Go
namespace Go.Proofs.YtffencjoddkghaaGreatDoor
open Go Go.RowKit
structure zzn(T:TypeId):Prop where
 lies:liesAt Tryz.prog Tryz.prog.depth T (2 / Tryz.prog.cellsOf T) 0 108 1=true
 ne:T≠5
def zh7:zzn 108:=⟨aj,ae⟩
def zp6:zzn 123:=⟨aj,ae⟩
def zzo:(Tryz.prog.info? 108).map (·.size)=some 2:=aj
set_option maxHeartbeats 1000000 in
set_option maxRecDepth 100000 in
def zwp(b:Nat)(w:World)(h0:w.cell? ⟨b,0,none⟩=some (.pointer (some ⟨b,0,none⟩))):
  Calls Tryz.prog 209 #[.pointer (some ⟨b,0,none⟩)] w λe w'=>e=.returned (.tuple #[])/\w'=w:=by
 obtain⟨j,hj,_⟩:=Option.map_eq_some_iff.1 zzo
 go_enter Tryz.func209,Tryz.ntmps209
 go_wp2
 rw[Lib.run_neq_ptr_same w _ Tryz.underlying105 hj]
 go_wp2
 go_end0
 exact⟨rfl,rfl⟩
set_option maxHeartbeats 1000000 in
set_option maxRecDepth 100000 in
def zbo{T:TypeId}(hT:zzn T)(b:Nat)(w:World)(h0:w.cell? ⟨b,0,none⟩=some (.pointer none))(hsh:w.shape? b=some (T,2))(hfz:w.frozen? ⟨b,0,none⟩=false):
  Calls Tryz.prog 209 #[.pointer (some ⟨b,0,none⟩)] w λe w'=>e=.returned (.tuple #[])/\w'=w.setCell ⟨b,0,none⟩ (.pointer (some ⟨b,0,none⟩)):=by
 obtain⟨j,hj,hjs⟩:=Option.map_eq_some_iff.1 zzo
 go_enter Tryz.func209,Tryz.ntmps209
 go_wp2
 rw[Lib.run_to_unsafe w ⟨b,0,none⟩ Tryz.underlying105 Tryz.underlying235 hj (by rw[hjs];decide) hsh (Nat.zero_lt_succ 1)];simp only[Result.andThen];rw[Oper.upon_value]
 go_wp2
 rw[run_callFunc_extern Tryz.func225 aj aj aj (e:=Extern.AbiNoEscape.same) aj];rw[Lib.run_noEscape];simp only[Result.andThen];rw[Oper.upon_value]
 go_wp2
 rw[Lib.run_from_unsafe w ⟨b,0,none⟩ Tryz.underlying235 Tryz.underlying105 hj hsh hT.lies];simp only[Result.andThen];rw[Oper.upon_value]
 go_wp2
 go_end0
 exact⟨rfl,rfl⟩
def infoByte:(Tryz.prog.info? 5).map (λi=>(i.zero,i.size,i.bytes))=some (some (.int .u8 0),1,1):=aj
def zT8:∃i,Tryz.prog.info? 5=some i/\i.zero=some (.int .u8 0)/\i.size=1/\i.bytes=1:=by
 obtain⟨i,h1,h2⟩:=Option.map_eq_some_iff.1 infoByte;simp only[Prod.mk.injEq]at h2;exact⟨i,h1,h2.1,h2.2.1,h2.2.2⟩
def zZo(w w':World)(v v':Value):Prop:=(∀g,v'.ownBlock=some g->w.heap.size<=g∨v.ownBlock=some g)/\∀g,v.ownBlock=some g->∃cur fr,w'.heap[g]?=some (.cells cur 5 fr)
def zwq(w:World)(v:Value)(n:Nat)(xs:List Value)(hown:w.ownsRowF 0 5 1 v n xs)(s:ByteArray)(hb:n+s.size<=140737488355328):
  ∃v' w',(Builtin.append_ #[106,9] 106 #[v,.string s]).run Tryz.prog w=.ok v' w'/\w'.ownsRowF 0 5 1 v' (n+s.size) (xs++Lib.strCells s)/\w.grownBy w' v.ownBlock/\zZo w w' v v':=by
 obtain⟨i,hi,hz,hs,hy⟩:=zT8
 have h63:n+s.size<=maxLen:=by unfold maxLen;omega
 rcases hown.2 with⟨rfl,rfl⟩|⟨g,cap,cur,fz,rfl,hbg,hg,hfz,hnc,hcm,hcs,htake⟩
 ·obtain⟨v',w',h1,h2,h3,_⟩:=Lib.run_append_own_stringF (P:=Tryz.prog) w w.heap.size 106 9 106 5 i Tryz.underlying106 Tryz.underlying9 hi hz hs hy (.slice none 0 0) 0 xs ⟨hown.1,.inl ⟨rfl,rfl⟩⟩ s h63 hb aq
  refine⟨v',w',h1,⟨h2.1,?_⟩,h3,λg hg=>.inl (h2.lt g hg).1,λg hg=>by cases hg⟩
  rcases h2.2 with h|⟨g,cap,cur,fz,e1,e2,r⟩
  ·exact .inl h
  ·exact .inr ⟨g,cap,cur,fz,e1,Nat.zero_le _,r⟩
 ·obtain⟨v',w',h1,h2,h3,_⟩:=Lib.run_append_own_stringF (P:=Tryz.prog) w 0 106 9 106 5 i Tryz.underlying106 Tryz.underlying9 hi hz hs hy _ n xs hown s h63 hb (Nat.zero_le _)
  refine⟨v',w',h1,h2,h3,?_⟩;by_cases hroom:n+s.size<=cap
  ·have hr:=Lib.run_append_room_stringF (P:=Tryz.prog) w 106 9 106 5 i Tryz.underlying106 Tryz.underlying9 hi hs g n cap cur fz hg (by simpa using hfz) s hroom ab
   rw[h1]at hr;cases hr;refine⟨λg' hg'=>.inr (by simpa[Value.ownBlock]using hg'),λg' hg'=>?_⟩
   rcases h2.2 with⟨e,_⟩|⟨g2,cap2,cur2,fz2,e1,_,e3,_⟩
   ·cases e
   ·cases e1
    simp only[Value.ownBlock,Option.some.injEq]at hg';subst hg';exact⟨_,_,e3⟩
  ·have holds:∀j u,xs[j]?=some u->w.cell? ((⟨g,0,none⟩:Addr).add j)=some u:=hown.cells (g:=g) rfl
   have hr:=Lib.run_append_grow_string (P:=Tryz.prog) w 106 9 106 5 i (.int .u8 0) Tryz.underlying106 Tryz.underlying9 hi hz ⟨g,0,none⟩ n cap xs (by rw[hs];exact hown.1) holds s ab ab (by rw[hy];exact growslice_fits ab ab);rw[h1]at hr;cases hr;refine⟨λg' hg'=>?_,λg' hg'=>?_⟩
   ·simp only[Value.ownBlock,Option.some.injEq]at hg'
    exact .inl ab
   ·simp only[Value.ownBlock,Option.some.injEq]at hg'
    subst hg';exact⟨_,_,(Lib.alloc_old w.drew _ g (Array.getElem?_eq_some_iff.1 hg).1).trans hg⟩
def zp7(w:World)(v:Value)(n:Nat)(xs:List Value)(hown:w.ownsRowF 0 5 1 v n xs)(a:Addr)(c:Int)(hc:w.cell? a=some (.int .u8 c))(ha:a.spot=none)(hb:n+1<=140737488355328):
  ∃v' w',(Builtin.append_ #[106,106] 106 #[v,.slice (some a) 1 1]).run Tryz.prog w=.ok v' w'/\w'.ownsRowF 0 5 1 v' (n+1) (xs++[.int .u8 c])/\w.grownBy w' v.ownBlock/\zZo w w' v v':=by
 obtain⟨i,hi,hz,hs,hy⟩:=zT8
 have h63:n+1<=maxLen:=by unfold maxLen;omega
 have hnews:∀j u,[Value.int .u8 c][j]?=some u->w.cell? (a.add j)=some u:=by
  intro j u hj
  match j,hj with
  |0,hj=>simp at hj;subst hj;rw[show a.add 0=a from by cases a;simp at ha;subst ha;rfl];exact hc
 have h1':∀u∈[Value.int .u8 c],u.oneCell'=true:=by intro u hu;simp at hu;subst hu;rfl
 rcases hown.2 with⟨rfl,rfl⟩|⟨g,cap,cur,fz,rfl,hbg,hg,hfz,hnc,hcm,hcs,htake⟩
 ·obtain⟨v',w',h1,h2,h3,_⟩:=run_append_ownF (P:=Tryz.prog) w w.heap.size 106 106 5 i (.int .u8 0) 1 1 Tryz.underlying106 hi hz hs hy rfl ae (.slice none 0 0) 0 xs ⟨hown.1,.inl ⟨rfl,rfl⟩⟩ a 1 1 _ rfl hnews h1' h63 ab aq
  refine⟨v',w',h1,⟨h2.1,?_⟩,h3,λg hg=>.inl (h2.lt g hg).1,λg hg=>by cases hg⟩
  rcases h2.2 with h|⟨g,cap,cur,fz,e1,e2,r⟩
  ·exact .inl h
  ·exact .inr ⟨g,cap,cur,fz,e1,Nat.zero_le _,r⟩
 ·obtain⟨v',w',h1,h2,h3,_⟩:=run_append_ownF (P:=Tryz.prog) w 0 106 106 5 i (.int .u8 0) 1 1 Tryz.underlying106 hi hz hs hy rfl ae _ n xs hown a 1 1 _ rfl hnews h1' h63 ab (Nat.zero_le _)
  refine⟨v',w',h1,h2,h3,?_⟩;by_cases hroom:n+1<=cap
  ·have hr:=run_append_roomF (P:=Tryz.prog) w 106 106 5 i Tryz.underlying106 hi g n cap cur fz hg (by rw[hs];exact hfz) a 1 1 _ (by rw[hs];rfl) hnews h1' hroom (by rw[hs,hcs];simp;omega)
   rw[h1]at hr;cases hr;refine⟨λg' hg'=>.inr (by simpa[Value.ownBlock]using hg'),λg' hg'=>?_⟩
   rcases h2.2 with⟨e,_⟩|⟨g2,cap2,cur2,fz2,e1,_,e3,_⟩
   ·cases e
   ·cases e1
    simp only[Value.ownBlock,Option.some.injEq]at hg';subst hg';exact⟨_,_,e3⟩
  ·have holds:∀j u,xs[j]?=some u->w.cell? ((⟨g,0,none⟩:Addr).add j)=some u:=hown.cells (g:=g) rfl
   have hr:=run_append_grow (P:=Tryz.prog) w 106 106 5 i (.int .u8 0) Tryz.underlying106 hi hz ⟨g,0,none⟩ n cap xs (by rw[hs];exact hown.1) holds a 1 1 _ (by rw[hs];rfl) hnews ab ab (by rw[hy];exact growslice_fits ab ab);rw[h1]at hr;cases hr;refine⟨λg' hg'=>?_,λg' hg'=>?_⟩
   ·simp only[Value.ownBlock,Option.some.injEq]at hg'
    exact .inl ab
   ·simp only[Value.ownBlock,Option.some.injEq]at hg'
    subst hg';exact⟨_,_,(Lib.alloc_old w.drew _ g (Array.getElem?_eq_some_iff.1 hg).1).trans hg⟩
def zwr{ops:Array Oper}{rest:List Oper}{o:Oper}{a:Act}{w:World}{Q:Exit->Act->World->Prop}(hgd:o.guard=none)(sl x:Operand)
  (ho:o.op=.call { callee:=.builtin .append,args:=#[sl,x],argTypes:=#[106,9] }) (hty:o.type=106)
  (v:Value) (n:Nat) (xs:List Value) (hs:a.eval sl=v) (hown:w.ownsRowF 0 5 1 v n xs) (s:ByteArray) (hx:a.eval x=.string s) (hb:n+s.size<=140737488355328)
  (h:∀v' w',w'.ownsRowF 0 5 1 v' (n+s.size) (xs++Lib.strCells s)->w.grownBy w' v.ownBlock->zZo w w' v v'->wpList Tryz.prog ops Q rest (a.put o.dst v') w'):wpList Tryz.prog ops Q (o::rest) a w:=by
 refine wpList_plain hgd λK hK=>?_
 obtain⟨v',w',hr,h2,h3,h4⟩:=zwq w v n xs hown s hb;unfold Oper.wp execOp;simp only[ho,hty,resolve,invoke,builtin,Sem.run_bind,Sem.run_pure,Result.andThen_ok,List.map_toArray,mk9,List.map_nil,hs,hx,hr];exact hK _ _ (h v' w' h2 h3 h4)
def zp8{ops:Array Oper}{rest:List Oper}{o:Oper}{a:Act}{w:World}{Q:Exit->Act->World->Prop}(hgd:o.guard=none)(sl x:Operand)
  (ho:o.op=.call { callee:=.builtin .append,args:=#[sl,x],argTypes:=#[106,106] }) (hty:o.type=106)
  (v:Value) (n:Nat) (xs:List Value) (hs:a.eval sl=v) (hown:w.ownsRowF 0 5 1 v n xs) (ad:Addr) (c:Int) (hx:a.eval x=.slice (some ad) 1 1) (hc:w.cell? ad=some (.int .u8 c)) (ha:ad.spot=none) (hb:n+1<=140737488355328)
  (h:∀v' w',w'.ownsRowF 0 5 1 v' (n+1) (xs++[.int .u8 c])->w.grownBy w' v.ownBlock->zZo w w' v v'->wpList Tryz.prog ops Q rest (a.put o.dst v') w'):wpList Tryz.prog ops Q (o::rest) a w:=by
 refine wpList_plain hgd λK hK=>?_
 obtain⟨v',w',hr,h2,h3,h4⟩:=zp7 w v n xs hown ad c hc ha hb;unfold Oper.wp execOp;simp only[ho,hty,resolve,invoke,builtin,Sem.run_bind,Sem.run_pure,Result.andThen_ok,List.map_toArray,mk9,List.map_nil,hs,hx,hr];exact hK _ _ (h v' w' h2 h3 h4)
def H0(b:Nat)(w w':World):Prop:=∃p v T p' v',w.heap[b]?=some (.cells #[p,v] T (0,0))/\w'.heap[b]?=some (.cells #[p',v'] T (0,0))/\w'.os=w.os/\w'.tape=w.tape/\w'.output=w.output/\w.heap.size<=w'.heap.size /\
 (∀k,k<w.heap.size->k≠b->v.ownBlock≠some k->w'.heap[k]?=w.heap[k]?)/\(∀g,v'.ownBlock=some g->w.heap.size<=g∨v.ownBlock=some g)/\∀g,v.ownBlock=some g->g≠b->∃cur u fr,w'.heap[g]?=some (.cells cur u fr)
def check{T:TypeId}(hT:zzn T)(b:Nat)(bs:List Value)(w:World)(h:Lib.IsBuilderF T 5 0 b bs w):
  Calls Tryz.prog 209 #[.pointer (some ⟨b,0,none⟩)] w λe w'=>e=.returned (.tuple #[])/\Lib.BuilderAtF T 5 0 b (.pointer (some ⟨b,0,none⟩)) bs w'/\∃p v,w.heap[b]?=some (.cells #[p,v] T (0,0))/\w'.heap[b]?=some (.cells #[.pointer (some ⟨b,0,none⟩),v] T (0,0))/\w'.os=w.os/\w'.tape=w.tape/\w'.output=w.output/\w'.heap.size=w.heap.size/\∀k,k≠b->w'.heap[k]?=w.heap[k]?:=by
 rcases h with h|h
 ·refine(zbo hT b w h.cell0 h.shape h.frozen0).mono ?_
  rintro e w' ⟨rfl,rfl⟩;have h2:=h.used (.pointer (some ⟨b,0,none⟩));obtain⟨_,v,hb,_⟩:=h;exact⟨rfl,h2,_,v,hb,by simp[World.setCell,Array.getElem?_modify,hb],rfl,rfl,rfl,by simp[World.setCell],λk hk=>Below.heap_setCell _ _ _ _ (λe=>hk (by simp[e]))⟩
 ·refine(zwp b w h.cell0).mono ?_
  rintro e w' ⟨rfl,rfl⟩;have h2:=h;obtain⟨_,v,hb,_⟩:=h;exact⟨rfl,h2,_,v,hb,hb,rfl,rfl,rfl,rfl,λ_ _=>rfl⟩
set_option maxHeartbeats 2000000 in
set_option maxRecDepth 100000 in
def zzp{T:TypeId}(hT:zzn T)(b:Nat)(bs:List Value)(s:ByteArray)(w:World)(h:Lib.IsBuilderF T 5 0 b bs w)(hlen:bs.length+s.size<=140737488355328):
  (Calls Tryz.prog 162 #[.pointer (some ⟨b,0,none⟩),.string s] w λe w'=>e=.returned (.tuple #[.int .i64 s.size,.nilIface])/\Lib.IsBuilderF T 5 0 b (bs++Lib.strCells s) w'/\H0 b w w') /\
  ∀u,CallsDIn Fence.wide 0 Tryz.prog 162 #[.pointer (some ⟨b,0,none⟩),.string s] u w λe u' w'=>u'=u/\(e=.returned (.tuple #[.int .i64 s.size,.nilIface])/\Lib.IsBuilderF T 5 0 b (bs++Lib.strCells s) w'/\H0 b w w'):=by
 refine⟨calls_of_wp Tryz.func162 rfl ?_,λu=>callsDIn_of_wp Tryz.func162 rfl trivial (wpIn_wide.2 ?_)⟩
 all_goals
  simp only[Tryz.ntmps162,List.size_toArray,lc,List.length_nil,Nat.reduceAdd,Nat.reduceSub,Array.replicate_succ,Array.replicate_zero,List.push_toArray,List.append_toArray,List.nil_append,List.cons_append]
  go_wp2_with (go_at_call 209;refine(check hT b bs _ h).mono ?_)
  rintro e w1 ⟨rfl,h1,p0,v0,k1,k2,k3,k4,k5,k6,k7⟩;obtain⟨hB,v,hbk,hown,hne⟩:=h1
  have c0:w1.cell? ⟨b,0,none⟩=some (.pointer (some ⟨b,0,none⟩)):=by rw[Lib.cell_of_heap hbk];rfl
  have c1:w1.cell? ⟨b,1,none⟩=some v:=by rw[Lib.cell_of_heap hbk];rfl
  go_wp2_with (at_builtin;refine zwr rfl _ _ rfl rfl _ _ _ rfl hown s rfl ?c4 ?_)
  case c4=>omega
  intro v' w2 hown' hgrow hwent
  have hlt:b<w1.heap.size:=by
   rcases Nat.lt_or_ge b w1.heap.size with h'|h'
   ·exact h'
   ·simp[Array.getElem?_eq_none h']at hbk
  have hb2:w2.heap[b]?=some (.cells #[.pointer (some ⟨b,0,none⟩),v] T (0,0)):=by
   rw[hgrow.block b hlt (λe=>hne e.symm)];exact hbk
  have d0:w2.cell? ⟨b,0,none⟩=some (.pointer (some ⟨b,0,none⟩)):=by rw[Lib.cell_of_heap hb2];rfl
  have d1:w2.cell? ⟨b,1,none⟩=some v:=by rw[Lib.cell_of_heap hb2];rfl
  have f1:w2.frozen? ⟨b,1,none⟩=false:=Lib.frozen_of_heap hb2 1
  obtain⟨ao,n',cap,rfl⟩:∃ao n' cap,v'=.slice ao n' cap:=by
   rcases hown'.2 with⟨hv,_⟩|⟨g,cap,cur,fz,hv,_⟩
   ·exact⟨_,_,_,hv⟩
   ·exact⟨_,_,_,hv⟩
  go_wp2
  go_ret2
  rw[hbk]at k2;cases k2;refine⟨rfl,.inr (Lib.BuilderAtF.put hB hb2 (bs':=bs++Lib.strCells s) (by simpa[Lib.strCells_length]using hown') hT.ne),p0,v0,T,.pointer (some ⟨b,0,none⟩),.slice ao n' cap,k1,by simp[World.setCell,Array.getElem?_modify,hb2],hgrow.os.trans k3,hgrow.tape.trans k4,hgrow.output.trans k5,by simpa[World.setCell]using Nat.le_trans (Nat.le_of_eq k6.symm) hgrow.size,λk hk hkb hkv=>?_,λg hg=>?_,λg hg hgb=>?_⟩
  ·rw[Below.heap_setCell _ _ _ _ (λe=>hkb (by simp[e])),hgrow.block k ab (λe=>hkv e.symm),k7 k hkb]
  ·have:=hwent.1 g hg
   rwa [k6]at this
  ·obtain⟨cur,fr,e⟩:=hwent.2 g hg
   exact⟨cur,5,fr,by rw[Below.heap_setCell _ _ _ _ (λe=>hgb (by simp[e]))];exact e⟩
set_option maxHeartbeats 2000000 in
set_option maxRecDepth 100000 in
def zGr{T:TypeId}(hT:zzn T)(b:Nat)(bs:List Value)(c:Int)(w:World)(h:Lib.IsBuilderF T 5 0 b bs w)(hlen:bs.length+1<=140737488355328):
  (Calls Tryz.prog 168 #[.pointer (some ⟨b,0,none⟩),.int .u8 c] w λe w'=>e=.returned .nilIface/\Lib.IsBuilderF T 5 0 b (bs++[.int .u8 c]) w'/\H0 b w w') /\
  ∀u,CallsDIn Fence.wide 0 Tryz.prog 168 #[.pointer (some ⟨b,0,none⟩),.int .u8 c] u w λe u' w'=>u'=u/\(e=.returned .nilIface/\Lib.IsBuilderF T 5 0 b (bs++[.int .u8 c]) w'/\H0 b w w'):=by
 refine⟨calls_of_wp Tryz.func168 rfl ?_,λu=>callsDIn_of_wp Tryz.func168 rfl trivial (wpIn_wide.2 ?_)⟩
 all_goals
  simp only[Tryz.ntmps168,List.size_toArray,lc,List.length_nil,Nat.reduceAdd,Nat.reduceSub,Array.replicate_succ,Array.replicate_zero,List.push_toArray,List.append_toArray,List.nil_append,List.cons_append]
  go_wp2_with (go_at_call 209;refine(check hT b bs _ h).mono ?_)
  rintro e w1 ⟨rfl,h1,p0,v0,k1,k2,k3,k4,k5,k6,k7⟩;obtain⟨hB,v,hbk,hown,hne⟩:=h1
  have c0:w1.cell? ⟨b,0,none⟩=some (.pointer (some ⟨b,0,none⟩)):=by rw[Lib.cell_of_heap hbk];rfl
  have c1:w1.cell? ⟨b,1,none⟩=some v:=by rw[Lib.cell_of_heap hbk];rfl
  go_wp2_with (at_builtin;refine zp8 rfl _ _ rfl rfl _ _ _ rfl (hown.alloc _) ⟨w.heap.size,0,none⟩ c rfl ?c3 rfl ?c4 ?_)
  case c3 =>
   rw[<- k6,Lib.cell_of_heap (heap_alloc_new w1 _)];rfl
  case c4=>omega
  intro v' w2 hown' hgrow hwent
  have hsz:(w1.alloc (.cells #[.int .u8 c] 5)).heap.size=w1.heap.size+1:=af
  have hlt:b<w1.heap.size:=by
   rcases Nat.lt_or_ge b w1.heap.size with h'|h'
   ·exact h'
   ·simp[Array.getElem?_eq_none h']at hbk
  have hb2:w2.heap[b]?=some (.cells #[.pointer (some ⟨b,0,none⟩),v] T (0,0)):=by
   rw[hgrow.block b (by rw[hsz];omega) (λe=>hne e.symm)];exact(Lib.alloc_old w1 _ b hlt).trans hbk
  have d0:w2.cell? ⟨b,0,none⟩=some (.pointer (some ⟨b,0,none⟩)):=by rw[Lib.cell_of_heap hb2];rfl
  have d1:w2.cell? ⟨b,1,none⟩=some v:=by rw[Lib.cell_of_heap hb2];rfl
  have f1:w2.frozen? ⟨b,1,none⟩=false:=Lib.frozen_of_heap hb2 1
  obtain⟨ao,n',cap,rfl⟩:∃ao n' cap,v'=.slice ao n' cap:=by
   rcases hown'.2 with⟨hv,_⟩|⟨g,cap,cur,fz,hv,_⟩
   ·exact⟨_,_,_,hv⟩
   ·exact⟨_,_,_,hv⟩
  go_wp2
  go_ret
  rw[hbk]at k2;cases k2;refine⟨rfl,.inr (Lib.BuilderAtF.put hB hb2 (bs':=bs++[.int .u8 c]) (by simpa using hown') hT.ne),p0,v0,T,.pointer (some ⟨b,0,none⟩),.slice ao n' cap,k1,by simp[World.setCell,Array.getElem?_modify,hb2],hgrow.os.trans k3,hgrow.tape.trans k4,hgrow.output.trans k5,by have h9:=hgrow.size;rw[hsz]at h9;simp only[World.setCell,Array.size_modify];omega,λk hk hkb hkv=>?_,λg hg=>?_,λg hg hgb=>?_⟩
  ·rw[Below.heap_setCell _ _ _ _ (λe=>hkb (by simp[e])),hgrow.block k (by rw[hsz];omega) (λe=>hkv e.symm),Lib.alloc_old w1 _ k ab,k7 k hkb]
  ·rcases hwent.1 g hg with h9|h9
   ·rw[hsz]at h9
    exact .inl ab
   ·exact .inr h9
  ·obtain⟨cur,fr,e⟩:=hwent.2 g hg
   exact⟨cur,5,fr,by rw[Below.heap_setCell _ _ _ _ (λe=>hgb (by simp[e]))];exact e⟩
set_option maxHeartbeats 1000000 in
set_option maxRecDepth 100000 in
def zOj{T:TypeId}(b:Nat)(bs:List Value)(w:World)(h:Lib.IsBuilderF T 5 0 b bs w):
  Calls Tryz.prog 59 #[.pointer (some ⟨b,0,none⟩)] w λe w'=>e=.returned (.int .i64 bs.length)/\w'=w:=by
 obtain⟨p,hB,v,hbk,hown,hne⟩:∃p,Lib.BuilderAtF T 5 0 b p bs w:=by
  rcases h with h|h
  ·exact⟨_,h⟩
  ·exact⟨_,h⟩
 obtain⟨ao,cap,rfl⟩:∃ao cap,v=.slice ao bs.length cap:=by
  rcases hown.2 with⟨hv,h0⟩|⟨g,cap,cur,fz,hv,_⟩
  ·exact⟨none,0,by rw[hv,h0]⟩
  ·exact⟨_,_,hv⟩
 have c1:w.cell? ⟨b,1,none⟩=some (.slice ao bs.length cap):=by rw[Lib.cell_of_heap hbk];rfl
 go_enter Tryz.func59,Tryz.ntmps59
 go_wp2
 go_ret
 exact⟨rfl,rfl⟩
def zbp:Tryz.prog.follows .mixedOrders=true:=aj
def zT9:Tryz.prog.cellsOf 5=1:=aj
def zOk(W:World)(q:Option Addr):(Builtin.unsafeString_ #[197,3] 9 #[.pointer q,.int .i64 0]).run Tryz.prog W=.ok (.string .empty) W :=
 Lib.run_unsafeString_none W _ _ _ q
def zah{b:Nat}{w w':World}{p v:Value}{T:TypeId}(h1:w.heap[b]?=some (.cells #[p,v] T (0,0)))(h2:w'.heap[b]?=some (.cells #[p,v] T (0,0)))(ho:w'.os=w.os)(ht:w'.tape=w.tape)(hu:w'.output=w.output)(hs:w.heap.size<=w'.heap.size)
  (hf:∀k,k<w.heap.size->k≠b->v.ownBlock≠some k->w'.heap[k]?=w.heap[k]?) (hg:∀g,v.ownBlock=some g->g≠b->∃cur u fr,w'.heap[g]?=some (.cells cur u fr)):H0 b w w' :=
 ⟨p,v,T,p,v,h1,h2,ho,ht,hu,hs,hf,λg hg=>.inr hg,hg⟩
set_option maxHeartbeats 2000000 in
set_option maxRecDepth 100000 in
def zp9{T:TypeId}(b:Nat)(l:ak)(w:World)(h:Lib.IsBuilderF T 5 0 b (Lib.byteCells l) w)(h0:l≠[]):
  Calls Tryz.prog 60 #[.pointer (some ⟨b,0,none⟩)] w λe w'=>e=.returned (.string ⟨l.toArray⟩)/\Lib.IsBuilderF T 5 0 b (Lib.byteCells l) w'/\H0 b w w':=by
 obtain⟨p,hp,hAt⟩:∃p,(p=.pointer none∨p=.pointer (some ⟨b,0,none⟩))/\Lib.BuilderAtF T 5 0 b p (Lib.byteCells l) w:=by
  rcases h with h|h
  ·exact⟨_,.inl rfl,h⟩
  ·exact⟨_,.inr rfl,h⟩
 obtain⟨hB,v,hbk,hown,hne⟩:=hAt
 have hl0:l.length≠0:=by simpa using h0
 rw[Lib.byteCells_length]at hown
 obtain⟨g,cap,cur,fz,rfl,hbg,hg,hfz,hnc,hcm,hcs,htake⟩:∃g cap cur fz,v=.slice (some ⟨g,0,none⟩) l.length cap/\0<=g/\w.heap[g]?=some (.cells cur 5 fz)/\fz.2<=l.length*1/\l.length<=cap/\cap<=maxLen/\cur.size=cap*1/\cur.toList.take (l.length*1)=Lib.byteCells l:=by
  rcases hown.2 with⟨_,hz⟩|⟨g,cap,cur,fz,hv,r⟩
  ·exact absurd hz hl0
  ·exact⟨g,cap,cur,fz,hv,r⟩
 have c1:w.drew.cell? ⟨b,1,none⟩=some (.slice (some ⟨g,0,none⟩) l.length cap):=by
  have:w.drew.heap[b]?=some (.cells #[p,.slice (some ⟨g,0,none⟩) l.length cap] T (0,0)):=hbk;rw[Lib.cell_of_heap this];rfl
 have hSD:(Builtin.unsafeSliceData_ #[106] 197 #[.slice (some ⟨g,0,none⟩) l.length cap]).run Tryz.prog w.drew=.ok (.pointer (some ⟨g,0,none⟩)) w.drew :=
  Lib.run_unsafeSliceData_row _ _ _ _ _ _ ab
 have hUS:(Builtin.unsafeString_ #[197,3] 9 #[.pointer (some ⟨g,0,none⟩),.int .i64 l.length]).run Tryz.prog w.drew=.ok (.string ⟨l.toArray⟩) (w.drew.freeze ⟨g,0,none⟩ l.length):=by
  refine Lib.run_unsafeString_row w.drew 197 3 9 5 Tryz.underlying197 zT9 g cur.size (by have hg':w.drew.heap[g]?=some (.cells cur 5 fz):=hg;simp[World.shape?,hg']) l h0 ab (by unfold maxLen at hcm;omega) ?_;intro j x hx;exact hown.cells (g:=g) rfl j (.int .u8 x.toNat) (by simp[Lib.byteCells,hx])
 have hkeep:Lib.IsBuilderF T 5 0 b (Lib.byteCells l) (w.drew.freeze ⟨g,0,none⟩ l.length):=by
  have hA:Lib.BuilderAtF T 5 0 b p (Lib.byteCells l) w.drew:=⟨hB,_,hbk,by rw[Lib.byteCells_length];exact hown,hne⟩
  have hF:=hA.froze (g:=g) (cap:=cap) (by rw[Lib.byteCells_length];exact c1);rw[Lib.byteCells_length]at hF
  rcases hp with rfl|rfl
  ·exact .inl hF
  ·exact .inr hF
 have hbg:b≠g:=λe=>hne (by simp[Value.ownBlock,e])
 have hfrz:∀k,k≠g->(w.drew.freeze ⟨g,0,none⟩ l.length).heap[k]?=w.heap[k]?:=λk hk=>by
  unfold World.freeze;split
  ·rfl
  ·simp only[Array.getElem?_modify]
   rw[if_neg (λe=>hk e.symm)];rfl
 have hturn:H0 b w (w.drew.freeze ⟨g,0,none⟩ l.length):=zah hbk ((hfrz b hbg).trans hbk) (by unfold World.freeze;split<;>rfl) (by unfold World.freeze;split<;>rfl) (by unfold World.freeze;split<;>rfl) (by unfold World.freeze;split;exact Nat.le_refl _;exact Nat.le_of_eq Array.size_modify.symm) (λk _ _ hk=>hfrz k λe=>hk (by simp[Value.ownBlock,e])) λg' hg' _=>by
  simp only[Value.ownBlock,Option.some.injEq]at hg';subst hg';have hg':w.drew.heap[g]?=some (.cells cur 5 fz):=hg;unfold World.freeze;split
  ·exact⟨_,_,_,hg'⟩
  ·simp only[Array.getElem?_modify,if_true,hg',Option.map_some]
   exact⟨_,_,_,rfl⟩
 have mixed:=zbp
 go_enter Tryz.func60,Tryz.ntmps60
 go_wp2
 go_region_o
 all_goals (go_wp2;go_ret;exact⟨rfl,hkeep,hturn⟩)
set_option maxHeartbeats 2000000 in
set_option maxRecDepth 100000 in
def zqa{T:TypeId}(b:Nat)(w:World)(h:Lib.IsBuilderF T 5 0 b [] w):
  Calls Tryz.prog 60 #[.pointer (some ⟨b,0,none⟩)] w λe w'=>e=.returned (.string ⟨#[]⟩)/\Lib.IsBuilderF T 5 0 b [] w'/\H0 b w w':=by
 have hUS:=zOk
 obtain⟨p,hp,hA⟩:∃p,(p=.pointer none∨p=.pointer (some ⟨b,0,none⟩))/\Lib.BuilderAtF T 5 0 b p [] w:=by
  rcases h with h|h
  ·exact⟨_,.inl rfl,h⟩
  ·exact⟨_,.inr rfl,h⟩
 have hlt:=hA.lt;have hA':=hA;obtain⟨hB,v,hbk,hown,hne⟩:=hA
 have fin:∀w',Lib.BuilderAtF T 5 0 b p [] w'->Lib.IsBuilderF T 5 0 b [] w':=λw' hk=>by
  rcases hp with rfl|rfl
  ·exact .inl hk
  ·exact .inr hk
 rcases hown.2 with⟨rfl,_⟩|⟨g,cap,cur,fz,rfl,hbg,hg,_,_,_,_,_⟩
 ·have c1:w.drew.cell? ⟨b,1,none⟩=some (.slice none 0 0):=by
   have:w.drew.heap[b]?=some (.cells #[p,.slice none 0 0] T (0,0)):=hbk;rw[Lib.cell_of_heap this];rfl
  have hSD:(Builtin.unsafeSliceData_ #[106] 197 #[.slice none 0 0]).run Tryz.prog w.drew=.ok (.pointer none) w.drew:=rfl;have hf:Lib.IsBuilderF T 5 0 b [] w.drew:=fin _ hA'
  have ht:H0 b w w.drew:=zah hbk hbk rfl rfl rfl aq (λ_ _ _ _=>rfl) λg' hg' _=>(by cases hg')
  have mixed:=zbp
  go_enter Tryz.func60,Tryz.ntmps60
  go_wp2
  go_region_o
  all_goals (go_wp2;go_ret;exact⟨rfl,hf,ht⟩)
 ·by_cases hc0:cap=0
  ·subst hc0
   have c1:w.drew.cell? ⟨b,1,none⟩=some (.slice (some ⟨g,0,none⟩) 0 0):=by
    have:w.drew.heap[b]?=some (.cells #[p,.slice (some ⟨g,0,none⟩) 0 0] T (0,0)):=hbk;rw[Lib.cell_of_heap this];rfl
   have hSD:(Builtin.unsafeSliceData_ #[106] 197 #[.slice (some ⟨g,0,none⟩) 0 0]).run Tryz.prog w.drew=.ok (.pointer (some ⟨w.drew.heap.size,0,none⟩)) (w.drew.alloc (.view ⟨g,0,none⟩ 5)) :=
    Lib.run_unsafeSliceData_zero w.drew _ _ 5 Tryz.underlying197 ⟨g,0,none⟩ 0 (5,cur.size) (by have hg':w.drew.heap[g]?=some (.cells cur 5 fz):=hg;simp[World.shape?,hg'])
   have c2:(w.drew.alloc (.view ⟨g,0,none⟩ 5)).cell? ⟨b,1,none⟩=some (.slice (some ⟨g,0,none⟩) 0 0):=by
    have:(w.drew.alloc (.view ⟨g,0,none⟩ 5)).heap[b]?=_:=(Lib.alloc_old w.drew _ b hlt).trans hbk;rw[Lib.cell_of_heap this];rfl
   have c3:(w.alloc (.view ⟨g,0,none⟩ 5)).drew.cell? ⟨b,1,none⟩=some (.slice (some ⟨g,0,none⟩) 0 0):=c2;have c0:w.cell? ⟨b,1,none⟩=some (.slice (some ⟨g,0,none⟩) 0 0):=c1;have hf:Lib.IsBuilderF T 5 0 b [] (w.drew.alloc (.view ⟨g,0,none⟩ 5)):=fin _ (hA'.drew.alloc _)
   have ht:H0 b w (w.drew.alloc (.view ⟨g,0,none⟩ 5)):=zah hbk ((Lib.alloc_old w.drew _ b hlt).trans hbk) rfl rfl rfl (Nat.le_of_lt (by rw[show(w.drew.alloc (.view ⟨g,0,none⟩ 5)).heap.size=w.drew.heap.size+1 from by simp];exact Nat.lt_succ_self _)) (λk hk _ _=>Lib.alloc_old w.drew _ k hk) λg' hg' _=>by
    simp only[Value.ownBlock,Option.some.injEq]at hg';subst hg';exact⟨_,_,_,(Lib.alloc_old w.drew _ g (Array.getElem?_eq_some_iff.1 hg).1).trans hg⟩
   have mixed:=zbp
   go_enter Tryz.func60,Tryz.ntmps60
   go_wp2
   go_region_o
   all_goals (go_wp2;go_ret;exact⟨rfl,hf,ht⟩)
  ·have c1:w.drew.cell? ⟨b,1,none⟩=some (.slice (some ⟨g,0,none⟩) 0 cap):=by
    have:w.drew.heap[b]?=some (.cells #[p,.slice (some ⟨g,0,none⟩) 0 cap] T (0,0)):=hbk;rw[Lib.cell_of_heap this];rfl
   have hSD:(Builtin.unsafeSliceData_ #[106] 197 #[.slice (some ⟨g,0,none⟩) 0 cap]).run Tryz.prog w.drew=.ok (.pointer (some ⟨g,0,none⟩)) w.drew :=
    Lib.run_unsafeSliceData_row _ _ _ _ _ _ hc0
   clear hc0;have hf:Lib.IsBuilderF T 5 0 b [] w.drew:=fin _ hA'
   have ht:H0 b w w.drew:=zah hbk hbk rfl rfl rfl aq (λ_ _ _ _=>rfl) λg' hg' _=>(by
    simp only[Value.ownBlock,Option.some.injEq]at hg';subst hg'
    exact⟨_,_,_,hg⟩)
   have mixed:=zbp
   go_enter Tryz.func60,Tryz.ntmps60
   go_wp2
   go_region_o
   all_goals (go_wp2;go_ret;exact⟨rfl,hf,ht⟩)
def zws{T:TypeId}(b:Nat)(l:ak)(w:World)(h:Lib.IsBuilderF T 5 0 b (Lib.byteCells l) w):
  Calls Tryz.prog 60 #[.pointer (some ⟨b,0,none⟩)] w λe w'=>e=.returned (.string ⟨l.toArray⟩)/\Lib.IsBuilderF T 5 0 b (Lib.byteCells l) w'/\H0 b w w':=by
 cases l with
 |nil=>exact zqa b w h
 |cons x r=>exact zp9 b (x::r) w h af
end Go.Proofs.YtffencjoddkghaaGreatDoor
namespace Go.Eng
open Go Go.RowKit
abbrev yJ:=Nat->Value
def upd(ρ:yJ)(d:Nat)(v:Value):yJ:=λt=>bif Nat.beq t d then v else ρ t
abbrev zai:=Exit->yJ->List Deferred->World->Prop
def ev(ρ:yJ):Operand->Value
 |.tmp t=>ρ t
 |.const v=>v
 |.global g=>.pointer (some ⟨g,0,none⟩)
 |.func f=>.func (.func f) #[] #[]
structure Frm(N:Nat)(ds:List Deferred)(a:Act)(ρ:yJ):Prop where
 size:a.tmps.size=N
 defs:a.defers=ds
 get:∀t,a.tmps.getD t undef=ρ t
def Frm.eval{N:Nat}{ds:List Deferred}{a:Act}{ρ:yJ}(h:Frm N ds a ρ):a.eval=ev ρ:=by
 funext x
 cases x with
 |tmp t=>exact h.get t
 |const v=>rfl
 |global g=>rfl
 |func f=>rfl
def Frm.put{N:Nat}{ds:List Deferred}{a:Act}{ρ:yJ}(h:Frm N ds a ρ){d:Nat}(hd:d<N)(v:Value):Frm N ds (a.put (some d) v) (upd ρ d v):=by
 refine⟨by simp[Act.put,h.size],h.defs,λt=>?_⟩;simp only[Act.put,upd];by_cases htd:t=d
 ·subst htd
  simp[Array.getD_eq_getD_getElem?,Nat.beq_refl,h.size,hd]
 ·have hb:Nat.beq t d=false:=by
   cases hx:Nat.beq t d with
   |false=>rfl
   |true=>exact absurd (eb hx) htd
  rw[hb,cf,<- h.get t];simp[Array.getD_eq_getD_getElem?,Array.getElem?_setIfInBounds_ne (Ne.symm htd)]
def Frm.putNone{N:Nat}{ds:List Deferred}{a:Act}{ρ:yJ}(h:Frm N ds a ρ)(v:Value):Frm N ds (a.put none v) ρ:=h
def Fw(r:Option Nat):Fence:={ fn:=λ_=>True,depth:=none,alive:=false,round:=r }
def Hh{n:Nat}{P:Program}{f:FuncId}{args:Array Value}{w:World}{R:Ending->World->Prop}(r:Option Nat)(h:Calls P f args w R):CallsIn (Fw r) n P f args w R :=
 (callsIn_wide (n:=n)).2 h
def lift(N:Nat)(Q:zai):Exit->Act->World->Prop:=λe a w=>∃ρ ds,Frm N ds a ρ/\Q e ρ ds w
def zzq{N:Nat}{Q Q':zai}(h:∀e ρ ds w,Q e ρ ds w->Q' e ρ ds w){e:Exit}{a:Act}{w:World}:lift N Q e a w->lift N Q' e a w :=
 λ⟨ρ,ds,hf,hq⟩=>⟨ρ,ds,hf,h _ _ _ _ hq⟩
def Wp(P:Program)(r:Option Nat)(N:Nat)(c:Code)(Q:zai)(ρ:yJ)(ds:List Deferred)(w:World):Prop :=
 ∀a n,Frm N ds a ρ->c.wpIn (Fw r) n P (lift N Q) a w
def andThen(K:yJ->List Deferred->World->Prop)(Q:zai):zai
 |.normal,ρ,ds,w=>K ρ ds w
 |e,ρ,ds,w=>Q e ρ ds w
def zOl(id:Nat)(Q:zai):zai
 |.exit i,ρ,ds,w=>if i=id then Q .normal ρ ds w else Q (.exit i) ρ ds w
 |e,ρ,ds,w=>Q e ρ ds w
section
variable{P:Program}{r:Option Nat}{N:Nat}{Q:zai}{ρ:yJ}{ds:List Deferred}{w:World}
def zlw{c:Code}{Q':zai}(h:Wp P r N c Q ρ ds w)(hq:∀e ρ ds w,Q e ρ ds w->Q' e ρ ds w):Wp P r N c Q' ρ ds w :=
 λa n hf=>wpIn_mono (h a n hf) λ_ _ _=>zzq hq
def zLu(h:Q .normal ρ ds w):Wp P r N .skip Q ρ ds w:=λ_ _ hf=>wpIn_skip ⟨_,_,hf,h⟩
def zqb{K:yJ->List Deferred->World->Prop}(h:K ρ ds w):Wp P r N .skip (andThen K Q) ρ ds w:=zLu h
def zUa{id:Nat}(h:Q (.exit id) ρ ds w):Wp P r N (.exit id) Q ρ ds w:=λ_ _ hf=>wpIn_exit ⟨_,_,hf,h⟩
def w_ret(h:Q .ret ρ ds w):Wp P r N .ret Q ρ ds w:=λ_ _ hf=>wpIn_ret ⟨_,_,hf,h⟩
def zwt{x y:Code}(h:Wp P r N x (andThen (λρ ds w=>Wp P r N y Q ρ ds w) Q) ρ ds w):Wp P r N (.seq x y) Q ρ ds w :=
 λa n hf=>wpIn_seq (wpIn_mono (h a n hf) λe a' w' hq=>by
  obtain⟨ρ',ds',hf',hq'⟩:=hq
  cases e with
  |normal=>exact hq' a' n hf'
  |exit id=>exact⟨ρ',ds',hf',hq'⟩
  |goto l=>exact⟨ρ',ds',hf',hq'⟩
  |ret=>exact⟨ρ',ds',hf',hq'⟩
  |panic ch=>exact⟨ρ',ds',hf',hq'⟩
  |outgrown=>exact⟨ρ',ds',hf',hq'⟩)
def zLv{c:Operand}{x y:Code}(t:Bool)(hc:ev ρ c=.bool t)(h1:t=true->Wp P r N x Q ρ ds w)(h2:t=false->Wp P r N y Q ρ ds w):Wp P r N (.cond c x y) Q ρ ds w :=
 λa n hf=>wpIn_cond_split (by rw[hf.eval];exact hc) (λht=>h1 ht a n hf) (λht=>h2 ht a n hf)
def zOm{id:Nat}{c:Code}(h:Wp P r N c (zOl id Q) ρ ds w):Wp P r N (.block id c) Q ρ ds w :=
 λa n hf=>wpIn_block (wpIn_mono (h a n hf) λe a' w' hq=>by
  obtain⟨ρ',ds',hf',hq'⟩:=hq
  cases e with
  |exit i =>
   simp only[zOl]at hq';simp only[Exit.inBlock];split
   ·rename_i he;rw[if_pos he]at hq';exact⟨ρ',ds',hf',hq'⟩
   ·rename_i he;rw[if_neg he]at hq';exact⟨ρ',ds',hf',hq'⟩
  |normal=>exact⟨ρ',ds',hf',hq'⟩
  |goto l=>exact⟨ρ',ds',hf',hq'⟩
  |ret=>exact⟨ρ',ds',hf',hq'⟩
  |panic ch=>exact⟨ρ',ds',hf',hq'⟩
  |outgrown=>exact⟨ρ',ds',hf',hq'⟩)
def least(p:Nat->Prop):∀n,p n->∃m,p m/\∀k,k<m->¬p k:=by
 intro n
 induction n using Nat.strongRecOn with
 |_ n ih =>
  intro h;by_cases hk:∃k,k<n/\p k
  ·obtain⟨k,hkn,hpk⟩:=hk
   exact ih k hkn hpk
  ·exact⟨n,h,λk hkn hpk=>hk ⟨k,hkn,hpk⟩⟩
def gv(all:List Oper)(ρ:yJ)(j:Nat):Option Bool :=
 match (all[j]?).bind (·.dst)with
 |some d=>match ρ d with|.bool b=>some b|_=>none
 |none=>none
def wanted(all:List Oper)(ρ:yJ)(o:Oper):Bool :=
 match o.guard with
 |none=>true
 |some (j,want)=>gv all ρ j==some want
def Frm.yielded{a:Act}(hf:Frm N ds a ρ)(all:List Oper)(j:Nat):Go.yielded all.toArray a.tmps j=gv all ρ j:=by
 unfold Go.yielded gv;simp only[List.getElem?_toArray]
 cases h:(all[j]?).bind (·.dst)with
 |none=>rfl
 |some d =>
  simp only[bsQ];have hg:=hf.get d;rw[Array.getD_eq_getD_getElem?]at hg
  cases hx:a.tmps[d]? with
  |none=>rw[hx]at hg;rw[<- hg];rfl
  |some v=>rw[hx]at hg;rw[<- hg];cases v<;>rfl
def Frm.wanted{a:Act}(hf:Frm N ds a ρ)(all:List Oper)(o:Oper):Region.wanted o (Go.yielded all.toArray a.tmps)=wanted all ρ o:=by
 unfold Region.wanted Eng.wanted
 cases o.guard with
 |none=>rfl
 |some p=>simp only[hf.yielded all]
def Ops(P:Program)(r:Option Nat)(N:Nat)(all:List Oper)(Q:zai)(l:List Oper)(ρ:yJ)(ds:List Deferred)(w:World):Prop :=
 ∀a n,Frm N ds a ρ->wpListIn (Fw r) n P all.toArray (lift N Q) l a w
def zta{id:Nat}{l:List Oper}(h:Ops P r N l Q l ρ ds w):Wp P r N (.region id l.toArray false) Q ρ ds w :=
 λa n hf=>wpIn_region_lit (h a n hf)
def kv:Op->Bool|.defer _=>false|_=>true
def AB{o:Oper}(h:kv o.op=true)(ρ:Operand->Value)(ro:Option Nat):o.semAt ro ρ=execOp ρ o :=
 Oper.semAt_eq ro ρ o (λc hc=>by rw[hc]at h;cases h)
section
variable{all rest:List Oper}{o:Oper}
def zOn(h:Q .normal ρ ds w):Ops P r N all Q [] ρ ds w:=λ_ _ hf=>⟨_,_,hf,h⟩
def zGs(d:Nat)(hd:o.dst=some d)(hN:Nat.ble (d+1) N=true)(hw:wanted all ρ o=false)(h:Ops P r N all Q rest (upd ρ d undef) ds w):Ops P r N all Q (o::rest) ρ ds w:=by
 intro a n hf;have hw':=(hf.wanted all o).trans hw;simp only[wpListIn,hw',Bool.false_eq_true,if_false];exact⟨λ_ _=>trivial,h _ n (by rw[hd];exact hf.put (lb hN) _)⟩
def zzr(hd:o.dst=none)(hw:wanted all ρ o=false)(h:Ops P r N all Q rest ρ ds w):Ops P r N all Q (o::rest) ρ ds w:=by
 intro a n hf;have hw':=(hf.wanted all o).trans hw;simp only[wpListIn,hw',Bool.false_eq_true,if_false];exact⟨λ_ _=>trivial,h _ n (by rw[hd];exact hf.putNone _)⟩
def zOo(d:Nat)(v:Value){w':World}(hd:o.dst=some d)(hN:Nat.ble (d+1) N=true)(hw:wanted all ρ o=true)(hn:kv o.op=true)
  (hr:(execOp (ev ρ) o).run P w=.ok (.value v) w') (h:Ops P r N all Q rest (upd ρ d v) ds w'):Ops P r N all Q (o::rest) ρ ds w:=by
 intro a n hf;have hw':=(hf.wanted all o).trans hw;simp only[wpListIn,hw',if_true];refine⟨λ_ _=>trivial,?_⟩;rw[AB hn,hf.eval,hr,Oper.uponIn_value,hd];exact h _ n (hf.put (lb hN) _)
def zzs(d:Nat){w':World}{f:FuncId}{args:Array Value}{R:Ending->World->Prop}(hd:o.dst=some d)(hN:Nat.ble (d+1) N=true)(hw:wanted all ρ o=true)(hn:kv o.op=true)
  (hr:(execOp (ev ρ) o).run P w=.ok (.enter f args) w') (hc:Calls P f args w' R)
  (h:∀e w'',R e w''->∃v,e=.returned v/\Ops P r N all Q rest (upd ρ d v) ds w''):Ops P r N all Q (o::rest) ρ ds w:=by
 intro a n hf;have hw':=(hf.wanted all o).trans hw;simp only[wpListIn,hw',if_true];refine⟨λ_ _=>trivial,?_⟩;rw[AB hn,hf.eval,hr,Oper.uponIn_enter];refine⟨λhx=>by simp[Fw]at hx,(Hh r hc).mono λe w'' hR=>?_⟩;obtain⟨v,rfl,hk⟩:=h e w'' hR;rw[hd];exact hk _ n (hf.put (lb hN) _)
end
end
def zbq(ops:Array Oper)(listed:Array Bool):Prop :=
 ∀j o,listed.getD j false=true->ops[j]?=some o->∀e∈o.after,Region.binds .any e=true->listed.getD e.on false=true
def zbq.set{ops:Array Oper}{listed:Array Bool}{i:Nat}(h:zbq ops listed)(hr:i∈Region.ready .any ops listed):zbq ops (listed.setIfInBounds i true):=by
 intro j o hj ho e he hb;refine getD_set_true ?_;by_cases hji:i=j
 ·subst hji
  obtain⟨_,o',ho',hall⟩:=mem_ready.1 hr;rw[ho]at ho';cases ho';exact hall e he hb
 ·rw[getD_set_ne false hji]at hj
  exact h j o hj ho e he hb
section
variable{P:Program}{r:Option Nat}{n:Nat}{ops:Array Oper}{jl:Nat}{S T:World->Prop}{Q:Exit->Act->World->Prop}
end
section
variable{P:Program}{r:Option Nat}{N:Nat}{Q:zai}{ρ:yJ}{ds:List Deferred}{w:World}{all:List Oper}{jl:Nat}{S:World->Prop}{K:yJ->List Deferred->World->Prop}
end
section
inductive Own where
 |blk (b:Nat) (cs:List Value) (t:TypeId)
 |row (e k:Nat) (v:Value) (xs:List (List Value))
 |obj (b:Nat) (o:Obj)
 |objs (W:World)
variable{W0 w w':World}{L:List Own}{x x' y:Own}
variable{a b c d e f g i:Own}
end
def zlx:TypeDesc->Bool|.struct _=>false|.array _ _=>false|_=>true
def Scal(P:Program)(t:TypeId):Prop:=∃d i,P.underlying t=some d/\zlx d=true/\P.info? t=some i/\i.size=1
def AggT(P:Program)(t:TypeId)(k:Nat):Prop:=∃d i,P.underlying t=some d/\zlx d=false/\P.info? t=some i/\i.size=k
section
variable{P:Program}{ρ:yJ}{w:World}{dst:Option Tmp}{ty:TypeId}{pos:String}{aft:Array Edge}{gd:Option (Nat×Bool)}
def qH{t:TypeId}(h:Scal P t):(isAgg t).run P w=.ok false w:=by
 obtain⟨d,_,hd,hs,_⟩:=h;unfold isAgg;cases d<;>simp[run_underlying hd,zlx]at hs ⊢
def H5{t k:TypeId}(h:AggT P t k):(isAgg t).run P w=.ok true w:=by
 obtain⟨d,i,hd,hs,_⟩:=h;unfold isAgg;cases d<;>simp[run_underlying hd,zlx]at hs ⊢
def H7{t:TypeId}{x:Operand}{p:Addr}{v:Value}(hs:Scal P t)(ha:ev ρ x=.pointer (some p))(hc:w.cell? p=some v):
  (execOp (ev ρ) ⟨dst,.load t x,ty,pos,aft,gd⟩).run P w=.ok (.value v) w:=by
 simp[execOp,Instr.loadAt,ha,Instr.sureAddr,loadVar,qH hs,load,Sem.run,hc]
def AD{t:TypeId}{x:Operand}{p:Addr}{k:Nat}(cs:List Value)(hs:AggT P t k)(ha:ev ρ x=.pointer (some p))(hl:cs.length=k)
  (hc:∀j u,cs[j]?=some u->w.cell? (p.add j)=some u):
  (execOp (ev ρ) ⟨dst,.load t x,ty,pos,aft,gd⟩).run P w=.ok (.value (.agg cs.toArray)) w:=by
 obtain⟨d,i,hd,_,hi,hk⟩:=id hs;subst hl;simp[execOp,Instr.loadAt,ha,Instr.sureAddr,loadVar,H5 hs,sizeOf,typeInfo,hi,hk,run_loadCells_list w p cs hc]
end
abbrev str(l:ak):Value:=.string ⟨l.toArray⟩
abbrev i64(n:Int):Value:=.int .i64 n
section
variable{P:Program}{ρ:yJ}{w:World}{dst:Option Tmp}{ty:TypeId}{pos:String}{aft:Array Edge}{gd:Option (Nat×Bool)}
def zzt(P:Program)(s f off:Nat):Prop:=∃fs fld i,P.underlying s=some (.struct fs)/\fs[f]?=some fld/\fld.offset=off/\P.info? fld.type=some i/\i.size≠0
def VD{s f off:Nat}{x:Operand}{p:Addr}(hf:zzt P s f off)(ha:ev ρ x=.pointer (some p)):
  (execOp (ev ρ) ⟨dst,.fieldAddr s x f,ty,pos,aft,gd⟩).run P w=.ok (.value (.pointer (some (p.add off)))) w:=by
 obtain⟨fs,fld,i,h1,h2,h3,h4,h5⟩:=hf;subst h3;simp[execOp,Instr.fieldAt,run_underlying h1,h2,ha,Instr.sureAddr,fieldPlace,sizeOf,typeInfo,h4,h5]
def zOp(b o n:Nat):(⟨b,o,none⟩:Addr).add n=⟨b,o+n,none⟩:=Addr.add_lit b o n
def W5{s f off:Nat}{x:Operand}{b o o':Nat}(hf:zzt P s f off)(ho:o+off=o')(ha:ev ρ x=.pointer (some ⟨b,o,none⟩)):
  (execOp (ev ρ) ⟨dst,.fieldAddr s x f,ty,pos,aft,gd⟩).run P w=.ok (.value (.pointer (some ⟨b,o',none⟩))) w:=by
 subst ho;rw[<- zOp];exact VD hf ha
def zqc{t:TypeId}{x:Operand}{s:ak}(ht:P.underlying t=some .string)(ha:ev ρ x=str s):
  (execOp (ev ρ) ⟨dst,.call ⟨.builtin .len,#[x],#[t]⟩,ty,pos,aft,gd⟩).run P w=.ok (.value (i64 s.length)) w:=by
 have hs:(⟨s.toArray⟩:ByteArray).size=s.length:=by show s.toArray.size=_;simp
 simp[execOp,resolve,invoke,builtin,ha,Builtin.len_,run_underlying ht,goInt,hs]
def ze4{t e:TypeId}{x:Operand}{A:Option Addr}{n c:Nat}(ht:P.underlying t=some (.slice e))(ha:ev ρ x=.slice A n c):
  (execOp (ev ρ) ⟨dst,.call ⟨.builtin .len,#[x],#[t]⟩,ty,pos,aft,gd⟩).run P w=.ok (.value (i64 n)) w:=by
 simp[execOp,resolve,invoke,builtin,ha,Builtin.len_,run_underlying ht,goInt]
def zh8{t t':TypeId}{x y:Operand}{a b:Bool}(ht:P.underlying t=some .bool)(ha:ev ρ x=.bool a)(hb:ev ρ y=.bool b):
  (execOp (ev ρ) ⟨dst,.binOp .eql t x y t',ty,pos,aft,gd⟩).run P w=.ok (.value (.bool (a==b))) w:=by
 simp[execOp,ha,hb,run_eql_bool _ _ _ _ ht,eqGuard]
def zh9{t t':TypeId}{x y:Operand}{a b:Bool}(ht:P.underlying t=some .bool)(ha:ev ρ x=.bool a)(hb:ev ρ y=.bool b):
  (execOp (ev ρ) ⟨dst,.binOp .neq t x y t',ty,pos,aft,gd⟩).run P w=.ok (.value (.bool (!(a==b)))) w:=by
 simp[execOp,ha,hb,run_neq_bool _ _ _ _ ht,eqGuard]
end
def zzu{a:Int}(h1:-9223372036854775808<=a)(h2:a<=9223372036854775807):IntKind.i64.wrap a=a:=by
 rw[IntKind.wrap_i64];omega
section
variable{P:Program}{r:Option Nat}{N:Nat}{Q:zai}{ρ:yJ}{ds:List Deferred}{w W0:World}{L:List Own}
variable{all rest:List Oper}{ty:TypeId}{pos:String}{aft:Array Edge}{gd:Option (Nat×Bool)}
def ze (P : Program) (f : FuncId) : Prop := ∃ fn, P.funcs[f]? = some fn /\ (fn.name == "runtime.NumGoroutine") = false /\ fn.body.isNone = false
def ztb{d:Option Tmp}{f:FuncId}{l:List Operand}{ts:Array TypeId}(vs:List Value)(hf:ze P f)(ha:l.map (ev ρ)=vs):
  (execOp (ev ρ) ⟨d,.call ⟨.value (.func f),l.toArray,ts⟩,ty,pos,aft,gd⟩).run P w=.ok (.enter f vs.toArray) w:=by
 obtain⟨fn,h1,h2,h3⟩:=hf;subst ha
 have h2' : ¬ fn.name = "runtime.NumGoroutine" := by simpa using h2
 have h3':¬fn.body=none:=by intro e;rw[e]at h3;cases h3
 simp[execOp,resolve,ev,Deferred.ofValue,invoke,callFunc,program,Sem.run,h1,h2',h3']
def jI(l:List Value):yJ:=λt=>l.getD t undef
section
variable{fn:Func}{φ:Value->World->Prop}
end
end
end Go.Eng
namespace Go.EV
open Go Go.RowKit Go.Eng
structure GVal where
 rep:(Nat->Option (Nat×Nat))->Value->Prop
 mono:∀mk mk' x,(∀L loc,mk L=some loc->mk' L=some loc)->rep mk x->rep mk' x
 one:∀mk x,rep mk x->x.oneCell'=true/\x.cells.toList=[x]
def zLw(sz n:Nat):GVal where
 rep:=λmk x=>∃loc,mk n=some loc/\n<=loc.2/\loc.2<=maxLen/\((n≠0/\x=.slice (some ⟨loc.1,0*sz,none⟩) n (loc.2-0))∨(n=0/\loc.2=0/\x=.slice none 0 0))
 mono:=λmk mk' x hm ⟨loc,h1,h2⟩=>⟨loc,hm n loc h1,h2⟩
 one:=λmk x h=>by
  obtain⟨loc,_,_,_,⟨_,rfl⟩|⟨_,_,rfl⟩⟩:=h<;>exact⟨rfl,rfl⟩
structure PVal where
 rep:(Addr->Option Value)->Value->Prop
 mono:∀Z Z' x,(∀a x,Z a=some x->Z' a=some x)->rep Z x->rep Z' x
 one:∀Z x,rep Z x->x.oneCell'=true/\x.cells.toList=[x]
inductive V where
 |undef
 |no
 |int (k:IntKind) (n:Int)
 |bool (b:Bool)
 |str (l:ak)
 |nilp
 |ptr (k L off:Nat)
 |vp (cs:List V) (off:Nat)
 |nils
 |sl (sz k L o n:Nat)
 |vs (sz:Nat) (els:List (List V))
 |fn (f:Nat) (first caps:List V)
 |nilf
 |agg (cs:List V)
 |tup (xs:List V)
 |nilm
 |mp (k:Nat)
 |nili
 |ifc (t:Nat) (v:V)
 |gv (k:Nat) (R:GVal)
 |pv (R:PVal)
 deriving Inhabited
abbrev M:=Nat->Nat->Option (Nat×Nat)
abbrev ZM:=Addr->Option Value
mutual
def Rep(m:Option M)(Z:ZM):V->Value->Prop
 |.undef,_=>True
 |.no,x=>x=Go.undef
 |.int k n,x=>x=.int k n
 |.bool b,x=>x=.bool b
 |.str l,x=>x=.string ⟨l.toArray⟩
 |.nilp,x=>x=.pointer none
 |.ptr k L off,x=>∃f loc,m=some f/\f k L=some loc/\x=.pointer (some ⟨loc.1,off,none⟩)
 |.vp cs off,x=>∃a:Addr,x=.pointer (some (a.add off))/\A5 Z a 0 cs
 |.nils,x=>x=.slice none 0 0
 |.sl sz k L o n,x=>∃f loc,m=some f/\f k L=some loc/\o+n<=loc.2/\loc.2<=maxLen/\(x=.slice (some ⟨loc.1,o*sz,none⟩) n (loc.2-o)∨(loc.2=0/\∃A,x=.slice A 0 0)∨(0<o/\n=0/\∃A c,x=.slice A 0 c/\c<=maxLen))
 |.vs sz els,x=>∃A c,x=.slice A els.length c/\els.length<=c/\c<=maxLen/\(els=[]∨∃a,A=some a/\wK Z a sz 0 els)
 |.fn f first caps,x=>∃l1 l2:List Value,x=.func (.func f) l1.toArray l2.toArray/\zW m Z first l1/\zW m Z caps l2
 |.nilf,x=>x=.nilFunc
 |.agg cs,x=>∃l:List Value,x=.agg l.toArray/\zW m Z cs l
 |.tup xs,x=>∃l:List Value,x=.tuple l.toArray/\zW m Z xs l
 |.nilm,x=>x=.map none
 |.mp k,x=>∃f loc,m=some f/\f k 0=some loc/\x=.map (some loc.1)
 |.nili,x=>x=.nilIface
 |.ifc t v,x=>∃y,x=.iface t y/\Rep m Z v y
 |.gv k R,x=>∃f,m=some f/\R.rep (f k) x
 |.pv R,x=>R.rep Z x
def zW(m:Option M)(Z:ZM):List V->List Value->Prop
 |[],l=>l=[]
 |v::vs,l=>∃x xs,l=x::xs/\Rep m Z v x/\zW m Z vs xs
/-- The cells at a, from number j on, read asZ these. -/
def A5(Z:ZM)(a:Addr):Nat->List V->Prop
 |_,[]=>True
 |j,v::vs=>(∃x,Z (a.add j)=some x/\Rep none Z v x)/\A5 Z a (j+1) vs
def wK(Z:ZM)(a:Addr)(sz:Nat):Nat->List (List V)->Prop
 |_,[]=>True
 |i,cs::r=>(cs.length=sz/\A5 Z (a.add (i*sz)) 0 cs)/\wK Z a sz (i+1) r
end
mutual
/-- The names that a value holds. -/
def V.refs:V->List Nat
 |.ptr k _ _=>[k]
 |.sl _ k _ _ _=>[k]
 |.mp k=>[k]
 |.fn _ first caps=>wG first++wG caps
 |.agg cs=>wG cs
 |.tup xs=>wG xs
 |.ifc _ v=>v.refs
 |.gv k _=>[k]
 |_=>[]
def wG:List V->List Nat
 |[]=>[]
 |v::vs=>v.refs++wG vs
end
mutual
def V.ren(f:Nat->Nat):V->V
 |.ptr k L off=>.ptr (f k) L off
 |.sl sz k L o n=>.sl sz (f k) L o n
 |.mp k=>.mp (f k)
 |.fn g first caps=>.fn g (ze5 f first) (ze5 f caps)
 |.agg cs=>.agg (ze5 f cs)
 |.tup xs=>.tup (ze5 f xs)
 |.ifc t v=>.ifc t (v.ren f)
 |.gv k R=>.gv (f k) R
 |v=>v
def ze5(f:Nat->Nat):List V->List V
 |[]=>[]
 |v::vs=>v.ren f::ze5 f vs
end
section
variable{m m':Option M}{Z Z':ZM}
mutual
def Rep.up'(hZ:∀a x,Z a=some x->Z' a=some x):
  ∀(v:V)(m m':Option M)(_:∀f,m=some f->∃f',m'=some f'/\∀k L loc,f k L=some loc->f' k L=some loc)(x:Value),Rep m Z v x->Rep m' Z' v x
 |.undef,m,m',hm,x,h=>trivial
 |.no,m,m',hm,x,h=>h
 |.int k n,m,m',hm,x,h=>h
 |.bool b,m,m',hm,x,h=>h
 |.str l,m,m',hm,x,h=>h
 |.nilp,m,m',hm,x,h=>h
 |.ptr k L off,m,m',hm,x,h=>by
  obtain⟨f,loc,h1,h2,h3⟩:=h;obtain⟨f',h4,h5⟩:=hm f h1;exact⟨f',loc,h4,h5 _ _ _ h2,h3⟩
 |.vp cs off,m,m',hm,x,h=>by
  obtain⟨a,h1,h2⟩:=h;exact⟨a,h1,A5.up' hZ a cs 0 h2⟩
 |.nils,m,m',hm,x,h=>h
 |.sl sz k L o n,m,m',hm,x,h=>by
  obtain⟨f,loc,h1,h2,h3⟩:=h;obtain⟨f',h4,h5⟩:=hm f h1;exact⟨f',loc,h4,h5 _ _ _ h2,h3⟩
 |.vs sz els,m,m',hm,x,h=>by
  obtain⟨A,c,h1,h2,h3,h4⟩:=h;refine⟨A,c,h1,h2,h3,?_⟩
  rcases h4 with h4|⟨a,h4,h5⟩
  ·exact .inl h4
  ·exact .inr ⟨a,h4,wK.up' hZ a sz els 0 h5⟩
 |.fn f first caps,m,m',hm,x,h=>by
  obtain⟨l1,l2,h1,h2,h3⟩:=h;exact⟨l1,l2,h1,zW.up' hZ first m m' hm l1 h2,zW.up' hZ caps m m' hm l2 h3⟩
 |.nilf,m,m',hm,x,h=>h
 |.agg cs,m,m',hm,x,h=>by
  obtain⟨l,h1,h2⟩:=h;exact⟨l,h1,zW.up' hZ cs m m' hm l h2⟩
 |.tup xs,m,m',hm,x,h=>by
  obtain⟨l,h1,h2⟩:=h;exact⟨l,h1,zW.up' hZ xs m m' hm l h2⟩
 |.nilm,m,m',hm,x,h=>h
 |.mp k,m,m',hm,x,h=>by
  obtain⟨f,loc,h1,h2,h3⟩:=h;obtain⟨f',h4,h5⟩:=hm f h1;exact⟨f',loc,h4,h5 _ _ _ h2,h3⟩
 |.nili,m,m',hm,x,h=>h
 |.ifc t v,m,m',hm,x,h=>by
  obtain⟨y,h1,h2⟩:=h;exact⟨y,h1,Rep.up' hZ v m m' hm y h2⟩
 |.gv k R,m,m',hm,x,h=>by
  obtain⟨f,h1,h2⟩:=h;obtain⟨f',h4,h5⟩:=hm f h1;exact⟨f',h4,R.mono _ _ _ (h5 k) h2⟩
 |.pv R,m,m',hm,x,h=>R.mono _ _ _ hZ h
def zW.up'(hZ:∀a x,Z a=some x->Z' a=some x):
  ∀(vs:List V)(m m':Option M)(_:∀f,m=some f->∃f',m'=some f'/\∀k L loc,f k L=some loc->f' k L=some loc)(l:List Value),zW m Z vs l->zW m' Z' vs l
 |[],m,m',hm,l,h=>h
 |v::vs,m,m',hm,l,h=>by
  obtain⟨x,xs,h1,h2,h3⟩:=h;exact⟨x,xs,h1,Rep.up' hZ v m m' hm x h2,zW.up' hZ vs m m' hm xs h3⟩
def A5.up'(hZ:∀a x,Z a=some x->Z' a=some x)(a:Addr):∀(vs:List V)(j:Nat),A5 Z a j vs->A5 Z' a j vs
 |[],_,_=>trivial
 |v::vs,j,h=>by
  obtain⟨⟨x,h1,h2⟩,h3⟩:=h;exact⟨⟨x,hZ _ _ h1,Rep.up' hZ v none none (λf hf=>by cases hf) x h2⟩,A5.up' hZ a vs (j+1) h3⟩
def wK.up'(hZ:∀a x,Z a=some x->Z' a=some x)(a:Addr)(sz:Nat):∀(els:List (List V))(i:Nat),wK Z a sz i els->wK Z' a sz i els
 |[],_,_=>trivial
 |cs::r,i,h=>by
  obtain⟨⟨h1,h2⟩,h3⟩:=h;exact⟨⟨h1,A5.up' hZ _ cs 0 h2⟩,wK.up' hZ a sz r (i+1) h3⟩
end
def Rep.up{v:V}{x:Value}(hZ:∀a x,Z a=some x->Z' a=some x)(hm:∀f,m=some f->∃f',m'=some f'/\∀k L loc,f k L=some loc->f' k L=some loc)(h:Rep m Z v x):Rep m' Z' v x:=Rep.up' hZ v m m' hm x h
def zW.up{v:List V}{x:List Value}(hZ:∀a x,Z a=some x->Z' a=some x)(hm:∀f,m=some f->∃f',m'=some f'/\∀k L loc,f k L=some loc->f' k L=some loc)(h:zW m Z v x):zW m' Z' v x:=zW.up' hZ v m m' hm x h
mutual
/-- The names are moved. -/
def Rep.ren{f f':M}(σ:Nat->Nat):∀(v:V)(x:Value),(∀k∈v.refs,∀L loc,f k L=some loc->f' (σ k) L=some loc)->Rep (some f) Z v x->Rep (some f') Z (v.ren σ) x
 |.undef,x,_,h=>trivial
 |.no,x,_,h=>h
 |.int k n,x,_,h=>h
 |.bool b,x,_,h=>h
 |.str l,x,_,h=>h
 |.nilp,x,_,h=>h
 |.ptr k L off,x,hm,h=>by
  obtain⟨g,loc,h1,h2,h3⟩:=h;cases h1;exact⟨f',loc,rfl,hm k (by simp[V.refs]) _ _ h2,h3⟩
 |.vp cs off,x,_,h=>h
 |.nils,x,_,h=>h
 |.sl sz k L o n,x,hm,h=>by
  obtain⟨g,loc,h1,h2,h3⟩:=h;cases h1;exact⟨f',loc,rfl,hm k (by simp[V.refs]) _ _ h2,h3⟩
 |.vs sz els,x,_,h=>h
 |.fn g first caps,x,hm,h=>by
  obtain⟨l1,l2,h1,h2,h3⟩:=h;exact⟨l1,l2,h1,zW.ren σ first l1 (λk hk=>hm k (by simp[V.refs,hk])) h2,zW.ren σ caps l2 (λk hk=>hm k (by simp[V.refs,hk])) h3⟩
 |.nilf,x,_,h=>h
 |.agg cs,x,hm,h=>by
  obtain⟨l,h1,h2⟩:=h;exact⟨l,h1,zW.ren σ cs l (λk hk=>hm k (by simpa[V.refs]using hk)) h2⟩
 |.tup xs,x,hm,h=>by
  obtain⟨l,h1,h2⟩:=h;exact⟨l,h1,zW.ren σ xs l (λk hk=>hm k (by simpa[V.refs]using hk)) h2⟩
 |.nilm,x,_,h=>h
 |.mp k,x,hm,h=>by
  obtain⟨g,loc,h1,h2,h3⟩:=h;cases h1;exact⟨f',loc,rfl,hm k (by simp[V.refs]) _ _ h2,h3⟩
 |.nili,x,_,h=>h
 |.ifc t v,x,hm,h=>by
  obtain⟨y,h1,h2⟩:=h;exact⟨y,h1,Rep.ren σ v y (λk hk=>hm k (by simpa[V.refs]using hk)) h2⟩
 |.gv k R,x,hm,h=>by
  obtain⟨g,h1,h2⟩:=h;cases h1;exact⟨f',rfl,R.mono _ _ _ (hm k (by simp[V.refs])) h2⟩
 |.pv R,x,hm,h=>h
def zW.ren{f f':M}(σ:Nat->Nat):∀(vs:List V)(l:List Value),(∀k∈wG vs,∀L loc,f k L=some loc->f' (σ k) L=some loc)->zW (some f) Z vs l->zW (some f') Z (ze5 σ vs) l
 |[],l,_,h=>h
 |v::vs,l,hm,h=>by
  obtain⟨x,xs,h1,h2,h3⟩:=h;exact⟨x,xs,h1,Rep.ren σ v x (λk hk=>hm k (by simp[wG,hk])) h2,zW.ren σ vs xs (λk hk=>hm k (by simp[wG,hk])) h3⟩
end
mutual
def V.ren_id:∀v:V,v.ren id=v
 |.undef|.no|.int ..|.bool ..|.str ..|.nilp|.ptr ..|.vp ..|.nils|.sl ..|.vs ..|.nilf|.nilm|.mp ..|.nili|.gv ..|.pv ..=>rfl
 |.fn g first caps=>by simp only[V.ren,W6 first,W6 caps]
 |.agg cs=>by simp only[V.ren,W6 cs]
 |.tup xs=>by simp only[V.ren,W6 xs]
 |.ifc t v=>by simp only[V.ren,V.ren_id v]
def W6:∀vs:List V,ze5 id vs=vs
 |[]=>rfl
 |v::vs=>by simp only[ze5,V.ren_id v,W6 vs]
end
def Rep.swap{f f':M}{v:V}{x:Value}(hm:∀k∈v.refs,∀L loc,f k L=some loc->f' k L=some loc)(h:Rep (some f) Z v x):Rep (some f') Z v x:=by
 have:=Rep.ren (f:=f) (f':=f') id v x hm h
 rwa [V.ren_id]at this
def zW.swap{f f':M}{vs:List V}{l:List Value}(hm:∀k∈wG vs,∀L loc,f k L=some loc->f' k L=some loc)(h:zW (some f) Z vs l):zW (some f') Z vs l:=by
 have:=zW.ren (f:=f) (f':=f') id vs l hm h
 rwa [W6]at this
def Rep.none_some{v:V}{x:Value}(h:Rep none Z v x):Rep m Z v x:=Rep.up (λ_ _ h=>h) (λf hf=>by cases hf) h
def zW.none_some{vs:List V}{l:List Value}(h:zW none Z vs l):zW m Z vs l:=zW.up (λ_ _ h=>h) (λf hf=>by cases hf) h
def zW.length:∀{vs:List V}{l:List Value},zW m Z vs l->l.length=vs.length
 |[],l,h=>by cases h;rfl
 |v::vs,l,h=>by
  obtain⟨x,xs,rfl,_,h3⟩:=h;simp[zW.length h3]
def zW.get:∀{vs:List V}{l:List Value},zW m Z vs l->∀{i:Nat}{v:V},vs[i]?=some v->∃x,l[i]?=some x/\Rep m Z v x
 |[],l,_,i,v,hv=>by simp at hv
 |u::vs,l,h,i,v,hv=>by
  obtain⟨x,xs,rfl,h2,h3⟩:=h
  cases i with
  |zero=>simp at hv;subst hv;exact⟨x,rfl,h2⟩
  |succ i=>exact zW.get h3 (i:=i) (by simpa using hv)
def zW.of_get:∀{vs:List V}{l:List Value},l.length=vs.length->(∀(i:Nat)(v:V)(x:Value),vs[i]?=some v->l[i]?=some x->Rep m Z v x)->zW m Z vs l
 |[],l,hl,_=>List.eq_nil_of_length_eq_zero (by simpa using hl)
 |v::vs,[],hl,_=>by simp at hl
 |v::vs,x::xs,hl,h=>⟨x,xs,rfl,h 0 v x rfl rfl,zW.of_get (by simpa using hl) (λi u y hu hy=>h (i+1) u y (by simpa using hu) (by simpa using hy))⟩
def zW.append:∀{vs us:List V}{l k:List Value},zW m Z vs l->zW m Z us k->zW m Z (vs++us) (l++k)
 |[],us,l,k,h,h'=>by cases h;exact h'
 |v::vs,us,l,k,h,h'=>by
  obtain⟨x,xs,rfl,h2,h3⟩:=h;exact⟨x,xs++k,rfl,h2,zW.append h3 h'⟩
def zW.take{vs:List V}{l:List Value}(n:Nat)(h:zW m Z vs l):zW m Z (vs.take n) (l.take n):=by
 refine zW.of_get (by simp[h.length]) λi v x hv hx=>?_
 rw[List.getElem?_take]at hv hx;split at hv
 ·rename_i hlt
  rw[if_pos hlt]at hx;obtain⟨y,hy,hr⟩:=h.get hv;rw[hx]at hy;cases hy;exact hr
 ·cases hv
def zW.drop{vs:List V}{l:List Value}(n:Nat)(h:zW m Z vs l):zW m Z (vs.drop n) (l.drop n):=by
 refine zW.of_get (by simp[h.length]) λi v x hv hx=>?_
 rw[List.getElem?_drop]at hv hx;obtain⟨y,hy,hr⟩:=h.get hv;rw[hx]at hy;cases hy;exact hr
def A5.get{a:Addr}:∀{vs:List V}{j:Nat},A5 Z a j vs->∀{i:Nat}{v:V},vs[i]?=some v->∃x,Z (a.add (j+i))=some x/\Rep none Z v x
 |[],j,_,i,v,hv=>by simp at hv
 |u::vs,j,h,i,v,hv=>by
  obtain⟨⟨x,h1,h2⟩,h3⟩:=h
  cases i with
  |zero=>simp at hv;subst hv;exact⟨x,h1,h2⟩
  |succ i =>
   obtain⟨y,h4,h5⟩:=A5.get h3 (i:=i) (v:=v) (by simpa using hv);exact⟨y,by rw[<- h4];congr 2;omega,h5⟩
def A5.of_get{a:Addr}:∀{vs:List V}{j:Nat},(∀(i:Nat)(v:V),vs[i]?=some v->∃x,Z (a.add (j+i))=some x/\Rep none Z v x)->A5 Z a j vs
 |[],j,_=>trivial
 |u::vs,j,h=>⟨h 0 u rfl,A5.of_get λi v hv=>by
   obtain⟨x,h1,h2⟩:=h (i+1) v (by simpa using hv)
   exact⟨x,by rw[<- h1];congr 2;omega,h2⟩⟩
def wK.get{a:Addr}{sz:Nat}:∀{els:List (List V)}{j:Nat},wK Z a sz j els->∀{i:Nat}{cs:List V},els[i]?=some cs->cs.length=sz/\A5 Z (a.add ((j+i)*sz)) 0 cs
 |[],j,_,i,v,hv=>by simp at hv
 |u::vs,j,h,i,v,hv=>by
  obtain⟨⟨h1,h2⟩,h3⟩:=h
  cases i with
  |zero=>simp at hv;subst hv;exact⟨h1,h2⟩
  |succ i =>
   have:=wK.get h3 (i:=i) (cs:=v) (by simpa using hv);rw[show j+1+i=j+(i+1) by omega]at this;exact this
def wK.of_get{a:Addr}{sz:Nat}:∀{els:List (List V)}{j:Nat},(∀(i:Nat)(cs:List V),els[i]?=some cs->cs.length=sz/\A5 Z (a.add ((j+i)*sz)) 0 cs)->wK Z a sz j els
 |[],j,_=>trivial
 |u::vs,j,h=>⟨h 0 u rfl,wK.of_get λi v hv=>by
   have:=h (i+1) v (by simpa using hv);rw[show j+(i+1)=j+1+i by omega]at this
   exact this⟩
end
mutual
/-- What holds no name needs no map. -/
def Rep.flat{f:M}{Z:ZM}:∀(v:V)(x:Value),v.refs=[]->Rep (some f) Z v x->Rep none Z v x
 |.undef,x,_,h=>trivial
 |.no,x,_,h=>h
 |.int k n,x,_,h=>h
 |.bool b,x,_,h=>h
 |.str l,x,_,h=>h
 |.nilp,x,_,h=>h
 |.ptr k L off,x,hr,h=>by cases hr
 |.vp cs off,x,_,h=>h
 |.nils,x,_,h=>h
 |.sl sz k L o n,x,hr,h=>by cases hr
 |.vs sz els,x,_,h=>h
 |.fn g first caps,x,hr,h=>by
  obtain⟨l1,l2,h1,h2,h3⟩:=h;obtain⟨hr1,hr2⟩:=List.append_eq_nil_iff.1 hr;exact⟨l1,l2,h1,zW.flat first l1 hr1 h2,zW.flat caps l2 hr2 h3⟩
 |.nilf,x,_,h=>h
 |.agg cs,x,hr,h=>by
  obtain⟨l,h1,h2⟩:=h;exact⟨l,h1,zW.flat cs l hr h2⟩
 |.tup xs,x,hr,h=>by
  obtain⟨l,h1,h2⟩:=h;exact⟨l,h1,zW.flat xs l hr h2⟩
 |.nilm,x,_,h=>h
 |.mp k,x,hr,h=>by cases hr
 |.nili,x,_,h=>h
 |.ifc t v,x,hr,h=>by
  obtain⟨y,h1,h2⟩:=h;exact⟨y,h1,Rep.flat v y hr h2⟩
 |.gv k R,x,hr,h=>by cases hr
 |.pv R,x,hr,h=>h
def zW.flat{f:M}{Z:ZM}:∀(vs:List V)(l:List Value),wG vs=[]->zW (some f) Z vs l->zW none Z vs l
 |[],l,_,h=>h
 |v::vs,l,hr,h=>by
  obtain⟨x,xs,h1,h2,h3⟩:=h;obtain⟨hr1,hr2⟩:=List.append_eq_nil_iff.1 hr;exact⟨x,xs,h1,Rep.flat v x hr1 h2,zW.flat vs xs hr2 h3⟩
end
def V.one:V->Bool
 |.undef|.no|.agg _|.tup _=>false
 |_=>true
def Rep.one{m:Option M}{Z:ZM}{v:V}{x:Value}(h:Rep m Z v x)(h1:v.one=true):x.oneCell'=true:=by
 cases v<;>simp only[V.one,Bool.false_eq_true]at h1<;>simp only[Rep]at h
 case int=>subst h;rfl
 case bool=>subst h;rfl
 case str=>subst h;rfl
 case nilp=>subst h;rfl
 case ptr=>obtain⟨_,_,_,_,rfl⟩:=h;rfl
 case vp=>obtain⟨_,rfl,_⟩:=h;rfl
 case nils=>subst h;rfl
 case sl=>obtain⟨_,_,_,_,_,_,rfl|⟨_,_,rfl⟩|⟨_,_,_,_,rfl,_⟩⟩:=h<;>rfl
 case vs=>obtain⟨_,_,rfl,_⟩:=h;rfl
 case fn=>obtain⟨_,_,rfl,_⟩:=h;rfl
 case nilf=>subst h;rfl
 case nilm=>subst h;rfl
 case mp=>obtain⟨_,_,_,_,rfl⟩:=h;rfl
 case nili=>subst h;rfl
 case ifc=>obtain⟨_,rfl,_⟩:=h;rfl
 case gv k R=>obtain⟨_,_,h⟩:=h;first|exact(R.one _ _ h).1|exact(R.one _ _ h).2
 case pv R=>first|exact(R.one _ _ h).1|exact(R.one _ _ h).2
def V.cells:V->List V
 |.agg cs=>cs
 |v=>[v]
def V.plain:V->Bool
 |.undef|.no=>false
 |_=>true
def Rep.cells{m:Option M}{Z:ZM}{v:V}{x:Value}(h:Rep m Z v x)(hp:v.plain=true):zW m Z v.cells x.cells.toList:=by
 cases v<;>simp only[V.plain,Bool.false_eq_true]at hp<;>simp only[V.cells]
 case agg=>obtain⟨l,rfl,h2⟩:=h;simpa[Value.cells]using h2
 case tup=>obtain⟨l,rfl,h2⟩:=id h;exact⟨_,[],rfl,h,rfl⟩
 all_goals
  refine⟨x,[],?_,h,rfl⟩;simp only[Rep]at h
 case int=>subst h;rfl
 case bool=>subst h;rfl
 case str=>subst h;rfl
 case nilp=>subst h;rfl
 case ptr=>obtain⟨_,_,_,_,rfl⟩:=h;rfl
 case vp=>obtain⟨_,rfl,_⟩:=h;rfl
 case nils=>subst h;rfl
 case sl=>obtain⟨_,_,_,_,_,_,rfl|⟨_,_,rfl⟩|⟨_,_,_,_,rfl,_⟩⟩:=h<;>rfl
 case vs=>obtain⟨_,_,rfl,_⟩:=h;rfl
 case fn=>obtain⟨_,_,rfl,_⟩:=h;rfl
 case nilf=>subst h;rfl
 case nilm=>subst h;rfl
 case mp=>obtain⟨_,_,_,_,rfl⟩:=h;rfl
 case nili=>subst h;rfl
 case ifc=>obtain⟨_,rfl,_⟩:=h;rfl
 case gv k R=>obtain⟨_,_,h⟩:=h;first|exact(R.one _ _ h).1|exact(R.one _ _ h).2
 case pv R=>first|exact(R.one _ _ h).1|exact(R.one _ _ h).2
end Go.EV
namespace Go.Eng
open Go Go.RowKit
section
variable{P:Program}{r:Option Nat}{N:Nat}{Q:zai}{ρ:yJ}{ds:List Deferred}{w W0:World}{L:List Own}
variable{all rest:List Oper}{jl:Nat}{S:World->Prop}{K:yJ->List Deferred->World->Prop}
variable{dst:Option Tmp}{ty:TypeId}{pos:String}{aft:Array Edge}{gd:Option (Nat×Bool)}
section
variable{α:Type}{enc:α->List Value}{k:Nat}{v:Value}{l:List α}
end
def zzv (P : Program) (f : FuncId) : Bool := match P.funcs[f]? with | some fn => !(fn.name == "runtime.NumGoroutine") && !fn.body.isNone | none => false
def zi{f:FuncId}(h:zzv P f=true):ze P f:=by
 unfold zzv at h;split at h
 ·rename_i fn hf
  simp only[bn,Bool.not_eq_true']at h;exact⟨fn,hf,h.1,h.2⟩
 ·cases h
end
section
variable{P:Program}{r:Option Nat}{N:Nat}{Q:zai}{ρ:yJ}{ds:List Deferred}{w W0:World}{L:List Own}
variable{all rest:List Oper}{ty:TypeId}{pos:String}{aft:Array Edge}{gd:Option (Nat×Bool)}
end
def QF(W:World)(l:Nat)(o:Obj):W.grownBy (W.putObj l o) (some l) :=
 ⟨rfl,rfl,rfl,af,λ_ _ hk=>World.putObj_heap_other (λe=>hk (by rw[e]))⟩
def mark(D:Nat):Deferred:={ target:=.collected D,args:=#[] }
section
variable{P:Program}{N:Nat}{Q:zai}{ρ:yJ}{ds:List Deferred}{w:World}
end
def zzw:List Deferred->World->World->Prop
 |[],w,w'=>w'=w
 |d::ds,w,w'=>∃D,d=mark D/\w.heap[D]?=some (.deferred (some []))/\zzw ds (w.putObj D (.deferred none)) w'
section
variable{P:Program}{N:Nat}{Q:zai}{ρ:yJ}{ds:List Deferred}{w W0:World}{L:List Own}
def oJ{fn:Func}{tmps:Array Value}{R:Ending->World->Prop}{v:Value}:∀(ds:List Deferred)(w w':World),zzw ds w w'->(results fn tmps).run P w'=.ok v w'->R (.returned v) w'->LeavesInM Fence.wide 0 P fn tmps R ds .returning w
 |[],w,w',ht,hr,hR=>by
  subst ht;exact⟨v,hr,hR⟩
 |d::ds,w,w',⟨D,hd,hh,ht⟩,hr,hR=>by
  subst hd;exact⟨af,.inl ⟨D,_,rfl,run_takeDeferred hh,oJ ds _ w' ht hr hR⟩⟩
variable{r:Option Nat}{all rest:List Oper}{ty:TypeId}{pos:String}{aft:Array Edge}{gd:Option (Nat×Bool)}
end
end Go.Eng
namespace Go.EV
open Go Go.RowKit Go.Eng
def zUb:Go.Obj->Bool|.loop _|.deferred _=>true|_=>false
structure zZp where
 holds:(Nat->Option (Nat×Nat))->ZM->World->Prop
 blks:(Nat->Option (Nat×Nat))->Nat->Prop
 some_:∀mk b,blks mk b->∃j c,mk j=some (b,c)/\c≠0
 own:∀mk Z w b,holds mk Z w->blks mk b->∃ob,w.heap[b]?=some ob/\zUb ob=false
 keep:∀mk Z Z' w w',holds mk Z w->(∀a x,Z a=some x->Z' a=some x)->(∀b,blks mk b->w'.heap[b]?=w.heap[b]?/\∀a x,Z' a=some x->a.block=b->Z a=some x)->holds mk Z' w'
inductive Obj where
 |box (t:TypeId) (cs:List V)
 |row (t:TypeId) (sz fz:Nat) (els:List (List V))
 |map (l:List (V×V))
 |glob (g:Nat) (ob:Go.Obj) (cs:List V)
 |nest (t e sz:Nat) (pd:Option Nat) (ls:List (List (List V)))
 |gen (G:zZp)
 deriving Inhabited
def code(i n:Nat):Nat:=2 ^ i*(2*n+1)
def Obj.ver:Obj->Nat|.row _ _ _ els=>els.length|_=>0
abbrev Heap:=List (Nat×Obj)
def keys(H:Heap):List Nat:=H.map (·.1)
def u9(m:M)(p:Nat×Obj):Option Nat:=(m p.1 p.2.ver).bind λloc=>if loc.2=0 then none else some loc.1
def blkN(mk:Nat->Option (Nat×Nat))(ls:List (List (List V)))(b:Nat):Prop:=∃j c,mk j=some (b,c)/\c≠0/\(j=0∨∃i l,ls[i]?=some l/\j=code i l.length)
def blk(m:M)(p:Nat×Obj)(b:Nat):Prop:=match p.2 with
 |.nest _ _ _ _ ls=>blkN (m p.1) ls b
 |.gen G=>G.blks (m p.1) b
 |_=>u9 m p=some b
def zly{m m':M}{p:Nat×Obj}(h:m' p.1=m p.1):blk m' p=blk m p:=by
 obtain⟨k,o⟩:=p;simp only at h
 funext b
 cases o<;>simp only[blk,u9,h]
def zGt{m:M}{p:Nat×Obj}{b:Nat}(h:blk m p b):∃j c,m p.1 j=some (b,c)/\c≠0:=by
 obtain⟨k,o⟩:=p
 have one:u9 m (k,o)=some b->∃j c,m k j=some (b,c)/\c≠0:=λh=>by
  unfold u9 at h;obtain⟨loc,e1,e2⟩:=Option.bind_eq_some_iff.1 h;split at e2
  ·cases e2
  ·rename_i hc;cases e2;exact⟨_,loc.2,e1,hc⟩
 cases o with
 |nest t e sz pd ls=>obtain⟨j,c,e1,e2,_⟩:=h;exact⟨j,c,e1,e2⟩
 |gen G=>exact G.some_ _ _ h
 |box t cs=>exact one h
 |row t sz fz els=>exact one h
 |map l=>exact one h
 |glob g ob cs=>exact one h
def Heap.get:Heap->Nat->Option Obj
 |[],_=>none
 |(k,o)::r,j=>bif Nat.beq j k then some o else Heap.get r j
def zwu(Z:ZM):List (V×V)->List MapEntry->Prop
 |[],l=>l=[]
 |(k,v)::r,l=>∃e es,l=e::es/\Rep none Z k e.key/\Rep none Z v e.val/\zwu Z r es
def zUc(mk:Nat->Option (Nat×Nat))(Z:ZM)(w:World)(e sz i:Nat)(l:List (List V))(h:Option Value):Prop :=
 (l=[]/\h=some (.slice none 0 0)/\mk (code i 0)=none)∨∃(b cap:Nat)(cur:Array Value)(fr:Nat×Nat),h=some (.slice (some ⟨b,0,none⟩) l.length cap)/\mk (code i l.length)=some (b,cap)/\0<l.length/\w.heap[b]?=some (.cells cur e fr)/\fr.2=0/\l.length<=cap/\cap<=maxLen /\
  cur.size=cap*sz/\zW none Z l.flatten (cur.toList.take (l.length*sz))/\(∀x∈l,x.length=sz)/\∀a x,Z a=some x->a.block≠b
def uA(mk:Nat->Option (Nat×Nat))(Z:ZM)(w:World)(t e sz:Nat)(pd:Option Nat)(ls:List (List (List V))):Prop :=
 (ls=[]/\pd=some 0/\∀b c,mk 0=some (b,c)->c≠0->∃cur u fr,w.heap[b]?=some (.cells cur u fr))∨0<sz/\((ls=[]/\(∃b,mk 0=some (b,0))/\∀L loc,mk L=some loc->L=0)∨∃(b cap:Nat)(cur:Array Value)(fr:Nat×Nat),mk 0=some (b,cap)/\0<cap/\w.heap[b]?=some (.cells cur t fr)/\fr.2=0/\cur.size=cap/\ls.length=cap/\cap<=maxLen/\(∀a x,Z a=some x->a.block≠b) /\
  (∀i l,ls[i]?=some l->∃h,zUc mk Z w e sz i l (some h)/\(pd≠some i->cur[i]?=some h)) /\
  (∀j1 j2 c1 c2 g,mk j1=some (g,c1)->mk j2=some (g,c2)->(j1=0∨∃i l,ls[i]?=some l/\j1=code i l.length)->(j2=0∨∃i l,ls[i]?=some l/\j2=code i l.length)->c1≠0->c2≠0->j1=j2) /\
  ∀L loc,mk L=some loc->L=0∨∃i n l,ls[i]?=some l/\n<=l.length/\L=code i n)
def Holds(m:M)(Z:ZM)(w:World)(k:Nat):Obj->Prop
 |.box t cs=>∃(b:Nat)(cur:Array Value),m k 0=some (b,1)/\w.heap[b]?=some (.cells cur t (0,0))/\zW (some m) Z cs cur.toList/\(∀a x,Z a=some x->a.block≠b)/\(∀L loc,m k L=some loc->L<=0)
 |.row t sz fz els=>(0<sz/\els=[]/\fz=0/\(∃b,m k 0=some (b,0))/\(∀L loc,m k L=some loc->L<=0))∨∃(b cap:Nat)(cur:Array Value)(fr:Nat×Nat),m k els.length=some (b,cap)/\0<cap/\w.heap[b]?=some (.cells cur t fr)/\els.length<=cap/\cap<=maxLen/\cur.size=cap*sz/\0<sz /\
   zW none Z els.flatten (cur.toList.take (els.length*sz))/\(∀e∈els,e.length=sz)/\fr.2<=fz*sz/\fz<=els.length/\(∀a x,Z a=some x->a.block=b->a.off<fz*sz)/\(∀L loc,m k L=some loc->L<=els.length)/\(∀(off:Nat)(x:Value),off<fz*sz->cur[off]?=some x->Z ⟨b,off,none⟩=some x)
 |.map l=>∃(b:Nat)(es:Array MapEntry)(clock:Nat),m k 0=some (b,1)/\w.heap[b]?=some (.map es clock)/\zwu Z l es.toList/\(es.toList.Pairwise λx y=>x.born<y.born)/\(∀e∈es.toList,e.born<clock)/\(∀a x,Z a=some x->a.block≠b)/\(∃L0,∀L loc,m k L=some loc->L<=L0)
 |.glob g ob cs=>m k 0=some (g,1)/\(w.heap[g]?=some ob/\∃cur u fr,ob=.cells cur u fr/\zW none Z cs cur.toList)/\∀L loc,m k L=some loc->L<=0
 |.nest t e sz pd ls=>uA (m k) Z w t e sz pd ls
 |.gen G=>G.holds (m k) Z w
def uA.own{mk:Nat->Option (Nat×Nat)}{Z:ZM}{w:World}{t e sz:Nat}{pd:Option Nat}{ls:List (List (List V))}(h:uA mk Z w t e sz pd ls){b:Nat}(hb:blkN mk ls b):∃cur u fr,w.heap[b]?=some (.cells cur u fr):=by
 obtain⟨rfl,_,hd⟩|⟨_,⟨rfl,⟨b0,h1⟩,_⟩|⟨b0,cap,cur,fr,h1,h2,h3,_,_,_,_,_,h9,_⟩⟩:=h
 ·obtain⟨j,c,e1,e2,rfl|⟨i,l,e3,rfl⟩⟩:=hb
  ·exact hd b c e1 e2
  ·simp at e3
 ·obtain⟨j,c,e1,e2,rfl|⟨i,l,e3,rfl⟩⟩:=hb
  ·rw[h1]at e1;cases e1;exact absurd rfl e2
  ·simp at e3
 ·obtain⟨j,c,e1,e2,rfl|⟨i,l,e3,rfl⟩⟩:=hb
  ·rw[h1]at e1;cases e1;exact⟨_,_,_,h3⟩
  ·obtain⟨hd,hI,_⟩:=h9 i l e3
   rcases hI with⟨rfl,_,e4⟩|⟨b',cap',cur',fr',_,g2,_,g4,_⟩
   ·rw[List.length_nil,e4]at e1;cases e1
   ·rw[g2]at e1;cases e1;exact⟨_,_,_,g4⟩
def uA.keep{mk:Nat->Option (Nat×Nat)}{Z Z':ZM}{w w':World}{t e sz:Nat}{pd:Option Nat}{ls:List (List (List V))}(h:uA mk Z w t e sz pd ls)(hZ:∀a x,Z a=some x->Z' a=some x)
  (hw:∀b,blkN mk ls b->w'.heap[b]?=w.heap[b]?/\∀a x,Z' a=some x->a.block=b->Z a=some x):uA mk Z' w' t e sz pd ls:=by
 obtain⟨rfl,rfl,hd⟩|⟨h0,hh|⟨b0,cap,cur,fr,h1,h2,h3,h4,h5,h6,h7,h8,h9,h10,h11⟩⟩:=h
 ·refine .inl ⟨rfl,rfl,λb c e1 e2=>?_⟩
  obtain⟨cur,u,fr,h3⟩:=hd b c e1 e2;exact⟨cur,u,fr,(hw b ⟨0,c,e1,e2,.inl rfl⟩).1.trans h3⟩
 ·exact .inr ⟨h0,.inl hh⟩
 ·obtain⟨hw0,hz0⟩:=hw b0 ⟨0,cap,h1,ab,.inl rfl⟩
  refine .inr ⟨h0,.inr ⟨b0,cap,cur,fr,h1,h2,hw0.trans h3,h4,h5,h6,h7,λa x ha e=>h8 a x (hz0 a x ha e) e,λi l hl=>?_,h10,h11⟩⟩;obtain⟨hd,hI,hc⟩:=h9 i l hl;refine⟨hd,?_,hc⟩
  rcases hI with hh|⟨b',cap',cur',fr',g1,g2,g3,g4,g5,g6,g7,g8,g9,g10,g11⟩
  ·exact .inl hh
  ·obtain⟨hw1,hz1⟩:=hw b' ⟨_,cap',g2,ab,.inr ⟨i,l,hl,rfl⟩⟩
   exact .inr ⟨b',cap',cur',fr',g1,g2,g3,hw1.trans g4,g5,g6,g7,g8,g9.up hZ (λf e=>by cases e),g10,λa x ha e=>g11 a x (hz1 a x ha e) e⟩
structure wH(m:M)(Z:ZM)(H:Heap)(w:World):Prop where
 frozen:∀a x,Z a=some x->w.cell? a=some x
 holds:∀p∈H,Holds m Z w p.1 p.2
 nodup:(keys H).Nodup
 disj:∀p∈H,∀q∈H,∀b,blk m p b->blk m q b->p.1=q.1
structure Step(m:M)(Z:ZM)(F:Heap)(w:World)(m':M)(Z':ZM)(F':Heap)(w':World):Prop where
 sim:wH m' Z' F' w'
 mext:∀k L loc,m k L=some loc->m' k L=some loc
 zext:∀a x,Z a=some x->Z' a=some x
 os:w'.os=w.os
 tape:w'.tape=w.tape
 output:w'.output=w.output
 size:w.heap.size<=w'.heap.size
 frame:∀b,b<w.heap.size->(∀p∈F,¬blk m p b)->w'.heap[b]?=w.heap[b]?
 keep:∀k∈keys F,k∈keys F'
 newk:∀k,k ∉ keys F'->m' k=m k
 blks:∀p∈F',∀b,blk m' p b->w.heap.size<=b∨∃q∈F,blk m q b
 znew:∀a x,Z' a=some x->Z a=some x∨w.heap.size<=a.block∨∃q∈F,blk m q a.block
def Holds.blk{m:M}{Z:ZM}{w:World}{k:Nat}{o:Obj}(h:Holds m Z w k o):∀b,EV.blk m (k,o) b->b<w.heap.size:=by
 intro b' hb'
 cases o with
 |box t cs =>
  obtain⟨b,cur,h1,h2,_⟩:=h;simp[EV.blk,EV.u9,Obj.ver,h1]at hb';subst hb';exact(Array.getElem?_eq_some_iff.1 h2).1
 |row t sz fz els =>
  rcases h with⟨_,rfl,_,⟨b,h1⟩,_⟩|⟨b,cap,cur,fr,h1,h0,h2,_⟩
  ·simp[EV.blk,EV.u9,Obj.ver,h1]at hb'
  ·have:cap≠0:=ab
   simp[EV.blk,EV.u9,Obj.ver,h1,this]at hb';subst hb';exact(Array.getElem?_eq_some_iff.1 h2).1
 |map l =>
  obtain⟨b,es,clock,h1,h2,_⟩:=h;simp[EV.blk,EV.u9,Obj.ver,h1]at hb';subst hb';exact(Array.getElem?_eq_some_iff.1 h2).1
 |glob g ob cs =>
  obtain⟨h1,⟨h2,_⟩,_⟩:=h;simp[EV.blk,EV.u9,Obj.ver,h1]at hb';subst hb';exact(Array.getElem?_eq_some_iff.1 h2).1
 |nest t e sz pd ls =>
  obtain⟨cur,u,fr,h2⟩:=uA.own h hb';exact(Array.getElem?_eq_some_iff.1 h2).1
 |gen G =>
  obtain⟨ob,h2,_⟩:=G.own _ _ _ _ h hb';exact(Array.getElem?_eq_some_iff.1 h2).1
def Holds.notLp{m:M}{Z:ZM}{w:World}{k:Nat}{o:Obj}(h:Holds m Z w k o):∀b,EV.blk m (k,o) b->∃ob,w.heap[b]?=some ob/\zUb ob=false:=by
 intro b' hb'
 cases o with
 |box t cs =>
  obtain⟨b,cur,h1,h2,_⟩:=h;simp[EV.blk,EV.u9,Obj.ver,h1]at hb';subst hb';exact⟨_,h2,rfl⟩
 |row t sz fz els =>
  rcases h with⟨_,rfl,_,⟨b,h1⟩,_⟩|⟨b,cap,cur,fr,h1,h0,h2,_⟩
  ·simp[EV.blk,EV.u9,Obj.ver,h1]at hb'
  ·have:cap≠0:=ab
   simp[EV.blk,EV.u9,Obj.ver,h1,this]at hb';subst hb';exact⟨_,h2,rfl⟩
 |map l =>
  obtain⟨b,es,clock,h1,h2,_⟩:=h;simp[EV.blk,EV.u9,Obj.ver,h1]at hb';subst hb';exact⟨_,h2,rfl⟩
 |glob g ob cs =>
  obtain⟨h1,⟨h2,cur,u,fr,rfl,_⟩,_⟩:=h;simp[EV.blk,EV.u9,Obj.ver,h1]at hb';subst hb';exact⟨_,h2,rfl⟩
 |nest t e sz pd ls =>
  obtain⟨cur,u,fr,h2⟩:=uA.own h hb';exact⟨_,h2,rfl⟩
 |gen G=>exact G.own _ _ _ _ h hb'
def zwu.up{Z Z':ZM}(hZ:∀a x,Z a=some x->Z' a=some x):∀{l:List (V×V)}{es:List MapEntry},zwu Z l es->zwu Z' l es
 |[],_,h=>h
 |(k,v)::r,_,h=>by
  obtain⟨e,es,h1,h2,h3,h4⟩:=h;exact⟨e,es,h1,h2.up hZ (λf hf=>by cases hf),h3.up hZ (λf hf=>by cases hf),zwu.up hZ h4⟩
def Holds.keep{m m':M}{Z Z':ZM}{w w':World}{k:Nat}{o:Obj}(h:Holds m Z w k o)(hm:∀k L loc,m k L=some loc->m' k L=some loc)(hk:m' k=m k)
  (hZ:∀a x,Z a=some x->Z' a=some x) (hw:∀b,EV.blk m (k,o) b->w'.heap[b]?=w.heap[b]?/\∀a x,Z' a=some x->a.block=b->Z a=some x):Holds m' Z' w' k o:=by
 have hf:∀f,some m=some f->∃f',some m'=some f'/\∀k L loc,f k L=some loc->f' k L=some loc:=λf e=>by cases e;exact⟨m',rfl,hm⟩
 cases o with
 |box t cs =>
  obtain⟨b',cur,h1,h2,h3,h4,h5⟩:=h;obtain⟨hw,hz⟩:=hw b' (by simp[EV.blk,EV.u9,Obj.ver,h1]);exact⟨b',cur,by rw[hk];exact h1,hw.trans h2,h3.up hZ hf,λa x ha e=>h4 a x (hz a x ha e) e,by rw[hk];exact h5⟩
 |row t sz fz els =>
  rcases h with⟨h0,h1,h2,⟨b,h3⟩,h4⟩|⟨b',cap,cur,fr,h1,h0,h2,h3,h4,h5,h6,h7,h8,h9,h10,h11,h12,h13⟩
  ·exact .inl ⟨h0,h1,h2,⟨b,by rw[hk];exact h3⟩,by rw[hk];exact h4⟩
  ·have:cap≠0:=ab
   obtain⟨hw,hz⟩:=hw b' (by simp[EV.blk,EV.u9,Obj.ver,h1,this]);exact .inr ⟨b',cap,cur,fr,by rw[hk];exact h1,h0,hw.trans h2,h3,h4,h5,h6,h7.up hZ (λf e=>by cases e),h8,h9,h10,λa x ha e=>h11 a x (hz a x ha e) e,by rw[hk];exact h12,λoff x ho hx=>hZ _ _ (h13 off x ho hx)⟩
 |map l =>
  obtain⟨b',es,clock,h1,h2,h3,h4,h5,h6,h7⟩:=h;obtain⟨hw,hz⟩:=hw b' (by simp[EV.blk,EV.u9,Obj.ver,h1]);exact⟨b',es,clock,by rw[hk];exact h1,hw.trans h2,h3.up hZ,h4,h5,λa x ha e=>h6 a x (hz a x ha e) e,by rw[hk];exact h7⟩
 |glob g ob cs =>
  obtain⟨h1,⟨h2,cur,u,fr,h5,h3⟩,h4⟩:=h;exact⟨by rw[hk];exact h1,⟨(hw g (by simp[EV.blk,EV.u9,Obj.ver,h1])).1.trans h2,cur,u,fr,h5,h3.up hZ (λf e=>by cases e)⟩,by rw[hk];exact h4⟩
 |nest t e sz pd ls =>
  show uA (m' k) Z' w' t e sz pd ls
  rw[hk];exact uA.keep h hZ hw
 |gen G =>
  show G.holds (m' k) Z' w'
  rw[hk];exact G.keep _ _ _ _ _ h hZ hw
section
variable{m m' m2:M}{Z Z' Z2:ZM}{F F' F2 G H:Heap}{w w' w2:World}
def mem_keys{p:Nat×Obj}(h:p∈H):p.1∈keys H:=List.mem_map_of_mem h
def zH:keys (F++G)=keys F++keys G:=by simp[keys]
def wH.left(h:wH m Z (F++G) w):wH m Z F w :=
  ⟨h.frozen,λp hp=>h.holds p (List.mem_append_left _ hp),by have:=h.nodup;rw[zH]at this;exact(List.nodup_append.1 this).1,
   λp hp q hq b=>h.disj p (List.mem_append_left _ hp) q (List.mem_append_left _ hq) b⟩
def wH.perm(h:wH m Z F w)(hp:F.Perm F'):wH m Z F' w :=
 ⟨h.frozen,λp hq=>h.holds p (hp.mem_iff.2 hq),(hp.map _).nodup_iff.1 h.nodup,λp hq q hr=>h.disj p (hp.mem_iff.2 hq) q (hp.mem_iff.2 hr)⟩
def QG(h:(keys (F++G)).Nodup){p q:Nat×Obj}(hp:p∈F)(hq:q∈G):p.1≠q.1:=by
 rw[zH]at h;exact(List.nodup_append.1 h).2.2 _ (mem_keys hp) _ (mem_keys hq)
def Step.frame_rule(hs:wH m Z (F++G) w)(h:Step m Z F w m' Z' F' w')(hap:∀p∈F',∀q∈G,p.1≠q.1):Step m Z (F++G) w m' Z' (F'++G) w':=by
 have hblkG:∀q∈G,∀b,blk m q b->b<w.heap.size/\∀p∈F,¬blk m p b:=λq hq b hb=>by
  exact⟨(hs.holds q (List.mem_append_right _ hq)).blk b hb,λp hp hpb=>QG hs.nodup hp hq (hs.disj p (List.mem_append_left _ hp) q (List.mem_append_right _ hq) b hpb hb)⟩
 have hkG:∀q∈G,m' q.1=m q.1:=λq hq=>h.newk _ λhk=>by
  obtain⟨p,hp,e⟩:=List.mem_map.1 hk;exact hap p hp q hq e
 have hbG:∀q∈G,blk m' q=blk m q:=λq hq=>zly (hkG q hq)
 have hholdG:∀q∈G,Holds m' Z' w' q.1 q.2:=λq hq=>by
  refine(hs.holds q (List.mem_append_right _ hq)).keep h.mext (hkG q hq) h.zext λb h1=>?_
  have h3:=hblkG q hq b h1;refine⟨h.frame b h3.1 h3.2,λa x ha e=>?_⟩
  rcases h.znew a x ha with h'|h'|⟨p,hp,hpb⟩
  ·exact h'
  ·omega
  ·rw[e]at hpb;exact absurd hpb (h3.2 p hp)
 refine⟨⟨h.sim.frozen,λp hp=>?_,?_,λp hp q hq b h1 h2=>?_⟩,h.mext,h.zext,h.os,h.tape,h.output,h.size,λb hb hn=>h.frame b hb λp hp=>hn p (List.mem_append_left _ hp),λk hk=>?_,λk hk=>?_,λp hp b hb=>?_,λa x ha=>?_⟩
 ·rcases List.mem_append.1 hp with hp|hp
  ·exact h.sim.holds p hp
  ·exact hholdG p hp
 ·rw[zH]
  refine List.nodup_append.2 ⟨h.sim.nodup,?_,λa ha b hb=>?_⟩
  ·have:=hs.nodup
   rw[zH]at this;exact(List.nodup_append.1 this).2.1
  ·obtain⟨p,hp,rfl⟩:=List.mem_map.1 ha
   obtain⟨q,hq,rfl⟩:=List.mem_map.1 hb;exact hap p hp q hq
 ·have key:∀p∈F',∀q∈G,blk m' p b->blk m' q b->False:=λp hp q hq hpb hqb=>by
   rw[hbG q hq]at hqb;have h3:=hblkG q hq b hqb
   rcases h.blks p hp b hpb with h'|⟨r,hr,hrb⟩
   ·omega
   ·exact h3.2 r hr hrb
  rcases List.mem_append.1 hp with hp|hp<;>rcases List.mem_append.1 hq with hq|hq
  ·exact h.sim.disj p hp q hq b h1 h2
  ·exact(key p hp q hq h1 h2).elim
  ·exact(key q hq p hp h2 h1).elim
  ·rw[hbG p hp]at h1
   rw[hbG q hq]at h2;exact hs.disj p (List.mem_append_right _ hp) q (List.mem_append_right _ hq) b h1 h2
 ·rw[zH,List.mem_append]at hk ⊢
  exact hk.imp (h.keep k) id
 ·rw[zH,List.mem_append,not_or]at hk
  exact h.newk k hk.1
 ·rcases List.mem_append.1 hp with hp|hp
  ·exact(h.blks p hp b hb).imp id λ⟨q,hq,e⟩=>⟨q,List.mem_append_left _ hq,e⟩
  ·exact .inr ⟨p,List.mem_append_right _ hp,by rw[<- hbG p hp];exact hb⟩
 ·exact(h.znew a x ha).imp id (Or.imp id λ⟨q,hq,e⟩=>⟨q,List.mem_append_left _ hq,e⟩)
def Step.trans(h:Step m Z F w m' Z' F' w')(k:Step m' Z' F' w' m2 Z2 F2 w2):Step m Z F w m2 Z2 F2 w2:=by
 refine⟨k.sim,λ_ _ _ e=>k.mext _ _ _ (h.mext _ _ _ e),λ_ _ e=>k.zext _ _ (h.zext _ _ e),k.os.trans h.os,k.tape.trans h.tape,k.output.trans h.output,Nat.le_trans h.size k.size,λb hb hn=>?_,
  λa ha=>k.keep a (h.keep a ha),λa ha=>(k.newk a ha).trans (h.newk a λh'=>ha (k.keep a h')),λp hp b hb=>?_,λa x ha=>?_⟩
 ·rw[k.frame b (by have:=h.size;omega) λp hp e=>?_,h.frame b hb hn]
  rcases h.blks p hp b e with h'|⟨q,hq,e'⟩
  ·omega
  ·exact hn q hq e'
 ·rcases k.blks p hp b hb with h'|⟨q,hq,e'⟩
  ·exact .inl (by have:=h.size;omega)
  ·exact h.blks q hq b e'
 ·rcases k.znew a x ha with h'|h'|⟨q,hq,e'⟩
  ·exact h.znew a x h'
  ·exact .inr (.inl (by have:=h.size;omega))
  ·exact .inr (h.blks q hq _ e')
def Step.refl(h:wH m Z F w):Step m Z F w m Z F w :=
 ⟨h,λ_ _ _ e=>e,λ_ _ e=>e,rfl,rfl,rfl,aq,λ_ _ _=>rfl,λ_ h=>h,λ_ _=>rfl,λp hp b hb=>.inr ⟨p,hp,hb⟩,λ_ _ h=>.inl h⟩
def Step.permL(h:Step m Z F w m' Z' F' w')(hp:F.Perm F2):Step m Z F2 w m' Z' F' w' :=
  ⟨h.sim,h.mext,h.zext,h.os,h.tape,h.output,h.size,λb hb hn=>h.frame b hb λp hq=>hn p (hp.mem_iff.1 hq),λk hk=>h.keep k ((hp.map _).mem_iff.2 hk),h.newk,
   λp hq b hb=>(h.blks p hq b hb).imp id λ⟨q,hr,e⟩=>⟨q,hp.mem_iff.1 hr,e⟩,λa x ha=>(h.znew a x ha).imp id (Or.imp id λ⟨q,hr,e⟩=>⟨q,hp.mem_iff.1 hr,e⟩)⟩
def Step.permR(h:Step m Z F w m' Z' F' w')(hp:F'.Perm F2):Step m Z F w m' Z' F2 w' :=
  ⟨h.sim.perm hp,h.mext,h.zext,h.os,h.tape,h.output,h.size,h.frame,λk hk=>(hp.map _).mem_iff.1 (h.keep k hk),λk hk=>h.newk k λh'=>hk ((hp.map _).mem_iff.1 h'),
   λp hq=>h.blks p (hp.mem_iff.2 hq),h.znew⟩
def Step.same(h:wH m Z F w)(hh:w'.heap=w.heap)(h1:w'.os=w.os)(h2:w'.tape=w.tape)(h3:w'.output=w.output):Step m Z F w m Z F w':=by
 refine⟨⟨λa x ha=>?_,λp hp=>?_,h.nodup,h.disj⟩,λ_ _ _ e=>e,λ_ _ e=>e,h1,h2,h3,by rw[hh];exact Nat.le_refl _,λ_ _ _=>by rw[hh],λ_ h=>h,λ_ _=>rfl,λp hp b hb=>.inr ⟨p,hp,hb⟩,λ_ _ h=>.inl h⟩
 ·have:=h.frozen a x ha
  simpa only[World.cell?,hh]using this
 ·exact(h.holds p hp).keep (λ_ _ _ e=>e) rfl (λ_ _ e=>e) λb _=>⟨by rw[hh],λ_ _ e _=>e⟩
end
abbrev Env:=List (Nat×V)
def Env.get:Env->Nat->V
 |[],_=>.undef
 |(d,v)::r,t=>bif Nat.beq t d then v else Env.get r t
def zlp(m:M)(Z:ZM)(ρ:Env)(ρr:yJ):Prop:=∀t,Rep (some m) Z (ρ.get t) (ρr t)
structure Ctx(K0:List Nat) where
 base:List Deferred
 W0:World
 m0:M
 Z0:ZM
 F0:Heap
 hk:keys F0=K0
 dom0:∀k,k ∉ K0->∀L,m0 k L=none
structure QX{K0:List Nat}(c:Ctx K0)(m:M)(Z:ZM)(H:Heap)(w:World):Prop where
 step:Step c.m0 c.Z0 c.F0 c.W0 m Z H w
 dom:∀k,k ∉ keys H->∀L,m k L=none
def K1{K0:List Nat}(c:Ctx K0)(ρ:Env)(H:Heap)(ρr:yJ)(w:World):Prop:=∃m Z,QX c m Z H w/\zlp m Z ρ ρr
def Step.lp{m m':M}{Z Z':ZM}{F F':Heap}{w w':World}(hs:wH m Z F w)(h:Step m Z F w m' Z' F' w'){b:Nat}{ob:Go.Obj}(hb:w.heap[b]?=some ob)(hl:zUb ob=true):w'.heap[b]?=some ob:=by
 rw[h.frame b (Array.getElem?_eq_some_iff.1 hb).1 λp hp e=>?_,hb];obtain⟨ob',h1,h2⟩:=(hs.holds p hp).notLp b e;rw[hb]at h1;cases h1;rw[hl]at h2;cases h2
def xr{K0:List Nat}(c:Ctx K0)(ds:List Deferred)(w:World):Prop:=∃Ds:List (Nat⊕Deferred),ds=Ds.map (Sum.elim Eng.mark id)/\Ds.filterMap Sum.getRight?=c.base/\(Ds.filterMap Sum.getLeft?).Nodup/\(∀D∈Ds.filterMap Sum.getLeft?,w.heap[D]?=some (.deferred (some []))/\c.W0.heap.size<=D)/\∀d∈c.base,∀D,d.target≠.collected D
def xr.nil{K0:List Nat}{c:Ctx K0}{w:World}(hb:c.base=[]):xr c [] w:=⟨[],rfl,hb.symm,List.nodup_nil,λ_ h=>(by cases h),λd hd=>(by rw[hb]at hd;cases hd)⟩
def xr.marks{K0:List Nat}{c:Ctx K0}{ds:List Deferred}{w:World}(h:xr c ds w)(hb:c.base=[]):∃Ds:List Nat,ds=Ds.map Eng.mark/\Ds.Nodup/\∀D∈Ds,w.heap[D]?=some (.deferred (some []))/\c.W0.heap.size<=D:=by
 obtain⟨l,h1,h2,h3,h4,_⟩:=h;rw[hb]at h2;refine⟨l.filterMap Sum.getLeft?,?_,h3,h4⟩;subst h1;clear h3 h4 hb
 induction l with
 |nil=>rfl
 |cons x l ih =>
  cases x with
  |inl D=>simp only[List.filterMap_cons,Sum.getRight?,Sum.getLeft?,mk9,Sum.elim_inl]at h2 ⊢;rw[ih h2]
  |inr d=>simp[List.filterMap_cons]at h2
def xr.step{K0:List Nat}{c:Ctx K0}{ds:List Deferred}{m m':M}{Z Z':ZM}{F F':Heap}{w w':World}(h:xr c ds w)(hs:wH m Z F w)(st:Step m Z F w m' Z' F' w'):xr c ds w':=by
 obtain⟨Ds,h1,hb,h2,h3,h4⟩:=h;exact⟨Ds,h1,hb,h2,λD hD=>⟨st.lp hs (h3 D hD).1 rfl,(h3 D hD).2⟩,h4⟩
def xr.same{K0:List Nat}{c:Ctx K0}{ds:List Deferred}{w w':World}(h:xr c ds w)(hh:w'.heap=w.heap):xr c ds w':=by
 obtain⟨Ds,h1,hb,h2,h3,h4⟩:=h;exact⟨Ds,h1,hb,h2,λD hD=>by rw[hh];exact h3 D hD,h4⟩
def QX.lps{K0:List Nat}{c:Ctx K0}{m:M}{Z:ZM}{H:Heap}{w w':World}{row:Option Nat}(S:QX c m Z H w)(hg:w.grownBy w' row)(hr:∀b,row=some b->c.W0.heap.size<=b/\∃o,w.heap[b]?=some o/\zUb o=true):QX c m Z H w':=by
 have hs:=S.step
 have hblk:∀p∈H,∀b,blk m p b->w'.heap[b]?=w.heap[b]?:=λp hp b hb=>by
  obtain⟨ob,h1,h2⟩:=(hs.sim.holds p hp).notLp b hb
  refine hg.block b (Array.getElem?_eq_some_iff.1 h1).1 λe=>?_
  obtain⟨_,o,h3,h4⟩:=hr b e.symm;rw[h1]at h3;cases h3;rw[h4]at h2;cases h2
 have hz:∀a x,Z a=some x->w'.cell? a=w.cell? a:=λa x ha=>by
  have h1:=hs.sim.frozen a x ha;have h2:=World.block_lt_of_cell? w a h1
  have:w'.heap[a.block]?=w.heap[a.block]?:=by
   refine hg.block _ h2 λe=>?_
   obtain⟨_,o,h3,h4⟩:=hr _ e.symm;simp only[World.cell?,h3]at h1;cases o<;>simp[zUb]at h4<;>cases h1
  simp only[World.cell?,this]
 refine⟨⟨⟨λa x ha=>(hz a x ha).trans (hs.sim.frozen a x ha),λp hp=>(hs.sim.holds p hp).keep (λ_ _ _ e=>e) rfl (λ_ _ e=>e) λb hb=>⟨hblk p hp b hb,λ_ _ e _=>e⟩,hs.sim.nodup,hs.sim.disj⟩,hs.mext,hs.zext,hg.os.trans hs.os,hg.tape.trans hs.tape,hg.output.trans hs.output,Nat.le_trans hs.size hg.size,λb hb hn=>?_,hs.keep,hs.newk,hs.blks,hs.znew⟩,S.dom⟩;rw[hg.block b (Nat.lt_of_lt_of_le hb hs.size) λe=>by have:=(hr b e.symm).1;omega];exact hs.frame b hb hn
abbrev we:=Exit->Env->Heap->List Deferred->Prop
def zlz{K0:List Nat}(c:Ctx K0)(Q:we)(ds:List Deferred):zai:=λe ρr ds1 w=>∃ρ H,K1 c ρ H ρr w/\xr c ds1 w/\Q e ρ H ds
def WpV{K0:List Nat}(c:Ctx K0)(P:Program)(r:Option Nat)(N:Nat)(code:Code)(Q:we)(ρ:Env)(H:Heap)(ds:List Deferred):Prop :=
 ∀ρr w ds1,K1 c ρ H ρr w->xr c ds1 w->Wp P r N code (zlz c Q ds) ρr ds1 w
def zzx(K:Env->Heap->List Deferred->Prop)(Q:we):we
 |.normal,ρ,H,ds=>K ρ H ds
 |e,ρ,H,ds=>Q e ρ H ds
def zTn(id:Nat)(Q:we):we
 |.exit i,ρ,H,ds=>if i=id then Q .normal ρ H ds else Q (.exit i) ρ H ds
 |e,ρ,H,ds=>Q e ρ H ds
def zlp.put{m:M}{Z:ZM}{ρ:Env}{ρr:yJ}{v:V}{x:Value}(h:zlp m Z ρ ρr)(d:Nat)(hv:Rep (some m) Z v x):zlp m Z ((d,v)::ρ) (upd ρr d x):=by
 intro t
 show Rep (some m) Z (bif Nat.beq t d then v else ρ.get t) (bif Nat.beq t d then x else ρr t)
 cases Nat.beq t d with
 |true=>exact hv
 |false=>exact h t
def zlp.up{m m':M}{Z Z':ZM}{ρ:Env}{ρr:yJ}(h:zlp m Z ρ ρr)(hZ:∀a x,Z a=some x->Z' a=some x)(hm:∀k L loc,m k L=some loc->m' k L=some loc):zlp m' Z' ρ ρr :=
 λt=>(h t).up hZ λf e=>by cases e;exact⟨m',rfl,hm⟩
section
variable{K0:List Nat}{c:Ctx K0}{P:Program}{r:Option Nat}{N:Nat}{Q:we}{ρ:Env}{H:Heap}{ds:List Deferred}
def zUd(h:Q .normal ρ H ds):WpV c P r N .skip Q ρ H ds:=λ_ _ _ S hM=>zLu ⟨ρ,H,S,hM,h⟩
def zUe{id:Nat}(h:Q (.exit id) ρ H ds):WpV c P r N (.exit id) Q ρ H ds:=λ_ _ _ S hM=>zUa ⟨ρ,H,S,hM,h⟩
def v_ret(h:Q .ret ρ H ds):WpV c P r N .ret Q ρ H ds:=λ_ _ _ S hM=>w_ret ⟨ρ,H,S,hM,h⟩
def v_seq{x y:Code}(h:WpV c P r N x (zzx (λρ H ds=>WpV c P r N y Q ρ H ds) Q) ρ H ds):WpV c P r N (.seq x y) Q ρ H ds :=
 λρr w ds1 S hM=>zwt (zlw (h ρr w ds1 S hM) λe ρr' ds' w' ⟨ρ',H',S',hM',hQ⟩=>by
  cases e with
  |normal=>exact hQ ρr' w' ds' S' hM'
  |exit id=>exact⟨ρ',H',S',hM',hQ⟩
  |goto l=>exact⟨ρ',H',S',hM',hQ⟩
  |ret=>exact⟨ρ',H',S',hM',hQ⟩
  |panic ch=>exact⟨ρ',H',S',hM',hQ⟩
  |outgrown=>exact⟨ρ',H',S',hM',hQ⟩)
def zOq{id:Nat}{x:Code}(h:WpV c P r N x (zTn id Q) ρ H ds):WpV c P r N (.block id x) Q ρ H ds :=
 λρr w ds1 S hM=>zOm (zlw (h ρr w ds1 S hM) λe ρr' ds' w' ⟨ρ',H',S',hM',hQ⟩=>by
  cases e with
  |exit i =>
   simp only[zTn]at hQ;simp only[zOl];split
   ·rename_i he;rw[if_pos he]at hQ;exact⟨ρ',H',S',hM',hQ⟩
   ·rename_i he;rw[if_neg he]at hQ;exact⟨ρ',H',S',hM',hQ⟩
  |normal=>exact⟨ρ',H',S',hM',hQ⟩
  |goto l=>exact⟨ρ',H',S',hM',hQ⟩
  |ret=>exact⟨ρ',H',S',hM',hQ⟩
  |panic ch=>exact⟨ρ',H',S',hM',hQ⟩
  |outgrown=>exact⟨ρ',H',S',hM',hQ⟩)
def zzy{K:Env->Heap->List Deferred->Prop}(h:K ρ H ds):zzx K Q .normal ρ H ds:=h
def zzz{K:Env->Heap->List Deferred->Prop}(h:Q .ret ρ H ds):zzx K Q .ret ρ H ds:=h
def zwv{id:Nat}{K:Env->Heap->List Deferred->Prop}(h:Q (.exit id) ρ H ds):zzx K Q (.exit id) ρ H ds:=h
def zGu{id:Nat}(h:Q .normal ρ H ds):zTn id Q .normal ρ H ds:=h
def zGv{id:Nat}(h:Q .ret ρ H ds):zTn id Q .ret ρ H ds:=h
def zz0{id:Nat}(h:Q .normal ρ H ds):zTn id Q (.exit id) ρ H ds:=by
 show(if id=id then Q .normal ρ H ds else Q (.exit id) ρ H ds)
 rw[if_pos rfl];exact h
def zbr{id i:Nat}(hne:Nat.beq i id=false)(h:Q (.exit i) ρ H ds):zTn id Q (.exit i) ρ H ds:=by
 show(if i=id then Q .normal ρ H ds else Q (.exit i) ρ H ds)
 rw[if_neg (λe=>by subst e;rw[Nat.beq_refl]at hne;cases hne)];exact h
end
def ztc:Value->V
 |.int k n=>.int k n
 |.bool b=>.bool b
 |.string s=>.str s.data.toList
 |.pointer none=>.nilp
 |.slice none 0 0=>.nils
 |.nilFunc=>.nilf
 |.map none=>.nilm
 |.nilIface=>.nili
 |.func (.func f) a b=>if a.size=0/\b.size=0 then .fn f [] []else .undef
 |_=>.undef
def ofC:Value->V
 |.agg cs=>.agg (cs.toList.map ztc)
 |v=>ztc v
def evV(ρ:Env):Operand->V
 |.tmp t=>ρ.get t
 |.const v=>ofC v
 |.global _=>.undef
 |.func f=>.fn f [] []
def ztd{m:Option M}{Z:ZM}(v:Value):Rep m Z (ztc v) v:=by
 unfold ztc;split
 ·rfl
 ·rfl
 ·show _=_;simp
 ·rfl
 ·rfl
 ·rfl
 ·rfl
 ·rfl
 ·split
  ·rename_i h
   exact⟨[],[],by rw[Array.eq_empty_of_size_eq_zero h.1,Array.eq_empty_of_size_eq_zero h.2],rfl,rfl⟩
  ·trivial
 ·trivial
def Hi{m:Option M}{Z:ZM}:∀l:List Value,zW m Z (l.map ztc) l
 |[]=>rfl
 |v::l=>⟨v,l,rfl,ztd v,Hi l⟩
def zz1{m:Option M}{Z:ZM}(v:Value):Rep m Z (ofC v) v:=by
 unfold ofC;split
 ·exact⟨_,af,Hi _⟩
 ·exact ztd _
def zlp.ev{m:M}{Z:ZM}{ρ:Env}{ρr:yJ}(h:zlp m Z ρ ρr)(x:Operand):Rep (some m) Z (evV ρ x) (ev ρr x):=by
 cases x with
 |tmp t=>exact h t
 |const v=>exact zz1 v
 |global g=>trivial
 |func f=>exact⟨[],[],rfl,rfl,rfl⟩
section
variable{K0:List Nat}{c:Ctx K0}{P:Program}{r:Option Nat}{N:Nat}{Q:we}{ρ:Env}{H:Heap}{ds:List Deferred}
def zz2{x:Operand}{a b:Code}(t:Bool)(hc:evV ρ x=.bool t)(h1:t=true->WpV c P r N a Q ρ H ds)(h2:t=false->WpV c P r N b Q ρ H ds):WpV c P r N (.cond x a b) Q ρ H ds :=
 λρr w ds1 S hM=>zLv t (by obtain⟨m,Z,_,hR⟩:=S;have:=hR.ev x;rw[hc]at this;exact this) (λe=>h1 e ρr w ds1 S hM) (λe=>h2 e ρr w ds1 S hM)
def zUf{G:Type}{x:Code}(env:G->Env)(hp:G->Heap)(Inv:G->Prop)(μ:G->Nat)(g0:G)(hi:Inv g0)
  (hround:∀g,Inv g->WpV c P r N x (zzx (λρ' H' ds'=>ds'=ds/\∃g',ρ'=env g'/\H'=hp g'/\Inv g'/\μ g'<μ g) Q) (env g) (hp g) ds):WpV c P r N (.loop x) Q (env g0) (hp g0) ds:=by
 intro ρr w ds1 S hM a n hf
 let I:Act->World->Nat->Prop:=λa w m=>∃g ρ' ds2,Frm N ds2 a ρ'/\K1 c (env g) (hp g) ρ' w/\xr c ds2 w/\Inv g/\μ g=m
 have hex:∀a w,(∃m,I a w m)->∃m,I a w m/\∀k,k<m->¬I a w k:=λa w ⟨m,hm⟩=>least _ m hm
 refine wpIn_loop (λa w=>∃m,I a w m) (λa w=>(Classical.epsilon λm=>I a w m/\∀k,k<m->¬I a w k)) ⟨_,g0,ρr,ds1,hf,S,hM,hi,rfl⟩ ?_;intro a w hI;obtain⟨⟨g,ρ',ds2,hf',hS,hM2,hinv,hm⟩,hmin⟩:=Classical.epsilon_spec (hex a w hI)
 refine wpIn_mono (hround g hinv ρ' w ds2 hS hM2 a n hf') λe a' w' hq=>?_
 obtain⟨ρ2,ds2,hf2,ρv,Hv,S2,hM3,hq⟩:=hq
 cases e with
 |normal =>
  obtain⟨_,g',rfl,rfl,hinv',hlt⟩:=hq
  have hI':I a' w' (μ g'):=⟨g',ρ2,ds2,hf2,S2,hM3,hinv',rfl⟩
  refine⟨⟨_,hI'⟩,?_⟩;obtain⟨_,hmin'⟩:=Classical.epsilon_spec (hex a' w' ⟨_,hI'⟩);refine Nat.lt_of_le_of_lt ?_ (hm▸hlt)
  exact Nat.le_of_not_lt λhl=>hmin' _ hl hI'
 |exit id=>exact⟨ρ2,ds2,hf2,ρv,Hv,S2,hM3,hq⟩
 |goto l=>exact⟨ρ2,ds2,hf2,ρv,Hv,S2,hM3,hq⟩
 |ret=>exact⟨ρ2,ds2,hf2,ρv,Hv,S2,hM3,hq⟩
 |panic ch=>exact⟨ρ2,ds2,hf2,ρv,Hv,S2,hM3,hq⟩
 |outgrown=>exact⟨ρ2,ds2,hf2,ρv,Hv,S2,hM3,hq⟩
end
def uB(ks:List Nat)(H:Heap):Option Heap :=
 match ks with
 |[]=>some []
 |k::r=>match H.get k,uB r H with
  |some o,some l=>some ((k,o)::l)
  |_,_=>none
def Obj.refs:Obj->List Nat
 |.box _ cs=>wG cs
 |_=>[]
def yu:List Nat->Bool
 |[]=>true
 |k::r=>!(r.contains k)&&yu r
def yA:∀{l:List Nat},yu l=true->l.Nodup
 |[],_=>List.nodup_nil
 |k::r,h=>by
  simp only[yu,bn,Bool.not_eq_true',List.contains_eq_mem,decide_eq_false_iff_not]at h;exact List.nodup_cons.2 ⟨h.1,yA h.2⟩
def Heap.get_mem:∀{H:Heap}{k:Nat}{o:Obj},H.get k=some o->(k,o)∈H
 |[],_,_,h=>by cases h
 |(k',o')::r,k,o,h=>by
  simp only[Heap.get]at h
  cases hb:Nat.beq k k' with
  |true =>
   rw[hb]at h;have:=eb hb;subst this;simp only[ctQ,Option.some.injEq]at h;subst h;exact al
  |false =>
   rw[hb]at h;exact mcQ _ (Heap.get_mem h)
def xk:∀{ks:List Nat}{H H':Heap},uB ks H=some H'->keys H'=ks/\∀p∈H',p∈H
 |[],_,_,h=>by cases h;exact⟨rfl,λ_ h=>by cases h⟩
 |k::r,H,H',h=>by
  simp only[uB]at h;split at h
  ·rename_i o l h1 h2
   cases h;obtain⟨h3,h4⟩:=xk h2;refine⟨by simp[keys]at h3 ⊢;exact h3,λp hp=>?_⟩
   rcases List.mem_cons.1 hp with rfl|hp
   ·exact Heap.get_mem h1
   ·exact h4 p hp
  ·cases h
def QX.cut{K0:List Nat}{c:Ctx K0}{m:M}{Z:ZM}{H H':Heap}{w:World}(ks:List Nat)(hH:uB ks H=some H')(hnd:yu ks=true)(hK:K0.all ks.contains=true)(hO:(H'.all λp=>p.2.refs.all ks.contains)=true)(S:QX c m Z H w):
  ∃m',QX c m' Z H' w/\∀v x,v.refs.all ks.contains=true->Rep (some m) Z v x->Rep (some m') Z v x:=by
 obtain⟨hks,hsub⟩:=xk hH
 let m':M:=λk L=>if k∈ks then m k L else none
 have hin:∀k∈ks,m' k=m k:=λk hk=>by funext L;simp[m',hk]
 have hb:∀p∈H',blk m' p=blk m p:=λp hp'=>zly (hin p.1 (hks▸mem_keys hp'))
 have hs:=S.step;refine⟨m',⟨⟨⟨hs.sim.frozen,λp hp'=>?_,by rw[hks];exact yA hnd,λp hp' q hq b h1 h2=>hs.sim.disj p (hsub p hp') q (hsub q hq) b (hb p hp'▸h1) (hb q hq▸h2)⟩,?_,hs.zext,hs.os,hs.tape,hs.output,hs.size,hs.frame,?_,?_,?_,hs.znew⟩,?_⟩,?_⟩
 ·have hh:=hs.sim.holds p (hsub p hp')
  have hmem:p.1∈ks:=hks▸mem_keys hp';obtain⟨k,o⟩:=p
  cases o with
  |box t cs =>
   obtain⟨b,cur,h1,h2,h3,h4,h5⟩:=hh;refine⟨b,cur,by rw[hin k hmem];exact h1,h2,h3.swap λj hj L loc e=>?_,h4,by rw[hin k hmem];exact h5⟩;have:=(List.all_eq_true.1 hO) _ hp';have:=(List.all_eq_true.1 this) j hj;rw[hin j (by simpa using this)];exact e
  |row t sz fz els =>
   rcases hh with⟨h1,h2,h3,⟨b,h4⟩,h5⟩|⟨b,cap,cur,fr,h1,h2⟩
   ·exact .inl ⟨h1,h2,h3,⟨b,by rw[hin k hmem];exact h4⟩,by rw[hin k hmem];exact h5⟩
   ·exact .inr ⟨b,cap,cur,fr,by rw[hin k hmem];exact h1,by rw[hin k hmem];exact h2⟩
  |map l =>
   obtain⟨b,es,clock,h1,h2⟩:=hh;exact⟨b,es,clock,by rw[hin k hmem];exact h1,by rw[hin k hmem];exact h2⟩
  |glob g t cs=>exact⟨by rw[hin k hmem];exact hh.1,hh.2.1,by rw[hin k hmem];exact hh.2.2⟩
  |nest t e sz pd ls =>
   show uA (m' k) _ _ t e sz pd ls
   rw[hin k hmem];exact hh
  |gen G =>
   show G.holds (m' k) _ _
   rw[hin k hmem];exact hh
 ·intro k L loc e
  by_cases hk:k∈K0
  ·have:=(List.all_eq_true.1 hK) k hk
   rw[hin k (by simpa using this)];exact hs.mext k L loc e
  ·rw[c.dom0 k hk]at e;cases e
 ·intro k hk
  rw[hks];have:=(List.all_eq_true.1 hK) k (c.hk▸hk);simpa using this
 ·intro k hk
  rw[hks]at hk
  funext L
  rw[c.dom0 k (λh=>hk (by have:=(List.all_eq_true.1 hK) k h;simpa using this))];simp[m',hk]
 ·intro p hp' b hbb
  exact hs.blks p (hsub p hp') b (hb p hp'▸hbb)
 ·intro k hk L
  rw[hks]at hk;simp[m',hk]
 ·intro v x hr h
  exact h.swap λj hj L loc e=>by
   have:=(List.all_eq_true.1 hr) j hj;rw[hin j (by simpa using this)];exact e
def zOr(P:Program)(o:Oper)(ρr:yJ)(w:World)(R:Value->World->Prop):Prop :=
 kv o.op=true/\((∃x w',(execOp (ev ρr) o).run P w=.ok (.value x) w'/\R x w')∨(∃w',(execOp (ev ρr) o).run P w=.ok .skip w'/\R Go.undef w') ∨
  ∃f args w1,(execOp (ev ρr) o).run P w=.ok (.enter f args) w1/\Calls P f args w1 λen w'=>∃x,en=.returned x/\R x w')
def zOr.mono{P:Program}{o:Oper}{ρr:yJ}{w:World}{R R':Value->World->Prop}(h:zOr P o ρr w R)(hm:∀x w',R x w'->R' x w'):zOr P o ρr w R':=by
 refine⟨h.1,?_⟩
 rcases h.2 with⟨x,w',h1,h2⟩|⟨w',h1,h2⟩|⟨f,args,w1,h1,h2⟩
 ·exact .inl ⟨x,w',h1,hm _ _ h2⟩
 ·exact .inr (.inl ⟨w',h1,hm _ _ h2⟩)
 ·exact .inr (.inr ⟨f,args,w1,h1,Calls.mono h2 λ_ _ ⟨x,e,hr⟩=>⟨x,e,hm _ _ hr⟩⟩)
def Loc(P:Program)(o:Oper)(ρ:Env)(F:Heap)(v:V)(F':Heap):Prop :=
 ∀ρr m Z w,(∀x∈o.op.operands,Rep (some m) Z (evV ρ x) (ev ρr x))->wH m Z F w->(∀k∈keys F',k ∉ keys F->∀L,m k L=none) ->
  zOr P o ρr w λx w'=>∃m' Z',Step m Z F w m' Z' F' w'/\Rep (some m') Z' v x
def xu(all:List Oper)(ρ:Env)(o:Oper):Option Bool :=
 match o.guard with
 |none=>some true
 |some (j,want)=>match (all[j]?).bind (·.dst)with
  |some d=>match ρ.get d with
   |.bool b=>some (b==want)
   |.no=>some false
   |_=>none
  |none=>none
def jA{all:List Oper}{ρ:Env}{ρr:yJ}{m:M}{Z:ZM}{o:Oper}{t:Bool}(hR:zlp m Z ρ ρr)(h:xu all ρ o=some t):wanted all ρr o=t:=by
 unfold xu at h;unfold wanted
 cases hg:o.guard with
 |none=>rw[hg]at h;simpa using h
 |some p =>
  obtain⟨j,want⟩:=p;rw[hg]at h;simp only[gv]at h ⊢
  cases hd:(all[j]?).bind (·.dst)with
  |none=>rw[hd]at h;cases h
  |some d =>
   rw[hd]at h;simp only at h ⊢;have hr:=hR d;split at h
   ·rename_i b hb
    rw[hb]at hr;simp only[Rep]at hr;rw[hr];simp only[Option.some.injEq]at h;subst h;cases b<;>cases want<;>rfl
   ·rename_i hb
    rw[hb]at hr;simp only[Rep]at hr;rw[hr];simp only[Option.some.injEq]at h;subst h;rfl
   ·cases h
def zey{K0:List Nat}(c:Ctx K0)(P:Program)(r:Option Nat)(N:Nat)(all:List Oper)(Q:we)(l:List Oper)(ρ:Env)(H:Heap)(ds:List Deferred):Prop :=
 ∀ρr w ds1,K1 c ρ H ρr w->xr c ds1 w->Ops P r N all (zlz c Q ds) l ρr ds1 w
def qR(ks:List Nat)(H:Heap):Heap:=H.filter λp=>!ks.contains p.1
def wI{α β:Type}(f:α->β):∀{l:List α},(l.map f).Nodup->l.Nodup
 |[],_=>List.nodup_nil
 |a::l,h=>by
  rw[mk9,List.nodup_cons]at h;exact List.nodup_cons.2 ⟨λha=>h.1 (List.mem_map_of_mem ha),wI f h.2⟩
def vT:∀{ks:List Nat}{H F:Heap},(keys H).Nodup->ks.Nodup->uB ks H=some F->H.Perm (F++qR ks H):=by
 intro ks H F hH hks hF
 have h1:∀p,p∈H↔p∈F++qR ks H:=by
  obtain⟨h2,h3⟩:=xk hF;intro p;rw[List.mem_append];constructor
  ·intro hp
   by_cases hk:p.1∈ks
   ·left
    rw[<- h2]at hk;obtain⟨q,hq,e⟩:=List.mem_map.1 hk;have hqH:=h3 q hq
    have:q=p:=by
     have hinj:∀(l:Heap),(keys l).Nodup->∀p∈l,∀q∈l,q.1=p.1->q=p:=by
      intro l hl
      induction l with
      |nil=>intro p hp;cases hp
      |cons a l ih =>
       simp only[keys,mk9,List.nodup_cons]at hl;intro p hp q hq e
       rcases List.mem_cons.1 hp with h1|h1<;>rcases List.mem_cons.1 hq with h2|h2
       ·rw[h1,h2]
       ·exact(hl.1 (List.mem_map.2 ⟨q,h2,by rw[e,h1]⟩)).elim
       ·exact(hl.1 (List.mem_map.2 ⟨p,h1,by rw[<- e,h2]⟩)).elim
       ·exact ih hl.2 p h1 q h2 e
     exact hinj H hH p hp q hqH e
    exact this▸hq
   ·right
    simp only[qR,List.mem_filter,Bool.not_eq_true',List.contains_eq_mem,decide_eq_false_iff_not];exact⟨hp,hk⟩
  ·rintro(hp|hp)
   ·exact h3 p hp
   ·exact(List.mem_filter.1 hp).1
 have hn:H.Nodup:=wI _ hH
 have hn2:(F++qR ks H).Nodup:=by
  obtain⟨h2,h3⟩:=xk hF;refine List.nodup_append.2 ⟨wI _ (by show(keys F).Nodup;rw[h2];exact hks),hn.filter _,λa ha b hb e=>?_⟩;subst e;have:=(List.mem_filter.1 hb).2;simp only[Bool.not_eq_true',List.contains_eq_mem,decide_eq_false_iff_not]at this;exact this (h2▸mem_keys ha)
 exact(List.perm_ext_iff_of_nodup hn hn2).2 h1
def Kd(F':Heap)(ks:List Nat)(H:Heap):Bool:=F'.all λp=>ks.contains p.1||!((keys H).contains p.1)
section
variable{K0:List Nat}{c:Ctx K0}{P:Program}{r:Option Nat}{N:Nat}{Q:we}{ρ:Env}{H:Heap}{ds:List Deferred}{all rest:List Oper}{o:Oper}
def QX.step'{m m':M}{Z Z':ZM}{F F':Heap}{w w':World}{ks:List Nat}(S:QX c m Z H w)(hks:yu ks=true)(hF:uB ks H=some F)(hfr:Kd F' ks H=true)
  (h:wH m Z F w->(∀k∈keys F',k ∉ keys F->∀L,m k L=none)->Step m Z F w m' Z' F' w'):QX c m' Z' (F'++qR ks H) w':=by
 have hp:=vT S.step.sim.nodup (yA hks) hF;obtain⟨h2,h3⟩:=xk hF;have hs:wH m Z (F++qR ks H) w:=S.step.sim.perm hp
 have hnew:∀k∈keys F',k ∉ keys F->k ∉ keys H:=by
  intro k hk hkF;obtain⟨p,hp',rfl⟩:=List.mem_map.1 hk;have:=(List.all_eq_true.1 hfr) p hp';simp only[Bool.or_eq_true,List.contains_eq_mem,decide_eq_true_eq,Bool.not_eq_true',decide_eq_false_iff_not]at this
  rcases this with this|this
  ·exact absurd (h2▸this) hkF
  ·exact this
 have hst:=h hs.left (λk hk hkF=>S.dom k (hnew k hk hkF))
 have hap:∀p∈F',∀q∈qR ks H,p.1≠q.1:=by
  intro p hp' q hq e;have hq1:=List.mem_filter.1 hq;by_cases hpF:p.1∈keys F
  ·have:=hq1.2
   simp only[Bool.not_eq_true',List.contains_eq_mem,decide_eq_false_iff_not]at this;exact this (by rw[<- e,<- h2];exact hpF)
  ·exact hnew p.1 (mem_keys hp') hpF (by rw[e];exact mem_keys hq1.1)
 have hfr:=Step.frame_rule hs hst hap;refine⟨(S.step.permR hp).trans hfr,λk hk L=>?_⟩;rw[hfr.newk k hk];exact S.dom k (λhk'=>hk (hfr.keep k ((hp.map _).mem_iff.1 hk'))) L
def zUg(h:Q .normal ρ H ds):zey c P r N all Q [] ρ H ds:=λ_ _ _ S hM=>zOn ⟨ρ,H,S,hM,h⟩
def zOs(d:Nat)(hd:o.dst=some d)(hN:Nat.ble (d+1) N=true)(hw:xu all ρ o=some false)(h:zey c P r N all Q rest ((d,.no)::ρ) H ds):zey c P r N all Q (o::rest) ρ H ds:=by
 rintro ρr w ds1 ⟨m,Z,S,hR⟩ hM;exact zGs d hd hN (jA hR hw) (h _ _ _ ⟨m,Z,S,hR.put d rfl⟩ hM)
def zGw(hd:o.dst=none)(hw:xu all ρ o=some false)(h:zey c P r N all Q rest ρ H ds):zey c P r N all Q (o::rest) ρ H ds:=by
 rintro ρr w ds1 ⟨m,Z,S,hR⟩ hM;exact zzr hd (jA hR hw) (h _ _ _ ⟨m,Z,S,hR⟩ hM)
def zUh{F F':Heap}{v:V}(d:Nat)(ks:List Nat)(hd:o.dst=some d)(hN:Nat.ble (d+1) N=true)(hw:xu all ρ o=some true)(hks:yu ks=true)(hF:uB ks H=some F)(hl:Loc P o ρ F v F')(hfr:Kd F' ks H=true)
  (h:zey c P r N all Q rest ((d,v)::ρ) (F'++qR ks H) ds):zey c P r N all Q (o::rest) ρ H ds:=by
 rintro ρr w ds1 ⟨m,Z,S,hR⟩ hM a n hf;have hp:=vT S.step.sim.nodup (yA hks) hF;have hs:wH m Z (F++qR ks H) w:=S.step.sim.perm hp;obtain⟨h2,h3⟩:=xk hF
 obtain⟨hn,hex⟩:=hl ρr m Z w (λx _=>hR.ev x) hs.left (λk hk hkF=>S.dom k (by
  obtain⟨p,hp',rfl⟩:=List.mem_map.1 hk;have:=(List.all_eq_true.1 hfr) p hp';simp only[Bool.or_eq_true,List.contains_eq_mem,decide_eq_true_eq,Bool.not_eq_true',decide_eq_false_iff_not]at this
  rcases this with this|this
  ·exact absurd (h2▸this) hkF
  ·exact this))
 have go:∀x w',(∃m' Z',Step m Z F w m' Z' F' w'/\Rep (some m') Z' v x)->Ops P r N all (zlz c Q ds) rest (upd ρr d x) ds1 w':=λx w' ⟨m',Z',hst,hr⟩ =>
  h _ _ _ ⟨m',Z',S.step' hks hF hfr (λ_ _=>hst),(hR.up hst.zext hst.mext).put d hr⟩ (hM.step hs.left hst)
 rcases hex with⟨x,w',hrun,hx⟩|⟨w',hrun,hx⟩|⟨f,args,w1,hrun,hx⟩
 ·exact zOo d x hd hN (jA hR hw) hn hrun (go x w' hx) a n hf
 ·have hw':=(hf.wanted all _).trans (jA hR hw)
  simp only[wpListIn,hw',if_true];refine⟨λ_ _=>trivial,?_⟩;rw[AB hn,hf.eval,hrun,Oper.uponIn_skip,hd];exact go _ w' hx _ n (hf.put (lb hN) _)
 ·exact zzs d hd hN (jA hR hw) hn hrun hx (λe w'' ⟨x,he,hr⟩=>⟨x,he,go x w'' hr⟩) a n hf
def zOt{F F':Heap}{v:V}(ks:List Nat)(hd:o.dst=none)(hw:xu all ρ o=some true)(hks:yu ks=true)(hF:uB ks H=some F)(hl:Loc P o ρ F v F')(hfr:Kd F' ks H=true)
  (h:zey c P r N all Q rest ρ (F'++qR ks H) ds):zey c P r N all Q (o::rest) ρ H ds:=by
 rintro ρr w ds1 ⟨m,Z,S,hR⟩ hM a n hf;have hp:=vT S.step.sim.nodup (yA hks) hF;have hs:wH m Z (F++qR ks H) w:=S.step.sim.perm hp;obtain⟨h2,h3⟩:=xk hF
 obtain⟨hn,hex⟩:=hl ρr m Z w (λx _=>hR.ev x) hs.left (λk hk hkF=>S.dom k (by
  obtain⟨p,hp',rfl⟩:=List.mem_map.1 hk;have:=(List.all_eq_true.1 hfr) p hp';simp only[Bool.or_eq_true,List.contains_eq_mem,decide_eq_true_eq,Bool.not_eq_true',decide_eq_false_iff_not]at this
  rcases this with this|this
  ·exact absurd (h2▸this) hkF
  ·exact this))
 have go:∀x w',(∃m' Z',Step m Z F w m' Z' F' w'/\Rep (some m') Z' v x)->Ops P r N all (zlz c Q ds) rest ρr ds1 w':=λx w' ⟨m',Z',hst,hr⟩ =>
  h _ _ _ ⟨m',Z',S.step' hks hF hfr (λ_ _=>hst),hR.up hst.zext hst.mext⟩ (hM.step hs.left hst)
 have hw':=(hf.wanted all _).trans (jA hR hw);simp only[wpListIn,hw',if_true];refine⟨λ_ _=>trivial,?_⟩;rw[AB hn,hf.eval]
 rcases hex with⟨x,w',hrun,hx⟩|⟨w',hrun,hx⟩|⟨f,args,w1,hrun,hx⟩
 ·rw[hrun,Oper.uponIn_value,hd]
  exact go x w' hx _ n (hf.putNone _)
 ·rw[hrun,Oper.uponIn_skip,hd]
  exact go _ w' hx _ n (hf.putNone _)
 ·rw[hrun,Oper.uponIn_enter]
  refine⟨λhx=>by simp[Fw]at hx,(Hh r hx).mono λe w'' ⟨x,he,hr⟩=>?_⟩;subst he;rw[hd];exact go x w'' hr _ n (hf.putNone _)
def zGx{id:Nat}{l:List Oper}(h:zey c P r N l Q l ρ H ds):WpV c P r N (.region id l.toArray false) Q ρ H ds:=λρr w ds1 S hM=>zta (h ρr w ds1 S hM)
end
end Go.EV
namespace Go.Eng
open Go Go.RowKit
def sub(k:Nat)(v:Value)(lo hi:Nat):Value :=
 match v with
 |.slice A _ c=>.slice (if c=lo then A else A.map (·.add (lo*k))) (hi-lo) (c-lo)
 |v=>v
section
variable{P:Program}{ρ:yJ}{w W:World}{dst:Option Tmp}{ty:TypeId}{pos:String}{aft:Array Edge}{gd:Option (Nat×Bool)}{α:Type}{enc:α->List Value}{k:Nat}{v:Value}{l:List α}
end
inductive Tag where
 |int (k:IntKind)
 |bool
 |str
 deriving DecidableEq
def zqd:TypeDesc->Option Tag|.int k=>some (.int k)|.bool=>some .bool|.string=>some .str|_=>none
def zww:Tag->Value->Bool|.int k,.int k' _=>decide (k=k')|.bool,.bool _=>true|.str,.string _=>true|_,_=>false
def eqV:Value->Value->Bool|.int _ a,.int _ b=>decide (a=b)|.bool a,.bool b=>a==b|.string a,.string b=>decide (a.data.toList=b.data.toList)|_,_=>false
def zGy:List Value->List Value->Bool|[],[]=>true|a::l,b::m=>eqV a b&&zGy l m|_,_=>false
def QH:List Tag->List Value->Bool|[],[]=>true|k::ks,v::vs=>zww k v&&QH ks vs|_,_=>false
def zbs(P:Program):List Field->Nat->List Tag->Bool
 |[],_,[]=>true
 | f :: fs, i, k :: ks => !(f.name == "_") && (Nat.beq f.offset i && ((match P.underlying f.type with | some d => decide (zqd d = some k) | none => false) && zbs P fs (i + 1) ks))
 |_,_,_=>false
def zGz(P:Program)(t:TypeId)(ks:List Tag):Prop:=P.underlying t=some (.struct (P.fieldsOf t))/\P.stoodInHeld t=false/\P.eqGuardType P.depth t=false/\zbs P (P.fieldsOf t).toList 0 ks=true
def zia(P:Program)(t:TypeId)(ks:List Tag):Bool:=(match P.underlying t with|some (.struct _)=>true|_=>false)&&((!P.stoodInHeld t)&&((!P.eqGuardType P.depth t)&&zbs P (P.fieldsOf t).toList 0 ks))
def zOu{P:Program}{t:TypeId}{ks:List Tag}(h:zia P t ks=true):zGz P t ks:=by
 simp only[zia,bn,Bool.not_eq_true']at h;obtain⟨h1,h2,h3,h4⟩:=h;refine⟨?_,h2,h3,h4⟩;split at h1
 ·rename_i fs hf
  simp[Program.fieldsOf,hf]
 ·cases h1
section
variable{P:Program}{ρ:yJ}{w:World}{dst:Option Tmp}{ty:TypeId}{pos:String}{aft:Array Edge}{gd:Option (Nat×Bool)}
def zbt{d:Nat}{t:Nat}{k:Tag}{a b:Value}{desc:TypeDesc}(hu:P.underlying t=some desc)(ht:zqd desc=some k)(ha:zww k a=true)(hb:zww k b=true):(Op.equalIn (d+1) t a b).run P w=.ok (eqV a b) w:=by
 cases desc<;>simp only[zqd,Option.some.injEq,reduceCtorEq]at ht<;>subst ht<;>(cases a<;>simp only[zww,Bool.false_eq_true]at ha<;>cases b<;>simp only[zww,Bool.false_eq_true]at hb)
 ·rw[run_equalIn_bool' w d t _ _ hu];rfl
 ·have ha:=of_decide_eq_true ha;have hb:=of_decide_eq_true hb;subst ha;subst hb
  rw[run_equalIn_int w d t _ _ _ _ hu];rfl
 ·rw[run_equalIn_string w d t _ _ hu];simp only[eqV,ByteArray.toList_eq];congr 1;rw[Bool.eq_iff_iff];simp
def zte{t:Nat}{k:Tag}{desc:TypeDesc}(hu:P.underlying t=some desc)(ht:zqd desc=some k):(isAgg t).run P w=.ok false w:=by
 unfold isAgg;cases desc<;>simp only[zqd,reduceCtorEq]at ht<;>simp[run_underlying hu]
def Zg{d:Nat}{xs ys:List Value}:∀(fs:List Field)(i:Nat)(ks:List Tag),zbs P fs i ks=true->QH ks (xs.drop i)=true->QH ks (ys.drop i)=true ->
  (Op.eqFields (d+1) xs.toArray ys.toArray fs).run P w=.ok (zGy (xs.drop i) (ys.drop i)) w:=by
 intro fs
 induction fs with
 |nil =>
  intro i ks h hx hy
  cases ks with
  |cons k ks=>cases h
  |nil =>
   cases hxs:xs.drop i with
   |cons a l=>rw[hxs]at hx;cases hx
   |nil =>
    cases hys:ys.drop i with
    |cons a l=>rw[hys]at hy;cases hy
    |nil=>simp[Op.eqFields,zGy]
 |cons f fs ih =>
  intro i ks h hx hy
  cases ks with
  |nil=>cases h
  |cons k ks =>
   simp only[zbs,bn]at h;obtain⟨h1,h2,h3,h4⟩:=h;have h2:=eb h2
   have h1 : f.name ≠ "_" := by simpa using h1
   cases hxs:xs.drop i with
   |nil=>rw[hxs]at hx;cases hx
   |cons a l =>
    cases hys:ys.drop i with
    |nil=>rw[hys]at hy;cases hy
    |cons b m =>
     rw[hxs]at hx;rw[hys]at hy;simp only[QH,bn]at hx hy
     have ex:xs.drop (i+1)=l:=by rw[<- List.drop_drop,hxs];rfl
     have ey:ys.drop (i+1)=m:=by rw[<- List.drop_drop,hys];rfl
     have gx:xs[i]?=some a:=by have:=congrArg (·[0]?) hxs;simpa using this
     have gy:ys[i]?=some b:=by have:=congrArg (·[0]?) hys;simpa using this
     cases hu:P.underlying f.type with
     |none=>rw[hu]at h3;cases h3
     |some desc =>
      rw[hu]at h3
      have h3:zqd desc=some k:=by simpa using h3
      have ih:=ih (i+1) ks h4 (by rw[ex];exact hx.2) (by rw[ey];exact hy.2);rw[ex,ey]at ih
      have px:(part f.type xs.toArray f.offset).run P w=.ok a w:=by simp[part,zte hu h3,h2,gx]
      have py:(part f.type ys.toArray f.offset).run P w=.ok b w:=by simp[part,zte hu h3,h2,gy]
      rw[Op.eqFields,if_pos h1];simp only[Sem.run_bind,px,py,Result.andThen_ok,zbt hu h3 hx.1 hy.1,zGy];cases eqV a b
      ·simp
      ·simp[ih]
def zOv{t t':TypeId}{ks:List Tag}{a b:List Value}{x y:Operand}(res:Bool)(hF:zGz P t ks)(ha:ev ρ x=.agg a.toArray)(hb:ev ρ y=.agg b.toArray)(hka:QH ks a=true)(hkb:QH ks b=true)(hr:zGy a b=res):
  (execOp (ev ρ) ⟨dst,.binOp .eql t x y t',ty,pos,aft,gd⟩).run P w=.ok (.value (.bool res)) w:=by
 obtain⟨h1,h2,h3,h4⟩:=hF;have h:=Zg (P:=P) (w:=w) (d:=9998) (xs:=a) (ys:=b) _ 0 ks h4 (by simpa using hka) (by simpa using hkb);simp only[List.drop_zero]at h;simp[execOp,ha,hb,run_eqGuard_agg w _ t x y _ _ h3,run_eql_struct,run_equalIn_agg w 9999 t _ _ h1 h2,h,hr]
def zOw{t t':TypeId}{ks:List Tag}{a b:List Value}{x y:Operand}(res:Bool)(hF:zGz P t ks)(ha:ev ρ x=.agg a.toArray)(hb:ev ρ y=.agg b.toArray)(hka:QH ks a=true)(hkb:QH ks b=true)(hr:zGy a b=res):
  (execOp (ev ρ) ⟨dst,.binOp .neq t x y t',ty,pos,aft,gd⟩).run P w=.ok (.value (.bool (!res))) w:=by
 obtain⟨h1,h2,h3,h4⟩:=hF;have h:=Zg (P:=P) (w:=w) (d:=9998) (xs:=a) (ys:=b) _ 0 ks h4 (by simpa using hka) (by simpa using hkb);simp only[List.drop_zero]at h;simp[execOp,ha,hb,run_eqGuard_agg w _ t x y _ _ h3,run_neq_struct,run_equalIn_agg w 9999 t _ _ h1 h2,h,hr]
def zwx{t:TypeId}{parts:List (Nat×Operand)}(ps:List (Nat×Value))(cs:List Value)(hp:parts.map (λp=>(p.1,ev ρ p.2))=ps)(h:P.built t ps=some cs.toArray):
  (execOp (ev ρ) ⟨dst,.build t parts.toArray,ty,pos,aft,gd⟩).run P w=.ok (.value (.agg cs.toArray)) w:=by
 have e:(parts.toArray.map λx=>(x.1,ev ρ x.2))=ps.toArray:=by rw[<- hp];simp
 simp only[execOp,e];simp[run_build w t ps.toArray cs.toArray (by simpa using h)]
end
section
variable{P:Program}{r:Option Nat}{N:Nat}{Q:zai}{ρ:yJ}{ds:List Deferred}{w W0:World}{L:List Own}
variable{all rest:List Oper}{ty:TypeId}{pos:String}{aft:Array Edge}{gd:Option (Nat×Bool)}
end
end Go.Eng
namespace Go.EV
open Go Go.RowKit Go.Eng
def tagB(P:Program)(t:TypeId):Option Tag:=match P.underlying t with|some d=>zqd d|none=>none
def ztf(P:Program)(t:TypeId):Option (List Tag) :=
 match (P.fieldsOf t).toList.mapM (λf=>tagB P f.type)with
 |some ks=>if zia P t ks then some ks else none
 |none=>none
def zbu:Tag->V->Bool|.int k,.int k' _=>decide (k=k')|.bool,.bool _=>true|.str,.str _=>true|_,_=>false
def A6:List Tag->List V->Bool|[],[]=>true|k::ks,v::vs=>zbu k v&&A6 ks vs|_,_=>false
def zZq:V->V->Bool|.int _ a,.int _ b=>decide (a=b)|.bool a,.bool b=>a==b|.str a,.str b=>decide (a=b)|_,_=>false
def zz3:List V->List V->Bool|[],[]=>true|[a],[b]=>zZq a b|a::l,b::m=>zZq a b&&zz3 l m|_,_=>false
def zUi(op:BinOp)(k:IntKind)(a b:Int):Option V :=
 match op with
 |.and=>some (.int k (k.wrap (BitVec.ofInt k.bits a &&& BitVec.ofInt k.bits b).toNat))
 | .or=>some (.int k (k.wrap (BitVec.ofInt k.bits a ||| BitVec.ofInt k.bits b).toNat))
 |.xor=>some (.int k (k.wrap (BitVec.ofInt k.bits a ^^^ BitVec.ofInt k.bits b).toNat))
 |.andNot=>some (.int k (k.wrap (BitVec.ofInt k.bits a &&& ~~~BitVec.ofInt k.bits b).toNat))
 |_=>none
def zUj(op:BinOp)(k:IntKind)(a b:Int):Option V :=
 match op with
 |.lss=>some (.bool (decide (a<b)))
 |.leq=>some (.bool (decide (a<=b)))
 |.gtr=>some (.bool (decide (a>b)))
 |.geq=>some (.bool (decide (a>=b)))
 |.eql=>some (.bool (decide (a=b)))
 |.neq=>some (.bool (!decide (a=b)))
 |.add=>some (.int k (k.wrap (a+b)))
 |.sub=>some (.int k (k.wrap (a-b)))
 |.mul=>some (.int k (k.wrap (a*b)))
 |.quo=>if b=0 then none else some (.int k (k.wrap (a.tdiv b)))
 |.rem=>if b=0 then none else some (.int k (a.tmod b))
 |op=>zUi op k a b
def zfw(op:BinOp)(k:IntKind)(a b:Int):Option V :=
 if b<0 then none else
 match op with
 |.shl=>some (.int k (k.wrap (a*2 ^ (min b.toNat k.bits))))
 |.shr=>some (.int k (a.fdiv (2 ^ (min b.toNat k.bits))))
 |_=>none
def strV(op:BinOp)(a b:ak):Option V :=
 match op with
 |.eql=>some (.bool (decide (a=b)))
 |.neq=>some (.bool (!decide (a=b)))
 |.lss=>some (.bool (Op.bytesLess a b))
 | .leq=>some (.bool (Op.bytesLess a b||decide (a=b)))
 | .gtr=>some (.bool (!(Op.bytesLess a b||decide (a=b))))
 |.geq=>some (.bool (!Op.bytesLess a b))
 |_=>none
def zG0:V->Option Bool
 |.nilp|.nils|.nilf|.nilm=>some true
 |.ptr ..|.vp ..|.fn ..|.mp _=>some false
 |.sl _ _ (_+1) _ (_+1)=>some false
 |.vs _ (_::_)=>some false
 |_=>none
def zz4(P:Program)(t:TypeId):V->Bool
 |.nilp=>match P.underlying t with|some (.pointer _)=>true|_=>false
 |.nils=>match P.underlying t with|some (.slice _)=>true|_=>false
 |.nilf=>match P.underlying t with|some (.func ..)=>true|_=>false
 |.nilm=>match P.underlying t with|some (.map ..)=>true|_=>false
 |_=>false
def zfx:V->V->Bool
 |.nilp,.nilp|.ptr ..,.nilp|.vp ..,.nilp=>true
 |.nils,.nils|.sl ..,.nils|.vs ..,.nils=>true
 |.nilf,.nilf|.fn ..,.nilf=>true
 |.nilm,.nilm|.mp _,.nilm=>true
 |_,_=>false
def ZQ(P:Program)(t:TypeId)(x y:V):Option Bool:=if zz4 P t y&&zfx x y then zG0 x else none
def zUk(P:Program)(t:TypeId):Bool:=match P.underlying t with|some .bool=>true|_=>false
def zZr(P:Program)(t:TypeId)(x y:V):Option Bool :=
 match x,y with
 |.bool a,.bool b=>if zUk P t then some (a==b)else none
 |.agg a,.agg b=>match ztf P t with
  |some ks=>if A6 ks a&&A6 ks b then some (zz3 a b)else none
  |none=>none
 |_,_=>none
def zl0(P:Program)(op:BinOp)(t:TypeId)(x y:V):Option V :=
 match x,y with
 |.int k a,.int k' b=>match op with
  |.shl|.shr=>zfw op k a b
  |_=>if k=k' then zUj op k a b else none
 |.str a,.str b=>strV op a b
 |x,y=>match op with
  |.eql=>(zZr P t x y).map .bool
  |.neq=>(zZr P t x y).map λb=>.bool (!b)
  |_=>none
section
variable{P:Program}{ρr:yJ}{w:World}{dst:Option Tmp}{ty:TypeId}{pos:String}{aft:Array Edge}{gd:Option (Nat×Bool)}{m:Option M}{Z:ZM}
def zib{op:BinOp}{t t':TypeId}{x y:Operand}{k:IntKind}{a b:Int}{v:V}(hx:ev ρr x=.int k a)(hy:ev ρr y=.int k b)(hs:op≠.shl/\op≠.shr)(h:zUj op k a b=some v):
  ∃u,(execOp (ev ρr) ⟨dst,.binOp op t x y t',ty,pos,aft,gd⟩).run P w=.ok (.value u) w/\Rep m Z v u:=by
 cases op<;>simp only[zUj,zUi,Option.some.injEq,reduceCtorEq]at h
 case quo =>
  split at h
  ·cases h
  ·rename_i hb
   simp only[Option.some.injEq]at h;subst h;exact⟨_,by simp[execOp,hx,hy,eqGuard,binOp,Op.intDiv,hb],rfl⟩
 case rem =>
  split at h
  ·cases h
  ·rename_i hb
   simp only[Option.some.injEq]at h;subst h;exact⟨_,by simp[execOp,hx,hy,eqGuard,binOp,Op.intDiv,hb],rfl⟩
 all_goals
  subst h;exact⟨_,by simp[execOp,hx,hy,eqGuard,binOp,Op.intCmp,Op.intArith,Op.intBits];first|rfl|done,rfl⟩
def W7{op:BinOp}{t t':TypeId}{x y:Operand}{k k':IntKind}{a b:Int}{v:V}(hx:ev ρr x=.int k a)(hy:ev ρr y=.int k' b)(hs:op=.shl∨op=.shr)(h:zfw op k a b=some v):
  ∃u,(execOp (ev ρr) ⟨dst,.binOp op t x y t',ty,pos,aft,gd⟩).run P w=.ok (.value u) w/\Rep m Z v u:=by
 unfold zfw at h;split at h
 ·cases h
 ·rename_i hb
  rcases hs with rfl|rfl<;>simp only[Option.some.injEq]at h<;>subst h<;>exact⟨_,by simp[execOp,hx,hy,eqGuard,binOp,Op.shift,hb],rfl⟩
def zG1{op:BinOp}{t t':TypeId}{x y:Operand}{a b:ak}{v:V}(hx:ev ρr x=.string ⟨a.toArray⟩)(hy:ev ρr y=.string ⟨b.toArray⟩)(h:strV op a b=some v):
  ∃u,(execOp (ev ρr) ⟨dst,.binOp op t x y t',ty,pos,aft,gd⟩).run P w=.ok (.value u) w/\Rep m Z v u:=by
 have e:(a==b)=decide (a=b):=by rw[Bool.eq_iff_iff];simp
 cases op<;>simp only[strV,Option.some.injEq,reduceCtorEq]at h<;>subst h <;>
  exact⟨_,by simp[execOp,hx,hy,eqGuard,binOp,Op.stringOp,ByteArray.toList_eq,e];first|rfl|done,rfl⟩
def zOx{k:Tag}{v:V}{x:Value}(h:Rep m Z v x)(hk:zbu k v=true):zww k x=true:=by
 cases k<;>cases v<;>simp only[zbu,Bool.false_eq_true]at hk<;>simp only[Rep]at h<;>subst h
 ·exact hk
 ·rfl
 ·rfl
def VE:∀{ks:List Tag}{vs:List V}{l:List Value},zW m Z vs l->A6 ks vs=true->QH ks l=true
 |[],[],l,h,_=>by cases h;rfl
 |[],_::_,_,_,hk=>by cases hk
 |_::_,[],_,_,hk=>by cases hk
 |k::ks,v::vs,l,h,hk=>by
  obtain⟨x,xs,rfl,h2,h3⟩:=h;simp only[A6,bn]at hk;simp only[QH,bn];exact⟨zOx h2 hk.1,VE h3 hk.2⟩
def zUl{m':Option M}{k:Tag}{u v:V}{x y:Value}(h:Rep m Z u x)(h':Rep m' Z v y)(hk:zbu k u=true)(hk':zbu k v=true):eqV x y=zZq u v:=by
 cases k<;>cases u<;>simp only[zbu,Bool.false_eq_true]at hk<;>cases v<;>simp only[zbu,Bool.false_eq_true]at hk'<;>simp only[Rep]at h h'<;>subst h<;>subst h'<;>first|rfl|simp[eqV,zZq]
def zz5:∀{ks:List Tag}{us vs:List V}{l k:List Value},zW m Z us l->zW m Z vs k->A6 ks us=true->A6 ks vs=true->zGy l k=zz3 us vs
 |[],[],[],l,k,h,h',_,_=>by cases h;cases h';rfl
 |[],_::_,_,_,_,_,_,hk,_=>by cases hk
 |[],[],_::_,_,_,_,_,_,hk=>by cases hk
 |_::_,[],_,_,_,_,_,hk,_=>by cases hk
 |_::_,_::_,[],_,_,_,_,_,hk=>by cases hk
 |k::ks,u::us,v::vs,l,l',h,h',hk,hk'=>by
  obtain⟨x,xs,rfl,h2,h3⟩:=h;obtain⟨y,ys,rfl,h4,h5⟩:=h';simp only[A6,bn]at hk hk';have e1:=zUl h2 h4 hk.1 hk'.1;have e2:=zz5 h3 h5 hk.2 hk'.2
  cases us with
  |nil =>
   cases vs with
   |nil=>cases h3;cases h5;simp[zGy,zz3,e1]
   |cons v' vs=>cases ks<;>simp only[A6,Bool.false_eq_true,and_false]at hk hk'
  |cons u' us =>
   cases vs with
   |nil=>cases ks<;>simp only[A6,Bool.false_eq_true,and_false]at hk hk'
   |cons v' vs=>simp only[zGy,zz3,e1];rw[e2]
def ztg{t t':TypeId}{x y:Operand}{u v:V}{b:Bool}(hx:Rep m Z u (ev ρr x))(hy:Rep m Z v (ev ρr y))(h:zZr P t u v=some b):
  (execOp (ev ρr) ⟨dst,.binOp .eql t x y t',ty,pos,aft,gd⟩).run P w=.ok (.value (.bool b)) w/\(execOp (ev ρr) ⟨dst,.binOp .neq t x y t',ty,pos,aft,gd⟩).run P w=.ok (.value (.bool (!b))) w:=by
 unfold zZr at h;split at h
 ·rename_i a a'
  split at h
  ·rename_i hb
   simp only[Option.some.injEq]at h;subst h;unfold zUk at hb;split at hb
   ·rename_i ht
    exact⟨zh8 ht hx hy,zh9 ht hx hy⟩
   ·cases hb
  ·cases h
 ·rename_i l l'
  split at h
  ·rename_i ks hks
   split at h
   ·rename_i hk
    simp only[bn]at hk;simp only[Option.some.injEq]at h;subst h;obtain⟨c1,e1,r1⟩:=hx;obtain⟨c2,e2,r2⟩:=hy
    have hF:zGz P t ks:=by
     unfold ztf at hks;split at hks
     ·split at hks
      ·rename_i hc
       simp only[Option.some.injEq]at hks;subst hks;exact zOu hc
      ·cases hks
     ·cases hks
    have he:=zz5 r1 r2 hk.1 hk.2;exact⟨zOv _ hF e1 e2 (VE r1 hk.1) (VE r2 hk.2) he,zOw _ hF e1 e2 (VE r1 hk.1) (VE r2 hk.2) he⟩
   ·cases h
  ·cases h
 ·cases h
def W8{op:BinOp}{t t':TypeId}{x y:Operand}{u v r:V}(hx:Rep m Z u (ev ρr x))(hy:Rep m Z v (ev ρr y))(h:zl0 P op t u v=some r):
  ∃z,(execOp (ev ρr) ⟨dst,.binOp op t x y t',ty,pos,aft,gd⟩).run P w=.ok (.value z) w/\Rep m Z r z:=by
 unfold zl0 at h;split at h
 ·rename_i k a k' b
  split at h
  ·exact W7 hx hy (.inl rfl) h
  ·exact W7 hx hy (.inr rfl) h
  ·rename_i h1 h2
   split at h
   ·rename_i hk
    subst hk;exact zib hx hy ⟨h1,h2⟩ h
   ·cases h
 ·exact zG1 hx hy h
 ·split at h
  ·obtain⟨b,hb,rfl⟩:=Option.map_eq_some_iff.1 h
   exact⟨_,(ztg hx hy hb).1,rfl⟩
  ·obtain⟨b,hb,rfl⟩:=Option.map_eq_some_iff.1 h
   exact⟨_,(ztg hx hy hb).2,rfl⟩
  ·cases h
end
def zqe(t:Bool)(a b:V):V :=
 match a,b with
 |.bool x,.bool y=>.bool (bif t then x else y)
 |.int k x,.int k' y=>if k=k' then .int k (bif t then x else y)else bif t then .int k x else .int k' y
 |.str x,.str y=>.str (bif t then x else y)
 |a,b=>bif t then a else b
def zG2{m:Option M}{Z:ZM}{t:Bool}{a b:V}{x y:Value}(ha:Rep m Z a x)(hb:Rep m Z b y):Rep m Z (zqe t a b) (bif t then x else y):=by
 unfold zqe;split
 ·cases t<;>assumption
 ·split
  ·rename_i hk;subst hk;cases t<;>assumption
  ·cases t<;>assumption
 ·cases t<;>assumption
 ·cases t<;>assumption
def zaj(P:Program)(s f:Nat):Option Nat :=
 match P.underlying s with
 |some (.struct fs)=>match fs[f]? with
  |some fld=>match P.info? fld.type with
   |some i=>if i.size=0 then none else some fld.offset
   |none=>none
  |none=>none
 |_=>none
def zqf{P:Program}{s f o:Nat}(h:zaj P s f=some o):zzt P s f o:=by
 unfold zaj at h;split at h
 ·rename_i fs hs
  split at h
  ·rename_i fld hf
   split at h
   ·rename_i i hi
    split at h
    ·cases h
    ·rename_i hz
     simp only[Option.some.injEq]at h;exact⟨fs,fld,i,hs,hf,h,hi,hz⟩
   ·cases h
  ·cases h
 ·cases h
def oK(P:Program)(t:Nat):Option (Option Nat) :=
 match P.underlying t,P.info? t with
 |some d,some i=>if zlx d then(if i.size=1 then some none else none)else some (some i.size)
 |_,_=>none
def oa{P:Program}{t:Nat}(h:oK P t=some none):Scal P t:=by
 unfold oK at h;split at h
 ·rename_i d i hd hi
  split at h
  ·rename_i hn
   split at h
   ·rename_i h1;exact⟨d,i,hd,hn,hi,h1⟩
   ·cases h
  ·cases h
 ·cases h
def qS{P:Program}{t k:Nat}(h:oK P t=some (some k)):AggT P t k:=by
 unfold oK at h;split at h
 ·rename_i d i hd hi
  split at h
  ·split at h<;>cases h
  ·rename_i hn
   simp only[Option.some.injEq]at h;exact⟨d,i,hd,by simpa using hn,hi,h⟩
 ·cases h
def atV(P:Program)(t:Nat)(cs:List V)(off:Nat):Option V :=
 match oK P t with
 |some none=>match cs[off]? with|some v=>if v.one then some v else none|none=>none
 |some (some k)=>if Nat.ble (off+k) cs.length then some (.agg ((cs.drop off).take k))else none
 |none=>none
def zl1(P:Program)(s f:Nat)(cs:List V):Option V :=
 match P.underlying s with
 |some (.struct fs)=>match fs[f]? with
  |some fld=>atV P fld.type cs fld.offset
  |none=>none
 |_=>none
def zUm(P:Program)(src dst:Nat)(x:V):Option V :=
 match P.underlying src,P.underlying dst,x with
 |some _,some (.int k),.int _ n=>some (.int k (k.wrap n))
 |some _,some .string,.str l=>some (.str l)
 |_,_,_=>none
def VF(P:Program)(t:Nat):Bool:=match P.underlying t with|some (.slice _)=>true|_=>false
def zTo(P:Program)(t:Nat)(x:V):Option V :=
 match x with
 |.str l=>match P.underlying t with|some .string=>some (.int .i64 l.length)|_=>none
 |.sl _ _ _ _ n=>if VF P t then some (.int .i64 n)else none
 |.vs _ els=>if VF P t then some (.int .i64 els.length)else none
 |.nils=>if VF P t then some (.int .i64 0)else none
 |_=>none
def zbv(places:List (Nat×Nat))(cells:List V):List (Nat×V)->Option (List V)
 |[]=>some cells
 |(i,v)::rest=>match places[i]? with
  |none=>none
  |some (off,size)=>if v.plain&&(Nat.beq v.cells.length size&&Nat.ble (off+size) cells.length)then zbv places (cells.take off++v.cells++cells.drop (off+size)) rest else none
def zth(P:Program)(t:Nat)(parts:List (Nat×V)):Option (List V) :=
 match P.info? t,P.underlying t with
 |some it,some (.struct fields) =>
  match it.zero,fields.toList.mapM (λf=>(P.info? f.type).map λi=>(f.offset,i.size))with
  |some z,some places=>zbv places (z.cells.toList.map ztc) parts
  |_,_=>none
 |some it,some (.array n e) =>
  match it.zero,P.info? e with
  |some z,some ie=>zbv ((List.range n).map λi=>(i*ie.size,ie.size)) (z.cells.toList.map ztc) parts
  |_,_=>none
 |_,_=>none
def biV(P:Program)(b:Builtin)(vs:List V)(ts:List TypeId):Option V :=
 match b with
 |.len=>match vs,ts with|[v],[t]=>zTo P t v|_,_=>none
 |.min=>match vs with|[.int k a,.int k' b]=>if k=k' then some (.int k (min a b))else none|_=>none
 |.max=>match vs with
  |[.int k a,.int k' b]=>if k=k' then some (.int k (max a b))else none
  |[.int k a,.int k' b,.int k'' c]=>if k=k' then if k=k'' then some (.int k (max (max a b) c))else none else none
  |_=>none
 |_=>none
def H8(P:Program)(ρ:Env):Op->Option V
 |.move x|.assign x=>some (evV ρ x)
 |.pick c a b=>match evV ρ c with|.bool t=>some (zqe t (evV ρ a) (evV ρ b))|_=>none
 |.binOp op t x y _=>match op with
  |.eql=>match ZQ P t (evV ρ x) (evV ρ y)with
   |some b=>some (.bool b)
   |none=>match ZQ P t (evV ρ y) (evV ρ x)with
    |some b=>some (.bool b)
    |none=>zl0 P .eql t (evV ρ x) (evV ρ y)
  |.neq=>match ZQ P t (evV ρ x) (evV ρ y)with
   |some b=>some (.bool (!b))
   |none=>match ZQ P t (evV ρ y) (evV ρ x)with
    |some b=>some (.bool (!b))
    |none=>zl0 P .neq t (evV ρ x) (evV ρ y)
  |op=>zl0 P op t (evV ρ x) (evV ρ y)
 |.unOp .not _ x=>match evV ρ x with|.bool b=>some (.bool (!b))|_=>none
 |.unOp .neg _ x=>match evV ρ x with|.int k n=>some (.int k (k.wrap (0-n)))|_=>none
 |.extract x i=>match evV ρ x with|.tup vs=>vs[i]?|_=>none
 |.makeFunc (.func f) first cap=>some (.fn f (first.toList.map (evV ρ)) (cap.toList.map (evV ρ)))
 |.convert src dst x=>zUm P src dst (evV ρ x)
 |.fieldAddr s x f=>match zaj P s f with
  |some o=>match evV ρ x with
   |.ptr k L off=>some (.ptr k L (off+o))
   |.vp cs off=>some (.vp cs (off+o))
   |_=>none
  |none=>none
 |.field s x f=>match evV ρ x with|.agg cs=>zl1 P s f cs|_=>none
 |.load t a=>match evV ρ a with|.vp cs off=>atV P t cs off|_=>none
 |.nilCheck x=>match evV ρ x with
  |.ptr k L off=>some (.ptr k L off)
  |.vp cs off=>some (.vp cs off)
  |.fn f first caps=>some (.fn f first caps)
  |_=>none
 |.call ⟨.builtin b,args,ts⟩=>biV P b (args.toList.map (evV ρ)) ts.toList
 |.build t parts=>(zth P t (parts.toList.map λp=>(p.1,evV ρ p.2))).map .agg
 |_=>none
def uC:Value->Bool|.pointer _|.slice ..|.map _|.func ..|.nilFunc=>true|_=>false
section
variable{P:Program}{ρr:yJ}{w:World}{dst:Option Tmp}{ty:TypeId}{pos:String}{aft:Array Edge}{gd:Option (Nat×Bool)}{m:Option M}{Z:ZM}
def zz6{t t':TypeId}{x y:Operand}{X Y:Value}{b:Bool}(hx:ev ρr x=X)(hy:ev ρr y=Y)(h1:uC X=true)(h2:uC Y=true)(h:(Op.equalIn (9999+1) t X Y).run P w=.ok b w):
  (execOp (ev ρr) ⟨dst,.binOp .eql t x y t',ty,pos,aft,gd⟩).run P w=.ok (.value (.bool b)) w/\(execOp (ev ρr) ⟨dst,.binOp .neq t x y t',ty,pos,aft,gd⟩).run P w=.ok (.value (.bool (!b))) w:=by
 have h':(Op.equal t X Y).run P w=.ok b w:=h
 cases X<;>simp only[uC,Bool.false_eq_true]at h1<;>cases Y<;>simp only[uC,Bool.false_eq_true]at h2 <;>
  exact⟨by simp only[execOp,hx,hy,eqGuard,binOp];simp[h'],by simp only[execOp,hx,hy,eqGuard,binOp];simp[h']⟩
def zz7(d:Nat){t:TypeId}{u v:V}{X Y:Value}{b:Bool}(hx:Rep m Z u X)(hy:Rep m Z v Y)(hf:zfx u v=true)(hn:zz4 P t v=true)(h:zG0 u=some b):
  uC X=true/\uC Y=true/\(Op.equalIn (d+1) t X Y).run P w=.ok b w/\(Op.equalIn (d+1) t Y X).run P w=.ok b w:=by
 have fin:∀{b':Bool},some b'=some b->b'=b:=λe=>by injection e
 cases v with
 |nilp =>
  simp only[zz4]at hn;split at hn
  ·rename_i ht
   simp only[Rep]at hy;subst hy
   cases u<;>first
    |(cases hf;done)
    |(simp only[Rep]at hx;cases fin h;subst hx;simp[uC,Op.equalIn,run_underlying ht];done)
    |(simp only[Rep]at hx;cases fin h;obtain⟨_,_,_,_,rfl⟩:=hx;simp[uC,Op.equalIn,run_underlying ht];done)
    |(simp only[Rep]at hx;cases fin h;obtain⟨_,rfl,_⟩:=hx;simp[uC,Op.equalIn,run_underlying ht];done)
  ·cases hn
 |nils =>
  simp only[zz4]at hn;split at hn
  ·rename_i ht
   simp only[Rep]at hy;subst hy
   cases u<;>first
    |(cases hf;done)
    |(simp only[Rep]at hx;cases fin h;subst hx;simp[uC,Op.equalIn,run_underlying ht];done)
    |skip
   ·rename_i sz k L o n
    obtain⟨g,loc,_,_,h3,_,h5⟩:=hx
    cases L with
    |zero=>simp[zG0]at h
    |succ L =>
     cases n with
     |zero=>simp[zG0]at h
     |succ n =>
      cases fin h
      rcases h5 with rfl|⟨h5,_⟩|⟨_,h5,_⟩
      ·simp[uC,Op.equalIn,run_underlying ht]
      ·omega
      ·omega
   rename_i sz els;obtain⟨A,c,rfl,_,_,h4⟩:=hx
   cases els with
   |nil=>simp[zG0]at h
   |cons e els =>
    cases fin h
    rcases h4 with h4|⟨a,rfl,_⟩
    ·cases h4
    ·simp[uC,Op.equalIn,run_underlying ht]
  ·cases hn
 |nilf =>
  simp only[zz4]at hn;split at hn
  ·rename_i ht
   simp only[Rep]at hy;subst hy
   cases u<;>first
    |(cases hf;done)
    |(simp only[Rep]at hx;cases fin h;subst hx;simp[uC,Op.equalIn,run_underlying ht];done)
    |(simp only[Rep]at hx;cases fin h;obtain⟨_,_,rfl,_⟩:=hx;simp[uC,Op.equalIn,run_underlying ht];done)
  ·cases hn
 |nilm =>
  simp only[zz4]at hn;split at hn
  ·rename_i ht
   simp only[Rep]at hy;subst hy
   cases u<;>first
    |(cases hf;done)
    |(simp only[Rep]at hx;cases fin h;subst hx;simp[uC,Op.equalIn,run_underlying ht];done)
    |(simp only[Rep]at hx;cases fin h;obtain⟨_,_,_,_,rfl⟩:=hx;simp[uC,Op.equalIn,run_underlying ht];done)
  ·cases hn
 |_=>cases hn
def Hj{t t':TypeId}{x y:Operand}{u v:V}{b:Bool}(hx:Rep m Z u (ev ρr x))(hy:Rep m Z v (ev ρr y))(h:ZQ P t u v=some b):
  ((execOp (ev ρr) ⟨dst,.binOp .eql t x y t',ty,pos,aft,gd⟩).run P w=.ok (.value (.bool b)) w/\(execOp (ev ρr) ⟨dst,.binOp .neq t x y t',ty,pos,aft,gd⟩).run P w=.ok (.value (.bool (!b))) w) /\
  ((execOp (ev ρr) ⟨dst,.binOp .eql t y x t',ty,pos,aft,gd⟩).run P w=.ok (.value (.bool b)) w/\(execOp (ev ρr) ⟨dst,.binOp .neq t y x t',ty,pos,aft,gd⟩).run P w=.ok (.value (.bool (!b))) w):=by
 unfold ZQ at h;split at h
 ·rename_i hh
  simp only[bn]at hh;obtain⟨h1,h2,h3,h4⟩:=zz7 (P:=P) (w:=w) 9999 hx hy hh.2 hh.1 h;exact⟨zz6 rfl rfl h1 h2 h3,zz6 rfl rfl h2 h1 h4⟩
 ·cases h
def zW.tmps{ρ:Env}{f:Operand->V}{g:Operand->Value}:∀(l:List Operand),(∀x∈l,Rep m Z (f x) (g x))->zW m Z (l.map f) (l.map g)
 |[],_=>rfl
 |x::l,h=>⟨_,_,rfl,h x al,zW.tmps (ρ:=ρ) l λy hy=>h y (mcQ _ hy)⟩
def zbw{off:Nat}{cs us:List V}{l k:List Value}(h:zW m Z cs l)(h':zW m Z us k):zW m Z (cs.take off++us++cs.drop (off+us.length)) (l.take off++k++l.drop (off+k.length)):=by
 rw[h'.length];exact((h.take off).append h').append (h.drop _)
def VG{α:Type}(v:α):∀(l:List α)(n:Nat),n<l.length->(l.set n v).take (n+1)=l.take n++[v]
 |[],n,h=>by simp at h
 |a::l,0,_=>af
 |a::l,n+1,h=>by
  have:=VG v l n (by simpa using h);simp[this]
def VH{α:Type}(v:α):∀(l:List α)(n k:Nat),n<k->(l.set n v).drop k=l.drop k
 |[],n,k,_=>af
 |a::l,0,k+1,_=>af
 |a::l,n+1,k+1,h=>by
  have:=VH v l n k ab;simp[this]
def zbx{α:Type}:∀(vs:List α)(j off:Nat)(a:Array α),off+j+vs.length<=a.size ->
  ((vs.zipIdx j).foldl (λcs (p:α×Nat)=>cs.setIfInBounds (off+p.2) p.1) a).toList=a.toList.take (off+j)++vs++a.toList.drop (off+j+vs.length)
 |[],j,off,a,_=>af
 |v::vs,j,off,a,h=>by
  simp only[lc]at h;rw[List.zipIdx_cons,List.foldl_cons,zbx vs (j+1) off _ (by simp;omega)]
  have hl:a.toList.length=a.size:=af
  simp only[Array.toList_setIfInBounds,lc];rw[<- Nat.add_assoc off j 1,VG v a.toList (off+j) ab,VH v a.toList (off+j) _ ab];rw[asc,asc,asc]
  congr 1
  simp only[List.cons_append,List.nil_append]
  congr 3;omega
def zak{places:List (Nat×Nat)}{place:Nat->Option (Nat×Nat)}(hpl:∀i p,places[i]?=some p->place i=some p):∀{parts:List (Nat×V)}{ps:List (Nat×Value)}{cells r:List V}{a:Array Value},zW m Z cells a.toList ->
  (ps.map (·.1)=parts.map (·.1))->zW m Z (parts.map (·.2)) (ps.map (·.2))->zbv places cells parts=some r->∃a':Array Value,Instr.fill place a ps=some a'/\zW m Z r a'.toList
 |[],ps,cells,r,a,hc,h1,h2,h=>by
  simp only[zbv,Option.some.injEq]at h;subst h;simp at h1;subst h1;exact⟨a,rfl,hc⟩
 |(i,v)::parts,[],cells,r,a,hc,h1,h2,h=>by simp at h1
 |(i,v)::parts,(i',x)::ps,cells,r,a,hc,h1,h2,h=>by
  simp only[mk9,List.cons.injEq]at h1;obtain⟨rfl,h1⟩:=h1;obtain⟨y,ys,h3,h4,h5⟩:=h2;simp only[mk9,List.cons.injEq]at h3;obtain⟨rfl,rfl⟩:=h3;simp only[zbv]at h;split at h
  ·cases h
  ·rename_i off size hp
   split at h
   ·rename_i hk
    simp only[bn]at hk;obtain⟨hpv,hk1,hk2⟩:=hk;have hk1:=eb hk1;have hk2:=lb hk2;have hcv:=h4.cells hpv
    have hlen:x.cells.size=size:=by have:=hcv.length;simp at this;omega
    have hal:a.size=cells.length:=by have:=hc.length;simpa using this
    have hfold:=zbx x.cells.toList 0 off a (by simp;omega);simp only[Nat.add_zero]at hfold
    have hz:(x.cells.zipIdx.foldl (λcs (p:Value×Nat)=>cs.setIfInBounds (off+p.2) p.1) a)=(x.cells.toList.zipIdx 0).foldl (λcs (p:Value×Nat)=>cs.setIfInBounds (off+p.2) p.1) a:=by
     rw[<- Array.foldl_toList];simp
    have hpr:=zbw (off:=off) hc hcv
    have e:off+size=off+v.cells.length:=ab
    rw[e]at h;obtain⟨a',h6,h7⟩:=zak hpl (a:=x.cells.zipIdx.foldl (λcs (p:Value×Nat)=>cs.setIfInBounds (off+p.2) p.1) a) (by rw[hz,hfold];simpa using hpr) h1 h5 h;refine⟨a',?_,h7⟩;simp only[Instr.fill,hpl _ _ hp];rw[if_neg (by simp[hlen];omega)];exact h6
   ·cases h
end
section
variable{P:Program}{ρ:Env}{ρr:yJ}{w:World}{dst:Option Tmp}{ty:TypeId}{pos:String}{aft:Array Edge}{gd:Option (Nat×Bool)}{m:Option M}{Z:ZM}
def VI(a:Addr)(i j:Nat):(a.add i).add j=a.add (i+j):=Go.Deep.add_add a i j
def zG3{t off:Nat}{cs:List V}{v:V}{x:Operand}{a:Addr}{mm:Option M}(hW:∀a x,Z a=some x->w.cell? a=some x)(hx:ev ρr x=.pointer (some (a.add off)))(hr:A5 Z a 0 cs)(h:atV P t cs off=some v):
  ∃u,(execOp (ev ρr) ⟨dst,.load t x,ty,pos,aft,gd⟩).run P w=.ok (.value u) w/\Rep mm Z v u:=by
 unfold atV at h;split at h
 ·rename_i hs
  split at h
  ·rename_i v' hv
   split at h
   ·cases h
    obtain⟨u,h1,h2⟩:=hr.get hv;rw[Nat.zero_add]at h1;exact⟨u,H7 (oa hs) hx (hW _ _ h1),h2.none_some⟩
   ·cases h
  ·cases h
 ·rename_i k hs
  split at h
  ·rename_i hk
   have hk:=lb hk;cases h
   have hex:∀j,j<k->∃u v,cs[off+j]?=some v/\w.cell? (a.add (off+j))=some u/\Rep none Z v u:=λj hj=>by
    have hc:cs[off+j]?=some (cs[off+j]'ab):=List.getElem?_eq_getElem ab;obtain⟨u,h1,h2⟩:=hr.get hc;rw[Nat.zero_add]at h1;exact⟨u,_,hc,hW _ _ h1,h2⟩
   let us:List Value:=(List.range k).map λj=>((w.cell? (a.add (off+j))).getD Go.undef)
   have hus:us.length=k:=by simp[us]
   have hget:∀j,j<k->us[j]?=w.cell? (a.add (off+j)):=λj hj=>by
    obtain⟨u,v,_,h2,_⟩:=hex j hj;simp[us,hj,h2]
   refine⟨.agg us.toArray,AD us (qS hs) hx hus λj u hj=>?_,us,rfl,?_⟩
   ·have hjk:j<k:=by have:=(List.getElem?_eq_some_iff.1 hj).1;omega
    rw[VI,<- hget j hjk];exact hj
   ·refine zW.of_get (by simp[hus];omega) λj v u hv hu=>?_
    have hjk:j<k:=by have:=(List.getElem?_eq_some_iff.1 hu).1;omega
    rw[List.getElem?_take,if_pos hjk,List.getElem?_drop]at hv;obtain⟨u',v',h1,h2,h3⟩:=hex j hjk;rw[hv]at h1;cases h1;rw[hget j hjk,h2]at hu;cases hu;exact h3.none_some
  ·cases h
 ·cases h
def zwy{t off:Nat}{cs:List V}{v:V}{l:List Value}(hr:zW m Z cs l)(h:atV P t cs off=some v):∃u,(part t l.toArray off).run P w=.ok u w/\Rep m Z v u:=by
 unfold atV at h;split at h
 ·rename_i hs
  split at h
  ·rename_i v' hv
   split at h
   ·cases h
    obtain⟨u,h1,h2⟩:=hr.get hv;exact⟨u,by simp[part,qH (oa hs),h1],h2⟩
   ·cases h
  ·cases h
 ·rename_i k hs
  split at h
  ·rename_i hk
   have hk:=lb hk;cases h;obtain⟨d,i,hd,hn,hi,hik⟩:=id (qS hs);refine⟨.agg ((l.drop off).take k).toArray,?_,_,rfl,(hr.drop off).take k⟩
   have e:l.toArray.extract off (off+k)=((l.drop off).take k).toArray:=by
    apply Array.ext';simp[List.extract_eq_drop_take]
   simp[part,H5 (qS hs),sizeOf,typeInfo,hi,hik,e]
  ·cases h
 ·cases h
def zqg{t:TypeId}{x:Operand}{v r:V}(hx:Rep m Z v (ev ρr x))(h:zTo P t v=some r):
  ∃u,(execOp (ev ρr) ⟨dst,.call ⟨.builtin .len,#[x],#[t]⟩,ty,pos,aft,gd⟩).run P w=.ok (.value u) w/\Rep m Z r u:=by
 have hsl:∀{A n c},ev ρr x=.slice A n c->VF P t=true->(execOp (ev ρr) ⟨dst,.call ⟨.builtin .len,#[x],#[t]⟩,ty,pos,aft,gd⟩).run P w=.ok (.value (i64 n)) w:=λhv hs=>by
  unfold VF at hs;split at hs
  ·rename_i e ht;exact ze4 ht hv
  ·cases hs
 unfold zTo at h;split at h
 ·split at h
  ·rename_i ht
   cases h;exact⟨_,zqc ht hx,rfl⟩
  ·cases h
 ·split at h
  ·rename_i hs
   cases h;obtain⟨_,_,_,_,h3,_,hv|⟨h0,A,hv⟩|⟨_,h0,A,c',hv,_⟩⟩:=hx
   ·exact⟨_,hsl hv hs,rfl⟩
   ·have h6:=(Nat.add_eq_zero_iff.1 (Nat.le_zero.1 (h0▸h3))).2
    subst h6;exact⟨_,hsl hv hs,rfl⟩
   ·subst h0
    exact⟨_,hsl hv hs,rfl⟩
  ·cases h
 ·split at h
  ·rename_i hs
   cases h;obtain⟨_,_,hv,_⟩:=hx;exact⟨_,hsl hv hs,rfl⟩
  ·cases h
 ·split at h
  ·rename_i hs
   cases h;exact⟨_,hsl hx hs,rfl⟩
  ·cases h
 ·cases h
def zOy{α β:Type}{f:α->β}{l:List α}{b:β}(h:l.map f=[b]):∃x,l=[x]/\f x=b:=by
 match l,h with
 |[x],h=>exact⟨x,rfl,by simpa using h⟩
def zz8{α β:Type}{f:α->β}{l:List α}{b c:β}(h:l.map f=[b,c]):∃x y,l=[x,y]/\f x=b/\f y=c:=by
 match l,h with
 |[x,y],h=>exact⟨x,y,rfl,by simpa using h⟩
def zz9{α β:Type}{f:α->β}{l:List α}{b c d:β}(h:l.map f=[b,c,d]):∃x y z,l=[x,y,z]/\f x=b/\f y=c/\f z=d:=by
 match l,h with
 |[x,y,z],h=>exact⟨x,y,z,rfl,by simpa using h⟩
def zwz{op:Op}{v:V}(h:H8 P ρ op=some v)(hops:∀x∈op.operands,Rep m Z (evV ρ x) (ev ρr x))(hW:∀a x,Z a=some x->w.cell? a=some x):
  kv op=true/\∃u,(execOp (ev ρr) ⟨dst,op,ty,pos,aft,gd⟩).run P w=.ok (.value u) w/\Rep m Z v u:=by
 unfold H8 at h;split at h
 ·cases h;exact⟨rfl,_,by simp[execOp],hops _ (by simp[Op.operands])⟩
 ·cases h;exact⟨rfl,_,by simp[execOp],hops _ (by simp[Op.operands])⟩
 ·rename_i c a b
  split at h
  ·rename_i t hc
   cases h;have h1:=hops c (by simp[Op.operands]);rw[hc]at h1;simp only[Rep]at h1;refine⟨rfl,_,?_,zG2 (t:=t) (hops a (by simp[Op.operands])) (hops b (by simp[Op.operands]))⟩;simp only[execOp,h1,asBool];cases t<;>simp
  ·cases h
 ·rename_i op t x y t'
  have hx:=hops x (by simp[Op.operands]);have hy:=hops y (by simp[Op.operands]);split at h
  ·split at h
   ·rename_i b hb
    cases h;exact⟨rfl,_,(Hj hx hy hb).1.1,rfl⟩
   ·split at h
    ·rename_i b hb
     cases h;exact⟨rfl,_,(Hj hy hx hb).2.1,rfl⟩
    ·exact⟨rfl,W8 hx hy h⟩
  ·split at h
   ·rename_i b hb
    cases h;exact⟨rfl,_,(Hj hx hy hb).1.2,rfl⟩
   ·split at h
    ·rename_i b hb
     cases h;exact⟨rfl,_,(Hj hy hx hb).2.2,rfl⟩
    ·exact⟨rfl,W8 hx hy h⟩
  ·exact⟨rfl,W8 hx hy h⟩
 ·rename_i t x
  have hx:=hops x (by simp[Op.operands]);split at h
  ·rename_i b hb
   cases h;rw[hb]at hx;simp only[Rep]at hx;exact⟨rfl,_,by simp[execOp,hx,Op.unary],rfl⟩
  ·cases h
 ·rename_i t x
  have hx:=hops x (by simp[Op.operands]);split at h
  ·rename_i k n hb
   cases h;rw[hb]at hx;simp only[Rep]at hx;exact⟨rfl,_,by simp[execOp,hx,Op.unary,Op.intArith],rfl⟩
  ·cases h
 ·rename_i x i
  have hx:=hops x (by simp[Op.operands]);split at h
  ·rename_i vs hv
   rw[hv]at hx;obtain⟨l,e,hl⟩:=hx;obtain⟨u,h1,h2⟩:=hl.get h;exact⟨rfl,u,by simp[execOp,e,Instr.extract,h1],h2⟩
  ·cases h
 ·rename_i f first cap
  cases h
  have e:∀l:Array Operand,l.map (ev ρr)=(l.toList.map (ev ρr)).toArray:=λl=>Array.ext' af
  refine⟨rfl,.func (.func f) (first.toList.map (ev ρr)).toArray (cap.toList.map (ev ρr)).toArray,by simp only[execOp,Instr.makeFunc,e];rfl,_,_,rfl,?_,?_⟩
  ·exact zW.tmps (ρ:=ρ) _ λx hx=>hops x (by simp[Op.operands];exact .inl (by simpa using hx))
  ·exact zW.tmps (ρ:=ρ) _ λx hx=>hops x (by simp[Op.operands];exact .inr (by simpa using hx))
 ·rename_i src dst' x
  have hx:=hops x (by simp[Op.operands]);unfold zUm at h;split at h
  ·rename_i d k k' n h1 h2 h3
   cases h;rw[h3]at hx;simp only[Rep]at hx;refine⟨rfl,_,?_,rfl⟩;simp[execOp,convert,run_underlying h1,run_underlying h2,hx,Conv.intToInt]
  ·rename_i d l h1 h2 h3
   cases h;rw[h3]at hx;simp only[Rep]at hx;refine⟨rfl,_,?_,rfl⟩;simp[execOp,convert,run_underlying h1,run_underlying h2,hx]
  ·cases h
 ·rename_i s x f
  have hx:=hops x (by simp[Op.operands]);split at h
  ·rename_i o ho
   have hF:=zqf ho;split at h
   ·rename_i k L off hv
    cases h;rw[hv]at hx;obtain⟨g,loc,h1,h2,h3⟩:=hx;exact⟨rfl,_,W5 hF rfl h3,g,loc,h1,h2,rfl⟩
   ·rename_i cs off hv
    cases h;rw[hv]at hx;obtain⟨a,h1,h2⟩:=hx;exact⟨rfl,_,VD hF h1,a,by rw[VI],h2⟩
   ·cases h
  ·cases h
 ·rename_i s x f
  have hx:=hops x (by simp[Op.operands]);split at h
  ·rename_i cs hv
   rw[hv]at hx;obtain⟨l,e,hl⟩:=hx;unfold zl1 at h;split at h
   ·rename_i fs hs
    split at h
    ·rename_i fld hf
     obtain⟨u,h1,h2⟩:=zwy (w:=w) hl h;exact⟨rfl,u,by simp[execOp,Instr.field,run_underlying hs,hf,e,asAgg,h1],h2⟩
    ·cases h
   ·cases h
  ·cases h
 ·rename_i t x
  have hx:=hops x (by simp[Op.operands]);split at h
  ·rename_i cs off hv
   rw[hv]at hx;obtain⟨a,h1,h2⟩:=hx;exact⟨rfl,zG3 hW h1 h2 h⟩
  ·cases h
 ·rename_i x
  have hx:=hops x (by simp[Op.operands]);split at h
  ·rename_i hv
   cases h;rw[hv]at hx;obtain⟨g,loc,h1,h2,h3⟩:=id hx;exact⟨rfl,_,by simp[execOp,h3];rfl,by rw[h3]at hx;exact hx⟩
  ·rename_i hv
   cases h;rw[hv]at hx;obtain⟨a,h3,h4⟩:=id hx;exact⟨rfl,_,by simp[execOp,h3];rfl,by rw[h3]at hx;exact hx⟩
  ·rename_i hv
   cases h;rw[hv]at hx;obtain⟨a,b,h3,h4⟩:=id hx;exact⟨rfl,_,by simp[execOp,h3];rfl,by rw[h3]at hx;exact hx⟩
  ·cases h
 ·rename_i b args ts
  obtain⟨args⟩:=args;obtain⟨ts⟩:=ts;refine⟨rfl,?_⟩
  have hop:∀x∈args,Rep m Z (evV ρ x) (ev ρr x):=λx hx=>hops x (by simp[Op.operands,Call.operands,hx])
  unfold biV at h;simp only at h;split at h
  ·split at h
   ·rename_i v t hv
    obtain⟨x,rfl,rfl⟩:=zOy hv;exact zqg (hop x af) h
   ·cases h
  ·split at h
   ·rename_i k a k' b hv
    obtain⟨x,y,rfl,hv2⟩:=zz8 hv
    ·skip
     have hx:=hop x af;have hy:=hop y af;rw[hv2.1]at hx;rw[hv2.2]at hy;split at h
     ·rename_i hk;subst hk;cases h
      have h':(if b<a then b else a)=min a b:=ab
      exact⟨_,by simp[execOp,resolve,invoke,builtin,(show ev ρr x=_ from hx),(show ev ρr y=_ from hy),Builtin.min_,Builtin.min2,h'],rfl⟩
     ·cases h
   ·cases h
  ·split at h
   ·rename_i k a k' b hv
    obtain⟨x,y,rfl,hv2⟩:=zz8 hv
    ·skip
     have hx:=hop x af;have hy:=hop y af;rw[hv2.1]at hx;rw[hv2.2]at hy;split at h
     ·rename_i hk;subst hk;cases h
      have h':(if b>a then b else a)=max a b:=ab
      exact⟨_,by simp[execOp,resolve,invoke,builtin,(show ev ρr x=_ from hx),(show ev ρr y=_ from hy),Builtin.max_,Builtin.max2,h'],rfl⟩
     ·cases h
   ·rename_i k a k' b k'' c hv
    obtain⟨x,y,z,rfl,hv2⟩:=zz9 hv
    ·skip
     have hx:=hop x af;have hy:=hop y af;have hz:=hop z af;rw[hv2.1]at hx;rw[hv2.2.1]at hy;rw[hv2.2.2]at hz;split at h
     ·rename_i hk;subst hk
      split at h
      ·rename_i hk;subst hk;cases h
       have h1:(if b>a then b else a)=max a b:=ab
       have h2:(if c>max a b then c else max a b)=max (max a b) c:=ab
       exact⟨_,by simp[execOp,resolve,invoke,builtin,(show ev ρr x=_ from hx),(show ev ρr y=_ from hy),(show ev ρr z=_ from hz),Builtin.max_,Builtin.max2,h1,h2],rfl⟩
      ·cases h
     ·cases h
   ·cases h
  ·cases h
 ·rename_i t parts
  obtain⟨cs,hb,rfl⟩:=Option.map_eq_some_iff.1 h
  have hparts:zW m Z ((parts.toList.map λp=>(p.1,evV ρ p.2)).map (·.2)) ((parts.toList.map λp=>(p.1,ev ρr p.2)).map (·.2)):=by
   rw[List.map_map,List.map_map]
   refine zW.of_get af λi v x hv hx=>?_
   rw[List.getElem?_map]at hv hx;obtain⟨p,hp,rfl⟩:=Option.map_eq_some_iff.1 hv;rw[hp]at hx;simp only[Option.map_some,Option.some.injEq,Function.comp]at hx;subst hx;exact hops p.2 (by have:=List.mem_of_getElem? hp;simp only[Op.operands,List.mem_toArray];exact List.mem_map_of_mem this)
  have hfst:(parts.toList.map λp=>(p.1,ev ρr p.2)).map (·.1)=(parts.toList.map λp=>(p.1,evV ρ p.2)).map (·.1):=af
  have key:∃a:Array Value,P.built t (parts.toList.map λp=>(p.1,ev ρr p.2))=some a/\zW m Z cs a.toList:=by
   unfold zth at hb;unfold Program.built;split at hb
   ·rename_i it fields h1 h2
    simp only[h1,h2];split at hb
    ·rename_i z places h3 h4
     simp only[h3,h4];exact zak (places:=places) (by intro i p hp;simpa using hp) (Hi _) hfst hparts hb
    ·cases hb
   ·rename_i it n e h1 h2
    simp only[h1,h2];split at hb
    ·rename_i z ie h3 h4
     simp only[h3,h4];refine zak (places:=(List.range n).map λi=>(i*ie.size,ie.size)) ?_ (Hi _) hfst hparts hb;intro i p hp;rw[List.getElem?_map]at hp;obtain⟨j,hj,rfl⟩:=Option.map_eq_some_iff.1 hp
     have hlt:i<n:=by have:=(List.getElem?_eq_some_iff.1 hj).1;simpa using this
     rw[List.getElem?_range hlt]at hj;cases hj;rfl
    ·cases hb
   ·cases hb
  obtain⟨a,ha,hr⟩:=key;refine⟨rfl,.agg a,?_,a.toList,af,hr⟩;have:=zwx (P:=P) (ρ:=ρr) (w:=w) (dst:=dst) (ty:=ty) (pos:=pos) (aft:=aft) (gd:=gd) (t:=t) (parts:=parts.toList) _ a.toList rfl (by simpa using ha);simpa using this
 ·cases h
end
section
variable{m m':M}{Z Z':ZM}{w w':World}{k:Nat}{o o':Obj}{b:Nat}
def VJ(ob:Go.Obj){j:Nat}(h:j<w.heap.size):(w.alloc ob).heap[j]?=w.heap[j]?:=Below.heap_alloc w ob j h
def vD(hf:∀a x,Z a=some x->w.cell? a=some x){a:Addr}{x:Value}(ha:Z a=some x):a.block<w.heap.size:=World.block_lt_of_cell? w a (hf a x ha)
def Hk{a:Addr}(h:w'.heap[a.block]?=w.heap[a.block]?):w'.cell? a=w.cell? a:=by simp only[World.cell?,h]
def Step.new(ob:Go.Obj)(loc:Nat)(hf:∀a x,Z a=some x->w.cell? a=some x)(hm:∀L,m k L=none)
  (hh:∀m',m' k o.ver=some (w.heap.size,loc)->(∀L l,m' k L=some l->L=o.ver)->(∀k L l,m k L=some l->m' k L=some l)->Holds m' Z (w.alloc ob) k o):
  ∃m',Step m Z [] w m' Z [(k,o)] (w.alloc ob)/\m' k o.ver=some (w.heap.size,loc):=by
 let m':M:=λk' L=>if k'=k then(if L=o.ver then some (w.heap.size,loc)else none)else m k' L
 have h1:m' k o.ver=some (w.heap.size,loc):=by simp[m']
 have h2:∀k L l,m k L=some l->m' k L=some l:=λk' L l e=>by
  by_cases hk:k'=k
  ·subst hk;rw[hm]at e;cases e
  ·simp[m',hk,e]
 have h3:∀L l,m' k L=some l->L=o.ver:=λL l e=>by
  simp only[m',if_true]at e;split at e
  ·assumption
  ·cases e
 refine⟨m',⟨⟨λa x ha=>?_,λp hp=>?_,by simp[keys],λp hp q hq _ _ _=>?_⟩,h2,λ_ _ e=>e,rfl,rfl,rfl,by rw[World.size_alloc];omega,λb hb _=>VJ ob hb,λk hk=>(by cases hk),λk' hk=>?_,λp hp b hb=>?_,λa x ha=>.inl ha⟩,h1⟩
 ·rw[Hk (VJ ob (vD hf ha))];exact hf a x ha
 ·simp only[msQ]at hp
  subst hp;exact hh m' h1 h3 h2
 ·simp only[msQ]at hp hq
  subst hp;subst hq;rfl
 ·funext L
  have:k'≠k:=by simpa[keys]using hk
  simp[m',this]
 ·simp only[msQ]at hp
  subst hp;obtain⟨j,c,e1,_⟩:=zGt hb;have e2:=h3 _ _ e1;subst e2;rw[h1]at e1;cases e1;exact .inl aq
def Obj.single:Obj->Bool|.nest ..|.gen _=>false|_=>true
def zby{m:M}{k:Nat}{o o':Obj}(hv:o'.ver=o.ver)(h1:o.single=true)(h2:o'.single=true)(b:Nat)(h:blk m (k,o') b):blk m (k,o) b:=by
 cases o<;>cases o'<;>simp only[Obj.single,Bool.false_eq_true]at h1 h2<;>(simp only[blk,u9,hv]at h ⊢;exact h)
def Step.write(hs:wH m Z [(k,o)] w)(hb:blk m (k,o) b)(hv:∀b2,blk m (k,o') b2->blk m (k,o) b2)(h1:w'.os=w.os)(h2:w'.tape=w.tape)(h3:w'.output=w.output)(h4:w'.heap.size=w.heap.size)
  (hw:∀j,j≠b->w'.heap[j]?=w.heap[j]?) (hz:∀a x,Z a=some x->a.block=b->w'.cell? a=some x) (hh:Holds m Z w' k o'):Step m Z [(k,o)] w m Z [(k,o')] w':=by
 refine⟨⟨λa x ha=>?_,λp hp=>?_,by simp[keys],λp hp q hq _ _ _=>?_⟩,λ_ _ _ e=>e,λ_ _ e=>e,h1,h2,h3,ab,λj hj hn=>hw j λe=>?_,λk hk=>?_,λ_ _=>rfl,λp hp b2 hb2=>?_,λa x ha=>.inl ha⟩
 ·by_cases e:a.block=b
  ·exact hz a x ha e
  ·rw[Hk (hw _ e)];exact hs.frozen a x ha
 ·simp only[msQ]at hp
  subst hp;exact hh
 ·simp only[msQ]at hp hq
  subst hp;subst hq;rfl
 ·subst e;exact hn _ (msQ.2 rfl) hb
 ·simpa[keys]using hk
 ·simp only[msQ]at hp
  subst hp;exact .inr ⟨_,msQ.2 rfl,hv _ hb2⟩
end
def H9(P:Program)(t n:Nat):Bool:=match P.info? t with|some i=>Nat.beq i.size n|none=>false
def zeroV(P:Program)(t:Nat):Option (List V) :=
 match P.info? t with
 |some i=>match i.zero with|some z=>some (z.cells.toList.map ztc)|none=>none
 |none=>none
def Kb(P:Program)(t:Nat):Option (Nat×Nat) :=
 match P.underlying t with
 |some (.slice e)=>match P.info? e with
  |some i=>if Nat.ble 1 i.size&&i.zero.isSome then some (e,i.size)else none
  |none=>none
 |_=>none
def zw0(n sz:Nat)(parts:List (Nat×V)):Option (List (List V)) :=
 if(parts.map (·.1))=List.range n then
  if parts.all (λp=>p.2.plain&&(Nat.beq p.2.cells.length sz&&(p.2.cells.all V.one&&p.2.refs.isEmpty)))then some (parts.map (·.2.cells))else none
 else none
section
variable{P:Program}{ρ:Env}{w:World}{dst:Option Tmp}{ty:TypeId}{pos:String}{aft:Array Edge}{gd:Option (Nat×Bool)}
def zG4{op:Op}{v:V}(h:H8 P ρ op=some v):Loc P ⟨dst,op,ty,pos,aft,gd⟩ ρ [] v []:=by
 intro ρr m Z w hops hs _;obtain⟨hn,u,h1,h2⟩:=zwz (P:=P) (w:=w) (dst:=dst) (ty:=ty) (pos:=pos) (aft:=aft) (gd:=gd) h hops hs.frozen;exact⟨hn,.inl ⟨u,w,h1,m,Z,Step.refl hs,h2⟩⟩
def zti{t k off:Nat}{a:Operand}{bt:Nat}{cs:List V}{v:V}(ha:evV ρ a=.ptr k 0 off)(h:atV P t cs off=some v):Loc P ⟨dst,.load t a,ty,pos,aft,gd⟩ ρ [(k,.box bt cs)] v [(k,.box bt cs)]:=by
 intro ρr m Z w hops hs _;have hx:=hops a (by simp[Op.operands]);rw[ha]at hx;obtain⟨f,loc,h1,h2,h3⟩:=hx;cases h1;obtain⟨b,cur,g1,g2,g3,g4,g5⟩:=hs.holds _ (msQ.2 rfl);rw[g1]at h2;cases h2
 have hcell:∀j u,cur.toList[j]?=some u->w.cell? ⟨b,j,none⟩=some u:=λj u hu=>by
  rw[cell_of_row w b j cur bt (0,0) g2];simpa using hu
 refine⟨rfl,.inl ?_⟩;unfold atV at h;split at h
 ·rename_i hsh
  split at h
  ·rename_i v' hv
   split at h
   ·cases h
    obtain⟨u,h4,h5⟩:=g3.get hv;exact⟨u,w,H7 (oa hsh) h3 (hcell _ _ h4),m,Z,Step.refl hs,h5⟩
   ·cases h
  ·cases h
 ·rename_i n hsh
  split at h
  ·rename_i hk
   have hk:=lb hk;cases h;have hl:=g3.length;refine⟨.agg ((cur.toList.drop off).take n).toArray,w,AD _ (qS hsh) h3 (by simp at hl ⊢;omega) λj u hj=>?_,m,Z,Step.refl hs,_,rfl,(g3.drop off).take n⟩;rw[Addr.add_lit]
   have hjn:j<n:=by have:=(List.getElem?_eq_some_iff.1 hj).1;simp at this;omega
   rw[List.getElem?_take,if_pos hjn,List.getElem?_drop]at hj;exact hcell _ _ hj
  ·cases h
 ·cases h
def zAa{t k off bt:Nat}{a x:Operand}{cs:List V}(ha:evV ρ a=.ptr k 0 off)(hp:(evV ρ x).plain=true)(h1:(evV ρ x).cells.all V.one=true)(hsz:H9 P t (evV ρ x).cells.length=true)(hfit:off+(evV ρ x).cells.length<=cs.length):
  Loc P ⟨dst,.store t a x,ty,pos,aft,gd⟩ ρ [(k,.box bt cs)] .no [(k,.box bt (cs.take off++(evV ρ x).cells++cs.drop (off+(evV ρ x).cells.length)))]:=by
 intro ρr m Z w hops hs _;have hx:=hops a (by simp[Op.operands]);rw[ha]at hx;obtain⟨f,loc,e1,h2,h3⟩:=hx;cases e1;obtain⟨b,cur,g1,g2,g3,g4,g5⟩:=hs.holds _ (msQ.2 rfl);rw[g1]at h2;cases h2;have hv:=(hops x (by simp[Op.operands])).cells hp;have hlv:=hv.length;have hl:=g3.length
 have hones:∀u∈(ev ρr x).cells.toList,u.oneCell'=true:=λu hu=>by
  obtain⟨i,hi,he⟩:=List.getElem_of_mem hu
  have hg:(ev ρr x).cells.toList[i]?=some u:=by rw[<- he];exact List.getElem?_eq_getElem hi
  have hvi:(evV ρ x).cells[i]?=some ((evV ρ x).cells[i]'ab):=List.getElem?_eq_getElem ab;obtain⟨u',h4,h5⟩:=hv.get hvi;rw[hg]at h4;cases h4;exact h5.one ((List.all_eq_true.1 h1) _ (List.getElem_mem _))
 unfold H9 at hsz;split at hsz
 ·rename_i i hi
  have hik:=eb hsz;have hst:=run_storeCells_at P b off bt (ev ρr x).cells.toList 0 cur w g2 (by simp at hl hlv ⊢;omega) hones;simp only[Nat.add_zero]at hst
  have e:(ev ρr x).cells=(ev ρr x).cells.toList.toArray:=af
  refine⟨rfl,.inr (.inl ⟨w.setRow b (cur.toList.take off++(ev ρr x).cells.toList++cur.toList.drop (off+(ev ρr x).cells.toList.length)).toArray,?_,m,Z,?_,rfl⟩)⟩
  ·have hsz2:(ev ρr x).cells.size=i.size:=by simp at hlv;omega
   simp[execOp,Instr.storeAt,h3,Instr.sureAddr,storeVar,sizeOf,typeInfo,hi,hsz2,hst]
  ·refine Step.write (b:=b) hs (by simp[blk,u9,Obj.ver,g1]) (zby rfl rfl rfl) rfl rfl rfl af (λj hj=>setRow_other w b j _ hj) (λa x ha e=>absurd e (g4 a x ha)) ?_
   exact⟨b,_,g1,setRow_heap w b _ _ bt _ g2,by simpa using zbw (off:=off) g3 hv,g4,g5⟩
 ·cases hsz
def zAb{t d:Nat}{cs:List V}(h:zeroV P t=some cs):Loc P ⟨dst,.alloc t,ty,pos,aft,gd⟩ ρ [] (.ptr d 0 0) [(d,.box t cs)]:=by
 intro ρr m Z w hops hs hfr;unfold zeroV at h;split at h
 ·rename_i i hi
  split at h
  ·rename_i z hz
   cases h
   obtain⟨m',h1,h2⟩:=Step.new (m:=m) (Z:=Z) (w:=w) (k:=d) (o:=.box t (z.cells.toList.map ztc)) (.cells z.cells t) 1 hs.frozen (λL=>hfr d (by simp[keys]) (by simp[keys]) L) λm' g1 g2 g3 =>
    ⟨w.heap.size,z.cells,g1,World.alloc_heap_new w _,Hi _,λa x ha e=>by have:=vD hs.frozen ha;omega,λL l e=>by have:=g2 L l e;simp only[Obj.ver]at this;omega⟩
   refine⟨rfl,.inl ⟨.pointer (some ⟨w.heap.size,0,none⟩),w.alloc (.cells z.cells t),?_,m',Z,h1,m',_,rfl,h2,rfl⟩⟩;simp[execOp,Instr.alloc,zeroValue,typeInfo,hi,hz,newVar,newRow,newObj];rfl
  ·cases h
 ·cases h
def zOz{t d:Nat}{x:Operand}(hp:(evV ρ x).plain=true):Loc P ⟨dst,.box t x,ty,pos,aft,gd⟩ ρ [] (.ptr d 0 0) [(d,.box t (evV ρ x).cells)]:=by
 intro ρr m Z w hops hs hfr;have hv:=(hops x (by simp[Op.operands])).cells hp
 obtain⟨m',h1,h2⟩:=Step.new (m:=m) (Z:=Z) (w:=w) (k:=d) (o:=.box t (evV ρ x).cells) (.cells (ev ρr x).cells t) 1 hs.frozen (λL=>hfr d (by simp[keys]) (by simp[keys]) L) λm' g1 g2 g3 =>
  ⟨w.heap.size,(ev ρr x).cells,g1,World.alloc_heap_new w _,hv.up (λ_ _ e=>e) (λf e=>by cases e;exact⟨m',rfl,g3⟩),λa x ha e=>by have:=vD hs.frozen ha;omega,λL l e=>by have:=g2 L l e;simp only[Obj.ver]at this;omega⟩
 refine⟨rfl,.inl ⟨.pointer (some ⟨w.heap.size,0,none⟩),w.alloc (.cells (ev ρr x).cells t),?_,m',Z,h1,m',_,rfl,h2,rfl⟩⟩;simp[execOp,Instr.box,newVar,newRow,newObj];rfl
def zbz{t d:Nat}:Loc P ⟨dst,.makeMap t none,ty,pos,aft,gd⟩ ρ [] (.mp d) [(d,.map [])]:=by
 intro ρr m Z w hops hs hfr
 obtain⟨m',h1,h2⟩:=Step.new (m:=m) (Z:=Z) (w:=w) (k:=d) (o:=.map []) (.map #[] 0) 1 hs.frozen (λL=>hfr d (by simp[keys]) (by simp[keys]) L) λm' g1 g2 g3 =>
  ⟨w.heap.size,#[],0,g1,World.alloc_heap_new w _,rfl,af,af,λa x ha e=>by (have:=vD hs.frozen ha;omega),0,λL l e=>by have:=g2 L l e;simp only[Obj.ver]at this;omega⟩
 refine⟨rfl,.inl ⟨.map (some w.heap.size),w.alloc (.map #[] 0),?_,m',Z,h1,m',_,rfl,h2,rfl⟩⟩;simp[execOp,Instr.makeMap,newObj];rfl
def zl2{n sz:Nat}:∀(parts:List (Nat×V))(j:Nat)(cells:List V),parts.map (·.1)=List.range' j parts.length->j+parts.length=n->cells.length=n*sz->(∀p∈parts,p.2.plain=true/\p.2.cells.length=sz) ->
  zbv ((List.range n).map λi=>(i*sz,sz)) cells parts=some (cells.take (j*sz)++(parts.map (·.2.cells)).flatten)
 |[],j,cells,_,hn,hc,_=>by
  simp only[zbv,List.map_nil,List.flatten_nil,List.append_nil,Option.some.injEq];rw[List.take_of_length_le];simp at hn;subst hn;omega
 |(i,v)::parts,j,cells,h1,hn,hc,hp=>by
  simp only[mk9,lc,List.range'_succ,List.cons.injEq]at h1 hn;obtain⟨rfl,h1⟩:=h1;obtain⟨hv,hvl⟩:=hp (i,v) al
  have hin:i<n:=ab
  have hpl:((List.range n).map λi=>(i*sz,sz))[i]?=some (i*sz,sz):=by
   rw[List.getElem?_map,List.getElem?_range hin];rfl
  have hle:i*sz+sz<=n*sz:=by
   have:(i+1)*sz<=n*sz:=Nat.mul_le_mul_right sz hin
   rwa [Nat.succ_mul]at this
  simp only[zbv,hpl,hv,hvl,Nat.beq_refl,Bool.true_and]
  have hb:Nat.ble (i*sz+sz) cells.length=true:=by rw[hc];exact Nat.ble_eq_true_of_le hle
  rw[if_pos hb];rw[zl2 parts (i+1) _ h1 ab (by simp only[la,List.length_take,List.length_drop,hvl,hc];omega) (λp hp'=>hp p (mcQ _ hp'))]
  congr 1
  have e:(i+1)*sz=(cells.take (i*sz)++v.cells).length:=by simp[hvl,Nat.succ_mul];omega
  rw[e,List.take_left' rfl];simp
def ze6{t d e n sz:Nat}{parts:List (Nat×Operand)}{els:List (List V)}(hT:Kb P t=some (e,sz))(hsz:Nat.ble (n*sz) 16777216=true)(h:zw0 n sz (parts.map λp=>(p.1,evV ρ p.2))=some els):
  Loc P ⟨dst,.buildSlice t n parts.toArray,ty,pos,aft,gd⟩ ρ [] (.sl sz d n 0 n) [(d,.row e sz 0 els)]:=by
 intro ρr m Z w hops hs hfr;have hsz:=lb hsz;unfold Kb at hT;split at hT
 ·rename_i e' hu
  split at hT
  ·rename_i i hi
   split at hT
   ·rename_i hc
    simp only[Option.some.injEq,Prod.mk.injEq]at hT;obtain⟨rfl,rfl⟩:=hT;simp only[bn]at hc;have h0:=lb hc.1;obtain⟨z,hz⟩:=Option.isSome_iff_exists.1 hc.2;unfold zw0 at h;split at h
    ·rename_i hpos
     split at h
     ·rename_i hall
      cases h
      have hlen:parts.length=n:=by have:=congrArg List.length hpos;simpa using this
      have hall':∀p∈parts.map (λp=>(p.1,evV ρ p.2)),p.2.plain=true/\p.2.cells.length=i.size/\p.2.cells.all V.one=true/\p.2.refs=[]:=λp hp=>by
       have:=(List.all_eq_true.1 hall) p hp;simp only[bn,List.isEmpty_iff]at this;exact⟨this.1,eb this.2.1,this.2.2.1,this.2.2.2⟩
      have hcells:((Array.range (n*i.size)).map λj=>z.cells[j % z.cells.size]!).toList.length=n*i.size:=af
      have hfill:=zl2 (n:=n) (sz:=i.size) (parts.map λp=>(p.1,evV ρ p.2)) 0 (((Array.range (n*i.size)).map λj=>z.cells[j % z.cells.size]!).toList.map λ_=>V.undef) (by rw[hpos];simp[List.range_eq_range',hlen]) (by simp[hlen]) af (λp hp=>⟨(hall' p hp).1,(hall' p hp).2.1⟩);simp only[Nat.zero_mul,List.take_zero,List.nil_append]at hfill
      have hun:∀l:List Value,zW (some m) Z (l.map λ_=>V.undef) l:=λl=>by
       induction l with
       |nil=>rfl
       |cons x l ih=>exact⟨x,l,rfl,trivial,ih⟩
      obtain⟨a',hf1,hf2⟩:=zak (m:=some m) (Z:=Z) (places:=(List.range n).map λj=>(j*i.size,i.size)) (place:=λj=>some (j*i.size,i.size)) (by
       intro j p hp;rw[List.getElem?_map]at hp;obtain⟨j',hj',rfl⟩:=Option.map_eq_some_iff.1 hp
       have hlt:j<n:=by have:=(List.getElem?_eq_some_iff.1 hj').1;simpa using this
       rw[List.getElem?_range hlt]at hj'
       cases hj';rfl) (ps:=parts.map λp=>(p.1,ev ρr p.2)) (hun _) af (by
        rw[List.map_map,List.map_map]
        refine zW.of_get af λi v x hv hx=>?_
        rw[List.getElem?_map]at hv hx;obtain⟨p,hp,rfl⟩:=Option.map_eq_some_iff.1 hv;rw[hp]at hx;simp only[Option.map_some,Option.some.injEq,Function.comp]at hx;subst hx
        exact hops p.2 (by have:=List.mem_of_getElem? hp;simp only[Op.operands,List.mem_toArray];exact List.mem_map_of_mem this)) hfill
      have hels:(((parts.map λp=>(p.1,evV ρ p.2)).map (·.2.cells)):List (List V)).length=n:=by simp[hlen]
      have hflat:∀l:List (Nat×V),(∀p∈l,p.2.refs=[])->wG (l.map (·.2.cells)).flatten=[]:=λl=>by
       induction l with
       |nil=>intro _;rfl
       |cons p l ih =>
        intro hp
        have happ:∀a b:List V,wG (a++b)=wG a++wG b:=λa b=>by
         induction a with
         |nil=>rfl
         |cons x a ih=>simp[wG,ih]
        rw[mk9,List.flatten_cons,happ,ih (λq hq=>hp q (mcQ _ hq)),List.append_nil];have h1:=hp p al;cases hv:p.2<;>rw[hv]at h1<;>simp only[V.cells,wG,List.append_nil]<;>exact h1
      have hla:∀l:List (Nat×V),(∀p∈l,p.2.cells.length=i.size)->(l.map (·.2.cells)).flatten.length=l.length*i.size:=λl=>by
       induction l with
       |nil=>intro _;simp
       |cons p l ih =>
        intro hp;rw[mk9,List.flatten_cons,la,ih (λq hq=>hp q (mcQ _ hq)),hp p al,lc,Nat.succ_mul];omega
      have hasz:a'.size=n*i.size:=by
       have h1:=hf2.length;rw[hla _ (λp hp=>(hall' p hp).2.1)]at h1;simpa[hlen]using h1
      have hf3:=zW.flat _ _ (hflat _ λp hp=>(hall' p hp).2.2.2) hf2
      have hnm:n<=maxLen:=by
       have:n<=n*i.size:=Nat.le_mul_of_pos_right n h0;simp only[maxLen];omega
      obtain⟨m',h1,h2⟩:=Step.new (m:=m) (Z:=Z) (w:=w) (k:=d) (o:=.row e' i.size 0 ((parts.map λp=>(p.1,evV ρ p.2)).map (·.2.cells))) (.cells a' e') n hs.frozen (λL=>hfr d (by simp[keys]) (by simp[keys]) L) λm' g1 g2 g3=>by
       by_cases hn0:n=0
       ·have he:((parts.map λp=>(p.1,evV ρ p.2)).map (·.2.cells))=[]:=List.eq_nil_of_length_eq_zero (by rw[hels,hn0])
        have hv0:(Obj.row e' i.size 0 ((parts.map λp=>(p.1,evV ρ p.2)).map (·.2.cells))).ver=0:=by simp only[Obj.ver];rw[hels,hn0]
        rw[hv0]at g1;subst hn0;exact .inl ⟨h0,he,rfl,⟨_,g1⟩,λL l e=>by have:=g2 L l e;rw[hv0]at this;omega⟩
       refine .inr ⟨w.heap.size,n,a',(0,0),g1,ab,World.alloc_heap_new w _,by rw[hels];exact Nat.le_refl _,hnm,hasz,h0,?_,?_,af,af,λa x ha e=>by have:=vD hs.frozen ha;omega,λL l e=>by have:=g2 L l e;simp only[Obj.ver]at this;omega,λoff x ho=>ab⟩
       ·rw[hels,List.take_of_length_le (by simp[hasz])]
        exact hf3
       ·intro x hx
        obtain⟨p,hp,rfl⟩:=List.mem_map.1 hx;exact(hall' p hp).2.1
      have hver:(Obj.row e' i.size 0 ((parts.map λp=>(p.1,evV ρ p.2)).map (·.2.cells))).ver=n:=hels;rw[hver]at h2;refine⟨rfl,.inl ⟨.slice (some ⟨w.heap.size,0,none⟩) n n,w.alloc (.cells a' e'),?_,m',Z,h1,m',_,rfl,h2,af,hnm,.inl af⟩⟩
      have e2:(parts.toArray.map λx=>(x.1,ev ρr x.2)).toList=parts.map λp=>(p.1,ev ρr p.2):=af
      have hgt:¬n*i.size>2 ^ 24:=ab
      simp only[execOp,Instr.buildSlice,Sem.run_bind,run_underlying hu,Result.andThen_ok,sizeOf,typeInfo];simp only[program,Sem.run,hi,Sem.run_bind,Sem.run_pure,Result.andThen_ok,if_neg hgt,e2];by_cases hn0:n*i.size=0
      ·have hA:∀f:Nat->Value,(Array.range (n*i.size)).map f=#[]:=λf=>by
        have e0:Array.range 0=(#[]:Array Nat):=rfl;rw[hn0,e0];simp
       rw[hA]at hf1;simp only[if_pos hn0,Sem.run_pure,Result.andThen_ok,hA,hf1];simp[newRow,newObj];rfl
      ·simp only[if_neg hn0,Sem.run_bind,zeroValue,typeInfo,program,Sem.run,hi,hz,Sem.run_pure,Result.andThen_ok,hf1]
       simp[newRow,newObj];rfl
     ·cases h
    ·cases h
   ·cases hT
  ·cases hT
 ·cases hT
end
def Heap.set:Heap->Nat->Obj->Heap
 |[],_,_=>[]
 |(k',o')::r,k,o=>bif Nat.beq k k' then(k',o)::r else(k',o')::Heap.set r k o
def kz(k:Nat):Heap->Bool
 |[]=>false
 |(k',_)::r=>bif Nat.beq k k' then true else kz k r
def yP{k:Nat}:∀{H:Heap},kz k H=true↔k∈keys H
 |[]=>by simp[kz,keys]
 |(k',o)::r=>by
  simp only[kz,keys,mk9,List.mem_cons]
  cases hb:Nat.beq k k' with
  |true=>simp[eb hb]
  |false =>
   have:k≠k':=λe=>by subst e;rw[Nat.beq_refl]at hb;cases hb
   simp only[cf,this,false_or];exact yP
def zO0{H:Heap}{k:Nat}{o:Obj}(h:H.get k=some o):uB [k] H=some [(k,o)]:=by simp[uB,h]
def zlq(d:Option Nat)(v:V)(ρ:Env):Env:=match d with|some d=>(d,v)::ρ|none=>ρ
section
variable{K0:List Nat}{c:Ctx K0}{P:Program}{r:Option Nat}{N:Nat}{Q:we}{ρ:Env}{H H':Heap}{ds:List Deferred}{all rest:List Oper}{o:Oper}
def K1.perm{ρr:yJ}{w:World}(hp:H.Perm H')(S:K1 c ρ H ρr w):K1 c ρ H' ρr w:=by
 obtain⟨m,Z,S,hR⟩:=S;exact⟨m,Z,⟨S.step.permR hp,λk hk=>S.dom k λh=>hk ((hp.map _).mem_iff.1 h)⟩,hR⟩
def zO1(hp:H.Perm H')(h:zey c P r N all Q rest ρ H' ds):zey c P r N all Q rest ρ H ds:=λρr w ds1 S hM=>h ρr w ds1 (S.perm hp) hM
def zG5(h:(keys H).Nodup->zey c P r N all Q rest ρ H ds):zey c P r N all Q rest ρ H ds:=λρr w ds1 S hM=>by
 obtain⟨m,Z,S',hR⟩:=id S;exact h S'.step.sim.nodup ρr w ds1 S hM
def zUn{F F':Heap}{v:V}(ks:List Nat)(hd:(match o.dst with|some d=>Nat.ble (d+1) N|none=>true)=true)(hw:xu all ρ o=some true)(hks:yu ks=true)(hF:uB ks H=some F)(hl:Loc P o ρ F v F')(hfr:Kd F' ks H=true)
  (h:zey c P r N all Q rest (zlq o.dst v ρ) (F'++qR ks H) ds):zey c P r N all Q (o::rest) ρ H ds:=by
 cases hd':o.dst with
 |none=>rw[hd']at h;exact zOt ks hd' hw hks hF hl hfr h
 |some d=>rw[hd']at h hd;exact zUh d ks hd' hd hw hks hF hl hfr h
def zG6:qR [] H=H:=by simp[qR]
end
def FnA(P:Program)(f:FuncId)(args:List V)(F:Heap)(r:V)(F':Heap):Prop :=
 ∀w m Z vals,wH m Z F w->zW (some m) Z args vals->(∀k,k ∉ keys F->∀L,m k L=none) ->
  Calls P f vals.toArray w λen w'=>∃x m' Z',en=.returned x/\Step m Z F w m' Z' F' w'/\Rep (some m') Z' r x
def zb0(args:List V):Env:=args.zipIdx.map λp=>(p.2,p.1)
def VK{m:Option M}{Z:ZM}:∀(args:List V)(vals:List Value)(j t:Nat),zW m Z args vals->Rep m Z (Env.get ((args.zipIdx j).map λp=>(p.2,p.1)) t) (if j<=t then vals.getD (t-j) Go.undef else Go.undef)
 |[],vals,j,t,h=>by
  cases h
  show True
  trivial
 |v::args,vals,j,t,h=>by
  obtain⟨x,xs,rfl,h1,h2⟩:=h
  show Rep m Z (bif Nat.beq t j then v else(Env.get ((args.zipIdx (j+1)).map λp=>(p.2,p.1)) t)) _
  cases hb:Nat.beq t j with
  |true =>
   have:=eb hb;subst this;simpa using h1
  |false =>
   have hne:t≠j:=λe=>by subst e;rw[Nat.beq_refl]at hb;cases hb
   have ih:=VK args xs (j+1) t h2;rw[cf];by_cases hj:j<=t
   ·rw[if_pos hj]
    rw[if_pos ab]at ih
    have e:t-j=(t-(j+1))+1:=ab
    rw[e];simpa using ih
   ·rw[if_neg hj]
    rw[if_neg ab]at ih;exact ih
def zUo(P:Program)(ρ:Env)(H:Heap):ResultVar->Option V
 |.tmp t=>some (ρ.get t)
 |.cell a ty=>match ρ.get a with
  |.ptr k 0 off=>match H.get k with
   |some (.box _ cs)=>atV P ty cs off
   |_=>none
  |_=>none
def zGj(P:Program)(ρ:Env)(H:Heap):List ResultVar->Option (List V)
 |[]=>some []
 |x::l=>match zUo P ρ H x,zGj P ρ H l with|some v,some vs=>some (v::vs)|_,_=>none
def zTp(fn:Func)(ρ:Env)(H:Heap)(P:Program):Option V :=
 match zGj P ρ H fn.results.toList with
 |some [v]=>some v
 |some vs=>some (.tup vs)
 |none=>none
def zTq(r:V)(F':Heap)(K0:List Nat):Bool :=
 let ks:=keys F'
 yu ks&&(K0.all ks.contains&&(r.refs.all ks.contains&&F'.all λp=>p.2.refs.all ks.contains))
def zUp(P:Program)(fn:Func)(K0:List Nat)(r:V)(F':Heap):we
 |.normal,ρ,H,ds|.ret,ρ,H,ds=>ds=[]/\zTp fn ρ H P=some r/\uB (keys F') H=some F'/\zTq r F' K0=true
 |_,_,_,_=>False
section
variable{P:Program}{f:FuncId}{args:List V}{F F':Heap}{r:V}{N:Nat}
def zfy(tmps:Array Value):ResultVar->Sem Value
 |.tmp t=>pure (tmps.getD t Go.undef)
 |.cell a t=>do loadVar t (<- asAddr (tmps.getD a Go.undef))
def zw1{m:M}{Z:ZM}{H:Heap}{w:World}{ρ:Env}{ρr:yJ}{v:V}(hs:wH m Z H w)(hR:zlp m Z ρ ρr){tmps:Array Value}(ht:∀t,tmps.getD t Go.undef=ρr t):∀{x:ResultVar},zUo P ρ H x=some v ->
  ∃u,(zfy tmps x).run P w=.ok u w/\Rep (some m) Z v u
 |.tmp t,h=>by
  cases h;exact⟨ρr t,by simp only[zfy,ht];rfl,hR t⟩
 |.cell a ty,h=>by
  simp only[zUo]at h;split at h
  ·rename_i k off ha
   split at h
   ·rename_i bt cs hk
    obtain⟨b,cur,g1,g2,g3,g4,g5⟩:=hs.holds _ (Heap.get_mem hk);have hr:=hR a;rw[ha]at hr;obtain⟨f',loc,e1,e2,e3⟩:=hr;cases e1;rw[g1]at e2;cases e2
    have hcell:∀j u,cur.toList[j]?=some u->w.cell? ⟨b,j,none⟩=some u:=λj u hu=>by
     rw[cell_of_row w b j cur bt (0,0) g2];simpa using hu
    unfold atV at h;split at h
    ·rename_i hsh
     split at h
     ·rename_i u hu
      split at h
      ·cases h
       obtain⟨y,h6,h7⟩:=g3.get hu;have hc:=hcell off y h6;refine⟨y,?_,h7⟩;simp[zfy,ht,e3,asAddr,loadVar,qH (oa hsh),load,Sem.run,hc]
      ·cases h
     ·cases h
    ·rename_i n hsh
     split at h
     ·rename_i hk2
      have hk2:=lb hk2;cases h;have hl:=g3.length
      have hll:((cur.toList.drop off).take n).length=n:=by simp at hl ⊢;omega
      refine⟨.agg ((cur.toList.drop off).take n).toArray,?_,_,rfl,(g3.drop off).take n⟩;obtain⟨d',i',hd',_,hi',hk'⟩:=id (qS hsh)
      have hcs:∀j u,((cur.toList.drop off).take n)[j]?=some u->w.cell? ((⟨b,off,none⟩:Addr).add j)=some u:=λj u hj=>by
       rw[Addr.add_lit]
       have hjn:j<n:=by have:=(List.getElem?_eq_some_iff.1 hj).1;simp at this;omega
       rw[List.getElem?_take,if_pos hjn,List.getElem?_drop]at hj;exact hcell _ _ hj
      have hld:=run_loadCells_list (P:=P) w (⟨b,off,none⟩:Addr) _ hcs;rw[hll]at hld;simp only[zfy,ht,e3,asAddr,loadVar,Sem.run_bind,Sem.run_pure,Result.andThen_ok,H5 (qS hsh),if_true];simp[sizeOf,typeInfo,hi',hk',hld,Sem.run]
     ·cases h
    ·cases h
   ·cases h
  ·cases h
def zfz{m:M}{Z:ZM}{H:Heap}{w:World}{ρ:Env}{ρr:yJ}(hs:wH m Z H w)(hR:zlp m Z ρ ρr){tmps:Array Value}(ht:∀t,tmps.getD t Go.undef=ρr t):∀{l:List ResultVar}{vs:List V},zGj P ρ H l=some vs ->
  ∃us,(l.mapM (zfy tmps)).run P w=.ok us w/\zW (some m) Z vs us
 |[],vs,h=>by
  cases h;exact⟨[],af,rfl⟩
 |x::l,vs,h=>by
  simp only[zGj]at h;split at h
  ·rename_i v vs' h1 h2
   cases h;obtain⟨u,h3,h4⟩:=zw1 hs hR ht h1;obtain⟨us,h5,h6⟩:=zfz hs hR ht h2;exact⟨u::us,by simp[List.mapM_cons,h3,h5],u,us,rfl,h4,h6⟩
  ·cases h
def zf0{m:M}{Z:ZM}{H:Heap}{w:World}{ρ:Env}{ρr:yJ}{fn:Func}{r:V}(hs:wH m Z H w)(hR:zlp m Z ρ ρr)(h:zTp fn ρ H P=some r){tmps:Array Value}(ht:∀t,tmps.getD t Go.undef=ρr t):
  ∃x,(results fn tmps).run P w=.ok x w/\Rep (some m) Z r x:=by
 have key:∀vs,zGj P ρ H fn.results.toList=some vs->∃us:List Value,(results fn tmps).run P w=.ok (if h:us.toArray.size=1 then us.toArray[0]else .tuple us.toArray) w/\zW (some m) Z vs us:=by
  intro vs hv;obtain⟨us,h1,h2⟩:=zfz hs hR ht hv;refine⟨us,?_,h2⟩
  have e:results fn tmps=(do let vs <- fn.results.mapM (zfy tmps);pure (if h:vs.size=1 then vs[0]else .tuple vs)):=by
   unfold results
   congr 1
  rw[e,Array.mapM_eq_mapM_toList];simp[h1]
 unfold zTp at h;split at h
 ·rename_i v hv
  cases h;obtain⟨us,h1,h2⟩:=key _ hv;obtain⟨u,us',rfl,h3,h4⟩:=h2;cases h4;exact⟨u,by simpa using h1,h3⟩
 ·rename_i vs hne hv
  cases h;obtain⟨us,h1,h2⟩:=key _ hv
  have hl:us.toArray.size≠1:=λe=>by
   have:=h2.length;simp only[List.size_toArray]at e;rw[e]at this
   match vs,this with
   |[v],_=>exact hne v rfl
   |[],h=>simp at h
   |_::_::_,h=>simp at h
  rw[dif_neg hl]at h1;exact⟨_,h1,us,rfl,h2⟩
 ·cases h
def zic{K0:List Nat}{c:Ctx K0}{m:M}{Z:ZM}{H:Heap}:∀(Ds:List Nat)(w:World),Ds.Nodup->(∀D∈Ds,w.heap[D]?=some (.deferred (some []))/\c.W0.heap.size<=D)->QX c m Z H w->∃w',Eng.zzw (Ds.map Eng.mark) w w'/\QX c m Z H w'
 |[],w,_,_,S=>⟨w,rfl,S⟩
 |D::Ds,w,hn,hD,S=>by
  obtain⟨h1,h2⟩:=List.nodup_cons.1 hn;obtain⟨h3,h4⟩:=hD D al
  have S':QX c m Z H (w.putObj D (.deferred none)):=S.lps (row:=some D) (Eng.QF w D _) λb e=>by
   cases e;exact⟨h4,_,h3,rfl⟩
  obtain⟨w',h5,h6⟩:=zic Ds _ h2 (λD' hD'=>by
   obtain⟨h7,h8⟩:=hD D' (mcQ _ hD')
   exact⟨(World.putObj_heap_other (λe=>h1 (by first|(rw[<- e];exact hD')|(rw[e];exact hD')))).trans h7,h8⟩) S'
  exact⟨w',⟨D,rfl,h3,h5⟩,h6⟩
def zAc{fn:Func}{code:Code}(hf:P.funcs[f]?=some fn)(hb:fn.body=some code)(hN:fn.ntmps=N)(ha:Nat.ble args.length N=true)
  (h:∀c:Ctx (keys F),WpV c P none N code (zUp P fn (keys F) r F') (zb0 args) F []):FnA P f args F r F':=by
 intro w m Z vals hs hv hdom;have hvl:=hv.length
 have S:K1 (⟨[],w,m,Z,F,rfl,hdom⟩:Ctx (keys F)) (zb0 args) F (jI vals) w:=⟨m,Z,⟨Step.refl hs,hdom⟩,λt=>by
  have:=VK args vals 0 t hv
  simpa[zb0,jI]using this⟩
 have h':=h ⟨[],w,m,Z,F,rfl,hdom⟩ _ _ _ S (xr.nil rfl);have ha:=lb ha;refine(callsIn_wide (n:=0)).1 (callsIn_of_wp_marks hf hb trivial ?_)
 refine wpIn_mono (h' _ 0 ⟨?_,rfl,λt=>?_⟩) λe a w' hq=>?_
 ·simp;omega
 ·simp only[jI,Array.getD_eq_getD_getElem?,List.getD_eq_getElem?_getD]
  rw[Array.getElem?_append];split
  ·simp
  ·rename_i hlt
   simp only[List.size_toArray]at hlt;rw[List.getElem?_eq_none ab];simp only[List.size_toArray];rw[Array.getElem?_replicate];split<;>rfl
 ·obtain⟨ρr',ds',hf',ρ',H',S',hmk,hq⟩:=hq
  obtain⟨Ds,hds,hn,hD⟩:=hmk.marks rfl
  have key:zUp P fn (keys F) r F' .ret ρ' H' []->∃w2 v,Eng.zzw a.defers w' w2/\(results fn a.tmps).run P w2=.ok v w2/\∃x m' Z',Ending.returned v=.returned x/\Step m Z F w m' Z' F' w2/\Rep (some m') Z' r x:=by
   rintro⟨_,hres,hsel,hfin⟩;simp only[zTq,bn]at hfin;obtain⟨h1,h2,h3,h4⟩:=hfin;obtain⟨m',Z',S2,hR⟩:=S';obtain⟨w2,ht,S4⟩:=zic Ds w' hn hD S2;obtain⟨m2,S3,hc⟩:=S4.cut (keys F') hsel h1 h2 h4;obtain⟨x,hx1,hx2⟩:=zf0 S4.step.sim hR hres (tmps:=a.tmps) hf'.get;exact⟨w2,x,by rw[hf'.defs,hds];exact ht,hx1,x,m2,Z',rfl,S3.step,hc _ _ h3 hx2⟩
  cases e with
  |normal =>
   obtain⟨w2,v,ht,hr,hR⟩:=key hq;exact Eng.oJ _ _ _ ht hr hR
  |ret =>
   obtain⟨w2,v,ht,hr,hR⟩:=key hq;exact Eng.oJ _ _ _ ht hr hR
  |panic c=>exact hq.elim
  |exit id=>exact hq.elim
  |goto l=>exact hq.elim
  |outgrown=>exact hq.elim
end
def Obj.ren(σ:Nat->Nat):Obj->Obj
 |.box t cs=>.box t (ze5 σ cs)
 |o=>o
def Ke(σ:Nat->Nat)(F:Heap):Heap:=F.map λp=>(σ p.1,p.2.ren σ)
def asg:List (Nat×Nat)->Nat->Nat
 |[],k=>k
 |(a,b)::r,k=>bif Nat.beq k a then b else asg r k
def A7(args:List V)(F:Heap):Bool:=(wG args).all (keys F).contains&&F.all λp=>p.2.refs.all (keys F).contains
def vt{σ:Nat->Nat}{F:Heap}:keys (Ke σ F)=(keys F).map σ:=by simp[keys,Ke]
def zb1{σ:Nat->Nat}{m mc:M}{p:Nat×Obj}(h:mc p.1=m (σ p.1)):blk mc p=blk m (σ p.1,p.2.ren σ):=by
 obtain⟨k,o⟩:=p;simp only at h
 funext b
 cases o<;>simp only[blk,u9,Obj.ren,Obj.ver,h]
mutual
def Rep.unren{f f':M}{Z:ZM}(σ:Nat->Nat):∀(v:V)(x:Value),(∀k∈v.refs,∀L loc,f (σ k) L=some loc->f' k L=some loc)->Rep (some f) Z (v.ren σ) x->Rep (some f') Z v x
 |.undef,x,_,h=>trivial
 |.no,x,_,h=>h
 |.int k n,x,_,h=>h
 |.bool b,x,_,h=>h
 |.str l,x,_,h=>h
 |.nilp,x,_,h=>h
 |.ptr k L off,x,hm,h=>by
  obtain⟨g,loc,h1,h2,h3⟩:=h;cases h1;exact⟨f',loc,rfl,hm k (by simp[V.refs]) _ _ h2,h3⟩
 |.vp cs off,x,_,h=>h
 |.nils,x,_,h=>h
 |.sl sz k L o n,x,hm,h=>by
  obtain⟨g,loc,h1,h2,h3⟩:=h;cases h1;exact⟨f',loc,rfl,hm k (by simp[V.refs]) _ _ h2,h3⟩
 |.vs sz els,x,_,h=>h
 |.fn g first caps,x,hm,h=>by
  obtain⟨l1,l2,h1,h2,h3⟩:=h;exact⟨l1,l2,h1,zW.unren σ first l1 (λk hk=>hm k (by simp[V.refs,hk])) h2,zW.unren σ caps l2 (λk hk=>hm k (by simp[V.refs,hk])) h3⟩
 |.nilf,x,_,h=>h
 |.agg cs,x,hm,h=>by
  obtain⟨l,h1,h2⟩:=h;exact⟨l,h1,zW.unren σ cs l (λk hk=>hm k (by simpa[V.refs]using hk)) h2⟩
 |.tup xs,x,hm,h=>by
  obtain⟨l,h1,h2⟩:=h;exact⟨l,h1,zW.unren σ xs l (λk hk=>hm k (by simpa[V.refs]using hk)) h2⟩
 |.nilm,x,_,h=>h
 |.mp k,x,hm,h=>by
  obtain⟨g,loc,h1,h2,h3⟩:=h;cases h1;exact⟨f',loc,rfl,hm k (by simp[V.refs]) _ _ h2,h3⟩
 |.nili,x,_,h=>h
 |.ifc t v,x,hm,h=>by
  obtain⟨y,h1,h2⟩:=h;exact⟨y,h1,Rep.unren σ v y (λk hk=>hm k (by simpa[V.refs]using hk)) h2⟩
 |.gv k R,x,hm,h=>by
  obtain⟨g,h1,h2⟩:=h;cases h1;exact⟨f',rfl,R.mono _ _ _ (hm k (by simp[V.refs])) h2⟩
 |.pv R,x,hm,h=>h
def zW.unren{f f':M}{Z:ZM}(σ:Nat->Nat):∀(vs:List V)(l:List Value),(∀k∈wG vs,∀L loc,f (σ k) L=some loc->f' k L=some loc)->zW (some f) Z (ze5 σ vs) l->zW (some f') Z vs l
 |[],l,_,h=>h
 |v::vs,l,hm,h=>by
  obtain⟨x,xs,h1,h2,h3⟩:=h;exact⟨x,xs,h1,Rep.unren σ v x (λk hk=>hm k (by simp[wG,hk])) h2,zW.unren σ vs xs (λk hk=>hm k (by simp[wG,hk])) h3⟩
end
section
variable{P:Program}{f:FuncId}{args:List V}{F F':Heap}{r:V}{σ:Nat->Nat}
def zAd{l:List Nat}(h:(l.map σ).Nodup):∀{a b:Nat},a∈l->b∈l->σ a=σ b->a=b:=by
 induction l with
 |nil=>intro a b ha;cases ha
 |cons x l ih =>
  rw[mk9,List.nodup_cons]at h;intro a b ha hb e
  rcases List.mem_cons.1 ha with h1|h1<;>rcases List.mem_cons.1 hb with h2|h2
  ·rw[h1,h2]
  ·subst h1;exact(h.1 (e▸List.mem_map_of_mem h2)).elim
  ·subst h2;exact(h.1 (e▸List.mem_map_of_mem h1)).elim
  ·exact ih h.2 h1 h2 e
def FnA.at(h:FnA P f args F r F')(hσ:yu ((keys F').map σ)=true)(hcl:A7 args F=true)(hsub:((keys F).all (keys F').contains)=true):
  ∀w m Z vals,wH m Z (Ke σ F) w->zW (some m) Z (ze5 σ args) vals->(∀k∈keys (Ke σ F'),k ∉ keys (Ke σ F)->∀L,m k L=none) ->
   Calls P f vals.toArray w λen w'=>∃x m' Z',en=.returned x/\Step m Z (Ke σ F) w m' Z' (Ke σ F') w'/\Rep (some m') Z' (r.ren σ) x:=by
 intro w m Z vals hs hv hnew;simp only[A7,bn]at hcl
 have hsub':∀k∈keys F,k∈keys F':=λk hk=>by have:=(List.all_eq_true.1 hsub) k hk;simpa using this
 have hinj:∀{a b:Nat},a∈keys F'->b∈keys F'->σ a=σ b->a=b:=zAd (yA hσ)
 let mc:M:=λk L=>if k∈keys F then m (σ k) L else none
 have hmc:∀k∈keys F,mc k=m (σ k):=λk hk=>by funext L;simp[mc,hk]
 have hmcn:∀k,k ∉ keys F->∀L,mc k L=none:=λk hk L=>by simp[mc,hk]
 have hblk:∀p∈F,blk mc p=blk m (σ p.1,p.2.ren σ):=λp hp=>zb1 (hmc p.1 (mem_keys hp))
 have hmem:∀p∈F,(σ p.1,p.2.ren σ)∈Ke σ F:=λp hp=>List.mem_map.2 ⟨p,hp,rfl⟩
 have hsc:wH mc Z F w:=by
  refine⟨hs.frozen,λp hp=>?_,?_,λp hp q hq b h1 h2=>?_⟩
  ·have hh:=hs.holds _ (hmem p hp)
   have hk:=hmc p.1 (mem_keys hp);obtain⟨k,o⟩:=p
   cases o with
   |box t cs =>
    obtain⟨b,cur,h1,h2,h3,h4,h5⟩:=hh;refine⟨b,cur,by rw[hk];exact h1,h2,zW.unren σ cs _ (λj hj L loc e=>?_) h3,h4,by rw[hk];exact h5⟩;have:=(List.all_eq_true.1 hcl.2) _ hp;have:=(List.all_eq_true.1 this) j hj;rw[hmc j (by simpa using this)];exact e
   |row t sz fz els =>
    rcases hh with⟨h1,h2,h3,⟨b,h4⟩,h5⟩|⟨b,cap,cur,fr,h1,h2⟩
    ·exact .inl ⟨h1,h2,h3,⟨b,by rw[hk];exact h4⟩,by rw[hk];exact h5⟩
    ·exact .inr ⟨b,cap,cur,fr,by rw[hk];exact h1,by rw[hk];exact h2⟩
   |map l =>
    obtain⟨b,es,clock,h1,h2⟩:=hh;exact⟨b,es,clock,by rw[hk];exact h1,by rw[hk];exact h2⟩
   |glob g t cs=>exact⟨by rw[hk];exact hh.1,hh.2.1,by rw[hk];exact hh.2.2⟩
   |nest t e sz pd ls =>
    show uA (mc k) _ _ t e sz pd ls
    rw[hk];exact hh
   |gen G =>
    show G.holds (mc k) _ _
    rw[hk];exact hh
  ·have:=hs.nodup
   rw[vt]at this;exact wI _ this
  ·rw[hblk p hp]at h1
   rw[hblk q hq]at h2;exact hinj (hsub' _ (mem_keys hp)) (hsub' _ (mem_keys hq)) (hs.disj _ (hmem p hp) _ (hmem q hq) b h1 h2)
 refine Calls.mono (h w mc Z vals hsc (zW.unren σ args vals (λj hj L loc e=>?_) hv) hmcn) ?_
 ·have:=(List.all_eq_true.1 hcl.1) j hj
  rw[hmc j (by simpa using this)];exact e
 rintro en w' ⟨x,mc',Z',he,hst,hr⟩
 let m':M:=λk2 L=>match (keys F').find? (λi=>decide (σ i=k2))with
  |some i=>mc' i L
  |none=>m k2 L
 have hm'1:∀i∈keys F',m' (σ i)=mc' i:=λi hi=>by
  funext L
  cases hf:(keys F').find? (λj=>decide (σ j=σ i))with
  |none =>
   have:=List.find?_eq_none.1 hf i hi;simp at this
  |some j =>
   have h1:=List.find?_some hf;have h2:=List.mem_of_find?_eq_some hf;simp only[decide_eq_true_eq]at h1;have:=hinj h2 hi h1;subst this;simp only[m',hf]
 have hm'2:∀k,k ∉ keys (Ke σ F')->m' k=m k:=λk hk=>by
  funext L
  have:(keys F').find? (λj=>decide (σ j=k))=none:=List.find?_eq_none.2 λj hj=>by
   simp only[decide_eq_true_eq];rintro rfl;exact hk (by rw[vt];exact List.mem_map_of_mem hj)
  simp only[m',this]
 have hext:∀i∈keys F',∀L loc,mc' i L=some loc->m' (σ i) L=some loc:=λi hi L loc e=>by rw[hm'1 i hi];exact e
 have hext2:∀k L loc,mc' k L=some loc->m' (σ k) L=some loc:=λk L loc e=>by
  by_cases hk:k∈keys F'
  ·exact hext k hk L loc e
  ·rw[hst.newk k hk]at e
   rw[hmcn k (λh'=>hk (hsub' k h'))]at e;cases e
 have hblk':∀p∈F',blk m' (σ p.1,p.2.ren σ)=blk mc' p:=λp hp=>(zb1 (hm'1 p.1 (mem_keys hp)).symm).symm
 have hblkF:∀p∈F,∀b,blk mc p b->∃q∈Ke σ F,blk m q b:=λp hp b hb=>⟨_,hmem p hp,by rw[<- hblk p hp];exact hb⟩
 refine⟨x,m',Z',he,⟨⟨hst.sim.frozen,?_,?_,?_⟩,?_,hst.zext,hst.os,hst.tape,hst.output,hst.size,?_,?_,hm'2,?_,?_⟩,Rep.ren σ r x (λk _ L loc e=>hext2 k L loc e) hr⟩
 ·intro q hq
  obtain⟨p,hp,rfl⟩:=List.mem_map.1 hq;have hh:=hst.sim.holds p hp;have hk:=hm'1 p.1 (mem_keys hp);obtain⟨k,o⟩:=p
  cases o with
  |box t cs =>
   obtain⟨b,cur,h1,h2,h3,h4,h5⟩:=hh;exact⟨b,cur,by rw[hk];exact h1,h2,zW.ren σ cs _ (λj _ L loc e=>hext2 j L loc e) h3,h4,by rw[hk];exact h5⟩
  |row t sz fz els =>
   rcases hh with⟨h1,h2,h3,⟨b,h4⟩,h5⟩|⟨b,cap,cur,fr,h1,h2⟩
   ·exact .inl ⟨h1,h2,h3,⟨b,by rw[hk];exact h4⟩,by rw[hk];exact h5⟩
   ·exact .inr ⟨b,cap,cur,fr,by rw[hk];exact h1,by rw[hk];exact h2⟩
  |map l =>
   obtain⟨b,es,clock,h1,h2⟩:=hh;exact⟨b,es,clock,by rw[hk];exact h1,by rw[hk];exact h2⟩
  |glob g t cs=>exact⟨by rw[hk];exact hh.1,hh.2.1,by rw[hk];exact hh.2.2⟩
  |nest t e sz pd ls =>
   show uA (m' (σ k)) _ _ t e sz pd ls
   rw[hk];exact hh
  |gen G =>
   show G.holds (m' (σ k)) _ _
   rw[hk];exact hh
 ·rw[vt];exact yA hσ
 ·intro p hp q hq b h1 h2
  obtain⟨p',hp',rfl⟩:=List.mem_map.1 hp;obtain⟨q',hq',rfl⟩:=List.mem_map.1 hq;rw[hblk' p' hp']at h1;rw[hblk' q' hq']at h2;exact congrArg σ (hst.sim.disj p' hp' q' hq' b h1 h2)
 ·intro k L loc e
  by_cases hk:k∈keys (Ke σ F')
  ·rw[vt]at hk
   obtain⟨i,hi,rfl⟩:=List.mem_map.1 hk;rw[hm'1 i hi];by_cases hiF:i∈keys F
   ·exact hst.mext i L loc (by rw[hmc i hiF];exact e)
   ·rw[hnew (σ i) (by rw[vt];exact List.mem_map_of_mem hi) (λh'=>by
     rw[vt]at h';obtain⟨j,hj,e'⟩:=List.mem_map.1 h';have:=hinj (hsub' j hj) hi e';subst this
     exact hiF hj)]at e
    cases e
  ·rw[hm'2 k hk];exact e
 ·intro b hb hn
  exact hst.frame b hb λp hp e=>by
   obtain⟨q,hq,e'⟩:=hblkF p hp b e;exact hn q hq e'
 ·intro k hk
  rw[vt]at hk ⊢;obtain⟨i,hi,rfl⟩:=List.mem_map.1 hk;exact List.mem_map_of_mem (hst.keep i hi)
 ·intro q hq b hb
  obtain⟨p,hp,rfl⟩:=List.mem_map.1 hq;rw[hblk' p hp]at hb
  exact(hst.blks p hp b hb).imp id λ⟨p',hp',e⟩=>hblkF p' hp' b e
 ·intro a x ha
  exact(hst.znew a x ha).imp id (Or.imp id λ⟨p',hp',e⟩=>hblkF p' hp' _ e)
end
mutual
inductive View(F:Heap):V->V->Prop
 |weak {v v':V} (h:∀(m:Option M)(Z:ZM)(x:Value),Rep m Z v x->Rep m Z v' x):View F v v'
 |same (v:V):View F v v
 |nils (sz:Nat):View F .nils (.vs sz [])
 |row {k sz t fz L:Nat} {els:List (List V)} (h:F.get k=some (.row t sz fz els)) (hL:L=els.length):View F (.sl sz k L 0 L) (.vs sz els)
 |sub {k sz t fz L o n:Nat} {els:List (List V)} (h:F.get k=some (.row t sz fz els)) (hL:L=els.length) (hn:o+n<=L):View F (.sl sz k L o n) (.vs sz ((els.drop o).take n))
 |agg {cs cs':List V} (h:kr F cs cs'):View F (.agg cs) (.agg cs')
 |nrow {k sz t fz L:Nat} {els:List (List V)} (h:F.get k=some (.row t sz fz els)) (hL:L=els.length):View F (.gv k (zLw sz L)) (.vs sz els)
inductive kr(F:Heap):List V->List V->Prop
 |nil:kr F [] []
 |cons {v v':V} {l l':List V} (h:View F v v') (h':kr F l l'):kr F (v::l) (v'::l')
end
def frz:Heap->Heap
 |[]=>[]
 |(k,.row t sz _ els)::r=>(k,.row t sz els.length els)::frz r
 |p::r=>p::frz r
open Classical in
noncomputable def zl3(m:M)(Z:ZM)(F:Heap)(w:World):ZM:=λa =>
 if a.spot=none/\∃k t sz fz els b cap,(k,Obj.row t sz fz els)∈F/\m k els.length=some (b,cap)/\0<cap/\a.block=b/\a.off<els.length*sz then w.cell? a else Z a
def qd:∀{F:Heap}{p:Nat×Obj},p∈frz F->(∃k t sz fz els,(k,Obj.row t sz fz els)∈F/\p=(k,.row t sz els.length els))∨(p∈F/\∀t sz fz els,p.2≠.row t sz fz els)
 |[],p,h=>by cases h
 |(k,.row t sz fz els)::r,p,h=>by
  simp only[frz]at h
  rcases List.mem_cons.1 h with rfl|h
  ·exact .inl ⟨k,t,sz,fz,els,al,rfl⟩
  ·rcases qd h with⟨k,t,sz,fz,els,h1,h2⟩|⟨h1,h2⟩
   ·exact .inl ⟨k,t,sz,fz,els,mcQ _ h1,h2⟩
   ·exact .inr ⟨mcQ _ h1,h2⟩
 |(k,.box t cs)::r,p,h=>by
  simp only[frz]at h
  rcases List.mem_cons.1 h with rfl|h
  ·exact .inr ⟨al,λ_ _ _ _ e=>by cases e⟩
  ·rcases qd h with⟨k,t,sz,fz,els,h1,h2⟩|⟨h1,h2⟩
   ·exact .inl ⟨k,t,sz,fz,els,mcQ _ h1,h2⟩
   ·exact .inr ⟨mcQ _ h1,h2⟩
 |(k,.map l)::r,p,h=>by
  simp only[frz]at h
  rcases List.mem_cons.1 h with rfl|h
  ·exact .inr ⟨al,λ_ _ _ _ e=>by cases e⟩
  ·rcases qd h with⟨k,t,sz,fz,els,h1,h2⟩|⟨h1,h2⟩
   ·exact .inl ⟨k,t,sz,fz,els,mcQ _ h1,h2⟩
   ·exact .inr ⟨mcQ _ h1,h2⟩
 |(k,.glob g t cs)::r,p,h=>by
  simp only[frz]at h
  rcases List.mem_cons.1 h with rfl|h
  ·exact .inr ⟨al,λ_ _ _ _ e=>by cases e⟩
  ·rcases qd h with⟨k,t,sz,fz,els,h1,h2⟩|⟨h1,h2⟩
   ·exact .inl ⟨k,t,sz,fz,els,mcQ _ h1,h2⟩
   ·exact .inr ⟨mcQ _ h1,h2⟩
 |(k,.nest g t sz0 pd0 ls0)::r,p,h=>by
  simp only[frz]at h
  rcases List.mem_cons.1 h with rfl|h
  ·exact .inr ⟨al,λ_ _ _ _ e=>by cases e⟩
  ·rcases qd h with⟨k,t,sz,fz,els,h1,h2⟩|⟨h1,h2⟩
   ·exact .inl ⟨k,t,sz,fz,els,mcQ _ h1,h2⟩
   ·exact .inr ⟨mcQ _ h1,h2⟩
 |(k,.gen g)::r,p,h=>by
  simp only[frz]at h
  rcases List.mem_cons.1 h with rfl|h
  ·exact .inr ⟨al,λ_ _ _ _ e=>by cases e⟩
  ·rcases qd h with⟨k,t,sz,fz,els,h1,h2⟩|⟨h1,h2⟩
   ·exact .inl ⟨k,t,sz,fz,els,mcQ _ h1,h2⟩
   ·exact .inr ⟨mcQ _ h1,h2⟩
def wL:∀{F:Heap},keys (frz F)=keys F
 |[]=>rfl
 |(k,.row t sz fz els)::r=>by simp only[frz,keys,mk9];congr 1;exact wL
 |(k,.box t cs)::r=>by simp only[frz,keys,mk9];congr 1;exact wL
 |(k,.map l)::r=>by simp only[frz,keys,mk9];congr 1;exact wL
 |(k,.glob g t cs)::r=>by simp only[frz,keys,mk9];congr 1;exact wL
 |(k,.nest g t sz0 pd0 ls0)::r=>by simp only[frz,keys,mk9];congr 1;exact wL
 |(k,.gen g)::r=>by simp only[frz,keys,mk9];congr 1;exact wL
section
variable{m:M}{Z:ZM}{F:Heap}{w:World}
def zqh(hf:∀a x,Z a=some x->w.cell? a=some x):∀a x,Z a=some x->zl3 m Z F w a=some x:=λa x h=>by
 unfold zl3;split
 ·exact hf a x h
 ·exact h
def zAe(hf:∀a x,Z a=some x->w.cell? a=some x):∀a x,zl3 m Z F w a=some x->w.cell? a=some x:=λa x h=>by
 unfold zl3 at h;split at h
 ·exact h
 ·exact hf a x h
def ztj:∀{l:Heap},(keys l).Nodup->∀p∈l,∀q∈l,q.1=p.1->q=p:=by
 intro l hl
 induction l with
 |nil=>intro p hp;cases hp
 |cons a l ih =>
  simp only[keys,mk9,List.nodup_cons]at hl;intro p hp q hq e
  rcases List.mem_cons.1 hp with h1|h1<;>rcases List.mem_cons.1 hq with h2|h2
  ·rw[h1,h2]
  ·exact(hl.1 (List.mem_map.2 ⟨q,h2,by rw[e,h1]⟩)).elim
  ·exact(hl.1 (List.mem_map.2 ⟨p,h1,by rw[<- e,h2]⟩)).elim
  ·exact ih hl.2 p h1 q h2 e
def Step.freeze(hs:wH m Z F w):Step m Z F w m (zl3 m Z F w) (frz F) w:=by
 have hver:∀p∈frz F,∃q∈F,p.1=q.1/\blk m p=blk m q:=λp hp=>by
  rcases qd hp with⟨k,t,sz,fz,els,h1,h2⟩|⟨h1,_⟩
  ·subst h2;exact⟨_,h1,rfl,rfl⟩
  ·exact⟨p,h1,rfl,rfl⟩
 have hzb:∀a x,zl3 m Z F w a=some x->Z a=some x∨∃k t sz fz els b cap,(k,Obj.row t sz fz els)∈F/\m k els.length=some (b,cap)/\0<cap/\a.block=b/\a.off<els.length*sz:=λa x h=>by
  unfold zl3 at h;split at h
  ·rename_i hc;exact .inr hc.2
  ·exact .inl h
 refine⟨⟨zAe hs.frozen,λp hp=>?_,by rw[wL];exact hs.nodup,λp hp q hq b h1 h2=>?_⟩,λ_ _ _ e=>e,zqh hs.frozen,rfl,rfl,rfl,aq,λ_ _ _=>rfl,λk hk=>by rw[wL];exact hk,λ_ _=>rfl,λp hp b hb=>?_,λa x ha=>?_⟩
 ·rcases qd hp with⟨k,t,sz,fz,els,h1,h2⟩|⟨h1,h2⟩
  ·subst h2
   rcases hs.holds _ h1 with⟨g1,rfl,g3,g4,g5⟩|⟨b,cap,cur,fr,g1,g0,g2,g3,g4,g5,g6,g7,g8,g9,g10,g11,g12,g13⟩
   ·exact .inl ⟨g1,rfl,rfl,g4,g5⟩
   have hc0:cap≠0:=ab
   refine .inr ⟨b,cap,cur,fr,g1,g0,g2,g3,g4,g5,g6,g7.up (zqh hs.frozen) (λf e=>by cases e),g8,Nat.le_trans g9 (Nat.mul_le_mul_right _ g10),aq,λa x ha e=>?_,g12,λoff x ho hx=>?_⟩
   ·rcases hzb a x ha with h'|⟨k',t',sz',fz',els',b',cap',h1',h2',h0',h3',h4'⟩
    ·exact Nat.lt_of_lt_of_le (g11 a x h' e) (Nat.mul_le_mul_right _ g10)
    ·have hc1:cap'≠0:=ab
     have hk:k'=k:=hs.disj _ h1' _ h1 b (by simp[blk,u9,Obj.ver,h2',hc1,<- h3',e]) (by simp[blk,u9,Obj.ver,g1,hc0]);subst hk;have hq:=ztj hs.nodup _ h1 _ h1' rfl;simp only[Prod.mk.injEq,Obj.row.injEq,true_and]at hq;obtain⟨_,rfl,_,rfl⟩:=hq;exact h4'
   ·unfold zl3
    rw[if_pos ⟨rfl,k,t,sz,fz,els,b,cap,h1,g1,g0,rfl,ho⟩,cell_of_row w b off cur t fr g2];exact hx
  ·have hh:=hs.holds p h1
   refine hh.keep (λ_ _ _ e=>e) rfl (zqh hs.frozen) λb hb=>⟨rfl,λa x ha e=>?_⟩
   rcases hzb a x ha with h'|⟨k',t',sz',fz',els',b',cap',h1',h2',h0',h3',h4'⟩
   ·exact h'
   ·have hc1:cap'≠0:=ab
    have hk:k'=p.1:=hs.disj _ h1' _ h1 b (by simp[blk,u9,Obj.ver,h2',hc1,<- h3',e]) hb;have:=ztj hs.nodup p h1 _ h1' hk;exact absurd (by rw[<- this]) (h2 t' sz' fz' els')
 ·obtain⟨p',hp',e1,e2⟩:=hver p hp
  obtain⟨q',hq',e3,e4⟩:=hver q hq;rw[e1,e3];exact hs.disj p' hp' q' hq' b (e2▸h1) (e4▸h2)
 ·obtain⟨q,hq,_,e⟩:=hver p hp
  exact .inr ⟨q,hq,e▸hb⟩
 ·rcases hzb a x ha with h'|⟨k',t',sz',fz',els',b',cap',h1',h2',h0',h3',h4'⟩
  ·exact .inl h'
  ·have hc1:cap'≠0:=ab
   exact .inr (.inr ⟨_,h1',by simp[blk,u9,Obj.ver,h2',h3',hc1]⟩)
end
def AF{sz:Nat}:∀{els:List (List V)},(∀e∈els,e.length=sz)->∀{i j:Nat}{cs:List V}{v:V},els[i]?=some cs->cs[j]?=some v->els.flatten[i*sz+j]?=some v
 |[],_,i,j,cs,v,h,_=>by simp at h
 |e::r,hk,0,j,cs,v,h,hj=>by
  simp only[List.getElem?_cons_zero,Option.some.injEq]at h;subst h;rw[List.flatten_cons,Nat.zero_mul,Nat.zero_add,List.getElem?_append_left (List.getElem?_eq_some_iff.1 hj).1];exact hj
 |e::r,hk,i+1,j,cs,v,h,hj=>by
  have he:=hk e al;rw[List.flatten_cons,List.getElem?_append_right (by rw[he,Nat.succ_mul];omega)];rw[show(i+1)*sz+j-e.length=i*sz+j by rw[he,Nat.succ_mul];omega];exact AF (λx hx=>hk x (mcQ _ hx)) (by simpa using h) hj
def j6{sz:Nat}:∀{els:List (List V)},(∀e∈els,e.length=sz)->els.flatten.length=els.length*sz
 |[],_=>af
 |e::r,hk=>by
  rw[List.flatten_cons,la,j6 (λx hx=>hk x (mcQ _ hx)),hk e al,lc,Nat.succ_mul];omega
section
variable{m:M}{Z:ZM}{F:Heap}{w:World}
def zqi{k t sz:Nat}{els:List (List V)}(h:Holds m Z w k (.row t sz els.length els)):∃b cap,m k els.length=some (b,cap)/\els.length<=cap/\(cap=0∨wK Z ⟨b,0,none⟩ sz 0 els):=by
 rcases h with⟨g1,rfl,g3,⟨b,g4⟩,g5⟩|⟨b,cap,cur,fr,g1,g0,g2,g3,g4,g5,g6,g7,g8,g9,g10,g11,g12,g13⟩
 ·exact⟨b,0,g4,aq,.inl rfl⟩
 refine⟨b,cap,g1,g3,.inr (wK.of_get λi cs hi=>⟨g8 cs (List.mem_of_getElem? hi),A5.of_get λj v hj=>?_⟩)⟩;have hil:i<els.length:=(List.getElem?_eq_some_iff.1 hi).1
 have hjl:j<sz:=by have:=(List.getElem?_eq_some_iff.1 hj).1;rw[g8 cs (List.mem_of_getElem? hi)]at this;exact this
 have hlt:i*sz+j<els.length*sz:=by
  have:(i+1)*sz<=els.length*sz:=Nat.mul_le_mul_right sz hil;rw[Nat.succ_mul]at this;omega
 obtain⟨x,h1,h2⟩:=g7.get (AF g8 hi hj);rw[List.getElem?_take,if_pos hlt]at h1;refine⟨x,?_,h2⟩;rw[Nat.zero_add,Nat.zero_add,VI,Addr.add_lit,Nat.zero_add];exact g13 _ x hlt (by simpa using h1)
def zid{m:Option M}{Z:ZM}{k sz n:Nat}{x:Value}(h:Rep m Z (.gv k (zLw sz n)) x):Rep m Z (.sl sz k n 0 n) x:=by
 obtain⟨f,hf,loc,h1,h2,h3,h4⟩:=h;refine⟨f,loc,hf,h1,ab,h3,?_⟩
 rcases h4 with⟨_,h4⟩|⟨h5,h6,h4⟩
 ·exact .inl h4
 ·exact .inr (.inl ⟨h6,none,h4⟩)
def zw2{m:Option M}{Z:ZM}{k sz n:Nat}{x:Value}(hn:n≠0)(h:Rep m Z (.sl sz k n 0 n) x):Rep m Z (.gv k (zLw sz n)) x:=by
 obtain⟨f,loc,hf,h1,h2,h3,h4⟩:=h;refine⟨f,hf,loc,h1,ab,h3,.inl ⟨hn,?_⟩⟩
 rcases h4 with h4|⟨h4,_⟩|⟨h4,_⟩
 ·exact h4
 ·omega
 ·omega
mutual
def View.rep(hs:∀k t sz fz els,F.get k=some (.row t sz fz els)->Holds m Z w k (.row t sz els.length els)):∀{v v':V},View F v v'->∀{x:Value},Rep (some m) Z v x->Rep (some m) Z v' x
 |_,_,.weak hw,x,h=>hw _ _ _ h
 |_,_,.same v,x,h=>h
 |_,_,.nils sz,x,h=>⟨none,0,h,aq,Nat.zero_le _,.inl rfl⟩
 |_,_,.row (k:=k) (sz:=sz) (t:=t) (fz:=fz) (L:=L) (els:=els) hg hL,x,h=>by
  subst hL;obtain⟨b,cap,h1,h2,h4⟩:=zqi (hs _ _ _ _ _ hg);obtain⟨f,loc,e1,e2,e3,e4,e5⟩:=h;cases e1;rw[h1]at e2;cases e2
  rcases e5 with e5|⟨e5,A,e6⟩|⟨e5,_⟩
  ·refine⟨_,_,e5,by simpa using h2,by simpa using e4,?_⟩
   rcases h4 with h4|h4
   ·exact .inl (List.eq_nil_of_length_eq_zero ab)
   ·exact .inr ⟨⟨b,0,none⟩,af,h4⟩
  ·have:els=[]:=List.eq_nil_of_length_eq_zero (by simp only at e5;omega)
   subst this;exact⟨A,0,e6,aq,by simp[maxLen],.inl rfl⟩
  ·omega
 |_,_,.nrow (k:=k) (sz:=sz) (t:=t) (fz:=fz) (L:=L) (els:=els) hg hL,x,h=>by
  subst hL;have h:=zid h;obtain⟨b,cap,h1,h2,h4⟩:=zqi (hs _ _ _ _ _ hg);obtain⟨f,loc,e1,e2,e3,e4,e5⟩:=h;cases e1;rw[h1]at e2;cases e2
  rcases e5 with e5|⟨e5,A,e6⟩|⟨e5,_⟩
  ·refine⟨_,_,e5,by simpa using h2,by simpa using e4,?_⟩
   rcases h4 with h4|h4
   ·exact .inl (List.eq_nil_of_length_eq_zero ab)
   ·exact .inr ⟨⟨b,0,none⟩,af,h4⟩
  ·have:els=[]:=List.eq_nil_of_length_eq_zero (by simp only at e5;omega)
   subst this;exact⟨A,0,e6,aq,by simp[maxLen],.inl rfl⟩
  ·omega
 |_,_,.sub (k:=k) (sz:=sz) (t:=t) (fz:=fz) (L:=L) (o:=o) (n:=n) (els:=els) hg hL hn,x,h=>by
  subst hL;obtain⟨b,cap,h1,h2,h4⟩:=zqi (hs _ _ _ _ _ hg);obtain⟨f,loc,e1,e2,e3,e4,e5⟩:=h;cases e1;rw[h1]at e2;cases e2
  have hl:((els.drop o).take n).length=n:=by simp;omega
  simp only at e3 e4 e5
  rcases e5 with e5|⟨e5,A,e6⟩|⟨_,e5,A,c',e6,e7⟩
  ·refine⟨some ⟨b,o*sz,none⟩,cap-o,by rw[hl];exact e5,by rw[hl];omega,ab,?_⟩
   rcases h4 with h4|h4
   ·exact .inl (List.eq_nil_of_length_eq_zero (by rw[hl];omega))
   refine .inr ⟨_,rfl,wK.of_get λi cs hi=>?_⟩;rw[List.getElem?_take]at hi;split at hi
   ·rw[List.getElem?_drop]at hi
    have:=h4.get hi;refine⟨this.1,?_⟩;have h5:=this.2;rw[Addr.add_lit]at h5 ⊢;rw[show o*sz+(0+i)*sz=0+(0+(o+i))*sz by rw[Nat.zero_add,Nat.zero_add,Nat.zero_add,Nat.add_mul]];exact h5
   ·cases hi
  ·have h0:(els.drop o).take n=[]:=List.eq_nil_of_length_eq_zero (by rw[hl];omega)
   rw[h0];exact⟨A,0,e6,aq,by simp[maxLen],.inl rfl⟩
  ·have h0:(els.drop o).take n=[]:=List.eq_nil_of_length_eq_zero (by rw[hl];omega)
   rw[h0];exact⟨A,c',e6,Nat.zero_le _,e7,.inl rfl⟩
 |_,_,.agg hl,x,h=>by
  obtain⟨l,h1,h2⟩:=h;exact⟨l,h1,kr.rep hs hl h2⟩
def kr.rep(hs:∀k t sz fz els,F.get k=some (.row t sz fz els)->Holds m Z w k (.row t sz els.length els)):∀{l l':List V},kr F l l'->∀{xs:List Value},zW (some m) Z l xs->zW (some m) Z l' xs
 |_,_,.nil,xs,h=>h
 |_,_,.cons h1 h2,xs,h=>by
  obtain⟨x,xs',rfl,h3,h4⟩:=h;exact⟨x,xs',rfl,View.rep hs h1 h3,kr.rep hs h2 h4⟩
end
end
mutual
/-- No slice among it that is only read. -/
def V.bare:V->Bool
 |.vs ..|.vp ..|.pv ..=>false
 |.agg cs=>VL cs
 |.tup xs=>VL xs
 |.fn _ a b=>VL a&&VL b
 |.ifc _ v=>v.bare
 |_=>true
def VL:List V->Bool
 |[]=>true
 |v::l=>v.bare&&VL l
end
mutual
def Rep.bare{m:Option M}{Z Z':ZM}:∀(v:V)(x:Value),v.bare=true->Rep m Z v x->Rep m Z' v x
 |.undef,x,_,h=>trivial
 |.no,x,_,h=>h
 |.int k n,x,_,h=>h
 |.bool b,x,_,h=>h
 |.str l,x,_,h=>h
 |.nilp,x,_,h=>h
 |.ptr k L off,x,_,h=>h
 |.vp cs off,x,hb,h=>by cases hb
 |.nils,x,_,h=>h
 |.sl sz k L o n,x,_,h=>h
 |.vs sz els,x,hb,h=>by cases hb
 |.fn g first caps,x,hb,h=>by
  obtain⟨l1,l2,h1,h2,h3⟩:=h;simp only[V.bare,bn]at hb;exact⟨l1,l2,h1,zW.bare first l1 hb.1 h2,zW.bare caps l2 hb.2 h3⟩
 |.nilf,x,_,h=>h
 |.agg cs,x,hb,h=>by
  obtain⟨l,h1,h2⟩:=h;exact⟨l,h1,zW.bare cs l hb h2⟩
 |.tup xs,x,hb,h=>by
  obtain⟨l,h1,h2⟩:=h;exact⟨l,h1,zW.bare xs l hb h2⟩
 |.nilm,x,_,h=>h
 |.mp k,x,_,h=>h
 |.nili,x,_,h=>h
 |.ifc t v,x,hb,h=>by
  obtain⟨y,h1,h2⟩:=h;exact⟨y,h1,Rep.bare v y hb h2⟩
 |.gv k R,x,_,h=>h
 |.pv R,x,hb,h=>by cases hb
def zW.bare{m:Option M}{Z Z':ZM}:∀(vs:List V)(l:List Value),VL vs=true->zW m Z vs l->zW m Z' vs l
 |[],l,_,h=>h
 |v::vs,l,hb,h=>by
  obtain⟨x,xs,h1,h2,h3⟩:=h;simp only[VL,bn]at hb;exact⟨x,xs,h1,Rep.bare v x hb.1 h2,zW.bare vs xs hb.2 h3⟩
end
def get_of_mem{F:Heap}(hn:(keys F).Nodup):∀{k:Nat}{o:Obj},(k,o)∈F->F.get k=some o:=by
 induction F with
 |nil=>intro k o h;cases h
 |cons p F ih =>
  obtain⟨k',o'⟩:=p;simp only[keys,mk9,List.nodup_cons]at hn;intro k o h;simp only[Heap.get]
  rcases List.mem_cons.1 h with h|h
  ·cases h;rw[Nat.beq_refl];rfl
  ·have hne:k≠k':=λe=>hn.1 (e▸List.mem_map_of_mem h)
   have:Nat.beq k k'=false:=by
    cases hb:Nat.beq k k' with
    |true=>exact absurd (eb hb) hne
    |false=>rfl
   rw[this,cf];exact ih hn.2 h
section
variable{P:Program}{ρ:Env}{w:World}{dst:Option Tmp}{ty:TypeId}{pos:String}{aft:Array Edge}{gd:Option (Nat×Bool)}{f:FuncId}{l:List Operand}{ts:Array TypeId}{args:List V}{F F' R:Heap}{r:V}
def zAf{ρr:yJ}{w:World}{Rr:Value->World->Prop}(hf:ze P f)(h:Calls P f (l.map (ev ρr)).toArray w λen w'=>∃x,en=.returned x/\Rr x w'):zOr P ⟨dst,.call ⟨.value (.func f),l.toArray,ts⟩,ty,pos,aft,gd⟩ ρr w Rr :=
 ⟨rfl,.inr (.inr ⟨f,_,w,ztb _ hf rfl,h⟩)⟩
end
inductive Src(sz:Nat)(R:Heap):V->List (List V)->Prop
 |vs (ys:List (List V)):Src sz R (.vs sz ys) ys
 |nils:Src sz R .nils []
 |sl {k L t fz:Nat} {ys:List (List V)} (h:R.get k=some (.row t sz fz ys)) (hL:L=ys.length):Src sz R (.sl sz k L 0 L) ys
def VM{Z:ZM}{w:World}{a:Addr}{sz:Nat}{ys:List (List V)}(h0:0<sz)(hf:∀a x,Z a=some x->w.cell? a=some x)(h:wK Z a sz 0 ys):
  ∃news:List Value,zW none Z ys.flatten news/\∀j u,news[j]?=some u->w.cell? (a.add j)=some u:=by
 have hlen:∀e∈ys,e.length=sz:=λe he=>by
  obtain⟨i,hi,rfl⟩:=List.getElem_of_mem he;exact(h.get (List.getElem?_eq_getElem hi)).1
 have hfl:=j6 hlen
 have key:∀j,j<ys.flatten.length->∃x,w.cell? (a.add j)=some x/\∀v,ys.flatten[j]?=some v->Rep none Z v x:=λj hj=>by
  rw[hfl]at hj;have hdiv:j / sz<ys.length:=(Nat.div_lt_iff_lt_mul h0).2 hj;have hmod:j % sz<sz:=Nat.mod_lt _ h0
  have hjk:j / sz*sz+j % sz=j:=by rw[Nat.mul_comm];exact Nat.div_add_mod j sz
  have hge:ys[j / sz]?=some (ys[j / sz]'hdiv):=List.getElem?_eq_getElem hdiv;have hel:=hlen _ (List.getElem_mem hdiv);obtain⟨_,hat⟩:=h.get hge;have hv:(ys[j / sz]'hdiv)[j % sz]?=some ((ys[j / sz]'hdiv)[j % sz]'ab):=List.getElem?_eq_getElem ab;obtain⟨x,h1,h2⟩:=hat.get hv;rw[Nat.zero_add,Nat.zero_add,VI,hjk]at h1;refine⟨x,hf _ _ h1,λv hv'=>?_⟩;have:=AF hlen hge hv;rw[hjk,hv']at this;cases this;exact h2
 let news:List Value:=(List.range ys.flatten.length).map λj=>(w.cell? (a.add j)).getD Go.undef
 have hget:∀j,j<ys.flatten.length->news[j]?=w.cell? (a.add j):=λj hj=>by
  obtain⟨x,h1,_⟩:=key j hj;simp only[news,List.getElem?_map,List.getElem?_range hj,Option.map_some,h1,Option.getD_some]
 refine⟨news,zW.of_get (by simp[news]) λj v x hv hx=>?_,λj u hj=>?_⟩
 ·have hj:=(List.getElem?_eq_some_iff.1 hv).1
  obtain⟨y,h1,h2⟩:=key j hj;rw[hget j hj,h1]at hx;cases hx;exact h2 v hv
 ·have hjl:j<ys.flatten.length:=by have:=(List.getElem?_eq_some_iff.1 hj).1;simpa[news]using this
  rw[<- hget j hjl];exact hj
def Src.read{m:M}{Z:ZM}{w:World}{R:Heap}{sz:Nat}{y:V}{ys:List (List V)}{x:Value}(h:Src sz R y ys)(h0:0<sz)(hs:wH m Z R w)(hx:Rep (some m) Z y x):
  ∃A c,x=.slice A ys.length c/\ys.length<=maxLen/\(A=none->ys=[])/\∀a,A=some a->∃news:List Value,zW none Z ys.flatten news/\∀j u,news[j]?=some u->w.cell? (a.add j)=some u:=by
 cases h with
 |vs =>
  obtain⟨A,c,h1,h2,h3,h4⟩:=hx;refine⟨A,c,h1,ab,λhA=>?_,λa hA=>?_⟩
  ·rcases h4 with h4|⟨a,h4,_⟩
   ·exact h4
   ·rw[hA]at h4;cases h4
  ·rcases h4 with h4|⟨a',h4,h5⟩
   ·subst h4;exact⟨[],rfl,λj u h=>by simp at h⟩
   ·rw[hA]at h4;cases h4
    exact VM h0 hs.frozen h5
 |nils=>exact⟨none,0,hx,by simp[maxLen],λ_=>rfl,λa h=>by cases h⟩
 |sl hg hL =>
  subst hL;obtain⟨f,loc,e1,e2,e3,e4,e5⟩:=hx;cases e1
  replace e5:=e5.imp_right λh=>h.resolve_right λh=>Nat.lt_irrefl 0 h.1
  rcases hs.holds _ (Heap.get_mem hg)with⟨_,h1,_,⟨b,h3⟩,_⟩|⟨b,cap,cur,fr,g1,g0,g2,g3,g4,g5,g6,g7,g8,g9,g10,g11,g12,g13⟩
  ·subst h1
   rcases e5 with e5|⟨_,A,e5⟩
   ·exact⟨_,_,e5,by simp[maxLen],λ_=>rfl,λa _=>⟨[],rfl,λj u h=>by simp at h⟩⟩
   ·exact⟨_,_,e5,by simp[maxLen],λ_=>rfl,λa _=>⟨[],rfl,λj u h=>by simp at h⟩⟩
  ·rw[g1]at e2;cases e2
   rcases e5 with e5|⟨e5,_⟩
   ·refine⟨_,_,e5,ab,λh=>(by cases h),λa h=>?_⟩
    cases h;refine⟨_,g7,λj u hj=>?_⟩;rw[Addr.add_lit,Nat.zero_mul,Nat.zero_add,cell_of_row w b j cur _ fr g2];rw[List.getElem?_take]at hj;split at hj
    ·simpa using hj
    ·cases hj
   ·simp only at e5;omega
def oL(P:Program)(t:Nat):Option (Nat×Nat×Nat) :=
 match P.underlying t with
 |some (.slice e)=>match P.info? e with
  |some i=>match i.zero with
   |some z=>if Nat.ble 1 i.size&&Nat.beq z.cells.size i.size then some (e,i.size,i.bytes)else none
   |none=>none
  |none=>none
 |_=>none
def Hl{P:Program}{t e sz bytes:Nat}(h:oL P t=some (e,sz,bytes)):∃i z,P.underlying t=some (.slice e)/\P.info? e=some i/\i.zero=some z/\i.size=sz/\i.bytes=bytes/\z.cells.size=sz/\0<sz:=by
 unfold oL at h;split at h
 ·rename_i e' hu
  split at h
  ·rename_i i hi
   split at h
   ·rename_i z hz
    split at h
    ·rename_i hc
     simp only[bn]at hc;simp only[Option.some.injEq,Prod.mk.injEq]at h;obtain⟨rfl,rfl,rfl⟩:=h;exact⟨i,z,hu,hi,hz,rfl,rfl,eb hc.2,lb hc.1⟩
    ·cases h
   ·cases h
  ·cases h
 ·cases h
section
variable{P:Program}{m:M}{Z:ZM}{w:World}
def zie{vs:List V}{l:List Value}{mm:Option M}(h:zW mm Z vs l)(h1:vs.all V.one=true):∀u∈l,u.oneCell'=true:=λu hu=>by
 obtain⟨i,hi,he⟩:=List.getElem_of_mem hu;have hl:=h.length;have hv:vs[i]?=some (vs[i]'ab):=List.getElem?_eq_getElem ab;obtain⟨u',h4,h5⟩:=h.get hv;rw[List.getElem?_eq_getElem hi,he]at h4;cases h4;exact h5.one ((List.all_eq_true.1 h1) _ (List.getElem_mem _))
def Step.grown{k t sz fz:Nat}{els all:List (List V)}{cur:Array Value}{cap:Nat}{o:Obj}{w1:World}(hs:wH m Z [(k,o)] w)(hver:o.ver=els.length)(hnew:∀L loc,m k L=some loc->L<=els.length)(hlt:els.length<all.length)
  (hh:w1.heap=w.heap) (h1:w1.os=w.os) (h2:w1.tape=w.tape) (h3:w1.output=w.output)
  (h0:0<sz) (hcap:all.length<=cap) (hcm:cap<=maxLen) (hcs:cur.size=cap*sz) (hr:zW none Z all.flatten (cur.toList.take (all.length*sz))) (hk:∀e∈all,e.length=sz) (hfz:fz<=els.length):
  ∃m' Z',Step m Z [(k,o)] w m' Z' [(k,.row t sz fz all)] (w1.alloc (.cells cur t))/\m' k all.length=some (w.heap.size,cap):=by
 let m':M:=λk' L=>if k'=k/\L=all.length then some (w.heap.size,cap)else m k' L
 have hm1:m' k all.length=some (w.heap.size,cap):=by simp[m']
 have hm2:∀k' L loc,m k' L=some loc->m' k' L=some loc:=λk' L loc e=>by
  by_cases hc:k'=k/\L=all.length
  ·obtain⟨rfl,rfl⟩:=hc
   have:=hnew _ _ e;omega
  ·simp only[m',if_neg hc];exact e
 let Z':ZM:=λa=>if a.block=w.heap.size/\a.spot=none/\a.off<fz*sz then cur[a.off]? else Z a
 have hsz:w1.heap.size=w.heap.size:=by rw[hh]
 have hZlt:∀a x,Z a=some x->a.block<w.heap.size:=λa x ha=>vD hs.frozen ha
 have hZ1:∀a x,Z a=some x->Z' a=some x:=λa x ha=>by
  have:=hZlt a x ha;simp only[Z',if_neg (show ¬(a.block=w.heap.size/\a.spot=none/\a.off<fz*sz) by omega)];exact ha
 have hnewb:(w1.alloc (.cells cur t)).heap[w.heap.size]?=some (.cells cur t (0,0)):=by rw[<- hsz];exact World.alloc_heap_new w1 _
 have hcell:∀off,(w1.alloc (.cells cur t)).cell? ⟨w.heap.size,off,none⟩=cur[off]?:=λoff=>cell_of_row _ _ off cur t (0,0) hnewb
 have hold:∀j,j<w.heap.size->(w1.alloc (.cells cur t)).heap[j]?=w.heap[j]?:=λj hj=>by rw[<- hh];exact Below.heap_alloc w1 _ j ab
 have hc0:cap≠0:=ab
 refine⟨m',Z',⟨⟨λa x ha=>?_,λp hp=>?_,by simp[keys],λp hp q hq _ _ _=>?_⟩,hm2,hZ1,h1,h2,h3,by simp[hsz],λj hj _=>hold j hj,λj hj=>by simpa[keys]using hj,λj hj=>?_,λp hp b hb=>?_,λa x ha=>?_⟩,hm1⟩
 ·simp only[Z']at ha
  split at ha
  ·rename_i hc
   obtain⟨b,off,sp⟩:=a;obtain⟨rfl,rfl,_⟩:=hc;rw[hcell];exact ha
  ·rw[Hk (hold _ (hZlt a x ha))];exact hs.frozen a x ha
 ·simp only[msQ]at hp
  subst hp;refine .inr ⟨w.heap.size,cap,cur,(0,0),hm1,ab,hnewb,hcap,hcm,hcs,h0,hr.up hZ1 (λf e=>by cases e),hk,af,ab,λa x ha e=>?_,λL loc e=>?_,λoff x ho hx=>?_⟩
  ·simp only[Z']at ha
   split at ha
   ·rename_i hc;exact hc.2.2
   ·have:=hZlt a x ha;omega
  ·simp only[m']at e
   split at e
   ·rename_i hc;omega
   ·have:=hnew _ _ e;omega
  ·simp only[Z']
   rw[if_pos (by simp[ho])];exact hx
 ·simp only[msQ]at hp hq
  subst hp;subst hq;rfl
 ·funext L
  have:j≠k:=by simpa[keys]using hj
  simp[m',this]
 ·simp only[msQ]at hp
  subst hp;simp only[blk,u9,u9,Obj.ver,hm1,bsQ,if_neg hc0,Option.some.injEq]at hb;exact .inl ab
 ·simp only[Z']at ha
  split at ha
  ·rename_i hc;exact .inr (.inl ab)
  ·exact .inl ha
def Step.roomed{k t sz fz:Nat}{els all:List (List V)}{b cap:Nat}{cur cur':Array Value}{fr:Nat×Nat}(hs:wH m Z [(k,.row t sz fz els)] w)(g1:m k els.length=some (b,cap))(g0:0<cap)(g2:w.heap[b]?=some (.cells cur t fr))
  (hle:els.length<=all.length) (hcap:all.length<=cap) (hcs:cur'.size=cap*sz) (hsame:∀off,off<els.length*sz->cur'[off]?=cur[off]?) (hr:zW none Z all.flatten (cur'.toList.take (all.length*sz))) (hk:∀e∈all,e.length=sz)
  {w':World} (hw:w'=w.setRow b cur'):∃m',Step m Z [(k,.row t sz fz els)] w m' Z [(k,.row t sz fz all)] w'/\m' k all.length=some (b,cap):=by
 subst hw
 rcases hs.holds _ (msQ.2 rfl)with⟨_,h1,_,⟨b',h3⟩,_⟩|⟨b',cap',cur0,fr',g1',g0',g2',g3,g4,g5,g6,g7,g8,g9,g10,g11,g12,g13⟩
 ·subst h1
  have:=g1.symm.trans h3;simp only[Option.some.injEq,Prod.mk.injEq]at this;omega
 rw[g1]at g1';simp only[Option.some.injEq,Prod.mk.injEq]at g1';obtain⟨rfl,rfl⟩:=g1';rw[g2]at g2';simp only[Option.some.injEq,Obj.cells.injEq]at g2';obtain⟨rfl,_,rfl⟩:=g2'
 let m':M:=λk' L=>if k'=k/\L=all.length then some (b,cap)else m k' L
 have hm1:m' k all.length=some (b,cap):=by simp[m']
 have hm2:∀k' L loc,m k' L=some loc->m' k' L=some loc:=λk' L loc e=>by
  by_cases hc:k'=k/\L=all.length
  ·obtain⟨rfl,rfl⟩:=hc
   have h:=g12 _ _ e
   have:all.length=els.length:=ab
   rw[this,g1]at e;rw[hm1];exact e
  ·simp only[m',if_neg hc];exact e
 have hc0:cap≠0:=ab
 have hnewb:=setRow_heap w b cur cur' t fr g2;have hblt:b<w.heap.size:=(Array.getElem?_eq_some_iff.1 g2).1;have hfzle:fz*sz<=els.length*sz:=Nat.mul_le_mul_right _ g10
 have hcell:∀off,(w.setRow b cur').cell? ⟨b,off,none⟩=cur'[off]?:=λoff=>cell_of_row _ _ off cur' t fr hnewb
 refine⟨m',⟨⟨λa x ha=>?_,λp hp=>?_,by simp[keys],λp hp q hq _ _ _=>?_⟩,hm2,λ_ _ e=>e,rfl,rfl,rfl,af,λj hj hn=>setRow_other w b j _ λe=>?_,λj hj=>by simpa[keys]using hj,λj hj=>?_,λp hp b' hb=>?_,λa x ha=>.inl ha⟩,hm1⟩
 ·by_cases e:a.block=b
  ·have hlt:=g11 a x ha e
   have hc:=hs.frozen a x ha;obtain⟨bb,off,sp⟩:=a;simp only at e hlt;subst e
   have hsp:sp=none:=by
    simp only[World.cell?,g2]at hc
    cases sp with
    |none=>rfl
    |some _=>simp at hc
   subst hsp;rw[cell_of_row w bb off cur t fr g2]at hc;rw[hcell,hsame off ab];exact hc
  ·rw[Hk (setRow_other w b _ _ e)];exact hs.frozen a x ha
 ·simp only[msQ]at hp
  subst hp;refine .inr ⟨b,cap,cur',fr,hm1,g0,hnewb,hcap,g4,hcs,g6,hr,hk,by have:=Nat.mul_le_mul_right sz hle;omega,ab,g11,λL loc e=>?_,λoff x ho hx=>?_⟩
  ·simp only[m']at e
   split at e
   ·rename_i hc;omega
   ·have:=g12 _ _ e;omega
  ·rw[hsame off ab]at hx
   exact g13 off x ho hx
 ·simp only[msQ]at hp hq
  subst hp;subst hq;rfl
 ·subst e
  exact hn _ (msQ.2 rfl) (by simp[blk,u9,Obj.ver,g1,hc0])
 ·funext L
  have:j≠k:=by simpa[keys]using hj
  simp[m',this]
 ·simp only[msQ]at hp
  subst hp;simp only[blk,u9,u9,Obj.ver,hm1,bsQ,if_neg hc0,Option.some.injEq]at hb;exact .inr ⟨_,msQ.2 rfl,by simp[blk,u9,Obj.ver,g1,hc0,hb]⟩
end
section
variable{P:Program}{ρ:Env}{dst:Option Tmp}{ty:TypeId}{pos:String}{aft:Array Edge}{gd:Option (Nat×Bool)}
def Kf{α:Type}(a b:List (List α)):(a++b).flatten=a.flatten++b.flatten:=List.flatten_append
def zw3{t e sz bytes:Nat}{x y:Operand}{k fz L:Nat}{els ys:List (List V)}{R:Heap}(hT:oL P t=some (e,sz,bytes))(hx:evV ρ x=.sl sz k L 0 L)(hL:L=els.length)(hy:Src sz R (evV ρ y) ys)
  (h1:∀c∈ys,c.all V.one=true) (hlen:(els.length+ys.length)*bytes<=140737488355328) (h63:els.length+ys.length<=9223372036854775807) (hkR:kz k R=false) (hkl:∀c∈ys,c.length=sz):
  Loc P ⟨dst,.call ⟨.builtin .append,#[x,y],#[t,t]⟩,ty,pos,aft,gd⟩ ρ ((k,.row e sz fz els)::R) (.sl sz k (els++ys).length 0 (els++ys).length) ((k,.row e sz fz (els++ys))::R):=by
 intro ρr m Z w hops hs hnew;obtain⟨i,z,hu,hi,hz,hisz,hib,hzs,h0⟩:=Hl hT;subst hisz;subst hib;subst hL;have hX:=hops x (by simp[Op.operands,Call.operands]);have hY:=hops y (by simp[Op.operands,Call.operands]);rw[hx]at hX;have hs1:wH m Z [(k,.row e i.size fz els)] w:=wH.left (F:=[(k,.row e i.size fz els)]) (G:=R) hs;have hsR:wH m Z R w:=wH.left (F:=R) (G:=[(k,.row e i.size fz els)]) (hs.perm (List.perm_append_comm (l₁:=[(k,Obj.row e i.size fz els)]) (l₂:=R)));obtain⟨A,c,hYv,hym,hA,hnews⟩:=hy.read h0 hsR hY
 have hap:∀p∈[(k,Obj.row e i.size fz (els++ys))],∀q∈R,p.1≠q.1:=λp hp q hq e'=>by
  simp only[msQ]at hp;subst hp;have e':k=q.1:=e';rw[yP.2 (by rw[e'];exact mem_keys hq)]at hkR;cases hkR
 have hfr:∀{m' Z' w'},Step m Z [(k,.row e i.size fz els)] w m' Z' [(k,.row e i.size fz (els++ys))] w'->Step m Z ((k,.row e i.size fz els)::R) w m' Z' ((k,.row e i.size fz (els++ys))::R) w':=λh=>Step.frame_rule (F:=[(k,.row e i.size fz els)]) (G:=R) (F':=[(k,.row e i.size fz (els++ys))]) hs h hap
 have fin:∀{v w'},(Builtin.append_ #[t,t] ty #[ev ρr x,ev ρr y]).run P w=.ok v w'->(execOp (ev ρr) ⟨dst,.call ⟨.builtin .append,#[x,y],#[t,t]⟩,ty,pos,aft,gd⟩).run P w=.ok (.value v) w':=λh=>by
  simp[execOp,resolve,invoke,builtin,h]
 have hlenA:(els++ys).length=els.length+ys.length:=af
 obtain⟨f,loc,e1,e2,e3,e4,e5⟩:=hX;cases e1
 replace e5:=e5.imp_right λh=>h.resolve_right λh=>Nat.lt_irrefl 0 h.1
 by_cases hys:ys=[]
 ·-- nothing is appended
  subst hys
  have hcapx:∃A' c',ev ρr x=.slice A' els.length c'/\els.length<=c':=by
   rcases e5 with e5|⟨e5,A',e6⟩
   ·exact⟨_,_,e5,ab⟩
   ·exact⟨A',0,by rw[e6];congr 1;omega,ab⟩
  obtain⟨A',c',hXv,hc'⟩:=hcapx
  have hrun:(Builtin.append_ #[t,t] ty #[ev ρr x,ev ρr y]).run P w=.ok (ev ρr x) w:=by
   rw[hXv,hYv]
   have hf:(Builtin.firstCells i.size 0 (.slice A 0 c)).run P w=.ok #[] w:=by
    cases A with
    |none=>simp[Builtin.firstCells]
    |some a=>simp[Builtin.firstCells,loadCells,loadCellsFrom]
   cases A' with
   |none=>simp[Builtin.append_,run_underlying hu,sizeOf,typeInfo,hi,Builtin.lenOf,hc',hf]
   |some a'=>simp[Builtin.append_,run_underlying hu,sizeOf,typeInfo,hi,Builtin.lenOf,hc',hf,storeCells]
  simp only[List.append_nil];refine⟨rfl,.inl ⟨_,w,fin hrun,m,Z,Step.refl hs,m,loc,rfl,e2,e3,e4,e5.imp_right .inl⟩⟩
 have hn0:0<ys.length:=List.length_pos_iff.2 hys
 obtain⟨a,rfl⟩:∃a,A=some a:=by
  cases A with
  |none=>exact absurd (hA rfl) hys
  |some a=>exact⟨a,rfl⟩
 obtain⟨news,hn1,hn2⟩:=hnews a rfl
 have hnl:news.length=ys.length*i.size:=by rw[hn1.length,j6 hkl]
 have hones:∀u∈news,u.oneCell'=true:=zie hn1 (List.all_eq_true.2 λv hv=>by
  obtain⟨c,hc,hvc⟩:=List.mem_flatten.1 hv
  exact(List.all_eq_true.1 (h1 c hc)) v hvc)
 have hmax:els.length+ys.length<=maxLen:=by simp only[maxLen];omega
 rcases hs1.holds _ (msQ.2 rfl)with⟨_,g1,g2,⟨b,g3⟩,g4⟩|⟨b,cap,cur,fr,g1,g0,g2,g3,g4,g5,g6,g7,g8,g9,g10,g11,g12,g13⟩
 ·-- an empty row without room
  subst g1;subst g2;have g3:m k 0=some (b,0):=g3;rw[show m k ([]:List (List V)).length=m k 0 from rfl,g3]at e2;cases e2;have hgr:=grownCap_ge w ys.length 0 e;have hgm:=grownCap_le_maxLen w ys.length 0 e (by simpa using hmax)
  obtain⟨m',Z',hst,hm'⟩:=Step.grown (m:=m) (Z:=Z) (w:=w) (k:=k) (t:=e) (sz:=i.size) (fz:=0) (els:=[]) (all:=[]++ys) (cur:=news.toArray++Builtin.zeroCells z.cells (grownCap w ys.length 0 e-ys.length)) (cap:=grownCap w ys.length 0 e) (w1:=w.drew) hs1 rfl (by simpa using g4) (by simpa using hn0) rfl rfl rfl rfl h0 (by simpa using hgr) hgm
   (by simp only[Array.size_append,List.size_toArray,size_zeroCells,hzs,hnl,<- Nat.add_mul];congr 1;omega)
   (by
    have:(news.toArray++Builtin.zeroCells z.cells (grownCap w ys.length 0 e-ys.length)).toList.take (([]++ys:List (List V)).length*i.size)=news:=by
     simp only[Array.toList_append,List.nil_append,<- hnl];exact List.take_left
    rw[this];simpa using hn1) (by simpa using hkl) (Nat.zero_le _)
  have hr:=run_append_nil (P:=P) w t ty e i z hu hi hz a ys.length c news hnl hn2 hn0 ab (by have:=hlen;simp only[List.length_nil,Nat.zero_add]at this;omega)
  rcases e5 with e5|⟨_,A',e5⟩
  ·simp only[List.length_nil,Nat.zero_mul]at e5
   have hr2:=run_append_grow (P:=P) w t ty e i z hu hi hz ⟨b,0,none⟩ 0 0 [] af (λj v h=>by simp at h) a ys.length c news hnl hn2 ab ab (growslice_fits ab (by simpa using hlen));simp only[Nat.zero_add,List.nil_append,Array.empty_append]at hr2;refine⟨rfl,.inl ⟨_,_,fin (by rw[e5,hYv];exact hr2),m',Z',hfr hst,m',_,rfl,hm',by simpa using hgr,hgm,.inl af⟩⟩
  ·cases A' with
   |none=>exact⟨rfl,.inl ⟨_,_,fin (by rw[e5,hYv];exact hr),m',Z',hfr hst,m',_,rfl,hm',by simpa using hgr,hgm,.inl af⟩⟩
   |some a' =>
    have hr2:=run_append_grow (P:=P) w t ty e i z hu hi hz a' 0 0 [] af (λj v h=>by simp at h) a ys.length c news hnl hn2 ab ab (growslice_fits ab (by simpa using hlen));simp only[Nat.zero_add,List.nil_append,Array.empty_append]at hr2;exact⟨rfl,.inl ⟨_,_,fin (by rw[e5,hYv];exact hr2),m',Z',hfr hst,m',_,rfl,hm',by simpa using hgr,hgm,.inl af⟩⟩
 ·have g1:m k els.length=some (b,cap):=g1
  rw[g1]at e2;cases e2
  have e5:ev ρr x=.slice (some ⟨b,0,none⟩) els.length cap:=by
   rcases e5 with e5|⟨e5,_⟩
   ·simpa using e5
   ·simp only at e5;omega
  have hfl:=j6 g8
  have hcl:cur.toList.length=cap*i.size:=by simpa using g5
  by_cases hroom:els.length+ys.length<=cap
  ·have hfit:els.length*i.size+news.length<=cur.size:=by rw[hnl,g5,<- Nat.add_mul];exact Nat.mul_le_mul_right _ hroom
   have hr:=run_append_roomF (P:=P) w t ty e i hu hi b els.length cap cur fr g2 (Nat.le_trans g9 (Nat.mul_le_mul_right _ g10)) a ys.length c news hnl hn2 hones hroom hfit
   have hlt:els.length*i.size<=cur.toList.length:=by rw[hcl];exact Nat.mul_le_mul_right _ g3
   obtain⟨m',hst,hm'⟩:=Step.roomed (all:=els++ys) (cur':=(cur.toList.take (els.length*i.size)++news++cur.toList.drop (els.length*i.size+news.length)).toArray) hs1 g1 g0 g2 af ab
    (by simp only[List.size_toArray,la,List.length_take,List.length_drop];(have:cur.size=cur.toList.length:=af);omega)
    (λoff ho=>by
     simp only[List.getElem?_toArray,asc]
     rw[List.getElem?_append_left (by simp only[List.length_take];omega),List.getElem?_take,if_pos ho];simp)
    (by
     have e6:((els++ys).length*i.size)=(cur.toList.take (els.length*i.size)++news).length:=by
      have h7:(cur.toList.take (els.length*i.size)).length=els.length*i.size:=by rw[List.length_take];omega
      rw[hlenA,la (a:=cur.toList.take (els.length*i.size)),h7,hnl,Nat.add_mul]
     rw[e6,Kf];simp only[];rw[List.take_left]
     exact g7.append hn1)
    (λc hc=>by
     rcases List.mem_append.1 hc with hc|hc
     ·exact g8 c hc
     ·exact hkl c hc) rfl
   exact⟨rfl,.inl ⟨_,_,fin (by rw[e5,hYv];exact hr),m',Z,hfr hst,m',_,rfl,hm',by simp only[hlenA];omega,g4,.inl (by simp[hlenA])⟩⟩
  ·have hgr:=grownCap_ge w (els.length+ys.length) cap e
   have hgm:=grownCap_le_maxLen w (els.length+ys.length) cap e hmax
   have htl:(cur.toList.take (els.length*i.size)).length=els.length*i.size:=by rw[List.length_take,hcl];exact Nat.min_eq_left (Nat.mul_le_mul_right _ g3)
   have hr:=run_append_grow (P:=P) w t ty e i z hu hi hz ⟨b,0,none⟩ els.length cap (cur.toList.take (els.length*i.size)) htl (λj v h=>by
    rw[Addr.add_lit,Nat.zero_add,cell_of_row w b j cur e fr g2];rw[List.getElem?_take]at h;split at h
    ·simpa using h
    ·cases h) a ys.length c news hnl hn2 ab ab (growslice_fits ab hlen)
   obtain⟨m',Z',hst,hm'⟩:=Step.grown (m:=m) (Z:=Z) (w:=w) (k:=k) (t:=e) (sz:=i.size) (fz:=fz) (els:=els) (all:=els++ys) (cur:=(cur.toList.take (els.length*i.size)).toArray++news.toArray++Builtin.zeroCells z.cells (grownCap w (els.length+ys.length) cap e-(els.length+ys.length))) (cap:=grownCap w (els.length+ys.length) cap e) (w1:=w.drew) hs1 rfl g12 ab rfl rfl rfl rfl h0 ab hgm
    (by simp only[Array.size_append,List.size_toArray,size_zeroCells,hzs,hnl,htl,<- Nat.add_mul];congr 1;omega)
    (by
     have e6:((els++ys).length*i.size)=(cur.toList.take (els.length*i.size)++news).length:=by
      rw[hlenA,la (a:=cur.toList.take (els.length*i.size)),htl,hnl,Nat.add_mul]
     rw[e6,Kf];simp only[Array.toList_append];rw[List.take_left]
     exact g7.append hn1)
    (λc hc=>by
     rcases List.mem_append.1 hc with hc|hc
     ·exact g8 c hc
     ·exact hkl c hc) g10
   exact⟨rfl,.inl ⟨_,_,fin (by rw[e5,hYv];exact hr),m',Z',hfr hst,m',_,rfl,hm',by simp only[hlenA];omega,hgm,.inl (by simp[hlenA])⟩⟩
end
section
variable{P:Program}{ρ:Env}{dst:Option Tmp}{ty:TypeId}{pos:String}{aft:Array Edge}{gd:Option (Nat×Bool)}
def zLx(P:Program)(t:Nat):Bool:=match P.underlying t with|some .string=>true|_=>false
def zAg{t:Nat}(h:zLx P t=true):P.underlying t=some .string:=by
 unfold zLx at h;split at h
 ·assumption
 ·cases h
def zl4{t:TypeId}{x ix:Operand}{k:IntKind}{i:Int}{l:ak}(ht:zLx P t=true)(hx:evV ρ x=.str l)(hi:evV ρ ix=.int k i)(h0:0<=i)(h1:i<l.length):
  Loc P ⟨dst,.index t x ix,ty,pos,aft,gd⟩ ρ [] (.int .u8 ((l.getD i.toNat 0).toNat)) []:=by
 intro ρr m Z w hops hs _;have hX:=hops x (by simp[Op.operands]);have hI:=hops ix (by simp[Op.operands]);rw[hx]at hX;rw[hi]at hI;have hX:ev ρr x=.string ⟨l.toArray⟩:=hX;have hI:ev ρr ix=.int k i:=hI
 have hlt:i.toNat<l.length:=ab
 have hg:(⟨l.toArray⟩:ByteArray)[i.toNat]?=some (l.getD i.toNat 0):=by
  have hsz:(⟨l.toArray⟩:ByteArray).size=l.length:=by show l.toArray.size=_;simp
  rw[getElem?_pos _ _ (by rw[hsz];exact hlt)]
  congr 1
  show l.toArray[i.toNat]=_
  simp[List.getD_eq_getElem?_getD,List.getElem?_eq_getElem hlt]
 refine⟨rfl,.inl ⟨_,w,?_,m,Z,Step.refl hs,rfl⟩⟩;simp[execOp,Instr.index,asIntOf,hX,hI,run_underlying (zAg ht),h0,hg]
def zqj{t e sz:Nat}{x ix:Operand}{k:IntKind}{i:Int}{els:List (List V)}{cs:List V}(ht:Kb P t=some (e,sz))(hx:evV ρ x=.vs sz els)(hi:evV ρ ix=.int k i)(h0:0<=i)(hc:els[i.toNat]?=some cs):
  Loc P ⟨dst,.indexAddr t x ix,ty,pos,aft,gd⟩ ρ [] (.vp cs 0) []:=by
 intro ρr m Z w hops hs _;have hX:=hops x (by simp[Op.operands]);have hI:=hops ix (by simp[Op.operands]);rw[hx]at hX;rw[hi]at hI;have hI:ev ρr ix=.int k i:=hI;obtain⟨A,c,h1,h2,h3,h4⟩:=hX;have hlt:=(List.getElem?_eq_some_iff.1 hc).1
 rcases h4 with h4|⟨a,rfl,h5⟩
 ·subst h4;simp at hlt
 have h6:=(h5.get hc).2;rw[Nat.zero_add]at h6;unfold Kb at ht;split at ht
 ·rename_i e' hu
  split at ht
  ·rename_i ii hii
   split at ht
   ·simp only[Option.some.injEq,Prod.mk.injEq]at ht
    obtain⟨rfl,hsz⟩:=ht;refine⟨rfl,.inl ⟨.pointer (some (a.add (i.toNat*sz))),w,?_,m,Z,Step.refl hs,a.add (i.toNat*sz),by rw[Addr.add_zero'],h6⟩⟩
    have h7:¬((els.length:Int)<=i):=ab
    simp[execOp,Instr.indexAt,run_underlying hu,asIntOf,h1,hI,sizeOf,typeInfo,hii,hsz,h0,h7]
   ·cases ht
  ·cases ht
 ·cases ht
def zl5{t e sz kk L o n:Nat}{x ix:Operand}{k:IntKind}{i:Int}(ht:Kb P t=some (e,sz))(hx:evV ρ x=.sl sz kk L o n)(hi:evV ρ ix=.int k i)(h0:0<=i)(h1:i<n):
  Loc P ⟨dst,.indexAddr t x ix,ty,pos,aft,gd⟩ ρ [] (.ptr kk L (o*sz+i.toNat*sz)) []:=by
 intro ρr m Z w hops hs _;have hX:=hops x (by simp[Op.operands]);have hI:=hops ix (by simp[Op.operands]);rw[hx]at hX;rw[hi]at hI;have hI:ev ρr ix=.int k i:=hI;obtain⟨f,loc,e1,e2,e3,e4,e5⟩:=hX;cases e1
 have e5:ev ρr x=.slice (some ⟨loc.1,o*sz,none⟩) n (loc.2-o):=by
  rcases e5 with e5|⟨e5,_⟩|⟨_,e5,_⟩
  ·exact e5
  ·omega
  ·omega
 unfold Kb at ht;split at ht
 ·rename_i e' hu
  split at ht
  ·rename_i ii hii
   split at ht
   ·simp only[Option.some.injEq,Prod.mk.injEq]at ht
    obtain⟨rfl,hsz⟩:=ht;refine⟨rfl,.inl ⟨.pointer (some ⟨loc.1,o*sz+i.toNat*sz,none⟩),w,?_,m,Z,Step.refl hs,m,loc,rfl,e2,rfl⟩⟩
    have h7:¬((n:Int)<=i):=ab
    simp[execOp,Instr.indexAt,run_underlying hu,asIntOf,e5,hI,sizeOf,typeInfo,hii,hsz,h0,h7,Addr.add_lit]
   ·cases ht
  ·cases ht
 ·cases ht
def zAh{m:M}{Z:ZM}{w:World}{k t sz fz:Nat}{els:List (List V)}{i:Nat}{cs:List V}(h:Holds m Z w k (.row t sz fz els))(hc:els[i]?=some cs):
  ∃b cap cur fr,m k els.length=some (b,cap)/\w.heap[b]?=some (.cells cur t fr)/\∀j v,cs[j]?=some v->∃x,cur[i*sz+j]?=some x/\Rep none Z v x:=by
 have hlt:=(List.getElem?_eq_some_iff.1 hc).1
 rcases h with⟨_,rfl,_⟩|⟨b,cap,cur,fr,g1,g0,g2,g3,g4,g5,g6,g7,g8,g9,g10,g11,g12,g13⟩
 ·simp at hlt
 refine⟨b,cap,cur,fr,g1,g2,λj v hj=>?_⟩;obtain⟨x,h1,h2⟩:=g7.get (AF g8 hc hj);rw[List.getElem?_take]at h1;split at h1
 ·exact⟨x,by simpa using h1,h2⟩
 ·cases h1
def zqk{t et sz fz k L off:Nat}{a:Operand}{els:List (List V)}{cs:List V}{v:V}(i j:Nat)(ha:evV ρ a=.ptr k L off)(hL:L=els.length)(hoff:off=i*sz+j)(hc:els[i]?=some cs)(hv:atV P t cs j=some v):
  Loc P ⟨dst,.load t a,ty,pos,aft,gd⟩ ρ [(k,.row et sz fz els)] v [(k,.row et sz fz els)]:=by
 intro ρr m Z w hops hs _;have hX:=hops a (by simp[Op.operands]);rw[ha]at hX;subst hL;subst hoff;obtain⟨f,loc,e1,e2,e3⟩:=hX;cases e1;obtain⟨b,cap,cur,fr,g1,g2,g3⟩:=zAh (hs.holds _ (msQ.2 rfl)) hc;have g1:m k els.length=some (b,cap):=g1;rw[g1]at e2;cases e2
 have hcell:∀q,w.cell? ⟨b,q,none⟩=cur[q]?:=λq=>cell_of_row w b q cur et fr g2
 refine⟨rfl,.inl ?_⟩;unfold atV at hv;split at hv
 ·rename_i hsh
  split at hv
  ·rename_i v' hv'
   split at hv
   ·cases hv
    obtain⟨u,h4,h5⟩:=g3 _ _ hv';exact⟨u,w,H7 (oa hsh) e3 (by rw[hcell];exact h4),m,Z,Step.refl hs,h5.none_some⟩
   ·cases hv
  ·cases hv
 ·rename_i n hsh
  split at hv
  ·rename_i hk
   have hk:=lb hk;cases hv
   let us:List Value:=(List.range n).map λq=>(cur[i*sz+(j+q)]?).getD Go.undef
   have hex:∀q,q<n->∃u v,cs[j+q]?=some v/\cur[i*sz+(j+q)]?=some u/\Rep none Z v u:=λq hq=>by
    have hcq:cs[j+q]?=some (cs[j+q]'ab):=List.getElem?_eq_getElem ab;obtain⟨u,h1,h2⟩:=g3 _ _ hcq;exact⟨u,_,hcq,h1,h2⟩
   have hget:∀q,q<n->us[q]?=cur[i*sz+(j+q)]?:=λq hq=>by
    obtain⟨u,v,_,h2,_⟩:=hex q hq;simp only[us,List.getElem?_map,List.getElem?_range hq,Option.map_some,h2,Option.getD_some]
   refine⟨.agg us.toArray,w,AD us (qS hsh) e3 (by simp[us]) λq u hq=>?_,m,Z,Step.refl hs,us,rfl,?_⟩
   ·have hqn:q<n:=by have:=(List.getElem?_eq_some_iff.1 hq).1;simpa[us]using this
    rw[Addr.add_lit,hcell,Nat.add_assoc,<- hget q hqn];exact hq
   ·refine zW.of_get (by simp[us];omega) λq v u hv hu=>?_
    have hqn:q<n:=by have:=(List.getElem?_eq_some_iff.1 hu).1;simpa[us]using this
    rw[List.getElem?_take,if_pos hqn,List.getElem?_drop]at hv;obtain⟨u',v',h1,h2,h3⟩:=hex q hqn;rw[hv]at h1;cases h1;rw[hget q hqn,h2]at hu;cases hu;exact h3.none_some
  ·cases hv
 ·cases hv
def Zh{α:Type}{k off:Nat}{us:List α}:∀(xs:List (List α)),(∀x∈xs,x.length=k)->∀(i:Nat)(x:List α),xs[i]?=some x->off+us.length<=k ->
  (xs.set i (x.take off++us++x.drop (off+us.length))).flatten=xs.flatten.take (i*k+off)++us++xs.flatten.drop (i*k+off+us.length)
 |[],_,i,x,h,_=>by simp at h
 |y::xs,hk,0,x,h,hf=>by
  have hy:=hk y al;simp only[List.getElem?_cons_zero,Option.some.injEq]at h;subst h;rw[List.set_cons_zero,List.flatten_cons,List.flatten_cons,Nat.zero_mul,Nat.zero_add,List.take_append_of_le_length ab,List.drop_append_of_le_length ab];simp[asc]
 |y::xs,hk,i+1,x,h,hf=>by
  have hy:=hk y al;have ih:=Zh (us:=us) (off:=off) xs (λz hz=>hk z (mcQ _ hz)) i x (by simpa using h) hf;rw[List.set_cons_succ,List.flatten_cons,List.flatten_cons,ih,show(i+1)*k+off=y.length+(i*k+off) by rw[hy,Nat.succ_mul];omega,List.take_length_add_append,Nat.add_assoc,List.drop_append];rw[List.drop_of_length_le (by omega:y.length<=y.length+(i*k+off)+us.length),show y.length+(i*k+off)+us.length-y.length=i*k+(off+us.length) by omega];simp[asc]
def zw4{α:Type}(c us:List α)(p n:Nat)(h:p+us.length<=n)(hn:n<=c.length):(c.take p++us++c.drop (p+us.length)).take n=(c.take n).take p++us++(c.take n).drop (p+us.length):=by
 have hA:(c.take p++us).length=p+us.length:=by simp only[la,List.length_take];omega
 have e:n=(c.take p++us).length+(n-(p+us.length)):=ab
 have e1:(c.take n).take p=c.take p:=by rw[List.take_take,Nat.min_eq_left ab]
 rw[e1,List.drop_take]
 conv=>lhs;rw[e]
 rw[List.take_length_add_append]
def zl6{t et sz fz k L off:Nat}{a x:Operand}{els:List (List V)}{cs:List V}(i j:Nat)(ha:evV ρ a=.ptr k L off)(hL:L=els.length)(hoff:off=i*sz+j)(hc:els[i]?=some cs)(hfz:fz<=i)
  (hp:(evV ρ x).plain=true) (h1:(evV ρ x).cells.all V.one=true) (hrf:(evV ρ x).refs=[]) (hsz:H9 P t (evV ρ x).cells.length=true) (hfit:j+(evV ρ x).cells.length<=sz):
  Loc P ⟨dst,.store t a x,ty,pos,aft,gd⟩ ρ [(k,.row et sz fz els)] .no [(k,.row et sz fz (els.set i (cs.take j++(evV ρ x).cells++cs.drop (j+(evV ρ x).cells.length))))]:=by
 intro ρr m Z w hops hs _;have hX:=hops a (by simp[Op.operands]);rw[ha]at hX;subst hL;subst hoff;obtain⟨f,loc,e1,e2,e3⟩:=hX;cases e1;have hlt:=(List.getElem?_eq_some_iff.1 hc).1
 rcases hs.holds _ (msQ.2 rfl)with⟨_,g1,_⟩|⟨b,cap,cur,fr,g1,g0,g2,g3,g4,g5,g6,g7,g8,g9,g10,g11,g12,g13⟩
 ·subst g1;simp at hlt
 have g1:m k els.length=some (b,cap):=g1;rw[g1]at e2;cases e2;have hv0:=(hops x (by simp[Op.operands])).cells hp
 have hv:zW none Z (evV ρ x).cells (ev ρr x).cells.toList:=by
  refine zW.flat _ _ ?_ hv0;cases hxv:evV ρ x<;>rw[hxv]at hrf<;>simp only[V.cells,wG,List.append_nil]<;>exact hrf
 have hlv:=hv.length;have hones:=zie hv h1;have hcs:=g8 cs (List.mem_of_getElem? hc)
 have hle:i*sz+sz<=els.length*sz:=by
  have:(i+1)*sz<=els.length*sz:=Nat.mul_le_mul_right sz hlt
  rwa [Nat.succ_mul]at this
 have hle2:els.length*sz<=cap*sz:=Nat.mul_le_mul_right sz g3;have hfl:fz*sz<=i*sz:=Nat.mul_le_mul_right sz hfz
 have hcl:cur.toList.length=cap*sz:=by simpa using g5
 unfold H9 at hsz;split at hsz
 ·rename_i ii hi
  have hik:=eb hsz;have hst:=run_storeCells_atF P b (i*sz+j) et fr (ev ρr x).cells.toList 0 cur w g2 ab ab hones;simp only[Nat.add_zero]at hst
  have hsz2:(ev ρr x).cells.size=ii.size:=by simp at hlv;omega
  have hnewb:=setRow_heap w b cur (cur.toList.take (i*sz+j)++(ev ρr x).cells.toList++cur.toList.drop (i*sz+j+(ev ρr x).cells.toList.length)).toArray et fr g2
  have hlen:(els.set i (cs.take j++(evV ρ x).cells++cs.drop (j+(evV ρ x).cells.length))).length=els.length:=af
  have hc0:cap≠0:=ab
  refine⟨rfl,.inr (.inl ⟨w.setRow b (cur.toList.take (i*sz+j)++(ev ρr x).cells.toList++cur.toList.drop (i*sz+j+(ev ρr x).cells.toList.length)).toArray,?_,m,Z,?_,rfl⟩)⟩
  ·simp[execOp,Instr.storeAt,e3,Instr.sureAddr,storeVar,sizeOf,typeInfo,hi,hsz2,hst]
  ·have hsame:∀off,off<i*sz+j->(cur.toList.take (i*sz+j)++(ev ρr x).cells.toList++cur.toList.drop (i*sz+j+(ev ρr x).cells.toList.length)).toArray[off]?=cur[off]?:=λoff ho=>by
    simp only[List.getElem?_toArray,asc];rw[List.getElem?_append_left (by simp only[List.length_take];omega),List.getElem?_take,if_pos ho];simp
   refine Step.write (b:=b) hs (by simp[blk,u9,Obj.ver,g1,hc0]) (zby (by simp[Obj.ver]) rfl rfl) rfl rfl rfl af (λq hq=>setRow_other w b q _ hq) (λaa y ha' e=>?_) ?_
   ·have hl:=g11 aa y ha' e
    have hc':=hs.frozen aa y ha';obtain⟨bb,off,sp⟩:=aa;simp only at e hl;subst e
    have hsp:sp=none:=by
     simp only[World.cell?,g2]at hc'
     cases sp with
     |none=>rfl
     |some _=>simp at hc'
    subst hsp;rw[cell_of_row w bb off cur et fr g2]at hc';rw[cell_of_row _ bb off _ et fr hnewb,hsame off ab];exact hc'
   ·refine .inr ⟨b,cap,_,fr,by rw[hlen];exact g1,g0,hnewb,by rw[hlen];exact g3,g4,?_,g6,?_,?_,g9,by rw[hlen];exact g10,g11,by rw[hlen];exact g12,λoff y ho hy=>?_⟩
    ·simp only[List.size_toArray,la,List.length_take,List.length_drop];have:cur.size=cur.toList.length:=af
     omega
    ·rw[hlen,Zh els g8 i cs hc ab]
     simp only[];rw[zw4 _ _ _ _ ab ab];have:=zbw (off:=i*sz+j) g7 hv;exact this
    ·intro c hcc
     rcases List.mem_or_eq_of_mem_set hcc with hcc|rfl
     ·exact g8 c hcc
     ·simp only[la,List.length_take,List.length_drop];omega
    ·rw[hsame off ab]at hy
     exact g13 off y ho hy
 ·cases hsz
end
def ztk(ρ:Env):Option Operand->Int->Int->Prop
 |none,d,i=>i=d
 |some x,_,i=>∃k,evV ρ x=.int k i
section
variable{P:Program}{ρ:Env}{dst:Option Tmp}{ty:TypeId}{pos:String}{aft:Array Edge}{gd:Option (Nat×Bool)}
def zAi{ρr:yJ}{m:Option M}{Z:ZM}{o:Option Operand}{d i:Int}(h:ztk ρ o d i)(hr:∀x∈o,Rep m Z (evV ρ x) (ev ρr x)):(o=none/\i=d)∨∃x k,o=some x/\ev ρr x=.int k i:=by
 cases o with
 |none=>exact .inl ⟨rfl,h⟩
 |some x =>
  obtain⟨k,hk⟩:=h;have:=hr x rfl;rw[hk]at this;exact .inr ⟨x,k,rfl,this⟩
def W9{w:World}{ρr:yJ}{m:Option M}{Z:ZM}{lo hi:Option Operand}{l h:Int}{isS:Bool}{len cap:Nat}(hl:ztk ρ lo 0 l)(hh:ztk ρ hi len h)(hrl:∀x∈lo,Rep m Z (evV ρ x) (ev ρr x))(hrh:∀x∈hi,Rep m Z (evV ρ x) (ev ρr x))
  (h0:0<=l) (h1:l<=h) (h2:h<=len) (hc:len<=cap):(Instr.sliceBounds isS len cap (lo.map (ev ρr)) (hi.map (ev ρr)) none).run P w=.ok (l.toNat,h.toNat,cap) w:=by
 have h3:h<=(cap:Int):=ab
 have h4:0<=h:=ab
 have h5:((h.toNat:Nat):Int)=h:=Int.toNat_of_nonneg h4
 rcases zAi hl hrl with⟨rfl,rfl⟩|⟨x,k,rfl,hx⟩<;>rcases zAi hh hrh with⟨rfl,rfl⟩|⟨y,k',rfl,hy⟩
 ·simp[Instr.sliceBounds]
 ·simp[Instr.sliceBounds,Instr.sliceBound,asIntOf,hy,h4,h3]
 ·simp[Instr.sliceBounds,Instr.sliceBound,asIntOf,hx,h0,h1]
 ·simp[Instr.sliceBounds,Instr.sliceBound,asIntOf,hx,hy,h4,h3,h0,h5,h1]
def zl7{t:TypeId}{x:Operand}{lo hi:Option Operand}{l h:Int}{s:ak}(ht:zLx P t=true)(hx:evV ρ x=.str s)(hl:ztk ρ lo 0 l)(hh:ztk ρ hi s.length h)(h0:0<=l)(h1:l<=h)(h2:h<=s.length):
  Loc P ⟨dst,.slice t x lo hi none,ty,pos,aft,gd⟩ ρ [] (.str ((s.take h.toNat).drop l.toNat)) []:=by
 intro ρr m Z w hops hs _;have hX:=hops x (by simp[Op.operands]);rw[hx]at hX;have hX:ev ρr x=.string ⟨s.toArray⟩:=hX
 have hsz:(⟨s.toArray⟩:ByteArray).size=s.length:=by show s.toArray.size=_;simp
 have hb:=W9 (P:=P) (w:=w) (isS:=false) (cap:=s.length) hl hh (λy hy=>hops y (by simp[Op.operands];right;left;simpa using hy)) (λy hy=>hops y (by simp[Op.operands];right;right;simpa using hy)) h0 h1 h2 aq;refine⟨rfl,.inl ⟨.string ((⟨s.toArray⟩:ByteArray).extract l.toNat h.toNat),w,?_,m,Z,Step.refl hs,?_⟩⟩
 ·simp[execOp,Instr.sliceAt,Instr.slice,run_underlying (zAg ht),hX,hsz,hb]
 ·show _=_
  congr 1
  apply ByteArray.ext;rw[ByteArray.data_extract];apply Array.ext';simp[List.extract_eq_drop_take,List.drop_take]
def zql{t e sz:Nat}{x:Operand}{lo hi:Option Operand}{l h:Int}{els:List (List V)}(ht:Kb P t=some (e,sz))(hx:evV ρ x=.vs sz els)(hl:ztk ρ lo 0 l)(hh:ztk ρ hi els.length h)(h0:0<=l)(h1:l<=h)(h2:h<=els.length):
  Loc P ⟨dst,.slice t x lo hi none,ty,pos,aft,gd⟩ ρ [] (.vs sz ((els.take h.toNat).drop l.toNat)) []:=by
 intro ρr m Z w hops hs _;have hX:=hops x (by simp[Op.operands]);rw[hx]at hX;obtain⟨A,c,g1,g2,g3,g4⟩:=hX;have hb:=W9 (P:=P) (w:=w) (isS:=true) (cap:=c) hl hh (λy hy=>hops y (by simp[Op.operands];right;left;simpa using hy)) (λy hy=>hops y (by simp[Op.operands];right;right;simpa using hy)) h0 h1 h2 g2;unfold Kb at ht;split at ht
 ·rename_i e' hu
  split at ht
  ·rename_i ii hii
   split at ht
   ·simp only[Option.some.injEq,Prod.mk.injEq]at ht
    obtain⟨rfl,hsz⟩:=ht
    have hlen:((els.take h.toNat).drop l.toNat).length=h.toNat-l.toNat:=by simp;omega
    refine⟨rfl,.inl ⟨.slice (if c=l.toNat then A else A.map (·.add (l.toNat*sz))) (h.toNat-l.toNat) (c-l.toNat),w,?_,m,Z,Step.refl hs,(if c=l.toNat then A else A.map (·.add (l.toNat*sz))),c-l.toNat,by rw[hlen],by rw[hlen];omega,ab,?_⟩⟩
    ·simp[execOp,Instr.sliceAt,Instr.slice,run_underlying hu,g1,hb,sizeOf,typeInfo,hii,hsz]
    ·by_cases he:(els.take h.toNat).drop l.toNat=[]
     ·exact .inl he
     ·have hpos:0<h.toNat-l.toNat:=by rw[<- hlen];exact List.length_pos_iff.2 he
      rcases g4 with g4|⟨a,rfl,g5⟩
      ·subst g4;simp at h2;omega
      ·refine .inr ⟨a.add (l.toNat*sz),by rw[if_neg ab];rfl,wK.of_get λi cs hi=>?_⟩
       rw[List.getElem?_drop,List.getElem?_take]at hi;split at hi
       ·have:=g5.get hi
        refine⟨this.1,?_⟩;have h6:=this.2;rw[VI,Nat.zero_add,<- Nat.add_mul]
        rwa [Nat.zero_add]at h6
       ·cases hi
   ·cases ht
  ·cases ht
 ·cases ht
def zl8{t e sz k L o n:Nat}{x:Operand}{lo hi:Option Operand}{l h:Int}(ht:Kb P t=some (e,sz))(hx:evV ρ x=.sl sz k L o n)(hl:ztk ρ lo 0 l)(hh:ztk ρ hi n h)(h0:0<=l)(h1:l<=h)(h2:h<=n):
  Loc P ⟨dst,.slice t x lo hi none,ty,pos,aft,gd⟩ ρ [] (.sl sz k L (o+l.toNat) (h.toNat-l.toNat)) []:=by
 intro ρr m Z w hops hs _;have hX:=hops x (by simp[Op.operands]);rw[hx]at hX;obtain⟨f,loc,e1,e2,e3,e4,e5⟩:=hX;cases e1
 have hbnd:∀c,n<=c->(Instr.sliceBounds true n c (lo.map (ev ρr)) (hi.map (ev ρr)) none).run P w=.ok (l.toNat,h.toNat,c) w:=λc hc =>
  W9 (P:=P) (w:=w) (isS:=true) (cap:=c) hl hh (λy hy=>hops y (by simp[Op.operands];right;left;simpa using hy)) (λy hy=>hops y (by simp[Op.operands];right;right;simpa using hy)) h0 h1 h2 hc
 unfold Kb at ht;split at ht
 ·rename_i e' hu
  split at ht
  ·rename_i ii hii
   split at ht
   ·simp only[Option.some.injEq,Prod.mk.injEq]at ht
    obtain⟨rfl,hsz⟩:=ht
    have run:∀A c,ev ρr x=.slice A n c->n<=c->(execOp (ev ρr) ⟨dst,.slice t x lo hi none,ty,pos,aft,gd⟩).run P w=.ok (.value (.slice (if c=l.toNat then A else A.map (·.add (l.toNat*sz))) (h.toNat-l.toNat) (c-l.toNat))) w:=λA c hv hc=>by
     simp[execOp,Instr.sliceAt,Instr.slice,run_underlying hu,hv,hbnd c hc,sizeOf,typeInfo,hii,hsz]
    rcases e5 with e5|⟨e5,A,e6⟩|⟨e5,e6,A,c,e7,e8⟩
    ·refine⟨rfl,.inl ⟨_,w,run _ _ e5 ab,m,Z,Step.refl hs,m,loc,rfl,e2,ab,e4,?_⟩⟩
     by_cases hc:loc.2-o=l.toNat
     ·by_cases hl0:l.toNat=0
      ·rw[if_pos hc]
       by_cases ho:0<o
       ·exact .inr (.inr ⟨ab,ab,_,_,by rw[show h.toNat-l.toNat=0 by omega],ab⟩)
       ·refine .inl ?_
        rw[show o=0 by omega];simp[hl0]
      ·rw[if_pos hc]
       exact .inr (.inr ⟨ab,ab,_,_,by rw[show h.toNat-l.toNat=0 by omega],ab⟩)
     ·rw[if_neg hc]
      refine .inl ?_;simp only[Option.map_some,Addr.add_lit,Nat.add_mul];rw[Nat.sub_sub]
    ·have hn:n=0:=ab
     subst hn
     have hl0:l.toNat=0:=ab
     have hh0:h.toNat=0:=ab
     refine⟨rfl,.inl ⟨_,w,run _ _ e6 aq,m,Z,Step.refl hs,m,loc,rfl,e2,ab,e4,.inr (.inl ⟨e5,_,by rw[hl0,hh0]⟩)⟩⟩
    ·subst e6
     have hl0:l.toNat=0:=ab
     have hh0:h.toNat=0:=ab
     refine⟨rfl,.inl ⟨_,w,run _ _ e7 (Nat.zero_le _),m,Z,Step.refl hs,m,loc,rfl,e2,ab,e4,.inr (.inr ⟨ab,ab,_,_,by rw[hh0,hl0],ab⟩)⟩⟩
   ·cases ht
  ·cases ht
 ·cases ht
def zw5{t t':TypeId}{x y:Operand}{a b:ak}(hx:evV ρ x=.str a)(hy:evV ρ y=.str b)(h:a.length+b.length<=9223372036854775807):
  Loc P ⟨dst,.binOp .add t x y t',ty,pos,aft,gd⟩ ρ [] (.str (a++b)) []:=by
 intro ρr m Z w hops hs _;have hX:=hops x (by simp[Op.operands]);have hY:=hops y (by simp[Op.operands]);rw[hx]at hX;rw[hy]at hY;have hX:ev ρr x=.string ⟨a.toArray⟩:=hX;have hY:ev ρr y=.string ⟨b.toArray⟩:=hY
 have ha:(⟨a.toArray⟩:ByteArray).size=a.length:=by show a.toArray.size=_;simp
 have hb:(⟨b.toArray⟩:ByteArray).size=b.length:=by show b.toArray.size=_;simp
 have hm:¬(((a.length+b.length:Nat):Int)>IntKind.i64.max):=by
  have:IntKind.i64.max=9223372036854775807:=ae
  omega
 refine⟨rfl,.inl ⟨.string ((⟨a.toArray⟩:ByteArray)++⟨b.toArray⟩),w,?_,m,Z,Step.refl hs,?_⟩⟩
 ·simp only[execOp,hX,hY,eqGuard,binOp,Op.stringOp,ha,hb,if_neg hm]
  simp
 ·show _=_
  congr 1
def zO2{op:BinOp}{t t':TypeId}{x y:Operand}{k:IntKind}{a b:Int}(hop:op=.quo∨op=.rem)(hx:evV ρ x=.int k a)(hy:evV ρ y=.int k b)(hb:b≠0):
  Loc P ⟨dst,.binOp op t x y t',ty,pos,aft,gd⟩ ρ [] (.int k (match op with|.quo=>k.wrap (a.tdiv b)|_=>a.tmod b)) []:=by
 intro ρr m Z w hops hs _;have hX:=hops x (by simp[Op.operands]);have hY:=hops y (by simp[Op.operands]);rw[hx]at hX;rw[hy]at hY
 rcases hop with rfl|rfl
 ·obtain⟨u,h1,h2⟩:=zib (P:=P) (w:=w) (dst:=dst) (ty:=ty) (pos:=pos) (aft:=aft) (gd:=gd) (t:=t) (t':=t') (op:=.quo) (m:=some m) (Z:=Z) (v:=.int k (k.wrap (a.tdiv b))) hX hY af (by simp[zUj,hb])
  exact⟨rfl,.inl ⟨u,w,h1,m,Z,Step.refl hs,h2⟩⟩
 ·obtain⟨u,h1,h2⟩:=zib (P:=P) (w:=w) (dst:=dst) (ty:=ty) (pos:=pos) (aft:=aft) (gd:=gd) (t:=t) (t':=t') (op:=.rem) (m:=some m) (Z:=Z) (v:=.int k (a.tmod b)) hX hY af (by simp[zUj,hb])
  exact⟨rfl,.inl ⟨u,w,h1,m,Z,Step.refl hs,h2⟩⟩
end
section
variable{K0:List Nat}{c:Ctx K0}{P:Program}{r:Option Nat}{N:Nat}{Q:we}{ρ:Env}{H H':Heap}{ds:List Deferred}{all l rest:List Oper}{x:Code}
def K1.step{F F':Heap}{ks:List Nat}{ρr:yJ}{w:World}{ρ':Env}(hks:yu ks=true)(hF:uB ks H=some F)(hfr:Kd F' ks H=true)
  (h:∀m Z,wH m Z F w->(∀k∈keys F',k ∉ keys F->∀L,m k L=none)->zlp m Z ρ ρr->∃m' Z',Step m Z F w m' Z' F' w/\zlp m' Z' ρ' ρr) (S:K1 c ρ H ρr w):K1 c ρ' (F'++qR ks H) ρr w:=by
 obtain⟨m,Z,S,hR⟩:=S;have hp:=vT S.step.sim.nodup (yA hks) hF;obtain⟨h2,h3⟩:=xk hF;have hs:wH m Z (F++qR ks H) w:=S.step.sim.perm hp
 obtain⟨m',Z',hst,hR'⟩:=h m Z hs.left (λk hk hkF=>S.dom k (by
  obtain⟨p,hp',rfl⟩:=List.mem_map.1 hk;have:=(List.all_eq_true.1 hfr) p hp';simp only[Bool.or_eq_true,List.contains_eq_mem,decide_eq_true_eq,Bool.not_eq_true',decide_eq_false_iff_not]at this
  rcases this with this|this
  ·exact absurd (h2▸this) hkF
  ·exact this)) hR
 exact⟨m',Z',S.step' hks hF hfr (λ_ _=>hst),hR'⟩
def ze7{F:Heap}{ks:List Nat}(h:∀p∈F,p.1∈ks):Kd F ks H=true:=List.all_eq_true.2 λp hp=>by simp[h p hp]
def K1.freeze{F:Heap}(ks:List Nat){ρr:yJ}{w:World}(hks:yu ks=true)(hF:uB ks H=some F)(S:K1 c ρ H ρr w):K1 c ρ (frz F++qR ks H) ρr w :=
 K1.step hks hF (ze7 λp hp=>by rw[<- (xk hF).1,<- wL];exact mem_keys hp) (λm Z hs _ hR=>⟨m,_,Step.freeze hs,hR.up (Step.freeze hs).zext λ_ _ _ e=>e⟩) S
def K1.nilRow(t d e sz:Nat){ρr:yJ}{w:World}(hsz:Nat.ble 1 sz=true)(ht:ρ.get t=.nils)(hd:kz d H=false)(S:K1 c ρ H ρr w):K1 c ((t,.sl sz d 0 0 0)::ρ) ((d,.row e sz 0 [])::H) ρr w:=by
 have hd':d ∉ keys H:=λh=>by rw[yP.2 h]at hd;cases hd
 have:=K1.step (c:=c) (ρ:=ρ) (H:=H) (F:=[]) (F':=[(d,.row e sz 0 [])]) (ks:=[]) (ρ':=(t,.sl sz d 0 0 0)::ρ) (ρr:=ρr) (w:=w) rfl rfl (by simp[Kd,hd']) (λm Z hs hnew hR=>by
  have hnew':∀L,m d L=none:=λL=>hnew d (by simp[keys]) (by simp[keys]) L
  let m':M:=λk' L=>if k'=d/\L=0 then some (0,0)else m k' L
  have h1:m' d 0=some (0,0):=by simp[m']
  have h2:∀k L loc,m k L=some loc->m' k L=some loc:=λk L loc e=>by
   by_cases hc:k=d/\L=0
   ·obtain⟨rfl,rfl⟩:=hc;rw[hnew']at e;cases e
   ·simp only[m',if_neg hc];exact e
  refine⟨m',Z,⟨⟨hs.frozen,λp hp=>?_,by simp[keys],λp hp q hq _ _ _=>?_⟩,h2,λ_ _ e=>e,rfl,rfl,rfl,aq,λ_ _ _=>rfl,λk hk=>(by cases hk),λk hk=>?_,λp hp b hb=>?_,λ_ _ e=>.inl e⟩,?_⟩
  ·simp only[msQ]at hp
   subst hp;refine .inl ⟨lb hsz,rfl,rfl,⟨0,h1⟩,λL loc e=>?_⟩;simp only[m']at e;split at e
   ·rename_i hc;omega
   ·rw[hnew']at e;cases e
  ·simp only[msQ]at hp hq
   subst hp;subst hq;rfl
  ·funext L
   have:k≠d:=by simpa[keys]using hk
   simp[m',this]
  ·simp only[msQ]at hp
   subst hp;simp[blk,u9,Obj.ver,h1]at hb
  ·intro u
   have hu:=(hR u).up (Z':=Z) (m':=some m') (λ_ _ e=>e) (λf e=>by cases e;exact⟨m',rfl,h2⟩)
   show Rep (some m') Z (bif Nat.beq u t then V.sl sz d 0 0 0 else ρ.get u) (ρr u)
   cases hb:Nat.beq u t with
   |false=>exact hu
   |true =>
    have:=eb hb;subst this;rw[ht]at hu
    exact⟨m',_,rfl,h1,aq,Nat.zero_le _,.inr (.inl ⟨rfl,none,hu⟩)⟩) S
 rw[zG6]at this;exact this
end
def evF(e:Nat->V):Operand->V
 |.tmp t=>e t
 |.const v=>ofC v
 |.global _=>.undef
 |.func f=>.fn f [] []
def zb2(ρ:Env)(x:Operand):evF ρ.get x=evV ρ x:=by cases x<;>rfl
def zAj(P:Program)(o:Oper)(g:Operand->V)(F:Heap)(v:V)(F':Heap):Prop :=
 ∀ρr m Z w,(∀x∈o.op.operands,Rep (some m) Z (g x) (ev ρr x))->wH m Z F w->(∀k∈keys F',k ∉ keys F->∀L,m k L=none) ->
  zOr P o ρr w λx w'=>∃m' Z',Step m Z F w m' Z' F' w'/\Rep (some m') Z' v x
def zAj.congr{P:Program}{o:Oper}{g g':Operand->V}{F F':Heap}{v:V}(h:zAj P o g F v F')(hg:∀x∈o.op.operands,g' x=g x):zAj P o g' F v F' :=
 λρr m Z w hops=>h ρr m Z w λx hx=>by rw[<- hg x hx];exact hops x hx
def A8(all:List Oper)(e:Nat->V)(o:Oper):Option Bool :=
 match o.guard with
 |none=>some true
 |some (j,want)=>match (all[j]?).bind (·.dst)with
  |some d=>match e d with
   |.bool b=>some (b==want)
   |.no=>some false
   |_=>none
  |none=>none
def zp2(d:Option Nat)(v:V)(e:Nat->V):Nat->V:=match d with|some d=>λt=>bif Nat.beq t d then v else e t|none=>e
def zif(d:Option Nat)(v:V)(ρ:Env):(zlq d v ρ).get=zp2 d v ρ.get:=by
 cases d with
 |none=>rfl
 |some d=>rfl
structure FP where
 i:Nat
 fk:List Nat
 rk:List Nat
 ld:Option (Nat×Nat×Nat)
 kc:List (Nat×Nat×Nat)
abbrev FP.m(i:Nat)(fk rk:List Nat):FP:=⟨i,fk,rk,none,[]⟩
abbrev HF:=Nat->Option Obj
def zez(F':Heap)(η:HF):HF:=λk=>if k∈keys F' then F'.get k else η k
def zG7(P:Program)(o:Oper)(e:Nat->V)(η η1:HF)(v:V)(fp:FP):Prop :=
 (∀k t off,fp.ld=some (k,t,off)->fp.fk=[]/\fp.rk=[k]/\(∃bt cs,η k=some (.box bt cs)/\atV P t cs off=some v)/\∀bt cs,atV P t cs off=some v->zAj P o (evF e) [(k,.box bt cs)] v [(k,.box bt cs)]) /\
 (∀k t off,(k,t,off)∈fp.kc->k∈fp.fk/\∃bt cs cs',η k=some (.box bt cs)/\η1 k=some (.box bt cs')/\atV P t cs off=atV P t cs' off)
def zLy{P:Program}{o:Oper}{e:Nat->V}{η η1:HF}{v:V}{i:Nat}{fk rk:List Nat}:zG7 P o e η η1 v (.m i fk rk):=⟨λ_ _ _ h=>(by cases h),λ_ _ _ h=>(by cases h)⟩
def j7(P:Program)(N:Nat)(all:List Oper)(fp:FP)(e:Nat->V)(η:HF)(e1:Nat->V)(η1:HF):Prop :=
  ∃o v,all[fp.i]?=some o/\kv o.op=true/\(∀d,o.dst=some d->d+1<=N)/\e1=zp2 o.dst v e /\
    ((A8 all e o=some false/\v=.no/\η1=η/\fp.fk=[]/\fp.rk=[]) ∨
     (A8 all e o=some true/\∃F R F',zAj P o (evF e) (F++R) v (F'++R)/\(keys (F'++R)).Nodup/\(keys F).Nodup/\(∀k∈keys F,k∈keys F')/\keys F'=fp.fk/\keys R=fp.rk /\
       (∀p∈F++R,η p.1=some p.2)/\(∀k∈keys F',k ∉ keys F->η k=none)/\η1=zez F' η/\zG7 P o e η η1 v fp))
def zUq(all:List Oper)(o:Oper)(d:Nat):Bool :=
 o.op.operands.toList.any (λ| .tmp t=>Nat.beq t d | _=>false)||(match o.guard with | some (j,_)=>(match (all[j]?).bind (·.dst)with | some d'=>Nat.beq d' d | none=>true) | none=>false)
def Zi(all:List Oper)(o o':Oper):Bool :=
 (match o.dst with|some d=>!zUq all o' d|none=>true)&&(match o.dst,o'.dst with|some d,some d'=>!Nat.beq d d'|_,_=>true)
def zzc(k:Nat):List Nat->Bool|[]=>false|j::r=>bif Nat.beq k j then true else zzc k r
def zl9:List Nat->List Nat->Bool|[],_=>true|k::r,l=>!zzc k l&&zl9 r l
def zO3(a b:FP):Bool:=zl9 a.fk b.fk&&(zl9 a.fk b.rk&&zl9 a.rk b.fk)
def zUr(a b:Nat×Nat×Nat):Bool:=Nat.beq a.1 b.1&&(Nat.beq a.2.1 b.2.1&&Nat.beq a.2.2 b.2.2)
def ldB(a b:FP):Bool:=match a.ld with
 |some x=>a.fk.isEmpty&&(b.kc.any (zUr x))
 |none=>false
def QI(all:List Oper)(a b:FP):Bool :=
 match all[a.i]?,all[b.i]? with
 | some o,some o'=>Zi all o o'&&(Zi all o' o&&(zO3 a b||ldB a b))
 |_,_=>false
def JY(all:List Oper)(a b:FP):Bool :=
 match all[a.i]?,all[b.i]? with
 |some o,some o'=>Zi all o o'&&(Zi all o' o&&(zl9 a.fk b.fk&&zl9 a.fk b.rk))
 |_,_=>false
def zLz{a b:FP}(h:ldB a b=true):a.fk=[]/\∃k t off,a.ld=some (k,t,off)/\(k,t,off)∈b.kc:=by
 unfold ldB at h;split at h
 ·rename_i x hx
  simp only[bn,List.isEmpty_iff,List.any_eq_true,zUr]at h;obtain⟨h1,y,h2,h3,h4,h5⟩:=h;refine⟨h1,y.1,y.2.1,y.2.2,?_,h2⟩;rw[hx,<- eb h3,<- eb h4,<- eb h5]
 ·cases h
def VN{k:Nat}:∀{l:List Nat},zzc k l=true↔k∈l
 |[]=>by simp[zzc]
 |j::r=>by
  simp only[zzc,List.mem_cons]
  cases hb:Nat.beq k j with
  |true=>simp[eb hb]
  |false =>
   have:k≠j:=λe=>by subst e;rw[Nat.beq_refl]at hb;cases hb
   simp only[cf,this,false_or];exact VN
def Ja:∀{l k:List Nat},zl9 l k=true->∀x∈l,x ∉ k
 |[],_,_,x,h=>by cases h
 |j::r,k,h,x,hx=>by
  simp only[zl9,bn,Bool.not_eq_true']at h
  rcases List.mem_cons.1 hx with rfl|hx
  ·intro hk;rw[VN.2 hk]at h;cases h.1
  ·exact Ja h.2 x hx
def zig{all:List Oper}{o o':Oper}{v:V}{e:Nat->V}(h:Zi all o o'=true):(∀x∈o'.op.operands,evF (zp2 o.dst v e) x=evF e x)/\A8 all (zp2 o.dst v e) o'=A8 all e o':=by
 simp only[Zi,bn]at h
 cases hd:o.dst with
 |none=>exact⟨λ_ _=>rfl,rfl⟩
 |some d =>
  rw[hd]at h;simp only[Bool.not_eq_true',zUq,Bool.or_eq_false_iff]at h;refine⟨λx hx=>?_,?_⟩
  ·cases x with
   |tmp t =>
    have:=(List.any_eq_false.1 h.1.1) (.tmp t) (by simpa using hx);simp only[Bool.not_eq_true]at this;simp only[evF,zp2,this,cf]
   |_=>rfl
  ·unfold A8
   cases hg:o'.guard with
   |none=>rfl
   |some p =>
    obtain⟨j,want⟩:=p;have h2:=h.1.2;rw[hg]at h2;simp only at h2 ⊢
    cases hj:(all[j]?).bind (·.dst)with
    |none=>rfl
    |some d' =>
     rw[hj]at h2;simp only at h2 ⊢;simp only[zp2,h2,cf]
def put_comm{o o':Oper}{all:List Oper}{v v':V}{e:Nat->V}(h:Zi all o o'=true):zp2 o.dst v (zp2 o'.dst v' e)=zp2 o'.dst v' (zp2 o.dst v e):=by
 simp only[Zi,bn]at h
 cases hd:o.dst with
 |none=>rfl
 |some d =>
  cases hd':o'.dst with
  |none=>rfl
  |some d' =>
   rw[hd,hd']at h;simp only[Bool.not_eq_true']at h
   funext t
   simp only[zp2]
   cases h1:Nat.beq t d with
   |false=>rfl
   |true =>
    cases h2:Nat.beq t d' with
    |false=>rfl
    |true =>
     have:=eb h1;have:=eb h2
     subst_vars
     rw[Nat.beq_refl]at h;cases h.2
def xL{F:Heap}{η:HF}{k:Nat}(h:k ∉ keys F):zez F η k=η k:=by simp[zez,h]
def zAk{F G:Heap}{η:HF}(h:∀k∈keys F,k ∉ keys G):zez F (zez G η)=zez G (zez F η):=by
 funext k
 by_cases h1:k∈keys F
 ·have h2:=h k h1
  rw[xL h2];simp[zez,h1]
 ·rw[xL h1]
  by_cases h2:k∈keys G
  ·simp[zez,h2]
  ·rw[xL h2,xL h2,xL h1]
def j7.swap{P:Program}{N:Nat}{all:List Oper}{a b:FP}{e e1 e2:Nat->V}{η η1 η2:HF}(h:j7 P N all a e η e1 η1)(k:j7 P N all b e1 η1 e2 η2)(hi:QI all a b=true):
  ∃e1' η1',j7 P N all b e η e1' η1'/\j7 P N all a e1' η1' e2 η2:=by
 obtain⟨o,v,ho,hn,hd,rfl,h⟩:=h;obtain⟨o',v',ho',hn',hd',rfl,k⟩:=k;simp only[QI,ho,ho',bn,Bool.or_eq_true,zO3]at hi;obtain⟨hs,hs',hi⟩:=hi;obtain⟨ev1,ew1⟩:=zig (v:=v) (e:=e) hs;obtain⟨ev2,ew2⟩:=zig (v:=v') (e:=e) hs';rw[ew1]at k
 have hA:∀{η3:HF},(A8 all e o'=some false/\v'=.no/\η3=η/\b.fk=[]/\b.rk=[])∨(A8 all e o'=some true/\∃F R F',zAj P o' (evF e) (F++R) v' (F'++R)/\(keys (F'++R)).Nodup/\(keys F).Nodup/\(∀k∈keys F,k∈keys F')/\keys F'=b.fk/\keys R=b.rk /\
   (∀p∈F++R,η p.1=some p.2)/\(∀k∈keys F',k ∉ keys F->η k=none)/\η3=zez F' η/\zG7 P o' e η η3 v' b)->j7 P N all b e η (zp2 o'.dst v' e) η3:=λh=>⟨o',v',ho',hn',hd',rfl,h⟩
 have hB:∀{η0 η3:HF},(A8 all e o=some false/\v=.no/\η3=η0/\a.fk=[]/\a.rk=[])∨(A8 all e o=some true/\∃F R F',zAj P o (evF e) (F++R) v (F'++R)/\(keys (F'++R)).Nodup/\(keys F).Nodup/\(∀k∈keys F,k∈keys F')/\keys F'=a.fk/\keys R=a.rk /\
   (∀p∈F++R,η0 p.1=some p.2)/\(∀k∈keys F',k ∉ keys F->η0 k=none)/\η3=zez F' η0/\zG7 P o e η0 η3 v a)->j7 P N all a (zp2 o'.dst v' e) η0 (zp2 o'.dst v' (zp2 o.dst v e)) η3:=λh=>by
  refine⟨o,v,ho,hn,hd,put_comm (v:=v') (v':=v) hs',?_⟩
  rcases h with⟨h1,h2⟩|⟨h1,F,R,F',h2,h3,h4,h5,h6,h7,h8,h9,h10,f1,f2⟩
  ·exact .inl ⟨ew2.trans h1,h2⟩
  ·refine .inr ⟨ew2.trans h1,F,R,F',h2.congr (λx hx=>ev2 x hx),h3,h4,h5,h6,h7,h8,h9,h10,λk t off hk=>?_,f2⟩
   obtain⟨g1,g2,g3,g4⟩:=f1 k t off hk;exact⟨g1,g2,g3,λbt cs hc=>(g4 bt cs hc).congr λx hx=>ev2 x hx⟩
 rcases k with⟨k1,k2,rfl,k4,k5⟩|⟨k1,F2,R2,F2',l2,n2,nf2,s2,ek2,er2,g2,f2,rfl,q2,q2'⟩
 ·exact⟨_,η,hA (.inl ⟨k1,k2,rfl,k4,k5⟩),hB h⟩
 ·have l2':zAj P o' (evF e) (F2++R2) v' (F2'++R2):=l2.congr (λx hx=>(ev1 x hx).symm)
  have q3:∀k t off,b.ld=some (k,t,off)->b.fk=[]/\b.rk=[k]/\(∃bt cs,η1 k=some (.box bt cs)/\atV P t cs off=some v')/\∀bt cs,atV P t cs off=some v'->zAj P o' (evF e) [(k,.box bt cs)] v' [(k,.box bt cs)]:=λk t off hk=>by
   obtain⟨g1,g2,g3,g4⟩:=q2 k t off hk;exact⟨g1,g2,g3,λbt cs hc=>(g4 bt cs hc).congr λx hx=>(ev1 x hx).symm⟩
  rcases h with⟨h1,h2,rfl,h4,h5⟩|⟨h1,F1,R1,F1',l1,n1,nf1,s1,ek1,er1,g1,f1,rfl,q1,q1'⟩
  ·exact⟨_,_,hA (.inr ⟨k1,F2,R2,F2',l2',n2,nf2,s2,ek2,er2,g2,f2,rfl,q3,q2'⟩),hB (.inl ⟨h1,h2,rfl,h4,h5⟩)⟩
  ·rcases hi with⟨hk1,hk2,hk3⟩|hi
   ·have hk1:=Ja hk1
    have hk2:=Ja hk2;have hk3:=Ja hk3
    have hout2:∀k∈keys F2'++keys R2,k ∉ keys F1':=λk hk hk1'=>by
     rw[ek1]at hk1'
     rcases List.mem_append.1 hk with hk|hk
     ·rw[ek2]at hk;exact hk1 k hk1' hk
     ·rw[er2]at hk;exact hk2 k hk1' hk
    have hout1:∀k∈keys F1'++keys R1,k ∉ keys F2':=λk hk hk2'=>by
     rw[ek2]at hk2'
     rcases List.mem_append.1 hk with hk|hk
     ·rw[ek1]at hk;exact hk1 k hk hk2'
     ·rw[er1]at hk;exact hk3 k hk hk2'
    have hkey2:∀p∈F2++R2,p.1∈keys F2'++keys R2:=λp hp=>by
     rcases List.mem_append.1 hp with hp|hp
     ·exact List.mem_append_left _ (s2 _ (mem_keys hp))
     ·exact List.mem_append_right _ (mem_keys hp)
    have hkey1:∀p∈F1++R1,p.1∈keys F1'++keys R1:=λp hp=>by
     rcases List.mem_append.1 hp with hp|hp
     ·exact List.mem_append_left _ (s1 _ (mem_keys hp))
     ·exact List.mem_append_right _ (mem_keys hp)
    have hcm:zez F2' (zez F1' η)=zez F1' (zez F2' η):=zAk λk hk hk'=>hout2 k (List.mem_append_left _ hk) hk'
    refine⟨_,zez F2' η,hA (.inr ⟨k1,F2,R2,F2',l2',n2,nf2,s2,ek2,er2,λp hp=>?_,λk hk hkF=>?_,rfl,λk t off hk=>?_,λk t off hk=>?_⟩),hB (.inr ⟨h1,F1,R1,F1',l1,n1,nf1,s1,ek1,er1,λp hp=>?_,λk hk hkF=>?_,hcm,λk t off hk=>?_,λk t off hk=>?_⟩)⟩
    ·rw[<- g2 p hp,xL (hout2 _ (hkey2 p hp))]
    ·rw[<- f2 k hk hkF,xL (hout2 k (List.mem_append_left _ hk))]
    ·obtain⟨w1,w2,w3,w4⟩:=q3 k t off hk
     rw[xL (hout2 k (List.mem_append_right _ (by rw[er2,w2];exact msQ.2 rfl)))]at w3;exact⟨w1,w2,w3,w4⟩
    ·obtain⟨w1,bt,cs,cs',w2,w3,w4⟩:=q2' k t off hk
     have hk0:=hout2 k (List.mem_append_left _ (by rw[ek2];exact w1));rw[xL hk0]at w2;rw[hcm,xL hk0]at w3;exact⟨w1,bt,cs,cs',w2,w3,w4⟩
    ·rw[<- g1 p hp,xL (hout1 _ (hkey1 p hp))]
    ·rw[<- f1 k hk hkF,xL (hout1 k (List.mem_append_left _ hk))]
    ·obtain⟨w1,w2,w3,w4⟩:=q1 k t off hk
     rw[<- xL (F:=F2') (η:=η) (hout1 k (List.mem_append_right _ (by rw[er1,w2];exact msQ.2 rfl)))]at w3;exact⟨w1,w2,w3,w4⟩
    ·obtain⟨w1,bt,cs,cs',w2,w3,w4⟩:=q1' k t off hk
     have hk0:=hout1 k (List.mem_append_left _ (by rw[ek1];exact w1));rw[<- xL (F:=F2') (η:=η) hk0]at w2;rw[<- xL (F:=F2') (η:=zez F1' η) hk0]at w3;exact⟨w1,bt,cs,cs',w2,w3,w4⟩
   ·obtain⟨i1,k,t,off,i2,i3⟩:=zLz hi
    have e1:F1'=[]:=by
     have:keys F1'=[]:=by rw[ek1,i1]
     exact List.map_eq_nil_iff.1 this
    subst e1
    have hη:zez [] η=η:=funext λk=>xL (by simp[keys])
    obtain⟨w1,w2,⟨bt,cs,w3,w4⟩,w5⟩:=q1 k t off i2;rw[hη]at g2 f2 q2' q3 ⊢;obtain⟨u1,bt',cs1,cs2,u2,u3,u4⟩:=q2' k t off i3;rw[w3]at u2;cases u2;have ha:atV P t cs2 off=some v:=u4.symm.trans w4
    have hnil:∀k t off,(k,t,off) ∉ a.kc:=λk t off hk=>by
     have:=(q1' k t off hk).1;rw[i1]at this;cases this
    refine⟨_,zez F2' η,hA (.inr ⟨k1,F2,R2,F2',l2',n2,nf2,s2,ek2,er2,g2,f2,rfl,q3,q2'⟩),hB (.inr ⟨h1,[],[(k,.box bt cs2)],[],w5 _ _ ha,?_,List.nodup_nil,λk hk=>hk,i1.symm,w2.symm,λp hp=>?_,λk hk=>(by cases hk),(funext λk=>xL (by simp[keys])).symm,λk' t' off' hk=>?_,λk t off hk=>absurd hk (hnil k t off)⟩)⟩
    ·simp[keys]
    ·cases msQ.1 hp
     exact u3
    ·rw[i2]at hk
     cases hk;exact⟨w1,w2,⟨bt,cs2,u3,ha⟩,w5⟩
inductive zih(P:Program)(N:Nat)(all:List Oper):List FP->(Nat->V)->HF->(Nat->V)->HF->Prop
 |nil {e:Nat->V} {η:HF}:zih P N all [] e η e η
 |cons {a:FP} {l:List FP} {e e1 e2:Nat->V} {η η1 η2:HF} (h:j7 P N all a e η e1 η1) (k:zih P N all l e1 η1 e2 η2):zih P N all (a::l) e η e2 η2
def zih.front{P:Program}{N:Nat}{all:List Oper}{b:FP}{l2:List FP}:∀{l1:List FP}{e e2:Nat->V}{η η2:HF},zih P N all (l1++b::l2) e η e2 η2->(∀a∈l1,QI all a b=true) ->
  ∃e1 η1,j7 P N all b e η e1 η1/\zih P N all (l1++l2) e1 η1 e2 η2
 |[],e,e2,η,η2,h,_=>by
  cases h with
  |cons h k=>exact⟨_,_,h,k⟩
 |a::l1,e,e2,η,η2,h,hi=>by
  cases h with
  |cons h k =>
   obtain⟨e1,η1,h1,h2⟩:=zih.front (l1:=l1) k λc hc=>hi c (mcQ _ hc)
   obtain⟨e1',η1',h3,h4⟩:=h.swap h1 (hi a al);exact⟨e1',η1',h3,.cons h4 h2⟩
def QJ(l:List Edge)(acc:List Nat):Nat->Nat:=λs=>match l with
 |[]=>s
 | e::r=>QJ r acc (if Region.binds .any e then s ||| 2 ^ e.on ||| acc.getD e.on 0 else s)
def jB:List Oper->List Nat->List Nat
 |[],acc=>acc
 |o::r,acc=>jB r (acc++[QJ o.after.toList acc 0])
def zii(ms:List Nat)(j i:Nat):Bool:=(ms.getD j 0).testBit i
def zf1{acc:List Nat}{i:Nat}:∀{l:List Edge}{s:Nat},(QJ l acc s).testBit i=true->s.testBit i=true∨∃e∈l,Region.binds .any e=true/\(e.on=i∨(acc.getD e.on 0).testBit i=true)
 |[],s,h=>.inl h
 |e::r,s,h=>by
  simp only[QJ]at h
  rcases zf1 h with h|⟨e',he',h1,h2⟩
  ·split at h
   ·rename_i hb
    simp only[Nat.testBit_or,Bool.or_eq_true]at h
    rcases h with(h|h)|h
    ·exact .inl h
    ·refine .inr ⟨e,al,hb,.inl ?_⟩
     rw[Nat.testBit_two_pow]at h;simpa using h
    ·exact .inr ⟨e,al,hb,.inr h⟩
   ·exact .inl h
  ·exact .inr ⟨e',mcQ _ he',h1,h2⟩
def zf2:∀(l:List Oper)(acc:List Nat),(jB l acc).take acc.length=acc/\∀(k:Nat)(o:Oper),l[k]?=some o->(jB l acc).getD (acc.length+k) 0=QJ o.after.toList ((jB l acc).take (acc.length+k)) 0
 |[],acc=>⟨by simp[jB],λk o h=>by simp at h⟩
 |o::r,acc=>by
  obtain⟨h1,h2⟩:=zf2 r (acc++[QJ o.after.toList acc 0]);simp only[jB]
  have hl:(acc++[QJ o.after.toList acc 0]).length=acc.length+1:=af
  rw[hl]at h1 h2
  have hta:(jB r (acc++[QJ o.after.toList acc 0])).take acc.length=acc:=by
   have:=congrArg (List.take acc.length) h1;rw[List.take_take,Nat.min_eq_left ab]at this;rw[this];simp
  refine⟨hta,λk o' hk=>?_⟩
  cases k with
  |zero =>
   simp only[List.getElem?_cons_zero,Option.some.injEq]at hk;subst hk;rw[Nat.add_zero,hta,List.getD_eq_getElem?_getD]
   have:(jB r (acc++[QJ o.after.toList acc 0]))[acc.length]?=some (QJ o.after.toList acc 0):=by
    have h3:=congrArg (λl=>l[acc.length]?) h1;simp only[List.getElem?_take]at h3;rw[if_pos ab]at h3;rw[h3];simp
   rw[this];rfl
  |succ k =>
   have:=h2 k o' (by simpa using hk);rw[show acc.length+1+k=acc.length+(k+1) by omega]at this;exact this
def VO(all:List Oper):Bool:=(List.range all.length).all λj=>match all[j]? with
 | some o=>o.after.toList.all λe=>!Region.binds .any e||Nat.ble (e.on+1) j
 |none=>true
def zij{all:List Oper}(h:VO all=true){j:Nat}{o:Oper}(ho:all[j]?=some o){e:Edge}(he:e∈o.after)(hb:Region.binds .any e=true):e.on<j:=by
 have hj:j<all.length:=(List.getElem?_eq_some_iff.1 ho).1;have h1:=(List.all_eq_true.1 h) j (List.mem_range.2 hj);rw[ho]at h1;have h2:=(List.all_eq_true.1 h1) e (by simpa using he);simp only[hb,Bool.not_true,Bool.false_or]at h2;exact lb h2
def zf3{all:List Oper}(hE:VO all=true){listed:Array Bool}(hc:zbq all.toArray listed):∀(j:Nat)(o:Oper),all[j]?=some o->(∀e∈o.after,Region.binds .any e=true->listed.getD e.on false=true)->∀i,zii (jB all []) j i=true->listed.getD i false=true:=by
 intro j
 induction j using Nat.strongRecOn with
 |_ j ih =>
  intro o ho hpre i hi;have hs:=(zf2 all []).2 j o ho;simp only[List.length_nil,Nat.zero_add]at hs;unfold zii at hi;rw[hs]at hi
  rcases zf1 hi with h|⟨e,he,hb,h⟩
  ·simp at h
  ·have he':e∈o.after:=by simpa using he
   have hlt:=zij hE ho he' hb;have hl:=hpre e he' hb
   rcases h with rfl|h
   ·exact hl
   ·have hj:j<all.length:=(List.getElem?_eq_some_iff.1 ho).1
    have ho2:all[e.on]?=some (all[e.on]'ab):=List.getElem?_eq_getElem ab;refine ih e.on hlt _ ho2 (λe2 he2 hb2=>hc e.on _ hl (by simpa using ho2) e2 he2 hb2) i ?_;unfold zii;rw[List.getD_eq_getElem?_getD,List.getElem?_take,if_pos hlt,<- List.getD_eq_getElem?_getD]at h;exact h
def jw(all:List Oper)(ms:List Nat):List FP->Bool
 |[]=>true
 | a::r=>r.all (λb=>zii ms b.i a.i||QI all a b)&&jw all ms r
def Kg{all:List Oper}{ms:List Nat}{b:FP}{l2:List FP}:∀{l1:List FP},jw all ms (l1++b::l2)=true->(∀a∈l1,zii ms b.i a.i=true∨QI all a b=true)/\jw all ms (l1++l2)=true
 |[],h=>by
  simp only[List.nil_append,jw,bn]at h;exact⟨λ_ h=>(by cases h),h.2⟩
 |a::l1,h=>by
  simp only[List.cons_append,jw,bn]at h;obtain⟨h1,h2⟩:=Kg h.2;have h3:=List.all_eq_true.1 h.1;refine⟨λx hx=>?_,?_⟩
  ·rcases List.mem_cons.1 hx with rfl|hx
   ·have:=h3 b af
    simpa using this
   ·exact h1 x hx
  ·simp only[List.cons_append,jw,bn]
   refine⟨List.all_eq_true.2 λx hx=>h3 x ?_,h2⟩
   rcases List.mem_append.1 hx with hx|hx
   ·exact List.mem_append_left _ hx
   ·exact List.mem_append_right _ (mcQ _ hx)
def zma:∀{l:List Nat},l.Nodup->yu l=true
 |[],_=>rfl
 |k::r,h=>by
  rw[List.nodup_cons]at h;simp only[yu,bn,Bool.not_eq_true',List.contains_eq_mem,decide_eq_false_iff_not];exact⟨h.1,zma h.2⟩
def Ya{H:Heap}:∀{F:Heap},(∀p∈F,H.get p.1=some p.2)->uB (keys F) H=some F
 |[],_=>rfl
 |(k,o)::r,h=>by
  have h1:=h (k,o) al
  have h2:=Ya (F:=r) λp hp=>h p (mcQ _ hp)
  show(match H.get k,uB (keys r) H with|some o,some l=>some ((k,o)::l)|_,_=>none)=_
  rw[h1,h2]
def get_none:∀{H:Heap}{k:Nat},k ∉ keys H↔H.get k=none
 |[],k=>by simp[keys,Heap.get]
 |(k',o)::r,k=>by
  simp only[keys,mk9,List.mem_cons,not_or,Heap.get]
  cases hb:Nat.beq k k' with
  |true=>simp[eb hb]
  |false =>
   have:k≠k':=λe=>by subst e;rw[Nat.beq_refl]at hb;cases hb
   simp only[cf,ne_eq,this,not_false_eq_true,true_and];exact get_none
def get_append{A B:Heap}{k:Nat}:(A++B).get k=if k∈keys A then A.get k else B.get k:=by
 induction A with
 |nil=>simp[keys]
 |cons p A ih =>
  obtain⟨k',o⟩:=p;simp only[List.cons_append,Heap.get,keys,mk9,List.mem_cons]
  cases hb:Nat.beq k k' with
  |true=>simp[eb hb]
  |false =>
   have:k≠k':=λe=>by subst e;rw[Nat.beq_refl]at hb;cases hb
   simp only[cf,this,false_or];exact ih
def QY{ks:List Nat}{H:Heap}{k:Nat}(h:k ∉ ks):(qR ks H).get k=H.get k:=by
 induction H with
 |nil=>rfl
 |cons p H ih =>
  obtain⟨k',o⟩:=p;simp only[qR,List.filter_cons];split
  ·simp only[Heap.get]
   rw[show Heap.get (List.filter (λp=>!ks.contains p.1) H) k=Heap.get H k from ih]
  ·rename_i hc
   have hk':k'∈ks:=by simpa using hc
   have hne:k≠k':=λe=>h (e▸hk')
   have hb:Nat.beq k k'=false:=by
    cases hb:Nat.beq k k' with
    |true=>exact absurd (eb hb) hne
    |false=>rfl
   simp only[Heap.get,hb,cf];exact ih
def QZ{A B:Heap}(hA:(keys A).Nodup)(hB:(keys B).Nodup)(h:∀k,A.get k=B.get k):A.Perm B:=by
 refine(List.perm_ext_iff_of_nodup (wI _ hA) (wI _ hB)).2 λp=>?_
 obtain⟨k,o⟩:=p;constructor
 ·intro hp
  have:=get_of_mem hA hp;rw[h]at this;exact Heap.get_mem this
 ·intro hp
  have:=get_of_mem hB hp;rw[<- h]at this;exact Heap.get_mem this
section
variable{K0:List Nat}{c:Ctx K0}{P:Program}{r:Option Nat}{N:Nat}{all:List Oper}{ds:List Deferred}
def zO4(c:Ctx K0)(N:Nat)(ds:List Deferred)(e:Nat->V)(η:HF)(a:Act)(w:World):Prop :=
 xr c ds w/\∃ρr ρ H,Frm N ds a ρr/\ρ.get=e/\H.get=η/\K1 c ρ H ρr w
def zmb{fp:FP}{e e1:Nat->V}{η η1:HF}{a:Act}{w:World}{n:Nat}{Q:Exit->Act->World->Prop}{KK:Act->World->Prop}(hs:j7 P N all fp e η e1 η1)(S:zO4 c N ds e η a w)(h:∀a' w',zO4 c N ds e1 η1 a' w'->KK a' w'):wpOpIn (Fw r) n P all.toArray Q fp.i KK a w:=by
 obtain⟨o,v,ho,hn,hd,rfl,hcase⟩:=hs;obtain⟨hM,ρr,ρ,H,hf,rfl,rfl,SA⟩:=S;obtain⟨m,Z,SC,hR⟩:=id SA
 have hput:∀{x:Value}{H1:Heap}{m':M}{Z':ZM}{w':World},xr c ds w'->QX c m' Z' H1 w'->zlp m' Z' ρ ρr->Rep (some m') Z' v x->zO4 c N ds (zp2 o.dst v ρ.get) H1.get (a.put o.dst x) w':=by
  intro x H1 m' Z' w' hM' S' hR' hx
  cases hdst:o.dst with
  |none=>exact⟨hM',ρr,ρ,H1,hf.putNone _,rfl,rfl,m',Z',S',hR'⟩
  |some d=>exact⟨hM',upd ρr d x,(d,v)::ρ,H1,hf.put (Nat.lt_of_succ_le (hd d hdst)) x,rfl,rfl,m',Z',S',hR'.put d hx⟩
 have ho':all.toArray[fp.i]?=some o:=by simpa using ho
 unfold wpOpIn;simp only[ho']
 rcases hcase with⟨hw,rfl,rfl,_,_⟩|⟨hw,F,R,F',hl,hnd,hnF,hsub,_,_,hget,hnew,rfl,_⟩
 ·have hw':=(hf.wanted all o).trans (jA hR hw)
  simp only[hw',Bool.false_eq_true,if_false];exact⟨λ_ _=>trivial,h _ _ (hput hM SC hR rfl)⟩
 ·have hw':=(hf.wanted all o).trans (jA hR hw)
  simp only[hw',if_true];refine⟨λ_ _=>trivial,?_⟩;rw[AB hn,hf.eval];have hHn:=SC.step.sim.nodup
  have hFR:(keys (F++R)).Nodup:=by
   rw[zH]at hnd ⊢;obtain⟨_,h2,h3⟩:=List.nodup_append.1 hnd;exact List.nodup_append.2 ⟨hnF,h2,λa ha b hb=>h3 a (hsub a ha) b hb⟩
  have hsel:uB (keys (F++R)) H=some (F++R):=Ya hget
  have hfresh:Kd (F'++R) (keys (F++R)) H=true:=List.all_eq_true.2 λp hp=>by
   simp only[Bool.or_eq_true,List.contains_eq_mem,decide_eq_true_eq,Bool.not_eq_true',decide_eq_false_iff_not];rw[zH,List.mem_append]
   rcases List.mem_append.1 hp with hp|hp
   ·by_cases hpF:p.1∈keys F
    ·exact .inl (.inl hpF)
    ·exact .inr (get_none.2 (hnew p.1 (mem_keys hp) hpF))
   ·exact .inl (.inr (mem_keys hp))
  have hperm:=vT hHn hFR hsel;have hsim:wH m Z ((F++R)++qR (keys (F++R)) H) w:=SC.step.sim.perm hperm
  obtain⟨hn',hex⟩:=hl ρr m Z w (λx _=>by rw[zb2];exact hR.ev x) hsim.left (λk hk hkF=>SC.dom k (by
   obtain⟨p,hp',rfl⟩:=List.mem_map.1 hk;have:=(List.all_eq_true.1 hfresh) p hp';simp only[Bool.or_eq_true,List.contains_eq_mem,decide_eq_true_eq,Bool.not_eq_true',decide_eq_false_iff_not]at this
   rcases this with this|this
   ·exact absurd this hkF
   ·exact this))
  have hgetH:((F'++R)++qR (keys (F++R)) H).get=zez F' H.get:=by
   funext k
   rw[get_append];by_cases h1:k∈keys (F'++R)
   ·rw[if_pos h1,get_append]
    by_cases h2:k∈keys F'
    ·simp[zez,h2]
    ·rw[if_neg h2,xL h2]
     have h3:k∈keys R:=by
      rw[zH,List.mem_append]at h1;exact h1.resolve_left h2
     obtain⟨p,hp,rfl⟩:=List.mem_map.1 h3;rw[hget p (List.mem_append_right _ hp)]
     have hnR:(keys R).Nodup:=by rw[zH]at hnd;exact(List.nodup_append.1 hnd).2.1
     exact get_of_mem hnR hp
   ·rw[if_neg h1]
    rw[zH,List.mem_append,not_or]at h1;rw[xL h1.1];exact QY (by rw[zH,List.mem_append];exact λh'=>h'.elim (λh'=>h1.1 (hsub k h')) h1.2)
  have go:∀x w',(∃m' Z',Step m Z (F++R) w m' Z' (F'++R) w'/\Rep (some m') Z' v x)->KK (a.put o.dst x) w':=λx w' ⟨m',Z',hst,hr⟩=>by
   refine h _ _ ?_;rw[<- hgetH];exact hput (hM.step hsim.left hst) (SC.step' (zma hFR) hsel hfresh λ_ _=>hst) (hR.up hst.zext hst.mext) hr
  rcases hex with⟨x,w',hrun,hx⟩|⟨w',hrun,hx⟩|⟨f,args,w1,hrun,hx⟩
  ·rw[hrun,Oper.uponIn_value];exact go x w' hx
  ·rw[hrun,Oper.uponIn_skip];exact go _ w' hx
  ·rw[hrun,Oper.uponIn_enter]
   refine⟨λhx=>by simp[Fw]at hx,(Hh r hx).mono λen w'' ⟨x,he,hr⟩=>?_⟩;subst he;exact go x w'' hr
def zmc{L:List FP}{i:Nat}(h:i∈L.map (·.i)):∃l1 b l2,L=l1++b::l2/\b.i=i:=by
 obtain⟨b,hb,rfl⟩:=List.mem_map.1 h;obtain⟨l1,l2,rfl⟩:=List.append_of_mem hb;exact⟨l1,b,l2,rfl,rfl⟩
def zO5(hE:VO all=true){Q:Exit->Act->World->Prop}{n:Nat}{e2:Nat->V}{η2:HF}(hQ:∀a w,zO4 c N ds e2 η2 a w->Q .normal a w):∀(fuel:Nat)(L:List FP)(listed:Array Bool)(e:Nat->V)(η:HF)(a:Act)(w:World),
  zih P N all L e η e2 η2->jw all (jB all []) L=true->(L.map (·.i)).Pairwise (· < ·)->(∀i,i<all.length->(listed.getD i false=false↔i∈L.map (·.i)))->(∀i∈L.map (·.i),i<all.length)->zbq all.toArray listed->listed.size=all.length->L.length<=fuel ->
  zO4 c N ds e η a w->wpAnyIn (Fw r) n P .any all.toArray Q fuel listed a w:=by
 intro fuel
 have hempty:∀(L:List FP)(listed:Array Bool),(L.map (·.i)).Pairwise (· < ·)->(∀i,i<all.length->(listed.getD i false=false↔i∈L.map (·.i)))->(∀i∈L.map (·.i),i<all.length)->listed.size=all.length->Region.ready .any all.toArray listed=[]->L=[]:=by
  intro L listed hp hl hlt hsz hr
  cases L with
  |nil=>rfl
  |cons b L =>
   exfalso;have hb:=hlt b.i af
   have hmem:b.i∈Region.ready .any all.toArray listed:=by
    refine mem_ready.2 ⟨?_,all[b.i]'hb,by simpa using List.getElem?_eq_getElem hb,λe' he' hbind=>?_⟩
    ·have:=(hl b.i hb).2 af
     have hlt':b.i<listed.size:=ab
     simp only[Array.getD_eq_getD_getElem?,Array.getElem?_eq_getElem hlt',Option.getD_some]at this ⊢;exact this
    ·have hlt2:=zij hE (List.getElem?_eq_getElem hb) he' hbind
     cases hq:listed.getD e'.on false with
     |true=>rfl
     |false =>
      have:=(hl e'.on ab).1 hq;rw[mk9]at this hp
      rcases List.mem_cons.1 this with h'|h'
      ·rw[h']at hlt2;exact absurd hlt2 (Nat.lt_irrefl _)
      ·have h2:=(List.pairwise_cons.1 hp).1 _ h'
       exact absurd (Nat.lt_trans hlt2 h2) (Nat.lt_irrefl _)
   rw[hr]at hmem;cases hmem
 induction fuel with
 |zero =>
  intro L listed e η a w hch _ hp hl hlt hc hsz hlen S;have:L=[]:=List.eq_nil_of_length_eq_zero ab;subst this;cases hch;refine⟨?_,hQ a w S⟩
  refine List.eq_nil_iff_forall_not_mem.2 λj hj=>?_
  obtain⟨h1,o,ho,_⟩:=mem_ready.1 hj
  have hj':j<all.length:=by have:=(Array.getElem?_eq_some_iff.1 ho).1;simpa using this
  have hlt':j<listed.size:=ab
  have:listed.getD j false=false:=by
   simp only[Array.getD_eq_getD_getElem?,Array.getElem?_eq_getElem hlt',Option.getD_some]at h1 ⊢;exact h1
  have:=(hl j hj').1 this;cases this
 |succ fuel ih =>
  intro L listed e η a w hch hcp hp hl hlt hc hsz hlen S;refine⟨λhr=>?_,λj hj=>?_⟩
  ·have:=hempty L listed hp hl hlt hsz hr
   subst this;cases hch;exact hQ a w S
  ·obtain⟨h1,o,ho,hpre⟩:=mem_ready.1 hj
   have hj':j<all.length:=by have:=(Array.getElem?_eq_some_iff.1 ho).1;simpa using this
   have hjs:j<listed.size:=ab
   have hjf:listed.getD j false=false:=by
    simp only[Array.getD_eq_getD_getElem?,Array.getElem?_eq_getElem hjs,Option.getD_some]at h1 ⊢;exact h1
   obtain⟨l1,b,l2,rfl,rfl⟩:=zmc ((hl j hj').1 hjf);obtain⟨hfr,hcp'⟩:=Kg hcp;have hpm:((l1++b::l2).map (·.i)).Pairwise (· < ·):=hp;rw[List.map_append,mk9,List.pairwise_append]at hpm;obtain⟨hp1,hp2,hp3⟩:=hpm;have hp2':=List.pairwise_cons.1 hp2
   have hind:∀x∈l1,QI all x b=true:=λx hx=>by
    rcases hfr x hx with h'|h'
    ·exfalso
     have hxl:=zf3 hE hc b.i o (by simpa using ho) hpre x.i h';have hxn:x.i<all.length:=hlt x.i (by simp;exact .inl ⟨x,hx,rfl⟩);have:=(hl x.i hxn).2 (by simp;exact .inl ⟨x,hx,rfl⟩);rw[hxl]at this;cases this
    ·exact h'
   obtain⟨e1,η1,hop,hch'⟩:=hch.front hind
   refine zmb hop S λa' w' S'=>ih (l1++l2) _ e1 η1 a' w' hch' hcp' ?_ ?_ ?_ (hc.set hj) (by simpa using hsz) (by simp at hlen ⊢;omega) S'
   ·rw[List.map_append,List.pairwise_append]
    exact⟨hp1,hp2'.2,λx hx y hy=>hp3 x hx y (mcQ _ hy)⟩
   ·intro i hi
    have hne:i=b.i∨i≠b.i:=Decidable.em _
    rcases hne with rfl|hne
    ·have hnot:b.i ∉ (l1++l2).map (·.i):=by
      rw[List.map_append,List.mem_append];rintro(h'|h')
      ·have:=hp3 _ h' b.i al;omega
      ·have:=hp2'.1 _ h';omega
     have h9:(listed.setIfInBounds b.i true).getD b.i false=true:=by simp[hjs]
     rw[h9];exact⟨λh'=>(by cases h'),λh'=>absurd h' hnot⟩
    ·rw[getD_set_ne false (Ne.symm hne),hl i hi]
     simp only[List.map_append,mk9,List.mem_append,List.mem_cons,hne,false_or]
   ·intro i hi
    refine hlt i ?_;rw[List.map_append,List.mem_append]at hi;simp only[List.map_append,mk9,List.mem_append,List.mem_cons]
    rcases hi with hi|hi
    ·exact .inl hi
    ·exact .inr (.inr hi)
def Zj(l:List Oper):zbq l.toArray (Array.replicate l.length false):=by
 intro j o hj _;exfalso;simp only[Array.getD_eq_getD_getElem?,Array.getElem?_replicate]at hj;split at hj<;>cases hj
def zb3(P:Program)(N:Nat)(all:List Oper)(done:List FP)(l:List Oper)(ρ:Env)(H:Heap)(K:Env->Heap->Prop):Prop :=
 ∃fps ρ' H',(keys H).Nodup->(fps.map (·.i)=List.range' (all.length-l.length) l.length/\zih P N all fps ρ.get H.get ρ'.get H'.get/\(keys H').Nodup/\jw all (jB all []) (done.reverse++fps)=true/\K ρ' H')
variable{ρ:Env}{H:Heap}{Q:we}
def zUs{id:Nat}(hm:P.follows .mixedOrders=true)(hE:VO all=true)(h:zb3 P N all [] all ρ H λρ' H'=>Q .normal ρ' H' ds):WpV c P r N (.region id all.toArray true) Q ρ H ds:=by
 intro ρr w ds1 S hM a n hf;obtain⟨fps,ρ',H',h⟩:=h;obtain⟨m,Z,SC,hR⟩:=S;obtain⟨h1,h2,h3,h4,h5⟩:=h SC.step.sim.nodup
 have hdrew:K1 c ρ H ρr w.drew:=⟨m,Z,⟨SC.step.trans (Step.same SC.step.sim rfl rfl rfl rfl),SC.dom⟩,hR⟩
 rw[Nat.sub_self]at h1;refine wpIn_region_any hm ?_
 have hrange:∀i,i∈fps.map (·.i)↔i<all.length:=λi=>by rw[h1,List.mem_range'];simp
 refine zO5 (c:=c) (ds:=ds1) (r:=r) hE (e2:=ρ'.get) (η2:=H'.get) (λa' w' S'=>?_) all.toArray.size fps _ ρ.get H.get a _ h2 (by simpa using h4) ?_ ?_ ?_ ?_ af ?_ ⟨hM.same rfl,ρr,ρ,H,hf,rfl,rfl,hdrew⟩
 ·obtain⟨hM',ρr',ρ2,H2,hf',e1,e2,m',Z',SC',hR'⟩:=S'
  refine⟨ρr',ds1,hf',ρ',H',?_,hM',h5⟩
  have hp:H2.Perm H':=QZ SC'.step.sim.nodup h3 λk=>by rw[e2]
  have:K1 c ρ' H2 ρr' w':=⟨m',Z',SC',λt=>by rw[<- e1];exact hR' t⟩
  exact this.perm hp
 ·rw[h1]
  exact List.pairwise_lt_range'
 ·intro i hi
  rw[hrange];simp only[List.size_toArray,Array.getD_eq_getD_getElem?,Array.getElem?_replicate];rw[if_pos hi];simp[hi]
 ·exact λi hi=>(hrange i).1 hi
 ·have:=Zj all
  simpa using this
 ·have:=congrArg List.length h1
  simp at this;simp[this]
end
section
variable{P:Program}{N:Nat}{all rest:List Oper}{done:List FP}{ρ:Env}{H:Heap}{K:Env->Heap->Prop}{o:Oper}
def d_nil(hc:jw all (jB all []) done.reverse=true)(h:K ρ H):zb3 P N all done [] ρ H K :=
 ⟨[],ρ,H,λhn=>⟨rfl,.nil,hn,by simpa using hc,h⟩⟩
def zL0{fp:FP}{ρ1:Env}{H1:Heap}(hi:fp.i=all.length-(rest.length+1))(hlen:rest.length+1<=all.length)(hs:(keys H).Nodup->(keys H1).Nodup/\j7 P N all fp ρ.get H.get ρ1.get H1.get)(h:zb3 P N all (fp::done) rest ρ1 H1 K):zb3 P N all done (o::rest) ρ H K:=by
 obtain⟨fps,ρ',H',h⟩:=h;refine⟨fp::fps,ρ',H',λhn=>?_⟩;obtain⟨hn1,hs⟩:=hs hn;obtain⟨h1,h2,h3,h4,h5⟩:=h hn1;refine⟨?_,.cons hs h2,h3,by simpa using h4,h5⟩;rw[mk9,h1,lc,List.range'_succ,hi]
 congr 2
 omega
def zUt(i:Nat)(hi:(all.length-(rest.length+1))=i)(hlen:Nat.ble (rest.length+1) all.length=true)(ho:all[i]?=some o)(hn:kv o.op=true)(hd:(match o.dst with|some d=>Nat.ble (d+1) N|none=>true)=true)(hw:xu all ρ o=some false)
  (h:zb3 P N all (.m i [] []::done) rest (zlq o.dst .no ρ) H K):zb3 P N all done (o::rest) ρ H K:=by
 refine zL0 hi.symm (lb hlen) (λhnd=>⟨hnd,o,.no,ho,hn,λd hd'=>?_,zif _ _ _,.inl ⟨hw,rfl,rfl,rfl,rfl⟩⟩) h;rw[hd']at hd;exact lb hd
end
def Q0:Op->Bool|.defer _=>false|_=>true
section
variable{P:Program}{N:Nat}{all rest:List Oper}{ρ:Env}{H H':Heap}{K:Env->Heap->Prop}
def A9{op:Op}(h:Q0 op=true):kv op=true:=by cases op<;>first|rfl|cases h
end
end Go.EV
