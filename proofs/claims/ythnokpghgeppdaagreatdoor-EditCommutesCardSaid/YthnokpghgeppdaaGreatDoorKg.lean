/- texts that the proof reaches, part 7 -/
import Derived.Test.YthnokpghgeppdaaGreatDoorKf
set_option linter.all false
namespace Go.EQ
open Go Go.RowKit Go.Eng Go.EV
section
variable{K0:List Nat}{c:Ctx K0}{P:Program}{fn:Func}{tmps:Array Value}{R:Ending→World→Prop}
end
section
variable{S:Tab}
end
end Go.EQ
namespace Go.Proofs.YthnokpghgeppdaaGreatDoor
open Go Go.RowKit Go.Eng Go.EV Go.EQ
class Fuel where
 n:Nat
 big:18446744073709551616≤n
def KK[Fuel]:Nat:=Fuel.n
set_option maxRecDepth 100000
variable[Hx]
def Q7(s old new:List UInt8)(n:Int):Option (List UInt8):=(grd (List.length s<4294967281∧1≤List.length old∧List.length s+Lib.count s old*List.length new≤140737488355328)).bind fun _=>some (Lib.replace s old new n)
theorem zon(s old new:List UInt8)(n:Int)(r:List UInt8)(hs:Q7 s old new n=some r):FnA Tryz.prog 176 [.str s,.str old,.str new,.int .i64 n] gl (.str r) gl:=by
 unfold Q7 at hs;obtain⟨_,h,hs⟩:=bind_some hs;obtain⟨h0,h1,h2⟩:=yg h;obtain rfl:=Option.some.inj hs
 refine K8 glB rfl fun w Z vals hf hg hv=>?_
 obtain⟨x,xs,rfl,e1,x2,xs2,rfl,e2,x3,xs3,rfl,e3,x4,xs4,rfl,e4,e5⟩:=hv;cases e5;cases e1;cases e2;cases e3;cases e4;obtain⟨cur,u,fr,g1,g2⟩:=hg (900000002,gl2 Hx.ob2 Hx.m2) (by simp[gl]) 3 _ _ rfl;obtain⟨y,ys,g3,rfl,rfl⟩:=g2
 have hm:w.cell? ⟨3,0,none⟩=some (.int .i64 Hx.m2):=by
  rw[cell_of_row w 3 0 cur u fr g1,← Array.getElem?_toList,g3];rfl
 refine Calls.mono (Tryz.strings_Replace ⟨s.toArray⟩ ⟨old.toArray⟩ ⟨new.toArray⟩ n Hx.m2 w (zok h0) hm (by rw[Ka];exact h1) (by rw[Ka,Ka];exact h2)) ?_;rintro e w' ⟨rfl,hb⟩;exact⟨_,rfl,fun _=>rfl,hb⟩
end Go.Proofs.YthnokpghgeppdaaGreatDoor
