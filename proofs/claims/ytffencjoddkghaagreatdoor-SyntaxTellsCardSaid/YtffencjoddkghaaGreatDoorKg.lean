/- texts that the proof of SyntaxPrints reaches, part 7 -/
import Derived.Test.YtffencjoddkghaaGreatDoorKf
set_option linter.all false
set_option maxRecDepth 100000
namespace Go.Proofs.YtffencjoddkghaaGreatDoor
open Go Go.ChangeShapes Go.WideShapes Go.ChangeAt Go.RowKit Go.Deep Go.Joins Go.EV
theorem zOh{c:List V}(h:oQ Tryz.prog 9 c):∃s,c=EV.zL4 s∧okS s:=zDi Tryz.underlying9 h
section
variable{H:Type}{enc:TypeId×Value→H}{W:World}{b0:Nat}{r:Reach}{v:Value}{d:DataW H}{p:List MemPlace}{t:TypeId}
theorem zOi(hv:Value.okWide Tryz.prog W r b0 9 v)(h:DataW.Trod enc Tryz.prog W 0 (fun _=>true) true 9 v d p):∃s:List UInt8,okS s∧Rep none W.cell? (.str s) v:=by
 obtain⟨vs,h1,h2⟩:=zN3 (by kernel_rfl) h;obtain⟨s,rfl,hs⟩:=zOh h1;obtain⟨s',rfl,_⟩:=Go.ChangeMaps.open_string Tryz.underlying9 hv h;obtain⟨x,xs,e1,h3,_⟩:=h2;cases e1;exact⟨s,hs,h3⟩
end
end Go.Proofs.YtffencjoddkghaaGreatDoor
