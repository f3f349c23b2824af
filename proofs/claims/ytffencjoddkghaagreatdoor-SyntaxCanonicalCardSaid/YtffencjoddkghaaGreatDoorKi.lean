/- texts that the proof reaches, part 9 -/
import Derived.Test.YtffencjoddkghaaGreatDoorKh
set_option linter.all false
open Go.Proofs.Tryz renaming prog->bq,underlying9->dn
set_option maxRecDepth 100000
namespace Go.Proofs.YtffencjoddkghaaGreatDoor
open Go Go.ChangeShapes Go.WideShapes Go.ChangeAt Go.RowKit Go.Deep Go.Joins Go.EV
def zV1{c:List V}(h:Hi bq 9 c):∃s,c=EV.zTq s/\okS s:=zI5 dn h
section
variable{H:Type}{enc:TypeId×Value->H}{W:World}{b0:Nat}{r:Reach}{v:Value}{d:DataW H}{p:List MemPlace}{t:TypeId}
def zV2(hv:Value.okWide bq W r b0 9 v)(h:DataW.Trod enc bq W 0 (λ_=>true) true 9 v d p):∃s:ak,okS s/\Rep none W.cell? (.str s) v:=by
 obtain⟨vs,h1,h2⟩:=zVo (by kernel_rfl) h;obtain⟨s,rfl,hs⟩:=zV1 h1;obtain⟨s',rfl,_⟩:=Go.ChangeMaps.open_string dn hv h;obtain⟨x,xs,e1,h3,_⟩:=h2;cases e1;exact⟨s,hs,h3⟩
end
end Go.Proofs.YtffencjoddkghaaGreatDoor
