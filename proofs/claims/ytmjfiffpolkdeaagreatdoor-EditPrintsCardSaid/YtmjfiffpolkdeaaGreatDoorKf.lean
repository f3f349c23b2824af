/- texts that the proof reaches, part 6 -/
import Derived.Test.YtmjfiffpolkdeaaGreatDoorKe
set_option linter.all false
open Bool renaming true->bg
open Go.Proofs.Tryz renaming prog->bo
set_option maxRecDepth 100000
namespace Go.Proofs.YtmjfiffpolkdeaaGreatDoor
open Go Go.RowKit Go.Joins
def xA{a b:Bool}(ha:a=bg)(hb:b=bg):(a&&b)=bg:=by rw[ha,hb];rfl
def ae3:(Rows.editPrintsRow.wf (OpenSpec.ofChange Rows.editPrintsSpec))=bg:=by kernel_rfl
def ae4:(laidOutB bo)=bg:=laidOut
def ae5:(mapsRowed bo)=bg:=by kernel_rfl
def ae6:(Tryz.f3.params.all (Tryz.prog.readableRec ·))=bg:=by kernel_rfl
def ae7:(namedTie bo Rows.editPrintsRow.named Rows.editPrintsSpec.vars)=bg:=by kernel_rfl
def ae8:((Rows.editPrintsRow.stops==[]))=bg:=by kernel_rfl
def ae9:((Tryz.prog.stops==[]))=bg:=by kernel_rfl
def ae_:((Rows.editPrintsRow.knobs==[]))=bg:=by kernel_rfl
def ae':((Tryz.prog.stopKnobs==[]))=bg:=by kernel_rfl
def afa:((Rows.editPrintsRow.inPlace==Tryz.prog.inPlace 3))=bg:=by kernel_rfl
def aey:((Rows.editPrintsRow.unfollowed==Tryz.prog.unfollowed 3))=bg:=by kernel_rfl
def aez:((Rows.editPrintsRow.recurses==Tryz.prog.recurses 3))=bg:=by kernel_rfl
def aeA:((Rows.editPrintsRow.named==Tryz.prog.varsNamed 3))=bg:=by kernel_rfl
def aeB:((Rows.editPrintsRow.maps==(Tryz.f3.params.toList++Rows.editPrintsSpec.plain.varTypes bo).any (Tryz.prog.mapsRec ·)))=bg:=by kernel_rfl
def aeC:((Rows.editPrintsRow.ifaces==(Tryz.f3.params.toList++Rows.editPrintsSpec.plain.varTypes bo).any (Tryz.prog.ifacesRec ·)))=bg:=by kernel_rfl
def aeD:((Rows.editPrintsRow.mapsOut==Tryz.prog.mapsAmong Tryz.f3.resultTypes.toList))=bg:=by kernel_rfl
def aeE:((Rows.editPrintsRow.loops==(Tryz.f3.params.toList++Rows.editPrintsSpec.plain.varTypes bo).any (Tryz.prog.loopsFrom ·)))=bg:=by kernel_rfl
def aeF:((Rows.editPrintsRow.wideKeys==(Tryz.f3.params.toList++Rows.editPrintsSpec.plain.varTypes bo++Tryz.f3.resultTypes.toList).any (Tryz.prog.wideKeysFrom ·)))=bg:=by kernel_rfl
def aeG:(Rows.editPrintsSpec.vars.all (Tryz.prog.varReadable ·))=bg:=by kernel_rfl
def aeH:(Tryz.f3.resultTypes.all (λt=>Tryz.prog.readableRec t&&decide (t<Tryz.prog.types.size)))=bg:=by kernel_rfl
def aeI:((Rows.editPrintsRow.ifacesOut==Tryz.f3.resultTypes.toList.any (Tryz.prog.ifacesRec ·)))=bg:=by kernel_rfl
def aeJ:((Rows.editPrintsRow.loopsOut==Tryz.f3.resultTypes.toList.any (Tryz.prog.loopsFrom ·)))=bg:=by kernel_rfl
def aeK:((Rows.editPrintsRow.plainKeys==Tryz.prog.plainKeys))=bg:=by kernel_rfl
def aep:(Rows.editPrintsRow.shortTexts.isNone)=bg:=by kernel_rfl
def aeq:(Tryz.prog.stopsHeard)=bg:=by kernel_rfl
def aer:(Tryz.prog.mayEnter)=bg:=by kernel_rfl
def aes:((Rows.editPrintsRow.lifted==Tryz.prog.liftsFinal))=bg:=by kernel_rfl
def aet:((Tryz.prog.make==some Rows.editPrintsRow.make))=bg:=by kernel_rfl
def aeu:((Rows.editPrintsRow.kinds==(if Rows.editPrintsRow.domain.isEmpty then[]else Tryz.f3.params.toList.map λt=>match Tryz.prog.underlying t with|some (.int k)=>some k|_=>none)))=bg:=by kernel_rfl
def aev:((Rows.editPrintsRow.pinned==Rows.editPrintsRow.pinnedBy))=bg:=by kernel_rfl
def aew:((Rows.editPrintsRow.veiled==(Tryz.f3.params.toList++Rows.editPrintsSpec.plain.varTypes bo++Tryz.f3.resultTypes.toList).any (Tryz.prog.veiledRec ·)))=bg:=by kernel_rfl
def aex:(Rows.editPrintsRow.veiledFits bo Tryz.f3.params.toList (Tryz.f3.params.toList++Rows.editPrintsSpec.plain.varTypes bo++Tryz.f3.resultTypes.toList))=bg:=by kernel_rfl
def afb:joinedFacts bo 3 Tryz.f3 Rows.editPrintsSpec Rows.editPrintsRow=bg:=xA (xA (xA (xA (xA (xA (xA (xA (xA (xA (xA (xA (xA (xA (xA (xA (xA (xA (xA (xA (xA (xA (xA (xA (xA (xA (xA (xA (xA (xA (xA (ae3) ae4) ae5) ae6) ae7) ae8) ae9) ae_) ae') afa) aey) aez) aeA) aeB) aeC) aeD) aeE) aeF) aeG) aeH) aeI) aeJ) aeK) aep) aeq) aer) aes) aet) aeu) aev) aew) aex
end Go.Proofs.YtmjfiffpolkdeaaGreatDoor
