/- texts that the proof reaches, part 6 -/
import Derived.Test.YtogbenbghgjbiaaGreatDoorKe
set_option linter.all false
open Bool renaming true->bh
open Go.Proofs.Tryz renaming prog->bk
set_option maxRecDepth 100000
namespace Go.Proofs.YtogbenbghgjbiaaGreatDoor
open Go Go.RowKit Go.Joins
def xk{a b:Bool}(ha:a=bh)(hb:b=bh):(a&&b)=bh:=by rw[ha,hb];rfl
def acL:(Rows.editValuesRow.wf (OpenSpec.ofChange Rows.editValuesSpec))=bh:=by kernel_rfl
def acM:(laidOutB bk)=bh:=laidOut
def acN:(mapsRowed bk)=bh:=by kernel_rfl
def acO:(Tryz.f3.params.all (Tryz.prog.readableRec ·))=bh:=by kernel_rfl
def acP:(namedTie bk Rows.editValuesRow.named Rows.editValuesSpec.vars)=bh:=by kernel_rfl
def acQ:((Rows.editValuesRow.stops==[]))=bh:=by kernel_rfl
def acR:((Tryz.prog.stops==[]))=bh:=by kernel_rfl
def acS:((Rows.editValuesRow.knobs==[]))=bh:=by kernel_rfl
def acT:((Tryz.prog.stopKnobs==[]))=bh:=by kernel_rfl
def acU:((Rows.editValuesRow.inPlace==Tryz.prog.inPlace 3))=bh:=by kernel_rfl
def acs:((Rows.editValuesRow.unfollowed==Tryz.prog.unfollowed 3))=bh:=by kernel_rfl
def acu:((Rows.editValuesRow.recurses==Tryz.prog.recurses 3))=bh:=by kernel_rfl
def acv:((Rows.editValuesRow.named==Tryz.prog.varsNamed 3))=bh:=by kernel_rfl
def acw:((Rows.editValuesRow.maps==(Tryz.f3.params.toList++Rows.editValuesSpec.plain.varTypes bk).any (Tryz.prog.mapsRec ·)))=bh:=by kernel_rfl
def acx:((Rows.editValuesRow.ifaces==(Tryz.f3.params.toList++Rows.editValuesSpec.plain.varTypes bk).any (Tryz.prog.ifacesRec ·)))=bh:=by kernel_rfl
def acy:((Rows.editValuesRow.mapsOut==Tryz.prog.mapsAmong Tryz.f3.resultTypes.toList))=bh:=by kernel_rfl
def acz:((Rows.editValuesRow.loops==(Tryz.f3.params.toList++Rows.editValuesSpec.plain.varTypes bk).any (Tryz.prog.loopsFrom ·)))=bh:=by kernel_rfl
def acA:((Rows.editValuesRow.wideKeys==(Tryz.f3.params.toList++Rows.editValuesSpec.plain.varTypes bk++Tryz.f3.resultTypes.toList).any (Tryz.prog.wideKeysFrom ·)))=bh:=by kernel_rfl
def acB:(Rows.editValuesSpec.vars.all (Tryz.prog.varReadable ·))=bh:=by kernel_rfl
def acC:(Tryz.f3.resultTypes.all (λt=>Tryz.prog.readableRec t&&decide (t<Tryz.prog.types.size)))=bh:=by kernel_rfl
def acD:((Rows.editValuesRow.ifacesOut==Tryz.f3.resultTypes.toList.any (Tryz.prog.ifacesRec ·)))=bh:=by kernel_rfl
def acE:((Rows.editValuesRow.loopsOut==Tryz.f3.resultTypes.toList.any (Tryz.prog.loopsFrom ·)))=bh:=by kernel_rfl
def acF:((Rows.editValuesRow.plainKeys==Tryz.prog.plainKeys))=bh:=by kernel_rfl
def acG:(Rows.editValuesRow.shortTexts.isNone)=bh:=by kernel_rfl
def acH:(Tryz.prog.stopsHeard)=bh:=by kernel_rfl
def acI:(Tryz.prog.mayEnter)=bh:=by kernel_rfl
def acJ:((Rows.editValuesRow.lifted==Tryz.prog.liftsFinal))=bh:=by kernel_rfl
def acb:((Tryz.prog.make==some Rows.editValuesRow.make))=bh:=by kernel_rfl
def acd:((Rows.editValuesRow.kinds==(if Rows.editValuesRow.domain.isEmpty then[]else Tryz.f3.params.toList.map λt=>match Tryz.prog.underlying t with|some (.int k)=>some k|_=>none)))=bh:=by kernel_rfl
def ace:((Rows.editValuesRow.pinned==Rows.editValuesRow.pinnedBy))=bh:=by kernel_rfl
def acf:((Rows.editValuesRow.veiled==(Tryz.f3.params.toList++Rows.editValuesSpec.plain.varTypes bk++Tryz.f3.resultTypes.toList).any (Tryz.prog.veiledRec ·)))=bh:=by kernel_rfl
def acg:(Rows.editValuesRow.veiledFits bk Tryz.f3.params.toList (Tryz.f3.params.toList++Rows.editValuesSpec.plain.varTypes bk++Tryz.f3.resultTypes.toList))=bh:=by kernel_rfl
def acV:joinedFacts bk 3 Tryz.f3 Rows.editValuesSpec Rows.editValuesRow=bh:=xk (xk (xk (xk (xk (xk (xk (xk (xk (xk (xk (xk (xk (xk (xk (xk (xk (xk (xk (xk (xk (xk (xk (xk (xk (xk (xk (xk (xk (xk (xk (acL) acM) acN) acO) acP) acQ) acR) acS) acT) acU) acs) acu) acv) acw) acx) acy) acz) acA) acB) acC) acD) acE) acF) acG) acH) acI) acJ) acb) acd) ace) acf) acg
end Go.Proofs.YtogbenbghgjbiaaGreatDoor
