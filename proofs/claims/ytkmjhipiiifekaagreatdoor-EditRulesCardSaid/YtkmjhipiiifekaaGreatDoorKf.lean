/- texts that the proof reaches, part 6 -/
import Derived.Test.YtkmjhipiiifekaaGreatDoorKe
set_option linter.all false
open Bool renaming true->bg
open Go.Proofs.Tryz renaming prog->bj
set_option maxRecDepth 100000
namespace Go.Proofs.YtkmjhipiiifekaaGreatDoor
open Go Go.RowKit Go.Joins
def yx{a b:Bool}(ha:a=bg)(hb:b=bg):(a&&b)=bg:=by rw[ha,hb];rfl
def VF:(Rows.editRulesRow.wf (OpenSpec.ofChange Rows.editRulesSpec))=bg:=by kernel_rfl
def VG:(laidOutB bj)=bg:=laidOut
def VH:(mapsRowed bj)=bg:=by kernel_rfl
def VI:(Tryz.f3.params.all (Tryz.prog.readableRec ·))=bg:=by kernel_rfl
def VJ:(namedTie bj Rows.editRulesRow.named Rows.editRulesSpec.vars)=bg:=by kernel_rfl
def VK:((Rows.editRulesRow.stops==[]))=bg:=by kernel_rfl
def VL:((Tryz.prog.stops==[]))=bg:=by kernel_rfl
def VM:((Rows.editRulesRow.knobs==[]))=bg:=by kernel_rfl
def VN:((Tryz.prog.stopKnobs==[]))=bg:=by kernel_rfl
def VO:((Rows.editRulesRow.inPlace==Tryz.prog.inPlace 3))=bg:=by kernel_rfl
def Qj:((Rows.editRulesRow.unfollowed==Tryz.prog.unfollowed 3))=bg:=by kernel_rfl
def Qk:((Rows.editRulesRow.recurses==Tryz.prog.recurses 3))=bg:=by kernel_rfl
def Ql:((Rows.editRulesRow.named==Tryz.prog.varsNamed 3))=bg:=by kernel_rfl
def Qm:((Rows.editRulesRow.maps==(Tryz.f3.params.toList++Rows.editRulesSpec.plain.varTypes bj).any (Tryz.prog.mapsRec ·)))=bg:=by kernel_rfl
def Qn:((Rows.editRulesRow.ifaces==(Tryz.f3.params.toList++Rows.editRulesSpec.plain.varTypes bj).any (Tryz.prog.ifacesRec ·)))=bg:=by kernel_rfl
def Qo:((Rows.editRulesRow.mapsOut==Tryz.prog.mapsAmong Tryz.f3.resultTypes.toList))=bg:=by kernel_rfl
def Qp:((Rows.editRulesRow.loops==(Tryz.f3.params.toList++Rows.editRulesSpec.plain.varTypes bj).any (Tryz.prog.loopsFrom ·)))=bg:=by kernel_rfl
def Qq:((Rows.editRulesRow.wideKeys==(Tryz.f3.params.toList++Rows.editRulesSpec.plain.varTypes bj++Tryz.f3.resultTypes.toList).any (Tryz.prog.wideKeysFrom ·)))=bg:=by kernel_rfl
def Qr:(Rows.editRulesSpec.vars.all (Tryz.prog.varReadable ·))=bg:=by kernel_rfl
def Qs:(Tryz.f3.resultTypes.all (λt=>Tryz.prog.readableRec t&&decide (t<Tryz.prog.types.size)))=bg:=by kernel_rfl
def Qt:((Rows.editRulesRow.ifacesOut==Tryz.f3.resultTypes.toList.any (Tryz.prog.ifacesRec ·)))=bg:=by kernel_rfl
def Qu:((Rows.editRulesRow.loopsOut==Tryz.f3.resultTypes.toList.any (Tryz.prog.loopsFrom ·)))=bg:=by kernel_rfl
def Qv:((Rows.editRulesRow.plainKeys==Tryz.prog.plainKeys))=bg:=by kernel_rfl
def Qw:(Rows.editRulesRow.shortTexts.isNone)=bg:=by kernel_rfl
def Qx:(Tryz.prog.stopsHeard)=bg:=by kernel_rfl
def Qy:(Tryz.prog.mayEnter)=bg:=by kernel_rfl
def Qz:((Rows.editRulesRow.lifted==Tryz.prog.liftsFinal))=bg:=by kernel_rfl
def QA:((Tryz.prog.make==some Rows.editRulesRow.make))=bg:=by kernel_rfl
def QB:((Rows.editRulesRow.kinds==(if Rows.editRulesRow.domain.isEmpty then[]else Tryz.f3.params.toList.map λt=>match Tryz.prog.underlying t with|some (.int k)=>some k|_=>none)))=bg:=by kernel_rfl
def QC:((Rows.editRulesRow.pinned==Rows.editRulesRow.pinnedBy))=bg:=by kernel_rfl
def QD:((Rows.editRulesRow.veiled==(Tryz.f3.params.toList++Rows.editRulesSpec.plain.varTypes bj++Tryz.f3.resultTypes.toList).any (Tryz.prog.veiledRec ·)))=bg:=by kernel_rfl
def QE:(Rows.editRulesRow.veiledFits bj Tryz.f3.params.toList (Tryz.f3.params.toList++Rows.editRulesSpec.plain.varTypes bj++Tryz.f3.resultTypes.toList))=bg:=by kernel_rfl
def VP:joinedFacts bj 3 Tryz.f3 Rows.editRulesSpec Rows.editRulesRow=bg:=yx (yx (yx (yx (yx (yx (yx (yx (yx (yx (yx (yx (yx (yx (yx (yx (yx (yx (yx (yx (yx (yx (yx (yx (yx (yx (yx (yx (yx (yx (yx (VF) VG) VH) VI) VJ) VK) VL) VM) VN) VO) Qj) Qk) Ql) Qm) Qn) Qo) Qp) Qq) Qr) Qs) Qt) Qu) Qv) Qw) Qx) Qy) Qz) QA) QB) QC) QD) QE
end Go.Proofs.YtkmjhipiiifekaaGreatDoor
