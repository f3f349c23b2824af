/- texts that the proof reaches, part 6 -/
import Derived.Test.YtffencjoddkghaaGreatDoorKe
set_option linter.all false
open Bool renaming true->bf
open Go.Proofs.Tryz renaming prog->bq
set_option maxRecDepth 100000
namespace Go.Proofs.YtffencjoddkghaaGreatDoor
open Go Go.RowKit Go.Joins
def xQ{a b:Bool}(ha:a=bf)(hb:b=bf):(a&&b)=bf:=by rw[ha,hb];rfl
def KE:(Rows.syntaxCanonicalRow.wf (OpenSpec.ofChange Rows.syntaxCanonicalSpec))=bf:=by kernel_rfl
def KF:(laidOutB bq)=bf:=laidOut
def KH:(mapsRowed bq)=bf:=by kernel_rfl
def KI:(Tryz.f8.params.all (Tryz.prog.readableRec ·))=bf:=by kernel_rfl
def KJ:(namedTie bq Rows.syntaxCanonicalRow.named Rows.syntaxCanonicalSpec.vars)=bf:=by kernel_rfl
def KO:((Rows.syntaxCanonicalRow.stops==[]))=bf:=by kernel_rfl
def KP:((Tryz.prog.stops==[]))=bf:=by kernel_rfl
def KQ:((Rows.syntaxCanonicalRow.knobs==[]))=bf:=by kernel_rfl
def KR:((Tryz.prog.stopKnobs==[]))=bf:=by kernel_rfl
def KT:((Rows.syntaxCanonicalRow.inPlace==Tryz.prog.inPlace 8))=bf:=by kernel_rfl
def J5:((Rows.syntaxCanonicalRow.unfollowed==Tryz.prog.unfollowed 8))=bf:=by kernel_rfl
def J6:((Rows.syntaxCanonicalRow.recurses==Tryz.prog.recurses 8))=bf:=by kernel_rfl
def J7:((Rows.syntaxCanonicalRow.named==Tryz.prog.varsNamed 8))=bf:=by kernel_rfl
def J8:((Rows.syntaxCanonicalRow.maps==(Tryz.f8.params.toList++Rows.syntaxCanonicalSpec.plain.varTypes bq).any (Tryz.prog.mapsRec ·)))=bf:=by kernel_rfl
def J9:((Rows.syntaxCanonicalRow.ifaces==(Tryz.f8.params.toList++Rows.syntaxCanonicalSpec.plain.varTypes bq).any (Tryz.prog.ifacesRec ·)))=bf:=by kernel_rfl
def Ka:((Rows.syntaxCanonicalRow.mapsOut==Tryz.prog.mapsAmong Tryz.f8.resultTypes.toList))=bf:=by kernel_rfl
def Kb:((Rows.syntaxCanonicalRow.loops==(Tryz.f8.params.toList++Rows.syntaxCanonicalSpec.plain.varTypes bq).any (Tryz.prog.loopsFrom ·)))=bf:=by kernel_rfl
def Kc:((Rows.syntaxCanonicalRow.wideKeys==(Tryz.f8.params.toList++Rows.syntaxCanonicalSpec.plain.varTypes bq++Tryz.f8.resultTypes.toList).any (Tryz.prog.wideKeysFrom ·)))=bf:=by kernel_rfl
def Kd:(Rows.syntaxCanonicalSpec.vars.all (Tryz.prog.varReadable ·))=bf:=by kernel_rfl
def Ke:(Tryz.f8.resultTypes.all (λt=>Tryz.prog.readableRec t&&decide (t<Tryz.prog.types.size)))=bf:=by kernel_rfl
def Kf:((Rows.syntaxCanonicalRow.ifacesOut==Tryz.f8.resultTypes.toList.any (Tryz.prog.ifacesRec ·)))=bf:=by kernel_rfl
def Kg:((Rows.syntaxCanonicalRow.loopsOut==Tryz.f8.resultTypes.toList.any (Tryz.prog.loopsFrom ·)))=bf:=by kernel_rfl
def Kh:((Rows.syntaxCanonicalRow.plainKeys==Tryz.prog.plainKeys))=bf:=by kernel_rfl
def Ki:(Rows.syntaxCanonicalRow.shortTexts.isNone)=bf:=by kernel_rfl
def Kj:(Tryz.prog.stopsHeard)=bf:=by kernel_rfl
def Kk:(Tryz.prog.mayEnter)=bf:=by kernel_rfl
def Kl:((Rows.syntaxCanonicalRow.lifted==Tryz.prog.liftsFinal))=bf:=by kernel_rfl
def Km:((Tryz.prog.make==some Rows.syntaxCanonicalRow.make))=bf:=by kernel_rfl
def Ko:((Rows.syntaxCanonicalRow.kinds==(if Rows.syntaxCanonicalRow.domain.isEmpty then[]else Tryz.f8.params.toList.map λt=>match Tryz.prog.underlying t with|some (.int k)=>some k|_=>none)))=bf:=by kernel_rfl
def Kp:((Rows.syntaxCanonicalRow.pinned==Rows.syntaxCanonicalRow.pinnedBy))=bf:=by kernel_rfl
def Kq:((Rows.syntaxCanonicalRow.veiled==(Tryz.f8.params.toList++Rows.syntaxCanonicalSpec.plain.varTypes bq++Tryz.f8.resultTypes.toList).any (Tryz.prog.veiledRec ·)))=bf:=by kernel_rfl
def Kr:(Rows.syntaxCanonicalRow.veiledFits bq Tryz.f8.params.toList (Tryz.f8.params.toList++Rows.syntaxCanonicalSpec.plain.varTypes bq++Tryz.f8.resultTypes.toList))=bf:=by kernel_rfl
def KU:joinedFacts bq 8 Tryz.f8 Rows.syntaxCanonicalSpec Rows.syntaxCanonicalRow=bf:=xQ (xQ (xQ (xQ (xQ (xQ (xQ (xQ (xQ (xQ (xQ (xQ (xQ (xQ (xQ (xQ (xQ (xQ (xQ (xQ (xQ (xQ (xQ (xQ (xQ (xQ (xQ (xQ (xQ (xQ (xQ (KE) KF) KH) KI) KJ) KO) KP) KQ) KR) KT) J5) J6) J7) J8) J9) Ka) Kb) Kc) Kd) Ke) Kf) Kg) Kh) Ki) Kj) Kk) Kl) Km) Ko) Kp) Kq) Kr
end Go.Proofs.YtffencjoddkghaaGreatDoor
