/- texts that the proof reaches, part 6 -/
import Derived.Test.YtffencjoddkghaaGreatDoorKe
set_option linter.all false
open Bool renaming true->bg
open Go.Proofs.Tryz renaming prog->bm
set_option maxRecDepth 100000
namespace Go.Proofs.YtffencjoddkghaaGreatDoor
open Go Go.RowKit Go.Joins
def xV{a b:Bool}(ha:a=bg)(hb:b=bg):(a&&b)=bg:=by rw[ha,hb];rfl
def Y1:(Rows.syntaxOrderRow.wf (OpenSpec.ofChange Rows.syntaxOrderSpec))=bg:=aj
def Y2:(laidOutB bm)=bg:=laidOut
def Y3:(mapsRowed bm)=bg:=aj
def Y4:(Tryz.f7.params.all (Tryz.prog.readableRec ·))=bg:=aj
def Y5:(namedTie bm Rows.syntaxOrderRow.named Rows.syntaxOrderSpec.vars)=bg:=aj
def Y6:((Rows.syntaxOrderRow.stops==[]))=bg:=aj
def Y7:((Tryz.prog.stops==[]))=bg:=aj
def Y8:((Rows.syntaxOrderRow.knobs==[]))=bg:=aj
def Y9:((Tryz.prog.stopKnobs==[]))=bg:=aj
def Za:((Rows.syntaxOrderRow.inPlace==Tryz.prog.inPlace 7))=bg:=aj
def Wk:((Rows.syntaxOrderRow.unfollowed==Tryz.prog.unfollowed 7))=bg:=aj
def Wl:((Rows.syntaxOrderRow.recurses==Tryz.prog.recurses 7))=bg:=aj
def Wm:((Rows.syntaxOrderRow.named==Tryz.prog.varsNamed 7))=bg:=aj
def Wn:((Rows.syntaxOrderRow.maps==(Tryz.f7.params.toList++Rows.syntaxOrderSpec.plain.varTypes bm).any (Tryz.prog.mapsRec ·)))=bg:=aj
def Wo:((Rows.syntaxOrderRow.ifaces==(Tryz.f7.params.toList++Rows.syntaxOrderSpec.plain.varTypes bm).any (Tryz.prog.ifacesRec ·)))=bg:=aj
def Wq:((Rows.syntaxOrderRow.mapsOut==Tryz.prog.mapsAmong Tryz.f7.resultTypes.toList))=bg:=aj
def Wr:((Rows.syntaxOrderRow.loops==(Tryz.f7.params.toList++Rows.syntaxOrderSpec.plain.varTypes bm).any (Tryz.prog.loopsFrom ·)))=bg:=aj
def Ws:((Rows.syntaxOrderRow.wideKeys==(Tryz.f7.params.toList++Rows.syntaxOrderSpec.plain.varTypes bm++Tryz.f7.resultTypes.toList).any (Tryz.prog.wideKeysFrom ·)))=bg:=aj
def Wt:(Rows.syntaxOrderSpec.vars.all (Tryz.prog.varReadable ·))=bg:=aj
def Wu:(Tryz.f7.resultTypes.all (λt=>Tryz.prog.readableRec t&&decide (t<Tryz.prog.types.size)))=bg:=aj
def Wv:((Rows.syntaxOrderRow.ifacesOut==Tryz.f7.resultTypes.toList.any (Tryz.prog.ifacesRec ·)))=bg:=aj
def Ww:((Rows.syntaxOrderRow.loopsOut==Tryz.f7.resultTypes.toList.any (Tryz.prog.loopsFrom ·)))=bg:=aj
def Wx:((Rows.syntaxOrderRow.plainKeys==Tryz.prog.plainKeys))=bg:=aj
def Wy:(Rows.syntaxOrderRow.shortTexts.isNone)=bg:=aj
def Wz:(Tryz.prog.stopsHeard)=bg:=aj
def WA:(Tryz.prog.mayEnter)=bg:=aj
def WB:((Rows.syntaxOrderRow.lifted==Tryz.prog.liftsFinal))=bg:=aj
def WC:((Tryz.prog.make==some Rows.syntaxOrderRow.make))=bg:=aj
def WD:((Rows.syntaxOrderRow.kinds==(if Rows.syntaxOrderRow.domain.isEmpty then[]else Tryz.f7.params.toList.map λt=>match Tryz.prog.underlying t with|some (.int k)=>some k|_=>none)))=bg:=aj
def WE:((Rows.syntaxOrderRow.pinned==Rows.syntaxOrderRow.pinnedBy))=bg:=aj
def WG:((Rows.syntaxOrderRow.veiled==(Tryz.f7.params.toList++Rows.syntaxOrderSpec.plain.varTypes bm++Tryz.f7.resultTypes.toList).any (Tryz.prog.veiledRec ·)))=bg:=aj
def WH:(Rows.syntaxOrderRow.veiledFits bm Tryz.f7.params.toList (Tryz.f7.params.toList++Rows.syntaxOrderSpec.plain.varTypes bm++Tryz.f7.resultTypes.toList))=bg:=aj
def Zb:joinedFacts bm 7 Tryz.f7 Rows.syntaxOrderSpec Rows.syntaxOrderRow=bg:=xV (xV (xV (xV (xV (xV (xV (xV (xV (xV (xV (xV (xV (xV (xV (xV (xV (xV (xV (xV (xV (xV (xV (xV (xV (xV (xV (xV (xV (xV (xV (Y1) Y2) Y3) Y4) Y5) Y6) Y7) Y8) Y9) Za) Wk) Wl) Wm) Wn) Wo) Wq) Wr) Ws) Wt) Wu) Wv) Ww) Wx) Wy) Wz) WA) WB) WC) WD) WE) WG) WH
end Go.Proofs.YtffencjoddkghaaGreatDoor
