/- texts that the proof reaches, part 6 -/
import Derived.Test.YtffencjoddkghaaGreatDoorKe
set_option linter.all false
set_option maxRecDepth 100000
namespace Go.Proofs.YtffencjoddkghaaGreatDoor
open Go Go.RowKit Go.Joins
def xN{a b:Bool}(ha:a=true)(hb:b=true):(a&&b)=true:=by rw[ha,hb];rfl
def ZS:(Rows.syntaxBackRow.wf (OpenSpec.ofChange Rows.syntaxBackSpec))=true:=aj
def ZT:(laidOutB Tryz.prog)=true:=laidOut
def ZU:(mapsRowed Tryz.prog)=true:=aj
def ZV:(Tryz.f6.params.all (Tryz.prog.readableRec ·))=true:=aj
def ZW:(namedTie Tryz.prog Rows.syntaxBackRow.named Rows.syntaxBackSpec.vars)=true:=aj
def ZX:((Rows.syntaxBackRow.stops==[]))=true:=aj
def ZY:((Tryz.prog.stops==[]))=true:=aj
def ZZ:((Rows.syntaxBackRow.knobs==[]))=true:=aj
def Z1:((Tryz.prog.stopKnobs==[]))=true:=aj
def Z5:((Rows.syntaxBackRow.inPlace==Tryz.prog.inPlace 6))=true:=aj
def Yk:((Rows.syntaxBackRow.unfollowed==Tryz.prog.unfollowed 6))=true:=aj
def Yl:((Rows.syntaxBackRow.recurses==Tryz.prog.recurses 6))=true:=aj
def Ym:((Rows.syntaxBackRow.named==Tryz.prog.varsNamed 6))=true:=aj
def Yn:((Rows.syntaxBackRow.maps==(Tryz.f6.params.toList++Rows.syntaxBackSpec.plain.varTypes Tryz.prog).any (Tryz.prog.mapsRec ·)))=true:=aj
def Yo:((Rows.syntaxBackRow.ifaces==(Tryz.f6.params.toList++Rows.syntaxBackSpec.plain.varTypes Tryz.prog).any (Tryz.prog.ifacesRec ·)))=true:=aj
def Yp:((Rows.syntaxBackRow.mapsOut==Tryz.prog.mapsAmong Tryz.f6.resultTypes.toList))=true:=aj
def Yq:((Rows.syntaxBackRow.loops==(Tryz.f6.params.toList++Rows.syntaxBackSpec.plain.varTypes Tryz.prog).any (Tryz.prog.loopsFrom ·)))=true:=aj
def Yr:((Rows.syntaxBackRow.wideKeys==(Tryz.f6.params.toList++Rows.syntaxBackSpec.plain.varTypes Tryz.prog++Tryz.f6.resultTypes.toList).any (Tryz.prog.wideKeysFrom ·)))=true:=aj
def Ys:(Rows.syntaxBackSpec.vars.all (Tryz.prog.varReadable ·))=true:=aj
def Yt:(Tryz.f6.resultTypes.all (λt=>Tryz.prog.readableRec t&&decide (t<Tryz.prog.types.size)))=true:=aj
def Yu:((Rows.syntaxBackRow.ifacesOut==Tryz.f6.resultTypes.toList.any (Tryz.prog.ifacesRec ·)))=true:=aj
def Yv:((Rows.syntaxBackRow.loopsOut==Tryz.f6.resultTypes.toList.any (Tryz.prog.loopsFrom ·)))=true:=aj
def Yw:((Rows.syntaxBackRow.plainKeys==Tryz.prog.plainKeys))=true:=aj
def Yx:(Rows.syntaxBackRow.shortTexts.isNone)=true:=aj
def Yy:(Tryz.prog.stopsHeard)=true:=aj
def Yz:(Tryz.prog.mayEnter)=true:=aj
def YA:((Rows.syntaxBackRow.lifted==Tryz.prog.liftsFinal))=true:=aj
def YB:((Tryz.prog.make==some Rows.syntaxBackRow.make))=true:=aj
def YC:((Rows.syntaxBackRow.kinds==(if Rows.syntaxBackRow.domain.isEmpty then[]else Tryz.f6.params.toList.map λt=>match Tryz.prog.underlying t with|some (.int k)=>some k|_=>none)))=true:=aj
def YD:((Rows.syntaxBackRow.pinned==Rows.syntaxBackRow.pinnedBy))=true:=aj
def YE:((Rows.syntaxBackRow.veiled==(Tryz.f6.params.toList++Rows.syntaxBackSpec.plain.varTypes Tryz.prog++Tryz.f6.resultTypes.toList).any (Tryz.prog.veiledRec ·)))=true:=aj
def YF:(Rows.syntaxBackRow.veiledFits Tryz.prog Tryz.f6.params.toList (Tryz.f6.params.toList++Rows.syntaxBackSpec.plain.varTypes Tryz.prog++Tryz.f6.resultTypes.toList))=true:=aj
def Z7:joinedFacts Tryz.prog 6 Tryz.f6 Rows.syntaxBackSpec Rows.syntaxBackRow=true:=xN (xN (xN (xN (xN (xN (xN (xN (xN (xN (xN (xN (xN (xN (xN (xN (xN (xN (xN (xN (xN (xN (xN (xN (xN (xN (xN (xN (xN (xN (xN (ZS) ZT) ZU) ZV) ZW) ZX) ZY) ZZ) Z1) Z5) Yk) Yl) Ym) Yn) Yo) Yp) Yq) Yr) Ys) Yt) Yu) Yv) Yw) Yx) Yy) Yz) YA) YB) YC) YD) YE) YF
end Go.Proofs.YtffencjoddkghaaGreatDoor
