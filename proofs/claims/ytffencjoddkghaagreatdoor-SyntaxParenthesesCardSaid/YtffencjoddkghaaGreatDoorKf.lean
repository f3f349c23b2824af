/- texts that the proof of SyntaxPrints reaches, part 6 -/
import Derived.Test.YtffencjoddkghaaGreatDoorKe
set_option linter.all false
set_option maxRecDepth 100000
namespace Go.Proofs.YtffencjoddkghaaGreatDoor
open Go Go.RowKit Go.Joins
theorem yY{a b:Bool}(ha:a=true)(hb:b=true):(a&&b)=true:=by rw[ha,hb];rfl
theorem uk:(Rows.syntaxParenthesesRow.wf (OpenSpec.ofChange Rows.syntaxParenthesesSpec))=true:=by kernel_rfl
theorem um:(laidOutB Tryz.prog)=true:=laidOut
theorem uo:(mapsRowed Tryz.prog)=true:=by kernel_rfl
theorem uq:(Tryz.f4.params.all (Tryz.prog.readableRec ·))=true:=by kernel_rfl
theorem ur:(namedTie Tryz.prog Rows.syntaxParenthesesRow.named Rows.syntaxParenthesesSpec.vars)=true:=by kernel_rfl
theorem uu:((Rows.syntaxParenthesesRow.stops==[]))=true:=by kernel_rfl
theorem uv:((Tryz.prog.stops==[]))=true:=by kernel_rfl
theorem uw:((Rows.syntaxParenthesesRow.knobs==[]))=true:=by kernel_rfl
theorem ux:((Tryz.prog.stopKnobs==[]))=true:=by kernel_rfl
theorem uy:((Rows.syntaxParenthesesRow.inPlace==Tryz.prog.inPlace 4))=true:=by kernel_rfl
theorem qn:((Rows.syntaxParenthesesRow.unfollowed==Tryz.prog.unfollowed 4))=true:=by kernel_rfl
theorem qo:((Rows.syntaxParenthesesRow.recurses==Tryz.prog.recurses 4))=true:=by kernel_rfl
theorem qp:((Rows.syntaxParenthesesRow.named==Tryz.prog.varsNamed 4))=true:=by kernel_rfl
theorem qq:((Rows.syntaxParenthesesRow.maps==(Tryz.f4.params.toList++Rows.syntaxParenthesesSpec.plain.varTypes Tryz.prog).any (Tryz.prog.mapsRec ·)))=true:=by kernel_rfl
theorem qs:((Rows.syntaxParenthesesRow.ifaces==(Tryz.f4.params.toList++Rows.syntaxParenthesesSpec.plain.varTypes Tryz.prog).any (Tryz.prog.ifacesRec ·)))=true:=by kernel_rfl
theorem qt:((Rows.syntaxParenthesesRow.mapsOut==Tryz.prog.mapsAmong Tryz.f4.resultTypes.toList))=true:=by kernel_rfl
theorem qu:((Rows.syntaxParenthesesRow.loops==(Tryz.f4.params.toList++Rows.syntaxParenthesesSpec.plain.varTypes Tryz.prog).any (Tryz.prog.loopsFrom ·)))=true:=by kernel_rfl
theorem qv:((Rows.syntaxParenthesesRow.wideKeys==(Tryz.f4.params.toList++Rows.syntaxParenthesesSpec.plain.varTypes Tryz.prog++Tryz.f4.resultTypes.toList).any (Tryz.prog.wideKeysFrom ·)))=true:=by kernel_rfl
theorem qw:(Rows.syntaxParenthesesSpec.vars.all (Tryz.prog.varReadable ·))=true:=by kernel_rfl
theorem qx:(Tryz.f4.resultTypes.all (fun t=>Tryz.prog.readableRec t&&decide (t<Tryz.prog.types.size)))=true:=by kernel_rfl
theorem qy:((Rows.syntaxParenthesesRow.ifacesOut==Tryz.f4.resultTypes.toList.any (Tryz.prog.ifacesRec ·)))=true:=by kernel_rfl
theorem qz:((Rows.syntaxParenthesesRow.loopsOut==Tryz.f4.resultTypes.toList.any (Tryz.prog.loopsFrom ·)))=true:=by kernel_rfl
theorem qA:((Rows.syntaxParenthesesRow.plainKeys==Tryz.prog.plainKeys))=true:=by kernel_rfl
theorem qB:(Rows.syntaxParenthesesRow.shortTexts.isNone)=true:=by kernel_rfl
theorem qC:(Tryz.prog.stopsHeard)=true:=by kernel_rfl
theorem qD:(Tryz.prog.mayEnter)=true:=by kernel_rfl
theorem qE:((Rows.syntaxParenthesesRow.lifted==Tryz.prog.liftsFinal))=true:=by kernel_rfl
theorem qF:((Tryz.prog.make==some Rows.syntaxParenthesesRow.make))=true:=by kernel_rfl
theorem qG:((Rows.syntaxParenthesesRow.kinds==(if Rows.syntaxParenthesesRow.domain.isEmpty then[]else Tryz.f4.params.toList.map fun t=>match Tryz.prog.underlying t with|some (.int k)=>some k|_=>none)))=true:=by kernel_rfl
theorem qH:((Rows.syntaxParenthesesRow.pinned==Rows.syntaxParenthesesRow.pinnedBy))=true:=by kernel_rfl
theorem qI:((Rows.syntaxParenthesesRow.veiled==(Tryz.f4.params.toList++Rows.syntaxParenthesesSpec.plain.varTypes Tryz.prog++Tryz.f4.resultTypes.toList).any (Tryz.prog.veiledRec ·)))=true:=by kernel_rfl
theorem qJ:(Rows.syntaxParenthesesRow.veiledFits Tryz.prog Tryz.f4.params.toList (Tryz.f4.params.toList++Rows.syntaxParenthesesSpec.plain.varTypes Tryz.prog++Tryz.f4.resultTypes.toList))=true:=by kernel_rfl
theorem uz:joinedFacts Tryz.prog 4 Tryz.f4 Rows.syntaxParenthesesSpec Rows.syntaxParenthesesRow=true:=yY (yY (yY (yY (yY (yY (yY (yY (yY (yY (yY (yY (yY (yY (yY (yY (yY (yY (yY (yY (yY (yY (yY (yY (yY (yY (yY (yY (yY (yY (yY (uk) um) uo) uq) ur) uu) uv) uw) ux) uy) qn) qo) qp) qq) qs) qt) qu) qv) qw) qx) qy) qz) qA) qB) qC) qD) qE) qF) qG) qH) qI) qJ
end Go.Proofs.YtffencjoddkghaaGreatDoor
