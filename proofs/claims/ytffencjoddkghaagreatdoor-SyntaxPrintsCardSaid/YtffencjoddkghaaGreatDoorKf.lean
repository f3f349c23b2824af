/- texts that the proof of SyntaxPrints reaches, part 6 -/
import Derived.Test.YtffencjoddkghaaGreatDoorKe
set_option linter.all false
set_option maxRecDepth 100000
namespace Go.Proofs.YtffencjoddkghaaGreatDoor
open Go Go.RowKit Go.Joins
theorem xq{a b:Bool}(ha:a=true)(hb:b=true):(a&&b)=true:=by rw[ha,hb];rfl
theorem V2:(Rows.syntaxPrintsRow.wf (OpenSpec.ofChange Rows.syntaxPrintsSpec))=true:=by kernel_rfl
theorem V3:(laidOutB Tryz.prog)=true:=laidOut
theorem V4:(mapsRowed Tryz.prog)=true:=by kernel_rfl
theorem V5:(Tryz.f5.params.all (Tryz.prog.readableRec ·))=true:=by kernel_rfl
theorem V6:(namedTie Tryz.prog Rows.syntaxPrintsRow.named Rows.syntaxPrintsSpec.vars)=true:=by kernel_rfl
theorem V7:((Rows.syntaxPrintsRow.stops==[]))=true:=by kernel_rfl
theorem V8:((Tryz.prog.stops==[]))=true:=by kernel_rfl
theorem V9:((Rows.syntaxPrintsRow.knobs==[]))=true:=by kernel_rfl
theorem Wa:((Tryz.prog.stopKnobs==[]))=true:=by kernel_rfl
theorem Wb:((Rows.syntaxPrintsRow.inPlace==Tryz.prog.inPlace 5))=true:=by kernel_rfl
theorem Qt:((Rows.syntaxPrintsRow.unfollowed==Tryz.prog.unfollowed 5))=true:=by kernel_rfl
theorem Qu:((Rows.syntaxPrintsRow.recurses==Tryz.prog.recurses 5))=true:=by kernel_rfl
theorem Qv:((Rows.syntaxPrintsRow.named==Tryz.prog.varsNamed 5))=true:=by kernel_rfl
theorem Qw:((Rows.syntaxPrintsRow.maps==(Tryz.f5.params.toList++Rows.syntaxPrintsSpec.plain.varTypes Tryz.prog).any (Tryz.prog.mapsRec ·)))=true:=by kernel_rfl
theorem Qx:((Rows.syntaxPrintsRow.ifaces==(Tryz.f5.params.toList++Rows.syntaxPrintsSpec.plain.varTypes Tryz.prog).any (Tryz.prog.ifacesRec ·)))=true:=by kernel_rfl
theorem Qy:((Rows.syntaxPrintsRow.mapsOut==Tryz.prog.mapsAmong Tryz.f5.resultTypes.toList))=true:=by kernel_rfl
theorem Qz:((Rows.syntaxPrintsRow.loops==(Tryz.f5.params.toList++Rows.syntaxPrintsSpec.plain.varTypes Tryz.prog).any (Tryz.prog.loopsFrom ·)))=true:=by kernel_rfl
theorem QA:((Rows.syntaxPrintsRow.wideKeys==(Tryz.f5.params.toList++Rows.syntaxPrintsSpec.plain.varTypes Tryz.prog++Tryz.f5.resultTypes.toList).any (Tryz.prog.wideKeysFrom ·)))=true:=by kernel_rfl
theorem QB:(Rows.syntaxPrintsSpec.vars.all (Tryz.prog.varReadable ·))=true:=by kernel_rfl
theorem QC:(Tryz.f5.resultTypes.all (fun t=>Tryz.prog.readableRec t&&decide (t<Tryz.prog.types.size)))=true:=by kernel_rfl
theorem QD:((Rows.syntaxPrintsRow.ifacesOut==Tryz.f5.resultTypes.toList.any (Tryz.prog.ifacesRec ·)))=true:=by kernel_rfl
theorem QE:((Rows.syntaxPrintsRow.loopsOut==Tryz.f5.resultTypes.toList.any (Tryz.prog.loopsFrom ·)))=true:=by kernel_rfl
theorem QF:((Rows.syntaxPrintsRow.plainKeys==Tryz.prog.plainKeys))=true:=by kernel_rfl
theorem QG:(Rows.syntaxPrintsRow.shortTexts.isNone)=true:=by kernel_rfl
theorem QH:(Tryz.prog.stopsHeard)=true:=by kernel_rfl
theorem QI:(Tryz.prog.mayEnter)=true:=by kernel_rfl
theorem QJ:((Rows.syntaxPrintsRow.lifted==Tryz.prog.liftsFinal))=true:=by kernel_rfl
theorem QK:((Tryz.prog.make==some Rows.syntaxPrintsRow.make))=true:=by kernel_rfl
theorem QL:((Rows.syntaxPrintsRow.kinds==(if Rows.syntaxPrintsRow.domain.isEmpty then[]else Tryz.f5.params.toList.map fun t=>match Tryz.prog.underlying t with|some (.int k)=>some k|_=>none)))=true:=by kernel_rfl
theorem QM:((Rows.syntaxPrintsRow.pinned==Rows.syntaxPrintsRow.pinnedBy))=true:=by kernel_rfl
theorem QN:((Rows.syntaxPrintsRow.veiled==(Tryz.f5.params.toList++Rows.syntaxPrintsSpec.plain.varTypes Tryz.prog++Tryz.f5.resultTypes.toList).any (Tryz.prog.veiledRec ·)))=true:=by kernel_rfl
theorem QO:(Rows.syntaxPrintsRow.veiledFits Tryz.prog Tryz.f5.params.toList (Tryz.f5.params.toList++Rows.syntaxPrintsSpec.plain.varTypes Tryz.prog++Tryz.f5.resultTypes.toList))=true:=by kernel_rfl
theorem Wc:joinedFacts Tryz.prog 5 Tryz.f5 Rows.syntaxPrintsSpec Rows.syntaxPrintsRow=true:=xq (xq (xq (xq (xq (xq (xq (xq (xq (xq (xq (xq (xq (xq (xq (xq (xq (xq (xq (xq (xq (xq (xq (xq (xq (xq (xq (xq (xq (xq (xq (V2) V3) V4) V5) V6) V7) V8) V9) Wa) Wb) Qt) Qu) Qv) Qw) Qx) Qy) Qz) QA) QB) QC) QD) QE) QF) QG) QH) QI) QJ) QK) QL) QM) QN) QO
end Go.Proofs.YtffencjoddkghaaGreatDoor
