/- texts that the proof reaches, part 6 -/
import Derived.Test.YthnokpghgeppdaaGreatDoorKe
set_option linter.all false
set_option maxRecDepth 100000
namespace Go.Proofs.YthnokpghgeppdaaGreatDoor
open Go Go.RowKit Go.Joins
theorem ym{a b:Bool}(ha:a=true)(hb:b=true):(a&&b)=true:=by rw[ha,hb];rfl
theorem Q8:(Rows.editDiffsRow.wf (OpenSpec.ofChange Rows.editDiffsSpec))=true:=by kernel_rfl
theorem Q9:(laidOutB Tryz.prog)=true:=laidOut
theorem Va:(mapsRowed Tryz.prog)=true:=by kernel_rfl
theorem Vb:(Tryz.f4.params.all (Tryz.prog.readableRec ·))=true:=by kernel_rfl
theorem Vc:(namedTie Tryz.prog Rows.editDiffsRow.named Rows.editDiffsSpec.vars)=true:=by kernel_rfl
theorem Vd:((Rows.editDiffsRow.stops==[]))=true:=by kernel_rfl
theorem Ve:((Tryz.prog.stops==[]))=true:=by kernel_rfl
theorem Vf:((Rows.editDiffsRow.knobs==[]))=true:=by kernel_rfl
theorem Vg:((Tryz.prog.stopKnobs==[]))=true:=by kernel_rfl
theorem Vh:((Rows.editDiffsRow.inPlace==Tryz.prog.inPlace 4))=true:=by kernel_rfl
theorem Kz:((Rows.editDiffsRow.unfollowed==Tryz.prog.unfollowed 4))=true:=by kernel_rfl
theorem KA:((Rows.editDiffsRow.recurses==Tryz.prog.recurses 4))=true:=by kernel_rfl
theorem KB:((Rows.editDiffsRow.named==Tryz.prog.varsNamed 4))=true:=by kernel_rfl
theorem KC:((Rows.editDiffsRow.maps==(Tryz.f4.params.toList++Rows.editDiffsSpec.plain.varTypes Tryz.prog).any (Tryz.prog.mapsRec ·)))=true:=by kernel_rfl
theorem KD:((Rows.editDiffsRow.ifaces==(Tryz.f4.params.toList++Rows.editDiffsSpec.plain.varTypes Tryz.prog).any (Tryz.prog.ifacesRec ·)))=true:=by kernel_rfl
theorem KE:((Rows.editDiffsRow.mapsOut==Tryz.prog.mapsAmong Tryz.f4.resultTypes.toList))=true:=by kernel_rfl
theorem KF:((Rows.editDiffsRow.loops==(Tryz.f4.params.toList++Rows.editDiffsSpec.plain.varTypes Tryz.prog).any (Tryz.prog.loopsFrom ·)))=true:=by kernel_rfl
theorem KH:((Rows.editDiffsRow.wideKeys==(Tryz.f4.params.toList++Rows.editDiffsSpec.plain.varTypes Tryz.prog++Tryz.f4.resultTypes.toList).any (Tryz.prog.wideKeysFrom ·)))=true:=by kernel_rfl
theorem KI:(Rows.editDiffsSpec.vars.all (Tryz.prog.varReadable ·))=true:=by kernel_rfl
theorem KJ:(Tryz.f4.resultTypes.all (fun t=>Tryz.prog.readableRec t&&decide (t<Tryz.prog.types.size)))=true:=by kernel_rfl
theorem KN:((Rows.editDiffsRow.ifacesOut==Tryz.f4.resultTypes.toList.any (Tryz.prog.ifacesRec ·)))=true:=by kernel_rfl
theorem KO:((Rows.editDiffsRow.loopsOut==Tryz.f4.resultTypes.toList.any (Tryz.prog.loopsFrom ·)))=true:=by kernel_rfl
theorem KP:((Rows.editDiffsRow.plainKeys==Tryz.prog.plainKeys))=true:=by kernel_rfl
theorem KQ:(Rows.editDiffsRow.shortTexts.isNone)=true:=by kernel_rfl
theorem KR:(Tryz.prog.stopsHeard)=true:=by kernel_rfl
theorem KS:(Tryz.prog.mayEnter)=true:=by kernel_rfl
theorem KT:((Rows.editDiffsRow.lifted==Tryz.prog.liftsFinal))=true:=by kernel_rfl
theorem KU:((Tryz.prog.make==some Rows.editDiffsRow.make))=true:=by kernel_rfl
theorem KV:((Rows.editDiffsRow.kinds==(if Rows.editDiffsRow.domain.isEmpty then[]else Tryz.f4.params.toList.map fun t=>match Tryz.prog.underlying t with|some (.int k)=>some k|_=>none)))=true:=by kernel_rfl
theorem KW:((Rows.editDiffsRow.pinned==Rows.editDiffsRow.pinnedBy))=true:=by kernel_rfl
theorem KX:((Rows.editDiffsRow.veiled==(Tryz.f4.params.toList++Rows.editDiffsSpec.plain.varTypes Tryz.prog++Tryz.f4.resultTypes.toList).any (Tryz.prog.veiledRec ·)))=true:=by kernel_rfl
theorem KY:(Rows.editDiffsRow.veiledFits Tryz.prog Tryz.f4.params.toList (Tryz.f4.params.toList++Rows.editDiffsSpec.plain.varTypes Tryz.prog++Tryz.f4.resultTypes.toList))=true:=by kernel_rfl
theorem Vi:joinedFacts Tryz.prog 4 Tryz.f4 Rows.editDiffsSpec Rows.editDiffsRow=true:=ym (ym (ym (ym (ym (ym (ym (ym (ym (ym (ym (ym (ym (ym (ym (ym (ym (ym (ym (ym (ym (ym (ym (ym (ym (ym (ym (ym (ym (ym (ym (Q8) Q9) Va) Vb) Vc) Vd) Ve) Vf) Vg) Vh) Kz) KA) KB) KC) KD) KE) KF) KH) KI) KJ) KN) KO) KP) KQ) KR) KS) KT) KU) KV) KW) KX) KY
end Go.Proofs.YthnokpghgeppdaaGreatDoor
