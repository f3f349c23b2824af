/- texts that the proof reaches, part 6 -/
import Derived.Test.YthnokpghgeppdaaGreatDoorKe
set_option linter.all false
set_option maxRecDepth 100000
namespace Go.Proofs.YthnokpghgeppdaaGreatDoor
open Go Go.RowKit Go.Joins
theorem yc{a b:Bool}(ha:a=true)(hb:b=true):(a&&b)=true:=by rw[ha,hb];rfl
theorem H4:(Rows.editCommutesRow.wf (OpenSpec.ofChange Rows.editCommutesSpec))=true:=by kernel_rfl
theorem H5:(laidOutB Tryz.prog)=true:=laidOut
theorem H6:(mapsRowed Tryz.prog)=true:=by kernel_rfl
theorem H7:(Tryz.f6.params.all (Tryz.prog.readableRec ·))=true:=by kernel_rfl
theorem H8:(namedTie Tryz.prog Rows.editCommutesRow.named Rows.editCommutesSpec.vars)=true:=by kernel_rfl
theorem H9:((Rows.editCommutesRow.stops==[]))=true:=by kernel_rfl
theorem Ja:((Tryz.prog.stops==[]))=true:=by kernel_rfl
theorem Jb:((Rows.editCommutesRow.knobs==[]))=true:=by kernel_rfl
theorem Jc:((Tryz.prog.stopKnobs==[]))=true:=by kernel_rfl
theorem Jd:((Rows.editCommutesRow.inPlace==Tryz.prog.inPlace 6))=true:=by kernel_rfl
theorem AT:((Rows.editCommutesRow.unfollowed==Tryz.prog.unfollowed 6))=true:=by kernel_rfl
theorem AU:((Rows.editCommutesRow.recurses==Tryz.prog.recurses 6))=true:=by kernel_rfl
theorem AV:((Rows.editCommutesRow.named==Tryz.prog.varsNamed 6))=true:=by kernel_rfl
theorem AW:((Rows.editCommutesRow.maps==(Tryz.f6.params.toList++Rows.editCommutesSpec.plain.varTypes Tryz.prog).any (Tryz.prog.mapsRec ·)))=true:=by kernel_rfl
theorem AX:((Rows.editCommutesRow.ifaces==(Tryz.f6.params.toList++Rows.editCommutesSpec.plain.varTypes Tryz.prog).any (Tryz.prog.ifacesRec ·)))=true:=by kernel_rfl
theorem AY:((Rows.editCommutesRow.mapsOut==Tryz.prog.mapsAmong Tryz.f6.resultTypes.toList))=true:=by kernel_rfl
theorem AZ:((Rows.editCommutesRow.loops==(Tryz.f6.params.toList++Rows.editCommutesSpec.plain.varTypes Tryz.prog).any (Tryz.prog.loopsFrom ·)))=true:=by kernel_rfl
theorem A0:((Rows.editCommutesRow.wideKeys==(Tryz.f6.params.toList++Rows.editCommutesSpec.plain.varTypes Tryz.prog++Tryz.f6.resultTypes.toList).any (Tryz.prog.wideKeysFrom ·)))=true:=by kernel_rfl
theorem A1:(Rows.editCommutesSpec.vars.all (Tryz.prog.varReadable ·))=true:=by kernel_rfl
theorem A2:(Tryz.f6.resultTypes.all (fun t=>Tryz.prog.readableRec t&&decide (t<Tryz.prog.types.size)))=true:=by kernel_rfl
theorem A3:((Rows.editCommutesRow.ifacesOut==Tryz.f6.resultTypes.toList.any (Tryz.prog.ifacesRec ·)))=true:=by kernel_rfl
theorem A4:((Rows.editCommutesRow.loopsOut==Tryz.f6.resultTypes.toList.any (Tryz.prog.loopsFrom ·)))=true:=by kernel_rfl
theorem A5:((Rows.editCommutesRow.plainKeys==Tryz.prog.plainKeys))=true:=by kernel_rfl
theorem A6:(Rows.editCommutesRow.shortTexts.isNone)=true:=by kernel_rfl
theorem A7:(Tryz.prog.stopsHeard)=true:=by kernel_rfl
theorem A8:(Tryz.prog.mayEnter)=true:=by kernel_rfl
theorem A9:((Rows.editCommutesRow.lifted==Tryz.prog.liftsFinal))=true:=by kernel_rfl
theorem Ha:((Tryz.prog.make==some Rows.editCommutesRow.make))=true:=by kernel_rfl
theorem Hb:((Rows.editCommutesRow.kinds==(if Rows.editCommutesRow.domain.isEmpty then[]else Tryz.f6.params.toList.map fun t=>match Tryz.prog.underlying t with|some (.int k)=>some k|_=>none)))=true:=by kernel_rfl
theorem Hc:((Rows.editCommutesRow.pinned==Rows.editCommutesRow.pinnedBy))=true:=by kernel_rfl
theorem Hd:((Rows.editCommutesRow.veiled==(Tryz.f6.params.toList++Rows.editCommutesSpec.plain.varTypes Tryz.prog++Tryz.f6.resultTypes.toList).any (Tryz.prog.veiledRec ·)))=true:=by kernel_rfl
theorem He:(Rows.editCommutesRow.veiledFits Tryz.prog Tryz.f6.params.toList (Tryz.f6.params.toList++Rows.editCommutesSpec.plain.varTypes Tryz.prog++Tryz.f6.resultTypes.toList))=true:=by kernel_rfl
theorem Je:joinedFacts Tryz.prog 6 Tryz.f6 Rows.editCommutesSpec Rows.editCommutesRow=true:=yc (yc (yc (yc (yc (yc (yc (yc (yc (yc (yc (yc (yc (yc (yc (yc (yc (yc (yc (yc (yc (yc (yc (yc (yc (yc (yc (yc (yc (yc (yc (H4) H5) H6) H7) H8) H9) Ja) Jb) Jc) Jd) AT) AU) AV) AW) AX) AY) AZ) A0) A1) A2) A3) A4) A5) A6) A7) A8) A9) Ha) Hb) Hc) Hd) He
end Go.Proofs.YthnokpghgeppdaaGreatDoor
