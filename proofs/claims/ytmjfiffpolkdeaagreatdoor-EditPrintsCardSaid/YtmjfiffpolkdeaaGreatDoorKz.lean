/- EditPrints answers true whatever the input, and leaves the input as it was; the listed package variables start as the program's text lays them. -/
import Derived.Test.YtmjfiffpolkdeaaGreatDoorKl
set_option linter.all false
open Bool renaming false->bd,true->bg
open Go.Proofs.Tryz renaming prog->bo
open Option renaming some->bc
namespace Go.Proofs.YtmjfiffpolkdeaaGreatDoor
open Go Go.ChangeShapes Go.WideShapes Go.ChangeAt Go.RowKit Go.Deep Go.Joins Go.EV
def zGx[JC][Fuel](x0:(List zN))(x1:ak)(r:Bool)(h:jz x0 x1=bc r):mx bo 3 [.vs 30 (List.map Hw x0),.str x1] gl (.bool r) gl:=ni (by kernel_rfl) (aeW.2 (x0,x1) r h)
set_option maxRecDepth 100000 in
theorem aeM(os:Os)(started:os.Started)(H:Type)(enc:TypeId×Value->H):
  ReturnsInHanded {} Tryz.checked os 3 .any (λw args=>(Rows.editPrintsSpec.pre enc bo Tryz.f3 [] bd w args/\laidMetH bo Dt w)/\sizedMet enc bo Tryz.f3 (OpenSpec.ofChange Rows.editPrintsSpec) bd w args)
   (Rows.editPrintsSpec.post enc bo Tryz.f3 bd bg bd bd):=by
 refine zm4 (C:=Tryz.checked) (X:=λw _=>laidMetH bo Dt w) (λ_ _ _ hh h=>h.of_heap hh) own started (by kernel_rfl) Tryz.func3
  (ChangeSpec.witness_shaped (enc:=enc) (C:=Tryz.checked) (os:=os) (X:=λw _=>laidMetH bo Dt w) bd (World.laidAll bo os Dt) #[.slice none 0 0,.string ⟨#[]⟩] 8 (World.laidAll_os _ _ _) (World.shaped_of_ZipB (by kernel_rfl) (by kernel_rfl)) (by kernel_rfl) (by kernel_rfl) (by kernel_rfl) (zJh os _)) ?_
 intro W base args ds gs before ake hW hS hL;have MA:∀(j:Nat) t v,Tryz.f3.params[j]?=bc t->args[j]?=bc v->Value.okWide bo W .any base t v:=ake;have RG:=hW;obtain⟨p,q,hA0,hV,rfl,nt,mF⟩:=hW;have hA:DataW.TrodAll enc bo W 0 (λ_=>bg) bg Tryz.f3.params.toList args.toList ds p:=hA0;rw[Tryz.params3]at hA MA;have hA1:=hA;obtain⟨v0,vs,d0,ds,p0,q0,ha,rfl,rfl,h0,hA⟩:=trodAll_cons hA;obtain⟨v1,vs,d1,ds,p1,q1,rfl,rfl,rfl,h1,hA⟩:=trodAll_cons hA;obtain⟨rfl,rfl,rfl⟩:=trodAll_nil hA;obtain⟨rfl,rfl⟩:=trodVars_none hV
 have ha:args=#[v0,v1]:=by cases args;simp_all
 subst ha;obtain⟨x0,ox0,rx0⟩:=zQ2 (MA 0 22 v0 rfl rfl) h0;obtain⟨x1,ox1,rx1⟩:=zVs (MA 1 9 v1 rfl rfl) h1;simp only[List.append_nil]at RG
 let ak0:Fuel:=⟨18446744073709551616,aq⟩
 refine Calls.mono (zCt (f:=3) (args:=[.vs 30 (List.map Hw x0),.str x1]) (vals:=[v0,v1]) (zGx x0 x1 bg (zzi x0 x1)) hL hS ⟨_,_,rfl,rx0,⟨_,_,rfl,rx1,rfl⟩⟩) λe W' ⟨he,hb⟩=>?_
 subst he;refine⟨_,rfl,?_⟩;refine⟨_,_,_,[],_,[],RG,?_,zge laidOut hb _ _ _ _ (by kernel_rfl) hA1 (λx hx=>by simpa using RG.lt x (by simpa using hx)),rfl,hb.frame _,λh=>by cases h⟩;exact trodAll_mk1 (shut_bool Tryz.underlying4 bg)
def zfj:Rows.EditPrintsSaid:=
 OpenClaim.holds_of_wide 3 Tryz.f3 rfl rfl rfl rfl rfl rfl rfl ⟨rfl,rfl,rfl,rfl,rfl⟩ rfl rfl rfl rfl rfl (by kernel_rfl) Tryz.func3 afb
  (aY (by kernel_rfl)) (by unfold Func.isWrapper;first|(rw[aP ah];kernel_rfl)|(rw[aO ah];exact⟨rfl,rfl⟩))
  (λos started H enc _=>aeM os started H enc)
def zla:Rows.editPrintsRow.wfByText (OpenSpec.ofChange Rows.editPrintsSpec)=bg:=by kernel_rfl
def zek : Tryz.pinned.checked.prog.mainIs = bc (bg, "b1d17b9ff737a9bcac3d5d17549b7028a40da261621518bc26498b0365fe246c".toList) := by kernel_rfl
def ae0:bg=Tryz.pinned.checked.prog.looks []:=by kernel_rfl
def zel:bd=Rows.editPrintsRow.goesBy Tryz.pinned.checked.prog:=by kernel_rfl
def ae1:Tryz.pinned.checked.prog.funcNamed Rows.editPrintsRow.func=bc 3:=by kernel_rfl
def zem:Tryz.pinned.checked.prog.funcs[3]?=bc Tryz.f3:=Tryz.func3
def ae2:([22,9].all λu=>!Tryz.pinned.checked.prog.wantsStandIn u)=bg:=by kernel_rfl
theorem editPrints_holds:Rows.EditPrintsCardSaid:=
 Claim7.holds_tied_plain_at .later [] [.data, .data, .data, .data, .listed, .data, .data, .pinned] bg (bg, "b1d17b9ff737a9bcac3d5d17549b7028a40da261621518bc26498b0365fe246c") bg
  zfj (λ_ h=>by cases h) zla (λ_ h=>by cases h) editPrints_row_tie rfl ⟨rfl,rfl⟩ zek rfl
  (λf fn hf FD=>by
   obtain rfl:f=3:=Option.some.inj (ae1.symm.trans hf) |>.symm
   obtain rfl:fn=Tryz.f3:=(Option.some.inj (zem.symm.trans FD)).symm
   exact⟨ae0,λj t ht=>by
    rw[Tryz.params3]at ht
    have hm:t∈[22,9]:=by simpa using Array.mem_of_getElem? ht
    simpa using List.all_eq_true.1 ae2 t hm⟩)
  zel
#print axioms editPrints_holds
end Go.Proofs.YtmjfiffpolkdeaaGreatDoor
