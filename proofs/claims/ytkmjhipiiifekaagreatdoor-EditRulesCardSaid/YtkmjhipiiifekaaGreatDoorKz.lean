/- EditRules answers true whatever the input, and leaves the input as it was; the listed package variables start as the program's text lays them. -/
import Derived.Test.YtkmjhipiiifekaaGreatDoorKk
set_option linter.all false
open Bool renaming false->bf,true->bg
open Go.Proofs.Tryz renaming prog->bj
open Option renaming some->aY,none->bh
namespace Go.Proofs.YtkmjhipiiifekaaGreatDoor
open Go Go.ChangeShapes Go.WideShapes Go.ChangeAt Go.RowKit Go.Deep Go.Joins Go.EV
def zrs[Jg][Fuel](x0:yf)(x1:zA)(x2:(List aj))(x3:Int)(x4:yl)(r:Bool)(h:vu x0 x1 x2 x3 x4=aY r):mN bj 3 [.agg (A6 x0),.agg (A7 x1),.vs 1 (List.map EV.encS x2),.int .i64 x3,.agg (A8 x4)] gl (.bool r) gl:=q0 (by kernel_rfl) (QM.2 (x0,x1,x2,x3,x4) r h)
set_option maxRecDepth 100000 in
theorem QQ(os:Os)(started:os.Started)(H:Type)(enc:TypeId×Value->H):
  ReturnsInHanded {} Tryz.checked os 3 .any (λw args=>(Rows.editRulesSpec.pre enc bj Tryz.f3 [] bf w args/\laidMetH bj tH w)/\sizedMet enc bj Tryz.f3 (OpenSpec.ofChange Rows.editRulesSpec) bf w args)
   (Rows.editRulesSpec.post enc bj Tryz.f3 bf bg bf bf):=by
 refine zcr (C:=Tryz.checked) (X:=λw _=>laidMetH bj tH w) (λ_ _ _ hh h=>h.of_heap hh) own started (by kernel_rfl) Tryz.func3
  (ChangeSpec.witness_shaped (enc:=enc) (C:=Tryz.checked) (os:=os) (X:=λw _=>laidMetH bj tH w) bf (World.laidAll bj os tH) #[.agg #[.slice bh 0 0,.slice bh 0 0,.slice bh 0 0,.slice bh 0 0,.slice bh 0 0,.slice bh 0 0,.slice bh 0 0,.int .i64 0],.agg #[.int .i64 0,.string ⟨#[]⟩,.string ⟨#[]⟩,.int .i64 0,.string ⟨#[]⟩,.slice bh 0 0,.slice bh 0 0,.int .i64 0,.int .i64 0,.int .i64 0,.bool bf,.int .i64 0,.int .i64 0,.int .i64 0,.string ⟨#[]⟩,.string ⟨#[]⟩,.slice bh 0 0,.int .i64 0,.int .i64 0,.int .i64 0,.int .i64 0,.int .i64 0,.int .i64 0,.int .i64 0,.int .i64 0,.int .i64 0,.string ⟨#[]⟩,.string ⟨#[]⟩,.slice bh 0 0,.slice bh 0 0],.slice bh 0 0,.int .i64 0,.agg #[.int .i64 0,.int .i64 0,.int .i64 0,.int .i64 0]] 8 (World.laidAll_os _ _ _) (World.shaped_of_ZipB (by kernel_rfl) (by kernel_rfl)) (by kernel_rfl) (by kernel_rfl) (by kernel_rfl) (ztm os _)) ?_
 intro W base args ds gs before aet hW hS hL;have tT:∀(j:Nat) t v,Tryz.f3.params[j]?=aY t->args[j]?=aY v->Value.okWide bj W .any base t v:=aet;have Ih:=hW;obtain⟨p,q,hA0,hV,rfl,np,nL⟩:=hW;have hA:DataW.TrodAll enc bj W 0 (λ_=>bg) bg Tryz.f3.params.toList args.toList ds p:=hA0;rw[Tryz.params3]at hA tT;have hA1:=hA;obtain⟨v0,vs,d0,ds,p0,aao,ha,rfl,rfl,h0,hA⟩:=trodAll_cons hA;obtain⟨v1,vs,d1,ds,p1,q1,rfl,rfl,rfl,h1,hA⟩:=trodAll_cons hA;obtain⟨v2,vs,d2,ds,p2,q2,rfl,rfl,rfl,h2,hA⟩:=trodAll_cons hA;obtain⟨v3,vs,d3,ds,p3,q3,rfl,rfl,rfl,h3,hA⟩:=trodAll_cons hA;obtain⟨v4,vs,d4,ds,p4,q4,rfl,rfl,rfl,h4,hA⟩:=trodAll_cons hA;obtain⟨rfl,rfl,rfl⟩:=trodAll_nil hA;obtain⟨rfl,rfl⟩:=trodVars_none hV
 have ha:args=#[v0,v1,v2,v3,v4]:=by cases args;simp_all
 subst ha;obtain⟨x0,ox0,rx0⟩:=zym (tT 0 30 v0 rfl rfl) h0;obtain⟨x1,ox1,rx1⟩:=zyn (tT 1 41 v1 rfl rfl) h1;obtain⟨x2,ox2,rx2⟩:=zyo (tT 2 31 v2 rfl rfl) h2;obtain⟨x3,ox3,rx3⟩:=open_3 (tT 3 3 v3 rfl rfl) h3;obtain⟨x4,ox4,rx4⟩:=zyp (tT 4 43 v4 rfl rfl) h4;simp only[List.append_nil]at Ih
 let afo:Fuel:=⟨18446744073709551616,al⟩
 refine Calls.mono (zou (f:=3) (args:=[.agg (A6 x0),.agg (A7 x1),.vs 1 (List.map EV.encS x2),.int .i64 x3,.agg (A8 x4)]) (vals:=[v0,v1,v2,v3,v4]) (zrs x0 x1 x2 x3 x4 bg (zrr x0 x1 x2 x3 x4)) hL hS ⟨_,_,rfl,rx0,⟨_,_,rfl,rx1,⟨_,_,rfl,rx2,⟨_,_,rfl,rx3,⟨_,_,rfl,rx4,rfl⟩⟩⟩⟩⟩) λe W' ⟨he,hb⟩=>?_
 subst he;refine⟨_,rfl,?_⟩;refine⟨_,_,_,[],_,[],Ih,?_,YT laidOut hb _ _ _ _ (by kernel_rfl) hA1 (λx hx=>by simpa using Ih.lt x (by simpa using hx)),rfl,hb.frame _,λh=>by cases h⟩;exact trodAll_mk1 (shut_bool Tryz.underlying4 bg)
def zbd:Rows.EditRulesSaid:=
 OpenClaim.holds_of_wide 3 Tryz.f3 rfl rfl rfl rfl rfl rfl rfl ⟨rfl,rfl,rfl,rfl,rfl⟩ rfl rfl rfl rfl rfl (by kernel_rfl) Tryz.func3 VP
  (aX (by kernel_rfl)) (by unfold Func.isWrapper;first|(rw[aO af];kernel_rfl)|(rw[aN af];exact⟨rfl,rfl⟩))
  (λos started H enc _=>QQ os started H enc)
def ze7:Rows.editRulesRow.wfByText (OpenSpec.ofChange Rows.editRulesSpec)=bg:=by kernel_rfl
def Yu : Tryz.pinned.checked.prog.mainIs = aY (bg, "75401a79cd1ff202d5cfd8894efca8d36628f25ae1e9a733e9d28c1513a4660a".toList) := by kernel_rfl
def W5:bg=Tryz.pinned.checked.prog.looks []:=by kernel_rfl
def Yv:bf=Rows.editRulesRow.goesBy Tryz.pinned.checked.prog:=by kernel_rfl
def W6:Tryz.pinned.checked.prog.funcNamed Rows.editRulesRow.func=aY 3:=by kernel_rfl
def Yw:Tryz.pinned.checked.prog.funcs[3]?=aY Tryz.f3:=Tryz.func3
def W7:([30,41,31,3,43].all λu=>!Tryz.pinned.checked.prog.wantsStandIn u)=bg:=by kernel_rfl
theorem editRules_holds:Rows.EditRulesCardSaid:=
 Claim7.holds_tied_plain_at .later [] [.data, .data, .data, .data, .listed, .data, .data, .pinned] bg (bg, "75401a79cd1ff202d5cfd8894efca8d36628f25ae1e9a733e9d28c1513a4660a") bg
  zbd (λ_ h=>by cases h) ze7 (λ_ h=>by cases h) editRules_row_tie rfl ⟨rfl,rfl⟩ Yu rfl
  (λf fn hf Ca=>by
   obtain rfl:f=3:=Option.some.inj (W6.symm.trans hf) |>.symm
   obtain rfl:fn=Tryz.f3:=(Option.some.inj (Yw.symm.trans Ca)).symm
   exact⟨W5,λj t ht=>by
    rw[Tryz.params3]at ht
    have hm:t∈[30,41,31,3,43]:=by simpa using Array.mem_of_getElem? ht
    simpa using List.all_eq_true.1 W7 t hm⟩)
  Yv
#print axioms editRules_holds
end Go.Proofs.YtkmjhipiiifekaaGreatDoor
