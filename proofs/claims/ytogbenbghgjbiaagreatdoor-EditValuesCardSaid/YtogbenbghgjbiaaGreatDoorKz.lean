/- EditValues answers true whatever the input, and leaves the input as it was; the listed package variables start as the program's text lays them. -/
import Derived.Test.YtogbenbghgjbiaaGreatDoorKk
set_option linter.all false
open Bool renaming false->bf,true->bh
open Go.Proofs.Tryz renaming prog->bk
open Option renaming some->aY,none->bg
namespace Go.Proofs.YtogbenbghgjbiaaGreatDoor
open Go Go.ChangeShapes Go.WideShapes Go.ChangeAt Go.RowKit Go.Deep Go.Joins Go.EV
mutual
def PU:∀e:Expr,Al e->IV e
 |⟨op,n,s,k,az⟩,h=>by
  rw[Al]at h;intro x hx;rw[O.zJ,List.mem_append]at hx
  rcases hx with hx|hx
  .split at hx
   .rw[b_]at hx;subst hx;exact h.1
   .cases hx
  .exact zdp az h.2.2 x hx
def zdp:∀l:List Expr,Co l->∀x∈O.xA l,x.length<=9223372036854775807
 |[],_,x,hx=>by rw[O.xA]at hx;cases hx
 |e::r,h,x,hx=>by rw[Co]at h;rw[O.xA,List.mem_append]at hx;exact hx.elim (PU e h.1 x) (zdp r h.2 x)
end
def zxr[KY][Fuel](x0:yp)(x1:zN)(x2:aj)(x3:Int)(r:Bool)(h:jh x0 x1 x2 x3=aY r):mz bk 3 [.agg (xo x0),.agg (JW x1),.str x2,.int .i64 x3] gl (.bool r) gl:=Cc (by kernel_rfl) (acr.2 (x0,x1,x2,x3) r h)
set_option maxRecDepth 100000 in
theorem aca(os:Os)(started:os.Started)(H:Type)(enc:TypeId×Value->H):
  ReturnsInHanded {} Tryz.checked os 3 .any (λw args=>(Rows.editValuesSpec.pre enc bk Tryz.f3 [] bf w args/\laidMetH bk Dj w)/\sizedMet enc bk Tryz.f3 (OpenSpec.ofChange Rows.editValuesSpec) bf w args)
   (Rows.editValuesSpec.post enc bk Tryz.f3 bf bh bf bf):=by
 refine zhv (C:=Tryz.checked) (X:=λw _=>laidMetH bk Dj w) (λ_ _ _ hh h=>h.of_heap hh) own started (by kernel_rfl) Tryz.func3
  (ChangeSpec.witness_shaped (enc:=enc) (C:=Tryz.checked) (os:=os) (X:=λw _=>laidMetH bk Dj w) bf (World.laidAll bk os Dj) #[.agg #[.slice bg 0 0,.slice bg 0 0,.slice bg 0 0,.slice bg 0 0,.slice bg 0 0,.slice bg 0 0,.slice bg 0 0,.int .i64 0],.agg #[.int .i64 0,.string ⟨#[]⟩,.string ⟨#[]⟩,.int .i64 0,.string ⟨#[]⟩,.slice bg 0 0,.slice bg 0 0,.int .i64 0,.int .i64 0,.int .i64 0,.bool bf,.int .i64 0,.int .i64 0,.int .i64 0,.string ⟨#[]⟩,.string ⟨#[]⟩,.slice bg 0 0,.int .i64 0,.int .i64 0,.int .i64 0,.int .i64 0,.int .i64 0,.int .i64 0,.int .i64 0,.int .i64 0,.int .i64 0,.string ⟨#[]⟩,.string ⟨#[]⟩,.slice bg 0 0,.slice bg 0 0],.string ⟨#[]⟩,.int .i64 0] 8 (World.laidAll_os _ _ _) (World.shaped_of_ZipB (by kernel_rfl) (by kernel_rfl)) (by kernel_rfl) (by kernel_rfl) (by kernel_rfl) (zzm os _)) ?_
 intro W base args ds gs before aiE hW hS hL;have EM:∀(j:Nat) t v,Tryz.f3.params[j]?=aY t->args[j]?=aY v->Value.okWide bk W .any base t v:=aiE;have Ov:=hW;obtain⟨p,q,hA0,hV,rfl,nW,nI⟩:=hW;have hA:DataW.TrodAll enc bk W 0 (λ_=>bh) bh Tryz.f3.params.toList args.toList ds p:=hA0;rw[Tryz.params3]at hA EM;have hA1:=hA;obtain⟨v0,vs,d0,ds,p0,q0,ha,rfl,rfl,h0,hA⟩:=trodAll_cons hA;obtain⟨v1,vs,d1,ds,p1,q1,rfl,rfl,rfl,h1,hA⟩:=trodAll_cons hA;obtain⟨v2,vs,d2,ds,p2,q2,rfl,rfl,rfl,h2,hA⟩:=trodAll_cons hA;obtain⟨v3,vs,d3,ds,p3,q3,rfl,rfl,rfl,h3,hA⟩:=trodAll_cons hA;obtain⟨rfl,rfl,rfl⟩:=trodAll_nil hA;obtain⟨rfl,rfl⟩:=trodVars_none hV
 have ha:args=#[v0,v1,v2,v3]:=by cases args;simp_all
 subst ha;obtain⟨x0,ox0,rx0⟩:=zE4 (EM 0 30 v0 rfl rfl) h0;obtain⟨x1,ox1,rx1⟩:=zE5 (EM 1 41 v1 rfl rfl) h1;obtain⟨x2,ox2,rx2⟩:=zIl (EM 2 9 v2 rfl rfl) h2;obtain⟨x3,ox3,rx3⟩:=open_3 (EM 3 3 v3 rfl rfl) h3;simp only[List.append_nil]at Ov
 let ajB:Fuel:=⟨18446744073709551616,al⟩
 refine Calls.mono (zux (f:=3) (args:=[.agg (xo x0),.agg (JW x1),.str x2,.int .i64 x3]) (vals:=[v0,v1,v2,v3]) (zxr x0 x1 x2 x3 bh (zr8 x0 x1 x2 x3 (λd hd=>PU _ (ox0.1.2 d hd).2) (PU _ ox1.2.2.2.2.2.1))) hL hS ⟨_,_,rfl,rx0,⟨_,_,rfl,rx1,⟨_,_,rfl,rx2,⟨_,_,rfl,rx3,rfl⟩⟩⟩⟩) λe W' ⟨he,hb⟩=>?_
 subst he;refine⟨_,rfl,?_⟩;refine⟨_,_,_,[],_,[],Ov,?_,ZV laidOut hb _ _ _ _ (by kernel_rfl) hA1 (λx hx=>by simpa using Ov.lt x (by simpa using hx)),rfl,hb.frame _,λh=>by cases h⟩;exact trodAll_mk1 (shut_bool Tryz.underlying4 bh)
def zbi:Rows.EditValuesSaid:=
 OpenClaim.holds_of_wide 3 Tryz.f3 rfl rfl rfl rfl rfl rfl rfl ⟨rfl,rfl,rfl,rfl,rfl⟩ rfl rfl rfl rfl rfl (by kernel_rfl) Tryz.func3 acV
  (aX (by kernel_rfl)) (by unfold Func.isWrapper;first|(rw[aO af];kernel_rfl)|(rw[aN af];exact⟨rfl,rfl⟩))
  (λos started H enc _=>aca os started H enc)
def zf4:Rows.editValuesRow.wfByText (OpenSpec.ofChange Rows.editValuesSpec)=bh:=by kernel_rfl
def zan : Tryz.pinned.checked.prog.mainIs = aY (bh, "3dbe3021c11696e5437d1f217a76d4f903227f4aa871b6cb564fd9c2cd8c2a7c".toList) := by kernel_rfl
def ac0:bh=Tryz.pinned.checked.prog.looks []:=by kernel_rfl
def zao:bf=Rows.editValuesRow.goesBy Tryz.pinned.checked.prog:=by kernel_rfl
def ac1:Tryz.pinned.checked.prog.funcNamed Rows.editValuesRow.func=aY 3:=by kernel_rfl
def zap:Tryz.pinned.checked.prog.funcs[3]?=aY Tryz.f3:=Tryz.func3
def ac2:([30,41,9,3].all λu=>!Tryz.pinned.checked.prog.wantsStandIn u)=bh:=by kernel_rfl
theorem editValues_holds:Rows.EditValuesCardSaid:=
 Claim7.holds_tied_plain_at .later [] [.data, .data, .data, .data, .listed, .data, .data, .pinned] bh (bh, "3dbe3021c11696e5437d1f217a76d4f903227f4aa871b6cb564fd9c2cd8c2a7c") bh
  zbi (λ_ h=>by cases h) zf4 (λ_ h=>by cases h) editValues_row_tie rfl ⟨rfl,rfl⟩ zan rfl
  (λf fn hf DV=>by
   obtain rfl:f=3:=Option.some.inj (ac1.symm.trans hf) |>.symm
   obtain rfl:fn=Tryz.f3:=(Option.some.inj (zap.symm.trans DV)).symm
   exact⟨ac0,λj t ht=>by
    rw[Tryz.params3]at ht
    have hm:t∈[30,41,9,3]:=by simpa using Array.mem_of_getElem? ht
    simpa using List.all_eq_true.1 ac2 t hm⟩)
  zao
#print axioms editValues_holds
end Go.Proofs.YtogbenbghgjbiaaGreatDoor
