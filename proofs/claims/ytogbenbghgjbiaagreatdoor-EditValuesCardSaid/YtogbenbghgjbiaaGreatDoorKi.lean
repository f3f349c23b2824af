/- texts that the proof reaches, part 9 -/
import Derived.Test.YtogbenbghgjbiaaGreatDoorKh
import Derived.Shelf.SlIter.Nil
import Derived.Shelf.SortM.Plain
import Derived.Shelf.SortM.SortNone
import Derived.Ground.GgzProg
import Derived.Ground.SlgmProg
set_option linter.all false
open BitVec renaming ofInt->cg
open Bool renaming false->bf,true->bh
open Go renaming Value->bx,TypeId->bK
open Go.Proofs.Tryz renaming prog->bk,underlying9->dc,underlying38->db,underlying30->dy,underlying34->dE,underlying41->dD,underlying3->dR,underlying4->dU,underlying32->eO,underlying36->eR,underlying75->eQ,underlying79->eM,underlying0->eX,underlying70->fy,underlying72->fE,underlying31->fC,underlying77->fx,underlying123->gi,underlying68->gF,underlying50->gI,underlying268->iu
open Int renaming toNat->bj,fdiv->cP
open List renaming length->ba,replicate->bp,getElem?_eq_some_iff->bq,mem_cons->bu,length_map->bM,length_set->cb,nil_append->cw,getElem?_map->cz,set->cD,isEmpty->cO,map->cQ,map_append->cX,map_nil->dC,take->dF,drop->dN,length_replicate->eL,map_replicate->fg,mergeSort_perm->fU,pairwise_map->gG,pairwise_mergeSort->gO,Nodup->lg
open Nat renaming mul_le_mul_right->ck,zero_add->cl,zero_le->cH
open Option renaming some->aY,none->bg,getD->cR,isSome->eK
set_option maxRecDepth 100000
namespace Go.Proofs.YtogbenbghgjbiaaGreatDoor
open Go Go.ChangeShapes Go.WideShapes Go.ChangeAt Go.RowKit Go.Deep Go.Joins Go.EV
def Ak{c:List V}(h:zn bk 9 c):∃s,c=EV.encS s/\sZ s:=zzk dc h
def wc{c:List V}(h:zn bk 3 c):∃n,c=EV.encI n/\ph .i64 n:=zzj dR h
mutual
def Al:Expr->Prop
 |⟨_,_,s,_,args⟩=>s.length<=9223372036854775807/\args.length<=9223372036854775807/\Co args
def Co:List Expr->Prop
 |[]=>True
 |x::r=>Al x/\Co r
end
def zIk(e:Expr):Al e=(e.S.length<=9223372036854775807/\e.aH.length<=9223372036854775807/\Co e.aH):=by cases e;rw[Al]
def zvc:∀{l:List Expr},(∀x∈l,Al x)->Co l
 |[],_=>by rw[Co];trivial
 |x::l,h=>by rw[Co];exact⟨h x ak,zvc λy hy=>h y (iO _ hy)⟩
def zok{α:Type}{enc:α->List V}{ok:α->Prop}:∀{els:List (List V)},(∀x∈els,∃a,x=enc a/\ok a)->∃l:List α,els=l.map enc/\∀a∈l,ok a
 |[],_=>⟨[],rfl,λ_ h=>by cases h⟩
 |c::els,h=>by
  obtain⟨a,rfl,ha⟩:=h c ak;obtain⟨l,rfl,hl⟩:=zok (λx hx=>h x (iO _ hx))
  exact⟨a::l,rfl,λb hb=>by
   rcases bu.1 hb with rfl|hb
   .exact ha
   .exact hl b hb⟩
def zvd{t:bK}{cs:List V}(h:zn bk t cs):(t=34->∃e:Expr,cs=zY e/\Al e)/\(t=32->∃l:List Expr,cs=[.vs 5 (zo l)]/\l.length<=maxLen/\Co l):=by
 induction h with
 |bool h|int h|str h=>exact⟨λe=>by (subst e;rw[dE]at h;cases h),λe=>by subst e;rw[eO]at h;cases h⟩
 |array h=>exact⟨λe=>by (subst e;rw[dE]at h;cases h),λe=>by subst e;rw[eO]at h;cases h⟩
 |other h=>exact⟨λe=>by (subst e;unfold HR at h;rw[dE]at h;cases h),λe=>by subst e;unfold HR at h;rw[eO]at h;cases h⟩
 |slice h hl hx ih =>
  refine⟨λe=>by (subst e;rw[dE]at h;cases h),λe=>?_⟩;subst e;rw[eO]at h;cases h;obtain⟨l,rfl,h2⟩:=zok (λx B_=>(ih x B_).1 rfl);rw[bM]at hl;exact⟨l,by rw[show Tryz.prog.cellsOf 34=5 by kernel_rfl,kU],hl,zvc h2⟩
 |@struct t' fs cs' h hc hx ih =>
  refine⟨λe=>?_,λe=>by subst e;rw[eO]at h;cases h⟩;subst e;have nF:zn bk 34 cs':=.struct h hc hx;rw[dE]at h;cases h;have hl:=hc.trans (show Tryz.prog.cellsOf 34=5 by kernel_rfl);clear hc
  match cs',hl,nF,ih with
  |[c0,c1,c2,c3,c4],_,h,ih =>
   have h0:zn bk 3 [c0]:=zg dE h 0 0 3 1 rfl rfl rfl (by kernel_rfl);have h1:zn bk 3 [c1]:=zg dE h 1 1 3 1 rfl rfl rfl (by kernel_rfl);have h2:zn bk 9 [c2]:=zg dE h 2 2 9 1 rfl rfl rfl (by kernel_rfl);have h3:zn bk 9 [c3]:=zg dE h 3 3 9 1 rfl rfl rfl (by kernel_rfl);obtain⟨l,e4,k4,adA⟩:=(ih _ (List.mem_of_getElem? (i:=4) rfl)).2 rfl;obtain⟨n0,e0,k0⟩:=wc h0;obtain⟨n1,e1,k1⟩:=wc h1;obtain⟨n2,e2,k2⟩:=Ak h2;obtain⟨n3,e3,k3⟩:=Ak h3
   have aeh:[c4]=[.vs 5 (zo l)]:=by rw[<- e4];exact(aP (λn=>(dN 4 [c0,c1,c2,c3,c4]).take n) (show Tryz.prog.cellsOf 32=1 by kernel_rfl)).symm
   cases e0;cases e1;cases e2;cases e3;cases aeh;exact⟨⟨n0,n1,n2,n3,l⟩,rfl,by rw[zIk];exact⟨k2,k4,adA⟩⟩
def Zp{c:List V}(h:zn bk 34 c):∃e:Expr,c=zY e/\Al e:=(zvd h).1 rfl
def PH(x:Def):Prop:=sZ x.aK/\Al x.Body
def zEn{c:List V}(h:zn bk 68 c):∃x:Def,c=ze x/\PH x:=by
 have hl:=(yK gF h).1.trans (show Tryz.prog.cellsOf 68=6 by kernel_rfl)
 match c,hl,h with
 |[c0,c1,c2,c3,c4,c5],_,h =>
  have h0:zn bk 9 [c0]:=zg gF h 0 0 9 1 rfl rfl rfl (by kernel_rfl);have h1:zn bk 34 [c1,c2,c3,c4,c5]:=zg gF h 1 1 34 5 rfl rfl rfl (by kernel_rfl);obtain⟨n0,e0,k0⟩:=Ak h0;obtain⟨n1,e1,k1⟩:=Zp h1;cases e0;cases e1;exact⟨⟨n0,n1⟩,rfl,k0,k1⟩
def zEo{c:List V}(h:zn bk 22 c):∃l:List Def,c=[.vs 6 (l.map ze)]/\Yi PH l:=by obtain⟨els,rfl,hl,hx⟩:=wO Tryz.underlying22 h;obtain⟨l,rfl,h2⟩:=vg (λc h=>zEn h) hx;rw[bM]at hl;exact⟨l,by rw[show Tryz.prog.cellsOf 68=6 by kernel_rfl],hl,h2⟩
def RF(x:av):Prop:=sZ x.aK/\ph .i64 x.N
def zEp{c:List V}(h:zn bk 50 c):∃x:av,c=HS x/\RF x:=by
 have hl:=(yK gI h).1.trans (show Tryz.prog.cellsOf 50=2 by kernel_rfl)
 match c,hl,h with
 |[c0,c1],_,h =>
  have h0:zn bk 9 [c0]:=zg gI h 0 0 9 1 rfl rfl rfl (by kernel_rfl);have h1:zn bk 3 [c1]:=zg gI h 1 1 3 1 rfl rfl rfl (by kernel_rfl);obtain⟨n0,e0,k0⟩:=Ak h0;obtain⟨n1,e1,k1⟩:=wc h1;cases e0;cases e1;exact⟨⟨n0,n1⟩,rfl,k0,k1⟩
def zEq{c:List V}(h:zn bk 51 c):∃l:List av,c=[.vs 2 (l.map HS)]/\Yi RF l:=by obtain⟨els,rfl,hl,hx⟩:=wO Tryz.underlying51 h;obtain⟨l,rfl,h2⟩:=vg (λc h=>zEp h) hx;rw[bM]at hl;exact⟨l,by rw[show Tryz.prog.cellsOf 50=2 by kernel_rfl],hl,h2⟩
def RG(x:ar):Prop:=sZ x.aK/\(Yi RF) x.Rows/\ph .i64 x.nU
def zEr{c:List V}(h:zn bk 70 c):∃x:ar,c=HU x/\RG x:=by
 have hl:=(yK fy h).1.trans (show Tryz.prog.cellsOf 70=3 by kernel_rfl)
 match c,hl,h with
 |[c0,c1,c2],_,h =>
  have h0:zn bk 9 [c0]:=zg fy h 0 0 9 1 rfl rfl rfl (by kernel_rfl);have h1:zn bk 51 [c1]:=zg fy h 1 1 51 1 rfl rfl rfl (by kernel_rfl);have h2:zn bk 3 [c2]:=zg fy h 2 2 3 1 rfl rfl rfl (by kernel_rfl);obtain⟨n0,e0,k0⟩:=Ak h0;obtain⟨n1,e1,k1⟩:=zEq h1;obtain⟨n2,e2,k2⟩:=wc h2;cases e0;cases e1;cases e2;exact⟨⟨n0,n1,n2⟩,rfl,k0,k1,k2⟩
def zEs{c:List V}(h:zn bk 23 c):∃l:List ar,c=[.vs 3 (l.map HU)]/\Yi RG l:=by obtain⟨els,rfl,hl,hx⟩:=wO Tryz.underlying23 h;obtain⟨l,rfl,h2⟩:=vg (λc h=>zEr h) hx;rw[bM]at hl;exact⟨l,by rw[show Tryz.prog.cellsOf 70=3 by kernel_rfl],hl,h2⟩
def Xb{c:List V}(h:zn bk 4 c):∃b:Bool,c=[.bool b]/\True:=by obtain⟨b,e⟩:=zuw dU h;exact⟨b,e,trivial⟩
def Zq(x:zK):Prop:=ph .i64 x.X/\ph .i64 x.Y
def zzr{c:List V}(h:zn bk 123 c):∃x:zK,c=uO x/\Zq x:=by
 have hl:=(yK gi h).1.trans (show Tryz.prog.cellsOf 123=2 by kernel_rfl)
 match c,hl,h with
 |[c0,c1],_,h =>
  have h0:zn bk 3 [c0]:=zg gi h 0 0 3 1 rfl rfl rfl (by kernel_rfl);have h1:zn bk 3 [c1]:=zg gi h 1 1 3 1 rfl rfl rfl (by kernel_rfl);obtain⟨n0,e0,k0⟩:=wc h0;obtain⟨n1,e1,k1⟩:=wc h1;cases e0;cases e1;exact⟨⟨n0,n1⟩,rfl,k0,k1⟩
def RH{c:List V}(h:zn bk 39 c):∃l:List zK,c=[.vs 2 (l.map uO)]/\Yi Zq l:=by obtain⟨els,rfl,hl,hx⟩:=wO Tryz.underlying39 h;obtain⟨l,rfl,h2⟩:=vg (λc h=>zzr h) hx;rw[bM]at hl;exact⟨l,by rw[show Tryz.prog.cellsOf 123=2 by kernel_rfl],hl,h2⟩
def Se(x:zF):Prop:=sZ x.aK/\True/\(Yi Zq) x.ay
def zEt{c:List V}(h:zn bk 72 c):∃x:zF,c=Ql x/\Se x:=by
 have hl:=(yK fE h).1.trans (show Tryz.prog.cellsOf 72=3 by kernel_rfl)
 match c,hl,h with
 |[c0,c1,c2],_,h =>
  have h0:zn bk 9 [c0]:=zg fE h 0 0 9 1 rfl rfl rfl (by kernel_rfl);have h1:zn bk 4 [c1]:=zg fE h 1 1 4 1 rfl rfl rfl (by kernel_rfl);have h2:zn bk 39 [c2]:=zg fE h 2 2 39 1 rfl rfl rfl (by kernel_rfl);obtain⟨n0,e0,k0⟩:=Ak h0;obtain⟨n1,e1,k1⟩:=Xb h1;obtain⟨n2,e2,k2⟩:=RH h2;cases e0;cases e1;cases e2;exact⟨⟨n0,n1,n2⟩,rfl,k0,k1,k2⟩
def zEu{c:List V}(h:zn bk 24 c):∃l:List zF,c=[.vs 3 (l.map Ql)]/\Yi Se l:=by obtain⟨els,rfl,hl,hx⟩:=wO Tryz.underlying24 h;obtain⟨l,rfl,h2⟩:=vg (λc h=>zEt h) hx;rw[bM]at hl;exact⟨l,by rw[show Tryz.prog.cellsOf 72=3 by kernel_rfl],hl,h2⟩
def zvf{c:List V}(h:zn bk 31 c):∃l:List aj,c=[.vs 1 (l.map EV.encS)]/\Yi sZ l:=by obtain⟨els,rfl,hl,hx⟩:=wO fC h;obtain⟨l,rfl,h2⟩:=vg (λc h=>Ak h) hx;rw[bM]at hl;exact⟨l,by rw[show Tryz.prog.cellsOf 9=1 by kernel_rfl],hl,h2⟩
def zvg(x:zh):Prop:=ph .i64 x.nL/\ph .i64 x.nK/\ph .i64 x.nG/\ph .i64 x.Den
def zEv{c:List V}(h:zn bk 36 c):∃x:zh,c=Za x/\zvg x:=by
 have hl:=(yK eR h).1.trans (show Tryz.prog.cellsOf 36=4 by kernel_rfl)
 match c,hl,h with
 |[c0,c1,c2,c3],_,h =>
  have h0:zn bk 3 [c0]:=zg eR h 0 0 3 1 rfl rfl rfl (by kernel_rfl);have h1:zn bk 3 [c1]:=zg eR h 1 1 3 1 rfl rfl rfl (by kernel_rfl);have h2:zn bk 3 [c2]:=zg eR h 2 2 3 1 rfl rfl rfl (by kernel_rfl);have h3:zn bk 3 [c3]:=zg eR h 3 3 3 1 rfl rfl rfl (by kernel_rfl);obtain⟨n0,e0,k0⟩:=wc h0;obtain⟨n1,e1,k1⟩:=wc h1;obtain⟨n2,e2,k2⟩:=wc h2;obtain⟨n3,e3,k3⟩:=wc h3;cases e0;cases e1;cases e2;cases e3;exact⟨⟨n0,n1,n2,n3⟩,rfl,k0,k1,k2,k3⟩
def M0(x:za):Prop:=sZ x.aK/\(Yi sZ) x.aA/\(Yi sZ) x.Except/\ph .i64 x.lA/\ph .i64 x.j_/\ph .i64 x.lN/\True/\ph .i64 x.aL/\Al x.Test/\zvg x.zh/\ph .i64 x.Uses/\ph .i64 x.lK/\ph .i64 x.N
def zvh{c:List V}(h:zn bk 38 c):∃x:za,c=Qm x/\M0 x:=by
 have hl:=(yK db h).1.trans (show Tryz.prog.cellsOf 38=20 by kernel_rfl)
 match c,hl,h with
 |[c0,c1,c2,c3,c4,c5,c6,c7,c8,c9,lE,lJ,lO,lW,l7,l_,rQ,Dz,DA,DB],_,h =>
  have h0:zn bk 9 [c0]:=zg db h 0 0 9 1 rfl rfl rfl (by kernel_rfl);have h1:zn bk 31 [c1]:=zg db h 1 1 31 1 rfl rfl rfl (by kernel_rfl);have h2:zn bk 31 [c2]:=zg db h 2 2 31 1 rfl rfl rfl (by kernel_rfl);have h3:zn bk 3 [c3]:=zg db h 3 3 3 1 rfl rfl rfl (by kernel_rfl);have h4:zn bk 3 [c4]:=zg db h 4 4 3 1 rfl rfl rfl (by kernel_rfl);have h5:zn bk 3 [c5]:=zg db h 5 5 3 1 rfl rfl rfl (by kernel_rfl);have h6:zn bk 4 [c6]:=zg db h 6 6 4 1 rfl rfl rfl (by kernel_rfl);have h7:zn bk 3 [c7]:=zg db h 7 7 3 1 rfl rfl rfl (by kernel_rfl);have h8:zn bk 34 [c8,c9,lE,lJ,lO]:=zg db h 8 8 34 5 rfl rfl rfl (by kernel_rfl);have h9:zn bk 36 [lW,l7,l_,rQ]:=zg db h 9 13 36 4 rfl rfl rfl (by kernel_rfl);have pW:zn bk 3 [Dz]:=zg db h 10 17 3 1 rfl rfl rfl (by kernel_rfl);have pX:zn bk 3 [DA]:=zg db h 11 18 3 1 rfl rfl rfl (by kernel_rfl);have tG:zn bk 3 [DB]:=zg db h 12 19 3 1 rfl rfl rfl (by kernel_rfl);obtain⟨n0,e0,k0⟩:=Ak h0;obtain⟨n1,e1,k1⟩:=zvf h1;obtain⟨n2,e2,k2⟩:=zvf h2;obtain⟨n3,e3,k3⟩:=wc h3;obtain⟨n4,e4,k4⟩:=wc h4;obtain⟨n5,e5,k5⟩:=wc h5;obtain⟨n6,e6,k6⟩:=Xb h6;obtain⟨n7,e7,k7⟩:=wc h7;obtain⟨n8,e8,adx⟩:=Zp h8;obtain⟨n9,adr,k9⟩:=zEv h9;obtain⟨n10,aee,O5⟩:=wc pW;obtain⟨n11,aef,aen⟩:=wc pX;obtain⟨n12,aeg,aeo⟩:=wc tG;cases e0;cases e1;cases e2;cases e3;cases e4;cases e5;cases e6;cases e7;cases e8;cases adr;cases aee;cases aef;cases aeg;exact⟨⟨n0,n1,n2,n3,n4,n5,n6,n7,n8,n9,n10,n11,n12⟩,rfl,k0,k1,k2,k3,k4,k5,k6,k7,adx,k9,O5,aen,aeo⟩
def zEw{c:List V}(h:zn bk 25 c):∃l:List za,c=[.vs 20 (l.map Qm)]/\Yi M0 l:=by obtain⟨els,rfl,hl,hx⟩:=wO Tryz.underlying25 h;obtain⟨l,rfl,h2⟩:=vg (λc h=>zvh h) hx;rw[bM]at hl;exact⟨l,by rw[show Tryz.prog.cellsOf 38=20 by kernel_rfl],hl,h2⟩
def PI(x:a_):Prop:=sZ x.aK/\ph .i64 x.sH/\ph .i64 x.pB/\(Yi Zq) x.ay
def zEy{c:List V}(h:zn bk 75 c):∃x:a_,c=Zb x/\PI x:=by
 have hl:=(yK eQ h).1.trans (show Tryz.prog.cellsOf 75=4 by kernel_rfl)
 match c,hl,h with
 |[c0,c1,c2,c3],_,h =>
  have h0:zn bk 9 [c0]:=zg eQ h 0 0 9 1 rfl rfl rfl (by kernel_rfl);have h1:zn bk 3 [c1]:=zg eQ h 1 1 3 1 rfl rfl rfl (by kernel_rfl);have h2:zn bk 3 [c2]:=zg eQ h 2 2 3 1 rfl rfl rfl (by kernel_rfl);have h3:zn bk 39 [c3]:=zg eQ h 3 3 39 1 rfl rfl rfl (by kernel_rfl);obtain⟨n0,e0,k0⟩:=Ak h0;obtain⟨n1,e1,k1⟩:=wc h1;obtain⟨n2,e2,k2⟩:=wc h2;obtain⟨n3,e3,k3⟩:=RH h3;cases e0;cases e1;cases e2;cases e3;exact⟨⟨n0,n1,n2,n3⟩,rfl,k0,k1,k2,k3⟩
def zEz{c:List V}(h:zn bk 26 c):∃l:List a_,c=[.vs 4 (l.map Zb)]/\Yi PI l:=by obtain⟨els,rfl,hl,hx⟩:=wO Tryz.underlying26 h;obtain⟨l,rfl,h2⟩:=vg (λc h=>zEy h) hx;rw[bM]at hl;exact⟨l,by rw[show Tryz.prog.cellsOf 75=4 by kernel_rfl],hl,h2⟩
def QE(x:zj):Prop:=ph .i64 x.X/\ph .i64 x.Y/\ph .i64 x.Z_
def zvi{c:List V}(h:zn bk 77 c):∃x:zj,c=uo x/\QE x:=by
 have hl:=(yK fx h).1.trans (show Tryz.prog.cellsOf 77=3 by kernel_rfl)
 match c,hl,h with
 |[c0,c1,c2],_,h =>
  have h0:zn bk 3 [c0]:=zg fx h 0 0 3 1 rfl rfl rfl (by kernel_rfl);have h1:zn bk 3 [c1]:=zg fx h 1 1 3 1 rfl rfl rfl (by kernel_rfl);have h2:zn bk 3 [c2]:=zg fx h 2 2 3 1 rfl rfl rfl (by kernel_rfl);obtain⟨n0,e0,k0⟩:=wc h0;obtain⟨n1,e1,k1⟩:=wc h1;obtain⟨n2,e2,k2⟩:=wc h2;cases e0;cases e1;cases e2;exact⟨⟨n0,n1,n2⟩,rfl,k0,k1,k2⟩
def zvj{c:List V}(h:zn bk 28 c):∃l:List zj,c=[.vs 3 (l.map uo)]/\Yi QE l:=by obtain⟨els,rfl,hl,hx⟩:=wO Tryz.underlying28 h;obtain⟨l,rfl,h2⟩:=vg (λc h=>zvi h) hx;rw[bM]at hl;exact⟨l,by rw[show Tryz.prog.cellsOf 77=3 by kernel_rfl],hl,h2⟩
def Sf(x:au):Prop:=sZ x.aK/\QE x.nq/\ph .i64 x.sJ/\(Yi QE) x.mK
def zE0{c:List V}(h:zn bk 79 c):∃x:au,c=Qn x/\Sf x:=by
 have hl:=(yK eM h).1.trans (show Tryz.prog.cellsOf 79=6 by kernel_rfl)
 match c,hl,h with
 |[c0,c1,c2,c3,c4,c5],_,h =>
  have h0:zn bk 9 [c0]:=zg eM h 0 0 9 1 rfl rfl rfl (by kernel_rfl);have h1:zn bk 77 [c1,c2,c3]:=zg eM h 1 1 77 3 rfl rfl rfl (by kernel_rfl);have h2:zn bk 3 [c4]:=zg eM h 2 4 3 1 rfl rfl rfl (by kernel_rfl);have h3:zn bk 28 [c5]:=zg eM h 3 5 28 1 rfl rfl rfl (by kernel_rfl);obtain⟨n0,e0,k0⟩:=Ak h0;obtain⟨n1,e1,k1⟩:=zvi h1;obtain⟨n2,e2,k2⟩:=wc h2;obtain⟨n3,e3,k3⟩:=zvj h3;cases e0;cases e1;cases e2;cases e3;exact⟨⟨n0,n1,n2,n3⟩,rfl,k0,k1,k2,k3⟩
def zE1{c:List V}(h:zn bk 27 c):∃l:List au,c=[.vs 6 (l.map Qn)]/\Yi Sf l:=by obtain⟨els,rfl,hl,hx⟩:=wO Tryz.underlying27 h;obtain⟨l,rfl,h2⟩:=vg (λc h=>zE0 h) hx;rw[bM]at hl;exact⟨l,by rw[show Tryz.prog.cellsOf 79=6 by kernel_rfl],hl,h2⟩
def Xc(x:yp):Prop:=(Yi PH) x.aE/\(Yi RG) x.Tables/\(Yi Se) x.aA/\(Yi M0) x.aB/\(Yi PI) x.aI/\(Yi Sf) x.aF/\(Yi QE) x.aJ/\ph .i64 x.aG
def zE2{c:List V}(h:zn bk 30 c):∃x:yp,c=xo x/\Xc x:=by
 have hl:=(yK dy h).1.trans (show Tryz.prog.cellsOf 30=8 by kernel_rfl)
 match c,hl,h with
 |[c0,c1,c2,c3,c4,c5,c6,c7],_,h =>
  have h0:zn bk 22 [c0]:=zg dy h 0 0 22 1 rfl rfl rfl (by kernel_rfl);have h1:zn bk 23 [c1]:=zg dy h 1 1 23 1 rfl rfl rfl (by kernel_rfl);have h2:zn bk 24 [c2]:=zg dy h 2 2 24 1 rfl rfl rfl (by kernel_rfl);have h3:zn bk 25 [c3]:=zg dy h 3 3 25 1 rfl rfl rfl (by kernel_rfl);have h4:zn bk 26 [c4]:=zg dy h 4 4 26 1 rfl rfl rfl (by kernel_rfl);have h5:zn bk 27 [c5]:=zg dy h 5 5 27 1 rfl rfl rfl (by kernel_rfl);have h6:zn bk 28 [c6]:=zg dy h 6 6 28 1 rfl rfl rfl (by kernel_rfl);have h7:zn bk 3 [c7]:=zg dy h 7 7 3 1 rfl rfl rfl (by kernel_rfl);obtain⟨n0,e0,k0⟩:=zEo h0;obtain⟨n1,e1,k1⟩:=zEs h1;obtain⟨n2,e2,k2⟩:=zEu h2;obtain⟨n3,e3,k3⟩:=zEw h3;obtain⟨n4,e4,k4⟩:=zEz h4;obtain⟨n5,e5,k5⟩:=zE1 h5;obtain⟨n6,e6,k6⟩:=zvj h6;obtain⟨n7,e7,k7⟩:=wc h7;cases e0;cases e1;cases e2;cases e3;cases e4;cases e5;cases e6;cases e7;exact⟨⟨n0,n1,n2,n3,n4,n5,n6,n7⟩,rfl,k0,k1,k2,k3,k4,k5,k6,k7⟩
def Xd(x:zN):Prop:=ph .i64 x.aL/\sZ x.aK/\sZ x.Key/\ph .i64 x.N/\M0 x.za/\Al x.Body/\(Yi Zq) x.ay
def zE3{c:List V}(h:zn bk 41 c):∃x:zN,c=JW x/\Xd x:=by
 have hl:=(yK dD h).1.trans (show Tryz.prog.cellsOf 41=30 by kernel_rfl)
 match c,hl,h with
 |[c0,c1,c2,c3,c4,c5,c6,c7,c8,c9,lE,lJ,lO,lW,l7,l_,rQ,Dz,DA,DB,Bp,CH,Gw,EX,Gx,NS,NT,NU,NW,Gy],_,h =>
  have h0:zn bk 3 [c0]:=zg dD h 0 0 3 1 rfl rfl rfl (by kernel_rfl);have h1:zn bk 9 [c1]:=zg dD h 1 1 9 1 rfl rfl rfl (by kernel_rfl);have h2:zn bk 9 [c2]:=zg dD h 2 2 9 1 rfl rfl rfl (by kernel_rfl);have h3:zn bk 3 [c3]:=zg dD h 3 3 3 1 rfl rfl rfl (by kernel_rfl);have h4:zn bk 38 [c4,c5,c6,c7,c8,c9,lE,lJ,lO,lW,l7,l_,rQ,Dz,DA,DB,Bp,CH,Gw,EX]:=zg dD h 4 4 38 20 rfl rfl rfl (by kernel_rfl);have h5:zn bk 34 [Gx,NS,NT,NU,NW]:=zg dD h 5 24 34 5 rfl rfl rfl (by kernel_rfl);have h6:zn bk 39 [Gy]:=zg dD h 6 29 39 1 rfl rfl rfl (by kernel_rfl);obtain⟨n0,e0,k0⟩:=wc h0;obtain⟨n1,e1,k1⟩:=Ak h1;obtain⟨n2,e2,k2⟩:=Ak h2;obtain⟨n3,e3,k3⟩:=wc h3;obtain⟨n4,e4,k4⟩:=zvh h4;obtain⟨n5,e5,k5⟩:=Zp h5;obtain⟨n6,e6,k6⟩:=RH h6;cases e0;cases e1;cases e2;cases e3;cases e4;cases e5;cases e6;exact⟨⟨n0,n1,n2,n3,n4,n5,n6⟩,rfl,k0,k1,k2,k3,k4,k5,k6⟩
section
variable{H:Type}{enc:bK×bx->H}{W:World}{b0:Nat}{r:Reach}{v:bx}{d:DataW H}{p:List MemPlace}{t:bK}
def zE4(hv:Value.okWide bk W r b0 30 v)(h:DataW.Trod enc bk W 0 (λ_=>bh) bh 30 v d p):∃x:yp,Xc x/\aT bg W.cell? (.agg (xo x)) v:=by obtain⟨vs,h1,h2⟩:=MZ (by kernel_rfl) h;obtain⟨x,rfl,hx⟩:=zE2 h1;obtain⟨cs,rfl,_⟩:=okWide_struct dy hv;exact⟨x,hx,cs.toList,ae,h2⟩
def zE5(hv:Value.okWide bk W r b0 41 v)(h:DataW.Trod enc bk W 0 (λ_=>bh) bh 41 v d p):∃x:zN,Xd x/\aT bg W.cell? (.agg (JW x)) v:=by obtain⟨vs,h1,h2⟩:=MZ (by kernel_rfl) h;obtain⟨x,rfl,hx⟩:=zE3 h1;obtain⟨cs,rfl,_⟩:=okWide_struct dD hv;exact⟨x,hx,cs.toList,ae,h2⟩
def zIl(hv:Value.okWide bk W r b0 9 v)(h:DataW.Trod enc bk W 0 (λ_=>bh) bh 9 v d p):∃s:aj,sZ s/\aT bg W.cell? (.str s) v:=by obtain⟨vs,h1,h2⟩:=MZ (by kernel_rfl) h;obtain⟨s,rfl,hs⟩:=Ak h1;obtain⟨s',rfl,_⟩:=Go.ChangeMaps.open_string dc hv h;obtain⟨x,xs,e1,h3,_⟩:=h2;cases e1;exact⟨s,hs,h3⟩
def open_3(hv:Value.okWide bk W r b0 3 v)(h:DataW.Trod enc bk W 0 (λ_=>bh) bh 3 v d p):∃n:Int,ph .i64 n/\aT bg W.cell? (.int .i64 n) v:=by obtain⟨vs,h1,h2⟩:=MZ (by kernel_rfl) h;obtain⟨s,rfl,hs⟩:=wc h1;obtain⟨n,rfl,_⟩:=open_int dR hv h;obtain⟨x,xs,e1,h3,_⟩:=h2;cases e1;exact⟨s,hs,h3⟩
end
end Go.Proofs.YtogbenbghgjbiaaGreatDoor
namespace Go.Proofs
open Go.Shelf
def Tryz.abn:Go.Shelf.Ren:=⟨λ|7=>181|10=>231|n=>n,λ|23=>88|26=>9|3=>4|28=>268|0=>0|27=>267|33=>125|4=>4|n=>n,λ|n=>n⟩
def Tryz.ajj:Go.Proofs.SlLaysZ.n7 bk Tryz.abn:={
 mixed:=by kernel_rfl
 f7:=⟨Tryz.f181.name,ad,Tryz.func181.trans (aP aY (by kernel_rfl))⟩
 f10:=⟨Tryz.f231.name,ad,Tryz.func231.trans (aP aY (by kernel_rfl))⟩
 t0:=eX
 a0:=Tryz.isAgg0
 z0:=Tryz.sizeOf0
 v0:=Tryz.zeroValue0
 t4:=dU
 a4:=Tryz.isAgg4
 z4:=Tryz.sizeOf4
 v4:=Tryz.zeroValue4
 t23:=Tryz.underlying88
 a23:=Tryz.isAgg88
 z23:=Tryz.sizeOf88
 v23:=Tryz.zeroValue88
 t26:=dc
 a26:=Tryz.isAgg9
 z26:=Tryz.sizeOf9
 v26:=Tryz.zeroValue9
 t27:=Tryz.underlying267
 a27:=Tryz.isAgg267
 z27:=Tryz.sizeOf267
 v27:=Tryz.zeroValue267
 t28:=iu
 a28:=Tryz.isAgg268
 z28:=Tryz.sizeOf268
 v28:=Tryz.zeroValue268
 t33:=Tryz.underlying125
 a33:=Tryz.isAgg125
 z33:=Tryz.sizeOf125
 v33:=Tryz.zeroValue125 }
def Tryz.abu:Go.Shelf.Ren:=⟨λ|6=>180|8=>229|9=>230|11=>257|13=>259|12=>258|23=>286|24=>287|14=>277|15=>278|16=>279|17=>280|18=>281|19=>282|20=>283|21=>284|22=>285|25=>296|26=>297|27=>298|28=>299|29=>300|30=>234|31=>303|n=>n,λ|26=>9|28=>268|24=>31|0=>0|3=>3|37=>331|48=>322|50=>357|4=>4|40=>364|39=>363|45=>198|5=>5|9=>9|51=>379|55=>383|57=>385|58=>386|33=>125|n=>n,λ|n=>n⟩
def Tryz.ajp:Go.Proofs.SlLaysZ.n6 bk Tryz.abu:={
 mixed:=by kernel_rfl
 f6:=⟨Tryz.f180.name,ad,Tryz.func180.trans (aP aY (by kernel_rfl))⟩
 f8:=⟨Tryz.f229.name,ad,Tryz.func229.trans (aP aY (by kernel_rfl))⟩
 f11:=⟨Tryz.f257.name,ad,Tryz.func257.trans (aP aY (by kernel_rfl))⟩
 t0:=eX
 a0:=Tryz.isAgg0
 z0:=Tryz.sizeOf0
 v0:=Tryz.zeroValue0
 t24:=fC
 a24:=Tryz.isAgg31
 z24:=Tryz.sizeOf31
 v24:=Tryz.zeroValue31
 t26:=dc
 a26:=Tryz.isAgg9
 z26:=Tryz.sizeOf9
 v26:=Tryz.zeroValue9
 t28:=iu
 a28:=Tryz.isAgg268
 z28:=Tryz.sizeOf268
 v28:=Tryz.zeroValue268
 i26:=by kernel_rfl }
def Tryz.ajt:Go.Shelf.Ren:=⟨λ|6=>230|8=>259|9=>258|19=>286|20=>287|21=>277|22=>278|23=>279|24=>280|25=>281|26=>282|27=>283|28=>284|29=>285|36=>296|31=>297|32=>298|37=>299|38=>300|39=>234|41=>303|n=>n,λ|27=>31|29=>9|3=>3|32=>331|26=>31|0=>0|44=>322|46=>357|4=>4|36=>364|35=>363|41=>198|5=>5|9=>9|53=>379|57=>383|63=>385|64=>386|n=>n,λ|n=>n⟩
def Tryz.abj:Go.Proofs.SlLaysM.n6 bk Tryz.ajt:={
 mixed:=by kernel_rfl
 f6:=⟨Tryz.f230.name,ad,Tryz.func230.trans (aP aY (by kernel_rfl))⟩
 f8:=Tryz.func259.trans (aP aY (by kernel_rfl))
 f9:=⟨Tryz.f258.name,ad,Tryz.func258.trans (aP aY (by kernel_rfl))⟩
 f19:=Tryz.func286.trans (aP aY (by kernel_rfl))
 f20:=Tryz.func287.trans (aP aY (by kernel_rfl))
 f21:=⟨Tryz.f277.name,ad,Tryz.func277.trans (aP aY (by kernel_rfl))⟩
 f22:=⟨Tryz.f278.name,ad,Tryz.func278.trans (aP aY (by kernel_rfl))⟩
 f23:=⟨Tryz.f279.name,ad,Tryz.func279.trans (aP aY (by kernel_rfl))⟩
 f24:=⟨Tryz.f280.name,ad,Tryz.func280.trans (aP aY (by kernel_rfl))⟩
 f25:=⟨Tryz.f281.name,ad,Tryz.func281.trans (aP aY (by kernel_rfl))⟩
 f26:=⟨Tryz.f282.name,ad,Tryz.func282.trans (aP aY (by kernel_rfl))⟩
 f27:=⟨Tryz.f283.name,ad,Tryz.func283.trans (aP aY (by kernel_rfl))⟩
 f28:=⟨Tryz.f284.name,ad,Tryz.func284.trans (aP aY (by kernel_rfl))⟩
 f29:=⟨Tryz.f285.name,ad,Tryz.func285.trans (aP aY (by kernel_rfl))⟩
 f31:=Tryz.func297.trans (aP aY (by kernel_rfl))
 f32:=Tryz.func298.trans (aP aY (by kernel_rfl))
 f36:=⟨Tryz.f296.name,ad,Tryz.func296.trans (aP aY (by kernel_rfl))⟩
 f37:=⟨Tryz.f299.name,ad,Tryz.func299.trans (aP aY (by kernel_rfl))⟩
 f38:=⟨Tryz.f300.name,ad,Tryz.func300.trans (aP aY (by kernel_rfl))⟩
 f39:=⟨Tryz.f234.name,ad,Tryz.func234.trans (aP aY (by kernel_rfl))⟩
 f41:=⟨Tryz.f303.name,ad,Tryz.func303.trans (aP aY (by kernel_rfl))⟩
 t0:=eX
 a0:=Tryz.isAgg0
 z0:=Tryz.sizeOf0
 v0:=Tryz.zeroValue0
 t3:=dR
 a3:=Tryz.isAgg3
 z3:=Tryz.sizeOf3
 v3:=Tryz.zeroValue3
 t4:=dU
 a4:=Tryz.isAgg4
 z4:=Tryz.sizeOf4
 v4:=Tryz.zeroValue4
 t5:=Tryz.underlying5
 a5:=Tryz.isAgg5
 z5:=Tryz.sizeOf5
 v5:=Tryz.zeroValue5
 t9:=dc
 a9:=Tryz.isAgg9
 z9:=Tryz.sizeOf9
 v9:=Tryz.zeroValue9
 t26:=fC
 a26:=Tryz.isAgg31
 z26:=Tryz.sizeOf31
 v26:=Tryz.zeroValue31
 t27:=fC
 a27:=Tryz.isAgg31
 z27:=Tryz.sizeOf31
 v27:=Tryz.zeroValue31
 t29:=dc
 a29:=Tryz.isAgg9
 z29:=Tryz.sizeOf9
 v29:=Tryz.zeroValue9
 t32:=Tryz.underlying331
 a32:=Tryz.isAgg331
 z32:=Tryz.sizeOf331
 v32:=Tryz.zeroValue331
 t35:=Tryz.underlying363
 a35:=Tryz.isAgg363
 z35:=Tryz.sizeOf363
 v35:=Tryz.zeroValue363
 t36:=Tryz.underlying364
 a36:=Tryz.isAgg364
 z36:=Tryz.sizeOf364
 v36:=Tryz.zeroValue364
 t41:=Tryz.underlying198
 a41:=Tryz.isAgg198
 z41:=Tryz.sizeOf198
 v41:=Tryz.zeroValue198
 t44:=Tryz.underlying322
 a44:=Tryz.isAgg322
 z44:=Tryz.sizeOf322
 v44:=Tryz.zeroValue322
 t46:=Tryz.underlying357
 a46:=Tryz.isAgg357
 z46:=Tryz.sizeOf357
 v46:=Tryz.zeroValue357
 t53:=Tryz.underlying379
 a53:=Tryz.isAgg379
 z53:=Tryz.sizeOf379
 v53:=Tryz.zeroValue379
 t57:=Tryz.underlying383
 a57:=Tryz.isAgg383
 z57:=Tryz.sizeOf383
 v57:=Tryz.zeroValue383
 t63:=Tryz.underlying385
 a63:=Tryz.isAgg385
 z63:=Tryz.sizeOf385
 v63:=Tryz.zeroValue385
 t64:=Tryz.underlying386
 a64:=Tryz.isAgg386
 z64:=Tryz.sizeOf386
 v64:=Tryz.zeroValue386 }
open Go.RowKit Go.Maps Go.Sort in
theorem Tryz.ajo(m:Nat):AnyZ.SortsIn bk Tryz.abu Fence.wide m:=
  ⟨λgM off cap ss W hH q_ h_=>callsIn_wide.2 (AnyM.slices_Sort_string Tryz.abj gM off cap ss W hH q_ h_),
   λp cap W=>callsIn_wide.2 (AnyM.slices_Sort_string_none Tryz.abj p cap W)⟩
end Go.Proofs
set_option maxRecDepth 100000
namespace Go.Proofs.YtogbenbghgjbiaaGreatDoor.O
open Go Go.RowKit Go.lG Go.EV
def zvl{a b:List aj}(h:a.Perm b):a.mergeSort (λx y=>decide (x<=y))=b.mergeSort (λx y=>decide (x<=y)):=by
 have tr:∀x y z:aj,decide (x<=y)=bh->decide (y<=z)=bh->decide (x<=z)=bh:=λx y z h1 h2=>by simp only[aU]at *;exact List.le_trans h1 h2
 have toZ:∀x y:aj,(decide (x<=y)||decide (y<=x))=bh:=λx y=>by simp only[Bool.or_eq_true,aU];exact List.le_total x y
 have h1:=gO tr toZ a;have h2:=gO tr toZ b;refine List.Perm.eq_of_pairwise (le:=λx y=>decide (x<=y)=bh) (λx y _ _ hx hy=>?_) h1 h2 ((fU a _).trans (h.trans (fU b _).symm));simp only[aU]at hx hy;exact List.le_antisymm hx hy
def zE6{α:Type}{enc:α->List bx}{encV:α->List V}{e k:Nat}{l:List α}{m:M}{Z:ZM}{w w':World}{v:bx}(hk:∀a,(encV a).length=k)(tT:∀Z a,zC bg Z (encV a) (enc a))(hf:∀a x,Z a=aY x->w.cell? a=aY x)
  (hb:Below w.heap.size w w') (h:Go.World.ownsRow w' w.heap.size e k v l.length (l.map enc).flatten):∃Z',Step m Z [] w m Z' [] w'/\aT (aY m) Z' (.vs k (l.map encV)) v:=by
 obtain⟨B1,Jg⟩:=h
 rcases Jg with⟨rfl,h0⟩|⟨g,cap,cur,rfl,hg,hgc,hc,tf,h_,B9⟩
 .have:l=[]:=List.eq_nil_of_length_eq_zero h0;subst this;exact⟨Z,Vd hf hb,bg,0,rfl,al,cH _,.inl rfl⟩
 .let Z':ZM:=λa=>if a.block=g/\a.spot=bg/\a.off<l.length*k then w'.cell? a else Z a
  have ib:∀a x,Z a=aY x->a.block≠g:=λa x ha hab=>by have:=xv hf ha;omega
  have gy:=Vd (m:=m) hf hb
  have hlen:∀a,(enc a).length=k:=λa=>by rw[(tT Z a).length,hk]
  refine⟨Z',⟨⟨λa x ha=>?_,λp hp=>(by cases hp),List.nodup_nil,λp hp=>(by cases hp)⟩,λ_ _ _ h=>h,λa x ha=>?_,hb.os,hb.tape,hb.output,hb.size,λb mf _=>hb.block b mf,λ_ h=>h,λ_ _=>rfl,λp hp=>(by cases hp),λa x ha=>?_⟩,?_⟩
  .show w'.cell? a=aY x
   have w_:(if a.block=g/\a.spot=bg/\a.off<l.length*k then w'.cell? a else Z a)=aY x:=ha;split at w_
   .exact w_
   .exact gy.iW.frozen a x w_
  .show(if a.block=g/\a.spot=bg/\a.off<l.length*k then w'.cell? a else Z a)=aY x
   rw[aN (λh=>ib a x ha h.1)];exact ha
  .have w_:(if a.block=g/\a.spot=bg/\a.off<l.length*k then w'.cell? a else Z a)=aY x:=ha;split at w_
   .rename_i pc;rw[pc.1];exact .inr (.inl hg)
   .exact .inl w_
  .refine⟨aY ⟨g,0,bg⟩,cap,ae,by simpa using hc,tf,?_⟩;by_cases hl:l=[]
   .left;simp[hl]
   .refine .inr ⟨⟨g,0,bg⟩,rfl,xq.po λi cs hi=>?_⟩;rw[cz]at hi;obtain⟨a,ha,rfl⟩:=Option.map_eq_some_iff.1 hi;have pf:i<l.length:=(bq.1 ha).1;refine⟨hk a,qV.po λj v hj=>?_⟩
    have B3:j<k:=by rw[<- hk a];exact(bq.1 hj).1
    obtain⟨u,hu,hru⟩:=(tT Z' a).get hj;refine⟨u,?_,hru⟩
    have tR:i*k+j<l.length*k:=by have:(i+1)*k<=l.length*k:=ck k pf;rw[Nat.succ_mul]at this;omega
    rw[cl,cl,Addr.add_lit,Addr.add_lit,cl]
    show(if _/\_/\_ then w'.cell? ⟨g,i*k+j,bg⟩else _)=aY u
    rw[aO ⟨rfl,rfl,tR⟩,cell_of_row w' g _ cur e (0,0) hgc]
    have e1:cur[i*k+j]?=(cur.toList.take (l.length*k))[i*k+j]?:=by rw[List.getElem?_take,aO tR];simp
    rw[e1,B9];exact zpt (λx hx=>by obtain⟨b,_,rfl⟩:=List.mem_map.1 hx;exact hlen b) (m:=i) (x:=enc a) (by rw[cz,ha];rfl) hu
def ze7(l:List (aj×Bool))(h:(l.map (·.1)).Nodup/\(∀k∈l.map (·.1),k.length<=9223372036854775807)/\l.length*16<=140737488355328):
  mz bk 180 [.fn 231 [] [.ptr 1000000 0 0]] [(1000000,.box 88 [.mp 1000001]),(1000001,.map (jC V.str V.bool l))] (.vs 1 (cQ EV.encS (kI l))) [(1000000,.box 88 [.mp 1000001]),(1000001,.map (jC V.str V.bool l))]:=by
 obtain⟨nI,nu,h_⟩:=h;intro w m Z vals hs hv Nu;obtain⟨x,xs,rfl,⟨l1,l2,rfl,h1,y,ys,rfl,⟨f,⟨b0,c0⟩,e1,rR,rfl⟩,h2⟩,h3⟩:=hv;cases h1;cases h2;cases h3;cases e1;obtain⟨ajH,cur,d1,d2,d3,_⟩:=hs.holds _ ak;rw[d1]at rR;cases rR;obtain⟨v,t,e1,⟨f2,⟨b,c1⟩,e2,hb,rfl⟩,e3⟩:=d3;cases e2;obtain⟨b',es,clock,g1,g2,g3,g4,g5,_⟩:=hs.holds _ (iO _ ak);rw[g1]at hb;cases hb
 have U4:Tryz.prog.underlying 9=aY .string:=by kernel_rfl
 have U3:Tryz.prog.underlying 4=aY .bool:=by kernel_rfl
 -- the entries, one by one
 have hes:∀(l:List (aj×Bool))(es:List MapEntry),(∀k∈l.map (·.1),k.length<=9223372036854775807)->s4 Z (jC V.str V.bool l) es ->
   es.length=l.length/\es.map (·.key)=l.map (λp=>.string ⟨p.1.toArray⟩)/\∀x∈es,∃k q,x.key=.string ⟨(k:aj).toArray⟩/\k.length<=9223372036854775807/\x.val=.bool q:=by
  intro l
  induction l with
  |nil=>intro es _ h;cases h;exact⟨rfl,rfl,λx hx=>by cases hx⟩
  |cons p l ih =>
   intro es hk h;obtain⟨x,CI,rfl,l6,my,nt⟩:=h;obtain⟨i1,i2,i3⟩:=ih CI (λk mu=>hk k (iO _ mu)) nt;refine⟨by simp[i1],by simp only[ij,i2];rw[show x.key=.string ⟨p.1.toArray⟩ from l6],λy hy=>?_⟩
   rcases bu.1 hy with rfl|hy
   .exact⟨p.1,p.2,l6,hk _ ak,my⟩
   .exact i3 y hy
 obtain⟨i1,i2,i3⟩:=hes l es.toList nu g3
 have Jn:es.size=l.length:=by simpa using i1
 have ny:Go.World.ownsMap (H:=Unit) w bk 9 (Go.plainElem bk 4) b es.size (.map ((es.toList.map (Go.WideElems.rg (H:=Unit) bk 9 (Go.plainElem bk 4))).foldr DataW.insert [])):=by
  refine⟨es,clock,g2,⟨by rw[Jn];simp only[maxLen];omega,⟨g5,?_,?_⟩,λx hx=>?_⟩,al,rfl⟩
  .rw[lg,gG]
   exact g4.imp λh=>Nat.ne_of_lt h
  .rw[i2,lg,gG];rw[lg,gG]at nI
   exact nI.imp λh e=>h (by simpa using e)
  .obtain⟨kk,q,e1,e2,e3⟩:=i3 x hx;refine⟨(.string kk,.lit (.bool q)),?_⟩;unfold Go.WideElems.rd;rw[e1,e3,Go.WideMaps.keyOf_string_mk U4 (by show kk.toArray.size<=_;simpa[maxLen]using e2),plainElem_bool U3];simp
 have hrg:∀x∈es.toList,∃k q,x.key=.string ⟨(k:aj).toArray⟩/\Go.WideElems.rg (H:=Unit) bk 9 (Go.plainElem bk 4) x=(.string k,.lit (.bool q)):=λx hx=>by obtain⟨kk,q,e1,e2,e3⟩:=i3 x hx;refine⟨kk,q,e1,?_⟩;unfold Go.WideElems.rg Go.WideElems.rd;rw[e1,e3,Go.WideMaps.keyOf_string_mk U4 (by show kk.toArray.size<=_;simpa[maxLen]using e2),plainElem_bool U3];simp
 have AU:(Go.strKeys (H:=Unit) (.map ((es.toList.map (Go.WideElems.rg (H:=Unit) bk 9 (Go.plainElem bk 4))).foldr DataW.insert []))).Perm (l.map (·.1)):=by
  show(cQ (λp:Lit×DataW Unit=>Go.strOf p.1) _).Perm _
  refine((Go.WideShapes.sorted_perm _).map _).trans (List.Perm.of_eq ?_);rw[List.map_map]
  have h1:∀(es:List MapEntry)(l:List (aj×Bool)),es.map (·.key)=l.map (λp=>.string ⟨p.1.toArray⟩)->(∀x∈es,∃k q,x.key=.string ⟨(k:aj).toArray⟩/\Go.WideElems.rg (H:=Unit) bk 9 (Go.plainElem bk 4) x=(.string k,.lit (.bool q))) ->
    es.map ((λp=>Go.strOf p.1) ∘ Go.WideElems.rg (H:=Unit) bk 9 (Go.plainElem bk 4))=l.map (·.1):=by
   intro es
   induction es with
   |nil=>intro l h _;cases l with|nil=>rfl|cons=>simp at h
   |cons x es ih =>
    intro l h hx
    cases l with
    |nil=>simp at h
    |cons p l =>
     simp only[ij,List.cons.injEq]at h;obtain⟨kk,q,e1,e2⟩:=hx x ak;rw[ij,ij,ih l h.2 λy hy=>hx y (iO _ hy)]
     congr 1
     show Go.strOf (Go.WideElems.rg (H:=Unit) bk 9 (Go.plainElem bk 4) x).1=p.1
     rw[e2]
     show kk=p.1
     have:=e1.symm.trans h.1;simpa using this
  exact h1 _ _ i2 hrg
 have hle:=ny.size_le
 have Cy:Go.Maps.size (H:=Unit) (.map ((es.toList.map (Go.WideElems.rg (H:=Unit) bk 9 (Go.plainElem bk 4))).foldr DataW.insert []))<=maxLen:=by refine Nat.le_trans hle ?_;rw[Jn];simp only[maxLen];omega
 have ai6:Go.Maps.size (H:=Unit) (.map ((es.toList.map (Go.WideElems.rg (H:=Unit) bk 9 (Go.plainElem bk 4))).foldr DataW.insert []))*16<=140737488355328:=by have:=ck 16 hle;rw[Jn]at this;omega
 have pj:w.cell? ⟨b0,0,bg⟩=aY (.map (aY b)):=by
  rw[cell_of_row w b0 0 cur _ _ d2];have h0:cur[0]?=cur.toList[0]?:=ae;rw[h0]
  first|(rw[e1];rfl)|(simp_all)
 have afX:Go.SeqGives Fence.wide 2 bk 231 #[.pointer (aY ⟨b0,0,bg⟩)] encStr (λss=>ss.Perm (Go.strKeys (H:=Unit) (.map ((es.toList.map (Go.WideElems.rg (H:=Unit) bk 9 (Go.plainElem bk 4))).foldr DataW.insert [])))) _ w:=AnyZ.keys_gives (ρ:=Tryz.abn) { Tryz.ajj with } Fence.wide _ trivial rfl ab b0 b es.size _ w (Array.getElem?_eq_some_iff.1 d2).1 pj ny;have Tw:=AnyZ.sorted_in Tryz.ajp Fence.wide 5 trivial trivial trivial trivial rfl ab (Tryz.ajo _) (enters_of Tryz.func230 (by kernel_rfl) rfl) 231 #[.pointer (aY ⟨b0,0,bg⟩)] trivial (enters_of Tryz.func231 (by kernel_rfl) rfl) _ _ Cy ai6 w afX;refine((callsIn_wide (n:=5)).1 Tw).mono ?_;rintro en w' ⟨v,ss,rfl,hp,Jg,_,afy⟩;have U1:(ss.mergeSort λx y=>decide (x<=y))=kI l:=zvl (hp.trans AU);rw[U1]at Jg
 have hlen:ss.length=(kI l).length:=by rw[<- U1];exact(List.length_mergeSort ss).symm
 rw[hlen]at Jg
 have Ty:∀q:List aj,(q.map λs=>[encStr s]).flatten=q.map encStr:=λq=>by
  induction q with
  |nil=>rfl
  |cons a q ih=>simp[ih]
 obtain⟨Z',gy,tT⟩:=zE6 (enc:=λs=>[encStr s]) (encV:=EV.encS) (e:=9) (k:=1) (l:=kI l) (m:=m) (Z:=Z) (w:=w) (w':=w') (v:=v) (λ_=>rfl) (λ_ s=>⟨_,[],rfl,rfl,rfl⟩) hs.frozen afy (by rw[Ty];exact Jg);refine⟨v,m,Z',rfl,?_,tT⟩
 exact Step.Bk (F:=[]) (F':=[]) hs gy λp hp=>by cases hp
variable[Fuel]
def ahk:zb bk 27:=zd kr
def FB:Di bk 9 V.str (λs:aj=>Value.string ⟨s.toArray⟩):=YS kr
def zIm:zb bk 179:=zd kr
def zIn:zb bk 181:=zd kr
def zIo:zb bk 180:=zd kr
def zIp:zb bk 228:=zd kr
def zIq:zb bk 111:=zd kr
def M1:Tryz.prog.follows .mixedOrders=bh:=by kernel_rfl
def ahl:zb bk 28:=zd kr
def zIr:zb bk 289:=zd kr
def zIs:zb bk 260:=zd kr
def zIt:zb bk 232:=zd kr
def zIu:zb bk 261:=zd kr
def zIv:zb bk 233:=zd kr
def zIw:zb bk 182:=zd kr
def zIx:zb bk 112:=zd kr
def Xe:zb bk 234:=zd kr
def zIy:zb bk 183:=zd kr
def zIz:zb bk 113:=zd kr
def ahm:zb bk 29:=zd kr
def zI0:zb bk 115:=zd kr
def zI1:zb bk 184:=zd kr
def zI2:zb bk 114:=zd kr
def ahn:zb bk 30:=zd kr
def ach(r:(List Sr))(hs:vz =aY r):mz bk 27 [] [] (.vs 1 (mS r)) []:=by
 refine yo (N:=2) Tryz.func27 rfl rfl rfl λmT=>?_
 unfold vz at hs;refine vX (ρ':=[]) rfl rfl ?_;refine vS (vT (oR 1 [(0,.gg)] kr ?_));refine oN (nT (vS (vT (j3 2 [(0,.sl 1 1 9 0 9),(1,.sl 1 1 9 0 9)] [(1,.row 9 1 0 (mS LM))] kr ?_))));refine oN (nT (ry _ [(1,.row 9 1 (((mS LM)).length) (mS LM))] (j8 (F:=[(1,.row 9 1 0 (mS LM))]) [1] rfl kr kr) ?_));refine ry ((0,.vs 1 (mS [Ee,LN,LO,LP,LQ,LR,LS,LU,LV]))::_) _ (jd (R:=[(1,.row 9 1 (((mS [Ee,LN,LO,LP,LQ,LR,LS,LU,LV])).length) (mS [Ee,LN,LO,LP,LQ,LR,LS,LU,LV]))]) (ks:=[1]) kr kr (.row (t:=9) (fz:=(((mS [Ee,LN,LO,LP,LQ,LR,LS,LU,LV])).length)) kr lh)) ?_;refine vc ?_;cases hs;exact yf kr kr kr
def zay(e:Expr)(r:Int×Int×Sr×Sr×(List Expr))(hs:kJ e=aY r):mz bk 179 [.agg (zY e)] [] (.fn 228 [] [.ptr 1 0 0]) [(1,.box 34 [.int .i64 r.1,.int .i64 r.2.1,.str r.2.2.1,.str r.2.2.2.1,.vs 5 (zo r.2.2.2.2)])]:=by
 refine yo (N:=4) Tryz.func179 rfl rfl rfl λmT=>?_
 unfold kJ at hs;refine vX (ρ':=[(0,.agg (zY e))]) rfl rfl ?_;refine vS (vT (j3 2 [(2,.nd),(1,.ptr 1 0 0)] [(1,.box 34 (zY e))] kr ?_));refine oN (nT (vS (vT (oR 2 [(2,.fn 228 [] [.ptr 1 0 0]),(3,.fn 228 [] [.ptr 1 0 0])] kr ?_))));refine oN (nT (vc ?_));cases hs;exact yf kr kr kr
def zlp(m_:(List (Sr×Bool)))(r:Unit)(hs:AW m_=aY r):mz bk 181 [.mp 1000000] [(1000000,.map (jC V.str V.bool m_))] (.fn 231 [] [.ptr 1 0 0]) [(1,.box 88 [.mp 1000000]),(1000000,.map (jC V.str V.bool m_))]:=by
 refine yo (N:=4) Tryz.func181 rfl rfl rfl λmT=>?_
 unfold AW at hs;refine vX (ρ':=[(0,.mp 1000000)]) rfl rfl ?_;refine vS (vT (j3 2 [(2,.nd),(1,.ptr 1 0 0)] [(1,.box 88 [.mp 1000000]),(1000000,.map (jC V.str V.bool m_))] kr ?_));refine oN (nT (vS (vT (oR 2 [(2,.fn 231 [] [.ptr 1 0 0]),(3,.fn 231 [] [.ptr 1 0 0])] kr ?_))));refine oN (nT (vc ?_));cases hs;exact yf kr kr kr
def zaz(e:Expr)(r:(List Sr))(hs:wP e=aY r):mz bk 111 [.agg (zY e)] [] (.vs 1 (mS r)) []:=by
 refine yo (N:=14) Tryz.func111 rfl rfl rfl λmT=>?_
 unfold wP at hs;refine vX (ρ':=[(0,.agg (zY e))]) rfl rfl ?_;refine vS (vT (j3 2 [(2,.gg),(1,.ptr 1 0 0)] [(1,.box 34 (zY e))] kr ?_));refine oN (nT (vS (vT (j3 3 [(3,.ptr 3 0 0),(5,.mp 5)] [(3,.box 88 [.mp 5]),(5,.map (jC V.str V.bool [])),(1,.box 34 (zY e))] kr ?_))));refine oN (nT (vS (vS (vT (oR 1 [(6,.agg (zY e))] kr ?_)))));obtain⟨y1,c1,hs⟩:=bS hs;refine vw (F:=[]) (F':=[(3000700,.box 34 [.int .i64 y1.1,.int .i64 y1.2.1,.str y1.2.2.1,.str y1.2.2.2.1,.vs 5 (zo y1.2.2.2.2)])]) (v:=.fn 228 [] [.ptr 3000700 0 0]) [] kr kr rfl kr (Wz (R:=[]) [.agg (zY e)] [(1,3000700)] (zP zIm kr) (zay e _ c1) (.cons (.same _) (.nil)) kr kr kr kr kr kr kr kr) kr ?_;refine oN (nT ?_);obtain⟨z1,hs,l6⟩:=bS hs;refine xE (S:=(List (Sr×Bool))) (λu=>u=z1) (λu=>[(3,.ptr 3 0 0)]) (λu=>[(3,.box 88 [.mp 5]),(5,.map (jC V.str V.bool u))]) ?_ (λv1 hz=>?_)
 .refine vB (ry [(3,.ptr 3 0 0),(7,.fn 228 [] [.ptr 3000700 0 0])] [(3000700,.box 34 [.int .i64 y1.1,.int .i64 y1.2.1,.str y1.2.2.1,.str y1.2.2.2.1,.vs 5 (zo y1.2.2.2.2)]),(3,.box 88 [.mp 5]),(5,.map (jC V.str V.bool []))] (zm [3,7] [3000700,3,5] kr kr kr) ?_);refine zyr (Sg:=(List (Sr×Bool))) (enc:=V.str) (val:=(λs:Sr=>Value.string ⟨s.toArray⟩)) (caps:=[.ptr 3000700 0 0]) (F:=[(3000700,.box 34 [.int .i64 y1.1,.int .i64 y1.2.1,.str y1.2.2.1,.str y1.2.2.2.1,.vs 5 (zo y1.2.2.2.2)])]) [3000700] (λu=>[(3000700,.box 34 [.int .i64 y1.1,.int .i64 y1.2.1,.str y1.2.2.1,.str y1.2.2.2.1,.vs 5 (zo y1.2.2.2.2)]),(3,.box 88 [.mp 5]),(5,.map (jC V.str V.bool u))]) yL [] kr zIp (zqv 3000700 (Expr.mk y1.1 y1.2.1 y1.2.2.1 y1.2.2.2.1 y1.2.2.2.2)) kr kr (λ_ _ _=>rfl) hs (λ_=>by kernel_rfl) kr (λlR1 x1 VP q1 cR1 hs=>?_) (λq1 hs=>?_)
  .rw[yL]at hs
   show l9 cR1 bk (aY lR1) 14 _ _ [(4,.str x1),(8,.str x1),(3,.ptr 3 0 0),(7,.fn 228 [] [.ptr 3000700 0 0])] [(3000700,.box 34 [.int .i64 y1.1,.int .i64 y1.2.1,.str y1.2.2.1,.str y1.2.2.2.1,.vs 5 (zo y1.2.2.2.2)]),(3,.box 88 [.mp 5]),(5,.map (jC V.str V.bool q1))] []
   refine vB (vT (oR 2 [(10,.str x1),(9,.mp 5)] kr ?_));refine vw (F:=[(5,.map (jC V.str V.bool q1))]) (F':=[(5,.map (jC V.str V.bool (vW x1 bh q1)))]) (v:=.no) [5] kr kr rfl kr (jH (et:=4) (f:=V.str) (g:=V.bool) (l:=q1) (a:=x1) (c:=bh) kr FB kr kr kr kr kr) kr ?_;refine oN (nB (ztf (vW x1 bh q1) hs ?_));exact zm [] [3000700,3,5] kr kr kr
  .rw[yL]at hs;refine nB ?_;obtain rfl:=si hs;refine zq q1 rfl ?_;exact zm [3] [3,5] kr kr kr
 .subst hz;clear hs;have hs:=l6;clear l6;refine nT (vS (vT (oR 1 [(11,.mp 5)] kr ?_)));obtain⟨y2,c2,hs⟩:=bS hs;refine vw (F:=[(5,.map (jC V.str V.bool v1))]) (F':=[(3001200,.box 88 [.mp 5]),(5,.map (jC V.str V.bool v1))]) (v:=.fn 231 [] [.ptr 3001200 0 0]) [5] kr kr rfl kr (Wz (R:=[]) [.mp 5] [(1000000,5),(1,3001200)] (zP zIn kr) (zlp v1 _ c2) (.cons (.same _) (.nil)) kr kr kr kr kr kr kr kr) kr ?_;obtain⟨_,g1,hs⟩:=bS hs;replace g1:=yY g1;refine vw (F:=[(3001200,.box 88 [.mp 5]),(5,.map (jC V.str V.bool v1))]) (F':=[(3001200,.box 88 [.mp 5]),(5,.map (jC V.str V.bool v1))]) (v:=.vs 1 (mS (kI v1))) [3001200,5] kr kr rfl kr (Wz (R:=[]) [.fn 231 [] [.ptr 3001200 0 0]] [(1000000,3001200),(1000001,5)] (zP zIo kr) (ze7 v1 g1) (.cons (.same _) .nil) kr kr kr kr kr kr kr kr) kr ?_;refine oR 1 [(2,.vs 1 (mS (kI v1)))] kr ?_;refine oN (nT (vc ?_));cases hs;exact yf kr kr kr
def aci(l:(List Def))(r:(List Def)×(List (List Int)))(hs:xR l=aY r):mz bk 28 [.vs 6 (mM ze l)] [] (.ptr 31 0 0) [(31,.box 196 [.vs 6 (mM ze r.1),.vs 1 (cQ (Bc 1 EV.encI) r.2)])]:=by
 refine yo (N:=73) Tryz.func28 rfl rfl rfl λmT=>?_
 unfold xR at hs;refine vX (ρ':=[(0,.vs 6 (mM ze l))]) rfl rfl ?_;refine vS (vT (oR 1 [(2,.mx)] kr ?_));refine oN (nT (vS (vT (j3 2 [(3,.mp 13),(13,.mp 13)] [(13,.map (jC V.str (V.int .i64) []))] kr ?_))));refine oN (nT (vS (vS (vT (oR 1 [(14,.vs 6 (mM ze l))] kr ?_)))));refine oP (v:=.int .i64 (ba l:Int)) kr kr (yz (sz:=6) (els:=(mM ze l)) kr kr lM) ?_;refine oR 1 [(16,.int .i64 0)] kr ?_;refine oN (nT ?_);obtain⟨z1,hs,l6⟩:=bS hs;refine xE (S:=(List (Sr×Int))) (λu=>u=z1) (λu=>[(0,.vs 6 (mM ze l)),(3,.mp 13)]) (λu=>[(13,.map (jC V.str (V.int .i64) u))]) ?_ (λv1 hz=>?_)
 .refine vB ?_;refine j4 (S:=Int×(List (Sr×Int))) (λu=>[(0,.vs 6 (mM ze l)),(3,.mp 13),(14,.vs 6 (mM ze l)),(15,.int .i64 (ba l:Int)),(16,.int .i64 u.1)]) (λu=>[(13,.map (jC V.str (V.int .i64) u.2))]) (zV l) (λ_=>rfl) KK (0,[]) hs (zm [0,3,14,15,16] [13] kr kr kr) (λK1 q1 hs=>?_);rw[zV]at hs
  show l9 mT bk bg 73 _ _ [(0,.vs 6 (mM ze l)),(3,.mp 13),(14,.vs 6 (mM ze l)),(15,.int .i64 (ba l:Int)),(16,.int .i64 q1.1)] [(13,.map (jC V.str (V.int .i64) q1.2))] []
  refine vS (vT (oR 1 [(17,.bool (decide (q1.1<(ba l:Int))))] kr ?_));refine oN (nT (vS ?_));refine yy (decide (q1.1<(ba l:Int))) kr (λh1=>?_) (λh1=>?_)
  .replace hs:=xg h1 hs;refine vK (nT (vS (vB (vS (vT (oR 1 [(18,.int .i64 q1.1)] kr ?_))))));obtain⟨x1,g1,hs⟩:=bS hs;obtain⟨rD,ta,sL⟩:=yJ g1;refine oP (v:=.vp (ze x1) 0) kr kr (zM (e:=68) (sz:=6) (k:=.i64) (els:=(mM ze l)) (cs:=(ze x1)) kr kr kr rD (by rw[sL];exact yI _ ab)) ?_;refine j3 4 [(4,.int .i64 q1.1),(5,.ptr 5 0 0),(20,.agg (ze x1))] [(5,.box 68 [.str x1.aK,.int .i64 x1.Body.Op,.int .i64 x1.Body.N,.str x1.Body.S,.str x1.Body.Key,.vs 5 (zo x1.Body.aH)]),(13,.map (jC V.str (V.int .i64) q1.2))] kr ?_;refine oN (nT (vT (oR 4 [(24,.int .i64 q1.1),(23,.str x1.aK),(22,.ptr 5 0 0),(21,.mp 13)] kr ?_)));refine vw (F:=[(13,.map (jC V.str (V.int .i64) q1.2))]) (F':=[(13,.map (jC V.str (V.int .i64) (vW x1.aK q1.1 q1.2)))]) (v:=.no) [13] kr kr rfl kr (jH (et:=3) (f:=V.str) (g:=(V.int .i64)) (l:=q1.2) (a:=x1.aK) (c:=q1.1) kr FB kr kr kr kr kr) kr ?_;refine oN (nB (nT (vT (oR 2 [(16,.int .i64 (aD (q1.1+1))),(25,.int .i64 (aD (q1.1+1)))] kr ?_))));refine oN (xn ((aD (q1.1+1)),(vW x1.aK q1.1 q1.2)) hs ?_);exact zm [0,3,14,15,16] [13] kr kr kr
  .replace hs:=xh h1 hs;refine kN (yx (yV ?_));refine yU ?_;obtain rfl:=si hs;refine zq q1.2 rfl ?_;exact zm [0,3] [13] kr kr kr
 .subst hz;clear hs;have hs:=l6;clear l6;refine nT (vS (vT (oR 2 [(27,.vs 6 (mM ze l)),(26,.vs 6 (mM ze l))] kr ?_)));refine oP (v:=.int .i64 (ba l:Int)) kr kr (yz (sz:=6) (els:=(mM ze l)) kr kr lM) ?_;obtain⟨⟨t_,CK,BX⟩,hs⟩:=bG hs;refine vw (F:=[]) (F':=[(29,.nest 53 3 1 bg (Hs EV.encI (bp (bj (ba l:Int)) ([]:List Int))))]) (v:=.sl 1 29 0 0 (ba (bp (bj (ba l:Int)) ([]:List Int)))) [] kr kr rfl kr (zee EV.encI (d:=29) (e:=53) (e2:=3) (sz2:=1) (bytes:=24) (L:=(ba (bp (bj (ba l:Int)) ([]:List Int)))) (q:=(ba l:Int)) (k:=.i64) (k2:=.i64) kr kr kr kr t_ CK BX (eL ..) kr) kr ?_;refine j3 3 [(6,.ptr 31 0 0),(31,.ptr 31 0 0),(30,.agg [.vs 6 (mM ze l),.sl 1 29 0 0 (ba (bp (bj (ba l:Int)) ([]:List Int)))])] [(31,.box 196 [.vs 6 (mM ze l),.sl 1 29 0 0 (ba (bp (bj (ba l:Int)) ([]:List Int)))]),(29,.nest 53 3 1 bg (Hs EV.encI (bp (bj (ba l:Int)) ([]:List Int)))),(13,.map (jC V.str (V.int .i64) v1))] kr ?_;refine oN (nT (vS (vS (vT (oR 1 [(32,.vs 6 (mM ze l))] kr ?_)))));refine oP (v:=.int .i64 (ba l:Int)) kr kr (yz (sz:=6) (els:=(mM ze l)) kr kr lM) ?_;refine oR 1 [(34,.int .i64 0)] kr ?_;refine oN (nT ?_);obtain⟨z2,hs,my⟩:=bS hs;refine xE (S:=(List (List Int))) (λu=>u=z2) (λu=>[(6,.ptr 31 0 0)]) (λu=>[(31,.box 196 [.vs 6 (mM ze l),.sl 1 29 0 0 (ba u)]),(29,.nest 53 3 1 bg (Hs EV.encI u))]) ?_ (λv2 hz=>?_)
  .refine vB ?_;refine j4 (S:=Int×(List (List Int))) (λu=>[(3,.mp 13),(6,.ptr 31 0 0),(32,.vs 6 (mM ze l)),(33,.int .i64 (ba l:Int)),(34,.int .i64 u.1)]) (λu=>[(31,.box 196 [.vs 6 (mM ze l),.sl 1 29 0 0 (ba u.2)]),(29,.nest 53 3 1 bg (Hs EV.encI u.2)),(13,.map (jC V.str (V.int .i64) v1))]) (yq l v1) (λ_=>rfl) KK (0,(bp (bj (ba l:Int)) ([]:List Int))) hs (zm [3,6,32,33,34] [31,29,13] kr kr kr) (λK2 q2 hs=>?_);rw[yq]at hs
   show l9 mT bk bg 73 _ _ [(3,.mp 13),(6,.ptr 31 0 0),(32,.vs 6 (mM ze l)),(33,.int .i64 (ba l:Int)),(34,.int .i64 q2.1)] [(31,.box 196 [.vs 6 (mM ze l),.sl 1 29 0 0 (ba q2.2)]),(29,.nest 53 3 1 bg (Hs EV.encI q2.2)),(13,.map (jC V.str (V.int .i64) v1))] []
   refine vS (vT (oR 1 [(35,.bool (decide (q2.1<(ba l:Int))))] kr ?_));refine oN (nT (vS ?_));refine yy (decide (q2.1<(ba l:Int))) kr (λh2=>?_) (λh2=>?_)
   .replace hs:=xg h2 hs;refine vK (nT (vS (vB (vS (vT (oR 1 [(36,.int .i64 q2.1)] kr ?_))))));obtain⟨x2,g3,hs⟩:=bS hs;obtain⟨DH,GD,GF⟩:=yJ g3;refine oP (v:=.vp (ze x2) 0) kr kr (zM (e:=68) (sz:=6) (k:=.i64) (els:=(mM ze l)) (cs:=(ze x2)) kr kr kr DH (by rw[GF];exact yI _ ab)) ?_;refine j3 4 [(7,.int .i64 q2.1),(8,.ptr 8 0 0),(38,.agg (ze x2))] [(8,.box 68 [.str x2.aK,.int .i64 x2.Body.Op,.int .i64 x2.Body.N,.str x2.Body.S,.str x2.Body.Key,.vs 5 (zo x2.Body.aH)]),(31,.box 196 [.vs 6 (mM ze l),.sl 1 29 0 0 (ba q2.2)]),(29,.nest 53 3 1 bg (Hs EV.encI q2.2)),(13,.map (jC V.str (V.int .i64) v1))] kr ?_;refine oN (nT (vS (vT (oR 2 [(40,.agg (zY x2.Body)),(39,.ptr 8 0 1)] kr ?_))));obtain⟨y1,c1,hs⟩:=bS hs;refine oP (v:=.vs 1 (mS y1)) kr kr (vx (zP zIq kr) (zaz x2.Body _ c1) kr) ?_;refine oP (v:=.int .i64 (ba y1:Int)) kr kr (yz (sz:=1) (els:=(mS y1)) kr kr lM) ?_;refine oR 1 [(43,.int .i64 0)] kr ?_;refine oN (nT ?_);obtain⟨z3,hs,nt⟩:=bS hs;refine xE (S:=(List (List Int))) (λu=>u=z3) (λu=>[(3,.mp 13),(6,.ptr 31 0 0),(32,.vs 6 (mM ze l)),(33,.int .i64 (ba l:Int)),(34,.int .i64 q2.1)]) (λu=>[(31,.box 196 [.vs 6 (mM ze l),.sl 1 29 0 0 (ba u)]),(29,.nest 53 3 1 bg (Hs EV.encI u)),(13,.map (jC V.str (V.int .i64) v1))]) ?_ (λv3 hz=>?_)
    .refine vB ?_;refine j4 (S:=Int×(List (List Int))) (λu=>[(3,.mp 13),(6,.ptr 31 0 0),(7,.int .i64 q2.1),(32,.vs 6 (mM ze l)),(33,.int .i64 (ba l:Int)),(34,.int .i64 q2.1),(41,.vs 1 (mS y1)),(42,.int .i64 (ba y1:Int)),(43,.int .i64 u.1)]) (λu=>[(31,.box 196 [.vs 6 (mM ze l),.sl 1 29 0 0 (ba u.2)]),(29,.nest 53 3 1 bg (Hs EV.encI u.2)),(13,.map (jC V.str (V.int .i64) v1))]) (zW v1 y1 q2) (λ_=>rfl) KK (0,q2.2) hs (zm [3,6,7,32,33,34,41,42,43] [31,29,13] kr kr kr) (λK3 q3 hs=>?_);rw[zW]at hs
     show l9 mT bk bg 73 _ _ [(3,.mp 13),(6,.ptr 31 0 0),(7,.int .i64 q2.1),(32,.vs 6 (mM ze l)),(33,.int .i64 (ba l:Int)),(34,.int .i64 q2.1),(41,.vs 1 (mS y1)),(42,.int .i64 (ba y1:Int)),(43,.int .i64 q3.1)] [(31,.box 196 [.vs 6 (mM ze l),.sl 1 29 0 0 (ba q3.2)]),(29,.nest 53 3 1 bg (Hs EV.encI q3.2)),(13,.map (jC V.str (V.int .i64) v1))] []
     refine vS (vT (oR 1 [(44,.bool (decide (q3.1<(ba y1:Int))))] kr ?_));refine oN (nT (vS ?_));refine yy (decide (q3.1<(ba y1:Int))) kr (λh3=>?_) (λh3=>?_)
     .replace hs:=xg h3 hs;refine vK (nT (vS (vB (vS (vT ?_)))));obtain⟨x3,g4,hs⟩:=bS hs;obtain⟨DJ,Oa,DK⟩:=yJ g4;refine oP (v:=.vp [.str x3] 0) kr kr (zM (e:=9) (sz:=1) (k:=.i64) (els:=(mS y1)) (cs:=(EV.encS x3)) kr kr kr DJ (by rw[DK];exact yI _ ab)) ?_;refine oR 2 [(10,.str x3),(46,.str x3)] kr ?_;refine oN (nT (vS (vT (oR 2 [(49,.str x3),(48,.mp 13)] kr ?_))));refine vw (F:=[(13,.map (jC V.str (V.int .i64) v1))]) (F':=[(13,.map (jC V.str (V.int .i64) v1))]) (v:=.iN [.int .i64 (cR (zr x3 v1) 0),.bool (eK (zr x3 v1))]) [13] kr kr rfl kr (Vb (et:=3) (f:=V.str) (g:=(V.int .i64)) (l:=v1) (a:=x3) (z:=0) (zv:=.int .i64 0) bh kr FB kr (λ_ _ _ h=>h) kr kr) kr ?_;refine oR 5 [(12,.bool (eK (zr x3 v1))),(11,.int .i64 (cR (zr x3 v1) 0)),(52,.bool (eK (zr x3 v1))),(51,.int .i64 (cR (zr x3 v1) 0)),(47,.iN [.int .i64 (cR (zr x3 v1) 0),.bool (eK (zr x3 v1))])] kr ?_;refine oN (nT (vS (vT (oR 1 [(53,.bool (eK (zr x3 v1)))] kr ?_))));refine oN (nT ?_);obtain⟨z4,hs,sA⟩:=bS hs;refine xE (S:=(List (List Int))) (λu=>u=z4) (λu=>[(3,.mp 13),(6,.ptr 31 0 0),(7,.int .i64 q2.1),(32,.vs 6 (mM ze l)),(33,.int .i64 (ba l:Int)),(34,.int .i64 q2.1),(41,.vs 1 (mS y1)),(42,.int .i64 (ba y1:Int)),(43,.int .i64 q3.1)]) (λu=>[(29,.nest 53 3 1 bg (Hs EV.encI u)),(13,.map (jC V.str (V.int .i64) v1)),(31,.box 196 [.vs 6 (mM ze l),.sl 1 29 0 0 (ba u)])]) ?_ (λv4 hz=>?_)
      .refine yy (eK (zr x3 v1)) kr (λh4=>?_) (λh4=>?_)
       .replace hs:=xg h4 hs;refine IG M1 kr ?_;refine vG 10 0 [(63,.int .i64 q2.1),(62,.sl 1 29 0 0 (ba q3.2)),(61,.ptr 31 0 1),(60,.ptr 31 0 0),(59,.ptr 31 0 0),(58,.int .i64 q2.1),(57,.sl 1 29 0 0 (ba q3.2)),(56,.ptr 31 0 1),(55,.ptr 31 0 0),(54,.ptr 31 0 0)] [.m 9 [] [],.m 8 [] [31],.m 7 [] [],.m 6 [] [],.m 5 [] [],.m 4 [] [],.m 3 [] [31],.m 2 [] [],.m 1 [] [],.m 0 [] []] kr kr ?_;obtain⟨⟨DL,GG⟩,hs⟩:=bG hs;refine Kj (v:=.ptr 29 0 ((bj q2.1)*1+0)) 10 rfl rfl rfl rfl kr kr (yR (e:=53) (sz:=1) (kk:=29) (L:=0) (n:=(ba q3.2)) (k:=.i64) (i:=q2.1) kr kr kr DL GG) ?_;obtain⟨e1,DU,hs⟩:=bE hs;refine Bz (F:=[]) (R:=[(29,.nest 53 3 1 bg (Hs EV.encI q3.2))]) (F':=[]) (v:=CN 1 29 (bj q2.1) (mI e1)) 11 [] [29] rfl rfl rfl rfl kr kr kr kr kr kr kr kr (zef EV.encI (et:=53) (e2:=3) (sz2:=1) (k:=29) (i:=(bj q2.1)) (p:=q3.2) (l:=e1) kr ab DU kr) ?_;refine zHn 2 12 [(67,.sl 1 67 1 0 1),(66,.int .i64 (cR (zr x3 v1) 0))] [(67,.row 3 1 0 (mI [(cR (zr x3 v1) 0)])),(13,.map (jC V.str (V.int .i64) v1)),(31,.box 196 [.vs 6 (mM ze l),.sl 1 29 0 0 (ba q3.2)]),(29,.nest 53 3 1 bg (Hs EV.encI q3.2))] [.m 13 [67] [],.m 12 [] []] kr kr ?_;obtain⟨_,g6,hs⟩:=bS hs;replace g6:=yY g6;refine Bz (F:=[(29,.nest 53 3 1 bg (Hs EV.encI q3.2))]) (R:=[(67,.row 3 1 0 (mI [(cR (zr x3 v1) 0)]))]) (F':=[(29,.nest 53 3 1 (aY (bj q2.1)) (Hs EV.encI (cD q3.2 (bj q2.1) (e1++[(cR (zr x3 v1) 0)]))))]) (v:=.sl 1 29 (code (bj q2.1) (ba (e1++[(cR (zr x3 v1) 0)]))) 0 (ba (e1++[(cR (zr x3 v1) 0)]))) 14 [29] [67] rfl rfl rfl rfl kr kr kr kr kr kr kr kr (ac6 EV.encI (et:=53) (e:=3) (sz:=1) (bytes:=8) (k:=29) (i:=(bj q2.1)) (n:=(ba (e1++[(cR (zr x3 v1) 0)]))) (p:=q3.2) (l:=e1) (ys:=[(cR (zr x3 v1) 0)]) kr kr ab (by assumption) (.sl (t:=3) (fz:=0) (ys:=(mI [(cR (zr x3 v1) 0)])) kr kr) (JJ EV.encI (λ_=>rfl) _) (JK EV.encI (λ_=>rfl) _) kr kr rfl g6 ab) ?_;obtain⟨⟨GI,Lh⟩,hs⟩:=bG hs;refine Kj (v:=.ptr 29 0 ((bj q2.1)*1+0)) 15 rfl rfl rfl rfl kr kr (yR (e:=53) (sz:=1) (kk:=29) (L:=0) (n:=(ba q3.2)) (k:=.i64) (i:=q2.1) kr kr kr GI Lh) ?_;refine Bz (F:=[(29,.nest 53 3 1 (aY (bj q2.1)) (Hs EV.encI (cD q3.2 (bj q2.1) (e1++[(cR (zr x3 v1) 0)]))))]) (R:=[]) (F':=[(29,.nest 53 3 1 bg (Hs EV.encI (cD q3.2 (bj q2.1) (e1++[(cR (zr x3 v1) 0)]))))]) (v:=.no) 16 [29] [] rfl rfl rfl rfl kr kr kr kr kr kr kr kr (zau EV.encI (et:=53) (e:=3) (sz:=1) (k:=29) (i:=(bj q2.1)) (n:=(ba (e1++[(cR (zr x3 v1) 0)]))) (p:=q3.2) (l:=(e1++[(cR (zr x3 v1) 0)])) kr (by first|omega|(simp only[cb,zX];omega)) kr rfl ae kr) ?_;refine By kr ?_;obtain rfl:=si hs;refine zq (cD q3.2 (bj q2.1) (e1++[(cR (zr x3 v1) 0)])) rfl ?_;exact Cut.trans (W8 (H1:=[(29,.nest 53 3 1 bg (Hs EV.encI (cD q3.2 (bj q2.1) (e1++[(cR (zr x3 v1) 0)])))),(67,.row 3 1 0 (mI [(cR (zr x3 v1) 0)])),(13,.map (jC V.str (V.int .i64) v1)),(31,.box 196 [.vs 6 (mM ze l),.sl 1 29 0 0 (ba q3.2)])]) rfl kr) (Cut.trans (W8 (H1:=[(29,.nest 53 3 1 bg (Hs EV.encI (cD q3.2 (bj q2.1) (e1++[(cR (zr x3 v1) 0)])))),(67,.row 3 1 0 (mI [(cR (zr x3 v1) 0)])),(13,.map (jC V.str (V.int .i64) v1)),(31,.box 196 [.vs 6 (mM ze l),.sl 1 29 0 0 (ba (cD q3.2 (bj q2.1) (e1++[(cR (zr x3 v1) 0)])))])]) rfl (by first|(simp only[cb,zX];done)|rfl)) (zm [3,6,7,32,33,34,41,42,43] [29,13,31] kr kr kr))
       .replace hs:=xh h4 hs;refine vK ?_;obtain rfl:=si hs;refine zq q3.2 rfl ?_;exact zm [3,6,7,32,33,34,41,42,43] [29,13,31] kr kr kr
      .subst hz;clear hs;have hs:=sA;clear sA;refine nB (nT (vT (oR 2 [(43,.int .i64 (aD (q3.1+1))),(70,.int .i64 (aD (q3.1+1)))] kr ?_)));refine oN (xn ((aD (q3.1+1)),v4) hs ?_);exact zm [3,6,7,32,33,34,41,42,43] [31,29,13] kr kr kr
     .replace hs:=xh h3 hs;refine kN (yx (yV ?_));refine yU ?_;obtain rfl:=si hs;refine zq q3.2 rfl ?_;exact zm [3,6,32,33,34] [31,29,13] kr kr kr
    .subst hz;clear hs;have hs:=nt;clear nt;refine nB (nT (vT (oR 2 [(34,.int .i64 (aD (q2.1+1))),(71,.int .i64 (aD (q2.1+1)))] kr ?_)));refine oN (xn ((aD (q2.1+1)),v3) hs ?_);exact zm [3,6,32,33,34] [31,29,13] kr kr kr
   .replace hs:=xh h2 hs;refine kN (yx (yV ?_));refine yU ?_;obtain rfl:=si hs;refine zq q2.2 rfl ?_;exact zm [6] [31,29] kr kr kr
  .subst hz;clear hs;have hs:=my;clear my;refine nT (vS (vT (oR 2 [(2,.ptr 31 0 0),(72,.ptr 31 0 0)] kr ?_)));refine oN (nT (ry _ [(29,.nest 53 3 1 (aY 0) []),(31,.box 196 [.vs 6 (mM ze l),.vs 1 (lH v2)])] (zys (k:=29) (t:=53) (e:=3) (sz:=1) (n:=(ba v2)) (kb:=31) (tb:=196) (ls:=Hs EV.encI v2) (cs:=[.vs 6 (mM ze l),.sl 1 29 0 0 (ba v2)]) (cs':=[.vs 6 (mM ze l),.vs 1 (lH v2)]) kr kr (.same (.nest (znj EV.encI v2) (zp9 EV.encI 1 v2) (.nil))) kr) ?_));refine vc ?_;cases hs;exact yf kr kr kr
def zif(x:Int)(y:Int)(r:Int×Int)(hs:HW x y=aY r):mz bk 289 [.int .u64 x,.int .u64 y] [] (.iN [.int .u64 r.1,.int .u64 r.2]) []:=by
 refine yo (N:=51) Tryz.func289 rfl rfl rfl λmT=>?_
 unfold HW at hs;refine vX (ρ':=[(0,.int .u64 x),(1,.int .u64 y)]) rfl rfl ?_;refine vS (vT (oR 2 [(5,.int .u64 0),(4,.int .u64 0)] kr ?_));refine oN (nT (vS (vT (oR 3 [(6,.int .u64 (uL x)),(15,.int .u64 (uL x)),(14,.int .u64 x)] kr ?_))));refine oN (nT (vS (vT (oR 3 [(7,.int .u64 (uH x)),(17,.int .u64 (uH x)),(16,.int .u64 x)] kr ?_))));refine oN (nT (vS (vT (oR 3 [(8,.int .u64 (uL y)),(19,.int .u64 (uL y)),(18,.int .u64 y)] kr ?_))));refine oN (nT (vS (vT (oR 3 [(9,.int .u64 (uH y)),(21,.int .u64 (uH y)),(20,.int .u64 y)] kr ?_))));refine oN (nT (vS (vT (oR 4 [(10,.int .u64 (uw ((uL x)*(uL y)))),(24,.int .u64 (uw ((uL x)*(uL y)))),(23,.int .u64 (uL y)),(22,.int .u64 (uL x))] kr ?_))));refine oN (nT (vS (vT (oR 7 [(11,.int .u64 (uw ((uw ((uH x)*(uL y)))+(cP (uw ((uL x)*(uL y))) (2 ^ (min (32:Int).toNat ub)))))),(30,.int .u64 (uw ((uw ((uH x)*(uL y)))+(cP (uw ((uL x)*(uL y))) (2 ^ (min (32:Int).toNat ub)))))),(29,.int .u64 (cP (uw ((uL x)*(uL y))) (2 ^ (min (32:Int).toNat ub)))),(28,.int .u64 (uw ((uL x)*(uL y)))),(27,.int .u64 (uw ((uH x)*(uL y)))),(26,.int .u64 (uL y)),(25,.int .u64 (uH x))] kr ?_))));refine oN (nT (vS (vT (oR 3 [(12,.int .u64 (uw ((cg ub (uw ((uw ((uH x)*(uL y)))+(cP (uw ((uL x)*(uL y))) (2 ^ (min (32:Int).toNat ub))))) &&& cg ub 4294967295).toNat:Int))),(32,.int .u64 (uw ((cg ub (uw ((uw ((uH x)*(uL y)))+(cP (uw ((uL x)*(uL y))) (2 ^ (min (32:Int).toNat ub))))) &&& cg ub 4294967295).toNat:Int))),(31,.int .u64 (uw ((uw ((uH x)*(uL y)))+(cP (uw ((uL x)*(uL y))) (2 ^ (min (32:Int).toNat ub))))))] kr ?_))));refine oN (nT (vS (vT (oR 3 [(13,.int .u64 (cP (uw ((uw ((uH x)*(uL y)))+(cP (uw ((uL x)*(uL y))) (2 ^ (min (32:Int).toNat ub))))) (2 ^ (min (32:Int).toNat ub)))),(34,.int .u64 (cP (uw ((uw ((uH x)*(uL y)))+(cP (uw ((uL x)*(uL y))) (2 ^ (min (32:Int).toNat ub))))) (2 ^ (min (32:Int).toNat ub)))),(33,.int .u64 (uw ((uw ((uH x)*(uL y)))+(cP (uw ((uL x)*(uL y))) (2 ^ (min (32:Int).toNat ub))))))] kr ?_))));refine oN (nT (vS (vT (oR 6 [(12,.int .u64 (uw ((uw ((cg ub (uw ((uw ((uH x)*(uL y)))+(cP (uw ((uL x)*(uL y))) (2 ^ (min (32:Int).toNat ub))))) &&& cg ub 4294967295).toNat:Int))+(uw ((uL x)*(uH y)))))),(39,.int .u64 (uw ((uw ((cg ub (uw ((uw ((uH x)*(uL y)))+(cP (uw ((uL x)*(uL y))) (2 ^ (min (32:Int).toNat ub))))) &&& cg ub 4294967295).toNat:Int))+(uw ((uL x)*(uH y)))))),(38,.int .u64 (uw ((uL x)*(uH y)))),(37,.int .u64 (uH y)),(36,.int .u64 (uL x)),(35,.int .u64 (uw ((cg ub (uw ((uw ((uH x)*(uL y)))+(cP (uw ((uL x)*(uL y))) (2 ^ (min (32:Int).toNat ub))))) &&& cg ub 4294967295).toNat:Int)))] kr ?_))));refine oN (nT (vS (vT (oR 9 [(4,.int .u64 (uw ((uw ((uw ((uH x)*(uH y)))+(cP (uw ((uw ((uH x)*(uL y)))+(cP (uw ((uL x)*(uL y))) (2 ^ (min (32:Int).toNat ub))))) (2 ^ (min (32:Int).toNat ub)))))+(cP (uw ((uw ((cg ub (uw ((uw ((uH x)*(uL y)))+(cP (uw ((uL x)*(uL y))) (2 ^ (min (32:Int).toNat ub))))) &&& cg ub 4294967295).toNat:Int))+(uw ((uL x)*(uH y))))) (2 ^ (min (32:Int).toNat ub)))))),(47,.int .u64 (uw ((uw ((uw ((uH x)*(uH y)))+(cP (uw ((uw ((uH x)*(uL y)))+(cP (uw ((uL x)*(uL y))) (2 ^ (min (32:Int).toNat ub))))) (2 ^ (min (32:Int).toNat ub)))))+(cP (uw ((uw ((cg ub (uw ((uw ((uH x)*(uL y)))+(cP (uw ((uL x)*(uL y))) (2 ^ (min (32:Int).toNat ub))))) &&& cg ub 4294967295).toNat:Int))+(uw ((uL x)*(uH y))))) (2 ^ (min (32:Int).toNat ub)))))),(46,.int .u64 (cP (uw ((uw ((cg ub (uw ((uw ((uH x)*(uL y)))+(cP (uw ((uL x)*(uL y))) (2 ^ (min (32:Int).toNat ub))))) &&& cg ub 4294967295).toNat:Int))+(uw ((uL x)*(uH y))))) (2 ^ (min (32:Int).toNat ub)))),(45,.int .u64 (uw ((uw ((cg ub (uw ((uw ((uH x)*(uL y)))+(cP (uw ((uL x)*(uL y))) (2 ^ (min (32:Int).toNat ub))))) &&& cg ub 4294967295).toNat:Int))+(uw ((uL x)*(uH y)))))),(44,.int .u64 (uw ((uw ((uH x)*(uH y)))+(cP (uw ((uw ((uH x)*(uL y)))+(cP (uw ((uL x)*(uL y))) (2 ^ (min (32:Int).toNat ub))))) (2 ^ (min (32:Int).toNat ub)))))),(43,.int .u64 (cP (uw ((uw ((uH x)*(uL y)))+(cP (uw ((uL x)*(uL y))) (2 ^ (min (32:Int).toNat ub))))) (2 ^ (min (32:Int).toNat ub)))),(42,.int .u64 (uw ((uH x)*(uH y)))),(41,.int .u64 (uH y)),(40,.int .u64 (uH x))] kr ?_))))
 refine oN (nT (vS (vT (oR 4 [(5,.int .u64 (uw (x*y))),(50,.int .u64 (uw (x*y))),(49,.int .u64 y),(48,.int .u64 x)] kr ?_))));refine oN (nT (vc ?_));cases hs;exact yf kr kr kr
def zqy(x:Int)(y:Int)(r:Int×Int)(hs:VF x y=aY r):mz bk 260 [.int .u64 x,.int .u64 y] [] (.iN [.int .u64 r.1,.int .u64 r.2]) []:=by
 refine yo (N:=30) Tryz.func260 rfl rfl rfl λmT=>?_
 unfold VF at hs;refine vX (ρ':=[(0,.int .u64 x),(1,.int .u64 y)]) rfl rfl ?_;refine vS (vT (oR 2 [(5,.int .u64 0),(4,.int .u64 0)] kr ?_));refine oN (nT (vS (zyc kr ?_)));refine vK (nT (vS (vT (oR 2 [(24,.int .u64 y),(23,.int .u64 x)] kr ?_))));obtain⟨y1,c1,hs⟩:=bS hs;refine oP (v:=.iN [.int .u64 y1.1,.int .u64 y1.2]) kr kr (vx (zP zIr kr) (zif x y _ c1) kr) ?_;refine oR 5 [(9,.int .u64 y1.2),(8,.int .u64 y1.1),(27,.int .u64 y1.2),(26,.int .u64 y1.1),(22,.iN [.int .u64 y1.1,.int .u64 y1.2])] kr ?_;refine oN (nT (vS (vT (oR 4 [(5,.int .u64 y1.2),(4,.int .u64 y1.1),(29,.int .u64 y1.2),(28,.int .u64 y1.1)] kr ?_))));refine oN (nT (vc ?_));cases hs;exact yf kr kr kr
def ada(x:(List Int))(count:Int)(r:(List Int))(hs:vh x count=aY r):mz bk 232 [.vs 1 (mI x),.int .i64 count] [] (.sl 1 30 ((r).length) 0 ((r).length)) [(30,.row 3 1 0 (mI r))]:=by
 refine yo (N:=48) Tryz.func232 rfl rfl rfl λmT=>?_
 unfold vh at hs;refine vX (ρ':=[(0,.vs 1 (mI x)),(1,.int .i64 count)]) rfl rfl ?_;refine vS (vT (oR 1 [(4,.gg)] kr ?_));refine oN (nT (vS (vS (vT (oR 2 [(10,.bool (decide (count<0))),(9,.int .i64 count)] kr ?_)))));refine oN (nT ?_);refine yy (decide (count<0)) kr (λh1=>?_) (λh1=>?_)
 .replace hs:=xg h1 hs;cases hs
 .replace hs:=xh h1 hs;refine vK (nT (vS (vT (oR 1 [(13,.vs 1 (mI x))] kr ?_))));refine oP (v:=.int .i64 (ba x:Int)) kr kr (yz (sz:=1) (els:=(mI x)) kr kr lM) ?_;refine oR 3 [(17,.int .u64 (uw (count))),(16,.int .i64 count),(15,.int .u64 (uw ((ba x:Int))))] kr ?_;obtain⟨y1,c1,hs⟩:=bS hs;refine oP (v:=.iN [.int .u64 y1.1,.int .u64 y1.2]) kr kr (vx (zP zIs kr) (zqy (uw ((ba x:Int))) (uw (count)) _ c1) kr) ?_;refine oR 5 [(6,.int .u64 y1.2),(5,.int .u64 y1.1),(20,.int .u64 y1.2),(19,.int .u64 y1.1),(12,.iN [.int .u64 y1.1,.int .u64 y1.2])] kr ?_;refine oN (nT (vS (vS ?_)));obtain⟨z1,hs,l6⟩:=bS hs;refine xE (S:=Bool) (λu=>u=z1) (λu=>[(0,.vs 1 (mI x)),(6,.int .u64 y1.2),(26,.bool u)]) (λu=>[]) ?_ (λv1 hz=>?_)
  .refine vT (oR 3 [(23,.bool (decide (y1.1>0))),(22,.bool (decide (y1.1>0))),(21,.int .u64 y1.1)] kr ?_);cases h2:((decide (y1.1>0)))
   .replace hs:=xh h2 hs;refine oR 3 [(26,.bool (decide (y1.2>9223372036854775807))),(25,.bool (decide (y1.2>9223372036854775807))),(24,.int .u64 y1.2)] kr ?_;refine oN ?_;obtain rfl:=si hs;refine zq (decide (y1.2>9223372036854775807)) rfl ?_;exact zm [0,6,26] [] kr kr kr
   .replace hs:=xg h2 hs;refine oR 3 [(26,.bool bh),(25,.no),(24,.no)] kr ?_;refine oN ?_;cases hs;refine zq bh rfl ?_;exact zm [0,6,26] [] kr kr kr
  .subst hz;clear hs;have hs:=l6;clear l6;refine nT ?_;refine yy v1 kr (λh3=>?_) (λh3=>?_)
   .replace hs:=xg h3 hs;cases hs
   .replace hs:=xh h3 hs;refine vK (nT (vS (vT (oR 2 [(29,.int .i64 (aD (y1.2))),(28,.int .u64 y1.2)] kr ?_))));obtain⟨⟨rD,ta,sL⟩,hs⟩:=bG hs;refine vw (F:=[]) (F':=[(30,.row 3 1 0 (mI (bp (bj (aD (y1.2))) (0:Int))))]) (v:=.sl 1 30 (((bp (bj (aD (y1.2))) (0:Int))).length) 0 (((bp (bj (aD (y1.2))) (0:Int))).length)) [] kr kr rfl kr (oK (L:=((bp (bj (aD (y1.2))) (0:Int))).length) (e:=3) (sz:=1) (bytes:=8) (q:=(aD (y1.2))) (k:=.i64) (k2:=.i64) (cs:=[.int .i64 0]) (cs2:=[.int .i64 0]) kr kr kr kr kr rD ta sL (fg (f:=EV.encI)).symm (eL ..) (λ_ _ h=>h)) kr ?_;refine oR 1 [(7,.sl 1 30 (((bp (bj (aD (y1.2))) (0:Int))).length) 0 (((bp (bj (aD (y1.2))) (0:Int))).length))] kr ?_;refine oN (nT (vS (vT (oR 2 [(32,.vs 1 (mI x)),(31,.sl 1 30 (((bp (bj (aD (y1.2))) (0:Int))).length) 0 (((bp (bj (aD (y1.2))) (0:Int))).length))] kr ?_))));refine vw (F:=[(30,.row 3 1 0 (mI (bp (bj (aD (y1.2))) (0:Int))))]) (F':=[(30,.row 3 1 0 (mI (sF (bp (bj (aD (y1.2))) (0:Int)) 0 (dF (min (ba x) (((bp (bj (aD (y1.2))) (0:Int))).length)) x))))]) (v:=.int .i64 (((min (ba x) (((bp (bj (aD (y1.2))) (0:Int))).length)):Nat):Int)) [30] kr kr rfl kr (ztk EV.encI (e:=3) (sz:=1) (bytes:=8) (k:=30) (L:=(((bp (bj (aD (y1.2))) (0:Int))).length)) (o:=0) (n:=(((bp (bj (aD (y1.2))) (0:Int))).length)) (c:=(min (ba x) (((bp (bj (aD (y1.2))) (0:Int))).length))) (q:=(bp (bj (aD (y1.2))) (0:Int))) (ys:=x) kr kr (by first|rfl|simp only[cb,zX]) ab (by have:=Src.vs (sz:=1) (R:=[]) (mI x);exact this) (λ_=>rfl) (λ_=>rfl) kr rfl rfl) kr ?_;refine oR 1 [(8,.int .i64 (((min (ba x) (((bp (bj (aD (y1.2))) (0:Int))).length)):Nat):Int))] kr ?_;refine oN (nT (vS ?_));obtain⟨z2,hs,my⟩:=bS hs;refine xE (S:=(List Int)) (λu=>u=z2) (λu=>[(7,.sl 1 30 ((u).length) 0 ((u).length))]) (λu=>[(30,.row 3 1 0 (mI u))]) ?_ (λv2 hz=>?_)
    .refine vB ?_;refine j4 (S:=Int×(List Int)) (λu=>[(7,.sl 1 30 ((u.2).length) 0 ((u.2).length)),(8,.int .i64 u.1)]) (λu=>[(30,.row 3 1 0 (mI u.2))]) wV (λ_=>rfl) KK ((((min (ba x) (((bp (bj (aD (y1.2))) (0:Int))).length)):Nat):Int),(sF (bp (bj (aD (y1.2))) (0:Int)) 0 (dF (min (ba x) (((bp (bj (aD (y1.2))) (0:Int))).length)) x))) hs (Cut.trans (FR 7 (v:=.sl 1 30 (((bp (bj (aD (y1.2))) (0:Int))).length) 0 (((bp (bj (aD (y1.2))) (0:Int))).length)) (v':=.sl 1 30 (((sF (bp (bj (aD (y1.2))) (0:Int)) 0 (dF (min (ba x) (((bp (bj (aD (y1.2))) (0:Int))).length)) x))).length) 0 (((sF (bp (bj (aD (y1.2))) (0:Int)) 0 (dF (min (ba x) (((bp (bj (aD (y1.2))) (0:Int))).length)) x))).length)) kr (by first|rfl|simp only[cb,zX])) (zm [7,8] [30] kr kr kr)) (λK1 q1 hs=>?_);rw[wV]at hs
     show l9 mT bk bg 48 _ _ [(7,.sl 1 30 ((q1.2).length) 0 ((q1.2).length)),(8,.int .i64 q1.1)] [(30,.row 3 1 0 (mI q1.2))] []
     refine vS (vS (vT (oR 4 [(37,.bool (decide (q1.1<((q1.2).length:Int)))),(36,.int .i64 ((q1.2).length:Int)),(35,.sl 1 30 ((q1.2).length) 0 ((q1.2).length)),(34,.int .i64 q1.1)] kr ?_)));refine oN (nT ?_);refine yy (decide (q1.1<((q1.2).length:Int))) kr (λh4=>?_) (λh4=>?_)
     .replace hs:=xg h4 hs;refine vK (nT (vB (IG M1 kr ?_)));refine vG 3 0 [(40,.int .i64 q1.1),(39,.sl 1 30 ((q1.2).length) 0 ((q1.2).length)),(38,.int .i64 q1.1)] (rJ 3 2) kr kr ?_;obtain⟨⟨t_,CK,BX⟩,hs⟩:=bG hs;refine Kj (v:=.sl 1 30 ((q1.2).length) (bj q1.1) (bj ((q1.2).length:Int)-bj q1.1)) 3 rfl rfl rfl rfl kr kr (AQ (e:=3) (sz:=1) (k:=30) (L:=((q1.2).length)) (n:=(q1.2).length) (l:=q1.1) (h:=((q1.2).length:Int)) kr kr ⟨.i64,by kernel_rfl⟩ rfl t_ CK BX) ?_;refine vG 2 4 [(43,.int .i64 q1.1),(42,.sl 1 30 ((q1.2).length) 0 ((q1.2).length))] (rJ 2 5) kr kr ?_;obtain⟨⟨DH,GD,GF⟩,hs⟩:=bG hs;refine Kj (v:=.sl 1 30 ((q1.2).length) (bj 0) (bj q1.1-bj 0)) 6 rfl rfl rfl rfl kr kr (AQ (e:=3) (sz:=1) (k:=30) (L:=((q1.2).length)) (n:=(q1.2).length) (l:=0) (h:=q1.1) kr kr rfl ⟨.i64,by kernel_rfl⟩ DH GD GF) ?_;refine Bz (F:=[(30,.row 3 1 0 (mI q1.2))]) (R:=[]) (F':=[(30,.row 3 1 0 (mI (sF q1.2 (bj q1.1) (dF (min (bj q1.1-bj 0) (bj ((q1.2).length:Int)-bj q1.1)) (dF (bj q1.1-bj 0) (dN (bj 0) q1.2))))))]) (v:=.int .i64 (((min (bj q1.1-bj 0) (bj ((q1.2).length:Int)-bj q1.1)):Nat):Int)) 7 [30] [] rfl rfl rfl rfl kr kr kr kr kr kr kr kr (zeg EV.encI (e:=3) (sz:=1) (bytes:=8) (k:=30) (L:=((q1.2).length)) (o:=(bj q1.1)) (n:=(bj ((q1.2).length:Int)-bj q1.1)) (o2:=(bj 0)) (n2:=(bj q1.1-bj 0)) (c:=(min (bj q1.1-bj 0) (bj ((q1.2).length:Int)-bj q1.1))) (q:=q1.2) kr kr kr (by first|rfl|simp only[cb,zX]) ab ab (λ_=>rfl) (λ_=>rfl) rfl rfl) ?_;refine vG 2 8 [(8,.int .i64 (aD (q1.1+(((min (bj q1.1-bj 0) (bj ((q1.2).length:Int)-bj q1.1)):Nat):Int)))),(46,.int .i64 (aD (q1.1+(((min (bj q1.1-bj 0) (bj ((q1.2).length:Int)-bj q1.1)):Nat):Int))))] (rJ 2 9) kr kr ?_;refine By kr ?_;refine nB (xn ((aD (q1.1+(((min (bj q1.1-bj 0) (bj ((q1.2).length:Int)-bj q1.1)):Nat):Int))),(sF q1.2 (bj q1.1) (dF (min (bj q1.1-bj 0) (bj ((q1.2).length:Int)-bj q1.1)) (dF (bj q1.1-bj 0) (dN (bj 0) q1.2))))) hs ?_);exact Cut.trans (FR 7 (v:=.sl 1 30 ((q1.2).length) 0 ((q1.2).length)) (v':=.sl 1 30 (((sF q1.2 (bj q1.1) (dF (min (bj q1.1-bj 0) (bj ((q1.2).length:Int)-bj q1.1)) (dF (bj q1.1-bj 0) (dN (bj 0) q1.2))))).length) 0 (((sF q1.2 (bj q1.1) (dF (min (bj q1.1-bj 0) (bj ((q1.2).length:Int)-bj q1.1)) (dF (bj q1.1-bj 0) (dN (bj 0) q1.2))))).length)) kr (by first|rfl|simp only[cb,zX])) (zm [7,8] [30] kr kr kr)
     .replace hs:=xh h4 hs;refine kN (yx (yV ?_));refine yU ?_;obtain rfl:=si hs;refine zq q1.2 rfl ?_;exact zm [7] [30] kr kr kr
    .subst hz;clear hs;have hs:=my;clear my;refine nT (vS (vT (oR 2 [(4,.sl 1 30 ((v2).length) 0 ((v2).length)),(47,.sl 1 30 ((v2).length) 0 ((v2).length))] kr ?_)));refine oN (nT (vc ?_));cases hs;exact yf kr kr kr
def za0(s:(List Int))(v:Int)(r:Int)(hs:yS s v=aY r):mz bk 261 [.vs 1 (mI s),.int .i64 v] [] (.int .i64 r) []:=by
 refine yo (N:=19) Tryz.func261 rfl rfl rfl λmT=>?_
 unfold yS at hs;refine vX (ρ':=[(0,.vs 1 (mI s)),(1,.int .i64 v)]) rfl rfl ?_;refine vS (vT (oR 1 [(4,.int .i64 0)] kr ?_));refine oN (nT (vS (vS (vT (oR 1 [(6,.vs 1 (mI s))] kr ?_)))));refine oP (v:=.int .i64 (ba s:Int)) kr kr (yz (sz:=1) (els:=(mI s)) kr kr lM) ?_;refine oR 1 [(8,.int .i64 0)] kr ?_;refine oN (nT ?_);obtain⟨z1,hs,l6⟩:=bS hs;refine xE (S:=Unit) (λu=>z1=.inr u) (λu=>[]) (λu=>[]) ?_ (λv1 hz=>?_)
 .refine vB ?_;refine j4 (S:=Int) (λu=>[(0,.vs 1 (mI s)),(1,.int .i64 v),(7,.int .i64 (ba s:Int)),(8,.int .i64 u)]) (λu=>[]) (zx s v) (λ_=>rfl) KK 0 hs (zm [0,1,7,8] [] kr kr kr) (λK1 q1 hs=>?_);rw[zx]at hs
  show l9 mT bk bg 19 _ _ [(0,.vs 1 (mI s)),(1,.int .i64 v),(7,.int .i64 (ba s:Int)),(8,.int .i64 q1)] [] []
  refine vS (vT (oR 1 [(9,.bool (decide (q1<(ba s:Int))))] kr ?_));refine oN (nT (vS ?_));refine yy (decide (q1<(ba s:Int))) kr (λh1=>?_) (λh1=>?_)
  .replace hs:=xg h1 hs;refine vK (nT (vS (vB (vS (vT (oR 2 [(5,.int .i64 q1),(10,.int .i64 q1)] kr ?_))))));refine oN (nT (vS (vT (oR 3 [(13,.int .i64 q1),(12,.vs 1 (mI s)),(11,.int .i64 v)] kr ?_))));obtain⟨x1,g1,hs⟩:=bS hs;obtain⟨rD,ta,sL⟩:=yJ g1;refine oP (v:=.vp [.int .i64 x1] 0) kr kr (zM (e:=3) (sz:=1) (k:=.i64) (els:=(mI s)) (cs:=(EV.encI x1)) kr kr kr rD (by rw[sL];exact yI _ ab)) ?_;refine oR 2 [(16,.bool (decide (v=x1))),(15,.int .i64 x1)] kr ?_;refine oN (nT ?_);refine yy (decide (v=x1)) kr (λh2=>?_) (λh2=>?_)
   .replace hs:=xg h2 hs;refine vS (vT (oR 2 [(4,.int .i64 q1),(17,.int .i64 q1)] kr ?_));refine oN (nT (vc (rB (rT (oq ?_)))));refine rB (AM ?_);refine rT ?_;obtain rfl:=si hs;replace hs:=l6;cases hs;exact yf kr kr kr
   .replace hs:=xh h2 hs;refine vK (nB (nT (vT (oR 2 [(8,.int .i64 (aD (q1+1))),(18,.int .i64 (aD (q1+1)))] kr ?_))));refine oN (xn (aD (q1+1)) hs ?_);exact zm [0,1,7,8] [] kr kr kr
  .replace hs:=xh h1 hs;refine kN (yx (yV ?_));refine yU ?_;cases hs;refine zq () rfl ?_;exact zm [] [] kr kr kr
 .subst hz;clear hs;have hs:=l6;clear l6;refine nT (vS (vT (oR 1 [(4,.int .i64 (-1))] kr ?_)));refine oN (nT (vc ?_));cases hs;exact yf kr kr kr
def acj(s:(List Int))(v:Int)(r:Bool)(hs:zU s v=aY r):mz bk 233 [.vs 1 (mI s),.int .i64 v] [] (.bool r) []:=by
 refine yo (N:=9) Tryz.func233 rfl rfl rfl λmT=>?_
 unfold zU at hs;refine vX (ρ':=[(0,.vs 1 (mI s)),(1,.int .i64 v)]) rfl rfl ?_;refine vS (vT (oR 1 [(4,.bool bf)] kr ?_));refine oN (nT (vS (vT (oR 2 [(6,.int .i64 v),(5,.vs 1 (mI s))] kr ?_))));obtain⟨y1,c1,hs⟩:=bS hs;refine oP (v:=.int .i64 y1) kr kr (vx (zP zIu kr) (za0 s v _ c1) kr) ?_;refine oR 2 [(4,.bool (decide (y1>=0))),(8,.bool (decide (y1>=0)))] kr ?_;refine oN (nT (vc ?_));cases hs;exact yf kr kr kr
def abx(gW:(List Def))(iy:(List (List Int)))(toZ:Int)(r:(List Int)×(List Def)×(List (List Int)))(hs:yA gW iy toZ=aY r):mz bk 182 [.ptr 1000000 0 0,.int .i64 toZ] [(1000000,.box 196 [.vs 6 (mM ze gW),.vs 1 (cQ (Bc 1 EV.encI) iy)])] (.vs 1 (mI r.1)) [(1000000,.box 196 [.vs 6 (mM ze r.2.1),.vs 1 (cQ (Bc 1 EV.encI) r.2.2)])]:=by
 refine yo (N:=64) Tryz.func182 rfl rfl rfl λmT=>?_
 unfold yA at hs;refine vX (ρ':=[(0,.ptr 1000000 0 0),(1,.int .i64 toZ)]) rfl rfl ?_;refine vS (vT (oR 1 [(4,.gg)] kr ?_));refine oN (nT (vS (vT (j3 5 [(14,.vs 6 (mM ze gW)),(13,.ptr 1000000 0 0),(12,.ptr 1000000 0 0),(11,.ptr 1000000 0 0),(10,.sl 1 10 1 0 1)] [(10,.row 3 1 0 (mI [(-1)])),(1000000,.box 196 [.vs 6 (mM ze gW),.vs 1 (lH iy)])] kr ?_))));refine oP (v:=.int .i64 (ba gW:Int)) kr kr (yz (sz:=6) (els:=(mM ze gW)) kr kr lM) ?_;obtain⟨y1,c1,hs⟩:=bS hs;refine aaQ _ [(10,.row 3 1 (((mI [(-1)])).length) (mI [(-1)])),(1000000,.box 196 [.vs 6 (mM ze gW),.vs 1 (lH iy)])] (j8 (F:=[(10,.row 3 1 0 (mI [(-1)]))]) [10] rfl kr kr) ?_;refine vw (F:=[(10,.row 3 1 (((mI [(-1)])).length) (mI [(-1)]))]) (F':=[(3001600,.row 3 1 0 (mI y1)),(10,.row 3 1 (((mI [(-1)])).length) (mI [(-1)]))]) (v:=.sl 1 3001600 ((y1).length) 0 ((y1).length)) [10] kr kr rfl kr (Wz (R:=[(10,.row 3 1 (((mI [(-1)])).length) (mI [(-1)]))]) [.sl 1 10 1 0 1,.int .i64 (ba gW:Int)] [(30,3001600)] (zP zIt kr) (ada [(-1)] (ba gW:Int) _ c1) (.cons (.row (t:=3) (fz:=(((mI [(-1)])).length)) kr lh) (.cons (.same _) (.nil))) kr kr kr kr kr kr kr kr) kr ?_;refine oR 1 [(5,.sl 1 3001600 ((y1).length) 0 ((y1).length))] kr ?_;refine oN (nT (vS (vT (oR 2 [(18,.int .i64 toZ),(17,.sl 1 3001600 ((y1).length) 0 ((y1).length))] kr ?_))));obtain⟨⟨rD,ta⟩,hs⟩:=bG hs;refine oP (v:=.ptr 3001600 ((y1).length) ((bj toZ)*1+0)) kr kr (yR (e:=3) (sz:=1) (kk:=3001600) (L:=(y1).length) (n:=(y1).length) (k:=.i64) (i:=toZ) kr kr kr rD ta) ?_;obtain⟨e1,DU,hs⟩:=bE hs;refine vw (F:=[(3001600,.row 3 1 0 (mI y1))]) (F':=[(3001600,.row 3 1 0 (mI (cD y1 (bj toZ) 0)))]) (v:=.no) [3001600] kr kr rfl kr (AO (L:=(y1).length) (off:=(bj toZ)*1+0) (els:=(mI y1)) (cs:=[.int .i64 e1]) (c':=[.int .i64 0]) (bj toZ) 0 kr lh rfl (by rw[<- DU];exact yI _ (by first|omega|(simp only[cb,zX];omega))) (by first|exact cH _|omega) kr kr kr kr kr kr List.map_set.symm) kr ?_;refine oN (nT (vS (vT (j3 3 [(6,.sl 1 21 1 0 1),(21,.sl 1 21 1 0 1),(20,.int .i64 toZ)] [(21,.row 3 1 0 (mI [toZ])),(3001600,.row 3 1 0 (mI (cD y1 (bj toZ) 0))),(10,.row 3 1 (((mI [(-1)])).length) (mI [(-1)])),(1000000,.box 196 [.vs 6 (mM ze gW),.vs 1 (lH iy)])] kr ?_))));refine oN (nT (vS ?_));obtain⟨z1,hs,l6⟩:=bS hs;refine xE (S:=(List Int)) (λu=>u=z1) (λu=>[(5,.sl 1 3001600 ((u).length) 0 ((u).length))]) (λu=>[(3001600,.row 3 1 0 (mI u)),(1000000,.box 196 [.vs 6 (mM ze gW),.vs 1 (lH iy)])]) ?_ (λv1 hz=>?_)
 .refine vB (ry _ [(21,.gen (mn 3 1 1 (mI [toZ]))),(3001600,.row 3 1 0 (mI (cD y1 (bj toZ) 0))),(10,.row 3 1 (((mI [(-1)])).length) (mI [(-1)])),(1000000,.box 196 [.vs 6 (mM ze gW),.vs 1 (lH iy)])] (zC4 6 21 (e:=3) (sz:=1) (n:=1) (els:=(mI [toZ])) kr kr (by first|rfl|simp) ae kr) ?_);refine j4 (S:=(List Int)×Nat×(List Int)) (λu=>[(0,.ptr 1000000 0 0),(5,.sl 1 3001600 ((u.2.2).length) 0 ((u.2.2).length)),(6,.gv 21 (qv bh 1 u.2.1 (ba u.1)))]) (λu=>[(21,.gen (mn 3 1 u.2.1 (mI u.1))),(3001600,.row 3 1 0 (mI u.2.2)),(1000000,.box 196 [.vs 6 (mM ze gW),.vs 1 (lH iy)])]) (zt iy) (λ_=>rfl) KK ([toZ],1,(cD y1 (bj toZ) 0)) hs (Cut.trans (FR 5 (v:=.sl 1 3001600 ((y1).length) 0 ((y1).length)) (v':=.sl 1 3001600 (((cD y1 (bj toZ) 0)).length) 0 (((cD y1 (bj toZ) 0)).length)) kr (by first|rfl|simp only[cb,zX])) (Cut.trans (FR 6 (v:=.gv 21 (qv bh 1 1 1)) (v':=.gv 21 (qv bh 1 1 (ba [toZ]))) kr (by first|rfl|simp only[cb,zX])) (zm [0,5,6] [21,3001600,1000000] kr kr kr))) (λK1 q1 hs=>?_);rw[zt]at hs
  show l9 mT bk bg 64 _ _ [(0,.ptr 1000000 0 0),(5,.sl 1 3001600 ((q1.2.2).length) 0 ((q1.2.2).length)),(6,.gv 21 (qv bh 1 q1.2.1 (ba q1.1)))] [(21,.gen (mn 3 1 q1.2.1 (mI q1.1))),(3001600,.row 3 1 0 (mI q1.2.2)),(1000000,.box 196 [.vs 6 (mM ze gW),.vs 1 (lH iy)])] []
  refine vS (vS (vT (oR 1 [(22,.gv 21 (qv bh 1 q1.2.1 (ba q1.1)))] kr ?_)));refine oP (v:=.int .i64 ((ba q1.1):Int)) kr kr (zyt (k:=21) (sz:=1) (ver:=q1.2.1) (n:=(ba q1.1)) kr kr) ?_;refine oR 1 [(24,.bool (decide (((ba q1.1):Int)>0)))] kr ?_;refine oN (nT ?_);refine yy (decide (((ba q1.1):Int)>0)) kr (λh1=>?_) (λh1=>?_)
  .replace hs:=xg h1 hs;refine vK (nT (vB (vS (vT (oR 1 [(25,.gv 21 (qv bh 1 q1.2.1 (ba q1.1)))] kr ?_)))));obtain⟨⟨t_,CK⟩,hs⟩:=bG hs;refine oP (v:=.gv 21 (qv bf 1 q1.2.1 ((bj 0)*1))) kr kr (zqa (e:=3) (sz:=1) (kk:=21) (ver:=q1.2.1) (n:=(ba q1.1)) (k:=.i64) (i:=0) kr kr kr t_ CK) ?_;obtain⟨e2,GW,hs⟩:=bE hs;refine vw (F:=[(21,.gen (mn 3 1 q1.2.1 (mI q1.1)))]) (F':=[(21,.gen (mn 3 1 q1.2.1 (mI q1.1)))]) (v:=.int .i64 e2) [21] kr kr rfl kr (zth (et:=3) (sz:=1) (k:=21) (ver:=q1.2.1) (n:=(bj 0)*1) (els:=(mI q1.1)) (cs:=[.int .i64 e2]) (bj 0) kr kr (by rw[<- GW];exact yI _ ab) kr) kr ?_;refine oR 1 [(7,.int .i64 e2)] kr ?_;refine oN (nT (vS (vT (oR 1 [(28,.gv 21 (qv bh 1 q1.2.1 (ba q1.1)))] kr ?_))));obtain⟨_,g3,hs⟩:=bS hs;replace g3:=yY g3;refine vw (F:=[(21,.gen (mn 3 1 q1.2.1 (mI q1.1)))]) (F':=[(21,.gen (mn 3 1 (q1.2.1+1) (mI (dN 1 q1.1))))]) (v:=.gv 21 (qv bh 1 (q1.2.1+1) (ba (dN 1 q1.1)))) [21] kr kr rfl kr (ztl EV.encI (e:=3) (et:=3) (sz:=1) (k:=21) (ver:=q1.2.1) (n:=(ba q1.1)) (p:=q1.1) (kk:=.i64) kr kr kr rfl g3 rfl) kr ?_;refine oR 1 [(6,.gv 21 (qv bh 1 (q1.2.1+1) (ba (dN 1 q1.1))))] kr ?_;refine oN (nT (vS (vT (oR 4 [(33,.vs 1 (lH iy)),(32,.ptr 1000000 0 1),(31,.ptr 1000000 0 0),(30,.ptr 1000000 0 0)] kr ?_))));refine oP (v:=.int .i64 (ba iy:Int)) kr kr (yz (sz:=1) (els:=(lH iy)) kr kr lM) ?_;refine oR 1 [(35,.int .i64 0)] kr ?_;refine oN (nT ?_);obtain⟨z2,hs,my⟩:=bS hs;refine xE (S:=(List Int)×Nat×(List Int)) (λu=>u=z2) (λu=>[(0,.ptr 1000000 0 0),(5,.sl 1 3001600 ((u.2.2).length) 0 ((u.2.2).length)),(6,.gv 21 (qv bh 1 u.2.1 (ba u.1)))]) (λu=>[(21,.gen (mn 3 1 u.2.1 (mI u.1))),(3001600,.row 3 1 0 (mI u.2.2)),(1000000,.box 196 [.vs 6 (mM ze gW),.vs 1 (lH iy)])]) ?_ (λv2 hz=>?_)
   .refine vB ?_;refine j4 (S:=Int×(List Int)×Nat×(List Int)) (λu=>[(0,.ptr 1000000 0 0),(5,.sl 1 3001600 ((u.2.2.2).length) 0 ((u.2.2.2).length)),(6,.gv 21 (qv bh 1 u.2.2.1 (ba u.2.1))),(7,.int .i64 e2),(33,.vs 1 (lH iy)),(34,.int .i64 (ba iy:Int)),(35,.int .i64 u.1)]) (λu=>[(21,.gen (mn 3 1 u.2.2.1 (mI u.2.1))),(3001600,.row 3 1 0 (mI u.2.2.2)),(1000000,.box 196 [.vs 6 (mM ze gW),.vs 1 (lH iy)])]) (zl iy e2) (λ_=>rfl) KK (0,(dN 1 q1.1),(q1.2.1+1),q1.2.2) hs (zm [0,5,6,7,33,34,35] [21,3001600,1000000] kr kr kr) (λK2 q2 hs=>?_);rw[zl]at hs
    show l9 mT bk bg 64 _ _ [(0,.ptr 1000000 0 0),(5,.sl 1 3001600 ((q2.2.2.2).length) 0 ((q2.2.2.2).length)),(6,.gv 21 (qv bh 1 q2.2.2.1 (ba q2.2.1))),(7,.int .i64 e2),(33,.vs 1 (lH iy)),(34,.int .i64 (ba iy:Int)),(35,.int .i64 q2.1)] [(21,.gen (mn 3 1 q2.2.2.1 (mI q2.2.1))),(3001600,.row 3 1 0 (mI q2.2.2.2)),(1000000,.box 196 [.vs 6 (mM ze gW),.vs 1 (lH iy)])] []
    refine vS (vT (oR 1 [(36,.bool (decide (q2.1<(ba iy:Int))))] kr ?_));refine oN (nT (vS ?_));refine yy (decide (q2.1<(ba iy:Int))) kr (λh2=>?_) (λh2=>?_)
    .replace hs:=xg h2 hs;refine vK (nT (vS (vB (vS (vT (oR 1 [(37,.int .i64 q2.1)] kr ?_))))));obtain⟨x1,g4,hs⟩:=bS hs;obtain⟨DJ,Oa,DK⟩:=yJ g4;refine oP (v:=.vp [.vs 1 (mI x1)] 0) kr kr (zM (e:=53) (sz:=1) (k:=.i64) (els:=(lH iy)) (cs:=(eI x1)) kr kr kr DJ (by rw[DK];exact yI _ ab)) ?_;refine oR 3 [(9,.vs 1 (mI x1)),(8,.int .i64 q2.1),(39,.vs 1 (mI x1))] kr ?_;refine oN (nT (vS ?_));obtain⟨z3,hs,nt⟩:=bS hs;refine xE (S:=Bool×(List Int)×Nat) (λu=>u=z3) (λu=>[(0,.ptr 1000000 0 0),(5,.sl 1 3001600 ((q2.2.2.2).length) 0 ((q2.2.2.2).length)),(6,.gv 21 (qv bh 1 u.2.2 (ba u.2.1))),(7,.int .i64 e2),(8,.int .i64 q2.1),(33,.vs 1 (lH iy)),(34,.int .i64 (ba iy:Int)),(35,.int .i64 q2.1),(49,.bool u.1)]) (λu=>[(3001600,.row 3 1 0 (mI q2.2.2.2)),(21,.gen (mn 3 1 u.2.2 (mI u.2.1))),(1000000,.box 196 [.vs 6 (mM ze gW),.vs 1 (lH iy)])]) ?_ (λv3 hz=>?_)
     .refine vT (oR 2 [(41,.int .i64 q2.1),(40,.sl 1 3001600 ((q2.2.2.2).length) 0 ((q2.2.2.2).length))] kr ?_);obtain⟨⟨DL,GG⟩,hs⟩:=bG hs;refine oP (v:=.ptr 3001600 ((q2.2.2.2).length) ((bj q2.1)*1+0)) kr kr (yR (e:=3) (sz:=1) (kk:=3001600) (L:=(q2.2.2.2).length) (n:=(q2.2.2.2).length) (k:=.i64) (i:=q2.1) kr kr kr DL GG) ?_;obtain⟨e3,he3,hs⟩:=bE hs;refine vw (F:=[(3001600,.row 3 1 0 (mI q2.2.2.2))]) (F':=[(3001600,.row 3 1 0 (mI q2.2.2.2))]) (v:=.int .i64 e3) [3001600] kr kr rfl kr (uI (L:=(q2.2.2.2).length) (off:=(bj q2.1)*1+0) (els:=(mI q2.2.2.2)) (cs:=[.int .i64 e3]) (bj q2.1) 0 kr lh rfl (by rw[<- he3];exact yI _ (by first|omega|(simp only[cb,zX];omega))) kr) kr ?_;refine oR 2 [(45,.bool (decide (e3<0))),(44,.bool (decide (e3<0)))] kr ?_;cases h3:((decide (e3<0)))
      .replace hs:=xh h3 hs;refine oR 4 [(49,.bool bf),(48,.no),(47,.no),(46,.no)] kr ?_;refine oN ?_;obtain rfl:=si hs;refine zq (bf,q2.2.1,q2.2.2.1) rfl ?_;exact zm [0,5,6,7,8,33,34,35,49] [3001600,21,1000000] kr kr kr
      .replace hs:=xg h3 hs;refine oR 2 [(47,.int .i64 e2),(46,.vs 1 (mI x1))] kr ?_;obtain⟨y2,c2,hs⟩:=bS hs;refine oP (v:=.bool y2) kr kr (vx (zP zIv kr) (acj x1 e2 _ c2) kr) ?_;refine oR 1 [(49,.bool y2)] kr ?_;refine oN ?_;obtain rfl:=si hs;refine zq (y2,q2.2.1,q2.2.2.1) rfl ?_;exact zm [0,5,6,7,8,33,34,35,49] [3001600,21,1000000] kr kr kr
     .subst hz;clear hs;have hs:=nt;clear nt;refine nT ?_;obtain⟨z4,hs,sA⟩:=bS hs;refine xE (S:=(List Int)×Nat×(List Int)) (λu=>u=z4) (λu=>[(0,.ptr 1000000 0 0),(5,.sl 1 3001600 ((u.2.2).length) 0 ((u.2.2).length)),(6,.gv 21 (qv bh 1 u.2.1 (ba u.1))),(7,.int .i64 e2),(33,.vs 1 (lH iy)),(34,.int .i64 (ba iy:Int)),(35,.int .i64 q2.1)]) (λu=>[(21,.gen (mn 3 1 u.2.1 (mI u.1))),(3001600,.row 3 1 0 (mI u.2.2)),(1000000,.box 196 [.vs 6 (mM ze gW),.vs 1 (lH iy)])]) ?_ (λv4 hz=>?_)
      .refine yy v3.1 kr (λh4=>?_) (λh4=>?_)
       .replace hs:=xg h4 hs;refine vS (vT (oR 4 [(53,.int .i64 e2),(52,.sl 1 3001600 ((q2.2.2.2).length) 0 ((q2.2.2.2).length)),(51,.int .i64 q2.1),(50,.sl 1 3001600 ((q2.2.2.2).length) 0 ((q2.2.2.2).length))] kr ?_));obtain⟨⟨GH,Lg⟩,hs⟩:=bG hs;refine oP (v:=.ptr 3001600 ((q2.2.2.2).length) ((bj e2)*1+0)) kr kr (yR (e:=3) (sz:=1) (kk:=3001600) (L:=(q2.2.2.2).length) (n:=(q2.2.2.2).length) (k:=.i64) (i:=e2) kr kr kr GH Lg) ?_;obtain⟨e4,he4,hs⟩:=bE hs;refine vw (F:=[(3001600,.row 3 1 0 (mI q2.2.2.2))]) (F':=[(3001600,.row 3 1 0 (mI q2.2.2.2))]) (v:=.int .i64 e4) [3001600] kr kr rfl kr (uI (L:=(q2.2.2.2).length) (off:=(bj e2)*1+0) (els:=(mI q2.2.2.2)) (cs:=[.int .i64 e4]) (bj e2) 0 kr lh rfl (by rw[<- he4];exact yI _ (by first|omega|(simp only[cb,zX];omega))) kr) kr ?_;refine oR 1 [(56,.int .i64 (aD (e4+1)))] kr ?_;obtain⟨⟨GI,Lh⟩,hs⟩:=bG hs;refine oP (v:=.ptr 3001600 ((q2.2.2.2).length) ((bj q2.1)*1+0)) kr kr (yR (e:=3) (sz:=1) (kk:=3001600) (L:=(q2.2.2.2).length) (n:=(q2.2.2.2).length) (k:=.i64) (i:=q2.1) kr kr kr GI Lh) ?_;obtain⟨e5,he5,hs⟩:=bE hs;refine vw (F:=[(3001600,.row 3 1 0 (mI q2.2.2.2))]) (F':=[(3001600,.row 3 1 0 (mI (cD q2.2.2.2 (bj q2.1) (aD (e4+1)))))]) (v:=.no) [3001600] kr kr rfl kr (AO (L:=(q2.2.2.2).length) (off:=(bj q2.1)*1+0) (els:=(mI q2.2.2.2)) (cs:=[.int .i64 e5]) (c':=[.int .i64 (aD (e4+1))]) (bj q2.1) 0 kr lh rfl (by rw[<- he5];exact yI _ (by first|omega|(simp only[cb,zX];omega))) (by first|exact cH _|omega) kr kr kr kr kr kr List.map_set.symm) kr ?_;refine oN (nT (vT (j3 3 [(60,.sl 1 60 1 0 1),(59,.int .i64 q2.1),(58,.gv 21 (qv bh 1 v3.2.2 (ba v3.2.1)))] [(60,.row 3 1 0 (mI [q2.1])),(3001600,.row 3 1 0 (mI (cD q2.2.2.2 (bj q2.1) (aD (e4+1))))),(21,.gen (mn 3 1 v3.2.2 (mI v3.2.1))),(1000000,.box 196 [.vs 6 (mM ze gW),.vs 1 (lH iy)])] kr ?_)));obtain⟨_,g8,hs⟩:=bS hs;replace g8:=yY g8;refine vw (F:=[(21,.gen (mn 3 1 v3.2.2 (mI v3.2.1))),(60,.row 3 1 0 (mI [q2.1]))]) (F':=[(21,.gen (mn 3 1 (v3.2.2+1) (mI (v3.2.1++[q2.1])))),(60,.row 3 1 0 (mI [q2.1]))]) (v:=.gv 21 (qv bh 1 (v3.2.2+1) (ba (v3.2.1++[q2.1])))) [21,60] kr kr rfl kr (zk1 (e:=3) (sz:=1) (bytes:=8) (k:=21) (ver:=v3.2.2) (n:=(ba v3.2.1)) (n':=(ba (v3.2.1++[q2.1]))) (els:=(mI v3.2.1)) (ys:=(mI [q2.1])) kr kr (by first|exact bM ..|simp only[bM]) (.sl (t:=3) (fz:=0) (ys:=(mI [q2.1])) kr kr) (JJ EV.encI (λ_=>rfl) _) (JK EV.encI (λ_=>rfl) _) kr kr (by exact(cX ..).symm) lM g8 ab) kr ?_;refine oR 1 [(6,.gv 21 (qv bh 1 (v3.2.2+1) (ba (v3.2.1++[q2.1]))))] kr ?_;refine oN ?_;obtain rfl:=si hs;refine zq ((v3.2.1++[q2.1]),(v3.2.2+1),(cD q2.2.2.2 (bj q2.1) (aD (e4+1)))) rfl ?_;exact Cut.trans (FR 5 (v:=.sl 1 3001600 ((q2.2.2.2).length) 0 ((q2.2.2.2).length)) (v':=.sl 1 3001600 (((cD q2.2.2.2 (bj q2.1) (aD (e4+1)))).length) 0 (((cD q2.2.2.2 (bj q2.1) (aD (e4+1)))).length)) kr (by first|rfl|simp only[cb,zX])) (zm [0,5,6,7,33,34,35] [21,3001600,1000000] kr kr kr)
       .replace hs:=xh h4 hs;refine vK ?_;obtain rfl:=si hs;refine zq (v3.2.1,v3.2.2,q2.2.2.2) rfl ?_;exact zm [0,5,6,7,33,34,35] [21,3001600,1000000] kr kr kr
      .subst hz;clear hs;have hs:=sA;clear sA;refine nB (nT (vT (oR 2 [(35,.int .i64 (aD (q2.1+1))),(62,.int .i64 (aD (q2.1+1)))] kr ?_)));refine oN (xn ((aD (q2.1+1)),v4.1,v4.2.1,v4.2.2) hs ?_);exact zm [0,5,6,7,33,34,35] [21,3001600,1000000] kr kr kr
    .replace hs:=xh h2 hs;refine kN (yx (yV ?_));refine yU ?_;obtain rfl:=si hs;refine zq (q2.2.1,q2.2.2.1,q2.2.2.2) rfl ?_;exact zm [0,5,6] [21,3001600,1000000] kr kr kr
   .subst hz;clear hs;have hs:=my;clear my;refine nB (xn (v2.1,v2.2.1,v2.2.2) hs ?_);exact zm [0,5,6] [21,3001600,1000000] kr kr kr
  .replace hs:=xh h1 hs;refine kN (yx (yV ?_));refine yU ?_;obtain rfl:=si hs;refine zq q1.2.2 rfl ?_;exact zm [5] [3001600,1000000] kr kr kr
 .subst hz;clear hs;have hs:=l6;clear l6;refine nT (vS (vT (oR 2 [(4,.sl 1 3001600 ((v1).length) 0 ((v1).length)),(63,.sl 1 3001600 ((v1).length) 0 ((v1).length))] kr ?_)));refine oN (nT (ry _ [(3001600,.row 3 1 (((mI v1)).length) (mI v1)),(1000000,.box 196 [.vs 6 (mM ze gW),.vs 1 (lH iy)])] (j8 (F:=[(3001600,.row 3 1 0 (mI v1))]) [3001600] rfl kr kr) ?_));refine ry ((4,.vs 1 (mI v1))::_) _ (jd (R:=[(3001600,.row 3 1 (((mI v1)).length) (mI v1))]) (ks:=[3001600]) kr kr (.row (t:=3) (fz:=(((mI v1)).length)) kr lh)) ?_;refine vc ?_;cases hs;exact yf kr kr kr
def abz(gW:(List Def))(iy:(List (List Int)))(from_:Int)(r:(List Sr)×(List Def)×(List (List Int)))(hs:yW gW iy from_=aY r):mz bk 112 [.ptr 1000000 0 0,.int .i64 from_] [(1000000,.box 196 [.vs 6 (mM ze gW),.vs 1 (cQ (Bc 1 EV.encI) iy)])] (nz 1 (mS r.1)) [(1000000,.box 196 [.vs 6 (mM ze r.2.1),.vs 1 (cQ (Bc 1 EV.encI) r.2.2)])]:=by
 refine yo (N:=67) Tryz.func112 rfl rfl rfl λmT=>?_
 unfold yW at hs;refine vX (ρ':=[(0,.ptr 1000000 0 0),(1,.int .i64 from_)]) rfl rfl ?_;refine vS (vT (oR 1 [(4,.gg)] kr ?_));refine oN (nT (vS (vT (oR 2 [(12,.int .i64 from_),(11,.ptr 1000000 0 0)] kr ?_))));obtain⟨y1,c1,hs⟩:=bS hs;refine vw (F:=[(1000000,.box 196 [.vs 6 (mM ze gW),.vs 1 (lH iy)])]) (F':=[(1000000,.box 196 [.vs 6 (mM ze y1.2.1),.vs 1 (lH y1.2.2)])]) (v:=.vs 1 (mI y1.1)) [1000000] kr kr rfl kr (Wz (R:=[]) [.ptr 1000000 0 0,.int .i64 from_] [(1000000,1000000)] (zP zIw kr) (abx gW iy from_ _ c1) (.cons (.same _) (.cons (.same _) (.nil))) kr kr kr kr kr kr kr kr) kr ?_;refine oR 1 [(5,.vs 1 (mI y1.1))] kr ?_;refine oN (nT (vS (vT (oR 1 [(6,.gg)] kr ?_))));refine oN (nT (vS (vT (oR 2 [(7,.int .i64 from_),(14,.int .i64 from_)] kr ?_))));refine oN (nT ?_);obtain⟨z1,hs,l6⟩:=bS hs;refine xE (S:=Unit) (λu=>False) (λu=>[]) (λu=>[]) ?_ (λv1 hz=>?_)
 .refine vB ?_;refine j4 (S:=Int×(List Sr)) (λu=>[(0,.ptr 1000000 0 0),(1,.int .i64 from_),(5,.vs 1 (mI y1.1)),(6,.sl 1 2000015 ((u.2).length) 0 ((u.2).length)),(7,.int .i64 u.1)]) (λu=>[(1000000,.box 196 [.vs 6 (mM ze y1.2.1),.vs 1 (lH y1.2.2)]),(2000015,.row 9 1 0 (mS u.2))]) (z6 from_ y1) (λ_=>rfl) KK (from_,[]) hs (Cut.trans (Va 6 2000015 9 1 rfl kr kr) (zm [0,1,5,6,7] [1000000,2000015] kr kr kr)) (λK1 q1 hs=>?_);rw[z6]at hs
  show l9 mT bk bg 67 _ _ [(0,.ptr 1000000 0 0),(1,.int .i64 from_),(5,.vs 1 (mI y1.1)),(6,.sl 1 2000015 ((q1.2).length) 0 ((q1.2).length)),(7,.int .i64 q1.1)] [(1000000,.box 196 [.vs 6 (mM ze y1.2.1),.vs 1 (lH y1.2.2)]),(2000015,.row 9 1 0 (mS q1.2))] []
  refine vB (vS (vT (oR 6 [(20,.int .i64 q1.1),(19,.vs 6 (mM ze y1.2.1)),(18,.ptr 1000000 0 0),(17,.ptr 1000000 0 0),(16,.ptr 1000000 0 0),(15,.sl 1 2000015 ((q1.2).length) 0 ((q1.2).length))] kr ?_)));obtain⟨x1,g1,hs⟩:=bS hs;obtain⟨rD,ta,sL⟩:=yJ g1;refine oP (v:=.vp (ze x1) 0) kr kr (zM (e:=68) (sz:=6) (k:=.i64) (els:=(mM ze y1.2.1)) (cs:=(ze x1)) kr kr kr rD (by rw[sL];exact yI _ ab)) ?_;refine j3 3 [(24,.sl 1 24 1 0 1),(23,.str x1.aK),(22,.vp (ze x1) 0)] [(24,.row 9 1 0 (mS [x1.aK])),(1000000,.box 196 [.vs 6 (mM ze y1.2.1),.vs 1 (lH y1.2.2)]),(2000015,.row 9 1 0 (mS q1.2))] kr ?_;obtain⟨_,g2,hs⟩:=bS hs;replace g2:=yY g2;refine vw (F:=[(2000015,.row 9 1 0 (mS q1.2)),(24,.row 9 1 0 (mS [x1.aK]))]) (F':=[(2000015,.row 9 1 0 (mS (q1.2++[x1.aK]))),(24,.row 9 1 0 (mS [x1.aK]))]) (v:=.sl 1 2000015 (((q1.2++[x1.aK])).length) 0 (((q1.2++[x1.aK])).length)) [2000015,24] kr kr rfl kr (AN (e:=9) (sz:=1) (bytes:=16) (L:=(q1.2).length) (els:=(mS q1.2)) (ys:=(mS [x1.aK])) kr kr (by first|exact bM ..|rfl) (.sl (t:=9) (fz:=0) (ys:=(mS [x1.aK])) kr kr) (JJ EV.encS (λ_=>rfl) _) (JK EV.encS (λ_=>rfl) _) kr (by first|exact(cX ..).symm|rfl|simp only[dC,cw]) (bM ..) g2 ab) kr ?_;refine oR 1 [(6,.sl 1 2000015 (((q1.2++[x1.aK])).length) 0 (((q1.2++[x1.aK])).length))] kr ?_;refine oN (nT (vS (vT (oR 1 [(8,.int .i64 (-1))] kr ?_))));refine oN (nT (vS (vS (vT (oR 5 [(30,.int .i64 q1.1),(29,.vs 1 (lH y1.2.2)),(28,.ptr 1000000 0 1),(27,.ptr 1000000 0 0),(26,.ptr 1000000 0 0)] kr ?_)))));obtain⟨x2,g3,hs⟩:=bS hs;obtain⟨DH,GD,GF⟩:=yJ g3;refine oP (v:=.vp [.vs 1 (mI x2)] 0) kr kr (zM (e:=53) (sz:=1) (k:=.i64) (els:=(lH y1.2.2)) (cs:=(eI x2)) kr kr kr DH (by rw[GF];exact yI _ ab)) ?_;refine oR 1 [(32,.vs 1 (mI x2))] kr ?_;refine oP (v:=.int .i64 (ba x2:Int)) kr kr (yz (sz:=1) (els:=(mI x2)) kr kr lM) ?_;refine oR 1 [(34,.int .i64 0)] kr ?_;refine oN (nT ?_);obtain⟨z2,hs,my⟩:=bS hs;refine xE (S:=Int) (λu=>u=z2) (λu=>[(0,.ptr 1000000 0 0),(1,.int .i64 from_),(5,.vs 1 (mI y1.1)),(6,.sl 1 2000015 (((q1.2++[x1.aK])).length) 0 (((q1.2++[x1.aK])).length)),(8,.int .i64 u)]) (λu=>[(2000015,.row 9 1 0 (mS (q1.2++[x1.aK]))),(1000000,.box 196 [.vs 6 (mM ze y1.2.1),.vs 1 (lH y1.2.2)])]) ?_ (λv2 hz=>?_)
  .refine vB ?_;refine j4 (S:=Int×Int) (λu=>[(0,.ptr 1000000 0 0),(1,.int .i64 from_),(5,.vs 1 (mI y1.1)),(6,.sl 1 2000015 (((q1.2++[x1.aK])).length) 0 (((q1.2++[x1.aK])).length)),(8,.int .i64 u.1),(32,.vs 1 (mI x2)),(33,.int .i64 (ba x2:Int)),(34,.int .i64 u.2)]) (λu=>[(2000015,.row 9 1 0 (mS (q1.2++[x1.aK]))),(1000000,.box 196 [.vs 6 (mM ze y1.2.1),.vs 1 (lH y1.2.2)])]) (zE y1 x2) (λ_=>rfl) KK ((-1),0) hs (zm [0,1,5,6,8,32,33,34] [2000015,1000000] kr kr kr) (λK2 q2 hs=>?_);rw[zE]at hs
   show l9 mT bk bg 67 _ _ [(0,.ptr 1000000 0 0),(1,.int .i64 from_),(5,.vs 1 (mI y1.1)),(6,.sl 1 2000015 (((q1.2++[x1.aK])).length) 0 (((q1.2++[x1.aK])).length)),(8,.int .i64 q2.1),(32,.vs 1 (mI x2)),(33,.int .i64 (ba x2:Int)),(34,.int .i64 q2.2)] [(2000015,.row 9 1 0 (mS (q1.2++[x1.aK]))),(1000000,.box 196 [.vs 6 (mM ze y1.2.1),.vs 1 (lH y1.2.2)])] []
   refine vS (vT (oR 1 [(35,.bool (decide (q2.2<(ba x2:Int))))] kr ?_));refine oN (nT (vS ?_));refine yy (decide (q2.2<(ba x2:Int))) kr (λh1=>?_) (λh1=>?_)
   .replace hs:=xg h1 hs;refine vK (nT (vS (vB (vS (vT ?_)))));obtain⟨x3,g4,hs⟩:=bS hs;obtain⟨DJ,Oa,DK⟩:=yJ g4;refine oP (v:=.vp [.int .i64 x3] 0) kr kr (zM (e:=3) (sz:=1) (k:=.i64) (els:=(mI x2)) (cs:=(EV.encI x3)) kr kr kr DJ (by rw[DK];exact yI _ ab)) ?_;refine oR 2 [(10,.int .i64 x3),(37,.int .i64 x3)] kr ?_;refine oN (nT (vS ?_));obtain⟨z3,hs,nt⟩:=bS hs;refine xE (S:=Bool) (λu=>u=z3) (λu=>[(0,.ptr 1000000 0 0),(1,.int .i64 from_),(5,.vs 1 (mI y1.1)),(6,.sl 1 2000015 (((q1.2++[x1.aK])).length) 0 (((q1.2++[x1.aK])).length)),(8,.int .i64 q2.1),(10,.int .i64 x3),(32,.vs 1 (mI x2)),(33,.int .i64 (ba x2:Int)),(34,.int .i64 q2.2),(57,.bool u)]) (λu=>[(2000015,.row 9 1 0 (mS (q1.2++[x1.aK]))),(1000000,.box 196 [.vs 6 (mM ze y1.2.1),.vs 1 (lH y1.2.2)])]) ?_ (λv3 hz=>?_)
    .refine IG M1 kr ?_;refine vG 2 0 [(39,.int .i64 x3),(38,.vs 1 (mI y1.1))] (rJ 2 1) kr kr ?_;obtain⟨x4,g5,hs⟩:=bS hs;obtain⟨DL,GG,Ob⟩:=yJ g5;refine Kj (v:=.vp [.int .i64 x4] 0) 2 rfl rfl rfl rfl kr kr (zM (e:=3) (sz:=1) (k:=.i64) (els:=(mI y1.1)) (cs:=(EV.encI x4)) kr kr kr DL (by rw[Ob];exact yI _ ab)) ?_;refine vG 3 3 [(43,.bool (decide (x4>=0))),(42,.bool (decide (x4>=0))),(41,.int .i64 x4)] (rJ 3 5) kr kr ?_;cases h2:((decide (x4>=0)))
     .replace hs:=xh h2 hs;refine vG 14 6 [(57,.bool bf),(56,.no),(55,.no),(54,.no),(53,.no),(52,.no),(51,.no),(50,.no),(49,.no),(48,.no),(47,.no),(46,.no),(45,.no),(44,.no)] (rJ 14 19) kr kr ?_;refine By kr ?_;cases hs;refine zq bf rfl ?_;exact zm [0,1,5,6,8,10,32,33,34,57] [2000015,1000000] kr kr kr
     .replace hs:=xg h2 hs;refine vG 3 6 [(46,.bool (decide (q2.1<0))),(45,.bool (decide (q2.1<0))),(44,.int .i64 q2.1)] (rJ 3 8) kr kr ?_;cases h3:((decide (q2.1<0)))
      .replace hs:=xh h3 hs;refine vG 2 9 [(48,.int .i64 x3),(47,.vs 1 (mI y1.1))] (rJ 2 10) kr kr ?_;obtain⟨x5,g6,hs⟩:=bS hs;obtain⟨GH,Lg,aei⟩:=yJ g6;refine Kj (v:=.vp [.int .i64 x5] 0) 11 rfl rfl rfl rfl kr kr (zM (e:=3) (sz:=1) (k:=.i64) (els:=(mI y1.1)) (cs:=(EV.encI x5)) kr kr kr GH (by rw[aei];exact yI _ ab)) ?_;refine vG 3 12 [(52,.int .i64 q2.1),(51,.vs 1 (mI y1.1)),(50,.int .i64 x5)] (rJ 3 14) kr kr ?_;obtain⟨x6,g7,hs⟩:=bS hs;obtain⟨GI,Lh,aej⟩:=yJ g7;refine Kj (v:=.vp [.int .i64 x6] 0) 15 rfl rfl rfl rfl kr kr (zM (e:=3) (sz:=1) (k:=.i64) (els:=(mI y1.1)) (cs:=(EV.encI x6)) kr kr kr GI (by rw[aej];exact yI _ ab)) ?_;refine vG 4 16 [(57,.bool (decide (x5<x6))),(56,.bool (decide (x5<x6))),(55,.bool (decide (x5<x6))),(54,.int .i64 x6)] (rJ 4 19) kr kr ?_;refine By kr ?_;obtain rfl:=si hs;refine zq (decide (x5<x6)) rfl ?_;exact zm [0,1,5,6,8,10,32,33,34,57] [2000015,1000000] kr kr kr
      .replace hs:=xg h3 hs;refine vG 11 9 [(57,.bool bh),(56,.bool bh),(55,.no),(54,.no),(53,.no),(52,.no),(51,.no),(50,.no),(49,.no),(48,.no),(47,.no)] (rJ 11 19) kr kr ?_;refine By kr ?_;cases hs;refine zq bh rfl ?_;exact zm [0,1,5,6,8,10,32,33,34,57] [2000015,1000000] kr kr kr
    .subst hz;clear hs;have hs:=nt;clear nt;refine nT ?_;obtain⟨z4,hs,sA⟩:=bS hs;refine xE (S:=Int) (λu=>u=z4) (λu=>[(0,.ptr 1000000 0 0),(1,.int .i64 from_),(5,.vs 1 (mI y1.1)),(6,.sl 1 2000015 (((q1.2++[x1.aK])).length) 0 (((q1.2++[x1.aK])).length)),(8,.int .i64 u),(32,.vs 1 (mI x2)),(33,.int .i64 (ba x2:Int)),(34,.int .i64 q2.2)]) (λu=>[(2000015,.row 9 1 0 (mS (q1.2++[x1.aK]))),(1000000,.box 196 [.vs 6 (mM ze y1.2.1),.vs 1 (lH y1.2.2)])]) ?_ (λv4 hz=>?_)
     .refine yy v3 kr (λh4=>?_) (λh4=>?_)
      .replace hs:=xg h4 hs;refine vT (oR 2 [(8,.int .i64 x3),(58,.int .i64 x3)] kr ?_);refine oN ?_;obtain rfl:=si hs;refine zq x3 rfl ?_;exact zm [0,1,5,6,8,32,33,34] [2000015,1000000] kr kr kr
      .replace hs:=xh h4 hs;refine vK ?_;obtain rfl:=si hs;refine zq q2.1 rfl ?_;exact zm [0,1,5,6,8,32,33,34] [2000015,1000000] kr kr kr
     .subst hz;clear hs;have hs:=sA;clear sA;refine nB (nT (vT (oR 2 [(34,.int .i64 (aD (q2.2+1))),(59,.int .i64 (aD (q2.2+1)))] kr ?_)));refine oN (xn (v4,(aD (q2.2+1))) hs ?_);exact zm [0,1,5,6,8,32,33,34] [2000015,1000000] kr kr kr
   .replace hs:=xh h1 hs;refine kN (yx (yV ?_));refine yU ?_;obtain rfl:=si hs;refine zq q2.1 rfl ?_;exact zm [0,1,5,6,8] [2000015,1000000] kr kr kr
  .subst hz;clear hs;have hs:=my;clear my;refine nT (vS (vS (vT (oR 2 [(61,.bool (decide (v2<0))),(60,.int .i64 v2)] kr ?_))));refine oN (nT ?_);refine yy (decide (v2<0)) kr (λh5=>?_) (λh5=>?_)
   .replace hs:=xg h5 hs;refine vS (vT (oR 1 [(4,.gg)] kr ?_));refine oN (nT (ry ((4,nz 1 (mS []))::_) _ (jd (t:=4) (v:=nz 1 (mS [])) [] [] rfl rfl (.Ji (WN rfl))) ?_));refine vc (rT (rB (oq ?_)));refine rB (AM ?_);obtain rfl:=si hs;replace hs:=l6;cases hs;exact yf kr kr kr
   .replace hs:=xh h5 hs;refine vK (nT (vS (vS (vT (oR 3 [(64,.bool (decide (v2=from_))),(63,.int .i64 from_),(62,.int .i64 v2)] kr ?_)))));refine oN (nT ?_);refine yy (decide (v2=from_)) kr (λh6=>?_) (λh6=>?_)
    .replace hs:=xg h6 hs;refine vS (vT (oR 2 [(4,.sl 1 2000015 (((q1.2++[x1.aK])).length) 0 (((q1.2++[x1.aK])).length)),(65,.sl 1 2000015 (((q1.2++[x1.aK])).length) 0 (((q1.2++[x1.aK])).length))] kr ?_));refine oN (nT (ry _ [(2000015,.row 9 1 (((mS (q1.2++[x1.aK]))).length) (mS (q1.2++[x1.aK]))),(1000000,.box 196 [.vs 6 (mM ze y1.2.1),.vs 1 (lH y1.2.2)])] (j8 (F:=[(2000015,.row 9 1 0 (mS (q1.2++[x1.aK])))]) [2000015] rfl kr kr) ?_));refine ry ((4,.vs 1 (mS (q1.2++[x1.aK])))::_) _ (jd (R:=[(2000015,.row 9 1 (((mS (q1.2++[x1.aK]))).length) (mS (q1.2++[x1.aK])))]) (ks:=[2000015]) kr kr (.row (t:=9) (fz:=(((mS (q1.2++[x1.aK]))).length)) kr lh)) ?_;obtain⟨_,g8,hs⟩:=bS hs;replace g8:=yY g8;refine ry ((4,nz 1 (mS (q1.2++[x1.aK])))::_) _ (jd (t:=4) (v:=nz 1 (mS (q1.2++[x1.aK]))) [] [] rfl rfl (.Ji (zHs g8))) ?_;refine vc (rT (rB (oq ?_)));refine rB (AM ?_);obtain rfl:=si hs;replace hs:=l6;cases hs;exact yf kr kr kr
    .replace hs:=xh h6 hs;refine vK (nT (vT (oR 2 [(7,.int .i64 v2),(66,.int .i64 v2)] kr ?_)));refine oN (nB (xn (v2,(q1.2++[x1.aK])) hs ?_));exact zm [0,1,5,6,7] [1000000,2000015] kr kr kr
 .exact hz.elim
def Zs(x:Sr)(r:Bool)(hs:xl x=aY r):mz bk 234 [.str x] [] (.bool r) []:=by
 refine yo (N:=6) Tryz.func234 rfl rfl rfl λmT=>?_
 unfold xl at hs;refine vX (ρ':=[(0,.str x)]) rfl rfl ?_;refine vS (vT (oR 1 [(2,.bool bf)] kr ?_));refine oN (nT (vS (vT (oR 4 [(2,.bool (!(decide (x=x)))),(5,.bool (!(decide (x=x)))),(4,.str x),(3,.str x)] kr ?_))));refine oN (nT (vc ?_));cases hs;exact yf kr kr kr
def ze8(x:Sr)(y:Sr)(r:Int)(hs:yC x y=aY r):mz bk 183 [.str x,.str y] [] (.int .i64 r) []:=by
 refine yo (N:=20) Tryz.func183 rfl rfl rfl λmT=>?_
 unfold yC at hs;refine vX (ρ':=[(0,.str x),(1,.str y)]) rfl rfl ?_;refine vS (vT (oR 1 [(4,.int .i64 0)] kr ?_));refine oN (nT (vS (vT (oR 1 [(7,.str x)] kr ?_))));obtain⟨y1,c1,hs⟩:=bS hs;refine oP (v:=.bool y1) kr kr (vx (zP Xe kr) (Zs x _ c1) kr) ?_;refine oR 1 [(5,.bool y1)] kr ?_;refine oN (nT (vS (vT (oR 1 [(9,.str y)] kr ?_))));obtain⟨y2,c2,hs⟩:=bS hs;refine oP (v:=.bool y2) kr kr (vx (zP Xe kr) (Zs y _ c2) kr) ?_;refine oR 1 [(6,.bool y2)] kr ?_;refine oN (nT (vS (vS (vT (oR 1 [(11,.bool y1)] kr ?_)))));refine oN (nT ?_);refine yy y1 kr (λh1=>?_) (λh1=>?_)
 .replace hs:=xg h1 hs;refine vS (vS (vT (oR 1 [(12,.bool y2)] kr ?_)));refine oN (nT ?_);refine yy y2 kr (λh2=>?_) (λh2=>?_)
  .replace hs:=xg h2 hs;refine vS (vT (oR 1 [(4,.int .i64 0)] kr ?_));refine oN (nT (vc (rT (rT ?_))));cases hs;exact yf kr kr kr
  .replace hs:=xh h2 hs;refine vK (nT (vS (vT (oR 1 [(4,.int .i64 (-1))] kr ?_))));refine oN (nT (vc (rT ?_)));cases hs;exact yf kr kr kr
 .replace hs:=xh h1 hs;refine vK (nT (vS (vS (vT (oR 1 [(13,.bool y2)] kr ?_)))));refine oN (nT ?_);refine yy y2 kr (λh3=>?_) (λh3=>?_)
  .replace hs:=xg h3 hs;refine vS (vT (oR 1 [(4,.int .i64 1)] kr ?_));refine oN (nT (vc (rT ?_)));cases hs;exact yf kr kr kr
  .replace hs:=xh h3 hs;refine vK (nT (vS (vS (vT (oR 3 [(16,.bool (Op.bytesLess x y)),(15,.str y),(14,.str x)] kr ?_)))));refine oN (nT ?_);refine yy (Op.bytesLess x y) kr (λh4=>?_) (λh4=>?_)
   .replace hs:=xg h4 hs;refine vS (vT (oR 1 [(4,.int .i64 (-1))] kr ?_));refine oN (nT (vc (rT ?_)));cases hs;exact yf kr kr kr
   .replace hs:=xh h4 hs;refine vK (nT (vS (vS (vT (oR 3 [(19,.bool (!((Op.bytesLess x y)||(decide (x=y))))),(18,.str y),(17,.str x)] kr ?_)))));refine oN (nT ?_);refine yy (!((Op.bytesLess x y)||(decide (x=y)))) kr (λh5=>?_) (λh5=>?_)
    .replace hs:=xg h5 hs;refine vS (vT (oR 1 [(4,.int .i64 1)] kr ?_));refine oN (nT (vc (rT ?_)));cases hs;exact yf kr kr kr
    .replace hs:=xh h5 hs;refine vK (nT (vS (vT (oR 1 [(4,.int .i64 0)] kr ?_))));refine oN (nT (vc ?_));cases hs;exact yf kr kr kr
def acW(s1:(List Sr))(s2:(List Sr))(r:Int)(hs:xr s1 s2=aY r):mz bk 113 [.vs 1 (mS s1),.vs 1 (mS s2)] [] (.int .i64 r) []:=by
 refine yo (N:=36) Tryz.func113 rfl rfl rfl λmT=>?_
 unfold xr at hs;refine vX (ρ':=[(0,.vs 1 (mS s1)),(1,.vs 1 (mS s2))]) rfl rfl ?_;refine vS (vT (oR 1 [(4,.int .i64 0)] kr ?_));refine oN (nT (vS (vS (vT (oR 1 [(9,.vs 1 (mS s1))] kr ?_)))));refine oP (v:=.int .i64 (ba s1:Int)) kr kr (yz (sz:=1) (els:=(mS s1)) kr kr lM) ?_;refine oR 1 [(11,.int .i64 0)] kr ?_;refine oN (nT ?_);obtain⟨z1,hs,l6⟩:=bS hs;refine xE (S:=Unit) (λu=>z1=.inr u) (λu=>[(0,.vs 1 (mS s1)),(1,.vs 1 (mS s2))]) (λu=>[]) ?_ (λv1 hz=>?_)
 .refine vB ?_;refine j4 (S:=Int) (λu=>[(0,.vs 1 (mS s1)),(1,.vs 1 (mS s2)),(9,.vs 1 (mS s1)),(10,.int .i64 (ba s1:Int)),(11,.int .i64 u)]) (λu=>[]) (yv s1 s2) (λ_=>rfl) KK 0 hs (zm [0,1,9,10,11] [] kr kr kr) (λK1 q1 hs=>?_);rw[yv]at hs
  show l9 mT bk bg 36 _ _ [(0,.vs 1 (mS s1)),(1,.vs 1 (mS s2)),(9,.vs 1 (mS s1)),(10,.int .i64 (ba s1:Int)),(11,.int .i64 q1)] [] []
  refine vS (vT (oR 1 [(12,.bool (decide (q1<(ba s1:Int))))] kr ?_));refine oN (nT (vS ?_));refine yy (decide (q1<(ba s1:Int))) kr (λh1=>?_) (λh1=>?_)
  .replace hs:=xg h1 hs;refine vK (nT (vS (vB (vS (vT (oR 1 [(13,.int .i64 q1)] kr ?_))))));obtain⟨x1,g1,hs⟩:=bS hs;obtain⟨rD,ta,sL⟩:=yJ g1;refine oP (v:=.vp [.str x1] 0) kr kr (zM (e:=9) (sz:=1) (k:=.i64) (els:=(mS s1)) (cs:=(EV.encS x1)) kr kr kr rD (by rw[sL];exact yI _ ab)) ?_;refine oR 3 [(6,.str x1),(5,.int .i64 q1),(15,.str x1)] kr ?_;refine oN (nT (vS (vS (vT (oR 2 [(17,.vs 1 (mS s2)),(16,.int .i64 q1)] kr ?_)))));refine oP (v:=.int .i64 (ba s2:Int)) kr kr (yz (sz:=1) (els:=(mS s2)) kr kr lM) ?_;refine oR 1 [(19,.bool (decide (q1>=(ba s2:Int))))] kr ?_;refine oN (nT ?_);refine yy (decide (q1>=(ba s2:Int))) kr (λh2=>?_) (λh2=>?_)
   .replace hs:=xg h2 hs;refine vS (vT (oR 1 [(4,.int .i64 1)] kr ?_));refine oN (nT (vc (rT (rB (rT (oq ?_))))));refine rB (AM ?_);refine rT ?_;obtain rfl:=si hs;replace hs:=l6;cases hs;exact yf kr kr kr
   .replace hs:=xh h2 hs;refine vK (nT (vS (vT (oR 2 [(21,.int .i64 q1),(20,.vs 1 (mS s2))] kr ?_))));obtain⟨x2,g2,hs⟩:=bS hs;obtain⟨t_,CK,BX⟩:=yJ g2;refine oP (v:=.vp [.str x2] 0) kr kr (zM (e:=9) (sz:=1) (k:=.i64) (els:=(mS s2)) (cs:=(EV.encS x2)) kr kr kr t_ (by rw[BX];exact yI _ ab)) ?_;refine oR 2 [(7,.str x2),(23,.str x2)] kr ?_;refine oN (nT (vS (vT (oR 2 [(25,.str x2),(24,.str x1)] kr ?_))));obtain⟨y1,c1,hs⟩:=bS hs;refine oP (v:=.int .i64 y1) kr kr (vx (zP zIy kr) (ze8 x1 x2 _ c1) kr) ?_;refine oR 1 [(8,.int .i64 y1)] kr ?_;refine oN (nT (vS (vT (oR 2 [(28,.bool (!(decide (y1=0)))),(27,.int .i64 y1)] kr ?_))));refine oN (nT ?_);refine yy (!(decide (y1=0))) kr (λh3=>?_) (λh3=>?_)
    .replace hs:=xg h3 hs;refine vS (vT (oR 2 [(4,.int .i64 y1),(29,.int .i64 y1)] kr ?_));refine oN (nT (vc (rB (rT (oq ?_)))));refine rB (AM ?_);refine rT ?_;obtain rfl:=si hs;replace hs:=l6;cases hs;exact yf kr kr kr
    .replace hs:=xh h3 hs;refine vK (nB (nT (vT (oR 2 [(11,.int .i64 (aD (q1+1))),(30,.int .i64 (aD (q1+1)))] kr ?_))));refine oN (xn (aD (q1+1)) hs ?_);exact zm [0,1,9,10,11] [] kr kr kr
  .replace hs:=xh h1 hs;refine kN (yx (yV ?_));refine yU ?_;cases hs;refine zq () rfl ?_;exact zm [0,1] [] kr kr kr
 .subst hz;clear hs;have hs:=l6;clear l6;refine nT (vS (vS (vT (oR 1 [(31,.vs 1 (mS s1))] kr ?_))));refine oP (v:=.int .i64 (ba s1:Int)) kr kr (yz (sz:=1) (els:=(mS s1)) kr kr lM) ?_;refine oR 1 [(33,.vs 1 (mS s2))] kr ?_;refine oP (v:=.int .i64 (ba s2:Int)) kr kr (yz (sz:=1) (els:=(mS s2)) kr kr lM) ?_;refine oR 1 [(35,.bool (decide ((ba s1:Int)<(ba s2:Int))))] kr ?_;refine oN (nT ?_);refine yy (decide ((ba s1:Int)<(ba s2:Int))) kr (λh4=>?_) (λh4=>?_)
  .replace hs:=xg h4 hs;refine vS (vT (oR 1 [(4,.int .i64 (-1))] kr ?_));refine oN (nT (vc (rT ?_)));cases hs;exact yf kr kr kr
  .replace hs:=xh h4 hs;refine vK (nT (vS (vT (oR 1 [(4,.int .i64 0)] kr ?_))));refine oN (nT (vc ?_));cases hs;exact yf kr kr kr
def abw(gW:(List Def))(iy:(List (List Int)))(r:(List Sr)×(List Def)×(List (List Int)))(hs:yD gW iy=aY r):mz bk 29 [.ptr 1000000 0 0] [(1000000,.box 196 [.vs 6 (mM ze gW),.vs 1 (cQ (Bc 1 EV.encI) iy)])] (nz 1 (mS r.1)) [(1000000,.box 196 [.vs 6 (mM ze r.2.1),.vs 1 (cQ (Bc 1 EV.encI) r.2.2)])]:=by
 refine yo (N:=44) Tryz.func29 rfl rfl rfl λmT=>?_
 unfold yD at hs;refine vX (ρ':=[(0,.ptr 1000000 0 0)]) rfl rfl ?_;refine vS (vT (oR 1 [(2,.gg)] kr ?_));refine oN (nT (vS (vT (oR 1 [(3,.gg)] kr ?_))));refine oN (nT (vS (vS (vT (oR 4 [(9,.vs 6 (mM ze gW)),(8,.ptr 1000000 0 0),(7,.ptr 1000000 0 0),(6,.ptr 1000000 0 0)] kr ?_)))));refine oP (v:=.int .i64 (ba gW:Int)) kr kr (yz (sz:=6) (els:=(mM ze gW)) kr kr lM) ?_;refine oR 1 [(11,.int .i64 0)] kr ?_;refine oN (nT ?_);obtain⟨z1,hs,l6⟩:=bS hs;refine xE (S:=(List Sr)×(List Def)×(List (List Int))) (λu=>u=z1) (λu=>[(3,nz 1 (mS u.1))]) (λu=>[(1000000,.box 196 [.vs 6 (mM ze u.2.1),.vs 1 (lH u.2.2)])]) ?_ (λv1 hz=>?_)
 .refine vB ?_;refine j4 (S:=(List Sr)×Int×(List Def)×(List (List Int))) (λu=>[(0,.ptr 1000000 0 0),(3,nz 1 (mS u.1)),(10,.int .i64 (ba gW:Int)),(11,.int .i64 u.2.1)]) (λu=>[(1000000,.box 196 [.vs 6 (mM ze u.2.2.1),.vs 1 (lH u.2.2.2)])]) (zG gW) (λ_=>rfl) KK ([],0,gW,iy) hs (Cut.trans (jd (t:=3) (v:=nz 1 (mS [])) [] [] rfl rfl (.Ji (WN rfl))) (zm [0,3,10,11] [1000000] kr kr kr)) (λK1 q1 hs=>?_);rw[zG]at hs
  show l9 mT bk bg 44 _ _ [(0,.ptr 1000000 0 0),(3,nz 1 (mS q1.1)),(10,.int .i64 (ba gW:Int)),(11,.int .i64 q1.2.1)] [(1000000,.box 196 [.vs 6 (mM ze q1.2.2.1),.vs 1 (lH q1.2.2.2)])] []
  refine vS (vT (oR 1 [(12,.bool (decide (q1.2.1<(ba gW:Int))))] kr ?_));refine oN (nT (vS ?_));refine yy (decide (q1.2.1<(ba gW:Int))) kr (λh1=>?_) (λh1=>?_)
  .replace hs:=xg h1 hs;refine vK (nT (vS ?_));obtain⟨z2,hs,my⟩:=bS hs;refine xE (S:=(List Sr)×(List Def)×(List (List Int))) (λu=>u=z2) (λu=>[(0,.ptr 1000000 0 0),(3,nz 1 (mS u.1)),(10,.int .i64 (ba gW:Int)),(11,.int .i64 q1.2.1)]) (λu=>[(1000000,.box 196 [.vs 6 (mM ze u.2.1),.vs 1 (lH u.2.2)])]) ?_ (λv2 hz=>?_)
   .refine vB (vS (vT (oR 2 [(4,.int .i64 q1.2.1),(13,.int .i64 q1.2.1)] kr ?_)));refine oN (nT (vS (vT (oR 2 [(15,.int .i64 q1.2.1),(14,.ptr 1000000 0 0)] kr ?_))));obtain⟨y1,c1,hs⟩:=bS hs;refine vw (F:=[(1000000,.box 196 [.vs 6 (mM ze q1.2.2.1),.vs 1 (lH q1.2.2.2)])]) (F':=[(1000000,.box 196 [.vs 6 (mM ze y1.2.1),.vs 1 (lH y1.2.2)])]) (v:=nz 1 (mS y1.1)) [1000000] kr kr rfl kr (Wz (R:=[]) [.ptr 1000000 0 0,.int .i64 q1.2.1] [(1000000,1000000)] (zP zIx kr) (abz q1.2.2.1 q1.2.2.2 q1.2.1 _ c1) (.cons (.same _) (.cons (.same _) (.nil))) kr kr kr kr kr kr kr kr) kr ?_;refine oR 1 [(5,nz 1 (mS y1.1))] kr ?_;refine oN (nT (vS (vS (vT (oR 1 [(17,nz 1 (mS y1.1))] kr ?_)))));refine oP (v:=.bool (cO y1.1)) kr kr (XY (sz:=1) (els:=(mS y1.1)) (b:=(cO y1.1)) kr kr kr (by cases (y1.1:List _)<;>rfl)) ?_;refine oN (nT ?_);refine yy (cO y1.1) kr (λh2=>?_) (λh2=>?_)
    .replace hs:=xg h2 hs;refine kN (yx (yU ?_));obtain rfl:=si hs;refine zq (q1.1,y1.2.1,y1.2.2) rfl ?_;exact zm [0,3,10,11] [1000000] kr kr kr
    .replace hs:=xh h2 hs;refine vK (nT (vS ?_));obtain⟨z3,hs,nt⟩:=bS hs;refine xE (S:=(List Sr)×(List Sr)×Bool) (λu=>u=z3) (λu=>[(0,.ptr 1000000 0 0),(3,nz 1 (mS u.1)),(5,nz 1 (mS u.2.1)),(10,.int .i64 (ba gW:Int)),(11,.int .i64 q1.2.1),(40,.bool u.2.2)]) (λu=>[(1000000,.box 196 [.vs 6 (mM ze y1.2.1),.vs 1 (lH y1.2.2)])]) ?_ (λv3 hz=>?_)
     .refine vT (oR 1 [(19,nz 1 (mS q1.1))] kr ?_);refine oP (v:=.bool (cO q1.1)) kr kr (XY (sz:=1) (els:=(mS q1.1)) (b:=(cO q1.1)) kr kr kr (by cases (q1.1:List _)<;>rfl)) ?_;refine oR 1 [(21,.bool (cO q1.1))] kr ?_;cases h3:((cO q1.1))
      .replace hs:=xh h3 hs;refine oR 1 [(22,nz 1 (mS y1.1))] kr ?_;refine oP (v:=.int .i64 (ba y1.1:Int)) kr kr (Ya (sz:=1) (els:=(mS y1.1)) kr kr lM) ?_;refine oR 1 [(24,nz 1 (mS q1.1))] kr ?_;refine oP (v:=.int .i64 (ba q1.1:Int)) kr kr (Ya (sz:=1) (els:=(mS q1.1)) kr kr lM) ?_;refine oR 3 [(28,.bool (decide ((ba y1.1:Int)<(ba q1.1:Int)))),(27,.bool (decide ((ba y1.1:Int)<(ba q1.1:Int)))),(26,.bool (decide ((ba y1.1:Int)<(ba q1.1:Int))))] kr ?_;cases h4:((decide ((ba y1.1:Int)<(ba q1.1:Int))))
       .replace hs:=xh h4 hs;refine oR 1 [(29,nz 1 (mS y1.1))] kr ?_;refine oP (v:=.int .i64 (ba y1.1:Int)) kr kr (Ya (sz:=1) (els:=(mS y1.1)) kr kr lM) ?_;refine oR 1 [(31,nz 1 (mS q1.1))] kr ?_;refine oP (v:=.int .i64 (ba q1.1:Int)) kr kr (Ya (sz:=1) (els:=(mS q1.1)) kr kr lM) ?_;refine oR 2 [(34,.bool (decide ((ba y1.1:Int)=(ba q1.1:Int)))),(33,.bool (decide ((ba y1.1:Int)=(ba q1.1:Int))))] kr ?_;cases h5:((decide ((ba y1.1:Int)=(ba q1.1:Int))))
        .replace hs:=xh h5 hs;refine oR 6 [(40,.bool bf),(39,.bool bf),(38,.no),(37,.no),(36,.no),(35,.no)] kr ?_;refine oN ?_;obtain rfl:=si hs;refine zq (q1.1,y1.1,bf) rfl ?_;exact zm [0,3,5,10,11,40] [1000000] kr kr kr
        .replace hs:=xg h5 hs;refine oR 2 [(36,nz 1 (mS q1.1)),(35,nz 1 (mS y1.1))] kr ?_;obtain⟨y2,c2,hs⟩:=bS hs;refine vw (F:=[]) (F':=[]) (v:=.int .i64 y2) [] kr kr rfl kr (X8 (vs:=[nz 1 (mS y1.1),nz 1 (mS q1.1)]) (R:=[]) (zP zIz kr) (acW y1.1 q1.1 _ c2) (.cons (.nz _ _) (.cons (.nz _ _) (.nil))) kr kr kr) kr ?_;refine oR 3 [(40,.bool (decide (y2<0))),(39,.bool (decide (y2<0))),(38,.bool (decide (y2<0)))] kr ?_;refine oN ?_;obtain rfl:=si hs;refine zq (q1.1,y1.1,(decide (y2<0))) rfl ?_;exact zm [0,3,5,10,11,40] [1000000] kr kr kr
       .replace hs:=xg h4 hs;refine oR 12 [(40,.bool bh),(39,.no),(38,.no),(37,.no),(36,.no),(35,.no),(34,.no),(33,.no),(32,.no),(31,.no),(30,.no),(29,.no)] kr ?_;refine oN ?_;obtain rfl:=si hs;refine zq (q1.1,y1.1,bh) rfl ?_;exact zm [0,3,5,10,11,40] [1000000] kr kr kr
      .replace hs:=xg h3 hs;refine oR 19 [(40,.bool bh),(39,.no),(38,.no),(37,.no),(36,.no),(35,.no),(34,.no),(33,.no),(32,.no),(31,.no),(30,.no),(29,.no),(28,.bool bh),(27,.bool bh),(26,.no),(25,.no),(24,.no),(23,.no),(22,.no)] kr ?_;refine oN ?_;obtain rfl:=si hs;refine zq (q1.1,y1.1,bh) rfl ?_;exact zm [0,3,5,10,11,40] [1000000] kr kr kr
     .subst hz;clear hs;have hs:=nt;clear nt;refine nT ?_;obtain⟨z4,hs,sA⟩:=bS hs;refine xE (S:=(List Sr)) (λu=>u=z4) (λu=>[(0,.ptr 1000000 0 0),(3,nz 1 (mS u)),(10,.int .i64 (ba gW:Int)),(11,.int .i64 q1.2.1)]) (λu=>[(1000000,.box 196 [.vs 6 (mM ze y1.2.1),.vs 1 (lH y1.2.2)])]) ?_ (λv4 hz=>?_)
      .refine yy v3.2.2 kr (λh6=>?_) (λh6=>?_)
       .replace hs:=xg h6 hs;refine vT (oR 2 [(3,nz 1 (mS v3.2.1)),(41,nz 1 (mS v3.2.1))] kr ?_);refine oN ?_;obtain rfl:=si hs;refine zq v3.2.1 rfl ?_;exact zm [0,3,10,11] [1000000] kr kr kr
       .replace hs:=xh h6 hs;refine vK ?_;obtain rfl:=si hs;refine zq v3.1 rfl ?_;exact zm [0,3,10,11] [1000000] kr kr kr
      .subst hz;clear hs;have hs:=sA;clear sA;refine nB ?_;obtain rfl:=si hs;refine zq (v4,y1.2.1,y1.2.2) rfl ?_;exact zm [0,3,10,11] [1000000] kr kr kr
   .subst hz;clear hs;have hs:=my;clear my;refine nT (vT (oR 2 [(11,.int .i64 (aD (q1.2.1+1))),(42,.int .i64 (aD (q1.2.1+1)))] kr ?_));refine oN (xn (v2.1,(aD (q1.2.1+1)),v2.2.1,v2.2.2) hs ?_);exact zm [0,3,10,11] [1000000] kr kr kr
  .replace hs:=xh h1 hs;refine kN (yx (yV ?_));refine yU ?_;obtain rfl:=si hs;refine zq (q1.1,q1.2.2.1,q1.2.2.2) rfl ?_;exact zm [3] [1000000] kr kr kr
 .subst hz;clear hs;have hs:=l6;clear l6;refine nT (vS (vT (oR 2 [(2,nz 1 (mS v1.1)),(43,nz 1 (mS v1.1))] kr ?_)));refine oN (nT (vc ?_));cases hs;exact yf kr kr kr
def abH(k:Int)(a1:(List Bool))(r:Bool×(List Bool))(hs:xp k a1=aY r):mz bk 115 [.int .i64 k,.ptr 1000000 0 0] [(1000000,.box 201 [.sl 1 1000001 ((a1).length) 0 ((a1).length)]),(1000001,.row 4 1 0 (mB a1))] (.bool r.1) [(1000001,.row 4 1 0 (mB r.2)),(1000000,.box 201 [.sl 1 1000001 ((r.2).length) 0 ((r.2).length)])]:=by
 refine yo (N:=9) Tryz.func115 rfl rfl rfl λmT=>?_
 unfold xp at hs;refine vX (ρ':=[(0,.int .i64 k),(1,.ptr 1000000 0 0)]) rfl rfl ?_;refine vS (vT (oR 1 [(3,.bool bf)] kr ?_));refine oN (nT (vS (vT (oR 2 [(5,.int .i64 k),(4,.sl 1 1000001 ((a1).length) 0 ((a1).length))] kr ?_))));obtain⟨⟨rD,ta⟩,hs⟩:=bG hs;refine oP (v:=.ptr 1000001 ((a1).length) ((bj k)*1+0)) kr kr (yR (e:=4) (sz:=1) (kk:=1000001) (L:=(a1).length) (n:=(a1).length) (k:=.i64) (i:=k) kr kr kr rD ta) ?_;obtain⟨e1,DU,hs⟩:=bE hs;refine vw (F:=[(1000001,.row 4 1 0 (mB a1))]) (F':=[(1000001,.row 4 1 0 (mB a1))]) (v:=.bool e1) [1000001] kr kr rfl kr (uI (L:=(a1).length) (off:=(bj k)*1+0) (els:=(mB a1)) (cs:=[.bool e1]) (bj k) 0 kr lh rfl (by rw[<- DU];exact yI _ (by first|omega|(simp only[cb,zX];omega))) kr) kr ?_;refine oR 2 [(3,.bool (!e1)),(8,.bool (!e1))] kr ?_;refine oN (nT (vc ?_));cases hs;exact yf kr kr kr
def ab6(s:(List Int))(k:(List Bool))(r:Int×(List Bool))(hs:yE s k=aY r):mz bk 184 [.vs 1 (mI s),.fn 115 [] [.ptr 1000000 0 0]] [(1000000,.box 201 [.sl 1 1000001 ((k).length) 0 ((k).length)]),(1000001,.row 4 1 0 (mB k))] (.int .i64 r.1) [(1000001,.row 4 1 0 (mB r.2)),(1000000,.box 201 [.sl 1 1000001 ((r.2).length) 0 ((r.2).length)])]:=by
 refine yo (N:=19) Tryz.func184 rfl rfl rfl λmT=>?_
 unfold yE at hs;refine vX (ρ':=[(0,.vs 1 (mI s)),(1,.fn 115 [] [.ptr 1000000 0 0])]) rfl rfl ?_;refine vS (vT (oR 1 [(4,.int .i64 0)] kr ?_));refine oN (nT (vS (vS (vT (oR 1 [(6,.vs 1 (mI s))] kr ?_)))));refine oP (v:=.int .i64 (ba s:Int)) kr kr (yz (sz:=1) (els:=(mI s)) kr kr lM) ?_;refine oR 1 [(8,.int .i64 0)] kr ?_;refine oN (nT ?_);obtain⟨z1,hs,l6⟩:=bS hs;refine xE (S:=(List Bool)) (λu=>z1=.inr u) (λu=>[]) (λu=>[(1000000,.box 201 [.sl 1 1000001 ((u).length) 0 ((u).length)]),(1000001,.row 4 1 0 (mB u))]) ?_ (λv1 hz=>?_)
 .refine vB ?_;refine j4 (S:=Int×(List Bool)) (λu=>[(0,.vs 1 (mI s)),(1,.fn 115 [] [.ptr 1000000 0 0]),(7,.int .i64 (ba s:Int)),(8,.int .i64 u.1)]) (λu=>[(1000000,.box 201 [.sl 1 1000001 ((u.2).length) 0 ((u.2).length)]),(1000001,.row 4 1 0 (mB u.2))]) (zu s) (λ_=>rfl) KK (0,k) hs (zm [0,1,7,8] [1000000,1000001] kr kr kr) (λK1 q1 hs=>?_);rw[zu]at hs
  show l9 mT bk bg 19 _ _ [(0,.vs 1 (mI s)),(1,.fn 115 [] [.ptr 1000000 0 0]),(7,.int .i64 (ba s:Int)),(8,.int .i64 q1.1)] [(1000000,.box 201 [.sl 1 1000001 ((q1.2).length) 0 ((q1.2).length)]),(1000001,.row 4 1 0 (mB q1.2))] []
  refine vS (vT (oR 1 [(9,.bool (decide (q1.1<(ba s:Int))))] kr ?_));refine oN (nT (vS ?_));refine yy (decide (q1.1<(ba s:Int))) kr (λh1=>?_) (λh1=>?_)
  .replace hs:=xg h1 hs;refine vK (nT (vS (vB (vS (vT (oR 2 [(5,.int .i64 q1.1),(10,.int .i64 q1.1)] kr ?_))))));refine oN (nT (vS (vT (oR 3 [(13,.int .i64 q1.1),(12,.vs 1 (mI s)),(11,.fn 115 [] [.ptr 1000000 0 0])] kr ?_))));obtain⟨x1,g1,hs⟩:=bS hs;obtain⟨rD,ta,sL⟩:=yJ g1;refine oP (v:=.vp [.int .i64 x1] 0) kr kr (zM (e:=3) (sz:=1) (k:=.i64) (els:=(mI s)) (cs:=(EV.encI x1)) kr kr kr rD (by rw[sL];exact yI _ ab)) ?_;refine oR 1 [(15,.int .i64 x1)] kr ?_;obtain⟨y1,c1,hs⟩:=bS hs;refine vw (F:=[(1000000,.box 201 [.sl 1 1000001 ((q1.2).length) 0 ((q1.2).length)]),(1000001,.row 4 1 0 (mB q1.2))]) (F':=[(1000001,.row 4 1 0 (mB y1.2)),(1000000,.box 201 [.sl 1 1000001 ((y1.2).length) 0 ((y1.2).length)])]) (v:=.bool y1.1) [1000000,1000001] kr kr rfl kr (Wz (R:=[]) [.int .i64 x1,.ptr 1000000 0 0] [(1000000,1000000),(1000001,1000001)] (zgv (first:=[]) (caps:=[.ptr 1000000 0 0]) zI0 kr kr) (abH x1 q1.2 _ c1) (.cons (.same _) (.cons (.same _) (.nil))) kr kr kr kr kr kr kr kr) kr ?_;refine oN (nT ?_);refine yy y1.1 kr (λh2=>?_) (λh2=>?_)
   .replace hs:=xg h2 hs;refine vS (vT (oR 2 [(4,.int .i64 q1.1),(17,.int .i64 q1.1)] kr ?_));refine oN (nT (vc (rB (rT (oq ?_)))));refine rB (AM ?_);refine rT ?_;obtain rfl:=si hs;replace hs:=l6;cases hs;exact yf kr kr kr
   .replace hs:=xh h2 hs;refine vK (nB (nT (vT (oR 2 [(8,.int .i64 (aD (q1.1+1))),(18,.int .i64 (aD (q1.1+1)))] kr ?_))));refine oN (xn ((aD (q1.1+1)),y1.2) hs ?_);exact zm [0,1,7,8] [1000000,1000001] kr kr kr
  .replace hs:=xh h1 hs;refine kN (yx (yV ?_));refine yU ?_;obtain rfl:=si hs;refine zq q1.2 rfl ?_;exact zm [] [1000000,1000001] kr kr kr
 .subst hz;clear hs;have hs:=l6;clear l6;refine nT (vS (vT (oR 1 [(4,.int .i64 (-1))] kr ?_)));refine oN (nT (vc ?_));cases hs;exact yf kr kr kr
def abA(s:(List Int))(k:(List Bool))(r:Bool×(List Bool))(hs:zO s k=aY r):mz bk 114 [.vs 1 (mI s),.fn 115 [] [.ptr 1000000 0 0]] [(1000000,.box 201 [.sl 1 1000001 ((k).length) 0 ((k).length)]),(1000001,.row 4 1 0 (mB k))] (.bool r.1) [(1000001,.row 4 1 0 (mB r.2)),(1000000,.box 201 [.sl 1 1000001 ((r.2).length) 0 ((r.2).length)])]:=by
 refine yo (N:=9) Tryz.func114 rfl rfl rfl λmT=>?_
 unfold zO at hs;refine vX (ρ':=[(0,.vs 1 (mI s)),(1,.fn 115 [] [.ptr 1000000 0 0])]) rfl rfl ?_;refine vS (vT (oR 1 [(4,.bool bf)] kr ?_));refine oN (nT (vS (vT (oR 2 [(6,.fn 115 [] [.ptr 1000000 0 0]),(5,.vs 1 (mI s))] kr ?_))));obtain⟨y1,c1,hs⟩:=bS hs;refine vw (F:=[(1000000,.box 201 [.sl 1 1000001 ((k).length) 0 ((k).length)]),(1000001,.row 4 1 0 (mB k))]) (F':=[(1000001,.row 4 1 0 (mB y1.2)),(1000000,.box 201 [.sl 1 1000001 ((y1.2).length) 0 ((y1.2).length)])]) (v:=.int .i64 y1.1) [1000000,1000001] kr kr rfl kr (Wz (R:=[]) [.vs 1 (mI s),.fn 115 [] [.ptr 1000000 0 0]] [(1000000,1000000),(1000001,1000001)] (zP zI1 kr) (ab6 s k _ c1) (.cons (.same _) (.cons (.same _) (.nil))) kr kr kr kr kr kr kr kr) kr ?_;refine oR 2 [(4,.bool (decide (y1.1>=0))),(8,.bool (decide (y1.1>=0)))] kr ?_;refine oN (nT (vc ?_));cases hs;exact yf kr kr kr
def ab4(gW:(List Def))(iy:(List (List Int)))(r:(List Int)×(List Def)×(List (List Int)))(hs:xa gW iy=aY r):mz bk 30 [.ptr 1000000 0 0] [(1000000,.box 196 [.vs 6 (mM ze gW),.vs 1 (cQ (Bc 1 EV.encI) iy)])] (.vs 1 (mI r.1)) [(1000000,.box 196 [.vs 6 (mM ze r.2.1),.vs 1 (cQ (Bc 1 EV.encI) r.2.2)])]:=by
 refine yo (N:=78) Tryz.func30 rfl rfl rfl λmT=>?_
 unfold xa at hs;refine vX (ρ':=[(0,.ptr 1000000 0 0)]) rfl rfl ?_;refine vS (vT (oR 1 [(2,.gg)] kr ?_));refine oN (nT (vS (vT (oR 4 [(12,.vs 6 (mM ze gW)),(11,.ptr 1000000 0 0),(10,.ptr 1000000 0 0),(9,.ptr 1000000 0 0)] kr ?_))));refine oP (v:=.int .i64 (ba gW:Int)) kr kr (yz (sz:=6) (els:=(mM ze gW)) kr kr lM) ?_;obtain⟨⟨rD,ta,sL⟩,hs⟩:=bG hs;refine vw (F:=[]) (F':=[(14,.row 4 1 0 (mB (uR gW (bf:Bool))))]) (v:=.sl 1 14 (((uR gW (bf:Bool))).length) 0 (((uR gW (bf:Bool))).length)) [] kr kr rfl kr (oK (L:=((uR gW (bf:Bool))).length) (e:=4) (sz:=1) (bytes:=1) (q:=(ba gW:Int)) (k:=.i64) (k2:=.i64) (cs:=[.bool bf]) (cs2:=[.bool bf]) kr kr kr kr kr rD ta sL (fg (f:=EV.aak)).symm (eL ..) (λ_ _ h=>h)) kr ?_;refine j3 2 [(3,.ptr 3 0 0)] [(3,.box 201 [.sl 1 14 (((uR gW (bf:Bool))).length) 0 (((uR gW (bf:Bool))).length)]),(14,.row 4 1 0 (mB (uR gW (bf:Bool)))),(1000000,.box 196 [.vs 6 (mM ze gW),.vs 1 (lH iy)])] kr ?_;refine oN (nT (vS (vT (oR 1 [(4,.gg)] kr ?_))));refine oN (nT (vS (vS (vT (oR 4 [(18,.vs 6 (mM ze gW)),(17,.ptr 1000000 0 0),(16,.ptr 1000000 0 0),(15,.ptr 1000000 0 0)] kr ?_)))));refine oP (v:=.int .i64 (ba gW:Int)) kr kr (yz (sz:=6) (els:=(mM ze gW)) kr kr lM) ?_;refine oR 1 [(20,.int .i64 0)] kr ?_;refine oN (nT ?_);obtain⟨z1,hs,l6⟩:=bS hs;refine xE (S:=(List Int)) (λu=>u=z1) (λu=>[(4,.sl 1 2000072 ((u).length) 0 ((u).length))]) (λu=>[(1000000,.box 196 [.vs 6 (mM ze gW),.vs 1 (lH iy)]),(2000072,.row 3 1 0 (mI u))]) ?_ (λv1 hz=>?_)
 .refine vB ?_;refine j4 (S:=Int×(List Bool)×(List Int)) (λu=>[(0,.ptr 1000000 0 0),(3,.ptr 3 0 0),(4,.sl 1 2000072 ((u.2.2).length) 0 ((u.2.2).length)),(19,.int .i64 (ba gW:Int)),(20,.int .i64 u.1)]) (λu=>[(3,.box 201 [.sl 1 14 ((u.2.1).length) 0 ((u.2.1).length)]),(14,.row 4 1 0 (mB u.2.1)),(1000000,.box 196 [.vs 6 (mM ze gW),.vs 1 (lH iy)]),(2000072,.row 3 1 0 (mI u.2.2))]) (zQ gW iy) (λ_=>rfl) KK (0,(uR gW (bf:Bool)),[]) hs (Cut.trans (Va 4 2000072 3 1 rfl kr kr) (zm [0,3,4,19,20] [3,14,1000000,2000072] kr kr kr)) (λK1 q1 hs=>?_);rw[zQ]at hs
  show l9 mT bk bg 78 _ _ [(0,.ptr 1000000 0 0),(3,.ptr 3 0 0),(4,.sl 1 2000072 ((q1.2.2).length) 0 ((q1.2.2).length)),(19,.int .i64 (ba gW:Int)),(20,.int .i64 q1.1)] [(3,.box 201 [.sl 1 14 ((q1.2.1).length) 0 ((q1.2.1).length)]),(14,.row 4 1 0 (mB q1.2.1)),(1000000,.box 196 [.vs 6 (mM ze gW),.vs 1 (lH iy)]),(2000072,.row 3 1 0 (mI q1.2.2))] []
  refine vS (vT (oR 1 [(21,.bool (decide (q1.1<(ba gW:Int))))] kr ?_));refine oN (nT (vS ?_));refine yy (decide (q1.1<(ba gW:Int))) kr (λh1=>?_) (λh1=>?_)
  .replace hs:=xg h1 hs;refine vK (nT (vS (vB (vS (vT (oR 1 [(5,.int .i64 (-1))] kr ?_))))));refine oN (nT (vS (vS (vT (oR 4 [(25,.vs 1 (lH iy)),(24,.ptr 1000000 0 1),(23,.ptr 1000000 0 0),(22,.ptr 1000000 0 0)] kr ?_)))));refine oP (v:=.int .i64 (ba iy:Int)) kr kr (yz (sz:=1) (els:=(lH iy)) kr kr lM) ?_;refine oR 1 [(27,.int .i64 0)] kr ?_;refine oN (nT ?_);obtain⟨z2,hs,my⟩:=bS hs;refine xE (S:=Int×(List Bool)) (λu=>u=z2) (λu=>[(0,.ptr 1000000 0 0),(3,.ptr 3 0 0),(4,.sl 1 2000072 ((q1.2.2).length) 0 ((q1.2.2).length)),(5,.int .i64 u.1),(19,.int .i64 (ba gW:Int)),(20,.int .i64 q1.1)]) (λu=>[(3,.box 201 [.sl 1 14 ((u.2).length) 0 ((u.2).length)]),(14,.row 4 1 0 (mB u.2)),(1000000,.box 196 [.vs 6 (mM ze gW),.vs 1 (lH iy)]),(2000072,.row 3 1 0 (mI q1.2.2))]) ?_ (λv2 hz=>?_)
   .refine vB ?_;refine j4 (S:=Int×Int×(List Bool)) (λu=>[(0,.ptr 1000000 0 0),(3,.ptr 3 0 0),(4,.sl 1 2000072 ((q1.2.2).length) 0 ((q1.2.2).length)),(5,.int .i64 u.1),(19,.int .i64 (ba gW:Int)),(20,.int .i64 q1.1),(25,.vs 1 (lH iy)),(26,.int .i64 (ba iy:Int)),(27,.int .i64 u.2.1)]) (λu=>[(3,.box 201 [.sl 1 14 ((u.2.2).length) 0 ((u.2.2).length)]),(14,.row 4 1 0 (mB u.2.2)),(1000000,.box 196 [.vs 6 (mM ze gW),.vs 1 (lH iy)]),(2000072,.row 3 1 0 (mI q1.2.2))]) (zH gW iy) (λ_=>rfl) KK ((-1),0,q1.2.1) hs (zm [0,3,4,5,19,20,25,26,27] [3,14,1000000,2000072] kr kr kr) (λK2 q2 hs=>?_);rw[zH]at hs
    show l9 mT bk bg 78 _ _ [(0,.ptr 1000000 0 0),(3,.ptr 3 0 0),(4,.sl 1 2000072 ((q1.2.2).length) 0 ((q1.2.2).length)),(5,.int .i64 q2.1),(19,.int .i64 (ba gW:Int)),(20,.int .i64 q1.1),(25,.vs 1 (lH iy)),(26,.int .i64 (ba iy:Int)),(27,.int .i64 q2.2.1)] [(3,.box 201 [.sl 1 14 ((q2.2.2).length) 0 ((q2.2.2).length)]),(14,.row 4 1 0 (mB q2.2.2)),(1000000,.box 196 [.vs 6 (mM ze gW),.vs 1 (lH iy)]),(2000072,.row 3 1 0 (mI q1.2.2))] []
    refine vS (vT (oR 1 [(28,.bool (decide (q2.2.1<(ba iy:Int))))] kr ?_));refine oN (nT (vS ?_));refine yy (decide (q2.2.1<(ba iy:Int))) kr (λh2=>?_) (λh2=>?_)
    .replace hs:=xg h2 hs;refine vK (nT (vS (vB (vS (vT (oR 1 [(29,.int .i64 q2.2.1)] kr ?_))))));obtain⟨x1,g2,hs⟩:=bS hs;obtain⟨t_,CK,BX⟩:=yJ g2;refine oP (v:=.vp [.vs 1 (mI x1)] 0) kr kr (zM (e:=53) (sz:=1) (k:=.i64) (els:=(lH iy)) (cs:=(eI x1)) kr kr kr t_ (by rw[BX];exact yI _ ab)) ?_;refine oR 3 [(7,.vs 1 (mI x1)),(6,.int .i64 q2.2.1),(31,.vs 1 (mI x1))] kr ?_;refine oN (nT (vS (vT (oR 2 [(33,.fn 115 [] [.ptr 3 0 0]),(32,.vs 1 (mI x1))] kr ?_))));obtain⟨y1,c1,hs⟩:=bS hs;refine vw (F:=[(3,.box 201 [.sl 1 14 ((q2.2.2).length) 0 ((q2.2.2).length)]),(14,.row 4 1 0 (mB q2.2.2))]) (F':=[(14,.row 4 1 0 (mB y1.2)),(3,.box 201 [.sl 1 14 ((y1.2).length) 0 ((y1.2).length)])]) (v:=.bool y1.1) [3,14] kr kr rfl kr (Wz (R:=[]) [.vs 1 (mI x1),.fn 115 [] [.ptr 3 0 0]] [(1000000,3),(1000001,14)] (zP zI2 kr) (abA x1 q2.2.2 _ c1) (.cons (.same _) (.cons (.same _) (.nil))) kr kr kr kr kr kr kr kr) kr ?_;refine oR 1 [(8,.bool y1.1)] kr ?_;refine oN (nT (vS ?_));obtain⟨z3,hs,nt⟩:=bS hs;refine xE (S:=Bool) (λu=>u=z3) (λu=>[(0,.ptr 1000000 0 0),(3,.ptr 3 0 0),(4,.sl 1 2000072 ((q1.2.2).length) 0 ((q1.2.2).length)),(5,.int .i64 q2.1),(6,.int .i64 q2.2.1),(19,.int .i64 (ba gW:Int)),(20,.int .i64 q1.1),(25,.vs 1 (lH iy)),(26,.int .i64 (ba iy:Int)),(27,.int .i64 q2.2.1),(66,.bool u)]) (λu=>[(14,.row 4 1 0 (mB y1.2)),(3,.box 201 [.sl 1 14 ((y1.2).length) 0 ((y1.2).length)]),(1000000,.box 196 [.vs 6 (mM ze gW),.vs 1 (lH iy)]),(2000072,.row 3 1 0 (mI q1.2.2))]) ?_ (λv3 hz=>?_)
     .refine IG M1 kr ?_;refine vG 2 0 [(36,.int .i64 q2.2.1),(35,.sl 1 14 ((y1.2).length) 0 ((y1.2).length))] [.m 1 [] [],.m 0 [] [3]] kr kr ?_;obtain⟨⟨DH,GD⟩,hs⟩:=bG hs;refine Kj (v:=.ptr 14 ((y1.2).length) ((bj q2.2.1)*1+0)) 2 rfl rfl rfl rfl kr kr (yR (e:=4) (sz:=1) (kk:=14) (L:=(y1.2).length) (n:=(y1.2).length) (k:=.i64) (i:=q2.2.1) kr kr kr DH GD) ?_;obtain⟨e1,DU,hs⟩:=bE hs;refine Bz (F:=[]) (R:=[(14,.row 4 1 0 (mB y1.2))]) (F':=[]) (v:=.bool e1) 3 [] [14] rfl rfl rfl rfl kr kr kr kr kr kr kr kr (uI (L:=(y1.2).length) (off:=(bj q2.2.1)*1+0) (els:=(mB y1.2)) (cs:=[.bool e1]) (bj q2.2.1) 0 kr lh rfl (by rw[<- DU];exact yI _ (by first|omega|(simp only[cb,zX];omega))) kr) ?_;refine vG 2 4 [(40,.bool (!e1)),(39,.bool (!e1))] (rJ 2 5) kr kr ?_;cases h3:((!e1))
      .replace hs:=xh h3 hs;refine vG 26 6 [(66,.bool bf),(65,.no),(64,.no),(63,.no),(62,.no),(61,.no),(60,.no),(59,.no),(58,.no),(57,.no),(56,.no),(55,.no),(54,.no),(53,.no),(52,.no),(51,.no),(50,.no),(49,.no),(48,.no),(47,.no),(46,.no),(45,.no),(44,.bool bf),(43,.bool bf),(42,.no),(41,.no)] (rJ 26 31) kr kr ?_;refine By kr ?_;cases hs;refine zq bf rfl ?_;exact zm [0,3,4,5,6,19,20,25,26,27,66] [14,3,1000000,2000072] kr kr kr
      .replace hs:=xg h3 hs;refine vG 4 6 [(44,.bool (!y1.1)),(43,.bool (!y1.1)),(42,.bool (!y1.1)),(41,.bool y1.1)] (rJ 4 9) kr kr ?_;cases h4:((!y1.1))
       .replace hs:=xh h4 hs;refine vG 22 10 [(66,.bool bf),(65,.no),(64,.no),(63,.no),(62,.no),(61,.no),(60,.no),(59,.no),(58,.no),(57,.no),(56,.no),(55,.no),(54,.no),(53,.no),(52,.no),(51,.no),(50,.no),(49,.no),(48,.no),(47,.no),(46,.no),(45,.no)] (rJ 22 31) kr kr ?_;refine By kr ?_;cases hs;refine zq bf rfl ?_;exact zm [0,3,4,5,6,19,20,25,26,27,66] [14,3,1000000,2000072] kr kr kr
       .replace hs:=xg h4 hs;refine vG 3 10 [(47,.bool (decide (q2.1<0))),(46,.bool (decide (q2.1<0))),(45,.int .i64 q2.1)] (rJ 3 12) kr kr ?_;cases h5:((decide (q2.1<0)))
        .replace hs:=xh h5 hs;refine vG 5 13 [(52,.int .i64 q2.2.1),(51,.vs 6 (mM ze gW)),(50,.ptr 1000000 0 0),(49,.ptr 1000000 0 0),(48,.ptr 1000000 0 0)] [.m 17 [] [],.m 16 [] [1000000],.m 15 [] [],.m 14 [] [],.m 13 [] []] kr kr ?_;obtain⟨x2,g4,hs⟩:=bS hs;obtain⟨DJ,Oa,DK⟩:=yJ g4;refine Kj (v:=.vp (ze x2) 0) 18 rfl rfl rfl rfl kr kr (zM (e:=68) (sz:=6) (k:=.i64) (els:=(mM ze gW)) (cs:=(ze x2)) kr kr kr DJ (by rw[DK];exact yI _ ab)) ?_;refine vG 7 19 [(60,.int .i64 q2.1),(59,.vs 6 (mM ze gW)),(58,.ptr 1000000 0 0),(57,.ptr 1000000 0 0),(56,.ptr 1000000 0 0),(55,.str x2.aK),(54,.vp (ze x2) 0)] [.m 25 [] [],.m 24 [] [1000000],.m 23 [] [],.m 22 [] [],.m 21 [] [],.m 20 [] [],.m 19 [] []] kr kr ?_;obtain⟨x3,g5,hs⟩:=bS hs;obtain⟨DL,GG,Ob⟩:=yJ g5;refine Kj (v:=.vp (ze x3) 0) 26 rfl rfl rfl rfl kr kr (zM (e:=68) (sz:=6) (k:=.i64) (els:=(mM ze gW)) (cs:=(ze x3)) kr kr kr DL (by rw[Ob];exact yI _ ab)) ?_;refine vG 5 27 [(66,.bool (Op.bytesLess x2.aK x3.aK)),(65,.bool (Op.bytesLess x2.aK x3.aK)),(64,.bool (Op.bytesLess x2.aK x3.aK)),(63,.str x3.aK),(62,.vp (ze x3) 0)] (rJ 5 31) kr kr ?_;refine By kr ?_;obtain rfl:=si hs;refine zq (Op.bytesLess x2.aK x3.aK) rfl ?_;exact zm [0,3,4,5,6,19,20,25,26,27,66] [14,3,1000000,2000072] kr kr kr
        .replace hs:=xg h5 hs;refine vG 19 13 [(66,.bool bh),(65,.bool bh),(64,.no),(63,.no),(62,.no),(61,.no),(60,.no),(59,.no),(58,.no),(57,.no),(56,.no),(55,.no),(54,.no),(53,.no),(52,.no),(51,.no),(50,.no),(49,.no),(48,.no)] (rJ 19 31) kr kr ?_;refine By kr ?_;cases hs;refine zq bh rfl ?_;exact zm [0,3,4,5,6,19,20,25,26,27,66] [14,3,1000000,2000072] kr kr kr
     .subst hz;clear hs;have hs:=nt;clear nt;refine nT ?_;obtain⟨z4,hs,sA⟩:=bS hs;refine xE (S:=Int) (λu=>u=z4) (λu=>[(0,.ptr 1000000 0 0),(3,.ptr 3 0 0),(4,.sl 1 2000072 ((q1.2.2).length) 0 ((q1.2.2).length)),(5,.int .i64 u),(19,.int .i64 (ba gW:Int)),(20,.int .i64 q1.1),(25,.vs 1 (lH iy)),(26,.int .i64 (ba iy:Int)),(27,.int .i64 q2.2.1)]) (λu=>[(14,.row 4 1 0 (mB y1.2)),(3,.box 201 [.sl 1 14 ((y1.2).length) 0 ((y1.2).length)]),(1000000,.box 196 [.vs 6 (mM ze gW),.vs 1 (lH iy)]),(2000072,.row 3 1 0 (mI q1.2.2))]) ?_ (λv4 hz=>?_)
      .refine yy v3 kr (λh6=>?_) (λh6=>?_)
       .replace hs:=xg h6 hs;refine vT (oR 2 [(5,.int .i64 q2.2.1),(67,.int .i64 q2.2.1)] kr ?_);refine oN ?_;obtain rfl:=si hs;refine zq q2.2.1 rfl ?_;exact zm [0,3,4,5,19,20,25,26,27] [14,3,1000000,2000072] kr kr kr
       .replace hs:=xh h6 hs;refine vK ?_;obtain rfl:=si hs;refine zq q2.1 rfl ?_;exact zm [0,3,4,5,19,20,25,26,27] [14,3,1000000,2000072] kr kr kr
      .subst hz;clear hs;have hs:=sA;clear sA;refine nB (nT (vT (oR 2 [(27,.int .i64 (aD (q2.2.1+1))),(68,.int .i64 (aD (q2.2.1+1)))] kr ?_)));refine oN (xn (v4,(aD (q2.2.1+1)),y1.2) hs ?_);exact zm [0,3,4,5,19,20,25,26,27] [3,14,1000000,2000072] kr kr kr
    .replace hs:=xh h2 hs;refine kN (yx (yV ?_));refine yU ?_;obtain rfl:=si hs;refine zq (q2.1,q2.2.2) rfl ?_;exact zm [0,3,4,5,19,20] [3,14,1000000,2000072] kr kr kr
   .subst hz;clear hs;have hs:=my;clear my;refine nT (vS (vT (oR 2 [(70,.int .i64 v2.1),(69,.sl 1 14 ((v2.2).length) 0 ((v2.2).length))] kr ?_)));obtain⟨⟨GH,Lg⟩,hs⟩:=bG hs;refine oP (v:=.ptr 14 ((v2.2).length) ((bj v2.1)*1+0)) kr kr (yR (e:=4) (sz:=1) (kk:=14) (L:=(v2.2).length) (n:=(v2.2).length) (k:=.i64) (i:=v2.1) kr kr kr GH Lg) ?_;obtain⟨e2,GW,hs⟩:=bE hs;refine vw (F:=[(14,.row 4 1 0 (mB v2.2))]) (F':=[(14,.row 4 1 0 (mB (cD v2.2 (bj v2.1) bh)))]) (v:=.no) [14] kr kr rfl kr (AO (L:=(v2.2).length) (off:=(bj v2.1)*1+0) (els:=(mB v2.2)) (cs:=[.bool e2]) (c':=[.bool bh]) (bj v2.1) 0 kr lh rfl (by rw[<- GW];exact yI _ (by first|omega|(simp only[cb,zX];omega))) (by first|exact cH _|omega) kr kr kr kr kr kr List.map_set.symm) kr ?_;refine oN (nT (vT (j3 3 [(74,.sl 1 74 1 0 1),(73,.int .i64 v2.1),(72,.sl 1 2000072 ((q1.2.2).length) 0 ((q1.2.2).length))] [(74,.row 3 1 0 (mI [v2.1])),(14,.row 4 1 0 (mB (cD v2.2 (bj v2.1) bh))),(3,.box 201 [.sl 1 14 ((v2.2).length) 0 ((v2.2).length)]),(1000000,.box 196 [.vs 6 (mM ze gW),.vs 1 (lH iy)]),(2000072,.row 3 1 0 (mI q1.2.2))] kr ?_)));obtain⟨_,g7,hs⟩:=bS hs;replace g7:=yY g7;refine vw (F:=[(2000072,.row 3 1 0 (mI q1.2.2)),(74,.row 3 1 0 (mI [v2.1]))]) (F':=[(2000072,.row 3 1 0 (mI (q1.2.2++[v2.1]))),(74,.row 3 1 0 (mI [v2.1]))]) (v:=.sl 1 2000072 (((q1.2.2++[v2.1])).length) 0 (((q1.2.2++[v2.1])).length)) [2000072,74] kr kr rfl kr (AN (e:=3) (sz:=1) (bytes:=8) (L:=(q1.2.2).length) (els:=(mI q1.2.2)) (ys:=(mI [v2.1])) kr kr (by first|exact bM ..|rfl) (.sl (t:=3) (fz:=0) (ys:=(mI [v2.1])) kr kr) (JJ EV.encI (λ_=>rfl) _) (JK EV.encI (λ_=>rfl) _) kr (by first|exact(cX ..).symm|rfl|simp only[dC,cw]) (bM ..) g7 ab) kr ?_;refine oR 1 [(4,.sl 1 2000072 (((q1.2.2++[v2.1])).length) 0 (((q1.2.2++[v2.1])).length))] kr ?_;refine oN (nB (nT (vT (oR 2 [(20,.int .i64 (aD (q1.1+1))),(76,.int .i64 (aD (q1.1+1)))] kr ?_))));refine oN (xn ((aD (q1.1+1)),(cD v2.2 (bj v2.1) bh),(q1.2.2++[v2.1])) hs ?_);exact Cut.trans (W8 (H1:=[(2000072,.row 3 1 0 (mI (q1.2.2++[v2.1]))),(74,.row 3 1 0 (mI [v2.1])),(14,.row 4 1 0 (mB (cD v2.2 (bj v2.1) bh))),(3,.box 201 [.sl 1 14 ((v2.2).length) 0 ((v2.2).length)]),(1000000,.box 196 [.vs 6 (mM ze gW),.vs 1 (lH iy)])]) rfl kr) (Cut.trans (W8 (H1:=[(2000072,.row 3 1 0 (mI (q1.2.2++[v2.1]))),(74,.row 3 1 0 (mI [v2.1])),(14,.row 4 1 0 (mB (cD v2.2 (bj v2.1) bh))),(3,.box 201 [.sl 1 14 (((cD v2.2 (bj v2.1) bh)).length) 0 (((cD v2.2 (bj v2.1) bh)).length)]),(1000000,.box 196 [.vs 6 (mM ze gW),.vs 1 (lH iy)])]) rfl (by first|(simp only[cb,zX];done)|rfl)) (zm [0,3,4,19,20] [3,14,1000000,2000072] kr kr kr))
  .replace hs:=xh h1 hs;refine kN (yx (yV ?_));refine yU ?_;obtain rfl:=si hs;refine zq q1.2.2 rfl ?_;exact zm [4] [1000000,2000072] kr kr kr
 .subst hz;clear hs;have hs:=l6;clear l6;refine nT (vS (vT (oR 2 [(2,.sl 1 2000072 ((v1).length) 0 ((v1).length)),(77,.sl 1 2000072 ((v1).length) 0 ((v1).length))] kr ?_)));refine oN (nT (ry _ [(2000072,.row 3 1 (((mI v1)).length) (mI v1)),(1000000,.box 196 [.vs 6 (mM ze gW),.vs 1 (lH iy)])] (j8 (F:=[(2000072,.row 3 1 0 (mI v1))]) [2000072] rfl kr kr) ?_));refine ry ((2,.vs 1 (mI v1))::_) _ (jd (R:=[(2000072,.row 3 1 (((mI v1)).length) (mI v1))]) (ks:=[2000072]) kr kr (.row (t:=3) (fz:=(((mI v1)).length)) kr lh)) ?_;refine vc ?_;cases hs;exact yf kr kr kr
def za1(p:yp)(r:(List Int)×(List Sr)×Int)(hs:vZ p=aY r):mz bk 9 [.agg (xo p)] [] (.iN [.vs 1 (mI r.1),.vs 1 (mS r.2.1),.int .i64 r.2.2]) []:=by
 refine yo (N:=47) Tryz.func9 rfl rfl rfl λmT=>?_
 unfold vZ at hs;refine vX (ρ':=[(0,.agg (xo p))]) rfl rfl ?_;refine vS (vT (j3 4 [(4,.int .i64 0),(3,.gg),(2,.gg),(1,.ptr 1 0 0)] [(1,.box 30 (xo p))] kr ?_));refine oN (nT (vS (vT (j3 2 [(5,.mp 12),(12,.mp 12)] [(12,.map (jC V.str V.bool [])),(1,.box 30 (xo p))] kr ?_))));refine oN (nT (vS (vS (vT ?_))));obtain⟨y1,c1,hs⟩:=bS hs;refine oP (v:=.vs 1 (mS y1)) kr kr (vx (zP ahk kr) (ach  _ c1) kr) ?_;refine oP (v:=.int .i64 (ba y1:Int)) kr kr (yz (sz:=1) (els:=(mS y1)) kr kr lM) ?_;refine oR 1 [(15,.int .i64 0)] kr ?_;refine oN (nT ?_);obtain⟨z1,hs,l6⟩:=bS hs;refine xE (S:=(List (Sr×Bool))) (λu=>u=z1) (λu=>[(1,.ptr 1 0 0),(5,.mp 12)]) (λu=>[(12,.map (jC V.str V.bool u)),(1,.box 30 (xo p))]) ?_ (λv1 hz=>?_)
 .refine vB ?_;refine j4 (S:=Int×(List (Sr×Bool))) (λu=>[(1,.ptr 1 0 0),(5,.mp 12),(13,.vs 1 (mS y1)),(14,.int .i64 (ba y1:Int)),(15,.int .i64 u.1)]) (λu=>[(12,.map (jC V.str V.bool u.2)),(1,.box 30 (xo p))]) (xd y1) (λ_=>rfl) KK (0,[]) hs (zm [1,5,13,14,15] [12,1] kr kr kr) (λK1 q1 hs=>?_);rw[xd]at hs
  show l9 mT bk bg 47 _ _ [(1,.ptr 1 0 0),(5,.mp 12),(13,.vs 1 (mS y1)),(14,.int .i64 (ba y1:Int)),(15,.int .i64 q1.1)] [(12,.map (jC V.str V.bool q1.2)),(1,.box 30 (xo p))] []
  refine vS (vT (oR 1 [(16,.bool (decide (q1.1<(ba y1:Int))))] kr ?_));refine oN (nT (vS ?_));refine yy (decide (q1.1<(ba y1:Int))) kr (λh1=>?_) (λh1=>?_)
  .replace hs:=xg h1 hs;refine vK (nT (vS (vB (vS (vT ?_)))));obtain⟨x1,g1,hs⟩:=bS hs;obtain⟨rD,ta,sL⟩:=yJ g1;refine oP (v:=.vp [.str x1] 0) kr kr (zM (e:=9) (sz:=1) (k:=.i64) (els:=(mS y1)) (cs:=(EV.encS x1)) kr kr kr rD (by rw[sL];exact yI _ ab)) ?_;refine oR 2 [(7,.str x1),(18,.str x1)] kr ?_;refine oN (nT (vT (oR 2 [(20,.str x1),(19,.mp 12)] kr ?_)));refine vw (F:=[(12,.map (jC V.str V.bool q1.2))]) (F':=[(12,.map (jC V.str V.bool (vW x1 bh q1.2)))]) (v:=.no) [12] kr kr rfl kr (jH (et:=4) (f:=V.str) (g:=V.bool) (l:=q1.2) (a:=x1) (c:=bh) kr FB kr kr kr kr kr) kr ?_;refine oN (nB (nT (vT (oR 2 [(15,.int .i64 (aD (q1.1+1))),(21,.int .i64 (aD (q1.1+1)))] kr ?_))));refine oN (xn ((aD (q1.1+1)),(vW x1 bh q1.2)) hs ?_);exact zm [1,5,13,14,15] [12,1] kr kr kr
  .replace hs:=xh h1 hs;refine kN (yx (yV ?_));refine yU ?_;obtain rfl:=si hs;refine zq q1.2 rfl ?_;exact zm [1,5] [12,1] kr kr kr
 .subst hz;clear hs;have hs:=l6;clear l6;refine nT (vS (vS (vT (oR 2 [(23,.vs 6 (mM ze p.aE)),(22,.ptr 1 0 0)] kr ?_))));refine oP (v:=.int .i64 (ba p.aE:Int)) kr kr (yz (sz:=6) (els:=(mM ze p.aE)) kr kr lM) ?_;refine oR 1 [(25,.int .i64 0)] kr ?_;refine oN (nT ?_);obtain⟨z2,hs,my⟩:=bS hs;refine xE (S:=Unit) (λu=>z2=.inr u) (λu=>[(1,.ptr 1 0 0)]) (λu=>[(1,.box 30 (xo p))]) ?_ (λv2 hz=>?_)
  .refine vB ?_;refine j4 (S:=Int×(List (Sr×Bool))) (λu=>[(1,.ptr 1 0 0),(5,.mp 12),(23,.vs 6 (mM ze p.aE)),(24,.int .i64 (ba p.aE:Int)),(25,.int .i64 u.1)]) (λu=>[(12,.map (jC V.str V.bool u.2)),(1,.box 30 (xo p))]) (yM p) (λ_=>rfl) KK (0,v1) hs (zm [1,5,23,24,25] [12,1] kr kr kr) (λK2 q2 hs=>?_);rw[yM]at hs
   show l9 mT bk bg 47 _ _ [(1,.ptr 1 0 0),(5,.mp 12),(23,.vs 6 (mM ze p.aE)),(24,.int .i64 (ba p.aE:Int)),(25,.int .i64 q2.1)] [(12,.map (jC V.str V.bool q2.2)),(1,.box 30 (xo p))] []
   refine vS (vT (oR 1 [(26,.bool (decide (q2.1<(ba p.aE:Int))))] kr ?_));refine oN (nT (vS ?_));refine yy (decide (q2.1<(ba p.aE:Int))) kr (λh2=>?_) (λh2=>?_)
   .replace hs:=xg h2 hs;refine vK (nT (vS (vB (vS (vT ?_)))));obtain⟨x2,g2,hs⟩:=bS hs;obtain⟨t_,CK,BX⟩:=yJ g2;refine oP (v:=.vp (ze x2) 0) kr kr (zM (e:=68) (sz:=6) (k:=.i64) (els:=(mM ze p.aE)) (cs:=(ze x2)) kr kr kr t_ (by rw[BX];exact yI _ ab)) ?_;refine j3 3 [(9,.ptr 9 0 0),(28,.agg (ze x2))] [(9,.box 68 [.str x2.aK,.int .i64 x2.Body.Op,.int .i64 x2.Body.N,.str x2.Body.S,.str x2.Body.Key,.vs 5 (zo x2.Body.aH)]),(12,.map (jC V.str V.bool q2.2)),(1,.box 30 (xo p))] kr ?_;refine oN (nT (vS (vS (vT (oR 3 [(31,.str x2.aK),(30,.ptr 9 0 0),(29,.mp 12)] kr ?_)))));refine vw (F:=[(12,.map (jC V.str V.bool q2.2))]) (F':=[(12,.map (jC V.str V.bool q2.2))]) (v:=.bool (cR (zr x2.aK q2.2) bf)) [12] kr kr rfl kr (Vb (et:=4) (f:=V.str) (g:=V.bool) (l:=q2.2) (a:=x2.aK) (z:=bf) (zv:=.bool bf) bf kr FB kr (λ_ _ _ h=>h) kr kr) kr ?_;refine oN (nT ?_);refine yy (cR (zr x2.aK q2.2) bf) kr (λh3=>?_) (λh3=>?_)
    .replace hs:=xg h3 hs;refine vS (vT (oR 3 [(4,.int .i64 5),(3,.gg),(2,.gg)] kr ?_));refine oN (nT (ry ((2,.vs 1 (mI []))::_) _ (jd (R:=[]) (ks:=[]) kr kr (.gg 1)) ?_));refine ry ((3,.vs 1 (mS []))::_) _ (jd (R:=[]) (ks:=[]) kr kr (.gg 1)) ?_;refine vc (rT (rB (rT (oq ?_))));refine rB (AM ?_);refine rT ?_;obtain rfl:=si hs;replace hs:=my;cases hs;exact yf kr kr kr
    .replace hs:=xh h3 hs;refine vK (nT (vT (oR 3 [(35,.str x2.aK),(34,.ptr 9 0 0),(33,.mp 12)] kr ?_)));refine vw (F:=[(12,.map (jC V.str V.bool q2.2))]) (F':=[(12,.map (jC V.str V.bool (vW x2.aK bh q2.2)))]) (v:=.no) [12] kr kr rfl kr (jH (et:=4) (f:=V.str) (g:=V.bool) (l:=q2.2) (a:=x2.aK) (c:=bh) kr FB kr kr kr kr kr) kr ?_;refine oN (nB (nT (vT (oR 2 [(25,.int .i64 (aD (q2.1+1))),(36,.int .i64 (aD (q2.1+1)))] kr ?_))));refine oN (xn ((aD (q2.1+1)),(vW x2.aK bh q2.2)) hs ?_);exact zm [1,5,23,24,25] [12,1] kr kr kr
   .replace hs:=xh h2 hs;refine kN (yx (yV ?_));refine yU ?_;cases hs;refine zq () rfl ?_;exact zm [1] [1] kr kr kr
  .subst hz;clear hs;have hs:=my;clear my;refine nT (vS (vT (oR 2 [(38,.vs 6 (mM ze p.aE)),(37,.ptr 1 0 0)] kr ?_)));obtain⟨y2,c2,hs⟩:=bS hs;refine vw (F:=[]) (F':=[(3003900,.box 196 [.vs 6 (mM ze y2.1),.vs 1 (lH y2.2)])]) (v:=.ptr 3003900 0 0) [] kr kr rfl kr (Wz (R:=[]) [.vs 6 (mM ze p.aE)] [(31,3003900)] (zP ahl kr) (aci p.aE _ c2) (.cons (.same _) (.nil)) kr kr kr kr kr kr kr kr) kr ?_;refine oR 1 [(10,.ptr 3003900 0 0)] kr ?_;refine oN (nT (vS (vS (vT (oR 1 [(40,.ptr 3003900 0 0)] kr ?_)))));obtain⟨y3,c3,hs⟩:=bS hs;refine vw (F:=[(3003900,.box 196 [.vs 6 (mM ze y2.1),.vs 1 (lH y2.2)])]) (F':=[(3003900,.box 196 [.vs 6 (mM ze y3.2.1),.vs 1 (lH y3.2.2)])]) (v:=nz 1 (mS y3.1)) [3003900] kr kr rfl kr (Wz (R:=[]) [.ptr 3003900 0 0] [(1000000,3003900)] (zP ahm kr) (abw y2.1 y2.2 _ c3) (.cons (.same _) (.nil)) kr kr kr kr kr kr kr kr) kr ?_;refine oR 1 [(11,nz 1 (mS y3.1))] kr ?_;refine oN (nT (vS (vT (oR 1 [(42,nz 1 (mS y3.1))] kr ?_))));refine oP (v:=.bool (!(cO y3.1))) kr kr (zk2 (sz:=1) (els:=(mS y3.1)) (b:=(!(cO y3.1))) kr kr kr (by cases (y3.1:List _)<;>rfl)) ?_;refine oN (nT ?_);refine yy (!(cO y3.1)) kr (λh4=>?_) (λh4=>?_)
   .replace hs:=xg h4 hs;refine vS (vT (oR 4 [(4,.int .i64 16),(3,nz 1 (mS y3.1)),(2,.gg),(44,nz 1 (mS y3.1))] kr ?_));refine oN (nT (ry ((2,.vs 1 (mI []))::_) _ (jd (R:=[]) (ks:=[]) kr kr (.gg 1)) ?_));refine ry ((3,.vs 1 (mS y3.1))::_) _ (jd (R:=[]) (ks:=[]) kr kr (.nz _ _)) ?_;refine vc (rT ?_);cases hs;exact yf kr kr kr
   .replace hs:=xh h4 hs;refine vK (nT (vS (vT (oR 1 [(45,.ptr 3003900 0 0)] kr ?_))));obtain⟨y4,c4,hs⟩:=bS hs;refine vw (F:=[(3003900,.box 196 [.vs 6 (mM ze y3.2.1),.vs 1 (lH y3.2.2)])]) (F':=[(3003900,.box 196 [.vs 6 (mM ze y4.2.1),.vs 1 (lH y4.2.2)])]) (v:=.vs 1 (mI y4.1)) [3003900] kr kr rfl kr (Wz (R:=[]) [.ptr 3003900 0 0] [(1000000,3003900)] (zP ahn kr) (ab4 y3.2.1 y3.2.2 _ c4) (.cons (.same _) (.nil)) kr kr kr kr kr kr kr kr) kr ?_;refine oR 3 [(4,.int .i64 0),(3,.gg),(2,.vs 1 (mI y4.1))] kr ?_;refine oN (nT (ry ((3,.vs 1 (mS []))::_) _ (jd (R:=[]) (ks:=[]) kr kr (.gg 1)) ?_));refine vc ?_;cases hs;exact yf kr kr kr
end Go.Proofs.YtogbenbghgjbiaaGreatDoor.O
namespace Go.Proofs.YtogbenbghgjbiaaGreatDoor
open Go Go.RowKit Go.lG Go.EV Go.EQ
def zE7[Fuel](p:yp)(r:(List Int)×(List aj)×Int)(h:zu3 p=aY r):mz bk 9 [.agg (xo p)] [] (.iN [.vs 1 (cQ EV.encI r.1),.vs 1 (cQ EV.encS r.2.1),.int .i64 r.2.2]) []:=@O.za1 Ui p r h
end Go.Proofs.YtogbenbghgjbiaaGreatDoor
