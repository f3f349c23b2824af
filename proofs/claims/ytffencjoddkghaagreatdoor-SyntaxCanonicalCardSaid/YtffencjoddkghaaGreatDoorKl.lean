/- texts that the proof reaches, part 12 -/
import Derived.Test.YtffencjoddkghaaGreatDoorKk
set_option linter.all false
open Bool renaming false->bd,true->bf,not_true->bW,true_and->cA,not_false->cC,and_false->eB,and_eq_false_iff->eU
open Go.Proofs.Tryz renaming prog->bq
open Int renaming toNat->cg,toNat_natCast->dQ,toNat_of_nonneg->dR,tdiv->iU
open List renaming length->bg,all_eq_true->bj,mem_cons->bp,mem_map->bx,mem_append->bz,getElem?_eq_getElem->bA,length_nil->bF,append_nil->bI,nil_append->bM,length_map->bN,map_append->bO,mem_of_getElem?->bP,cons_append->bU,getD_eq_getElem?_getD->ca,nodup_append->cu,mem_map_of_mem->cw,flatMap_cons->cy,nodup_cons->cG,all_cons->cP,range->cQ,length_pos_iff->dp,foldl_cons->dx,mem_filter->dz,flatMap_nil->dK,not_mem_nil->dS,filter_cons->fa,flatMap_map->eX,isEmpty_nil->eW,flatMap_append->ft,isEmpty_cons->fS,mem_iff_getElem?->gu,mem_of_getLast?->gK,tail_drop->iK,map_tail->iM
open Nat renaming zero_le->cj,lt_succ_self->ck,le_trans->cW,not_lt_zero->cY,le_refl->dk,add_mul->dB,testBit->dC,add_assoc->ee,mod_eq_of_lt->eF,succ_le_succ->iE
open Option renaming bind->aN,some->bc,none->bh
open Sum renaming inl->bo,inr->br
set_option maxRecDepth 100000
namespace Go.Proofs.YtffencjoddkghaaGreatDoor
open Go Go.RowKit Go.Eng Go.EV Go.EQ
variable[Fuel]
structure SS(l l' r r':List ar):Prop where
 at_:∃k,r=l.drop k/\r'=l'.drop k
 wf:TWF r
 wf':TWF r'
 eq:r.map t3=r'.map t3
def RE{α:Type}(l l':List ar):Except EE (α×List ar)->Except EE (α×List ar)->Prop
 |.ok (a,r),.ok (a',r')=>a=a'/\SS l l' r r'
 |.error e,.error e'=>e.2=e'.2/\∃(i:Nat)(t t':ar),l[i]?=bc t/\l'[i]?=bc t'/\e.1=t.Pos/\e'.1=t'.Pos
 |_,_=>False
section
variable{l l' r r':List ar}{α β:Type}
def SS.hd(h:SS l l' r r'):t3 (hdT r)=t3 (hdT r'):=by
 have e:=h.eq
 cases r with
 |nil=>exact h.wf.elim
 |cons t r =>
  cases r' with
  |nil=>exact h.wf'.elim
  |cons t' r'=>exact(List.cons.inj e).1
def SS.kind(h:SS l l' r r'):(hdT r').aM=(hdT r).aM:=(aQ (λx:T3=>x.1) h.hd).symm
def SS.text(h:SS l l' r r'):(hdT r').Text=(hdT r).Text:=(aQ (λx:T3=>x.2.1) h.hd).symm
def SS.num(h:SS l l' r r'):(hdT r').N=(hdT r).N:=(aQ (λx:T3=>x.2.2) h.hd).symm
def SS.bB(h:SS l l' r r')(w:ak):isB w r'=isB w r:=by unfold isB;rw[h.kind,h.text]
def SS.nK(h:SS l l' r r'):HH r'=HH r:=by unfold HH;rw[h.kind]
def SS.mK(h:SS l l' r r'):Ye r'=Ye r:=by unfold Ye;rw[h.kind,h.text]
def SS.op(h:SS l l' r r')(lv:Nat):ze7 lv r'=ze7 lv r:=by unfold ze7 opR;rw[h.kind,h.text]
def SS.len(h:SS l l' r r'):r'.length=r.length:=by
 have:=aQ bg h.eq;rw[bN,bN]at this;exact this.symm
def SS.tail(h:SS l l' r r')(hk:(hdT r).aM≠3):SS l l' r.tail r'.tail:=by
 obtain⟨k,e1,e2⟩:=h.at_;refine⟨⟨k+1,by rw[e1,iK],by rw[e2,iK]⟩,h.wf.tail hk,h.wf'.tail (by rw[h.kind];exact hk),?_⟩;rw[iM,iM,h.eq]
def zEy{k:Nat}(h:TWF (l.drop k)):l[k]?=bc (hdT (l.drop k)):=by
 cases hd:l.drop k with
 |nil=>rw[hd]at h;exact h.elim
 |cons t r=>exact(xW hd).1
def SS.err(h:SS l l' r r')(e:Int):RE (α:=α) l l' (.error (zfu r e)) (.error (zfu r' e)):=by
 obtain⟨k,e1,e2⟩:=h.at_;have h1:=h.wf;have h2:=h.wf';rw[e1]at h1;rw[e2]at h2;refine⟨rfl,k,hdT r,hdT r',?_,?_,rfl,rfl⟩
 ·rw[e1];exact zEy h1
 ·rw[e2];exact zEy h2
def SS.ok(h:SS l l' r r')(a:α):RE l l' (.ok (a,r)) (.ok (a,r')):=⟨rfl,h⟩
def RE.thn{x x':Except EE (α×List ar)}{g g':α->List ar->Except EE (β×List ar)}(h:RE l l' x x')(hg:∀a r r',x=.ok (a,r)->SS l l' r r'->RE l l' (g a r) (g' a r')):RE l l' (thn x g) (thn x' g'):=by
 match x,x',h,hg with
 |.ok (a,r),.ok (a',r'),⟨h1,h2⟩,hg=>subst h1;exact hg a r r' rfl h2
 |.error e,.error e',h,_=>exact h
def RE.ite{c c':Prop}[Decidable c][Decidable c']{x y x' y':Except EE (α×List ar)}(hc:c↔c')(h1:c->RE l l' x x')(h2:¬c->RE l l' y y'):RE l l' (if c then x else y) (if c' then x' else y'):=by
 by_cases h:c
 ·rw[aP h,aP (hc.1 h)];exact h1 h
 ·rw[aO h,aO λhh=>h (hc.2 hh)];exact h2 h
def SS.iB(h:SS l l' r r')(w:ak):isB w r=bf↔isB w r'=bf:=by rw[h.bB]
def SS.iNum(h:SS l l' r r'):HH r=bf↔HH r'=bf:=by rw[h.nK]
def SS.iNam(h:SS l l' r r'):Ye r=bf↔Ye r'=bf:=by rw[h.mK]
def SS.tB(h:SS l l' r r'){w:ak}(hb:isB w r=bf):SS l l' r.tail r'.tail:=h.tail (zo hb)
def Yy{b:Bool}{e:Int}(h:SS l l' r r'):RE l l' (HI b e r) (HI b e r'):=.ite Iff.rfl (λ_=>h.ok _) λ_=>h.err e
def vX{w:ak}(h:SS l l' r r'):RE l l' (xH w r) (xH w r'):=.ite (h.iB w) (λhb=>(h.tB hb).ok _) λ_=>h.err 14
def Zp(h:SS l l' r r'):RE l l' (kX r) (kX r'):=.ite h.iNam (λhb=>by rw[h.text];exact(h.tail (Qm hb)).ok _) λ_=>h.err 14
def ko{lo hi:Int}(h:SS l l' r r'):RE l l' (jQ lo hi r) (jQ lo hi r'):=.ite h.iNum (λhb=>by
 rw[h.num]
 exact .ite Iff.rfl (λ_=>(h.tail (zeb hb)).ok _) λ_=>h.err 3) λ_=>h.err 14
def JJ{L:List ak}(h:SS l l' r r'):RE l l' (xX L r) (xX L r'):=.ite h.iNam (λhb=>by
 rw[h.text]
 exact .ite Iff.rfl (λ_=>h.err 5) λ_=>(h.tail (Qm hb)).ok _) λ_=>h.err 14
def Yz{m:Int}(h:SS l l' r r'):RE l l' (wo m r) (wo m r'):=.ite (h.iB _) (λhb=>(ko (h.tB hb)).thn λ_ _ _ _ h=>h.ok _) λ_=>ko h
def zep{w:List ak}(h:SS l l' r r'):RE l l' (vm w r) (vm w r'):=.ite (by rw[h.kind]) (λhk=>by
 rw[h.text];split
 ·exact(h.tail ab).ok _
 ·exact h.err 14) λ_=>h.err 14
def zk5(h:SS l l' r r'):RE l l' (uh r) (uh r'):=(ko h).thn λ_ _ _ _ h=>(ko h).thn λ_ _ _ _ h=>(ko h).thn λ_ _ _ _ h=>h.ok _
def zv6{c:Bool}{e:Int}(h:SS l l' r r'):RE l l' (zh3 c e r) (zh3 c e r'):=by
 unfold zh3;rw[h.bB]
 refine(Yy h).thn λ_ r1 r1' h1 hs=>(Yy hs).thn λ_ r2 r2' h2 hs2=>?_
 obtain⟨rfl,hb⟩:=yY h1;obtain⟨rfl,_⟩:=yY h2;have hb2:=zo hb;exact(hs2.tail hb2).ok _
end
section
variable{l l':List ar}
def zEz{r r2:List ar}{lo hi n:Int}(hr:TWF r)(h:jQ lo hi r=.ok (n,r2)):r2.length+1=r.length:=by
 unfold jQ at h;split at h
 ·split at h
  ·cases h;exact xb hr
  ·cases h
 ·cases h
def zeq:∀(n:Nat)(acc:List zU)(r r':List ar),SS l l' r r'->r.length<n->RE l l' (vA n acc r) (vA n acc r')
 |0,_,_,_,_,hn=>aU hn (cY _)
 |n+1,acc,r,r',h,hn=>by
  refine(ko h).thn λ_ r1 r1' h1 s1=>(ko s1).thn λ_ r2 r2' h2 s2=>?_
  have:=zEz h.wf h1;have:=zEz s1.wf h2
  exact .ite s2.iNum (λ_=>zeq n _ _ _ s2 ab) λ_=>s2.ok _
def zE0:∀(n:Nat)(acc:List ak)(r r':List ar),SS l l' r r'->r.length<n->RE l l' (Kt n acc r) (Kt n acc r')
 |0,_,_,_,_,hn=>aU hn (cY _)
 |n+1,acc,r,r',h,hn=>.ite h.iNam (λ_=>(Zp h).thn λ_ r1 r1' h1 s1=>by
   have:=(wM h.wf h1).lt
   exact zE0 n _ _ _ s1 ab) λ_=>h.ok _
def zE1{r r':List ar}(h:SS l l' r r'):RE l l' (A6 r) (A6 r'):=(Zp h).thn λ_ r1 r1' h1 s1=>by
 rw[s1.len];exact zE0 _ _ _ _ s1 (ck _)
def zE2:∀(n:Nat)(acc:List aw)(r r':List ar),SS l l' r r'->r.length<n->RE l l' (Ku n acc r) (Ku n acc r')
 |0,_,_,_,_,hn=>aU hn (cY _)
 |n+1,acc,r,r',h,hn=>.ite h.iNam (λ_=>(Yy h).thn λ_ r1 r1' h1 s1=>(JJ s1).thn λ_ r2 r2' h2 s2=>(Yz s2).thn λ_ r3 r3' h3 s3=>by
   obtain⟨rfl,_⟩:=yY h1;have:=(qB s1.wf h2).lt;have:=(An s2.wf _ _ h3).le
   exact zE2 n _ _ _ s3 ab) λ_=>h.ok _
def zOb:∀(n:Nat)(acc:List zg)(r r':List ar),SS l l' r r'->r.length<n->RE l l' (zpk n acc r) (zpk n acc r')
 |0,_,_,_,_,hn=>aU hn (cY _)
 |n+1,acc,r,r',h,hn=>.ite h.iNum (λ_=>(Yy h).thn λ_ r1 r1' h1 s1=>(zk5 s1).thn λ_ r2 r2' h2 s2=>by
   obtain⟨rfl,_⟩:=yY h1;have:=(Zo s1.wf h2).lt
   exact zOb n _ _ _ s2 ab) λ_=>h.ok _
def zOc:∀(n s:Nat)(r r':List ar),SS l l' r r'->r.length<n->RE l l' (zfw n s r) (zfw n s r')
 |0,_,_,_,_,hn=>aU hn (cY _)
 |n+1,s,r,r',h,hn=>by
  rw[zfw,zfw,h.text];split
  ·exact .ite Iff.rfl (λ_=>h.ok _) λ_=>h.err 14
  ·refine .ite (by rw[h.kind]) (λ_=>h.ok _) λ_=>.ite Iff.rfl (λ_=>h.err 5) λ_=>.ite (by rw[h.kind]) (λhk=>?_) λ_=>h.err 14
   have:=xb h.wf;exact zOc n _ _ _ (h.tail ab) ab
def zOd:∀(n:Nat)(acc:List zg)(r r':List ar),SS l l' r r'->r.length<n->RE l l' (zlx n acc r) (zlx n acc r')
 |0,_,_,_,_,hn=>aU hn (cY _)
 |n+1,acc,r,r',h,hn=>by
  rw[zlx,zlx,h.bB,h.nK]
  refine(Yy h).thn λ_ r1 r1' h1 s1=>(Yy s1).thn λ_ r2 r2' h2 s2=>(Yz s2).thn λ_ r3 r3' h3 s3=>(Yz s3).thn λ_ r4 r4' h4 s4=>(ko s4).thn λ_ r5 r5' h5 s5=>?_
  obtain⟨rfl,_⟩:=yY h1;obtain⟨rfl,_⟩:=yY h2;have:=(An s2.wf _ _ h3).le;have:=(An s3.wf _ _ h4).le;have:=zEz s4.wf h5
  refine .ite (s5.iB _) (λhb=>?_) λ_=>s5.ok _
  have:=xb s5.wf;exact zOd n _ _ _ (s5.tB hb) ab
def zKy:∀(n:Nat),(∀(lv:Nat)(r r':List ar),lv<=8->r.length<n->SS l l' r r'->RE l l' (DE lv r) (DE lv r'))/\(∀(lv:Nat)(e:Expr)(r r':List ar),lv<8->r.length<n->SS l l' r r'->RE l l' (LP lv e r) (LP lv e r')):=by
 intro n
 induction n with
 |zero=>exact⟨λ_ _ _ _ h=>ab,λ_ _ _ _ _ h=>ab⟩
 |succ n ih =>
  have hLP:∀(lv:Nat)(e:Expr)(r r':List ar),lv<8->r.length<n+1->SS l l' r r'->RE l l' (LP lv e r) (LP lv e r'):=by
   intro lv e r r' hlv hn hr;rw[zo2 hr.wf,zo2 hr.wf',hr.op];split
   ·exact hr.ok _
   ·rename_i op hop
    obtain⟨o,ho,_⟩:=uf hop;have ht:=hr.tail (vI ho).1;have g:=xb hr.wf
    refine(ih.1 (lv+1) _ _ ab ab ht).thn λa r1 r1' h1 s1=>?_
    have g1:=(yW ht.wf h1).lt
    exact .ite Iff.rfl (λ_=>s1.ok _) λ_=>ih.2 lv _ _ _ hlv ab s1
  refine⟨λlv=>?_,hLP⟩
  have key:∀(k lv:Nat),8-lv=k->lv<=8->∀(r r':List ar),r.length<n+1->SS l l' r r'->RE l l' (DE lv r) (DE lv r'):=by
   intro k
   induction k with
   |zero =>
    intro lv hk hl r r' hn hr
    obtain rfl:lv=8:=ab
    rw[zyt hr.wf,zyt hr.wf']
    refine .ite hr.iNum (λ_=>(ko hr).thn λ_ _ _ _ s=>s.ok _) λ_=>.ite (hr.iB _) (λhb=>(Zp (hr.tB hb)).thn λ_ _ _ _ s=>(Zp s).thn λ_ _ _ _ s=>s.ok _) λ_=>.ite (hr.iB _) (λhb=>(Zp (hr.tB hb)).thn λ_ _ _ _ s=>s.ok _) λ_=>.ite (hr.iB _) (λhb=>?_) λ_=>(Zp hr).thn λ_ _ _ _ s=>s.ok _
    have g:=xb hr.wf
    exact(ih.1 0 _ _ ab ab (hr.tB hb)).thn λ_ _ _ _ s=>(vX s).thn λ_ _ _ _ s=>s.ok _
   |succ k ihk =>
    intro lv hk hl r r' hn hr;have g:=xb hr.wf;rw[Zg ab hr.wf,Zg ab hr.wf']
    refine .ite (by rw[hr.bB]) (λhb=>?_) λ_=>.ite (by rw[hr.bB]) (λhb=>?_) λ_=>.ite (by rw[hr.bB]) (λhb=>?_) λ_=>?_
    ·have ht:=hr.tB hb.2
     refine(ih.1 0 _ _ ab ab ht).thn λa r1 r1' h1 s1=>(vX s1).thn λu r3 r3' h3 s3=>?_
     have:=(yW ht.wf h1).lt;have:=(yr s1.wf h3).lt
     refine(ih.1 0 _ _ ab ab s3).thn λb r4 r4' h4 s4=>(vX s4).thn λu r5 r5' h5 s5=>?_
     have:=(yW s3.wf h4).lt;have:=(yr s4.wf h5).lt
     exact(ih.1 0 _ _ ab ab s5).thn λ_ _ _ _ s=>s.ok _
    ·exact(ih.1 3 _ _ ab ab (hr.tB hb.2)).thn λ_ _ _ _ s=>s.ok _
    ·exact(ih.1 7 _ _ ab ab (hr.tB hb.2)).thn λ_ _ _ _ s=>s.ok _
    ·refine(ihk (lv+1) ab ab r r' hn hr).thn λa r1 r1' h1 s1=>?_
     have:=(yW hr.wf h1).lt;exact ih.2 lv a r1 r1' ab ab s1
  exact λr r' hl=>key _ lv rfl hl r r'
variable{r r':List ar}{L:List ak}
def zYn{lv:Nat}(hl:lv<=8)(h:SS l l' r r'):RE l l' (DE lv r) (DE lv r'):=(zKy (r.length+1)).1 lv r r' hl (ck _) h
def zYo(h:SS l l' r r'):RE l l' (zv5 L r) (zv5 L r'):=(JJ h).thn λ_ _ _ _ s=>(vX s).thn λ_ _ _ _ s=>(zYn ab s).thn λ_ _ _ _ s=>(zv6 s).thn λ_ _ _ _ s=>s.ok _
def zKz(h:SS l l' r r'):RE l l' (AO L r) (AO L r'):=(JJ h).thn λ_ r1 r1' _ s=>by
 rw[s.len]
 exact(zE2 _ _ _ _ s (ck _)).thn λ_ _ _ _ s=>(vX s).thn λ_ _ _ _ s=>(Yz s).thn λ_ _ _ _ s=>(vX s).thn λ_ _ _ _ s=>s.ok _
def zSe(h:SS l l' r r'):RE l l' (Yu L r) (Yu L r'):=(JJ h).thn λ_ _ _ _ s=>(zk5 s).thn λ_ _ _ _ s=>(vX s).thn λ_ _ _ _ s=>(ko s).thn λ_ _ _ _ s=>(vX s).thn λ_ _ _ _ s=>(zk5 s).thn λ_ r1 r1' _ s=>by
 rw[s.len]
 exact(zOb _ _ _ _ s (ck _)).thn λ_ _ _ _ s=>(vX s).thn λ_ _ _ _ s=>s.ok _
def zE3{o:Bool}(h:SS l l' r r'):RE l l' (Ve L o r) (Ve L o r'):=(JJ h).thn λ_ r1 r1' _ s=>by
 rw[s.len]
 exact(zeq _ _ _ _ s (ck _)).thn λ_ _ _ _ s=>(zv6 s).thn λ_ _ _ _ s=>s.ok _
def zYp(h:SS l l' r r'):RE l l' (zy6 L r) (zy6 L r'):=(JJ h).thn λ_ _ _ _ s=>(zep s).thn λ_ _ _ _ s=>(ko s).thn λ_ r1 r1' _ s=>by
 rw[s.len]
 exact(zeq _ _ _ _ s (ck _)).thn λ_ _ _ _ s=>(zv6 s).thn λ_ _ _ _ s=>s.ok _
def zSf{acc:List zg}(h:SS l l' r r'):RE l l' (zv4 acc r) (zv4 acc r'):=by
 unfold zv4;rw[h.len]
 exact(zOd _ _ _ _ h (ck _)).thn λ_ _ _ _ s=>(vX s).thn λ_ _ _ _ s=>s.ok _
def zpo{α:Type}{t:ak}{d:α}{f:List ar->Except EE (α×List ar)}(hf:∀r r',SS l l' r r'->RE l l' (f r) (f r'))(h:SS l l' r r'):RE l l' (Wd t d f r) (Wd t d f r'):=.ite (h.iB _) (λhb=>hf _ _ (h.tB hb)) λ_=>h.ok _
def zYq{t:ak}(h:SS l l' r r'):SS l l' (zsr t r) (zsr t r'):=by
 unfold zsr;rw[h.bB];split
 ·rename_i hb;exact h.tB hb
 ·exact h
def zSg(h:SS l l' r r'):RE l l' (JI r) (JI r'):=.ite (h.iB _) (λhb=>(ko (h.tB hb)).thn λ_ _ _ _ s=>(vX s).thn λ_ _ _ _ s=>(ko s).thn λ_ _ _ _ s=>(vX s).thn λ_ _ _ _ s=>(ko s).thn λ_ _ _ _ s=>(ko s).thn λ_ _ _ _ s=>(vX s).thn λ_ _ _ _ s=>s.ok _)
 λ_=>.ite (h.iB _) (λhb=>by
  have s:=h.tB hb;unfold zy7;rw[s.len]
  exact(zOc _ _ _ _ s (ck _)).thn λ_ _ _ _ s=>(vX s).thn λ_ _ _ _ s=>s.ok _)
 λ_=>.ite (h.iB _) (λhb=>(zep (h.tB hb)).thn λ_ _ _ _ s=>(zep s).thn λ_ _ _ _ s=>(ko s).thn λ_ _ _ _ s=>(vX s).thn λ_ _ _ _ s=>s.ok _)
 λ_=>(zYn ab h).thn λ_ _ _ _ s=>(zv6 s).thn λ_ _ _ _ s=>s.ok _
def zSh(h:SS l l' r r'):RE l l' (Yv L r) (Yv L r'):=(JJ h).thn λ_ _ _ _ s=>(zpo (λ_ _ s=>zE1 s) s).thn λ_ _ _ _ s=>(zpo (λ_ _ s=>zE1 s) s).thn λ_ _ _ _ s=>(zpo (λ_ _ s=>ko s) s).thn λ_ _ _ _ s=>(zpo (λ_ _ s=>ko s) s).thn λ_ _ _ _ s=>(zpo (λ_ _ s=>ko s) s).thn λ_ _ _ _ s=>by
 rw[s.bB]
 exact(vX (zYq s)).thn λ_ _ _ _ s=>(zSg s).thn λ_ _ _ _ s=>s.ok _
def V6{n m:Nat}(h:SS l l' r r')(hk:(hdT r).aM≠3):RE l l' (Qu n m r) (Qu n m r'):=(Yy h).thn λ_ _ _ h1 s=>by
 obtain⟨rfl,_⟩:=yY h1;exact(s.tail hk).ok _
def zSi{p:yJ}{b:Bool}(h:SS l l' r r')(hk:(hdT r).aM≠3):RE l l' (Qv p b r) (Qv p b r'):=by
 unfold Qv
 exact .ite (h.iB _) (λ_=>(V6 h hk).thn λ_ _ _ _ s=>(zYo s).thn λ_ _ _ _ s=>s.ok _) λ_=>.ite (h.iB _) (λ_=>(V6 h hk).thn λ_ _ _ _ s=>(zKz s).thn λ_ _ _ _ s=>s.ok _) λ_=>.ite (h.iB _) (λ_=>(V6 h hk).thn λ_ _ _ _ s=>(zE3 s).thn λ_ _ _ _ s=>s.ok _) λ_ =>
  .ite (h.iB _) (λ_=>(V6 h hk).thn λ_ _ _ _ s=>(zE3 s).thn λ_ _ _ _ s=>s.ok _) λ_=>.ite (h.iB _) (λ_=>(V6 h hk).thn λ_ _ _ _ s=>(zSh s).thn λ_ _ _ _ s=>s.ok _) λ_=>.ite (h.iB _) (λ_=>(V6 h hk).thn λ_ _ _ _ s=>(zYp s).thn λ_ _ _ _ s=>s.ok _) λ_ =>
  .ite (h.iB _) (λ_=>(V6 h hk).thn λ_ _ _ _ s=>(zSe s).thn λ_ _ _ _ s=>s.ok _) λ_=>.ite (h.iB _) (λhb=>(Yy h).thn λ_ r1 r1' h1 s=>by
   obtain⟨rfl,_⟩:=yY h1
   exact(zSf (s.tail hk)).thn λ_ _ _ _ s=>s.ok _) λ_=>.ite (h.iB _) (λhb=>(Yy h).thn λ_ r1 r1' h1 s=>by
   obtain⟨rfl,_⟩:=yY h1
   exact(ko (s.tail hk)).thn λ_ _ _ _ s=>(vX s).thn λ_ _ _ _ s=>s.ok _) λ_=>h.err 14
end
def zSj{p:yJ}{h:Bool}{r r2:List ar}{x:yJ×Bool}(hs:TWF r)(hk:(hdT r).aM≠3)(e:Qv p h r=.ok (x,r2)):r2.length<r.length:=by
 have ht:=hs.tail hk;have hl:=xb hs
 have room:∀{α:Type}{n m:Nat}{g:Unit->List ar->Except EE (α×List ar)}{a:α}{r2:List ar},(∀u,MV r.tail (g u r.tail))->thn (Qu n m r) g=.ok (a,r2)->r2.length<r.length:=λ{α n m g a r2} hg e=>by
  obtain⟨u,r1,h1,h2⟩:=zG e;obtain⟨rfl,_⟩:=yQ h1;have:=(hg u _ _ h2).le;omega
 have chk:∀{α:Type}{b:Bool}{k:Int}{g:Unit->List ar->Except EE (α×List ar)}{a:α}{r2:List ar},(∀u,MV r.tail (g u r))->thn (HI b k r) g=.ok (a,r2)->r2.length<r.length:=λ{α b k g a r2} hg e=>by
  obtain⟨u,r1,h1,h2⟩:=zG e;obtain⟨rfl,_⟩:=yY h1;have:=(hg u _ _ h2).le;omega
 unfold Qv at e;split at e
 ·exact room (λ_=>(zEw ht).thn λd r2 h2 q2=>MV.ret q2.wf) e
 split at e
 ·exact room (λ_=>(zk3 ht).thn λd r2 h2 q2=>MV.ret q2.wf) e
 split at e
 ·exact room (λ_=>(zk4 ht).thn λd r2 h2 q2=>MV.ret q2.wf) e
 split at e
 ·exact room (λ_=>(zk4 ht).thn λd r2 h2 q2=>MV.ret q2.wf) e
 split at e
 ·exact room (λ_=>(zsv ht).thn λd r2 h2 q2=>MV.ret q2.wf) e
 split at e
 ·exact room (λ_=>(zOa ht).thn λd r2 h2 q2=>MV.ret q2.wf) e
 split at e
 ·exact room (λ_=>(zsu ht).thn λd r2 h2 q2=>MV.ret q2.wf) e
 split at e
 ·exact chk (λ_=>(zst ht).thn λd r2 h2 q2=>MV.ret q2.wf) e
 split at e
 ·exact chk (λ_=>(wv ht).thn λd r2 h2 q2=>(wO q2.wf).thn λ_ r3 h3 q3=>MV.ret q3.wf) e
 ·cases e
def zE4{l l':List ar}:∀(n:Nat)(p:yJ)(b:Bool)(r r':List ar),SS l l' r r'->r.length<n->RE l l' (HO n p b r) (HO n p b r')
 |0,_,_,_,_,_,hn=>aU hn (cY _)
 |n+1,p,b,r,r',h,hn=>.ite (by rw[h.kind]) (λ_=>h.ok _) λhk=>(zSi h hk).thn λx r1 r1' h1 s=>by
  have:=zSj h.wf hk h1;exact zE4 n _ _ _ _ s ab
inductive GD:Bool->Nat->Expr->Nat->Prop
 |num {n:Int}:0<=n->n<=1099511627776->GD bf 8 ⟨0,n,[],[],[]⟩ 1
 |name {s:ak}:zD s=bf->GD bf 8 ⟨1,0,s,[],[]⟩ 1
 |table {s k:ak}:zD s=bf->zD k=bf->GD bf 8 ⟨2,0,s,k,[]⟩ 3
 |zone {s:ak}:zD s=bf->GD bf 8 ⟨3,0,s,[],[]⟩ 2
 |par {e:Expr} {k:Nat}:GD bf 0 e k->GD bf 8 e (k+2)
 |cond {a b c:Expr} {i j k:Nat}:GD bf 0 a i->GD bf 0 b j->GD bf 0 c k->GD bf 0 ⟨16,0,[],[],[a,b,c]⟩ (i+j+k+3)
 |not {a:Expr} {k:Nat}:GD bf 3 a k->GD bf 3 ⟨15,0,[],[],[a]⟩ (k+1)
 |neg {a:Expr} {k:Nat}:GD bf 7 a k->GD bf 7 ⟨9,0,[],[],[a]⟩ (k+1)
 |up {lv:Nat} {e:Expr} {k:Nat}:lv<8->GD bf (lv+1) e k->GD bd lv e k
 |step {lv:Nat} {op:Int} {a b:Expr} {k j:Nat}:lvO op=lv->zlw op=bf->lv≠4->GD bd lv a k->GD bf (lv+1) b j->GD bd lv (Vr op a b) (k+j+1)
 |cmp {op:Int} {a b:Expr} {k j:Nat}:lvO op=4->zlw op=bf->GD bf 5 a k->GD bf 5 b j->GD bf 4 (Vr op a b) (k+j+1)
 |done {lv:Nat} {e:Expr} {k:Nat}:GD bd lv e k->GD bf lv e k
def Zq{r r2:List ar}{s:ak}(h:kX r=.ok (s,r2)):r2=r.tail/\zD s=bf:=by
 unfold kX at h;split at h
 ·rename_i hk
  cases h;simp only[Ye,bn]at hk;exact⟨rfl,hk.2⟩
 ·cases h
def uI{r r2:List ar}{lo hi n:Int}(h:jQ lo hi r=.ok (n,r2)):r2=r.tail/\lo<=n/\n<=hi:=by
 unfold jQ at h;split at h
 ·split at h
  ·rename_i hn
   cases h;exact⟨rfl,hn⟩
  ·cases h
 ·cases h
def zsw{r r2:List ar}{s:ak}{u:Unit}(h:xH s r=.ok (u,r2)):r2=r.tail:=by
 unfold xH at h;split at h
 ·cases h;rfl
 ·cases h
def zYr{r:List ar}{lv:Nat}{op:Int}(h:ze7 lv r=bc op):zlw op=bf/\lvO op=lv:=by
 obtain⟨o,ho,h1,rfl⟩:=uf h;have hm:=(vI ho).2.1
 have:∀o∈OPS,zlw o.op=bf/\lvO o.op=o.form:=by
  intro o ho;simp only[OPS,bp,List.mem_nil_iff,or_false]at ho
  rcases ho with rfl|rfl|rfl|rfl|rfl|rfl|rfl|rfl|rfl|rfl<;>exact⟨rfl,rfl⟩
 exact⟨(this o hm).1,(this o hm).2.trans h1⟩
def zK0:∀(n:Nat),(∀(lv:Nat)(r:List ar),lv<=8->r.length<n->TWF r->∀e r2,DE lv r=.ok (e,r2)->∃k,GD bf lv e k/\k+r2.length=r.length) /\
  (∀(lv:Nat)(e:Expr)(k:Nat)(r:List ar),lv<8->r.length<n->TWF r->GD bf (lv+1) e k∨(lv≠4/\GD bd lv e k)->∀e2 r2,LP lv e r=.ok (e2,r2)->∃j,GD bf lv e2 (k+j)/\j+r2.length=r.length):=by
 intro n
 induction n with
 |zero=>exact⟨λ_ _ _ h=>ab,λ_ _ _ _ _ h=>ab⟩
 |succ n ih =>
  have hLP:∀(lv:Nat)(e:Expr)(k:Nat)(r:List ar),lv<8->r.length<n+1->TWF r->GD bf (lv+1) e k∨(lv≠4/\GD bd lv e k)->∀e2 r2,LP lv e r=.ok (e2,r2)->∃j,GD bf lv e2 (k+j)/\j+r2.length=r.length:=by
   intro lv e k r hlv hn hr hg e2 r2 h;rw[zo2 hr]at h;split at h
   ·cases h
    exact⟨0,.done (by rcases hg with hg|hg;exact .up hlv hg;exact hg.2),ab⟩
   ·rename_i op hop
    obtain⟨hb,hl⟩:=zYr hop;obtain⟨o,ho,_⟩:=uf hop;have ht:=zB hr (vI ho).1;obtain⟨a,r1,h1,h2⟩:=zG h;have g:=xb hr;have ha:=yW ht.wf h1;have g1:=ha.lt;obtain⟨j,k1,k2⟩:=ih.1 (lv+1) _ ab ab ht.wf _ _ h1;split at h2
    ·rename_i h4
     subst h4;cases h2;refine⟨j+1,?_,ab⟩
     rcases hg with hg|hg
     ·exact GD.cmp hl hb hg k1
     ·exact aU rfl hg.1
    ·rename_i h4
     have ga:GD bd lv e k:=by
      rcases hg with hg|hg
      ·exact .up hlv hg
      ·exact hg.2
     obtain⟨m,q1,q2⟩:=ih.2 lv _ _ _ hlv ab ha.wf (.inr ⟨h4,GD.step hl hb h4 ga k1⟩) _ _ h2;exact⟨j+1+m,by rw[show k+(j+1+m)=k+j+1+m by omega];exact q1,ab⟩
  refine⟨λlv=>?_,hLP⟩
  have key:∀(k lv:Nat),8-lv=k->lv<=8->∀(r:List ar),r.length<n+1->TWF r->∀e r2,DE lv r=.ok (e,r2)->∃k,GD bf lv e k/\k+r2.length=r.length:=by
   intro k
   induction k with
   |zero =>
    intro lv hk hl r hn hr e r2 h
    obtain rfl:lv=8:=ab
    rw[zyt hr]at h;unfold VV at h;have g:=xb hr;split at h
    ·obtain⟨a,r1,h1,h2⟩:=zG h
     cases h2;obtain⟨rfl,q1,q2⟩:=uI h1;exact⟨1,.num q1 q2,ab⟩
    ·split at h
     ·rename_i hb
      have ht:=zB hr (zo hb);obtain⟨a,r1,h1,h2⟩:=zG h;obtain⟨b,r3,h3,h4⟩:=zG h2;cases h4;have w1:=wM ht.wf h1;obtain⟨rfl,q1⟩:=Zq h1;obtain⟨rfl,q2⟩:=Zq h3;have:=xb ht.wf;have:=xb w1.wf;exact⟨3,.table q1 q2,ab⟩
     ·split at h
      ·rename_i hb
       have ht:=zB hr (zo hb);obtain⟨a,r1,h1,h2⟩:=zG h;cases h2;obtain⟨rfl,q1⟩:=Zq h1;have:=xb ht.wf;exact⟨2,.zone q1,ab⟩
      ·split at h
       ·rename_i hb
        have ht:=zB hr (zo hb);obtain⟨a,r1,h1,h2⟩:=zG h;obtain⟨b,r3,h3,h4⟩:=zG h2;cases h4;obtain⟨k,q1,q2⟩:=ih.1 0 _ ab ab ht.wf _ _ h1;obtain rfl:=zsw h3;have:=xb (yW ht.wf h1).wf;exact⟨k+2,.par q1,ab⟩
       ·obtain⟨a,r1,h1,h2⟩:=zG h
        cases h2;obtain⟨rfl,q1⟩:=Zq h1;exact⟨1,.name q1,ab⟩
   |succ k ihk =>
    intro lv hk hl r hn hr e r2 h;rw[Zg ab hr]at h;have g:=xb hr;split at h
    ·rename_i hb
     unfold ifS at h;have ht:=zB hr (zo hb.2);obtain⟨a,r1,h1,h⟩:=zG h;obtain⟨u,r3,h3,h⟩:=zG h;obtain⟨b,r4,h4,h⟩:=zG h;obtain⟨u,r5,h5,h⟩:=zG h;obtain⟨c,r6,h6,h⟩:=zG h;cases h;have w1:=yW ht.wf h1;have w3:=yr w1.wf h3;have w4:=yW w3.wf h4;have w5:=yr w4.wf h5;have:=w1.lt;have:=w3.lt;have:=w4.lt;have:=w5.lt;obtain⟨i,a1,a2⟩:=ih.1 0 _ ab ab ht.wf _ _ h1;obtain⟨j,b1,b2⟩:=ih.1 0 _ ab ab w3.wf _ _ h4;obtain⟨m,c1,c2⟩:=ih.1 0 _ ab ab w5.wf _ _ h6;obtain rfl:=zsw h3;obtain rfl:=zsw h5;have:=xb w1.wf;have:=xb w4.wf;obtain rfl:lv=0:=hb.1;exact⟨i+j+m+3,.cond a1 b1 c1,ab⟩
    ·split at h
     ·rename_i hb
      have ht:=zB hr (zo hb.2);obtain⟨a,r1,h1,h⟩:=zG h;cases h;obtain⟨i,a1,a2⟩:=ih.1 3 _ ab ab ht.wf _ _ h1;obtain rfl:lv=3:=hb.1;exact⟨i+1,.not a1,ab⟩
     ·split at h
      ·rename_i hb
       have ht:=zB hr (zo hb.2);obtain⟨a,r1,h1,h⟩:=zG h;cases h;obtain⟨i,a1,a2⟩:=ih.1 7 _ ab ab ht.wf _ _ h1;obtain rfl:lv=7:=hb.1;exact⟨i+1,.neg a1,ab⟩
      ·obtain⟨a,r1,h1,h⟩:=zG h
       obtain⟨i,a1,a2⟩:=ihk (lv+1) ab ab r hn hr _ _ h1;have w1:=yW hr h1;have:=w1.lt;obtain⟨j,b1,b2⟩:=ih.2 lv a i r1 ab ab w1.wf (.inl a1) _ _ h;exact⟨i+j,b1,ab⟩
  exact λr hl=>key _ lv rfl hl r
def DE_gd{lv:Nat}{r r2:List ar}{e:Expr}(hl:lv<=8)(hr:TWF r)(h:DE lv r=.ok (e,r2)):∃k,GD bf lv e k/\k+r2.length=r.length:=(zK0 (r.length+1)).1 lv r hl (ck _) hr e r2 h
def gd_ox{b:Bool}{lv:Nat}{e:Expr}{k:Nat}(h:GD b lv e k):∀d,Vs e<=d->OX d e:=by
 have pos:∀{d:Nat}{o n:Int}{s k:ak}{az:List Expr},Vs ⟨o,n,s,k,az⟩<=d->∃m,d=m+1/\zfv az<=m:=λ{d o n s k az} h=>by
  rw[Vs]at h;exact⟨d-1,ab,ab⟩
 induction h with
 |num h1 h2=>intro d hd;obtain⟨m,rfl,_⟩:=pos hd;exact .num h1 h2
 |name h=>intro d hd;obtain⟨m,rfl,_⟩:=pos hd;exact .name h
 |table h1 h2=>intro d hd;obtain⟨m,rfl,_⟩:=pos hd;exact .table h1 h2
 |zone h=>intro d hd;obtain⟨m,rfl,_⟩:=pos hd;exact .zone h
 |par _ ih=>exact ih
 |cond _ _ _ ia ib ic =>
  intro d hd;obtain⟨m,rfl,hl⟩:=pos hd;simp only[zfv]at hl;exact .cond (ia m ab) (ib m ab) (ic m ab)
 |not _ ih =>
  intro d hd;obtain⟨m,rfl,hl⟩:=pos hd;simp only[zfv]at hl;exact .not (ih m ab)
 |neg _ ih =>
  intro d hd;obtain⟨m,rfl,hl⟩:=pos hd;simp only[zfv]at hl;exact .neg (ih m ab)
 |up _ _ ih=>exact ih
 |step _ hb _ _ _ ia ib =>
  intro d hd;obtain⟨m,rfl,hl⟩:=pos hd;simp only[zfv]at hl;exact .bin hb (ia m ab) (ib m ab)
 |cmp _ hb _ _ ia ib =>
  intro d hd;obtain⟨m,rfl,hl⟩:=pos hd;simp only[zfv]at hl;exact .bin hb (ia m ab) (ib m ab)
 |done _ ih=>exact ih
def zOe{d:Nat}{e:Expr}(h:OX d e):Vs e<=d:=by
 induction h with
 |num _ _=>simp[Vs,zfv]
 |name _=>simp[Vs,zfv]
 |table _ _=>simp[Vs,zfv]
 |zone _=>simp[Vs,zfv]
 |neg _ ih=>simp only[Vs,zfv];omega
 |not _ ih=>simp only[Vs,zfv];omega
 |cond _ _ _ i1 i2 i3=>simp only[Vs,zfv];omega
 |bin _ _ _ i1 i2=>unfold Vr;simp only[Vs,zfv];omega
section
variable{α γ α' γ':Type}{l:List ar}{x:Except EE (α×List ar)}{s:Option γ}{f:α->Int->γ}{pe:γ->EE}{g:α->List ar->Except EE (α'×List ar)}{s2:γ->Option γ'}{f2:α'->Int->γ'}{pe2:γ'->EE}
end
section
variable{l:List ar}{a E P:Int}{r:List ar}
-- with an error, nothing more is read
end
section
variable{l r:List ar}
end
section
variable{l r:List ar}
end
section
variable{l r:List ar}
end
section
variable{l r:List ar}
end
def MaxP(p:yJ):Prop:=p.aF.length<=60/\p.Tables.length<=60/\p.aB.length<=60/\p.aE.length<=200/\p.aJ.length<=30/\p.aG.length<=60
section
variable{l r:List ar}
end
def OT{α:Type}(x:Except EE (α×List ar))(P:α->Prop):Prop:=∀a r,x=.ok (a,r)->P a
section
variable{α β:Type}{r:List ar}
def OT.thn{x:Except EE (α×List ar)}{g:α->List ar->Except EE (β×List ar)}{P:β->Prop}(h:∀a r,x=.ok (a,r)->OT (g a r) P):OT (thn x g) P:=λb r2 e=>by
 obtain⟨a,r1,h1,h2⟩:=zG e;exact h a r1 h1 b r2 h2
def OT.ret{a:α}{P:α->Prop}(h:P a):OT (.ok (a,r)) P:=λ_ _ e=>by cases e;exact h
def OT.err{e:EE}{P:α->Prop}:OT (.error e:Except EE (α×List ar)) P:=λ_ _ e=>by cases e
def OT.ite{c:Prop}[Decidable c]{x y:Except EE (α×List ar)}{P:α->Prop}(h1:c->OT x P)(h2:¬c->OT y P):OT (if c then x else y) P:=by
 split
 ·rename_i h;exact h1 h
 ·rename_i h;exact h2 h
def OT.imp{x:Except EE (α×List ar)}{P Q:α->Prop}(h:OT x P)(k:∀a,P a->Q a):OT x Q:=λa r e=>k a (h a r e)
def zer:∀(n:Nat)(acc:List zU)(r:List ar),OT (vA n acc r) λv=>v.length<=acc.length+n
 |0,_,_=>OT.err
 |n+1,acc,r=>by
  rw[vA]
  exact OT.thn λ_ _ _=>OT.thn λ_ _ _=>OT.ite (λ_=>(zer n _ _).imp λv h=>by simp at h;omega) λ_=>OT.ret af
def zE5:∀(n:Nat)(acc:List aw)(r:List ar),OT (Ku n acc r) λv=>v.length<=acc.length+n
 |0,_,_=>OT.err
 |n+1,acc,r=>by
  rw[Ku]
  exact OT.ite (λ_=>OT.thn λ_ _ _=>OT.thn λ_ _ _=>OT.thn λ_ _ _=>(zE5 n _ _).imp λv h=>by simp at h;omega) λ_=>OT.ret ab
def zOf:∀(n:Nat)(acc:List zg)(r:List ar),OT (zpk n acc r) λv=>v.length<=acc.length+n
 |0,_,_=>OT.err
 |n+1,acc,r=>by
  rw[zpk]
  exact OT.ite (λ_=>OT.thn λ_ _ _=>OT.thn λ_ _ _=>(zOf n _ _).imp λv h=>by simp at h;omega) λ_=>OT.ret ab
def zsx:∀(n:Nat)(acc:List ak)(r:List ar),OT (Kt n acc r) λv=>v.length<=acc.length+n
 |0,_,_=>OT.err
 |n+1,acc,r=>by
  rw[Kt]
  exact OT.ite (λ_=>OT.thn λ_ _ _=>(zsx n _ _).imp λv h=>by simp at h;omega) λ_=>OT.ret ab
def zOg:∀(n:Nat)(acc:List zg)(r:List ar),OT (zlx n acc r) λv=>v.length<=acc.length+n
 |0,_,_=>OT.err
 |n+1,acc,r=>by
  rw[zlx]
  exact OT.thn λ_ _ _=>OT.thn λ_ _ _=>OT.thn λ_ _ _=>OT.thn λ_ _ _=>OT.thn λ_ _ _=>OT.ite (λ_=>(zOg n _ _).imp λv h=>by simp at h;omega) λ_=>OT.ret af
structure Sh(r:List ar):Prop where
 wf:TWF r
 le:r.length<=1000000
def Sh.to{r r2:List ar}(h:Sh r)(k:ze8 r r2):Sh r2:=⟨k.wf,cW k.le h.le⟩
def Sh.tail{r:List ar}(h:Sh r)(k:(hdT r).aM≠3):Sh r.tail:=h.to (zB h.wf k).e
def zYs(h:Sh r):OT (DE 0 r) Af:=λe r2 k=>by
 have:=zEr ab h.wf k;have:=h.le;unfold Af;omega
def zSk(h:Sh r):OT (A6 r) λv=>v.length<4611686018427387904:=by
 unfold A6
 exact OT.thn λ_ r1 h1=>(zsx _ _ _).imp λv k=>by
  have:=(h.to (zss h.wf _ _ h1)).le;simp at k;omega
def zYt{L:List ak}(h:Sh r):OT (zv5 L r) λd=>Af d.Body:=by
 unfold zv5
 exact OT.thn λs r1 h1=>OT.thn λ_ r2 h2=>OT.thn λe r3 h3=>OT.thn λ_ r4 h4=>by
  have q1:=h.to (wF h.wf _ _ h1);have q2:=q1.to (wO q1.wf _ _ h2);exact OT.ret (zYs q2 _ _ h3)
def zK1{L:List ak}(h:Sh r):OT (AO L r) λd=>d.Rows.length<4611686018427387904:=by
 unfold AO
 exact OT.thn λs r1 h1=>OT.thn λrows r2 h2=>OT.thn λ_ _ _=>OT.thn λ_ _ _=>OT.thn λ_ _ _=>by
  have q1:=(h.to (wF h.wf _ _ h1)).le;have:=zE5 _ _ _ _ _ h2;exact OT.ret (by simp at this ⊢;omega)
def zE6{L:List ak}{o:Bool}(h:Sh r):OT (Ve L o r) λd=>d.aA.length<4611686018427387904:=by
 unfold Ve
 exact OT.thn λs r1 h1=>OT.thn λrows r2 h2=>OT.thn λ_ _ _=>by
  have q1:=(h.to (wF h.wf _ _ h1)).le;have:=zer _ _ _ _ _ h2;exact OT.ret (by simp at this ⊢;omega)
def zYu{L:List ak}(h:Sh r):OT (zy6 L r) λd=>d.aA.length<4611686018427387904:=by
 unfold zy6
 exact OT.thn λs r1 h1=>OT.thn λ_ r2 h2=>OT.thn λ_ r3 h3=>OT.thn λrows r4 h4=>OT.thn λ_ _ _=>by
  have q1:=h.to (wF h.wf _ _ h1);have q2:=q1.to (Qs q1.wf _ _ h2);have q3:=(q2.to (wv q2.wf _ _ h3)).le;have:=zer _ _ _ _ _ h4;exact OT.ret (by simp at this ⊢;omega)
def zSl{L:List ak}(h:Sh r):OT (Yu L r) λd=>d.Targets.length<4611686018427387904:=by
 unfold Yu
 exact OT.thn λs r1 h1=>OT.thn λ_ r2 h2=>OT.thn λ_ r3 h3=>OT.thn λ_ r4 h4=>OT.thn λ_ r5 h5=>OT.thn λ_ r6 h6=>OT.thn λtl r7 h7=>OT.thn λ_ _ _=>by
  have q1:=h.to (wF h.wf _ _ h1);have q2:=q1.to (Yx q1.wf _ _ h2);have q3:=q2.to (wO q2.wf _ _ h3);have q4:=q3.to (wv q3.wf _ _ h4);have q5:=q4.to (wO q4.wf _ _ h5);have q6:=(q5.to (Yx q5.wf _ _ h6)).le;have:=zOf _ _ _ _ _ h7;exact OT.ret (by simp at this ⊢;omega)
def zes:Af ex0:=by unfold Af ex0;rw[kY,J1];omega
def zSm(h:Sh r):OT (JI r) λb=>Af b.2.1:=by
 unfold JI
 refine OT.ite (λ_=>?_) λ_=>OT.ite (λ_=>?_) λ_=>OT.ite (λ_=>?_) λ_=>?_
 ·unfold zpl
  exact OT.thn λ_ _ _=>OT.thn λ_ _ _=>OT.thn λ_ _ _=>OT.thn λ_ _ _=>OT.thn λ_ _ _=>OT.thn λ_ _ _=>OT.thn λ_ _ _=>OT.ret zes
 ·unfold zy7
  exact OT.thn λ_ _ _=>OT.thn λ_ _ _=>OT.ret zes
 ·unfold zpm
  exact OT.thn λ_ _ _=>OT.thn λ_ _ _=>OT.thn λ_ _ _=>OT.thn λ_ _ _=>OT.ret zes
 ·unfold zEt
  exact OT.thn λe r1 h1=>OT.thn λ_ _ _=>OT.ret (zYs h _ _ h1)
def zOh{t:ak}(h:Sh r):OT (Wd t [] A6 r) λv=>v.length<4611686018427387904:=by
 unfold Wd
 exact OT.ite (λhb=>zSk (h.tail (zo hb))) λ_=>OT.ret af
def zSn{L:List ak}(h:Sh r):OT (Yv L r) λd=>d.aB.length<4611686018427387904/\d.Except.length<4611686018427387904/\Af d.Test:=by
 unfold Yv
 exact OT.thn λs r1 h1=>OT.thn λz r2 h2=>OT.thn λx r3 h3=>OT.thn λf r4 h4=>OT.thn λu r5 h5=>OT.thn λg r6 h6=>OT.thn λ_ r7 h7=>OT.thn λb r8 h8=>by
  have q1:=h.to (wF h.wf _ _ h1);have q2:=q1.to (km q1.wf (λr h=>Qt h) _ _ h2);have q3:=q2.to (km q2.wf (λr h=>Qt h) _ _ h3);have q4:=q3.to (km q3.wf (λr h=>wv h) _ _ h4);have q5:=q4.to (km q4.wf (λr h=>wv h) _ _ h5);have q6:=q5.to (km q5.wf (λr h=>wv h) _ _ h6);have q6':=q6.to (Q8 (t:=wc) q6.wf);have q7:=q6'.to (wO q6'.wf _ _ h7);exact OT.ret ⟨zOh q1 _ _ h2,zOh q2 _ _ h3,zSm q7 _ _ h8⟩
def zSo(h:Sh r):OT (zv4 [] r) λv=>v.length<4611686018427387904:=by
 unfold zv4
 exact OT.thn λs r1 h1=>OT.thn λ_ _ _=>by
  have:=zOg _ _ _ _ _ h1;have:=h.le;exact OT.ret (by simp at *;omega)
def z0f(p:yJ):Prop:=MaxP p/\zT3 p
def zK2{p:yJ}{h:Bool}(hs:Sh r)(hk:(hdT r).aM≠3)(hp:z0f p):OT (Qv p h r) λv=>z0f v.1:=by
 obtain⟨⟨m1,m2,m3,m4,m5,m6⟩,⟨a1,d1⟩,⟨a2,d2⟩,⟨a3,d3⟩,⟨a4,d4⟩,⟨a5,d5⟩,⟨a6,d6⟩,a7⟩:=hp;have ht:=hs.tail hk
 have all:∀{γ:Type}{Q:γ->Prop}{l:List γ}{x:γ},(∀d∈l,Q d)->Q x->∀d∈l++[x],Q d:=λh1 h2 d hd=>by
  rcases bz.1 hd with hd|hd
  ·exact h1 d hd
  ·rw[msQ.1 hd];exact h2
 unfold Qv
 refine OT.ite (λ_=>OT.thn λ_ r1 h1=>OT.thn λd r2 h2=>?_) λ_=>OT.ite (λ_=>OT.thn λ_ r1 h1=>OT.thn λd r2 h2=>?_) λ_=>OT.ite (λ_=>OT.thn λ_ r1 h1=>OT.thn λd r2 h2=>?_) λ_=>OT.ite (λ_=>OT.thn λ_ r1 h1=>OT.thn λd r2 h2=>?_) λ_=>OT.ite (λ_=>OT.thn λ_ r1 h1=>OT.thn λd r2 h2=>?_) λ_=>OT.ite (λ_=>OT.thn λ_ r1 h1=>OT.thn λd r2 h2=>?_) λ_=>OT.ite (λ_=>OT.thn λ_ r1 h1=>OT.thn λd r2 h2=>?_) λ_=>OT.ite (λ_=>OT.thn λ_ r1 h1=>OT.thn λd r2 h2=>?_) λ_=>OT.ite (λ_=>OT.thn λ_ r1 h1=>OT.thn λd r2 h2=>OT.thn λ_ r3 h3=>?_) λ_=>OT.err
 ·obtain⟨rfl,hl⟩:=yQ h1
  exact OT.ret ⟨⟨by simp;omega,m2,m3,m4,m5,m6⟩,⟨by simp;omega,all d1 (zYt ht _ _ h2)⟩,⟨a2,d2⟩,⟨a3,d3⟩,⟨a4,d4⟩,⟨a5,d5⟩,⟨a6,d6⟩,a7⟩
 ·obtain⟨rfl,hl⟩:=yQ h1
  exact OT.ret ⟨⟨m1,by simp;omega,m3,m4,m5,m6⟩,⟨a1,d1⟩,⟨by simp;omega,all d2 (zK1 ht _ _ h2)⟩,⟨a3,d3⟩,⟨a4,d4⟩,⟨a5,d5⟩,⟨a6,d6⟩,a7⟩
 ·obtain⟨rfl,hl⟩:=yQ h1
  exact OT.ret ⟨⟨m1,m2,by simp;omega,m4,m5,m6⟩,⟨a1,d1⟩,⟨a2,d2⟩,⟨by simp;omega,all d3 (zE6 ht _ _ h2)⟩,⟨a4,d4⟩,⟨a5,d5⟩,⟨a6,d6⟩,a7⟩
 ·obtain⟨rfl,hl⟩:=yQ h1
  exact OT.ret ⟨⟨m1,m2,by simp;omega,m4,m5,m6⟩,⟨a1,d1⟩,⟨a2,d2⟩,⟨by simp;omega,all d3 (zE6 ht _ _ h2)⟩,⟨a4,d4⟩,⟨a5,d5⟩,⟨a6,d6⟩,a7⟩
 ·obtain⟨rfl,hl⟩:=yQ h1
  exact OT.ret ⟨⟨m1,m2,m3,by simp;omega,m5,m6⟩,⟨a1,d1⟩,⟨a2,d2⟩,⟨a3,d3⟩,⟨by simp;omega,all d4 (zSn ht _ _ h2)⟩,⟨a5,d5⟩,⟨a6,d6⟩,a7⟩
 ·obtain⟨rfl,hl⟩:=yQ h1
  exact OT.ret ⟨⟨m1,m2,m3,m4,by simp;omega,m6⟩,⟨a1,d1⟩,⟨a2,d2⟩,⟨a3,d3⟩,⟨a4,d4⟩,⟨by simp;omega,all d5 (zYu ht _ _ h2)⟩,⟨a6,d6⟩,a7⟩
 ·obtain⟨rfl,hl⟩:=yQ h1
  exact OT.ret ⟨⟨m1,m2,m3,m4,m5,by simp;omega⟩,⟨a1,d1⟩,⟨a2,d2⟩,⟨a3,d3⟩,⟨a4,d4⟩,⟨a5,d5⟩,⟨by simp;omega,all d6 (zSl ht _ _ h2)⟩,a7⟩
 ·obtain⟨rfl,hl⟩:=yY h1
  rw[List.length_eq_zero_iff.1 (aY hl)]at h2;exact OT.ret ⟨⟨m1,m2,m3,m4,m5,m6⟩,⟨a1,d1⟩,⟨a2,d2⟩,⟨a3,d3⟩,⟨a4,d4⟩,⟨a5,d5⟩,⟨a6,d6⟩,zSo ht _ _ h2⟩
 ·exact OT.ret ⟨⟨m1,m2,m3,m4,m5,m6⟩,⟨a1,d1⟩,⟨a2,d2⟩,⟨a3,d3⟩,⟨a4,d4⟩,⟨a5,d5⟩,⟨a6,d6⟩,a7⟩
def zsy{p:yJ}{h:Bool}(hs:TWF r)(hk:(hdT r).aM≠3):MV r (Qv p h r):=by
 have ht:=hs.tail hk
 have room:∀{n most:Nat},MV r (Qu n most r):=λ{n most}=>by
  unfold Qu
  exact(Yw hs).thn λ_ r1 h1 q1=>by obtain⟨rfl,_⟩:=yY h1;exact MV.tail hs hk (MV.ret ht)
 unfold Qv
 refine MV.ite (λ_=>room.thn λ_ r1 h1 q1=>(zEw q1.wf).thn λd r2 h2 q2=>MV.ret q2.wf) λ_=>MV.ite (λ_=>room.thn λ_ r1 h1 q1=>(zk3 q1.wf).thn λd r2 h2 q2=>MV.ret q2.wf) λ_=>MV.ite (λ_=>room.thn λ_ r1 h1 q1=>(zk4 q1.wf).thn λd r2 h2 q2=>MV.ret q2.wf) λ_=>MV.ite (λ_=>room.thn λ_ r1 h1 q1=>(zk4 q1.wf).thn λd r2 h2 q2=>MV.ret q2.wf) λ_=>MV.ite (λ_=>room.thn λ_ r1 h1 q1=>(zsv q1.wf).thn λd r2 h2 q2=>MV.ret q2.wf) λ_=>MV.ite (λ_=>room.thn λ_ r1 h1 q1=>(zOa q1.wf).thn λd r2 h2 q2=>MV.ret q2.wf) λ_=>MV.ite (λ_=>room.thn λ_ r1 h1 q1=>(zsu q1.wf).thn λd r2 h2 q2=>MV.ret q2.wf) λ_=>MV.ite (λ_=>(Yw hs).thn λ_ r1 h1 q1=>?_) λ_=>MV.ite (λ_=>(Yw hs).thn λ_ r1 h1 q1=>?_) λ_=>MV.err
 ·obtain⟨rfl,_⟩:=yY h1
  exact MV.tail hs hk ((zst ht).thn λd r2 h2 q2=>MV.ret q2.wf)
 ·obtain⟨rfl,_⟩:=yY h1
  exact MV.tail hs hk ((wv ht).thn λd r2 h2 q2=>(wO q2.wf).thn λ_ r3 h3 q3=>MV.ret q3.wf)
def zv7:∀(n:Nat)(r:List ar)(p:yJ)(h:Bool),Sh r->z0f p->OT (HO n p h r) λv=>z0f v.1
 |0,_,_,_,_,_=>OT.err
 |n+1,r,p,h,hs,hp=>by
  rw[HO]
  exact OT.ite (λ_=>OT.ret hp) λhk=>OT.thn λx r1 h1=>zv7 n r1 x.1 x.2 (hs.to (zsy hs.wf hk _ _ h1)) (zK2 hs hk hp _ _ h1)
end
def zzq{s:ak}(h:zD s=bf):s.length<=30:=by
 have:=(uY h).1;omega
def zK3{b:Bool}{lv:Nat}{e:Expr}{k:Nat}(h:GD b lv e k):kT e=bf:=by
 have n0:([]:ak).length<=30:=cj _
 induction h with
 |num _ _=>rfl
 |name h=>simp[kT,HK,zzq h]
 |table h1 h2=>simp[kT,HK,zzq h1,zzq h2]
 |zone h=>simp[kT,HK,zzq h]
 |par _ ih=>exact ih
 |cond _ _ _ i1 i2 i3=>simp[kT,HK,i1,i2,i3]
 |not _ ih=>simp[kT,HK,ih]
 |neg _ ih=>simp[kT,HK,ih]
 |up _ _ ih=>exact ih
 |step _ _ _ _ _ i1 i2=>simp[Vr,kT,HK,i1,i2]
 |cmp _ _ _ _ i1 i2=>simp[Vr,kT,HK,i1,i2]
 |done _ ih=>exact ih
structure Sh2(r:List ar):Prop where
 wf:TWF r
 le:r.length<=2500
def Sh2.to{r r2:List ar}(h:Sh2 r)(k:ze8 r r2):Sh2 r2:=⟨k.wf,cW k.le h.le⟩
def zE7{r:List ar}(h:Sh2 r):OT (DE 0 r) λe=>zo8 e=bf/\∀d,Vs e<=d->OX d e:=λe r2 he=>by
 obtain⟨k,g1,g2⟩:=DE_gd ab h.wf he;have:=zEr ab h.wf he;have:=h.le;refine⟨?_,gd_ox g1⟩;unfold zo8;rw[zK3 g1,dt ab];rfl
def JK{L:List ak}{r r2:List ar}{s:ak}(h:xX L r=.ok (s,r2)):zD s=bf/\s ∉ L:=by
 unfold xX at h;split at h
 ·rename_i hk
  split at h
  ·cases h
  ·rename_i hn
   cases h;simp only[Ye,bn]at hk;exact⟨hk.2,hn⟩
 ·cases h
def zv8{c:Bool}{e:Int}{r r2:List ar}{u:Unit}(h:zh3 c e r=.ok (u,r2)):c=bf:=by
 unfold zh3 at h;obtain⟨_,r1,h1,h2⟩:=zG h;obtain⟨_,r3,h3,h4⟩:=zG h2;exact(yY h3).2
def YA{m n:Int}{r r2:List ar}(h:wo m r=.ok (n,r2)):0-m<=n/\n<=m:=by
 unfold wo at h;split at h
 ·obtain⟨a,r1,h1,h2⟩:=zG h
  cases h2;obtain⟨_,q1,q2⟩:=uI h1;omega
 ·obtain⟨_,q1,q2⟩:=uI h
  omega
def zv9{s:ak}:∀{w:List ak}{i:Nat},A4 s w=bc i->i<w.length
 |x::w,i,h=>by
  rw[A4]at h;split at h
  ·cases h;simp
  ·obtain⟨j,hj,rfl⟩:=Option.map_eq_some_iff.1 h
   have:=zv9 hj;simp only[lc];omega
def zet{w:List ak}{r r2:List ar}{i:Int}(h:vm w r=.ok (i,r2)):0<=i/\i<w.length:=by
 unfold vm at h;split at h
 ·split at h
  ·rename_i j hj
   cases h;have:=zv9 hj;omega
  ·cases h
 ·cases h
def zk6{r r2:List ar}{p:zg}(h:uh r=.ok (p,r2)):Qo p:=by
 unfold uh at h;obtain⟨a,r1,h1,h2⟩:=zG h;obtain⟨b,r3,h3,h4⟩:=zG h2;obtain⟨c,r5,h5,h6⟩:=zG h4;cases h6;exact⟨(uI h1).2,(uI h3).2,(uI h5).2⟩
def Zr{s:ak}(hs:zD s=bf):∀(l seen:List ak),jJ bf seen l=bf->s ∉ seen++l->jJ bf seen (l++[s])=bf
 |[],seen,_,hn=>by
  rw[bI]at hn;simp[jJ,hs,hn]
 |x::l,seen,h,hn=>by
  rw[jJ]at h;simp only[bn]at h;rw[bU,jJ];simp only[bn];exact⟨h.1,h.2.1,Zr hs l (seen++[x]) h.2.2 (by simpa using hn)⟩
def Ao{α:Type}{l:List α}{g:α->ak}{m:Nat}{x:α}(h:vW l g m)(hm:l.length<m)(hn:zD (g x)=bf)(hx:g x ∉ l.map g):vW (l++[x]) g m :=
 ⟨by simp only[la,lc,bF];omega,by rw[bO];exact Zr hn _ _ h.2 (by simpa using hx)⟩
def jR{α:Type}{P:α->Prop}{l:List α}{x:α}(h:∀y∈l,P y)(hx:P x):∀y∈l++[x],P y:=λy hy=>by
 rcases bz.1 hy with hy|hy
 ·exact h y hy
 ·rw[msQ.1 hy];exact hx
def zYv(v:List aw):Prop:=(v.length<=60/\jJ bf [] (v.map aw.aL)=bf)/\∀x∈v,-1099511627776<=x.N/\x.N<=1099511627776
def zwa:∀(n:Nat)(acc:List aw)(r:List ar),zYv acc->OT (Ku n acc r) zYv
 |0,_,_,_=>OT.err
 |n+1,acc,r,h=>OT.ite (λ_=>OT.thn λ_ r1 h1=>OT.thn λs r2 h2=>OT.thn λv r3 h3=>zwa n _ _ (by
   obtain⟨_,hl⟩:=yY h1;have hl:=aY hl;obtain⟨f1,f2⟩:=JK h2;have q:=YA h3
   exact⟨⟨by simp only[la,lc,bF];omega,by rw[bO];exact Zr f1 _ _ h.1.2 (by simpa using f2)⟩,jR h.2 (by show -1099511627776<=v/\v<=1099511627776;omega)⟩)) λ_=>OT.ret h
def TgtV(v:List zg):Prop:=(1<=v.length/\v.length<=20)/\∀x∈v,Qo x
def zE8:∀(n:Nat)(acc:List zg)(r:List ar),TgtV acc->OT (zpk n acc r) TgtV
 |0,_,_,_=>OT.err
 |n+1,acc,r,h=>OT.ite (λ_=>OT.thn λ_ r1 h1=>OT.thn λp r2 h2=>zE8 n _ _ (by
   have hl:=aY (yY h1).2
   exact⟨by simp only[la,lc,bF];omega,jR h.2 (zk6 h2)⟩)) λ_=>OT.ret h
def zwb:∀(n:Nat)(acc:List ak)(r:List ar),acc.all zD=bf->OT (Kt n acc r) λv=>v.all zD=bf
 |0,_,_,_=>OT.err
 |n+1,acc,r,h=>OT.ite (λ_=>OT.thn λs r1 h1=>zwb n _ _ (by rw[List.all_append,h,cP,(Zq h1).2];rfl)) λ_=>OT.ret h
def zK4{r:List ar}(hs:Sh2 r):OT (A6 r) λv=>v.all zD=bf/\v.length<=3000:=OT.thn λs r1 h1=>λv r2 h2=>by
 have h3:=zwb _ _ _ (by rw[cP,(Zq h1).2];rfl) _ _ h2;have h4:=zsx _ _ _ _ _ h2;have:=(wM hs.wf h1).lt;have:=hs.le;refine⟨h3,?_⟩;simp only[lc,bF]at h4;omega
def zE9{r:List ar}{t:ak}(hs:Sh2 r):OT (Wd t [] A6 r) λv=>v.all zD=bf/\v.length<=3000:=OT.ite (λhb=>zK4 ⟨hs.wf.tail (zo hb),by have:=xb hs.wf;have:=hs.le;omega⟩) λ_=>OT.ret ⟨rfl,af⟩
def zsz{t:ak}{lo hi n:Int}{r r2:List ar}(h:Wd t 0 (jQ lo hi) r=.ok (n,r2)):n=0∨(lo<=n/\n<=hi):=by
 unfold Wd at h;split at h
 ·exact .inr (uI h).2
 ·cases h;exact .inl rfl
def zFa:∀(n s:Nat)(r:List ar),s<64->OT (zfw n s r) λv=>0<v/\v<64
 |0,_,_,_=>OT.err
 |n+1,s,r,h=>by
  rw[zfw];split
  ·exact OT.ite (λh0=>OT.ret ⟨h0,h⟩) λ_=>OT.err
  ·rename_i k hk
   refine OT.ite (λh0=>OT.ret ⟨h0.1,h⟩) λ_=>OT.ite (λ_=>OT.err) λ_=>OT.ite (λ_=>?_) λ_=>OT.err
   exact zFa n _ _ (zYg s h k (zN6 hk)).1
def SunV(v:List zg):Prop:=v.length<=24/\∀x∈v,zy3 x
def zFb:∀(n:Nat)(acc:List zg)(r:List ar),SunV acc->OT (zlx n acc r) SunV
 |0,_,_,_=>OT.err
 |n+1,acc,r,h=>OT.thn λ_ r1 h1=>OT.thn λ_ r2 h2=>OT.thn λx r3 h3=>OT.thn λy r4 h4=>OT.thn λz r5 h5=>by
  have hl:=aY (yY h2).2;have q3:=YA h3;have q4:=YA h4;have q5:=(uI h5).2
  have hv:SunV (acc++[zg.mk x y z]):=⟨by simp only[la,lc,bF];omega,jR h.2 ⟨by show -4096<=x/\x<=4096;omega,by show -4096<=y/\y<=4096;omega,q5⟩⟩
  exact OT.ite (λ_=>zFb n _ _ hv) λ_=>OT.ret hv
section
variable{r:List ar}{L:List ak}
def zYw(hs:Sh2 r):OT (zv5 L r) λd=>(zD d.aL=bf/\d.aL ∉ L)/\okE 12 d.Body=bf/\zo8 d.Body=bf:=OT.thn λs r1 h1=>OT.thn λ_ r2 h2=>OT.thn λe r3 h3=>OT.thn λ_ r4 h4=>OT.ret (by
 have s1:=hs.to (qB hs.wf h1).e;have s2:=s1.to (yr s1.wf h2).e;obtain⟨b1,b2⟩:=zE7 s2 _ _ h3
 exact⟨JK h1,zX0 (b2 12 (aY (zv8 h4))),b1⟩)
def zK5:OT (AO L r) λd=>(zD d.aL=bf/\d.aL ∉ L)/\Aj d:=OT.thn λs r1 h1=>OT.thn λv r2 h2=>OT.thn λ_ r3 h3=>OT.thn λn r4 h4=>OT.thn λ_ r5 h5=>OT.ret (by
 obtain⟨v1,v2⟩:=zwa _ _ _ ⟨⟨cj _,rfl⟩,λ_ h=>by cases h⟩ _ _ h2;have q:=YA h4
 exact⟨JK h1,v1,by show -1099511627776<=n/\n<=1099511627776;omega,v2⟩)
def zFc{o:Bool}:OT (Ve L o r) λd=>(zD d.aL=bf/\d.aL ∉ L)/\Aw d.aA:=OT.thn λs r1 h1=>OT.thn λv r2 h2=>OT.thn λ_ r3 h3=>OT.ret ⟨JK h1,vU.1 (zv8 h3)⟩
def zYx:OT (zy6 L r) λd=>(zD d.aL=bf/\d.aL ∉ L)/\zGv d:=OT.thn λs r1 h1=>OT.thn λk r2 h2=>OT.thn λn r3 h3=>OT.thn λv r4 h4=>OT.thn λ_ r5 h5=>OT.ret (by
 have q:=zet h2;rw[show LOAD.length=3 from rfl]at q
 exact⟨JK h1,by show 0<=k/\k<=2;omega,(uI h3).2,vU.1 (zv8 h5)⟩)
def zSp:OT (Yu L r) λd=>(zD d.aL=bf/\d.aL ∉ L)/\Ym d:=OT.thn λs r1 h1=>OT.thn λeye r2 h2=>OT.thn λ_ r3 h3=>OT.thn λn r4 h4=>OT.thn λ_ r5 h5=>OT.thn λp r6 h6=>OT.thn λv r7 h7=>OT.thn λ_ r8 h8=>OT.ret (by
 obtain⟨⟨v1,v2⟩,v3⟩:=zE8 _ _ _ ⟨⟨aq,af⟩,λx hx=>by rw[msQ.1 hx];exact zk6 h6⟩ _ _ h7
 exact⟨JK h1,(uI h4).2,⟨by show(1:Int)<=(v.length:Nat);omega,by show((v.length:Nat):Int)<=20;omega⟩,zk6 h2,v3⟩)
def zSq(hs:Sh2 r):OT (JI r) λb=>zo8 b.2.1=bf/\∀nm zs ex f u g va,Vd ⟨nm,zs,ex,f,u,g,va,b.1,b.2.1,b.2.2.1,b.2.2.2.1,b.2.2.2.2.1,b.2.2.2.2.2⟩:=by
 unfold JI
 refine OT.ite (λhb=>?_) λ_=>OT.ite (λhb=>?_) λ_=>OT.ite (λhb=>?_) λ_=>?_
 ·refine OT.thn λa r1 h1=>OT.thn λ_ r2 h2=>OT.thn λb r3 h3=>OT.thn λ_ r4 h4=>OT.thn λc r5 h5=>OT.thn λd r6 h6=>OT.thn λ_ r7 h7=>OT.ret ⟨show zo8 ex0=bf by decide,λnm zs ex f u g va=>?_⟩
  have q1:=(uI h1).2;have q3:=(uI h3).2;have q5:=(uI h5).2;have q6:=(uI h6).2;exact⟨⟨by dsimp only;omega,by dsimp only;omega⟩,λh=>by dsimp only at h;omega,λ_=>rfl,λ_=>⟨q1,q3,q5,q6⟩,λh=>aU rfl h,λh=>by dsimp only at h;omega,λh=>by dsimp only at h;omega,λ_ _=>rfl,λ_=>⟨rfl,rfl⟩⟩
 ·refine OT.thn λs r1 h1=>OT.thn λ_ r2 h2=>OT.ret ⟨show zo8 ex0=bf by decide,λnm zs ex f u g va=>?_⟩
  obtain⟨q1,q2⟩:=zFa _ _ _ ae _ _ h1;exact⟨⟨by dsimp only;omega,by dsimp only;omega⟩,λh=>by dsimp only at h;omega,λ_=>rfl,λh=>by dsimp only at h;omega,λ_=>rfl,λ_=>⟨by show(1:Int)<=((s:Nat):Int);omega,by show((s:Nat):Int)<=63;omega⟩,λh=>by dsimp only at h;omega,λh=>aU rfl h,λ_=>⟨rfl,rfl⟩⟩
 ·refine OT.thn λa r1 h1=>OT.thn λb r2 h2=>OT.thn λn r3 h3=>OT.thn λ_ r4 h4=>OT.ret ⟨show zo8 ex0=bf by decide,λnm zs ex f u g va=>?_⟩
  have q1:=zet h1;have q2:=zet h2;have q3:=(uI h3).2;rw[show USE.length=6 from rfl]at q1 q2;exact⟨⟨by dsimp only;omega,by dsimp only;omega⟩,λh=>by dsimp only at h;omega,λ_=>rfl,λh=>by dsimp only at h;omega,λ_=>rfl,λh=>by dsimp only at h;omega,λ_=>⟨by show 0<=a/\a<=5;omega,by show 0<=b/\b<=5;omega,q3⟩,λ_ h=>aU rfl h,λh=>aU rfl h⟩
 ·refine OT.thn λe r1 h1=>OT.thn λ_ r2 h2=>OT.ret ?_
  obtain⟨b1,b2⟩:=zE7 hs _ _ h1;refine⟨b1,λnm zs ex f u g va=>?_⟩;exact⟨⟨by dsimp only;omega,by dsimp only;omega⟩,λ_=>zX0 (b2 12 (aY (zv8 h2))),λh=>aU rfl h,λh=>by dsimp only at h;omega,λ_=>rfl,λh=>by dsimp only at h;omega,λh=>by dsimp only at h;omega,λ_ _=>rfl,λ_=>⟨rfl,rfl⟩⟩
def zSr(hs:Sh2 r):OT (Yv L r) λd=>(zD d.aL=bf/\d.aL ∉ L)/\VX d/\zD4 d=bf:=OT.thn λs r1 h1=>OT.thn λz r2 h2=>OT.thn λx r3 h3=>OT.thn λf r4 h4=>OT.thn λu r5 h5=>OT.thn λg r6 h6=>OT.thn λ_ r7 h7=>OT.thn λb r8 h8=>OT.ret (by
 have s1:=hs.to (qB hs.wf h1).e;have s2:=s1.to (km s1.wf (λ_ h=>Qt h) _ _ h2);have s3:=s2.to (km s2.wf (λ_ h=>Qt h) _ _ h3);have s4:=s3.to (km s3.wf (λ_ h=>wv h) _ _ h4);have s5:=s4.to (km s4.wf (λ_ h=>wv h) _ _ h5);have s6:=s5.to (km s5.wf (λ_ h=>wv h) _ _ h6);have s7:=s6.to ((Q8 s6.wf).trans (yr (Q8 s6.wf).wf h7).e);obtain⟨z1,z2⟩:=zE9 s1 _ _ h2;obtain⟨x1,x2⟩:=zE9 s2 _ _ h3;obtain⟨b1,b2⟩:=zSq s7 _ _ h8;have q4:=zsz h4;have q5:=zsz h5;have q6:=zsz h6;obtain⟨f1,f2⟩:=JK h1
 have nn:∀{l:List ak},l.all zD=bf->l.length<=3000->zT4 l=bf:=λ{l} h1 h2=>by
  unfold zT4;rw[bn];exact⟨bj.2 λy hy=>dt (zzq (bj.1 h1 y hy)),dt h2⟩
 refine⟨⟨f1,f2⟩,⟨⟨⟨z1,x1⟩,⟨by show 0<=f;omega,by show f<=1073741824;omega⟩,⟨by show 0<=g;omega,by show g<=1073741824;omega⟩,⟨by show 0<=u;omega,by show u<=1073741824;omega⟩,by show u=0∨f<u;omega⟩,b2 _ _ _ _ _ _ _⟩,?_⟩;unfold zD4;simp only[bn]
 exact⟨dt (zzq f1),nn z1 z2,nn x1 x2,b1⟩)
def BG(p:yJ):Prop:=(∀d∈p.aF,zo8 d.Body=bf)/\∀x∈p.aE,zD4 x=bf
def zSs{p:yJ}{b:Bool}(hs:Sh2 r)(hk:(hdT r).aM≠3)(hp:uH p)(hg:BG p):OT (Qv p b r) λx=>uH x.1/\BG x.1:=by
 obtain⟨⟨h1,h2,h3,h4,h5,h6⟩,⟨b1,b2,b3,b4,b5,b6,b7⟩,hh,hn⟩:=hp;obtain⟨g1,g2⟩:=hg
 have ht:Sh2 r.tail:=⟨hs.wf.tail hk,by have:=xb hs.wf;have:=hs.le;omega⟩
 unfold Qv
 refine OT.ite (λ_=>OT.thn λ_ r1 k1=>OT.thn λd r2 k2=>?_) λ_=>OT.ite (λ_=>OT.thn λ_ r1 k1=>OT.thn λd r2 k2=>?_) λ_=>OT.ite (λ_=>OT.thn λ_ r1 k1=>OT.thn λd r2 k2=>?_) λ_ =>
  OT.ite (λ_=>OT.thn λ_ r1 k1=>OT.thn λd r2 k2=>?_) λ_=>OT.ite (λ_=>OT.thn λ_ r1 k1=>OT.thn λd r2 k2=>?_) λ_=>OT.ite (λ_=>OT.thn λ_ r1 k1=>OT.thn λd r2 k2=>?_) λ_ =>
  OT.ite (λ_=>OT.thn λ_ r1 k1=>OT.thn λd r2 k2=>?_) λ_=>OT.ite (λ_=>OT.thn λ_ r1 k1=>OT.thn λd r2 k2=>?_) λ_=>OT.ite (λ_=>OT.thn λ_ r1 k1=>OT.thn λn r2 k2=>OT.thn λ_ r3 k3=>?_) λ_=>OT.err
 ·obtain⟨rfl,hl⟩:=yQ k1
  obtain⟨⟨n1,n2⟩,q1,q2⟩:=zYw ht _ _ k2;exact OT.ret ⟨⟨⟨Ao h1 hl n1 n2,h2,h3,h4,h5,h6⟩,⟨jR b1 q1,b2,b3,b4,b5,b6,b7⟩,hh,hn⟩,jR g1 q2,g2⟩
 ·obtain⟨rfl,hl⟩:=yQ k1
  obtain⟨⟨n1,n2⟩,q1⟩:=zK5 _ _ k2;exact OT.ret ⟨⟨⟨h1,Ao h2 hl n1 n2,h3,h4,h5,h6⟩,⟨b1,jR b2 q1,b3,b4,b5,b6,b7⟩,hh,hn⟩,g1,g2⟩
 ·obtain⟨rfl,hl⟩:=yQ k1
  obtain⟨⟨n1,n2⟩,q1⟩:=zFc _ _ k2;exact OT.ret ⟨⟨⟨h1,h2,Ao h3 hl n1 n2,h4,h5,h6⟩,⟨b1,b2,jR b3 q1,b4,b5,b6,b7⟩,hh,hn⟩,g1,g2⟩
 ·obtain⟨rfl,hl⟩:=yQ k1
  obtain⟨⟨n1,n2⟩,q1⟩:=zFc _ _ k2;exact OT.ret ⟨⟨⟨h1,h2,Ao h3 hl n1 n2,h4,h5,h6⟩,⟨b1,b2,jR b3 q1,b4,b5,b6,b7⟩,hh,hn⟩,g1,g2⟩
 ·obtain⟨rfl,hl⟩:=yQ k1
  obtain⟨⟨n1,n2⟩,q1,q2⟩:=zSr ht _ _ k2;exact OT.ret ⟨⟨⟨h1,h2,h3,Ao h4 hl n1 n2,h5,h6⟩,⟨b1,b2,b3,jR b4 q1,b5,b6,b7⟩,hh,hn⟩,g1,jR g2 q2⟩
 ·obtain⟨rfl,hl⟩:=yQ k1
  obtain⟨⟨n1,n2⟩,q1⟩:=zYx _ _ k2;exact OT.ret ⟨⟨⟨h1,h2,h3,h4,Ao h5 hl n1 n2,h6⟩,⟨b1,b2,b3,b4,jR b5 q1,b6,b7⟩,hh,hn⟩,g1,g2⟩
 ·obtain⟨rfl,hl⟩:=yQ k1
  obtain⟨⟨n1,n2⟩,q1⟩:=zSp _ _ k2;exact OT.ret ⟨⟨⟨h1,h2,h3,h4,h5,Ao h6 hl n1 n2⟩,⟨b1,b2,b3,b4,b5,jR b6 q1,b7⟩,hh,hn⟩,g1,g2⟩
 ·obtain⟨v,r3,k3,k4⟩:=zG k2
  obtain⟨_,r5,k5,k6⟩:=zG k4;cases k6;obtain⟨q1,q2⟩:=zFb _ _ _ ⟨hn,b7⟩ _ _ k3;exact OT.ret ⟨⟨⟨h1,h2,h3,h4,h5,h6⟩,⟨b1,b2,b3,b4,b5,b6,q2⟩,hh,q1⟩,g1,g2⟩
 ·exact OT.ret ⟨⟨⟨h1,h2,h3,h4,h5,h6⟩,⟨b1,b2,b3,b4,b5,b6,b7⟩,(uI k2).2,hn⟩,g1,g2⟩
end
def zFd:∀(n:Nat)(p:yJ)(b:Bool)(r:List ar),Sh2 r->uH p->BG p->OT (HO n p b r) λx=>uH x.1/\BG x.1
 |0,_,_,_,_,_,_=>OT.err
 |n+1,p,b,r,hs,hp,hg=>OT.ite (λ_=>OT.ret ⟨hp,hg⟩) λhk=>OT.thn λx r1 h1=>by
  obtain⟨q1,q2⟩:=zSs hs hk hp hg _ _ h1;exact zFd n _ _ _ (hs.to (zsy hs.wf hk _ _ h1)) q1 q2
def zYy{p:yJ}(hp:uH p)(hg:BG p):zXy p:=by
 obtain⟨⟨h1,h2,h3,h4,h5,h6⟩,⟨b1,b2,b3,b4,b5,b6,b7⟩,hh,hn⟩:=hp
 have hd:∀{α:Type}{l:List α}{g:α->ak}{m:Nat},vW l g m->∀x∈l,zD (g x)=bf:=λ{α l g m} h x hx=>bj.1 (HM _ _ h.2) _ (cw hx)
 exact⟨by have:=h1.1;omega,by have:=h2.1;omega,by have:=h3.1;omega,by have:=h4.1;omega,by have:=h5.1;omega,by have:=h6.1;omega,ab,λx hx=>⟨zzq (hd h1 x hx),hg.1 x hx⟩,
  λx hx=>⟨zzq (hd h2 x hx),by have:=(b2 x hx).1.1;omega,λy hy=>zzq (bj.1 (HM _ _ (b2 x hx).1.2) _ (cw hy))⟩,λx hx=>⟨zzq (hd h3 x hx),by have:=(b3 x hx).1.2;omega⟩,hg.2,
  λx hx=>⟨zzq (hd h5 x hx),by have:=(b5 x hx).2.2.1.2;omega⟩,λx hx=>⟨zzq (hd h6 x hx),by have:=(b6 x hx).2.1.2;omega⟩⟩
def lzQ:(∀a b:ak,(a++b).length=a.length+b.length)/\zgy.length=2/\zgx.length=2/\t__.length=1/\vb.length=6/\oU.length=5/\oS.length=3/\yN.length=6/\yM.length=6/\WT.length=4/\JV.length=2:=⟨λ_ _=>List.length_append,rfl,rfl,rfl,rfl,rfl,rfl,rfl,rfl,rfl,rfl⟩
def AP{t:ak}{a b:Int}(h:a<b):atS t a b=zgy++(t++zgx):=aP h
def uZ{t:ak}{a b:Int}(h:¬a<b):atS t a b=t:=aO h
def l28:zgy.length=2:=rfl
def l29:zgx.length=2:=rfl
def lsp:t__.length=1:=rfl
def ltb:vb.length=6:=rfl
def lzn:oU.length=5:=rfl
def lif:oS.length=3:=rfl
def lth:yN.length=6:=rfl
def lel:yM.length=6:=rfl
def lnt:WT.length=4:=rfl
def lmi:JV.length=2:=rfl
def i29:zgx=[32,41]:=rfl
def qC{e:Expr}{i:Nat}(h:i<e.Args.length):idx e.Args (i:Int)=bc (xD e i):=by
 refine yx ?_;unfold xD;rw[ca,bA h];rfl
def zFe{e:Expr}{i:Nat}(h:i<e.Args.length):xD e i∈e.Args:=by
 unfold xD;rw[ca,bA h];exact List.getElem_mem h
def WrOK(RK:Nat)(d:Nat)(e:Expr):Prop:=∀i,i<e.Args.length->∀(b:ak)(f:Int),b.length+(atS (zO d (xD e i)) (lvO (xD e i).Op) f).length<=140737488355328->wa RK b (xD e i) f=bc (b++atS (zO d (xD e i)) (lvO (xD e i).Op) f)
def zK6{RK d:Nat}{e:Expr}(ih:WrOK RK d e)(hl:e.Args.length=3){b:ak}(hb:b.length+(oS++(atS (zO d (xD e 0)) (lvO (xD e 0).Op) 0++(yN++(atS (zO d (xD e 1)) (lvO (xD e 1).Op) 0++(yM++atS (zO d (xD e 2)) (lvO (xD e 2).Op) 0))))).length<=140737488355328)(c1 c2:Int)(c3 c4:ak):
  kd (wa RK) ((3:Nat):Int) c1 c2 c3 c4 e.Args ([oS,yN,yM]:List ak) KK (b,0)=bc (b++(oS++(atS (zO d (xD e 0)) (lvO (xD e 0).Op) 0++(yN++(atS (zO d (xD e 1)) (lvO (xD e 1).Op) 0++(yM++atS (zO d (xD e 2)) (lvO (xD e 2).Op) 0)))))):=by
 obtain⟨k,hk⟩:∃k,KK=k+4:=⟨KK-4,by have:=j5 (n:=100) ab;omega⟩
 simp only[la,lif,lth,lel]at hb;have i0:idx e.Args 0=bc (xD e 0):=qC (i:=0) ab;have i1:idx e.Args 1=bc (xD e 1):=qC (i:=1) ab;have i2:idx e.Args 2=bc (xD e 2):=qC (i:=2) ab;rw[hk,kd];simp only[show decide ((0:Int)<((3:Nat):Int))=bf from rfl,ctQ];rw[zE ae,bsQ,show(([oS,yN,yM]:List ak))[(cg 0)]?=bc oS from rfl,bsQ,yo (by rw[lif];omega),bsQ,i0,bsQ];simp only[];rw[ih 0 ab _ _ (by simp only[la,lif];omega),bsQ,show w64 (0+1)=1 from rfl,kd];simp only[show decide ((1:Int)<((3:Nat):Int))=bf from rfl,ctQ];rw[zE ae,bsQ,show(([oS,yN,yM]:List ak))[(cg 1)]?=bc yN from rfl,bsQ,yo (by simp only[la,lif,lth];omega),bsQ,i1,bsQ];simp only[];rw[ih 1 ab _ _ (by simp only[la,lif,lth];omega),bsQ,show w64 (1+1)=2 from rfl,kd];simp only[show decide ((2:Int)<((3:Nat):Int))=bf from rfl,ctQ];rw[zE ae,bsQ,show(([oS,yN,yM]:List ak))[(cg 2)]?=bc yM from rfl,bsQ,yo (by simp only[la,lif,lth,lel];omega),bsQ,i2,bsQ];simp only[];rw[ih 2 ab _ _ (by simp only[la,lif,lth,lel];omega),bsQ,show w64 (2+1)=3 from rfl,kd];simp only[show decide ((3:Int)<((3:Nat):Int))=bd from rfl,cf,asc]
def zK7{RK d:Nat}{e:Expr}(ih:WrOK RK d e)(hl:e.Args.length=3){b:ak}(hb:b.length+(oS++(atS (zO d (xD e 0)) (lvO (xD e 0).Op) 0++(yN++(atS (zO d (xD e 1)) (lvO (xD e 1).Op) 0++(yM++atS (zO d (xD e 2)) (lvO (xD e 2).Op) 0))))).length<=140737488355328)(c1 c2:Int)(c3 c4:ak):
  ke (wa RK) ((3:Nat):Int) c1 c2 c3 c4 e.Args ([oS,yN,yM]:List ak) KK (b,0)=bc (b++(oS++(atS (zO d (xD e 0)) (lvO (xD e 0).Op) 0++(yN++(atS (zO d (xD e 1)) (lvO (xD e 1).Op) 0++(yM++atS (zO d (xD e 2)) (lvO (xD e 2).Op) 0)))))):=by
 obtain⟨k,hk⟩:∃k,KK=k+4:=⟨KK-4,by have:=j5 (n:=100) ab;omega⟩
 simp only[la,lif,lth,lel]at hb;have i0:idx e.Args 0=bc (xD e 0):=qC (i:=0) ab;have i1:idx e.Args 1=bc (xD e 1):=qC (i:=1) ab;have i2:idx e.Args 2=bc (xD e 2):=qC (i:=2) ab;rw[hk,ke];simp only[show decide ((0:Int)<((3:Nat):Int))=bf from rfl,ctQ];rw[zE ae,bsQ,show(([oS,yN,yM]:List ak))[(cg 0)]?=bc oS from rfl,bsQ,yo (by rw[lif];omega),bsQ,i0,bsQ];simp only[];rw[ih 0 ab _ _ (by simp only[la,lif];omega),bsQ,show w64 (0+1)=1 from rfl,ke];simp only[show decide ((1:Int)<((3:Nat):Int))=bf from rfl,ctQ];rw[zE ae,bsQ,show(([oS,yN,yM]:List ak))[(cg 1)]?=bc yN from rfl,bsQ,yo (by simp only[la,lif,lth];omega),bsQ,i1,bsQ];simp only[];rw[ih 1 ab _ _ (by simp only[la,lif,lth];omega),bsQ,show w64 (1+1)=2 from rfl,ke];simp only[show decide ((2:Int)<((3:Nat):Int))=bf from rfl,ctQ];rw[zE ae,bsQ,show(([oS,yN,yM]:List ak))[(cg 2)]?=bc yM from rfl,bsQ,yo (by simp only[la,lif,lth,lel];omega),bsQ,i2,bsQ];simp only[];rw[ih 2 ab _ _ (by simp only[la,lif,lth,lel];omega),bsQ,show w64 (2+1)=3 from rfl,ke];simp only[show decide ((3:Int)<((3:Nat):Int))=bd from rfl,cf,asc]
def zy8{RK d:Nat}{e:Expr}{b:ak}{f:Int}(hh:xB e=bf)(ih:WrOK RK d e)(hb:b.length+(atS (zO (d+1) e) (lvO e.Op) f).length<=140737488355328):wa (RK+1) b e f=bc (b++atS (zO (d+1) e) (lvO e.Op) f):=by
 obtain⟨⟨h0,h1,hl⟩,⟨n0,n1⟩,hs,hk,_⟩:=Zi hh;have hsg:=zEd e.Op;have hlv:=zy4 e.Op;rw[wa,xv,zEc h0 h1];simp only[bsQ];by_cases o0:e.Op=0
 ·have hT:zO (d+1) e=Lib.decDigits e.N.toNat:=by rw[zO,aP o0]
  rw[hT]at hb ⊢;have hd:=zej (n:=e.N.toNat) ab;by_cases hf:lvO e.Op<f
  ·rw[AP hf]at hb ⊢
   try simp only[lzQ]at hb
   simp only[dt hf,ctQ,cf,dt o0,];rw[yo (by (try simp only[lzQ]);omega),bsQ]
   try simp only[]
   rw[zk0 n0 ab,bsQ]
   try simp only[]
   rw[yo (by (try simp only[lzQ]);omega),bsQ]
   try simp only[]
   rw[Qq (by (try simp only[lzQ]);omega),bsQ]
   try simp only[]
   try simp only[asc,i29]
  ·rw[uZ hf]at hb ⊢
   try simp only[lzQ]at hb
   simp only[df hf,ctQ,cf,dt o0,];rw[zk0 n0 ab,bsQ]
   try simp only[]
   rw[yo (by (try simp only[lzQ]);omega),bsQ]
   try simp only[]
   try simp only[asc,i29]
 by_cases o1:e.Op=1
 ·have hT:zO (d+1) e=e.S:=by rw[zO,aO o0,aP o1]
  rw[hT]at hb ⊢;by_cases hf:lvO e.Op<f
  ·rw[AP hf]at hb ⊢
   try simp only[lzQ]at hb
   simp only[dt hf,ctQ,cf,df o0,dt o1,];rw[yo (by (try simp only[lzQ]);omega),bsQ]
   try simp only[]
   rw[yo (by (try simp only[lzQ]);omega),bsQ]
   try simp only[]
   rw[Qq (by (try simp only[lzQ]);omega),bsQ]
   try simp only[]
   try simp only[asc,i29]
  ·rw[uZ hf]at hb ⊢
   try simp only[lzQ]at hb
   simp only[df hf,ctQ,cf,df o0,dt o1,];rw[yo (by (try simp only[lzQ]);omega),bsQ]
   try simp only[]
   try simp only[asc,i29]
 by_cases o2:e.Op=2
 ·have hT:zO (d+1) e=vb++(e.S++(t__++e.Key)):=by rw[zO,aO o0,aO o1,aP o2]
  rw[hT]at hb ⊢;by_cases hf:lvO e.Op<f
  ·rw[AP hf]at hb ⊢
   try simp only[lzQ]at hb
   simp only[dt hf,ctQ,cf,df o0,df o1,dt o2,];rw[yo (by (try simp only[lzQ]);omega),bsQ]
   try simp only[]
   rw[zE (by (try simp only[lzQ]);omega),bsQ]
   try simp only[]
   rw[zE (by (try simp only[lzQ]);omega),bsQ]
   try simp only[]
   rw[zE (by (try simp only[lzQ]);omega),bsQ]
   try simp only[]
   rw[yo (by (try simp only[lzQ]);omega),bsQ]
   try simp only[]
   rw[Qq (by (try simp only[lzQ]);omega),bsQ]
   try simp only[]
   try simp only[asc,i29]
  ·rw[uZ hf]at hb ⊢
   try simp only[lzQ]at hb
   simp only[df hf,ctQ,cf,df o0,df o1,dt o2,];rw[zE (by (try simp only[lzQ]);omega),bsQ]
   try simp only[]
   rw[zE (by (try simp only[lzQ]);omega),bsQ]
   try simp only[]
   rw[zE (by (try simp only[lzQ]);omega),bsQ]
   try simp only[]
   rw[yo (by (try simp only[lzQ]);omega),bsQ]
   try simp only[]
   try simp only[asc,i29]
 by_cases o3:e.Op=3
 ·have hT:zO (d+1) e=oU++e.S:=by rw[zO,aO o0,aO o1,aO o2,aP o3]
  rw[hT]at hb ⊢;by_cases hf:lvO e.Op<f
  ·rw[AP hf]at hb ⊢
   try simp only[lzQ]at hb
   simp only[dt hf,ctQ,cf,df o0,df o1,df o2,dt o3,];rw[yo (by (try simp only[lzQ]);omega),bsQ]
   try simp only[]
   rw[zE (by (try simp only[lzQ]);omega),bsQ]
   try simp only[]
   rw[yo (by (try simp only[lzQ]);omega),bsQ]
   try simp only[]
   rw[Qq (by (try simp only[lzQ]);omega),bsQ]
   try simp only[]
   try simp only[asc,i29]
  ·rw[uZ hf]at hb ⊢
   try simp only[lzQ]at hb
   simp only[df hf,ctQ,cf,df o0,df o1,df o2,dt o3,];rw[zE (by (try simp only[lzQ]);omega),bsQ]
   try simp only[]
   rw[yo (by (try simp only[lzQ]);omega),bsQ]
   try simp only[]
   try simp only[asc,i29]
 by_cases o16:e.Op=16
 ·have hT:zO (d+1) e=oS++(atS (zO d (xD e 0)) (lvO (xD e 0).Op) 0++(yN++(atS (zO d (xD e 1)) (lvO (xD e 1).Op) 0++(yM++atS (zO d (xD e 2)) (lvO (xD e 2).Op) 0)))):=by rw[zO,aO o0,aO o1,aO o2,aO o3,aP o16]
  rw[hT]at hb ⊢
  have hn:e.Args.length=3:=by rw[o16]at hl;have:jx 16=3:=rfl;omega
  have i0:idx e.Args 0=bc (xD e 0):=qC (i:=0) ab;have i1:idx e.Args 1=bc (xD e 1):=qC (i:=1) ab;have i2:idx e.Args 2=bc (xD e 2):=qC (i:=2) ab;by_cases hf:lvO e.Op<f
  ·rw[AP hf]at hb ⊢
   try simp only[lzQ]at hb
   simp only[dt hf,ctQ,cf,df o0,df o1,df o2,df o3,dt o16,];rw[yo (by (try simp only[lzQ]);omega),bsQ]
   try simp only[]
   rw[zK6 ih hn (by (try simp only[lzQ]);omega),bsQ]
   try simp only[]
   rw[Qq (by (try simp only[lzQ]);omega),bsQ]
   try simp only[]
   try simp only[asc,i29]
  ·rw[uZ hf]at hb ⊢
   try simp only[lzQ]at hb
   simp only[df hf,ctQ,cf,df o0,df o1,df o2,df o3,dt o16,];rw[zK7 ih hn (by (try simp only[lzQ]);omega),bsQ]
   try simp only[]
   try simp only[asc,i29]
 by_cases o15:e.Op=15
 ·have hT:zO (d+1) e=WT++atS (zO d (xD e 0)) (lvO (xD e 0).Op) 3:=by rw[zO,aO o0,aO o1,aO o2,aO o3,aO o16,aP o15]
  rw[hT]at hb ⊢
  have hn:e.Args.length=1:=by rw[o15]at hl;have:jx 15=1:=rfl;omega
  have i0:idx e.Args 0=bc (xD e 0):=qC (i:=0) ab
  have hv:lvO e.Op=3:=by rw[o15];rfl
  by_cases hf:lvO e.Op<f
  ·rw[AP hf]at hb ⊢
   try simp only[lzQ]at hb
   simp only[dt hf,ctQ,cf,df o0,df o1,df o2,df o3,df o16,dt o15,];rw[yo (by (try simp only[lzQ]);omega),bsQ]
   try simp only[]
   rw[yo (by (try simp only[lzQ]);omega),bsQ]
   try simp only[]
   rw[i0,bsQ]
   try simp only[]
   simp only[hv];rw[ih 0 ab _ _ (by (try simp only[lzQ]);omega),bsQ]
   try simp only[]
   rw[Qq (by (try simp only[lzQ]);omega),bsQ]
   try simp only[]
   try simp only[asc,i29]
  ·rw[uZ hf]at hb ⊢
   try simp only[lzQ]at hb
   simp only[df hf,ctQ,cf,df o0,df o1,df o2,df o3,df o16,dt o15,];rw[yo (by (try simp only[lzQ]);omega),bsQ]
   try simp only[]
   rw[i0,bsQ]
   try simp only[]
   simp only[hv];rw[ih 0 ab _ _ (by (try simp only[lzQ]);omega),bsQ]
   try simp only[]
   try simp only[asc,i29]
 by_cases o9:e.Op=9
 ·have hT:zO (d+1) e=JV++atS (zO d (xD e 0)) (lvO (xD e 0).Op) 7:=by rw[zO,aO o0,aO o1,aO o2,aO o3,aO o16,aO o15,aP o9]
  rw[hT]at hb ⊢
  have hn:e.Args.length=1:=by rw[o9]at hl;have:jx 9=1:=rfl;omega
  have i0:idx e.Args 0=bc (xD e 0):=qC (i:=0) ab
  have hv:lvO e.Op=7:=by rw[o9];rfl
  by_cases hf:lvO e.Op<f
  ·rw[AP hf]at hb ⊢
   try simp only[lzQ]at hb
   simp only[dt hf,ctQ,cf,df o0,df o1,df o2,df o3,df o16,df o15,dt o9,];rw[yo (by (try simp only[lzQ]);omega),bsQ]
   try simp only[]
   rw[yo (by (try simp only[lzQ]);omega),bsQ]
   try simp only[]
   rw[i0,bsQ]
   try simp only[]
   simp only[hv];rw[ih 0 ab _ _ (by (try simp only[lzQ]);omega),bsQ]
   try simp only[]
   rw[Qq (by (try simp only[lzQ]);omega),bsQ]
   try simp only[]
   try simp only[asc,i29]
  ·rw[uZ hf]at hb ⊢
   try simp only[lzQ]at hb
   simp only[df hf,ctQ,cf,df o0,df o1,df o2,df o3,df o16,df o15,dt o9,];rw[yo (by (try simp only[lzQ]);omega),bsQ]
   try simp only[]
   rw[i0,bsQ]
   try simp only[]
   simp only[hv];rw[ih 0 ab _ _ (by (try simp only[lzQ]);omega),bsQ]
   try simp only[]
   try simp only[asc,i29]
 ·have hT:zO (d+1) e=atS (zO d (xD e 0)) (lvO (xD e 0).Op) (if lvO e.Op=4 then 5 else lvO e.Op)++(t__++(sgO e.Op++(t__++atS (zO d (xD e 1)) (lvO (xD e 1).Op) (lvO e.Op+1)))):=by rw[zO,aO o0,aO o1,aO o2,aO o3,aO o16,aO o15,aO o9]
  rw[hT]at hb ⊢
  have hn:e.Args.length=2:=by
   have:jx e.Op=2:=by unfold jx;rw[aO ab,aO ab,aO o16]
   omega
  have hbin:zlw e.Op=bf:=by unfold zlw;exact dt ab
  have i0:idx e.Args 0=bc (xD e 0):=qC (i:=0) ab;have i1:idx e.Args 1=bc (xD e 1):=qC (i:=1) ab
  have hx:(bif (decide (lvO e.Op=4))then bc (lvO e.Op+1)else bc (lvO e.Op))=bc (if lvO e.Op=4 then 5 else lvO e.Op):=by
   by_cases h4:lvO e.Op=4
   ·rw[dt h4,aP h4,h4];rfl
   ·rw[df h4,aO h4];rfl
  have hw:w64 (lvO e.Op+1)=lvO e.Op+1:=wL ab ab;by_cases hf:lvO e.Op<f
  ·rw[AP hf]at hb ⊢
   try simp only[lzQ]at hb
   simp only[dt hf,ctQ,cf,df o0,df o1,df o2,df o3,df o16,df o15,df o9,hbin,hx,hw,bsQ];rw[yo (by (try simp only[lzQ]);omega),bsQ]
   try simp only[]
   rw[i0,bsQ]
   try simp only[]
   rw[ih 0 ab _ _ (by (try simp only[lzQ]);omega),bsQ]
   try simp only[]
   rw[zE (by (try simp only[lzQ]);omega),bsQ]
   try simp only[]
   rw[zE (by (try simp only[lzQ]);omega),bsQ]
   try simp only[]
   rw[yo (by (try simp only[lzQ]);omega),bsQ]
   try simp only[]
   rw[i1,bsQ]
   try simp only[]
   rw[ih 1 ab _ _ (by (try simp only[lzQ]);omega),bsQ]
   try simp only[]
   rw[Qq (by (try simp only[lzQ]);omega),bsQ]
   try simp only[]
   try simp only[asc,i29]
  ·rw[uZ hf]at hb ⊢
   try simp only[lzQ]at hb
   simp only[df hf,ctQ,cf,df o0,df o1,df o2,df o3,df o16,df o15,df o9,hbin,hx,hw,bsQ];rw[i0,bsQ]
   try simp only[]
   rw[ih 0 ab _ _ (by (try simp only[lzQ]);omega),bsQ]
   try simp only[]
   rw[zE (by (try simp only[lzQ]);omega),bsQ]
   try simp only[]
   rw[zE (by (try simp only[lzQ]);omega),bsQ]
   try simp only[]
   rw[yo (by (try simp only[lzQ]);omega),bsQ]
   try simp only[]
   rw[i1,bsQ]
   try simp only[]
   rw[ih 1 ab _ _ (by (try simp only[lzQ]);omega),bsQ]
   try simp only[]
   try simp only[asc,i29]
def zwc:∀(d:Nat)(e:Expr)(K:Nat)(b:ak)(f:Int),okE d e=bf->d<K->b.length+(atS (zO d e) (lvO e.Op) f).length<=140737488355328->wa K b e f=bc (b++atS (zO d e) (lvO e.Op) f)
 |0,e,K,b,f,h,_,_=>by cases h
 |d+1,e,K,b,f,h,hK,hb=>by
  obtain⟨K,rfl⟩:∃k,K=k+1:=⟨K-1,ab⟩
  rw[okE,bn]at h;exact zy8 h.1 (λi hi b f hb=>zwc d _ K b f (bj.1 h.2 _ (zFe hi)) ab hb) hb
def zK8{d:Nat}(h:d<=12):100*4 ^ d<=1677721600:=by
 have:4 ^ d<=4 ^ 12:=Nat.pow_le_pow_right ab h;have:(4:Nat) ^ 12=16777216:=rfl;omega
def at_root{d:Nat}{e:Expr}:atS (zO d e) (lvO e.Op) 0=zO d e:=uZ (by have:=zy4 e.Op;omega)
def zy9{e:Expr}(h:okE 12 e=bf):wa KK [] e 0=bc (zO 12 e):=by
 have hl:=zvv 12 e h;have hp:=zK8 (d:=12) ab;have:=zwc 12 e KK [] 0 h (j5 ab) (by rw[at_root];simp only[bF];omega);rw[at_root,bM]at this;exact this
def TokN:Int⊕ak->Prop
 |.inl n=>Ak n
 |.inr _=>True
def zK9{s:ak}(h:s.length<=140737488355328):(aN ((bif (!(decide (s=([]:ak))))then(idx s (w64 (((bg s:Nat):Int)-1))).bind λx6=>bc (!(decide (((x6.toNat:Nat):Int)=10)))else bc bd)) λx5=>(bif x5 then(Jw s 32).bind λx7=>bc x7 else bc s))=(grd ((zsj s).length<=140737488355328)).bind λ_=>bc (zsj s):=by
 cases s with
 |nil=>rfl
 |cons c r =>
  have hn:¬(c::r)=[]:=af
  rw[df hn,cC,ctQ,wL (by simp only[lc];omega) ab,show((((c::r).length:Nat):Int)-1)=(((c::r).length-1:Nat):Int) by simp only[lc];omega];have hg:(c::r)[(c::r).length-1]?=(c::r).getLast?:=(List.getLast?_eq_getElem? ..).symm
  obtain⟨a,ha⟩:∃a,(c::r).getLast?=bc a:=by
   cases h:(c::r).getLast? with
   |none=>exact aU (List.getLast?_eq_none_iff.1 h) hn
   |some a=>exact⟨a,rfl⟩
  rw[yx (hg.trans ha),bsQ,bsQ];unfold zsj;rw[show(c::r).isEmpty=bd from rfl,Bool.false_or,ha]
  have e:decide (((a.toNat:Nat):Int)=10)=decide (bc a=bc (10:UInt8)):=yI (by
   constructor
   ·intro h;rw[UInt8.toNat_inj.1 (show a.toNat=(10:UInt8).toNat by show a.toNat=10;omega)]
   ·intro h;cases h;rfl)
  rw[e]
  cases hd:decide (bc a=bc (10:UInt8))with
  |true =>
   simp only[bW,cf,ctQ];rw[zE h];rfl
  |false =>
   simp only[cC,cf,ctQ];unfold Jw zum
   have:((0:Int)<=32/\(32:Int)<256/\(c::r).length+1<=140737488355328)↔((c::r)++[32]).length<=140737488355328:=by simp only[la,List.length_singleton];omega
   by_cases hl:((c::r)++[32]).length<=140737488355328
   ·rw[zE (this.2 hl),zE hl];rfl
   ·unfold grd
    rw[aO hl,aO (λh=>hl (this.1 h))];rfl
def zSt(s:ak):s.length<=(zsj s).length:=by
 unfold zsj
 cases s.isEmpty||decide (s.getLast?=bc 10)
 ·simp only[cf,la];omega
 ·exact dk _
def zFf(s:ak)(x:Int⊕ak):s.length<=(zkx s x).length:=by
 unfold zkx;have:=zSt s;rw[la];omega
def zwd:∀(l:List (Int⊕ak))(s:ak),s.length<=(l.foldl zkx s).length
 |[],s=>dk _
 |x::l,s=>by
  rw[dx];have:=zFf s x;have:=zwd l (zkx s x);omega
def zYz(l:List (Int⊕ak))(hs:l.length<4611686018427387904)(hN:∀x∈l,TokN x):∀(r:List (Int⊕ak))(i K:Nat)(s:ak),l.drop i=r->i<=l.length->r.length<K->(r.foldl zkx s).length<=140737488355328 ->
  oE l (bg l:Nat) K (s,(i:Int))=bc (r.foldl zkx s)
 |[],i,K,s,hr,hi,hK,hb=>by
  obtain⟨K,rfl⟩:∃k,K=k+1:=⟨K-1,by simp at hK;omega⟩
  have:=drop_nil hr hi;subst this;rw[oE];simp only[jI,cf,List.foldl_nil]
 |x::r,i,K,s,hr,hi,hK,hb=>by
  obtain⟨K,rfl⟩:∃k,K=k+1:=⟨K-1,by simp at hK;omega⟩
  obtain⟨h1,h2,h3⟩:=xW hr;simp only[lc]at hK;rw[dx]at hb ⊢;have l1:=zwd r (zkx s x);have l2:=zFf s x
  have l3:(zsj s).length+(Vc x).length<=140737488355328:=by
   have:(zkx s x).length=(zsj s).length+(Vc x).length:=by unfold zkx;rw[la]
   omega
  have hx:=hN x (bP h1)
  have key:((aN ((bif (!(decide (s=([]:ak))))then(idx s (w64 (((bg s:Nat):Int)-1))).bind λx6=>bc (!(decide (((x6.toNat:Nat):Int)=10)))else bc bd)) λx5=>(bif x5 then(Jw s 32).bind λx7=>bc x7 else bc s))).bind (λx3=>(bif (zP5 x)then(Ad x3 (anyS x)).bind λx8=>bc x8.2 else(bif (!(zP5 x))then((bif (decide ((anyI x)<0))then(Ad x3 JV).bind λx10=>bc (x10.2,(w64 (0-(anyI x))))else bc (x3,(anyI x)))).bind λx9=>aN (ZD x9.2) λx11=>aN (Ad x9.1 x11) λx12=>bc x12.2 else bc x3)))=bc (zkx s x):=by
   rw[zK9 ab,zE ab,bsQ,bsQ]
   cases x with
   |inr t =>
    simp only[zP5,anyS,ctQ];rw[zbi (show(zsj s).length+t.length<=_ from l3)];rfl
   |inl n =>
    obtain⟨g0,g1⟩:-9223372036854775807<=n/\n<=9223372036854775807:=hx
    show(aN (bif (decide (n<0))then(Ad (zsj s) JV).bind λx10=>bc (x10.2,(w64 (0-n)))else bc ((zsj s),n)) λx9=>aN (ZD x9.2) λx11=>aN (Ad x9.1 x11) λx12=>bc x12.2)=_
    rw[V1]at l3;by_cases hn:n<0
    ·rw[aP hn]at l3
     simp only[lc]at l3;rw[dt hn,ctQ,zbi (by rw[lmi];omega),bsQ,bsQ,wL ab ab];simp only[];rw[zk0 ab ab,bsQ,show(0-n).toNat=n.natAbs by omega,zbi (by rw[la,lmi];omega),bsQ];unfold zkx;rw[V1,aP hn,asc];rfl
    ·rw[aO hn]at l3
     rw[df hn,cf,bsQ];simp only[];rw[zk0 ab ab,bsQ,zbi ab,bsQ];unfold zkx;rw[V1,aO hn]
  rw[oE];simp only[A5 h1,ctQ,yx h1,Ht,bsQ];rw[key,bsQ,xE ab];exact zYz l hs hN r (i+1) K _ h2 ab ab hb
def put_eq{l:List (Int⊕ak)}{s:ak}(hs:l.length<4611686018427387904)(hN:∀x∈l,TokN x)(hb:(l.foldl zkx s).length<=140737488355328):yu s l=bc (l.foldl zkx s):=by
 unfold yu;rw[show(0:Int)=((0:Nat):Int) from rfl,zYz l hs hN l 0 KK s rfl (cj _) (j5 ab) hb];rfl
def We(s:ak):Prop:=s=[]∨s.getLast?=bc 10
def zFg{s:ak}(h:We s):zsj s=s:=by
 unfold zsj
 rcases h with rfl|h
 ·rfl
 ·rw[dt h,Bool.or_true];rfl
def zLa{s:ak}:We (s++[10]):=.inr (by rw[List.getLast?_append];rfl)
def zT7(x:Int⊕ak):Prop:=TokN x/\Good (Vc x)
def JL(a b:List (Int⊕ak)):spT (a++b)=spT a++spT b:=ft
def zbk(x:Int⊕ak)(b:List (Int⊕ak)):spT (x::b)=32::Vc x++spT b:=rfl
def vn{l:List (Int⊕ak)}{s:ak}(hg:Good s)(hl:∀x∈l,zT7 x)(hs:l.length<4611686018427387904)(hb:(s++spT l).length<=140737488355328):yu s l=bc (s++spT l)/\Good (s++spT l):=by
 obtain⟨h1,h2⟩:=zeg hg (λx hx=>(hl x hx).2);rw[<- h1]at hb ⊢;exact⟨put_eq hs (λx hx=>(hl x hx).1) hb,h1▸h2⟩
def AQ{x:Int⊕ak}{l:List (Int⊕ak)}{s:ak}(hg:We s)(hl:∀y∈x::l,zT7 y)(hs:l.length<1000)(hb:(s++(Vc x++spT l)).length<=140737488355328):yu s (x::l)=bc (s++(Vc x++spT l))/\Good (s++(Vc x++spT l)):=by
 have e:zkx s x=s++Vc x:=by unfold zkx;rw[zFg hg]
 have hg2:Good (s++Vc x):=xk (hl x al).2;obtain⟨h1,h2⟩:=zeg hg2 (λy hy=>(hl y (mcQ _ hy)).2);rw[asc]at h1 h2;refine⟨?_,h2⟩;have:=put_eq (l:=x::l) (s:=s) (by simp only[lc];omega) (λy hy=>(hl y hy).1) (by rw[dx,e,h1];exact hb);rw[this,dx,e,h1]
def zFh:Good yf:=⟨ae,ae⟩
def YB{s:ak}(hg:Good s)(hb:(s++[32,59,10]).length<=140737488355328):qt s=bc (s++[32,59,10])/\We (s++[32,59,10]):=by
 simp only[la,lc,bF]at hb;unfold qt;rw[(vn (l:=[br yf]) hg (λx hx=>by rw[msQ.1 hx];exact⟨trivial,zFh⟩) ae (by simp only[la,show(spT [br yf]).length=2 from rfl];omega)).1,bsQ];unfold Jw zum;rw[zE ⟨ae,ae,by simp only[la,show(spT [br yf]).length=2 from rfl];omega⟩,bsQ,bsQ]
 have e:s++spT [br yf]++[UInt8.ofNat (cg 10)]=s++[32,59,10]:=by rw[asc];rfl
 rw[e];refine⟨rfl,?_⟩;have:=zLa (s:=s++[32,59]);simpa using this
def zpp{α:Type}(l:List α)(g:α->ak)(L:Nat->Int->ak->Option ak)(M:Nat)(Inv:ak->Prop)
  (hL:∀K (i:Nat) x s,l[i]?=bc x->Inv s->(s++g x).length<=M->L (K+1) (i:Int) s=L K ((i+1:Nat):Int) (s++g x)/\Inv (s++g x)) (hE:∀K s,L (K+1) (l.length:Int) s=bc s):
  ∀(r:List α)(i K:Nat)(s:ak),l.drop i=r->i<=l.length->r.length<K->Inv s->(s++r.flatMap g).length<=M->L K (i:Int) s=bc (s++r.flatMap g)/\Inv (s++r.flatMap g)
 |[],i,K,s,hr,hi,hK,hI,hM=>by
  obtain⟨K,rfl⟩:∃k,K=k+1:=⟨K-1,by simp at hK;omega⟩
  have:=drop_nil hr hi;subst this;rw[hE];simp only[dK,bI,true_and];exact hI
 |x::r,i,K,s,hr,hi,hK,hI,hM=>by
  obtain⟨K,rfl⟩:∃k,K=k+1:=⟨K-1,by simp at hK;omega⟩
  obtain⟨h1,h2,h3⟩:=xW hr;simp only[lc]at hK;rw[cy,<- asc]at hM ⊢;obtain⟨e1,e2⟩:=hL K i x s h1 hI (by rw[la]at hM;omega);rw[e1];exact zpp l g L M Inv hL hE r (i+1) K _ h2 ab ab e2 hM
def vY{α:Type}(l:List α)(g:α->ak)(L:Nat->Int->ak->Option ak)(M:Nat)(Inv:ak->Prop){s:ak}(hs:l.length<4611686018427387904)(h0:Inv s)(hM:(s++l.flatMap g).length<=M)
  (hL:∀K (i:Nat) x s,l[i]?=bc x->Inv s->(s++g x).length<=M->L (K+1) (i:Int) s=L K ((i+1:Nat):Int) (s++g x)/\Inv (s++g x)) (hE:∀K s,L (K+1) (l.length:Int) s=bc s):
  L KK 0 s=bc (s++l.flatMap g)/\Inv (s++l.flatMap g):=zpp l g L M Inv hL hE l 0 KK s rfl (cj _) (j5 ab) h0 hM
def YC{α:Type}(l:List α)(f:α->List (Int⊕ak)):spT (l.flatMap f)=l.flatMap λx=>spT (f x):=by
 unfold spT;rw[List.flatMap_assoc]
-- what tokens look like
def zk7:∀n:Nat,Good (Lib.decDigits n)
 |n=>by
  have hb:∀m<10,UInt8.ofNat (48+m)≠10:=ae
  rw[Lib.decDigits];by_cases h:n<10
  ·rw[dif_pos h];exact⟨af,by simpa using hb n h⟩
  ·rw[dif_neg h]
   exact xk ⟨af,by simpa using hb (n % 10) ab⟩
def zLb(n:Int):Good (Vc (.inl n)):=by
 rw[V1];split
 ·exact xk (s:=[45,32]) (zk7 _)
 ·exact zk7 _
def Ap{s:ak}(h:zD s=bf):Good s:=by
 have hn:=uY h;unfold zD at h;simp only[bn]at h;have ha:=bj.1 (Zb h.1);refine⟨hn.2,λhl=>?_⟩;have:=ha 10 (gK hl);revert this;decide
def zk8{t:ak}{a b:Int}(h:Good t):Good (atS t a b):=by
 unfold atS;split
 ·rw[<- asc]
  exact xk ⟨ae,ae⟩
 ·exact h
def zeu:∀(d:Nat)(e:Expr),okE d e=bf->Good (zO d e)
 |0,e,h=>by cases h
 |d+1,e,h=>by
  rw[okE,bn]at h;obtain⟨hh,ha⟩:=h;obtain⟨⟨h0,h1,hl⟩,_,_,_,hs,hk⟩:=Zi hh
  have arg:∀i,i<e.Args.length->Good (zO d (xD e i)):=λi hi=>zeu d _ (bj.1 ha _ (zFe hi))
  rw[zO];by_cases o0:e.Op=0
  ·rw[aP o0];exact zk7 _
  rw[aO o0];by_cases o1:e.Op=1
  ·rw[aP o1];exact Ap (hs (.inl o1))
  rw[aO o1];by_cases o2:e.Op=2
  ·rw[aP o2];exact xk (xk (xk (Ap (hk o2))))
  rw[aO o2];by_cases o3:e.Op=3
  ·rw[aP o3];exact xk (Ap (hs (.inr (.inr o3))))
  rw[aO o3];by_cases o16:e.Op=16
  ·rw[aP o16]
   have:e.Args.length=3:=by rw[o16]at hl;have:jx 16=3:=rfl;omega
   exact xk (xk (xk (xk (xk (zk8 (arg 2 ab))))))
  rw[aO o16];by_cases o15:e.Op=15
  ·rw[aP o15]
   have:e.Args.length=1:=by rw[o15]at hl;have:jx 15=1:=rfl;omega
   exact xk (zk8 (arg 0 ab))
  rw[aO o15];by_cases o9:e.Op=9
  ·rw[aP o9]
   have:e.Args.length=1:=by rw[o9]at hl;have:jx 9=1:=rfl;omega
   exact xk (zk8 (arg 0 ab))
  rw[aO o9]
  have:e.Args.length=2:=by
   have:jx e.Op=2:=by unfold jx;rw[aO ab,aO ab,aO o16]
   omega
  exact xk (xk (xk (xk (zk8 (arg 1 ab)))))
abbrev Tok:=Int⊕ak
def u0:List ak:=[zVw,zVz,zV0,zVy,zQ5,zVv]
def JM:List ak:=[zQ4,zCw,zJh]
def zs0:vG zi=bc u0:=by
 unfold vG Jb;rw[zE ah,bsQ];exact aQ bc ah
def zpq:vG zV=bc JM:=by
 unfold vG Jb;rw[zE ah,bsQ];exact aQ bc ah
def zzr(d:Def):List Tok:=[.inr wZ,.inr d.aL,.inr Av,.inr (zO 12 d.Body)]
def zs1(x:aw):List Tok:=[.inr x.aL,.inl x.N]
def J2(t:au):List Tok:=[.inr yy,.inr t.aL]++(t.Rows.flatMap zs1++[.inr xe,.inl t.Else])
def ptT(p:zU):List Tok:=[.inl p.X,.inl p.Y]
def zev(z:yD):List Tok:=[.inr (bif z.Overlay then yH else xm),.inr z.aL]++z.aA.flatMap ptT
def YH(p:zg):List Tok:=[.inl p.X,.inl p.Y,.inl p.Z_]
def zFi(c:Cap):List Tok:=[.inr WQ,.inr c.aL,.inr (JM.getD c.Load.toNat []),.inl c.Limit]++c.aA.flatMap ptT
def zew(v:av):List Tok:=[.inr AD,.inr v.aL,.inl v.Eye.X,.inl v.Eye.Y,.inl v.Eye.Z_,.inr vM,.inl v.Least,.inr xM]++v.Targets.flatMap YH
def xY(w:ak)(l:List ak):List Tok:=bif l.isEmpty then[]else .inr w::l.map .inr
def vq(w:ak)(n:Int):List Tok:=if n=0 then[]else[.inr w,.inl n]
def zs2(u:Int)(i:Nat):List Tok:=bif dC u.toNat i then[.inr (u0.getD i [])]else[]
def Qw(r:zX):List Tok :=
 if r.aM=0 then[.inr (zO 12 r.Test)]
 else if r.aM=1 then[.inr qf,.inl r.zx.Side,.inr AB,.inl r.zx.Base,.inr jA,.inl r.zx.Num,.inl r.zx.Den]
 else if r.aM=3 then[.inr qe,.inr (u0.getD r.Uses.toNat []),.inr (u0.getD r.Other.toNat []),.inl r.N]
 else .inr oT::(cQ 6).flatMap (zs2 r.Uses)
def V7(r:zX):List Tok:=[.inr qU,.inr r.aL]++(xY ze5 r.aB++(xY yZ r.Except++(vq vD r.From++(vq xF r.Until++(vq xR r.Grace++((bif r.Vary then[.inr wc]else[])++(.inr xM::Qw r)))))))
def zFj:List zg->List Tok
 |[]=>[]
 |p::r=>(.inr Jf::YH p)++r.flatMap λp=>.inr kW::YH p
def Vt(n:Int):List Tok:=[.inr kD,.inl n]
def HP(p:yJ):ak :=
 p.aF.flatMap (λx=>ye (zzr x))++(p.Tables.flatMap (λx=>ye (J2 x))++(p.aB.flatMap (λx=>ye (zev x))++(p.aE.flatMap (λx=>ye (V7 x))++(p.aJ.flatMap (λx=>ye (zFi x))++(p.aG.flatMap (λx=>ye (zew x)) ++
 ((bif p.aK.isEmpty then[]else ye (zFj p.aK))++(if p.aI=0 then[]else ye (Vt p.aI))))))))
def jK(x:Tok)(l:List Tok):ye (x::l)=Vc x++(spT l++[32,59,10]):=by rw[ye,asc]
-- names joined
def zag:List ak->ak
 |[]=>[]
 |n::r=>n++r.flatMap λx=>32::x
def zSu:∀{l:List ak},l≠[]->32::zag l=spT (l.map br)
 |n::r,_=>by
  rw[zag,mk9,zbk]
  have:∀r:List ak,r.flatMap (λx=>32::x)=spT (r.map br):=λr=>by
   unfold spT;rw[eX];rfl
  rw[this];rfl
def zLc{m:Nat}(h1:2<=m)(h2:m<=10000):(aN (grd ((w64 (((m:Nat):Int)-1))≠0)) λ_=>(bif (decide (((1:Nat):Int)>=(w64 (iU 9223372036854775807 (w64 (((m:Nat):Int)-1))))))then bh else bc (w64 (0+(w64 (((1:Nat):Int)*(w64 (((m:Nat):Int)-1))))))))=bc ((m:Int)-1):=by
 have e:w64 (((m:Nat):Int)-1)=((m-1:Nat):Int):=by rw[wL ab ab];omega
 have hq:2<=9223372036854775807 / (m-1):=(Nat.le_div_iff_mul_le ab).2 ab;have hq2:9223372036854775807 / (m-1)<=9223372036854775807:=Nat.div_le_self _ _;have et:iU 9223372036854775807 ((m-1:Nat):Int)=((9223372036854775807 / (m-1):Nat):Int):=rfl;rw[e,zE ab,bsQ,et,wL ab ab,df ab,cf,wL (n:=((1:Nat):Int)*((m-1:Nat):Int)) ab ab,wL ab ab];exact aQ bc ab
def join_eq{l:List ak}(h0:l≠[])(h1:l.length<=10000)(h2:∀s∈l,s.length<=8000):ZE l t__=bc (zag l):=by
 unfold ZE J.jF
 obtain⟨n,r,rfl⟩:∃n r,l=n::r:=by
  cases l with
  |nil=>exact aU rfl h0
  |cons n r=>exact⟨n,r,rfl⟩
 rw[df (show ¬(((n::r).length:Nat):Int)=0 by simp only[lc];omega),cf];by_cases hr:r=[]
 ·subst hr
  rw[dt (show((([n]:List ak).length:Nat):Int)=1 from rfl),ctQ,show idx [n] 0=bc n from rfl];simp[zag]
 ·have hr1:1<=r.length:=by
   cases r with
   |nil=>exact aU rfl hr
   |cons=>simp
  have hlen:(n::r).length=r.length+1:=rfl;rw[df (show ¬(((n::r).length:Nat):Int)=1 by omega),cf,dt (show((bg t__:Nat):Int)>0 by decide),ctQ];have:=zLc (m:=(n::r).length) ab ab;rw[show(bg t__:Nat)=1 from rfl,this,bsQ]
  have hsum:=Yi (n::r) (λ(s:Int) x=>s+((x.length:Nat):Int)) (λs=>bc s) (λi s=>0<=s/\s<=10000+8000*(i:Int)) (λK q s=>J.yF (n::r) t__ (bg (n::r):Nat) K (s,q)) ((((n::r).length:Nat):Int)-1) ab ⟨ab,ab⟩ (λK i x s hx hs=>by
   have hi:=Ah hx;have h30:=h2 x (bP hx);refine⟨?_,ab,ab⟩
   show J.yF _ _ _ (K+1) (s,(i:Int))=_
   rw[J.yF];simp only[A5 hx,ctQ,yx hx,bsQ]
   rw[wL (n:=9223372036854775807-s) ab ab,df ab,cf,wL ab ab,xE ab]) (λK s hs=>by
   show J.yF _ _ _ (K+1) (s,_)=_
   rw[J.yF]
   simp only[jI,cf])
  obtain⟨e1,e2,e3⟩:=hsum;rw[e1,bsQ]
  have hg:J.zuk (List.foldl (λ(s:Int) x=>s+((x.length:Nat):Int)) ((((n::r).length:Nat):Int)-1) (n::r))=bc []:=by
   unfold J.zuk J.zCr;rw[zE ab];rfl
  have hn:=h2 n al
  have hb:J.yX [] n=bc (((n.length:Nat):Int),n):=by
   unfold J.yX;rw[zE (by simp only[bF];omega)];rfl
  have hc:cut (n::r) 1 (((n::r).length:Nat):Int)=bc r:=by
   have:=zkm (l:=n::r) (a:=1) ab;simpa using this
  have hi0:idx (n::r) 0=bc n:=yx (i:=0) rfl;rw[hg,bsQ,hi0,bsQ,hb,bsQ,hc,bsQ]
  have ht:=vY r (λx=>32::x) (λK q s=>J.yG t__ r (bg r:Nat) K (q,s)) 1000000000 (λ_=>True) (s:=n) ab trivial (by
    have:∀r:List ak,(∀s∈r,s.length<=8000)->(r.flatMap λx=>32::x).length<=8001*r.length:=λr=>by
     induction r with
     |nil=>intro _;simp
     |cons a r ih=>intro h;have:=ih (λs hs=>h s (mcQ _ hs));have:=h a al;simp only[cy,la,lc];omega
    have:=this r (λs hs=>h2 s (mcQ _ hs))
    rw[la];refine Nat.le_trans (Nat.add_le_add_left this _) ?_;omega) (λK i x s hx _ hM=>by
   have hi:=Ah hx;refine⟨?_,trivial⟩
   show J.yG _ _ _ (K+1) ((i:Int),s)=_
   simp only[la,lc]at hM;rw[J.yG];simp only[A5 hx,ctQ,yx hx,bsQ,J.yX]
   rw[zE (by rw[lsp];omega),bsQ,bsQ,zE (by rw[la,lsp];omega),bsQ,bsQ,xE ab,asc];rfl) (λK s=>by
   show J.yG _ _ _ (K+1) (_,s)=_
   rw[J.yG]
   simp only[jI,cf])
  rw[ht.1];rfl
def zLd{l:List ak}(h1:l.length<=10000)(h2:∀s∈l,s.length<=8000):ZE l t__=bc (zag l):=by
 by_cases h0:l=[]
 ·subst h0
  unfold ZE J.jF;rfl
 ·exact join_eq h0 h1 h2
def tx(l:List ar):List ar:=l.filter λt=>!(decide (t.aM=3))
def zFk:∀(l:List ar)(s:List ak),l.foldl (λs x=>bif !(decide (x.aM=3))then s++[x.Text]else s) s=s++(tx l).map ar.Text
 |[],s=>by simp[tx]
 |x::l,s=>by
  rw[dx,zFk l];unfold tx;rw[fa];cases decide (x.aM=3)<;>simp
def zY0{l:List ar}(h1:l.length<=10000)(h2:∀t∈l,t.Text.length<=8000):za9 l=bc (zag ((tx l).map ar.Text)):=by
 unfold za9
 have key:=Yi l (λ(s:List ak) x=>bif !(decide (x.aM=3))then s++[x.Text]else s) (λs=>bc s) (λi s=>s.length<=i) (λK q s=>vQ l (bg l:Nat) K (q,s)) [] ab aq (λK i x s hx hs=>by
  have hi:=Ah hx;constructor
  ·show vQ _ _ (K+1) ((i:Int),s)=_
   rw[vQ];simp only[A5 hx,ctQ,yx hx,bsQ,xE (show i<9223372036854775807 by omega)];cases decide (x.aM=3)
   ·simp only[cC,ctQ]
    rw[zE (by simp only[la,lc,bF];omega)];rfl
   ·rfl
  ·cases decide (x.aM=3)
   ·simp only[cC,ctQ,la,lc,bF];omega
   ·simp only[bW,cf];omega) (λK s hs=>by
  show vQ _ _ (K+1) (_,s)=_
  rw[vQ]
  simp only[jI,cf])
 rw[key.1,bsQ,zFk,bM,zLd (by
  rw[bN]
  exact cW (List.length_filter_le _ _) h1) (λs hs=>by
  obtain⟨t,ht,rfl⟩:=bx.1 hs
  exact h2 t (dz.1 ht).1)];rfl
def zSv:∀ts:List ar,zag (ts.map ar.Text)=jq (ts.map t3)
 |[]=>rfl
 |t::ts=>by
  rw[mk9,mk9,zag,jq,sq,eX,eX];rfl
def zY1{l:List ar}{p:Nat}(h:OKs (l.map t3)):tx (l++[HG p])=l:=by
 unfold tx;rw[List.filter_append,show([HG p].filter λt=>!(decide (t.aM=3)))=[] from rfl,bI]
 refine List.filter_eq_self.2 λt ht=>?_
 have:=zNy (h (t3 t) (cw ht));rw[df (show ¬t.aM=3 from this)];rfl
def zSw(t:T3)(a:List T3):sq (t::a)=32::t.2.1++sq a:=by rw[sq,cy];rfl
def u5{n:Int}(h:Ak n):zT7 (.inl n):=⟨h,zLb n⟩
def xI{s:ak}(h:Good s):zT7 (.inr s):=⟨trivial,h⟩
def Aq{c:UInt8}{r:ak}(h:∀x∈c::r,x≠10):Good (c::r):=⟨af,λhl=>h 10 (gK hl) rfl⟩
def JN{α:Type}{a x:α}(h:x∈[a]):x=a:=msQ.1 h
def zpr{s:ak}{e:Expr}(hg:Good s)(hk:okE 12 e=bf)(hb:(s++(spT [.inr (zO 12 e)]++[32,59,10])).length<=140737488355328):Q2 s e=bc (s++(spT [.inr (zO 12 e)]++[32,59,10]))/\We (s++(spT [.inr (zO 12 e)]++[32,59,10])):=by
 have hb2:(s++spT [.inr (zO 12 e)]++[32,59,10]).length<=140737488355328:=by rw[asc];exact hb
 obtain⟨h1,h2⟩:=vn (l:=[.inr (zO 12 e)]) hg (λx hx=>by rw[JN hx];exact xI (zeu 12 e hk)) af (by rw[la]at hb2;omega);obtain⟨h3,h4⟩:=YB h2 hb2;rw[asc]at h3 h4;unfold Q2;rw[xv,zy9 hk,bsQ];unfold qd;rw[bsQ,h1,bsQ,h3];exact⟨rfl,h4⟩
def zex{s:ak}{l:List zU}(hg:Good s)(hn:∀p∈l,Ak p.X/\Ak p.Y)(hl:l.length<=64)(hb:(s++(spT (l.flatMap ptT)++[32,59,10])).length<=140737488355328):Hu s l=bc (s++(spT (l.flatMap ptT)++[32,59,10]))/\We (s++(spT (l.flatMap ptT)++[32,59,10])):=by
 have hb2:(s++spT (l.flatMap ptT)++[32,59,10]).length<=140737488355328:=by rw[asc];exact hb
 rw[YC]at hb2 ⊢
 have ht:=vY l (λp=>spT (ptT p)) (λK q s=>wg l (bg l:Nat) K (s,q)) 140737488355328 Good (s:=s) ab hg (by rw[la]at hb2;omega) (λK i x s hx hI hM=>by
  have hi:=Ah hx;obtain⟨n1,n2⟩:=hn x (bP hx)
  obtain⟨p1,p2⟩:=vn (l:=ptT x) hI (λy hy=>by
   rcases bp.1 hy with rfl|hy
   ·exact u5 n1
   ·rw[JN hy];exact u5 n2) (by simp[ptT]) hM
  refine⟨?_,p2⟩
  show wg _ _ (K+1) (s,(i:Int))=_
  rw[wg];simp only[A5 hx,ctQ,yx hx,bsQ]
  rw[show([(bo x.X),(bo x.Y)]:List (Int⊕ak))=ptT x from rfl,p1,bsQ,xE ab]) (λK s=>by
  show wg _ _ (K+1) (s,_)=_
  rw[wg]
  simp only[jI,cf])
 obtain⟨h3,h4⟩:=YB ht.2 hb2;rw[asc]at h3 h4;unfold Hu;rw[ht.1,bsQ,h3];exact⟨rfl,h4⟩
def zFl{l:List ak}(h0:l≠[])(hn:∀s∈l,zD s=bf):Good (zag l):=by
 have key:∀(r:List ak)(n:ak),Good n->(∀s∈r,zD s=bf)->Good (n++r.flatMap λx=>32::x):=λr=>by
  induction r with
  |nil=>intro n hg _;simpa using hg
  |cons a r ih =>
   intro n hg h
   have:=ih (n++32::a) (by
    have:=xk (s:=n++[32]) (Ap (h a al))
    simpa using this) (λs hs=>h s (mcQ _ hs))
   simpa using this
 cases l with
 |nil=>exact aU rfl h0
 |cons n r=>exact key r n (Ap (hn n al)) (λs hs=>hn s (mcQ _ hs))
def zps{s w:ak}{l:List ak}(hg:Good s)(hw:Good w)(hn:∀s∈l,zD s=bf)(h1:l.length<=3000)(h2:∀s∈l,s.length<=30)(hb:(s++spT (xY w l)).length<=140737488355328):
  (bif (decide (((bg l:Nat):Int)>0))then(ZE l t__).bind λx6=>aN (yu s ([(br w),(br x6)]:List (Int⊕ak))) λx7=>bc x7 else bc s)=bc (s++spT (xY w l))/\Good (s++spT (xY w l)):=by
 by_cases h0:l=[]
 ·subst h0
  simp only[xY,eW,ctQ,spT,dK,bI];exact⟨rfl,hg⟩
 ·have hlen:0<l.length:=dp.2 h0
  have he:l.isEmpty=bd:=by
   cases l with
   |nil=>exact aU rfl h0
   |cons=>rfl
  have e:spT (xY w l)=spT [.inr w,.inr (zag l)]:=by
   unfold xY;rw[he,cf,zbk,zbk,<- zSu h0];simp[Vc,spT]
  rw[e]at hb ⊢;rw[dt (show((bg l:Nat):Int)>0 by omega),ctQ,join_eq h0 ab (λs hs=>cW (h2 s hs) ab),bsQ]
  obtain⟨p1,p2⟩:=vn (l:=[.inr w,.inr (zag l)]) hg (λy hy=>by
   rcases bp.1 hy with rfl|hy
   ·exact xI hw
   ·rw[JN hy];exact xI (zFl h0 hn)) af hb
  rw[p1];exact⟨rfl,p2⟩
def zk9{s w:ak}{n:Int}(hg:Good s)(hw:Good w)(hn:Ak n)(hb:(s++spT (vq w n)).length<=140737488355328):
  (bif (!(decide (n=0)))then(yu s ([(br w),(bo n)]:List (Int⊕ak))).bind λx6=>bc x6 else bc s)=bc (s++spT (vq w n))/\Good (s++spT (vq w n)):=by
 unfold vq at hb ⊢;by_cases h0:n=0
 ·rw[aP h0,dt h0]
  simp only[spT,dK,bI];exact⟨rfl,hg⟩
 ·rw[aO h0]at hb ⊢
  rw[df h0,cC,ctQ]
  obtain⟨p1,p2⟩:=vn (l:=[.inr w,.inl n]) hg (λy hy=>by
   rcases bp.1 hy with rfl|hy
   ·exact xI hw
   ·rw[JN hy];exact u5 hn) af hb
  rw[p1];exact⟨rfl,p2⟩
def zSx:Good ze5:=Aq ae
def zs3:Good yZ:=Aq ae
def zFm:Good vD:=Aq ae
def zza:Good xF:=Aq ae
def zzb:Good xR:=Aq ae
section rule
variable{c1:ak}{c2 c3:List ak}{c4 c5 c6:Int}{c7:Bool}{c8 c9 c10:Int}{c11 c12:ak}{c13:List Expr}{c14 c15 c16 c17 c18 c19 c20:Int}{s:ak}
def zSy{zs ex:List ak}(hg:Good s)(hn:∀s∈zs,zD s=bf)(h1:zs.length<=3000)(h2:∀s∈zs,s.length<=30)(hn':∀s∈ex,zD s=bf)(h1':ex.length<=3000)(h2':∀s∈ex,s.length<=30)(hb:(s++(spT (xY ze5 zs)++spT (xY yZ ex))).length<=140737488355328):
  jX ((2:Nat):Int) c1 c2 c3 c4 c5 c6 c7 c8 c9 c10 c11 c12 c13 c14 c15 c16 c17 c18 c19 c20 [zs,ex] KK (s,0)=bc (s++(spT (xY ze5 zs)++spT (xY yZ ex)))/\Good (s++(spT (xY ze5 zs)++spT (xY yZ ex))):=by
 obtain⟨k,hk⟩:∃k,KK=k+3:=⟨KK-3,by have:=j5 (n:=100) ab;omega⟩
 rw[<- asc]at hb ⊢;obtain⟨a1,a2⟩:=zps hg zSx hn h1 h2 (by rw[la]at hb;omega);obtain⟨b1,b2⟩:=zps a2 zs3 hn' h1' h2' hb;refine⟨?_,b2⟩;rw[hk,jX];simp only[show decide ((0:Int)<((2:Nat):Int))=bf from rfl,ctQ];rw[zE (show(0:Int)<=0/\(0:Int)<((bg [zs,ex]:Nat):Int) from by simp),bsQ,show([zs,ex])[(cg 0)]?=bc zs from rfl,bsQ,zE (show(0:Int)<=0/\(0:Int)<((2:Nat):Int) by decide),bsQ,show(([ze5,yZ]:List ak))[(cg 0)]?=bc ze5 from rfl,bsQ,a1,bsQ,show w64 (0+1)=1 from rfl,jX];simp only[show decide ((1:Int)<((2:Nat):Int))=bf from rfl,ctQ];rw[zE (show(0:Int)<=1/\(1:Int)<((bg [zs,ex]:Nat):Int) from by simp),bsQ,show([zs,ex])[(cg 1)]?=bc ex from rfl,bsQ,zE (show(0:Int)<=1/\(1:Int)<((2:Nat):Int) by decide),bsQ,show(([ze5,yZ]:List ak))[(cg 1)]?=bc yZ from rfl,bsQ,b1,bsQ,show w64 (1+1)=2 from rfl,jX];rfl
def zSz{fr un gr:Int}(hg:Good s)(n1:Ak fr)(n2:Ak un)(n3:Ak gr)(hb:(s++(spT (vq vD fr)++(spT (vq xF un)++spT (vq xR gr)))).length<=140737488355328):
  vP ((3:Nat):Int) c1 c2 c3 c4 c5 c6 c7 c8 c9 c10 c11 c12 c13 c14 c15 c16 c17 c18 c19 c20 [fr,un,gr] KK (s,0)=bc (s++(spT (vq vD fr)++(spT (vq xF un)++spT (vq xR gr))))/\Good (s++(spT (vq vD fr)++(spT (vq xF un)++spT (vq xR gr)))):=by
 obtain⟨k,hk⟩:∃k,KK=k+4:=⟨KK-4,by have:=j5 (n:=100) ab;omega⟩
 rw[<- asc,<- asc]at hb ⊢;have hb1:=hb;rw[la]at hb1
 have hb2:(s++spT (vq vD fr)++spT (vq xF un)).length<=140737488355328:=ab
 rw[la]at hb2;obtain⟨a1,a2⟩:=zk9 hg zFm n1 ab;obtain⟨b1,b2⟩:=zk9 a2 zza n2 ab;obtain⟨d1,d2⟩:=zk9 b2 zzb n3 hb;refine⟨?_,d2⟩;rw[hk,vP];simp only[show decide ((0:Int)<((3:Nat):Int))=bf from rfl,ctQ];rw[zE (show(0:Int)<=0/\(0:Int)<((bg [fr,un,gr]:Nat):Int) from by simp),bsQ,show([fr,un,gr])[(cg 0)]?=bc fr from rfl,bsQ,zE (show(0:Int)<=0/\(0:Int)<((3:Nat):Int) by decide),bsQ,show(([vD,xF,xR]:List ak))[(cg 0)]?=bc vD from rfl,bsQ,a1,bsQ,show w64 (0+1)=1 from rfl,vP];simp only[show decide ((1:Int)<((3:Nat):Int))=bf from rfl,ctQ];rw[zE (show(0:Int)<=1/\(1:Int)<((bg [fr,un,gr]:Nat):Int) from by simp),bsQ,show([fr,un,gr])[(cg 1)]?=bc un from rfl,bsQ,zE (show(0:Int)<=1/\(1:Int)<((3:Nat):Int) by decide),bsQ,show(([vD,xF,xR]:List ak))[(cg 1)]?=bc xF from rfl,bsQ,b1,bsQ,show w64 (1+1)=2 from rfl,vP];simp only[show decide ((2:Int)<((3:Nat):Int))=bf from rfl,ctQ];rw[zE (show(0:Int)<=2/\(2:Int)<((bg [fr,un,gr]:Nat):Int) from by simp),bsQ,show([fr,un,gr])[(cg 2)]?=bc gr from rfl,bsQ,zE (show(0:Int)<=2/\(2:Int)<((3:Nat):Int) by decide),bsQ,show(([vD,xF,xR]:List ak))[(cg 2)]?=bc xR from rfl,bsQ,d1,bsQ,show w64 (2+1)=3 from rfl,vP];rfl
def zS0:∀s<64,∀k<6,decide ((IntKind.i64.wrap ((BitVec.ofInt IntKind.i64.bits (Int.fdiv (s:Nat) (2 ^ (min (cg (k:Nat)) IntKind.i64.bits))) &&& BitVec.ofInt IntKind.i64.bits 1).toNat:Int))=1)=dC s k:=ah
def zey:∀i<6,Good (u0.getD i []):=by
 intro i hi
 obtain rfl|rfl|rfl|rfl|rfl|rfl:i=0∨i=1∨i=2∨i=3∨i=4∨i=5:=ab
 all_goals exact Aq ae
def zla{i:Nat}(h:i<6):u0[i]?=bc (u0.getD i []):=by
 rw[ca,bA (show i<u0.length from h)];rfl
def zS1(hg:Good s)(hu:0<=c18/\c18<64)(hb:(s++spT ((cQ 6).flatMap (zs2 c18))).length<=140737488355328):
  wk (((bg u0):Nat):Int) c1 c2 c3 c4 c5 c6 c7 c8 c9 c10 c11 c12 c13 c14 c15 c16 c17 c18 c19 c20 u0 KK (s,0)=bc (s++spT ((cQ 6).flatMap (zs2 c18)))/\Good (s++spT ((cQ 6).flatMap (zs2 c18))):=by
 rw[YC]at hb ⊢;refine vY (cQ 6) (λi=>spT (zs2 c18 i)) (λK q s=>wk (((bg u0):Nat):Int) c1 c2 c3 c4 c5 c6 c7 c8 c9 c10 c11 c12 c13 c14 c15 c16 c17 c18 c19 c20 u0 K (s,q)) 140737488355328 Good ae hg hb (λK i x s hx hI hM=>?_) (λK s=>?_)
 ·have hi:=Ah hx
  rw[List.length_range]at hi
  have hxi:x=i:=by simpa[List.getElem?_range,hi]using hx.symm
  subst hxi;obtain⟨u,rfl⟩:=Int.eq_ofNat_of_zero_le hu.1;have hbit:=zS0 u ab x hi
  show wk _ _ _ _ _ _ _ _ _ _ _ _ _ _ _ _ _ _ _ _ _ _ (K+1) (s,(x:Int))=_/\_
  rw[wk];simp only[dt (show(x:Int)<((bg u0:Nat):Int) by rw[show u0.length=6 from rfl];omega),ctQ];rw[zE (show(0:Int)<=(x:Int)/\(x:Int)<((bg u0:Nat):Int) by rw[show u0.length=6 from rfl];omega),bsQ,dQ,zla hi,bsQ,zE (show(0:Int)<=(x:Int) by omega),bsQ];rw[dQ]at hbit;rw[hbit,xE ab];unfold zs2 at hM ⊢;rw[show(((u:Nat):Int)).toNat=u from rfl]at *
  cases hbb:dC u x with
  |false =>
   simp only[cf,spT,dK,bI,bsQ,true_and];exact hI
  |true =>
   rw[hbb]at hM;simp only[ctQ]at hM ⊢;obtain⟨p1,p2⟩:=vn (l:=[.inr (u0.getD x [])]) hI (λy hy=>by rw[JN hy];exact xI (zey x hi)) af hM;rw[p1];exact⟨rfl,p2⟩
 ·show wk _ _ _ _ _ _ _ _ _ _ _ _ _ _ _ _ _ _ _ _ _ _ (K+1) (s,_)=_
  rw[wk];rfl
end rule
def zlb(b:Bool):List Tok:=bif b then[.inr wc]else[]
def zFn(r:zX):ye (V7 r)=Vc (.inr qU)++(spT [.inr r.aL]++((spT (xY ze5 r.aB)++spT (xY yZ r.Except))++((spT (vq vD r.From)++(spT (vq xF r.Until)++spT (vq xR r.Grace)))++(spT (zlb r.Vary)++(spT [.inr xM]++(spT (Qw r)++[32,59,10])))))):=by
 show ye (.inr qU::([.inr r.aL]++(xY ze5 r.aB++(xY yZ r.Except++(vq vD r.From++(vq xF r.Until++(vq xR r.Grace++(zlb r.Vary++([.inr xM]++Qw r)))))))))=_
 rw[jK];simp only[JL,asc]
def xZ{n a b:Int}(h:a<=n/\n<=b)(ha:-9223372036854775807<=a)(hb:b<=9223372036854775807):Ak n:=⟨ab,ab⟩
def zS2{s:ak}{r:zX}(hg:Good s)(hb:Vd r)(hf:zo8 r.Test=bf)(hl:(s++(spT (Qw r)++[32,59,10])).length<=140737488355328){c1:ak}{c2 c3:List ak}{c4 c5 c6:Int}{c7:Bool}:
  (((bif (decide (r.aM=0))then(Q2 s (Expr.mk r.Test.Op r.Test.N r.Test.S r.Test.Key r.Test.Args)).bind λx9=>bc (bo x9)else(bif (decide (r.aM=1))then(yu s ([(br qf),(bo r.zx.Side),(br AB),(bo r.zx.Base),(br jA),(bo r.zx.Num),(bo r.zx.Den)]:List (Int⊕ak))).bind λx10=>bc (br x10)else(bif (decide (r.aM=3))then(grd (0<=r.Uses/\r.Uses<(((bg u0):Nat):Int))).bind λ_=>aN ((u0)[(cg r.Uses)]?) λx12=>aN (grd (0<=r.Other/\r.Other<(((bg u0):Nat):Int))) λ_=>aN ((u0)[(cg r.Other)]?) λx14=>aN (yu s ([(br qe),(br x12),(br x14),(bo r.N)]:List (Int⊕ak))) λx15=>bc (br x15)else(bif (decide (r.aM=2))then(yu s ([(br oT)]:List (Int⊕ak))).bind λx16=>aN (wk (((bg u0):Nat):Int) c1 c2 c3 c4 c5 c6 c7 r.aM r.Test.Op r.Test.N r.Test.S r.Test.Key r.Test.Args r.zx.Side r.zx.Base r.zx.Num r.zx.Den r.Uses r.Other r.N u0 KK (x16,0)) λx17=>bc (br x17)else bc (br s)))))).bind (wq bc λx8=>aN (qt x8) λx18=>bc x18))=bc (s++(spT (Qw r)++[32,59,10]))/\We (s++(spT (Qw r)++[32,59,10])):=by
 obtain⟨⟨k0,k3⟩,b1,b2,b3,b4,b5,b6,b7,b8⟩:=hb
 have hl2:(s++spT (Qw r)++[32,59,10]).length<=140737488355328:=by rw[asc];exact hl
 have hl3:=hl2;rw[la]at hl3;unfold Qw at hl hl2 hl3 ⊢;by_cases h0:r.aM=0
 ·rw[aP h0]at hl hl2 hl3 ⊢
  obtain⟨p1,p2⟩:=zpr hg (b1 h0) hl;rw[dt h0,ctQ,xv,p1];exact⟨rfl,p2⟩
 rw[aO h0]at hl hl2 hl3 ⊢;rw[df h0,cf];by_cases h1:r.aM=1
 ·rw[aP h1]at hl hl2 hl3 ⊢
  obtain⟨n1,n2,n3,n4⟩:=b3 h1;rw[dt h1,ctQ]
  obtain⟨p1,p2⟩:=vn hg (λy hy=>by
   simp only[bp,dS,or_false]at hy
   rcases hy with rfl|rfl|rfl|rfl|rfl|rfl|rfl
   ·exact xI (Aq ae)
   ·exact u5 (xZ n1 ab ab)
   ·exact xI (Aq ae)
   ·exact u5 (xZ n2 ab ab)
   ·exact xI (Aq ae)
   ·exact u5 (xZ n3 ab ab)
   ·exact u5 (xZ n4 ab ab)) af (show(s++spT [.inr qf,.inl r.zx.Side,.inr AB,.inl r.zx.Base,.inr jA,.inl r.zx.Num,.inl r.zx.Den]).length<=_ by omega)
  obtain⟨q1,q2⟩:=YB p2 hl2;rw[p1,bsQ,bsQ,wq,q1,<- asc];exact⟨rfl,q2⟩
 rw[aO h1]at hl hl2 hl3 ⊢;rw[df h1,cf];by_cases h3:r.aM=3
 ·rw[aP h3]at hl hl2 hl3 ⊢
  obtain⟨n1,n2,n3⟩:=b6 h3;rw[dt h3,ctQ,zE (show 0<=r.Uses/\r.Uses<((bg u0:Nat):Int) by rw[show u0.length=6 from rfl];omega),bsQ,zla (show r.Uses.toNat<6 by omega),bsQ,zE (show 0<=r.Other/\r.Other<((bg u0:Nat):Int) by rw[show u0.length=6 from rfl];omega),bsQ,zla (show r.Other.toNat<6 by omega),bsQ]
  obtain⟨p1,p2⟩:=vn hg (λy hy=>by
   simp only[bp,dS,or_false]at hy
   rcases hy with rfl|rfl|rfl|rfl
   ·exact xI (Aq ae)
   ·exact xI (zey _ ab)
   ·exact xI (zey _ ab)
   ·exact u5 (xZ n3 ab ab)) af (show(s++spT [.inr qe,.inr (u0.getD r.Uses.toNat []),.inr (u0.getD r.Other.toNat []),.inl r.N]).length<=_ by omega)
  obtain⟨q1,q2⟩:=YB p2 hl2;rw[p1,bsQ,bsQ,wq,q1,<- asc];exact⟨rfl,q2⟩
 have h2:r.aM=2:=ab
 rw[aO h3]at hl hl2 hl3 ⊢;obtain⟨n1,n2⟩:=b5 h2;rw[df h3,cf,dt h2,ctQ]
 have es:spT (.inr oT::(cQ 6).flatMap (zs2 r.Uses))=spT [.inr oT]++spT ((cQ 6).flatMap (zs2 r.Uses)):=by rw[<- JL];rfl
 rw[es,<- asc]at hl2 hl3;rw[es];obtain⟨p1,p2⟩:=vn (l:=[.inr oT]) hg (λy hy=>by rw[JN hy];exact xI (Aq ae)) af (by rw[la]at hl3;omega);obtain⟨u1,u2⟩:=zS1 (c1:=c1) (c2:=c2) (c3:=c3) (c4:=c4) (c5:=c5) (c6:=c6) (c7:=c7) (c8:=r.aM) (c9:=r.Test.Op) (c10:=r.Test.N) (c11:=r.Test.S) (c12:=r.Test.Key) (c13:=r.Test.Args) (c14:=r.zx.Side) (c15:=r.zx.Base) (c16:=r.zx.Num) (c17:=r.zx.Den) (c18:=r.Uses) (c19:=r.Other) (c20:=r.N) p2 ab ab;obtain⟨q1,q2⟩:=YB u2 hl2;rw[p1,bsQ,u1,bsQ,bsQ,wq,q1];simp only[asc]at q2 ⊢;exact⟨rfl,q2⟩
def zFo{s:ak}{r:zX}(hs:We s)(hr:VX r)(hn:zD r.aL=bf)(hf:zD4 r=bf)(hb:(s++ye (V7 r)).length<=140737488355328):za3 s r=bc (s++ye (V7 r))/\We (s++ye (V7 r)):=by
 obtain⟨⟨⟨z0,x0⟩,d1,d2,d3,_⟩,hbody⟩:=hr;obtain⟨_,⟨z1,z2⟩,⟨x1,x2⟩,te⟩:=Yl hf;rw[zFn]at hb ⊢;have hb0:=hb;simp only[la]at hb0
 obtain⟨p1,g1⟩:=AQ (x:=.inr qU) (l:=[.inr r.aL]) hs (λy hy=>by
  rcases bp.1 hy with rfl|hy
  ·exact xI (Aq ae)
  ·rw[JN hy];exact xI (Ap hn)) af (by simp only[la];omega)
 generalize hs1:s++(Vc (.inr qU)++spT [.inr r.aL])=s1 at p1 g1;have l1:=aQ bg hs1;simp only[la]at l1;obtain⟨p2,g2⟩:=zSy (c1:=r.aL) (c2:=r.aB) (c3:=r.Except) (c4:=r.From) (c5:=r.Until) (c6:=r.Grace) (c7:=r.Vary) (c8:=r.aM) (c9:=r.Test.Op) (c10:=r.Test.N) (c11:=r.Test.S) (c12:=r.Test.Key) (c13:=r.Test.Args) (c14:=r.zx.Side) (c15:=r.zx.Base) (c16:=r.zx.Num) (c17:=r.zx.Den) (c18:=r.Uses) (c19:=r.Other) (c20:=r.N) g1 (bj.1 z0) z1 z2 (bj.1 x0) x1 x2 (by simp only[la];omega);generalize hs2:s1++(spT (xY ze5 r.aB)++spT (xY yZ r.Except))=s2 at p2 g2;have l2:=aQ bg hs2;simp only[la]at l2;obtain⟨p3,g3⟩:=zSz (c1:=r.aL) (c2:=r.aB) (c3:=r.Except) (c4:=r.From) (c5:=r.Until) (c6:=r.Grace) (c7:=r.Vary) (c8:=r.aM) (c9:=r.Test.Op) (c10:=r.Test.N) (c11:=r.Test.S) (c12:=r.Test.Key) (c13:=r.Test.Args) (c14:=r.zx.Side) (c15:=r.zx.Base) (c16:=r.zx.Num) (c17:=r.zx.Den) (c18:=r.Uses) (c19:=r.Other) (c20:=r.N) g2 (xZ d1 ab ab) (xZ d3 ab ab) (xZ d2 ab ab) (by simp only[la];omega);generalize hs3:s2++(spT (vq vD r.From)++(spT (vq xF r.Until)++spT (vq xR r.Grace)))=s3 at p3 g3;have l3:=aQ bg hs3;simp only[la]at l3
 have hv:(bif r.Vary then(yu s3 ([(br wc)]:List (Int⊕ak))).bind λx5=>bc x5 else bc s3)=bc (s3++spT (zlb r.Vary))/\Good (s3++spT (zlb r.Vary)):=by
  cases hv:r.Vary with
  |false =>
   simp only[zlb,cf,spT,dK,bI,true_and];exact g3
  |true =>
   rw[hv]at hb0;obtain⟨a1,a2⟩:=vn (l:=zlb bf) g3 (λy hy=>by rw[JN hy];exact xI (Aq ae)) ae (by simp only[la];omega);rw[ctQ,show([(br wc)]:List (Int⊕ak))=zlb bf from rfl,a1];exact⟨rfl,a2⟩
 obtain⟨p4,g4⟩:=hv;generalize hs4:s3++spT (zlb r.Vary)=s4 at p4 g4;have l4:=aQ bg hs4;simp only[la]at l4;obtain⟨p5,g5⟩:=vn (l:=[.inr xM]) g4 (λy hy=>by rw[JN hy];exact xI (Aq ae)) af (by simp only[la];omega);generalize hs5:s4++spT [.inr xM]=s5 at p5 g5;have l5:=aQ bg hs5;simp only[la]at l5;have h6:=zS2 (c1:=r.aL) (c2:=r.aB) (c3:=r.Except) (c4:=r.From) (c5:=r.Until) (c6:=r.Grace) (c7:=r.Vary) g5 hbody te (by simp only[la];omega)
 have e:s++(Vc (.inr qU)++(spT [.inr r.aL]++((spT (xY ze5 r.aB)++spT (xY yZ r.Except))++((spT (vq vD r.From)++(spT (vq xF r.Until)++spT (vq xR r.Grace)))++(spT (zlb r.Vary)++(spT [.inr xM]++(spT (Qw r)++[32,59,10])))))))=s5++(spT (Qw r)++[32,59,10]):=by
  rw[<- hs5,<- hs4,<- hs3,<- hs2,<- hs1];simp only[asc]
 rw[e];refine⟨?_,h6.2⟩;unfold za3;rw[p1,bsQ,p2,bsQ,p3,bsQ,p4,bsQ,p5,bsQ,zs0,bsQ];exact h6.1
def zFp(x:Tok):Prop:=zT7 x/\(Vc x).length<=400000
def YI(l:List Tok):Prop:=∀x∈l,zFp x
def YI.g{l:List Tok}(h:YI l):∀x∈l,zT7 x:=λx hx=>(h x hx).1
def yw:YI []:=λx hx=>by cases hx
def zl{x:Tok}{l:List Tok}(h:zFp x)(hl:YI l):YI (x::l):=λy hy=>by
 rcases bp.1 hy with rfl|hy
 ·exact h
 ·exact hl y hy
def jy{a b:List Tok}(ha:YI a)(hb:YI b):YI (a++b):=λy hy=>by
 rcases bz.1 hy with h|h
 ·exact ha y h
 ·exact hb y h
def Qx{α:Type}{l:List α}{f:α->List Tok}(h:∀x∈l,YI (f x)):YI (l.flatMap f):=λy hy=>by
 obtain⟨x,hx,hy⟩:=List.mem_flatMap.1 hy;exact h x hx y hy
def xi{c:UInt8}{r:ak}(h:(∀x∈c::r,x≠10)/\(c::r).length<=400000):zFp (.inr (c::r)):=⟨xI (Aq h.1),h.2⟩
def vw{s:ak}(h:zD s=bf):zFp (.inr s):=⟨xI (Ap h),by have:=(uY h).1;show s.length<=_;omega⟩
def yE{n:Int}(h:Ak n):zFp (.inl n):=⟨u5 h,by have:=zRy h;omega⟩
def nod1{a:Expr}{o n:Int}{s k:ak}:kY ⟨o,n,s,k,[a]⟩=kY a+1:=by rw[kY,J1,J1]
def zLe{d:Nat}{e:Expr}(h:OX d e):(zO d e).length<=60*kY e:=by
 induction h with
 |@num d n h1 h2 =>
  have:=zej (n:=n.toNat) ab;have:=VW ⟨0,n,[],[],[]⟩
  show(Lib.decDigits n.toNat).length<=_;omega
 |@name d s h =>
  have:=(uY h).1;have:=VW ⟨1,0,s,[],[]⟩
  show s.length<=_;omega
 |@table d s k h1 h2 =>
  have:=(uY h1).1;have:=(uY h2).1;have:=VW ⟨2,0,s,k,[]⟩
  show(vb++(s++(t__++k))).length<=_
  simp only[la,ltb,lsp];omega
 |@zone d s h =>
  have:=(uY h).1;have:=VW ⟨3,0,s,[],[]⟩
  show(oU++s).length<=_
  simp only[la,lzn];omega
 |@neg d a _ ih =>
  have:=AN (zO d a) (lvO a.Op) 7;rw[nod1]
  show(JV++atS (zO d a) (lvO a.Op) 7).length<=_
  simp only[la,lmi];omega
 |@not d a _ ih =>
  have:=AN (zO d a) (lvO a.Op) 3;rw[nod1]
  show(WT++atS (zO d a) (lvO a.Op) 3).length<=_
  simp only[la,lnt];omega
 |@cond d a b c _ _ _ ia ib ic =>
  have:=AN (zO d a) (lvO a.Op) 0;have:=AN (zO d b) (lvO b.Op) 0;have:=AN (zO d c) (lvO c.Op) 0
  have e:kY ⟨16,0,[],[],[a,b,c]⟩=kY a+kY b+kY c+1:=by rw[kY,J1,J1,J1,J1];omega
  rw[e]
  show(oS++(atS (zO d a) (lvO a.Op) 0++(yN++(atS (zO d b) (lvO b.Op) 0++(yM++atS (zO d c) (lvO c.Op) 0))))).length<=_
  simp only[la,lif,lth,lel];omega
 |@bin d op a b hb _ _ ia ib =>
  have:=AN (zO d a) (lvO a.Op) (zk1 op);have:=AN (zO d b) (lvO b.Op) (lvO op+1);have:=zEd op
  have e:kY (Vr op a b)=kY a+kY b+1:=by unfold Vr;rw[kY,J1,J1,J1];omega
  rw[zpe hb,e];simp only[la,lsp];omega
def zpt{e:Expr}(h:okE 12 e=bf)(hq:kY e<=5000):zFp (.inr (zO 12 e)):=⟨xI (zeu 12 e h),by
 have:=zLe (zEe 12 e h)
 show(zO 12 e).length<=_;omega⟩
def zlc{i:Nat}(h:i<6):zFp (.inr (u0.getD i [])):=by
 obtain rfl|rfl|rfl|rfl|rfl|rfl:i=0∨i=1∨i=2∨i=3∨i=4∨i=5:=ab
 all_goals exact xi ae
def zpu{i:Nat}(h:i<3):zFp (.inr (JM.getD i [])):=by
 obtain rfl|rfl|rfl:i=0∨i=1∨i=2:=ab
 all_goals exact xi ae
def zbl{l:List zU}(h:Aw l):∀p∈l,Ak p.X/\Ak p.Y:=λp hp=>by
 obtain⟨i,hi⟩:=gu.1 hp;have hlt:=Ah hi;have hc:=h.2.1 i (cj _) hlt
 have e:ptA l i=p:=by
  unfold ptA;rw[eF hlt,ca,hi];rfl
 simp only[bn,zyy,zyx,aW,e]at hc;exact⟨⟨ab,ab⟩,⟨ab,ab⟩⟩
def zY2{l:List zU}(h:Aw l):YI (l.flatMap ptT):=Qx λp hp=>zl (yE (zbl h p hp).1) (zl (yE (zbl h p hp).2) yw)
def YD{p:zg}(h:Qo p):Ak p.X/\Ak p.Y/\Ak p.Z_:=⟨xZ h.1 ab ab,xZ h.2.1 ab ab,xZ h.2.2 ab ab⟩
def zld{p:zg}(h:zy3 p):Ak p.X/\Ak p.Y/\Ak p.Z_:=⟨xZ h.1 ab ab,xZ h.2.1 ab ab,xZ h.2.2 ab ab⟩
def zzc{p:zg}(h:Ak p.X/\Ak p.Y/\Ak p.Z_):YI (YH p):=zl (yE h.1) (zl (yE h.2.1) (zl (yE h.2.2) yw))
def zY3{d:Def}(hn:zD d.aL=bf)(hk:okE 12 d.Body=bf)(hq:kY d.Body<=5000):YI (zzr d):=zl (xi ae) (zl (vw hn) (zl (xi ae) (zl (zpt hk hq) yw)))
def zY4{x:aw}(hn:zD x.aL=bf)(h:-1099511627776<=x.N/\x.N<=1099511627776):YI (zs1 x):=zl (vw hn) (zl (yE (xZ h ab ab)) yw)
def YE{t:au}(h:Aj t):∀x∈t.Rows,zD x.aL=bf:=λx hx=>bj.1 (HM _ _ h.1.2) _ (cw hx)
def zS3{t:au}(hn:zD t.aL=bf)(h:Aj t):YI (J2 t):=jy (zl (xi ae) (zl (vw hn) yw)) (jy (Qx λx hx=>zY4 (YE h x hx) (h.2.2 x hx)) (zl (xi ae) (zl (yE (xZ h.2.1 ab ab)) yw)))
def zpv(b:Bool):zFp (.inr (bif b then yH else xm)):=by
 cases b
 ·exact xi ae
 ·exact xi ae
def zY5{z:yD}(hn:zD z.aL=bf)(h:Aw z.aA):YI (zev z):=jy (zl (zpv _) (zl (vw hn) yw)) (zY2 h)
def cap_A{c:Cap}(hn:zD c.aL=bf)(h:zGv c):YI (zFi c):=jy (zl (xi ae) (zl (vw hn) (zl (zpu (by have:=h.1;omega)) (zl (yE (xZ h.2.1 ab ab)) yw)))) (zY2 h.2.2)
def zY6{v:av}(hn:zD v.aL=bf)(h:Ym v):YI (zew v):=by
 obtain⟨l1,l2,l3,l4⟩:=h;obtain⟨e1,e2,e3⟩:=YD l3;exact jy (zl (xi ae) (zl (vw hn) (zl (yE e1) (zl (yE e2) (zl (yE e3) (zl (xi ae) (zl (yE (xZ l1 ab ab)) (zl (xi ae) yw)))))))) (Qx λx hx=>zzc (YD (l4 x hx)))
def zFq{w:ak}{l:List ak}(hw:zFp (.inr w))(h:l.all zD=bf):YI (xY w l):=by
 unfold xY;cases l.isEmpty
 ·exact zl hw λy hy=>by
   obtain⟨s,hs,rfl⟩:=bx.1 hy;exact vw (bj.1 h s hs)
 ·exact yw
def zFr{w:ak}{n:Int}(hw:zFp (.inr w))(h:Ak n):YI (vq w n):=by
 unfold vq;split
 ·exact yw
 ·exact zl hw (zl (yE h) yw)
def zY7{r:zX}(h:Vd r)(hq:kY r.Test<=5000):YI (Qw r):=by
 obtain⟨⟨k0,k3⟩,b1,b2,b3,b4,b5,b6,b7,b8⟩:=h;unfold Qw;by_cases h0:r.aM=0
 ·rw[aP h0];exact zl (zpt (b1 h0) hq) yw
 rw[aO h0];by_cases h1:r.aM=1
 ·obtain⟨n1,n2,n3,n4⟩:=b3 h1
  rw[aP h1];exact zl (xi ae) (zl (yE (xZ n1 ab ab)) (zl (xi ae) (zl (yE (xZ n2 ab ab)) (zl (xi ae) (zl (yE (xZ n3 ab ab)) (zl (yE (xZ n4 ab ab)) yw))))))
 rw[aO h1];by_cases h3:r.aM=3
 ·obtain⟨n1,n2,n3⟩:=b6 h3
  rw[aP h3];exact zl (xi ae) (zl (zlc ab) (zl (zlc ab) (zl (yE (xZ n3 ab ab)) yw)))
 rw[aO h3];refine zl (xi ae) (Qx λi hi=>?_);unfold zs2;cases dC r.Uses.toNat i
 ·exact yw
 ·exact zl (zlc (by simpa using hi)) yw
def zY8{r:zX}(hn:zD r.aL=bf)(h:VX r)(hq:kY r.Test<=5000):YI (V7 r):=by
 obtain⟨⟨⟨z0,x0⟩,d1,d2,d3,_⟩,hb⟩:=h;refine jy (zl (xi ae) (zl (vw hn) yw)) (jy (zFq (xi ae) z0) (jy (zFq (xi ae) x0) (jy (zFr (xi ae) (xZ d1 ab ab)) (jy (zFr (xi ae) (xZ d3 ab ab)) (jy (zFr (xi ae) (xZ d2 ab ab)) (jy ?_ (zl (xi ae) (zY7 hb hq))))))));cases r.Vary
 ·exact yw
 ·exact zl (xi ae) yw
def sun_A{l:List zg}(h:∀p∈l,zy3 p):YI (zFj l):=by
 cases l with
 |nil=>exact yw
 |cons p r=>exact jy (zl (xi ae) (zzc (zld (h p al)))) (Qx λq hq=>zl (xi ae) (zzc (zld (h q (mcQ _ hq)))))
def zFs{n:Int}(h:0<=n/\n<=24):YI (Vt n):=zl (xi ae) (zl (yE (xZ h ab ab)) yw)
-- lengths
def zOi:∀{l:List Tok},YI l->(spT l).length<=l.length*400001
 |[],_=>by simp[spT]
 |x::l,h=>by
  have h1:=(h x al).2;have h2:=zOi (l:=l) (λy hy=>h y (mcQ _ hy));rw[zbk];simp only[lc,la];omega
def AR{l:List Tok}(h:YI l)(hl:l.length<=7000):(ye l).length<=2900000000:=by
 cases l with
 |nil=>decide
 |cons x r =>
  have h1:=(h x al).2;have h2:=zOi (l:=r) (λy hy=>h y (mcQ _ hy));rw[jK];simp only[la,lc,bF]at hl ⊢;omega
def uv{α β:Type}{f:α->List β}{n:Nat}:∀{l:List α},(∀x∈l,(f x).length<=n)->(l.flatMap f).length<=l.length*n
 |[],_=>af
 |x::l,h=>by
  have h1:=h x al;have h2:=uv (l:=l) (λy hy=>h y (mcQ _ hy));rw[cy,la,lc,dB];omega
structure zS4(p:yJ):Prop where
 d:∀x∈p.aF,zD x.aL=bf
 t:∀x∈p.Tables,zD x.aL=bf
 z:∀x∈p.aB,zD x.aL=bf
 r:∀x∈p.aE,zD x.aL=bf
 c:∀x∈p.aJ,zD x.aL=bf
 v:∀x∈p.aG,zD x.aL=bf
def HQ{α:Type}{l:List α}{g:α->ak}{m:Nat}(h:vW l g m):∀x∈l,zD (g x)=bf:=λx hx=>bj.1 (HM _ _ h.2) _ (cw hx)
def zle{p:yJ}(h:uH p):zS4 p:=by
 obtain⟨⟨h1,h2,h3,h4,h5,h6⟩,_⟩:=h;exact⟨HQ h1,HQ h2,HQ h3,HQ h4,HQ h5,HQ h6⟩
def zLf{t:au}(h:t.Rows.length<=64):(J2 t).length<=300:=by
 have:=uv (f:=zs1) (n:=2) (l:=t.Rows) (λx _=>by simp[zs1]);simp only[J2,la,lc,bF];omega
def zFt{l:List zU}(h:l.length<=64):(l.flatMap ptT).length<=128:=by
 have:=uv (f:=ptT) (n:=2) (l:=l) (λx _=>by simp[ptT]);omega
def zLg{r:zX}(h:zD4 r=bf):(V7 r).length<=7000:=by
 obtain⟨_,⟨z1,_⟩,⟨x1,_⟩,_⟩:=Yl h
 have nl:∀(w:ak)(l:List ak),(xY w l).length<=l.length+1:=λw l=>by
  unfold xY;cases l.isEmpty<;>simp
 have sl:∀(w:ak)(n:Int),(vq w n).length<=2:=λw n=>by
  unfold vq;split<;>simp
 have ul:((cQ 6).flatMap (zs2 r.Uses)).length<=6:=by
  have:=uv (f:=zs2 r.Uses) (n:=1) (l:=cQ 6) (λi _=>by unfold zs2;cases dC r.Uses.toNat i<;>simp);simpa using this
 have bl:(Qw r).length<=7:=by
  unfold Qw;split
  ·simp
  split
  ·simp
  split
  ·simp
  simp only[lc];omega
 have vl:((bif r.Vary then[br wc]else[]):List Tok).length<=1:=by cases r.Vary<;>simp
 have a1:=nl ze5 r.aB;have a2:=nl yZ r.Except;have a3:=sl vD r.From;have a4:=sl xF r.Until;have a5:=sl xR r.Grace;simp only[V7,la,lc,bF];omega
def zzd{p:yJ}(hf:zXy p)(h:uH p):(HP p).length<=40000000000000:=by
 have nm:=zle h;obtain⟨_,⟨b1,b2,b3,b4,b5,b6,b7⟩,hh,hs⟩:=h
 have d1:=uv (l:=p.aF) (f:=λx=>ye (zzr x)) (n:=2900000000) λx hx=>AR (zY3 (nm.d x hx) (b1 x hx) (Yk (hf.ds x hx).2).1) (by simp[zzr])
 have d2:=uv (l:=p.Tables) (f:=λx=>ye (J2 x)) (n:=2900000000) λx hx=>AR (zS3 (nm.t x hx) (b2 x hx)) (cW (zLf (hf.ts x hx).2.1) ab)
 have d3:=uv (l:=p.aB) (f:=λx=>ye (zev x)) (n:=2900000000) λx hx=>AR (zY5 (nm.z x hx) (b3 x hx)) (by have:=zFt (hf.zs x hx).2;simp only[zev,la,lc,bF];omega)
 have d4:=uv (l:=p.aE) (f:=λx=>ye (V7 x)) (n:=2900000000) λx hx=>AR (zY8 (nm.r x hx) (b4 x hx) (Yk (Yl (hf.rs x hx)).2.2.2).1) (zLg (hf.rs x hx))
 have d5:=uv (l:=p.aJ) (f:=λx=>ye (zFi x)) (n:=2900000000) λx hx=>AR (cap_A (nm.c x hx) (b5 x hx)) (by have:=zFt (hf.cs x hx).2;simp only[zFi,la,lc,bF];omega)
 have d6:=uv (l:=p.aG) (f:=λx=>ye (zew x)) (n:=2900000000) λx hx=>AR (zY6 (nm.v x hx) (b6 x hx)) (by
  have:=uv (f:=YH) (n:=3) (l:=x.Targets) (λy _=>by simp[YH]);have:=(hf.vs x hx).2
  simp only[zew,la,lc,bF];omega)
 have d7:((bif p.aK.isEmpty then[]else ye (zFj p.aK)):ak).length<=2900000000:=by
  cases hsn:p.aK with
  |nil=>simp
  |cons q r =>
   simp only[fS,cf];rw[hsn]at b7 hs;refine AR (sun_A b7) ?_;have:=uv (f:=λp=>br kW::YH p) (n:=4) (l:=r) (λy _=>by simp[YH]);simp only[lc]at hs;simp only[zFj,la,lc,YH,bF]at this ⊢;omega
 have d8:((if p.aI=0 then[]else ye (Vt p.aI)):ak).length<=2900000000:=by
  split
  ·simp
  ·exact AR (zFs hh) (by simp[Vt])
 have:=hf.d;have:=hf.t;have:=hf.z;have:=hf.r;have:=hf.c;have:=hf.v;simp only[HP,la];omega
def zFu{p:yJ}(hf:zXy p)(h:uH p):(HP p).length<=140737488355328:=cW (zzd hf h) ab
inductive Decl
 |d (x:Def)
 |t (x:au)
 |z (x:yD)
 |r (x:zX)
 |c (x:Cap)
 |v (x:av)
 |s (x:List zg)
 |h (x:Int)
def zFv:Decl->List Tok
 |.d x=>zzr x
 |.t x=>J2 x
 |.z x=>zev x
 |.r x=>V7 x
 |.c x=>zFi x
 |.v x=>zew x
 |.s x=>zFj x
 |.h x=>Vt x
def zze(n:Int):List T3:=if n<0 then[sgQ yU,xV (0-n)]else[xV n]
def zY9(x:aw):List T3:=kwQ x.aL::zze x.N
def ptQ(p:zU):List T3:=[xV p.X,xV p.Y]
def zS5(p:zg):List T3:=[xV p.X,xV p.Y,xV p.Z_]
def zGw(p:zg):List T3:=zze p.X++(zze p.Y++[xV p.Z_])
def Z7(w:ak)(l:List ak):List T3:=bif l.isEmpty then[]else kwQ w::l.map kwQ
def zlf(w:ak)(n:Int):List T3:=if n=0 then[]else[kwQ w,xV n]
def zLh(b:Bool):List T3:=bif b then[kwQ wc]else[]
def z0g(u:Int):List T3:=((cQ 6).filter (dC u.toNat)).map λi=>kwQ (u0.getD i [])
def zFw(r:zX):List T3 :=
 if r.aM=0 then xC 12 r.Test
 else if r.aM=1 then[kwQ qf,xV r.zx.Side,kwQ AB,xV r.zx.Base,kwQ jA,xV r.zx.Num,xV r.zx.Den]
 else if r.aM=3 then[kwQ qe,kwQ (u0.getD r.Uses.toNat []),kwQ (u0.getD r.Other.toNat []),xV r.N]
 else kwQ oT::z0g r.Uses
def zS6(r:zX):List T3:=Z7 ze5 r.aB++(Z7 yZ r.Except++(zlf vD r.From++(zlf xF r.Until++(zlf xR r.Grace++(zLh r.Vary++(sgQ xM::zFw r))))))
def sunQ:List zg->List T3
 |[]=>[]
 |p::r=>zGw p++r.flatMap λp=>sgQ kW::zGw p
def HR:Decl->ak
 |.d _=>wZ
 |.t _=>yy
 |.z x=>bif x.Overlay then yH else xm
 |.r _=>qU
 |.c _=>WQ
 |.v _=>AD
 |.s _=>Jf
 |.h _=>kD
def zah:Decl->List T3
 |.d x=>kwQ x.aL::sgQ Av::xC 12 x.Body
 |.t x=>kwQ x.aL::(x.Rows.flatMap zY9++(kwQ xe::zze x.Else))
 |.z x=>kwQ x.aL::x.aA.flatMap ptQ
 |.r x=>kwQ x.aL::zS6 x
 |.c x=>kwQ x.aL::kwQ (JM.getD x.Load.toNat [])::xV x.Limit::x.aA.flatMap ptQ
 |.v x=>kwQ x.aL::xV x.Eye.X::xV x.Eye.Y::xV x.Eye.Z_::kwQ vM::xV x.Least::sgQ xM::x.Targets.flatMap zS5
 |.s x=>sunQ x
 |.h x=>[xV x]
def zfx:Decl->Prop
 |.d x=>zD x.aL=bf/\OX 12 x.Body
 |.t x=>zD x.aL=bf/\Aj x
 |.z x=>zD x.aL=bf/\Aw x.aA
 |.r x=>zD x.aL=bf/\VX x
 |.c x=>zD x.aL=bf/\zGv x
 |.v x=>zD x.aL=bf/\Ym x
 |.s x=>x≠[]/\(∀p∈x,zy3 p)/\x.length<=24
 |.h x=>0<=x/\x<=24/\x≠0
def TQ(l:List Tok)(ts:List T3):Prop:=spT l=sq ts/\OKs ts
def zh5:TQ [] []:=⟨rfl,ur⟩
def J3{a b:List Tok}{ts us:List T3}(ha:TQ a ts)(hb:TQ b us):TQ (a++b) (ts++us):=⟨by rw[JL,zNu,ha.1,hb.1],V3 ha.2 hb.2⟩
def zlg{α:Type}{l:List α}{f:α->List Tok}{g:α->List T3}(h:∀x∈l,TQ (f x) (g x)):TQ (l.flatMap f) (l.flatMap g):=by
 induction l with
 |nil=>exact zh5
 |cons x l ih=>rw[cy,cy];exact J3 (h x al) (ih λy hy=>h y (mcQ _ hy))
def zh6{s:ak}{t:T3}(h:okT t)(e:t.2.1=s):TQ [.inr s] [t]:=⟨by subst e;rfl,xd h ur⟩
def zfy{w:ak}(h:Qk w=bf):TQ [.inr w] [kwQ w]:=zh6 (zNv h) rfl
def zai{w:ak}(h:zD w=bf):TQ [.inr w] [kwQ w]:=zh6 (Yp h) rfl
def zFx{e:Expr}(h:OX 12 e):TQ [.inr (zO 12 e)] (xC 12 e):=by
 obtain⟨h1,h2,h3⟩:=uu h;refine⟨?_,h2⟩;rw[zKe h1,<- h3]
 show 32::zO 12 e++[]=_
 rw[bI]
def yn{x:Tok}{l:List Tok}{t:T3}{ts:List T3}(ha:TQ [x] [t])(hb:TQ l ts):TQ (x::l) (t::ts):=J3 ha hb
def kV{n:Int}(h0:0<=n)(h1:n<=1099511627776):TQ [.inl n] [xV n]:=by
 refine⟨?_,xd (zbj h0 h1) ur⟩
 show 32::Vc (.inl n)++[]=32::Lib.decDigits n.toNat++[]
 rw[V1,aO ab]
def zwe{n:Int}(h0:-1099511627776<=n)(h1:n<=1099511627776):TQ [.inl n] (zze n):=by
 unfold zze;split
 ·rename_i h
  refine⟨?_,xd rfl (xd (zbj ab ab) ur)⟩
  show 32::Vc (.inl n)++[]=32::yU++(32::Lib.decDigits (0-n).toNat++[])
  rw[V1,aP h,bI,bI,show(0-n).toNat=n.natAbs by omega];rfl
 ·exact kV ab h1
def Zs{l:List zU}(h:Aw l):∀p∈l,(0<=p.X/\p.X<=1048576)/\(0<=p.Y/\p.Y<=1048576):=λp hp=>by
 obtain⟨i,hi⟩:=gu.1 hp;have hlt:=Ah hi;have hc:=h.2.1 i (cj _) hlt
 have e:ptA l i=p:=by
  unfold ptA;rw[eF hlt,ca,hi];rfl
 simp only[bn,zyy,zyx,aW,e]at hc;exact⟨⟨ab,ab⟩,⟨ab,ab⟩⟩
def zOj{l:List zU}(h:Aw l):TQ (l.flatMap ptT) (l.flatMap ptQ):=zlg λp hp=>by
 obtain⟨⟨a,b⟩,c,d⟩:=Zs h p hp;exact yn (kV a ab) (kV c ab)
def zZa{p:zg}(h:Qo p):TQ (YH p) (zS5 p):=by
 obtain⟨⟨a,b⟩,⟨c,d⟩,e,f⟩:=h;exact yn (kV a ab) (yn (kV c ab) (kV e ab))
def zOk{p:zg}(h:zy3 p):TQ (YH p) (zGw p):=by
 obtain⟨⟨a,b⟩,⟨c,d⟩,e,f⟩:=h;exact J3 (a:=[.inl p.X]) (zwe ab ab) (J3 (a:=[.inl p.Y]) (zwe ab ab) (kV ab ab))
def zwf{w:ak}{l:List ak}(hw:Qk w=bf)(h:l.all zD=bf):TQ (xY w l) (Z7 w l):=by
 unfold xY Z7;cases l.isEmpty
 ·refine yn (zfy hw) ?_
  have:∀l:List ak,l.all zD=bf->TQ (l.map .inr) (l.map kwQ):=λl=>by
   induction l with
   |nil=>exact λ_=>zh5
   |cons x l ih =>
    intro h;rw[cP,bn]at h;exact yn (zai h.1) (ih h.2)
  exact this l h
 ·exact zh5
def zs4{w:ak}{n:Int}(hw:Qk w=bf)(h0:0<=n)(h1:n<=1099511627776):TQ (vq w n) (zlf w n):=by
 unfold vq zlf;split
 ·exact zh5
 ·exact yn (zfy hw) (kV h0 h1)
def zS7(b:Bool):TQ (bif b then[.inr wc]else[]) (zLh b):=by
 cases b
 ·exact zh5
 ·exact zfy rfl
def zlh:∀i<6,zD (u0.getD i [])=bf:=ah
def zFy:∀i<3,zD (JM.getD i [])=bf:=ah
def zZb(u:Int):TQ ((cQ 6).flatMap (zs2 u)) (z0g u):=by
 unfold z0g
 have:∀l:List Nat,(∀i∈l,i<6)->TQ (l.flatMap (zs2 u)) ((l.filter (dC u.toNat)).map λi=>kwQ (u0.getD i [])):=λl=>by
  induction l with
  |nil=>exact λ_=>zh5
  |cons i l ih =>
   intro h
   have ih:=ih λj hj=>h j (mcQ _ hj)
   rw[cy,fa];unfold zs2;cases dC u.toNat i
   ·exact ih
   ·exact yn (zai (zlh i (h i al))) ih
 exact this _ λi hi=>by simpa using hi
def zS8{r:zX}(h:Vd r):TQ (Qw r) (zFw r):=by
 obtain⟨⟨k0,k3⟩,b1,b2,b3,b4,b5,b6,b7,b8⟩:=h;unfold Qw zFw;by_cases h0:r.aM=0
 ·rw[aP h0,aP h0];exact zFx (zEe 12 _ (b1 h0))
 rw[aO h0,aO h0];by_cases h1:r.aM=1
 ·obtain⟨n1,n2,n3,n4⟩:=b3 h1
  rw[aP h1,aP h1];exact yn (zfy rfl) (yn (kV ab ab) (yn (zfy rfl) (yn (kV ab ab) (yn (zfy rfl) (yn (kV ab ab) (kV ab ab))))))
 rw[aO h1,aO h1];by_cases h3:r.aM=3
 ·obtain⟨n1,n2,n3⟩:=b6 h3
  rw[aP h3,aP h3];exact yn (zfy rfl) (yn (zai (zlh _ ab)) (yn (zai (zlh _ ab)) (kV ab ab)))
 rw[aO h3,aO h3];exact yn (zfy rfl) (zZb r.Uses)
def zS9{r:zX}(h:VX r):TQ (xY ze5 r.aB++(xY yZ r.Except++(vq vD r.From++(vq xF r.Until++(vq xR r.Grace++((bif r.Vary then[.inr wc]else[])++(.inr xM::Qw r))))))) (zS6 r):=by
 obtain⟨⟨⟨z0,x0⟩,d1,d2,d3,_⟩,hb⟩:=h;exact J3 (zwf rfl z0) (J3 (zwf rfl x0) (J3 (zs4 rfl ab ab) (J3 (zs4 rfl ab ab) (J3 (zs4 rfl ab ab) (J3 (zS7 _) (yn (zh6 (t:=sgQ xM) rfl rfl) (zS8 hb)))))))
def zFz:∀{d:Decl},zfx d->∃l,zFv d=.inr (HR d)::l/\TQ l (zah d)
 |.d x,⟨hn,h⟩=>⟨_,rfl,yn (zai hn) (yn (zh6 (t:=sgQ Av) rfl rfl) (zFx h))⟩
 |.t x,⟨hn,h⟩=>⟨.inr x.aL::(x.Rows.flatMap zs1++[.inr xe,.inl x.Else]),rfl,yn (zai hn) (J3 (zlg λy hy=>yn (zai (YE h y hy)) (zwe (h.2.2 y hy).1 (h.2.2 y hy).2)) (yn (zfy (w:=xe) rfl) (zwe h.2.1.1 h.2.1.2)))⟩
 |.z x,⟨hn,h⟩=>⟨_,rfl,yn (zai hn) (zOj h)⟩
 |.r x,⟨hn,h⟩=>⟨_,rfl,yn (zai hn) (zS9 h)⟩
 |.c x,⟨hn,h⟩=>⟨_,rfl,yn (zai hn) (yn (zai (zFy _ (by have:=h.1;omega))) (yn (kV h.2.1.1 (by have:=h.2.1.2;omega)) (zOj h.2.2)))⟩
 |.v x,⟨hn,l1,l2,⟨e1,e2,e3⟩,l4⟩=>⟨_,rfl,yn (zai hn) (yn (kV e1.1 ab) (yn (kV e2.1 ab) (yn (kV e3.1 ab) (yn (zfy rfl) (yn (kV l1.1 ab) (yn (zh6 (t:=sgQ xM) rfl rfl) (zlg λy hy=>zZa (l4 y hy))))))))⟩
 |.s [],⟨hn,_,_⟩=>aU rfl hn
 |.s (p::r),⟨_,h,_⟩=>⟨_,rfl,J3 (zOk (h p al)) (zlg λq hq=>yn (zh6 (t:=sgQ kW) rfl rfl) (zOk (h q (mcQ _ hq))))⟩
 |.h x,⟨h0,h1,_⟩=>⟨_,rfl,kV h0 ab⟩
def zzf(d:Decl):Qk (HR d)=bf:=by
 cases d with
 |z x=>cases h:x.Overlay<;>simp only[HR,h]<;>rfl
 |_=>rfl
def zs5(d:Decl):List T3:=kwQ (HR d)::zah d
def zwg{d:Decl}(h:zfx d):OKs (zs5 d):=by
 obtain⟨l,_,h2⟩:=zFz h;exact xd (zNv (zzf d)) h2.2
def zTa{d:Decl}(h:zfx d):ye (zFv d)=jq (zs5 d)++[32,59,10]:=by
 obtain⟨l,h1,h2⟩:=zFz h;rw[h1,jK,h2.1,<- asc];rfl
structure Stop(r:List ar):Prop where
 wf:TWF r
 num:HH r=bd
 nam:Ye r=bd
 op:opR r=bh
 comma:isB kW r=bd
 use:A4 (hdT r).Text USE=bh
def zF0{p:Int}{r:List ar}(h:TWF r):Stop (tk (sgQ yf) p::r):=⟨kl (a:=sgQ yf) rfl h,rfl,rfl,rfl,by rw[zF];decide,rfl⟩
def zZc{w:ak}{p:Int}{r:List ar}(h:zD w=bd):Ye (tk (kwQ w) p::r)=bd:=by rw[<- h];exact cA _
def JO{s:ak}{L:List ak}{p:Int}{r:List ar}(h:zD s=bf)(hL:s ∉ L):xX L (tk (kwQ s) p::r)=.ok (s,r):=by
 unfold xX;rw[aP (zv0 h),aO (show ¬(hdT (tk (kwQ s) p::r)).Text∈L from hL)];rfl
def zTb{n p:Int}{w:ak}{r:List ar}(h:w.all yK=bd):isB w (tk (xV n) p::r)=bd:=by
 rw[zF];exact(cA _).trans (df (Al h))
def zwh{most n:Int}{l r:List ar}(h0:0-most<=n)(h1:n<=most)(hl:l.map t3=zze n):wo most (l++r)=.ok (n,r):=by
 unfold zze at hl;split at hl
 ·obtain⟨p,l1,rfl,e1⟩:=map_cons hl
  obtain⟨q,l2,rfl,e2⟩:=map_cons e1;obtain rfl:=map_nil e2;unfold wo
  show(if isB yU (tk (sgQ yU) p::tk (xV (0-n)) q::r)=bf then thn (jQ 0 most (tk (xV (0-n)) q::r)) _ else _)=_
  rw[aP (show isB yU (tk (sgQ yU) p::tk (xV (0-n)) q::r)=bf by rw[zF];decide)];rw[kZ ab ab]
  show Except.ok (0-(0-n),r)=_
  rw[show 0-(0-n)=n by omega]
 ·obtain⟨p,l1,rfl,e1⟩:=map_cons hl
  obtain rfl:=map_nil e1;unfold wo
  show(if isB yU (tk (xV n) p::r)=bf then _ else jQ 0 most (tk (xV n) p::r))=_
  rw[zTb rfl,aO af,kZ ab h1]
def zbm{e:Int}{r:List ar}:zh3 bf e r=xH yf r:=by
 unfold zh3 xH;cases isB yf r<;>rfl
def zli:∀(ps:List zU)(n:Nat)(acc:List zU)(l r:List ar),ps≠[]->ps.length<=n->(∀p∈ps,(0<=p.X/\p.X<=1048576)/\(0<=p.Y/\p.Y<=1048576))->l.map t3=ps.flatMap ptQ->HH r=bd->vA n acc (l++r)=.ok (acc++ps,r)
 |[],_,_,_,_,h,_,_,_,_=>aU rfl h
 |p::ps,0,_,_,_,_,h,_,_,_=>by simp at h
 |p::ps,n+1,acc,l,r,_,hn,hb,hl,hr=>by
  obtain⟨⟨x0,x1⟩,y0,y1⟩:=hb p al;rw[cy]at hl;obtain⟨a,l1,rfl,e1⟩:=map_cons (show l.map t3=xV p.X::(xV p.Y::ps.flatMap ptQ) from hl);obtain⟨b,l2,rfl,e2⟩:=map_cons e1;rw[vA]
  show thn (jQ 0 1048576 (tk (xV p.X) a::(tk (xV p.Y) b::(l2++r)))) _=_
  rw[kZ x0 x1]
  show thn (jQ 0 1048576 (tk (xV p.Y) b::(l2++r))) _=_
  rw[kZ y0 y1]
  show(if HH (l2++r)=bf then vA n (acc++[p]) (l2++r)else .ok (acc++[p],l2++r))=_
  cases ps with
  |nil =>
   obtain rfl:=map_nil e2;rw[bM,hr,aO af]
  |cons q ps =>
   have hk:HH (l2++r)=bf:=by
    rw[cy]at e2;obtain⟨c,l3,rfl,_⟩:=map_cons (show l2.map t3=xV q.X::(xV q.Y::ps.flatMap ptQ) from e2);rfl
   rw[aP hk,zli (q::ps) n (acc++[p]) l2 r af (by simpa using hn) (λx hx=>hb x (mcQ _ hx)) e2 hr,asc];rfl
def zlj{p:zg}(h:Qo p){l r:List ar}(hl:l.map t3=zS5 p):uh (l++r)=.ok (p,r):=by
 obtain⟨⟨x0,x1⟩,⟨y0,y1⟩,z0,z1⟩:=h;obtain⟨a,l1,rfl,e1⟩:=map_cons (show l.map t3=[xV p.X,xV p.Y,xV p.Z_] from hl);obtain⟨b,l2,rfl,e2⟩:=map_cons e1;obtain⟨c,l3,rfl,e3⟩:=map_cons e2;obtain rfl:=map_nil e3;unfold uh
 show thn (jQ 0 1048576 (tk (xV p.X) a::(tk (xV p.Y) b::(tk (xV p.Z_) c::r)))) _=_
 rw[kZ x0 x1]
 show thn (jQ 0 1048576 (tk (xV p.Y) b::(tk (xV p.Z_) c::r))) _=_
 rw[kZ y0 y1]
 show thn (jQ 0 4096 (tk (xV p.Z_) c::r)) _=_
 rw[kZ z0 z1];rfl
def zwi:∀(ps:List zg)(n:Nat)(acc:List zg)(l r:List ar),ps.length<n->acc.length+ps.length<=20->(∀p∈ps,Qo p)->l.map t3=ps.flatMap zS5->HH r=bd->zpk n acc (l++r)=.ok (acc++ps,r)
 |_,0,_,_,_,h,_,_,_,_=>aU h (cY _)
 |[],n+1,acc,l,r,_,_,_,hl,hr=>by
  obtain rfl:=map_nil hl;rw[zpk,bM,hr,aO af,bI]
 |p::ps,n+1,acc,l,r,hn,hm,hb,hl,hr=>by
  rw[cy]at hl;obtain⟨l1,l2,rfl,e1,e2⟩:=wN hl;simp only[lc]at hn hm
  have hk:HH (l1++l2++r)=bf:=by
   obtain⟨a,l3,rfl,_⟩:=map_cons (show l1.map t3=[xV p.X,xV p.Y,xV p.Z_] from e1);rfl
  rw[zpk,aP hk];unfold HI;rw[aP (dt (show acc.length<20 by omega)),asc]
  show thn (uh (l1++(l2++r))) _=_
  rw[zlj (hb p al) e1]
  show zpk n (acc++[p]) (l2++r)=_
  rw[zwi ps n (acc++[p]) l2 r ab (by simp only[la,lc,bF];omega) (λx hx=>hb x (mcQ _ hx)) e2 hr,asc];rfl
def Wo:∀(es:List aw)(n:Nat)(acc:List aw)(l r:List ar),es.length<n->acc.length+es.length<=60->(∀x∈es,zD x.aL=bf/\-1099511627776<=x.N/\x.N<=1099511627776)->((acc++es).map aw.aL).Nodup->l.map t3=es.flatMap zY9->Ye r=bd->Ku n acc (l++r)=.ok (acc++es,r)
 |_,0,_,_,_,h,_,_,_,_,_=>aU h (cY _)
 |[],n+1,acc,l,r,_,_,_,_,hl,hr=>by
  obtain rfl:=map_nil hl;rw[Ku,bM,hr,aO af,bI]
 |x::es,n+1,acc,l,r,hn,hm,hb,hd,hl,hr=>by
  rw[cy]at hl;obtain⟨a,l1,rfl,e1⟩:=map_cons (show l.map t3=kwQ x.aL::(zze x.N++es.flatMap zY9) from hl);obtain⟨l2,l3,rfl,e2,e3⟩:=wN e1;simp only[lc]at hn hm;obtain⟨b1,b2,b3⟩:=hb x al
  have hx:x.aL ∉ acc.map aw.aL:=λh=>by
   rw[bO,cu]at hd;exact hd.2.2 _ h _ af rfl
  show Ku (n+1) acc (tk (kwQ x.aL) a::(l2++l3++r))=_
  rw[Ku,aP (zv0 b1)];unfold HI;rw[aP (dt (show acc.length<60 by omega)),asc]
  show thn (xX (acc.map aw.aL) (tk (kwQ x.aL) a::(l2++(l3++r)))) _=_
  rw[JO b1 hx]
  show thn (wo 1099511627776 (l2++(l3++r))) _=_
  rw[zwh ab b3 e2]
  show Ku n (acc++[x]) (l3++r)=_
  rw[Wo es n (acc++[x]) l3 r ab (by simp only[la,lc,bF];omega) (λy hy=>hb y (mcQ _ hy)) (by rw[asc];exact hd) e3 hr,asc];rfl
def zpw:∀(zs:List ak)(n:Nat)(acc:List ak)(l r:List ar),zs.length<n->zs.all zD=bf->l.map t3=zs.map kwQ->Ye r=bd->Kt n acc (l++r)=.ok (acc++zs,r)
 |_,0,_,_,_,h,_,_,_=>aU h (cY _)
 |[],n+1,acc,l,r,_,_,hl,hr=>by
  obtain rfl:=map_nil hl;rw[Kt,bM,hr,aO af,bI]
 |z::zs,n+1,acc,l,r,hn,hb,hl,hr=>by
  obtain⟨a,l1,rfl,e1⟩:=map_cons (show l.map t3=kwQ z::zs.map kwQ from hl);rw[cP,bn]at hb;simp only[lc]at hn
  show Kt (n+1) acc (tk (kwQ z) a::(l1++r))=_
  rw[Kt,aP (zv0 hb.1),Zk hb.1]
  show Kt n (acc++[z]) (l1++r)=_
  rw[zpw zs n (acc++[z]) l1 r ab hb.2 e1 hr,asc];rfl
def zF1{z:ak}{zs:List ak}{l r:List ar}(hb:(z::zs).all zD=bf)(hl:l.map t3=(z::zs).map kwQ)(hr:Ye r=bd):A6 (l++r)=.ok (z::zs,r):=by
 obtain⟨a,l1,rfl,e1⟩:=map_cons (show l.map t3=kwQ z::zs.map kwQ from hl);rw[cP,bn]at hb;unfold A6
 show thn (kX (tk (kwQ z) a::(l1++r))) _=_
 rw[Zk hb.1]
 show Kt ((l1++r).length+1) [z] (l1++r)=_
 have hlen:=aQ bg e1;rw[bN,bN]at hlen;exact zpw zs _ [z] l1 r (by rw[la];omega) hb.2 e1 hr
def V8{w:List ak}{i:Nat}{p:Int}{r:List ar}(h:A4 (w.getD i []) w=bc i):vm w (tk (kwQ (w.getD i [])) p::r)=.ok ((i:Int),r):=by
 unfold vm;rw[aP (show(hdT (tk (kwQ (w.getD i [])) p::r)).aM=0 from rfl),show(hdT (tk (kwQ (w.getD i [])) p::r)).Text=w.getD i [] from rfl,h];rfl
def zlk:∀i<6,A4 (u0.getD i []) u0=bc i:=ah
def zF2:∀i<3,A4 (JM.getD i []) JM=bc i:=ah
def orB(s:Nat)(is:List Nat):Nat:=is.foldl (λs i=>s ||| 2 ^ i) s
def zwj:∀(is:List Nat)(n s:Nat)(l r:List ar),is.length<n->(∀i∈is,i<6/\dC s i=bd)->is.Nodup->(0<s∨is≠[])->l.map t3=is.map (λi=>kwQ (u0.getD i []))->A4 (hdT r).Text USE=bh->zfw n s (l++r)=.ok (orB s is,r)
 |_,0,_,_,_,h,_,_,_,_,_=>aU h (cY _)
 |[],n+1,s,l,r,_,_,_,h0,hl,hr=>by
  obtain rfl:=map_nil hl
  have hs:0<s:=by
   rcases h0 with h|h
   ·exact h
   ·exact aU rfl h
  rw[zfw,bM,hr];dsimp only;rw[aP hs];rfl
 |i::is,n+1,s,l,r,hn,hb,hd,_,hl,hr=>by
  obtain⟨a,l1,rfl,e1⟩:=map_cons (show l.map t3=kwQ (u0.getD i [])::is.map (λi=>kwQ (u0.getD i [])) from hl);obtain⟨b1,b2⟩:=hb i al;obtain⟨d1,d2⟩:=cG.1 hd;simp only[lc]at hn
  show zfw (n+1) s (tk (kwQ (u0.getD i [])) a::(l1++r))=_
  rw[zfw,show A4 (hdT (tk (kwQ (u0.getD i [])) a::(l1++r))).Text USE=bc i from zlk i b1];dsimp only;rw[aO (show ¬(0<s/\(hdT (tk (kwQ (u0.getD i [])) a::(l1++r))).aM≠0) from λh=>h.2 rfl),b2,aO af,aP (show(hdT (tk (kwQ (u0.getD i [])) a::(l1++r))).aM=0 from rfl)]
  show zfw n (s ||| 2 ^ i) (l1++r)=_
  refine(zwj is n (s ||| 2 ^ i) l1 r ab (λj hj=>?_) d2 (.inl ?_) e1 hr).trans rfl
  ·obtain⟨c1,c2⟩:=hb j (mcQ _ hj)
   refine⟨c1,?_⟩
   have hne:i≠j:=λe=>d1 (e▸hj)
   rw[Nat.testBit_or,c2,Nat.testBit_two_pow_of_ne hne];rfl
  ·have:2 ^ i<=s ||| 2 ^ i:=Nat.right_le_or
   have:=Nat.two_pow_pos i;omega
def zLi:∀u<64,orB 0 ((cQ 6).filter (dC u))=u:=ah
def zLj:∀u<64,0<u->(cQ 6).filter (dC u)≠[]:=ah
def zwk:∀(ps:List zg)(n:Nat)(acc:List zg)(l r:List ar)(p:zg),ps.length<n->acc.length+ps.length+1<=24->(∀q∈p::ps,zy3 q)->l.map t3=zGw p++ps.flatMap (λq=>sgQ kW::zGw q)->isB kW r=bd->zlx n acc (l++r)=.ok (acc++p::ps,r)
 |_,0,_,_,_,_,h,_,_,_,_=>aU h (cY _)
 |ps,n+1,acc,l,r,p,hn,hm,hb,hl,hr=>by
  obtain⟨⟨x0,x1⟩,⟨y0,y1⟩,z0,z1⟩:=hb p al;obtain⟨l0,l1,rfl,e0,e1⟩:=wN hl;obtain⟨lx,l2,rfl,ex,e2⟩:=wN (show l0.map t3=zze p.X++(zze p.Y++[xV p.Z_]) from e0);obtain⟨ly,l3,rfl,ey,e3⟩:=wN e2;obtain⟨c,l4,rfl,e4⟩:=map_cons e3;obtain rfl:=map_nil e4
  have hk:(isB yU (lx++(ly++(tk (xV p.Z_) c::(l1++r))))||HH (lx++(ly++(tk (xV p.Z_) c::(l1++r)))))=bf:=by
   unfold zze at ex;split at ex
   ·obtain⟨a,l5,rfl,_⟩:=map_cons ex
    rw[bU,zF];rfl
   ·obtain⟨a,l5,rfl,_⟩:=map_cons ex
    rw[Bool.or_eq_true];exact .inr rfl
  have ea:lx++(ly++[tk (xV p.Z_) c])++l1++r=lx++(ly++(tk (xV p.Z_) c::(l1++r))):=af
  rw[ea,zlx];unfold HI;rw[hk,aP rfl]
  show thn (if decide (acc.length<24)=bf then _ else _) _=_
  rw[aP (dt (show acc.length<24 by omega))]
  show thn (wo 4096 (lx++(ly++(tk (xV p.Z_) c::(l1++r))))) _=_
  rw[zwh ab x1 ex]
  show thn (wo 4096 (ly++(tk (xV p.Z_) c::(l1++r)))) _=_
  rw[zwh ab y1 ey]
  show thn (jQ 1 4096 (tk (xV p.Z_) c::(l1++r))) _=_
  rw[kZ z0 z1]
  show(if isB kW (l1++r)=bf then zlx n (acc++[p]) (l1++r).tail else .ok (acc++[p],l1++r))=_
  cases ps with
  |nil =>
   obtain rfl:=map_nil e1;rw[bM,hr,aO af]
  |cons q ps =>
   rw[cy]at e1;obtain⟨d,l6,rfl,e6⟩:=map_cons (show l1.map t3=sgQ kW::(zGw q++ps.flatMap (λq=>sgQ kW::zGw q)) from e1);simp only[lc]at hn hm;rw[aP (by rw[bU,zF];decide)]
   show zlx n (acc++[p]) (l6++r)=_
   rw[zwk ps n (acc++[p]) l6 r q ab (by simp only[la,lc,bF];omega) (λx hx=>hb x (mcQ _ hx)) e6 hr,asc];rfl
def zh7{α β:Type}{a:α}{r:List ar}{g:α->List ar->Except EE β}:thn (.ok (a,r)) g=g a r:=rfl
def HS(S:List ak)(x:List ar):Prop:=∃t p r,x=tk t p::r/\t.1≠1/\t.2.1∈S
def zh8{S:List ak}{x:List ar}{w:ak}(h:HS S x)(hw:w ∉ S):isB w x=bd:=by
 obtain⟨t,p,r,rfl,_,hm⟩:=h;rw[zF,eU];exact .inr (df λe=>hw (e▸hm))
def zOl{S:List ak}{x:List ar}(h:HS S x)(hS:S.all (λw=>!(zD w))=bf):Ye x=bd:=by
 obtain⟨t,p,r,rfl,_,hm⟩:=h;have:=bj.1 hS _ hm;unfold Ye;rw[eU];exact .inr (show zD t.2.1=bd by simpa using this)
def HS.mono{S S':List ak}{x:List ar}(h:HS S x)(hS:∀w∈S,w∈S'):HS S' x:=by
 obtain⟨t,p,r,e,h1,h2⟩:=h;exact⟨t,p,r,e,h1,hS _ h2⟩
def zLk{w:ak}{zs:List ak}{S:List ak}{l x:List ar}(hl:l.map t3=Z7 w zs)(hx:HS S x):HS (w::S) (l++x):=by
 unfold Z7 at hl
 cases he:zs.isEmpty with
 |true =>
  rw[he]at hl;obtain rfl:=map_nil hl
  exact hx.mono λv hv=>mcQ _ hv
 |false =>
  rw[he]at hl;obtain⟨p,l1,rfl,_⟩:=map_cons (show l.map t3=kwQ w::zs.map kwQ from hl);exact⟨kwQ w,p,_,rfl,(by decide:(0:Int)≠1),al⟩
def zs6{w:ak}{n:Int}{S:List ak}{l x:List ar}(hl:l.map t3=zlf w n)(hx:HS S x):HS (w::S) (l++x):=by
 unfold zlf at hl;split at hl
 ·obtain rfl:=map_nil hl
  exact hx.mono λv hv=>mcQ _ hv
 ·obtain⟨p,l1,rfl,_⟩:=map_cons hl
  exact⟨kwQ w,p,_,rfl,(by decide:(0:Int)≠1),al⟩
def zTc{b:Bool}{S:List ak}{l x:List ar}(hl:l.map t3=zLh b)(hx:HS S x):HS (wc::S) (l++x):=by
 cases b with
 |false =>
  obtain rfl:=map_nil hl
  exact hx.mono λv hv=>mcQ _ hv
 |true =>
  obtain⟨p,l1,rfl,_⟩:=map_cons (show l.map t3=[kwQ wc] from hl);exact⟨kwQ wc,p,_,rfl,(by decide:(0:Int)≠1),al⟩
def zpx{w:ak}{zs:List ak}{l x:List ar}(hb:zs.all zD=bf)(hl:l.map t3=Z7 w zs)(h1:isB w x=bd)(h2:Ye x=bd):Wd w [] A6 (l++x)=.ok (zs,x):=by
 unfold Z7 at hl
 cases zs with
 |nil =>
  obtain rfl:=map_nil hl;unfold Wd;rw[bM,h1,aO af]
 |cons z zs =>
  obtain⟨p,l1,rfl,e1⟩:=map_cons (show l.map t3=kwQ w::(z::zs).map kwQ from hl);unfold Wd;rw[aP (show isB w (tk (kwQ w) p::l1++x)=bf by rw[bU,zF];exact(cA _).trans (dt rfl))];exact zF1 hb e1 h2
def zll{w:ak}{n lo hi:Int}{l x:List ar}(hn:n≠0->lo<=n/\n<=hi)(hl:l.map t3=zlf w n)(h1:isB w x=bd):Wd w 0 (jQ lo hi) (l++x)=.ok (n,x):=by
 unfold zlf at hl;split at hl
 ·rename_i h0
  obtain rfl:=map_nil hl;unfold Wd;rw[bM,h1,aO af,h0]
 ·rename_i h0
  obtain⟨p,l1,rfl,e1⟩:=map_cons hl;obtain⟨q,l2,rfl,e2⟩:=map_cons e1;obtain rfl:=map_nil e2;obtain⟨a,b⟩:=hn h0;unfold Wd;rw[aP (show isB w (tk (kwQ w) p::[tk (xV n) q]++x)=bf by rw[bU,zF];exact(cA _).trans (dt rfl))];exact kZ a b
def zLl{b:Bool}{l x:List ar}(hl:l.map t3=zLh b)(h1:isB wc x=bd):isB wc (l++x)=b/\zsr wc (l++x)=x:=by
 cases b with
 |false =>
  obtain rfl:=map_nil hl;unfold zsr;rw[bM,h1,aO af];exact⟨rfl,rfl⟩
 |true =>
  obtain⟨p,l1,rfl,e1⟩:=map_cons (show l.map t3=[kwQ wc] from hl);obtain rfl:=map_nil e1
  have hb:isB wc ([tk (kwQ wc) p]++x)=bf:=by rw[bU,zF];decide
  unfold zsr;rw[hb,aP rfl];exact⟨rfl,rfl⟩
def zF3{d:Nat}{e:Expr}(h:OX d e):∀t ts,xC d e=t::ts->t.2.1≠qf/\t.2.1≠oT/\t.2.1≠qe:=by
 have nm:∀{s:ak},zD s=bf->s≠qf/\s≠oT/\s≠qe:=λh=>⟨zsm h ah,zsm h ah,zsm h ah⟩
 induction h with
 |@num d n h1 h2 =>
  intro t ts e;obtain⟨rfl,_⟩:=List.cons.inj (show[xV n]=t::ts from e);exact⟨Al rfl,Al rfl,Al rfl⟩
 |@name d s h =>
  intro t ts e;obtain⟨rfl,_⟩:=List.cons.inj (show[kwQ s]=t::ts from e);exact nm h
 |@table d s k h1 h2 =>
  intro t ts e;obtain⟨rfl,_⟩:=List.cons.inj (show[kwQ yy,kwQ s,kwQ k]=t::ts from e);exact⟨ae,ae,ae⟩
 |@zone d s h =>
  intro t ts e;obtain⟨rfl,_⟩:=List.cons.inj (show[kwQ xm,kwQ s]=t::ts from e);exact⟨ae,ae,ae⟩
 |@neg d a _ _ =>
  intro t ts e;obtain⟨rfl,_⟩:=List.cons.inj (show sgQ yU::_=t::ts from e);exact⟨ae,ae,ae⟩
 |@not d a _ _ =>
  intro t ts e;obtain⟨rfl,_⟩:=List.cons.inj (show kwQ qS::_=t::ts from e);exact⟨ae,ae,ae⟩
 |@cond d a b c _ _ _ _ _ _ =>
  intro t ts e;obtain⟨rfl,_⟩:=List.cons.inj (show kwQ WS::_=t::ts from e);exact⟨ae,ae,ae⟩
 |@bin d op a b hb ha _ ia _ =>
  intro t ts e;rw[Yo hb]at e;unfold Yn at e;by_cases hp:lvO a.Op<zk1 op
  ·rw[aP hp]at e
   obtain⟨rfl,_⟩:=List.cons.inj e;exact⟨ae,ae,ae⟩
  ·rw[aO hp]at e
   cases hq:xC d a with
   |nil=>exact aU hq (uu ha).1
   |cons u us =>
    rw[hq]at e;obtain⟨rfl,_⟩:=List.cons.inj e;exact ia _ _ hq
def zZd(r:zX):BD:=(r.aM,r.Test,r.zx,r.Uses,r.Other,r.N)
def zF4{x:zX}(hb:Vd x){l r:List ar}(hl:l.map t3=zFw x)(hr:Stop r):JI (l++r)=thn (xH yf r) λ_ r=>.ok (zZd x,r):=by
 obtain⟨nm,zs,ex,fr,un,gr,va,ki,te,pl,us,ot,n⟩:=x;obtain⟨⟨k0,k3⟩,b1,b2,b3,b4,b5,b6,b7,b8⟩:=hb;unfold zFw at hl;unfold zZd;dsimp only at *;by_cases h0:ki=0
 ·subst h0
  rw[aP rfl]at hl;have ox:=zEe 12 _ (b1 rfl);obtain rfl:=b4 ae;obtain rfl:=b7 ae ae;obtain⟨rfl,rfl⟩:=b8 ae
  have no:∀w,(∀t ts,xC 12 te=t::ts->t.2.1≠w)->isB w (l++r)=bd:=λw hw=>by
   cases hq:xC 12 te with
   |nil=>exact aU hq (uu ox).1
   |cons t ts =>
    rw[hq]at hl;obtain⟨p,l1,rfl,_⟩:=map_cons hl;rw[bU,zF,eU];exact .inr (df (hw t ts hq))
  have hw:=zF3 ox;unfold JI;rw[no qf (λt ts e=>(hw t ts e).1),no oT (λt ts e=>(hw t ts e).2.1),no qe (λt ts e=>(hw t ts e).2.2),aO af,aO af,aO af];unfold zEt;rw[(zEk ox).1 0 l r ab (by rw[hl];exact zX1.symm) hr.wf (zEi hr.op)]
  show thn (zh3 (decide (Vs te<=12)) 6 r) _=_
  rw[dt (zOe ox),zbm];rfl
 rw[aO h0]at hl;obtain rfl:=b2 h0;by_cases h1:ki=1
 ·subst h1
  rw[aP rfl]at hl;obtain⟨⟨n1,m1⟩,⟨n2,m2⟩,⟨n3,m3⟩,n4,m4⟩:=b3 rfl;obtain rfl:=b7 ae ae;obtain⟨rfl,rfl⟩:=b8 ae;obtain⟨sd,ba,nu,de⟩:=pl;dsimp only at *;obtain⟨p1,l1,rfl,e1⟩:=map_cons hl;obtain⟨p2,l2,rfl,e2⟩:=map_cons e1;obtain⟨p3,l3,rfl,e3⟩:=map_cons e2;obtain⟨p4,l4,rfl,e4⟩:=map_cons e3;obtain⟨p5,l5,rfl,e5⟩:=map_cons e4;obtain⟨p6,l6,rfl,e6⟩:=map_cons e5;obtain⟨p7,l7,rfl,e7⟩:=map_cons e6;obtain rfl:=map_nil e7;unfold JI;rw[aP (by rw[bU,zF];decide)];unfold zpl
  show thn (jQ 0 3 (tk (xV sd) p2::tk (kwQ AB) p3::tk (xV ba) p4::tk (kwQ jA) p5::tk (xV nu) p6::tk (xV de) p7::r)) _=_
  rw[kZ n1 m1,zh7,Qr (show isB AB (tk (kwQ AB) p3::tk (xV ba) p4::tk (kwQ jA) p5::tk (xV nu) p6::tk (xV de) p7::r)=bf by rw[zF];decide)]
  show thn (jQ 0 4096 (tk (xV ba) p4::tk (kwQ jA) p5::tk (xV nu) p6::tk (xV de) p7::r)) _=_
  rw[kZ n2 m2,zh7,Qr (show isB jA (tk (kwQ jA) p5::tk (xV nu) p6::tk (xV de) p7::r)=bf by rw[zF];decide)]
  show thn (jQ 0 4096 (tk (xV nu) p6::tk (xV de) p7::r)) _=_
  rw[kZ n3 m3]
  show thn (jQ 1 4096 (tk (xV de) p7::r)) _=_
  rw[kZ n4 m4];rfl
 rw[aO h1]at hl;obtain rfl:=b4 h1;by_cases h3:ki=3
 ·subst h3
  rw[aP rfl]at hl;obtain⟨⟨n1,m1⟩,⟨n2,m2⟩,n3,m3⟩:=b6 rfl;obtain⟨p1,l1,rfl,e1⟩:=map_cons hl;obtain⟨p2,l2,rfl,e2⟩:=map_cons e1;obtain⟨p3,l3,rfl,e3⟩:=map_cons e2;obtain⟨p4,l4,rfl,e4⟩:=map_cons e3;obtain rfl:=map_nil e4;unfold JI;rw[aO (by rw[bU,zF];decide),aO (by rw[bU,zF];decide),aP (by rw[bU,zF];decide)];unfold zpm
  show thn (vm u0 (tk (kwQ (u0.getD us.toNat [])) p2::tk (kwQ (u0.getD ot.toNat [])) p3::tk (xV n) p4::r)) _=_
  rw[V8 (zlk _ ab)]
  show thn (vm u0 (tk (kwQ (u0.getD ot.toNat [])) p3::tk (xV n) p4::r)) _=_
  rw[V8 (zlk _ ab)]
  show thn (jQ 0 1048576 (tk (xV n) p4::r)) _=_
  rw[kZ n3 m3]
  show thn (xH yf r) (λ_ r=>.ok ((3,ex0,pl0,((us.toNat:Nat):Int),((ot.toNat:Nat):Int),n),r))=_
  rw[dR n1,dR n2];rfl
 rw[aO h3]at hl
 obtain rfl:ki=2:=ab
 obtain⟨n1,m1⟩:=b5 rfl;obtain⟨rfl,rfl⟩:=b8 ae;obtain⟨p1,l1,rfl,e1⟩:=map_cons hl;unfold JI;rw[aO (by rw[bU,zF];decide),aP (by rw[bU,zF];decide)];unfold zy7
 show thn (zfw ((l1++r).length+1) 0 (l1++r)) _=_
 have hlen:=aQ bg e1;unfold z0g at hlen;rw[bN,bN]at hlen;rw[zwj _ _ 0 l1 r (by rw[la];omega) (λi hi=>⟨by simpa using(dz.1 hi).1,Nat.zero_testBit i⟩) (List.nodup_range.filter _) (.inr (zLj _ ab ab)) e1 hr.use,zLi _ ab]
 show thn (xH yf r) (λ_ r=>.ok ((2,ex0,pl0,((us.toNat:Nat):Int),0,0),r))=_
 rw[dR ab];rfl
def zF5{x:zX}{L:List ak}(hn:zD x.aL=bf)(hL:x.aL ∉ L)(h:VX x){l r:List ar}(hl:l.map t3=zah (.r x))(hr:Stop r):Yv L (l++r)=thn (xH yf r) λ_ r=>.ok (x,r):=by
 obtain⟨⟨⟨z0,x0⟩,d1,d2,d3,d4⟩,hb⟩:=h;obtain⟨p,l1,rfl,e1⟩:=map_cons (show l.map t3=kwQ x.aL::zS6 x from hl);obtain⟨a1,m1,rfl,f1,g1⟩:=wN e1;obtain⟨a2,m2,rfl,f2,g2⟩:=wN g1;obtain⟨a3,m3,rfl,f3,g3⟩:=wN g2;obtain⟨a4,m4,rfl,f4,g4⟩:=wN g3;obtain⟨a5,m5,rfl,f5,g5⟩:=wN g4;obtain⟨a6,m6,rfl,f6,g6⟩:=wN g5;obtain⟨p7,a7,rfl,f7⟩:=map_cons g6
 have ea:tk (kwQ x.aL) p::(a1++(a2++(a3++(a4++(a5++(a6++tk (sgQ xM) p7::a7))))))++r=tk (kwQ x.aL) p::(a1++(a2++(a3++(a4++(a5++(a6++(tk (sgQ xM) p7::(a7++r)))))))):=af
 rw[ea]
 have s7:HS [xM] (tk (sgQ xM) p7::(a7++r)):=⟨sgQ xM,p7,_,rfl,(by decide:(2:Int)≠1),al⟩
 have s6:=zTc f6 s7;have s5:=zs6 f5 s6;have s4:=zs6 f4 s5;have s3:=zs6 f3 s4;have s2:=zLk f2 s3;unfold Yv;rw[JO hn hL]
 show thn (Wd ze5 [] A6 (a1++_)) _=_
 rw[zpx z0 f1 (zh8 s2 ah) (zOl s2 ah)]
 show thn (Wd yZ [] A6 (a2++_)) _=_
 rw[zpx x0 f2 (zh8 s3 ah) (zOl s3 ah)]
 show thn (Wd vD 0 (jQ 0 1073741824) (a3++_)) _=_
 rw[zll (λ_=>d1) f3 (zh8 s4 ah)]
 show thn (Wd xF 0 (jQ (x.From+1) 1073741824) (a4++_)) _=_
 rw[zll (λh=>⟨ab,d3.2⟩) f4 (zh8 s5 ah)]
 show thn (Wd xR 0 (jQ 0 1073741824) (a5++_)) _=_
 rw[zll (λ_=>d2) f5 (zh8 s6 ah)];obtain⟨v1,v2⟩:=zLl f6 (zh8 s7 ah)
 show thn (xH xM (zsr wc (a6++(tk (sgQ xM) p7::(a7++r))))) (λ_ r2=>thn (JI r2) λb r3=>.ok (zX.mk x.aL x.aB x.Except x.From x.Until x.Grace (isB wc (a6++(tk (sgQ xM) p7::(a7++r)))) b.1 b.2.1 b.2.2.1 b.2.2.2.1 b.2.2.2.2.1 b.2.2.2.2.2,r3))=_
 rw[v1,v2,Qr (by rw[zF];decide)]
 show thn (JI (a7++r)) _=_
 rw[zF4 hb f7 hr,zN];rfl
def zF6(p:yJ)(h:Bool):Decl->yJ×Bool
 |.d x=>({ p with aF:=p.aF++[x] },h)
 |.t x=>({ p with Tables:=p.Tables++[x] },h)
 |.z x=>({ p with aB:=p.aB++[x] },h)
 |.r x=>({ p with aE:=p.aE++[x] },h)
 |.c x=>({ p with aJ:=p.aJ++[x] },h)
 |.v x=>({ p with aG:=p.aG++[x] },h)
 |.s x=>({ p with aK:=x },h)
 |.h x=>({ p with aI:=x },bf)
def zOm(p:yJ)(h:Bool):Decl->Prop
 |.d x=>x.aL ∉ p.aF.map Def.aL/\p.aF.length<60
 |.t x=>x.aL ∉ p.Tables.map au.aL/\p.Tables.length<60
 |.z x=>x.aL ∉ p.aB.map yD.aL/\p.aB.length<60
 |.r x=>x.aL ∉ p.aE.map zX.aL/\p.aE.length<200
 |.c x=>x.aL ∉ p.aJ.map Cap.aL/\p.aJ.length<30
 |.v x=>x.aL ∉ p.aG.map av.aL/\p.aG.length<60
 |.s _=>p.aK=[]
 |.h _=>h=bd
def V9{n m:Nat}{t:ar}{r:List ar}(h:n<m):Qu n m (t::r)=.ok ((),r):=by
 unfold Qu HI;rw[aP (dt h)];rfl
def AS{α β:Type}{r:List ar}{w:ak}{a:α}{g:α->List ar->Except EE β}:thn (thn (xH w r) λ_ r=>.ok (a,r)) g=thn (xH w r) λ_ r=>g a r:=by
 rw[zN];rfl
def Wa:∀(l seen:List ak),jJ bf seen l=bf->l.Nodup/\∀s∈l,s ∉ seen
 |[],_,_=>⟨List.nodup_nil,λ_ h=>by cases h⟩
 |s::l,seen,h=>by
  rw[jJ]at h;simp only[bn,cA,Bool.not_eq_true',aX]at h;obtain⟨_,h2,h3⟩:=h;obtain⟨i1,i2⟩:=Wa l (seen++[s]) h3;refine⟨cG.2 ⟨λhm=>i2 s hm af,i1⟩,λx hx=>?_⟩
  rcases bp.1 hx with rfl|hx
  ·exact h2
  ·exact λhm=>i2 x hx (List.mem_append_left _ hm)
def zwl{l:List zU}(h:Aw l):l≠[]:=λe=>by
 have:=h.1.1;rw[e]at this;simp at this
def JP{α β:Type}{f:α->List β}{k:Nat}(h:∀x,k<=(f x).length):∀l:List α,l.length*k<=(l.flatMap f).length
 |[]=>af
 |x::l=>by
  have:=h x;have:=JP h l;rw[cy,la,lc,dB];omega
def zLm{x:Def}{L:List ak}(hn:zD x.aL=bf)(hL:x.aL ∉ L)(h:OX 12 x.Body){l r:List ar}(hl:l.map t3=zah (.d x))(hr:Stop r):zv5 L (l++r)=thn (xH yf r) λ_ r=>.ok (x,r):=by
 obtain⟨p,l1,rfl,e1⟩:=map_cons (show l.map t3=kwQ x.aL::(sgQ Av::xC 12 x.Body) from hl);obtain⟨q,l2,rfl,e2⟩:=map_cons e1;unfold zv5
 show thn (xX L (tk (kwQ x.aL) p::tk (sgQ Av) q::(l2++r))) _=_
 rw[JO hn hL,zh7,Qr (show isB Av (tk (sgQ Av) q::(l2++r))=bf by rw[zF];decide)]
 show thn (DE 0 (l2++r)) _=_
 rw[(zEk h).1 0 l2 r ab (by rw[e2];exact zX1.symm) hr.wf (zEi hr.op)]
 show thn (zh3 (decide (Vs x.Body<=12)) 6 r) _=_
 rw[dt (zOe h),zbm]
def zF7{x:yD}{L:List ak}(hn:zD x.aL=bf)(hL:x.aL ∉ L)(h:Aw x.aA){l r:List ar}(hl:l.map t3=zah (.z x))(hr:Stop r):Ve L x.Overlay (l++r)=thn (xH yf r) λ_ r=>.ok (x,r):=by
 obtain⟨p,l1,rfl,e1⟩:=map_cons (show l.map t3=kwQ x.aL::x.aA.flatMap ptQ from hl);unfold Ve
 show thn (xX L (tk (kwQ x.aL) p::(l1++r))) _=_
 rw[JO hn hL]
 show thn (vA ((l1++r).length+1) [] (l1++r)) _=_
 have hlen:=aQ bg e1;have:=JP (f:=ptQ) (k:=2) (λ_=>dk 2) x.aA;rw[bN]at hlen;rw[zli x.aA _ [] l1 r (zwl h) (by rw[la];omega) (Zs h) e1 hr.num]
 show thn (zh3 (pd (Aw x.aA)) 10 r) _=_
 rw[VY h,zbm];rfl
def zLn{x:Cap}{L:List ak}(hn:zD x.aL=bf)(hL:x.aL ∉ L)(h:zGv x){l r:List ar}(hl:l.map t3=zah (.c x))(hr:Stop r):zy6 L (l++r)=thn (xH yf r) λ_ r=>.ok (x,r):=by
 obtain⟨⟨c0,c1⟩,⟨n0,n1⟩,hp⟩:=h;obtain⟨p,l1,rfl,e1⟩:=map_cons (show l.map t3=kwQ x.aL::kwQ (JM.getD x.Load.toNat [])::xV x.Limit::x.aA.flatMap ptQ from hl);obtain⟨p2,l2,rfl,e2⟩:=map_cons e1;obtain⟨p3,l3,rfl,e3⟩:=map_cons e2;unfold zy6
 show thn (xX L (tk (kwQ x.aL) p::tk (kwQ (JM.getD x.Load.toNat [])) p2::tk (xV x.Limit) p3::(l3++r))) _=_
 rw[JO hn hL]
 show thn (vm JM (tk (kwQ (JM.getD x.Load.toNat [])) p2::tk (xV x.Limit) p3::(l3++r))) _=_
 rw[V8 (zF2 _ ab)]
 show thn (jQ 0 1099511627776 (tk (xV x.Limit) p3::(l3++r))) _=_
 rw[kZ n0 n1]
 show thn (vA ((l3++r).length+1) [] (l3++r)) _=_
 have hlen:=aQ bg e3;have:=JP (f:=ptQ) (k:=2) (λ_=>dk 2) x.aA;rw[bN]at hlen;rw[zli x.aA _ [] l3 r (zwl hp) (by rw[la];omega) (Zs hp) e3 hr.num]
 show thn (zh3 (pd (Aw x.aA)) 10 r) (λ_ r=>.ok (Cap.mk x.aL ((x.Load.toNat:Nat):Int) x.Limit x.aA,r))=_
 rw[VY hp,zbm,dR c0]
def zF8{x:av}{L:List ak}(hn:zD x.aL=bf)(hL:x.aL ∉ L)(h:Ym x){l r:List ar}(hl:l.map t3=zah (.v x))(hr:Stop r):Yu L (l++r)=thn (xH yf r) λ_ r=>.ok (x,r):=by
 obtain⟨⟨n0,n1⟩,⟨t0,t1⟩,he,ht⟩:=h;obtain⟨p,l1,rfl,e1⟩:=map_cons (show l.map t3=kwQ x.aL::(zS5 x.Eye++(kwQ vM::xV x.Least::sgQ xM::x.Targets.flatMap zS5)) from hl);obtain⟨l2,l3,rfl,e2,e3⟩:=wN e1;obtain⟨p3,l4,rfl,e4⟩:=map_cons e3;obtain⟨p4,l5,rfl,e5⟩:=map_cons e4;obtain⟨p5,l6,rfl,e6⟩:=map_cons e5
 have ea:tk (kwQ x.aL) p::(l2++tk (kwQ vM) p3::tk (xV x.Least) p4::tk (sgQ xM) p5::l6)++r=tk (kwQ x.aL) p::(l2++(tk (kwQ vM) p3::tk (xV x.Least) p4::tk (sgQ xM) p5::(l6++r))):=af
 rw[ea];unfold Yu;rw[JO hn hL]
 show thn (uh (l2++_)) _=_
 rw[zlj he e2,zh7,Qr (show isB vM (tk (kwQ vM) p3::tk (xV x.Least) p4::tk (sgQ xM) p5::(l6++r))=bf by rw[zF];decide)]
 show thn (jQ 0 20 (tk (xV x.Least) p4::tk (sgQ xM) p5::(l6++r))) _=_
 rw[kZ n0 n1,zh7,Qr (show isB xM (tk (sgQ xM) p5::(l6++r))=bf by rw[zF];decide)];obtain⟨nm,eye,lst,tg⟩:=x;dsimp only at *
 cases tg with
 |nil=>simp at t0
 |cons q tg =>
  rw[cy]at e6;obtain⟨l7,l8,rfl,e7,e8⟩:=wN e6
  show thn (uh (l7++l8++r)) _=_
  rw[asc,zlj (ht q al) e7]
  show thn (zpk ((l8++r).length+1) [q] (l8++r)) _=_
  have hlen:=aQ bg e8;have:=JP (f:=zS5) (k:=3) (λ_=>dk 3) tg;rw[bN]at hlen;simp only[lc]at t1;rw[zwi tg _ [q] l8 r (by rw[la];omega) (by simp only[lc,bF];omega) (λy hy=>ht y (mcQ _ hy)) e8 hr.num];rfl
def zzg{x:au}{L:List ak}(hn:zD x.aL=bf)(hL:x.aL ∉ L)(h:Aj x){l r:List ar}(hl:l.map t3=zah (.t x))(hr:Stop r):AO L (l++r)=thn (xH yf r) λ_ r=>.ok (x,r):=by
 have hnm:=YE h;obtain⟨⟨r0,r1⟩,⟨n0,n1⟩,hx⟩:=h;obtain⟨p,l1,rfl,e1⟩:=map_cons (show l.map t3=kwQ x.aL::(x.Rows.flatMap zY9++(kwQ xe::zze x.Else)) from hl);obtain⟨l2,l3,rfl,e2,e3⟩:=wN e1;obtain⟨p3,l4,rfl,e4⟩:=map_cons e3
 have ea:tk (kwQ x.aL) p::(l2++tk (kwQ xe) p3::l4)++r=tk (kwQ x.aL) p::(l2++(tk (kwQ xe) p3::(l4++r))):=af
 rw[ea];unfold AO;rw[JO hn hL]
 show thn (Ku ((l2++(tk (kwQ xe) p3::(l4++r))).length+1) [] (l2++(tk (kwQ xe) p3::(l4++r)))) _=_
 have hlen:=aQ bg e2;have:=JP (f:=zY9) (k:=1) (λ_=>iE (cj _)) x.Rows;rw[bN]at hlen;rw[Wo x.Rows _ [] l2 _ (by rw[la];omega) (by simpa using r0) (λy hy=>⟨hnm y hy,hx y hy⟩) (Wa _ _ r1).1 e2 (zZc ah)];rw[zh7,Qr (show isB xe (tk (kwQ xe) p3::(l4++r))=bf by rw[zF];decide)]
 show thn (wo 1099511627776 (l4++r)) _=_
 rw[zwh ab n1 e4];rfl
def zF9{x:List zg}(h0:x≠[])(h:∀p∈x,zy3 p)(hx:x.length<=24){l r:List ar}(hl:l.map t3=zah (.s x))(hr:Stop r):zv4 [] (l++r)=thn (xH yf r) λ_ r=>.ok (x,r):=by
 cases x with
 |nil=>exact aU rfl h0
 |cons p ps =>
  unfold zv4;have hlen:=aQ bg hl;have:=JP (f:=λq=>sgQ kW::zGw q) (k:=1) (λ_=>iE (cj _)) ps;rw[bN]at hlen;have e:(zah (.s (p::ps))).length=(zGw p).length+(ps.flatMap λq=>sgQ kW::zGw q).length:=la;simp only[lc]at hx;rw[zwk ps _ [] l r p (by rw[la];omega) (by simp only[bF];omega) h hl hr.comma];rfl
def zGa{p:yJ}{h:Bool}{d:Decl}(hd:zfx d)(hf:zOm p h d){l r:List ar}{q:Int}(hl:l.map t3=zah d)(hr:Stop r):Qv p h (tk (kwQ (HR d)) q::(l++r))=thn (xH yf r) λ_ r=>.ok (zF6 p h d,r):=by
 unfold Qv
 cases d with
 |d x =>
  show(if isB wZ (tk (kwQ wZ) q::(l++r))=bf then _ else _)=_
  rw[aP (by rw[zF];decide),show tk (kwQ (HR (.d x))) q=tk (kwQ wZ) q from rfl,V9 hf.2]
  show thn (zv5 (p.aF.map Def.aL) (l++r)) _=_
  rw[zLm hd.1 hf.1 hd.2 hl hr,AS];rfl
 |t x =>
  show(if isB wZ (tk (kwQ yy) q::(l++r))=bf then _ else if isB yy (tk (kwQ yy) q::(l++r))=bf then _ else _)=_
  rw[aO (by rw[zF];decide),aP (by rw[zF];decide),show tk (kwQ (HR (.t x))) q=tk (kwQ yy) q from rfl,V9 hf.2]
  show thn (AO (p.Tables.map au.aL) (l++r)) _=_
  rw[zzg hd.1 hf.1 hd.2 hl hr,AS];rfl
 |z x =>
  have key:=zF7 (L:=p.aB.map yD.aL) hd.1 hf.1 hd.2 hl hr
  cases ho:x.Overlay with
  |false =>
   rw[ho]at key;rw[show HR (.z x)=xm by rw[HR,ho];rfl,aO (by rw[zF];decide),aO (by rw[zF];decide),aP (by rw[zF];decide),V9 hf.2]
   show thn (Ve (p.aB.map yD.aL) bd (l++r)) _=_
   rw[key,AS];rfl
  |true =>
   rw[ho]at key;rw[show HR (.z x)=yH by rw[HR,ho];rfl,aO (by rw[zF];decide),aO (by rw[zF];decide),aO (by rw[zF];decide),aP (by rw[zF];decide),V9 hf.2]
   show thn (Ve (p.aB.map yD.aL) bf (l++r)) _=_
   rw[key,AS];rfl
 |r x =>
  rw[show HR (.r x)=qU from rfl,aO (by rw[zF];decide),aO (by rw[zF];decide),aO (by rw[zF];decide),aO (by rw[zF];decide),aP (by rw[zF];decide),V9 hf.2]
  show thn (Yv (p.aE.map zX.aL) (l++r)) _=_
  rw[zF5 hd.1 hf.1 hd.2 hl hr,AS];rfl
 |c x =>
  rw[show HR (.c x)=WQ from rfl,aO (by rw[zF];decide),aO (by rw[zF];decide),aO (by rw[zF];decide),aO (by rw[zF];decide),aO (by rw[zF];decide),aP (by rw[zF];decide),V9 hf.2]
  show thn (zy6 (p.aJ.map Cap.aL) (l++r)) _=_
  rw[zLn hd.1 hf.1 hd.2 hl hr,AS];rfl
 |v x =>
  rw[show HR (.v x)=AD from rfl,aO (by rw[zF];decide),aO (by rw[zF];decide),aO (by rw[zF];decide),aO (by rw[zF];decide),aO (by rw[zF];decide),aO (by rw[zF];decide),aP (by rw[zF];decide),V9 hf.2]
  show thn (Yu (p.aG.map av.aL) (l++r)) _=_
  rw[zF8 hd.1 hf.1 hd.2 hl hr,AS];rfl
 |s x =>
  have h0:p.aK=[]:=hf;rw[show HR (.s x)=Jf from rfl,aO (by rw[zF];decide),aO (by rw[zF];decide),aO (by rw[zF];decide),aO (by rw[zF];decide),aO (by rw[zF];decide),aO (by rw[zF];decide),aO (by rw[zF];decide),aP (by rw[zF];decide),h0]
  show thn (zv4 [] (l++r)) _=_
  rw[zF9 hd.1 hd.2.1 hd.2.2 hl hr,AS];rfl
 |h x =>
  have h0:h=bd:=hf;obtain⟨n0,n1,_⟩:=hd;obtain⟨p1,l1,rfl,e1⟩:=map_cons (show l.map t3=[xV x] from hl);obtain rfl:=map_nil e1;rw[show HR (.h x)=kD from rfl,aO (by rw[zF];decide),aO (by rw[zF];decide),aO (by rw[zF];decide),aO (by rw[zF];decide),aO (by rw[zF];decide),aO (by rw[zF];decide),aO (by rw[zF];decide),aO (by rw[zF];decide),aP (by rw[zF];decide),h0]
  show thn (jQ 0 24 (tk (xV x) p1::r)) _=_
  rw[kZ n0 n1];rfl
def Z9(ds:List Decl):List T3:=ds.flatMap λd=>zs5 d++[sgQ yf]
def zlm:yJ->Bool->List Decl->yJ×Bool
 |p,h,[]=>(p,h)
 |p,h,d::ds=>zlm (zF6 p h d).1 (zF6 p h d).2 ds
def zs7:yJ->Bool->List Decl->Prop
 |_,_,[]=>True
 |p,h,d::ds=>zfx d/\zOm p h d/\zs7 (zF6 p h d).1 (zF6 p h d).2 ds
def zwm:∀(a b:List Decl)(p:yJ)(h:Bool),zlm p h (a++b)=zlm (zlm p h a).1 (zlm p h a).2 b
 |[],_,_,_=>rfl
 |d::a,b,p,h=>zwm a b (zF6 p h d).1 (zF6 p h d).2
def zwn:∀(a b:List Decl)(p:yJ)(h:Bool),zs7 p h (a++b)↔zs7 p h a/\zs7 (zlm p h a).1 (zlm p h a).2 b
 |[],_,_,_=>⟨λh=>⟨trivial,h⟩,λh=>h.2⟩
 |d::a,b,p,h=>by
  have ih:=zwn a b (zF6 p h d).1 (zF6 p h d).2;exact⟨λ⟨h1,h2,h3⟩=>⟨⟨h1,h2,(ih.1 h3).1⟩,(ih.1 h3).2⟩,λ⟨⟨h1,h2,h3⟩,h4⟩=>⟨h1,h2,ih.2 ⟨h3,h4⟩⟩⟩
def zln:∀{ds:List Decl}{p:yJ}{h:Bool},zs7 p h ds->∀d∈ds,zfx d
 |[],_,_,_,_,hd=>by cases hd
 |x::ds,p,h,hs,d,hd=>by
  obtain⟨h1,_,h3⟩:=hs
  rcases bp.1 hd with rfl|hd
  ·exact h1
  ·exact zln h3 d hd
def zLo{d:Decl}(h:zfx d):OKs (zs5 d++[sgQ yf]):=V3 (zwg h) (xd rfl ur)
def zpy:∀{ds:List Decl},(∀d∈ds,zfx d)->OKs (Z9 ds)
 |[],_=>ur
 |d::ds,h=>by
  rw[Z9,cy];exact V3 (zLo (h d al)) (zpy λx hx=>h x (mcQ _ hx))
def zpz:∀(ds:List Decl)(m:Nat)(p:yJ)(h:Bool)(l r:List ar),zs7 p h ds->l.map t3=Z9 ds->TWF r->HO (ds.length+m) p h (l++r)=HO m (zlm p h ds).1 (zlm p h ds).2 r
 |[],m,p,h,l,r,_,hl,_=>by
  obtain rfl:=map_nil hl;rw[bF,Nat.zero_add];rfl
 |d::ds,m,p,h,l,r,⟨h1,h2,h3⟩,hl,hr=>by
  rw[Z9,cy]at hl;obtain⟨l1,l2,rfl,e1,e2⟩:=wN hl;obtain⟨a,l3,rfl,e3⟩:=map_cons (show l1.map t3=kwQ (HR d)::(zah d++[sgQ yf]) from e1);obtain⟨l4,l5,rfl,e4,e5⟩:=wN e3;obtain⟨b,l6,rfl,e6⟩:=map_cons e5;obtain rfl:=map_nil e6
  have ea:tk (kwQ (HR d)) a::(l4++[tk (sgQ yf) b])++l2++r=tk (kwQ (HR d)) a::(l4++(tk (sgQ yf) b::(l2++r))):=af
  have hw:TWF (l2++r):=qz (zpy (zln h3)) e2 hr;rw[ea,show(d::ds).length+m=ds.length+m+1 by rw[lc];omega,HO,aO (show ¬(hdT (tk (kwQ (HR d)) a::(l4++(tk (sgQ yf) b::(l2++r))))).aM=3 by show ¬(0:Int)=3;decide),zGa h1 h2 e4 (zF0 hw),Qr (by rw[zF];decide)];exact zpz ds m (zF6 p h d).1 (zF6 p h d).2 l2 r h3 e2 hr
def decls(p:yJ):Nat->List Decl
 |0=>p.aF.map .d
 |1=>p.Tables.map .t
 |2=>p.aB.map .z
 |3=>p.aE.map .r
 |4=>p.aJ.map .c
 |5=>p.aG.map .v
 |6=>bif p.aK.isEmpty then[]else[.s p.aK]
 |7=>if p.aI=0 then[]else[.h p.aI]
 |_=>[]
def pick{α:Type}(k:Nat)(ks:List Nat)(l:List α):List α:=if k∈ks then l else[]
def zs8(p:yJ)(ks:List Nat):Int:=if 7∈ks then p.aI else 0
def Ar(p:yJ)(ks:List Nat):yJ:=yJ.mk (pick 0 ks p.aF) (pick 1 ks p.Tables) (pick 2 ks p.aB) (pick 3 ks p.aE) (pick 4 ks p.aJ) (pick 5 ks p.aG) (pick 6 ks p.aK) (zs8 p ks)
def zfz(p:yJ)(ks:List Nat):Bool:=decide (7∈ks)&&!(decide (p.aI=0))
def AT{α:Type}{k:Nat}{ks:List Nat}{l:List α}:pick k (k::ks) l=l:=aP al
def zu{α:Type}{k j:Nat}{ks:List Nat}{l:List α}(h:j≠k):pick j (k::ks) l=pick j ks l:=by
 unfold pick;by_cases hm:j∈ks
 ·rw[aP hm,aP (mcQ _ hm)]
 ·rw[aO hm,aO (λhc=>by rcases bp.1 hc with e|e;exact h e;exact hm e)]
def ui{α:Type}{k:Nat}{ks:List Nat}{l:List α}(h:k ∉ ks):pick k ks l=[]:=aO h
def zs9{k j:Nat}{ks:List Nat}(h:j≠k):j∈k::ks↔j∈ks:=⟨λhc=>by rcases bp.1 hc with e|e;exact aU e h;exact e,mcQ _⟩
def AU{p:yJ}{k:Nat}{ks:List Nat}(h:7≠k):zs8 p (k::ks)=zs8 p ks:=by
 unfold zs8;by_cases hm:7∈ks
 ·rw[aP hm,aP ((zs9 h).2 hm)]
 ·rw[aO hm,aO λhc=>hm ((zs9 h).1 hc)]
def Qy{p:yJ}{k:Nat}{ks:List Nat}(h:7≠k):zfz p (k::ks)=zfz p ks:=by
 unfold zfz;rw[decide_eq_decide.2 (zs9 h)]
def oG{α:Type}{l:List α}{g:α->ak}{m:Nat}(h:vW l g m):(l.map g).Nodup:=(Wa _ _ h.2).1
def zZe{h:Bool}:∀(xs acc:List Def)(q:yJ),(∀x∈xs,zD x.aL=bf/\OX 12 x.Body)->((acc++xs).map Def.aL).Nodup->(acc++xs).length<=60->zs7 { q with aF:=acc } h (xs.map .d)/\zlm { q with aF:=acc } h (xs.map .d)=({ q with aF:=acc++xs },h)
 |[],acc,q,_,_,_=>⟨trivial,by rw[bI];rfl⟩
 |x::xs,acc,q,hP,hd,hm=>by
  have hx:x.aL ∉ acc.map Def.aL:=λh=>by
   rw[bO,cu]at hd;exact hd.2.2 _ h _ af rfl
  simp only[la,lc]at hm;obtain⟨i1,i2⟩:=zZe (h:=h) xs (acc++[x]) q (λy hy=>hP y (mcQ _ hy)) (by rw[asc];exact hd) (by simp only[la,lc,bF];omega);rw[asc]at i2;exact⟨⟨hP x al,⟨hx,by show acc.length<60;omega⟩,i1⟩,i2⟩
def zZf{h:Bool}:∀(xs acc:List au)(q:yJ),(∀x∈xs,zD x.aL=bf/\Aj x)->((acc++xs).map au.aL).Nodup->(acc++xs).length<=60->zs7 { q with Tables:=acc } h (xs.map .t)/\zlm { q with Tables:=acc } h (xs.map .t)=({ q with Tables:=acc++xs },h)
 |[],acc,q,_,_,_=>⟨trivial,by rw[bI];rfl⟩
 |x::xs,acc,q,hP,hd,hm=>by
  have hx:x.aL ∉ acc.map au.aL:=λh=>by
   rw[bO,cu]at hd;exact hd.2.2 _ h _ af rfl
  simp only[la,lc]at hm;obtain⟨i1,i2⟩:=zZf (h:=h) xs (acc++[x]) q (λy hy=>hP y (mcQ _ hy)) (by rw[asc];exact hd) (by simp only[la,lc,bF];omega);rw[asc]at i2;exact⟨⟨hP x al,⟨hx,by show acc.length<60;omega⟩,i1⟩,i2⟩
def zZg{h:Bool}:∀(xs acc:List yD)(q:yJ),(∀x∈xs,zD x.aL=bf/\Aw x.aA)->((acc++xs).map yD.aL).Nodup->(acc++xs).length<=60->zs7 { q with aB:=acc } h (xs.map .z)/\zlm { q with aB:=acc } h (xs.map .z)=({ q with aB:=acc++xs },h)
 |[],acc,q,_,_,_=>⟨trivial,by rw[bI];rfl⟩
 |x::xs,acc,q,hP,hd,hm=>by
  have hx:x.aL ∉ acc.map yD.aL:=λh=>by
   rw[bO,cu]at hd;exact hd.2.2 _ h _ af rfl
  simp only[la,lc]at hm;obtain⟨i1,i2⟩:=zZg (h:=h) xs (acc++[x]) q (λy hy=>hP y (mcQ _ hy)) (by rw[asc];exact hd) (by simp only[la,lc,bF];omega);rw[asc]at i2;exact⟨⟨hP x al,⟨hx,by show acc.length<60;omega⟩,i1⟩,i2⟩
def zZh{h:Bool}:∀(xs acc:List zX)(q:yJ),(∀x∈xs,zD x.aL=bf/\VX x)->((acc++xs).map zX.aL).Nodup->(acc++xs).length<=200->zs7 { q with aE:=acc } h (xs.map .r)/\zlm { q with aE:=acc } h (xs.map .r)=({ q with aE:=acc++xs },h)
 |[],acc,q,_,_,_=>⟨trivial,by rw[bI];rfl⟩
 |x::xs,acc,q,hP,hd,hm=>by
  have hx:x.aL ∉ acc.map zX.aL:=λh=>by
   rw[bO,cu]at hd;exact hd.2.2 _ h _ af rfl
  simp only[la,lc]at hm;obtain⟨i1,i2⟩:=zZh (h:=h) xs (acc++[x]) q (λy hy=>hP y (mcQ _ hy)) (by rw[asc];exact hd) (by simp only[la,lc,bF];omega);rw[asc]at i2;exact⟨⟨hP x al,⟨hx,by show acc.length<200;omega⟩,i1⟩,i2⟩
def zZi{h:Bool}:∀(xs acc:List Cap)(q:yJ),(∀x∈xs,zD x.aL=bf/\zGv x)->((acc++xs).map Cap.aL).Nodup->(acc++xs).length<=30->zs7 { q with aJ:=acc } h (xs.map .c)/\zlm { q with aJ:=acc } h (xs.map .c)=({ q with aJ:=acc++xs },h)
 |[],acc,q,_,_,_=>⟨trivial,by rw[bI];rfl⟩
 |x::xs,acc,q,hP,hd,hm=>by
  have hx:x.aL ∉ acc.map Cap.aL:=λh=>by
   rw[bO,cu]at hd;exact hd.2.2 _ h _ af rfl
  simp only[la,lc]at hm;obtain⟨i1,i2⟩:=zZi (h:=h) xs (acc++[x]) q (λy hy=>hP y (mcQ _ hy)) (by rw[asc];exact hd) (by simp only[la,lc,bF];omega);rw[asc]at i2;exact⟨⟨hP x al,⟨hx,by show acc.length<30;omega⟩,i1⟩,i2⟩
def zZj{h:Bool}:∀(xs acc:List av)(q:yJ),(∀x∈xs,zD x.aL=bf/\Ym x)->((acc++xs).map av.aL).Nodup->(acc++xs).length<=60->zs7 { q with aG:=acc } h (xs.map .v)/\zlm { q with aG:=acc } h (xs.map .v)=({ q with aG:=acc++xs },h)
 |[],acc,q,_,_,_=>⟨trivial,by rw[bI];rfl⟩
 |x::xs,acc,q,hP,hd,hm=>by
  have hx:x.aL ∉ acc.map av.aL:=λh=>by
   rw[bO,cu]at hd;exact hd.2.2 _ h _ af rfl
  simp only[la,lc]at hm;obtain⟨i1,i2⟩:=zZj (h:=h) xs (acc++[x]) q (λy hy=>hP y (mcQ _ hy)) (by rw[asc];exact hd) (by simp only[la,lc,bF];omega);rw[asc]at i2;exact⟨⟨hP x al,⟨hx,by show acc.length<60;omega⟩,i1⟩,i2⟩
def zLp{p:yJ}(hp:uH p){ks:List Nat}:∀k,k<8->k ∉ ks->zs7 (Ar p ks) (zfz p ks) (decls p k)/\zlm (Ar p ks) (zfz p ks) (decls p k)=(Ar p (k::ks),zfz p (k::ks)):=by
 have nm:=zle hp;obtain⟨⟨h1,h2,h3,h4,h5,h6⟩,⟨b1,b2,b3,b4,b5,b6,b7⟩,hh,hs⟩:=hp;intro k hk hn
 obtain rfl|rfl|rfl|rfl|rfl|rfl|rfl|rfl:k=0∨k=1∨k=2∨k=3∨k=4∨k=5∨k=6∨k=7:=ab
 ·obtain⟨s1,s2⟩:=zZe (h:=zfz p ks) p.aF [] (Ar p ks) (λx hx=>⟨nm.d x hx,zEe 12 _ (b1 x hx)⟩) (by rw[bM];exact oG h1) (by rw[bM];exact h1.1)
  have e:({ Ar p ks with aF:=[] }:yJ)=Ar p ks:=by unfold Ar;rw[ui (k:=0) hn]
  rw[e]at s1 s2;rw[bM]at s2;refine⟨s1,s2.trans ?_⟩;unfold Ar;rw[AT,zu (j:=1) ae,zu (j:=2) ae,zu (j:=3) ae,zu (j:=4) ae,zu (j:=5) ae,zu (j:=6) ae,AU ae,Qy ae]
 ·obtain⟨s1,s2⟩:=zZf (h:=zfz p ks) p.Tables [] (Ar p ks) (λx hx=>⟨nm.t x hx,b2 x hx⟩) (by rw[bM];exact oG h2) (by rw[bM];exact h2.1)
  have e:({ Ar p ks with Tables:=[] }:yJ)=Ar p ks:=by unfold Ar;rw[ui (k:=1) hn]
  rw[e]at s1 s2;rw[bM]at s2;refine⟨s1,s2.trans ?_⟩;unfold Ar;rw[AT,zu (j:=0) ae,zu (j:=2) ae,zu (j:=3) ae,zu (j:=4) ae,zu (j:=5) ae,zu (j:=6) ae,AU ae,Qy ae]
 ·obtain⟨s1,s2⟩:=zZg (h:=zfz p ks) p.aB [] (Ar p ks) (λx hx=>⟨nm.z x hx,b3 x hx⟩) (by rw[bM];exact oG h3) (by rw[bM];exact h3.1)
  have e:({ Ar p ks with aB:=[] }:yJ)=Ar p ks:=by unfold Ar;rw[ui (k:=2) hn]
  rw[e]at s1 s2;rw[bM]at s2;refine⟨s1,s2.trans ?_⟩;unfold Ar;rw[AT,zu (j:=0) ae,zu (j:=1) ae,zu (j:=3) ae,zu (j:=4) ae,zu (j:=5) ae,zu (j:=6) ae,AU ae,Qy ae]
 ·obtain⟨s1,s2⟩:=zZh (h:=zfz p ks) p.aE [] (Ar p ks) (λx hx=>⟨nm.r x hx,b4 x hx⟩) (by rw[bM];exact oG h4) (by rw[bM];exact h4.1)
  have e:({ Ar p ks with aE:=[] }:yJ)=Ar p ks:=by unfold Ar;rw[ui (k:=3) hn]
  rw[e]at s1 s2;rw[bM]at s2;refine⟨s1,s2.trans ?_⟩;unfold Ar;rw[AT,zu (j:=0) ae,zu (j:=1) ae,zu (j:=2) ae,zu (j:=4) ae,zu (j:=5) ae,zu (j:=6) ae,AU ae,Qy ae]
 ·obtain⟨s1,s2⟩:=zZi (h:=zfz p ks) p.aJ [] (Ar p ks) (λx hx=>⟨nm.c x hx,b5 x hx⟩) (by rw[bM];exact oG h5) (by rw[bM];exact h5.1)
  have e:({ Ar p ks with aJ:=[] }:yJ)=Ar p ks:=by unfold Ar;rw[ui (k:=4) hn]
  rw[e]at s1 s2;rw[bM]at s2;refine⟨s1,s2.trans ?_⟩;unfold Ar;rw[AT,zu (j:=0) ae,zu (j:=1) ae,zu (j:=2) ae,zu (j:=3) ae,zu (j:=5) ae,zu (j:=6) ae,AU ae,Qy ae]
 ·obtain⟨s1,s2⟩:=zZj (h:=zfz p ks) p.aG [] (Ar p ks) (λx hx=>⟨nm.v x hx,b6 x hx⟩) (by rw[bM];exact oG h6) (by rw[bM];exact h6.1)
  have e:({ Ar p ks with aG:=[] }:yJ)=Ar p ks:=by unfold Ar;rw[ui (k:=5) hn]
  rw[e]at s1 s2;rw[bM]at s2;refine⟨s1,s2.trans ?_⟩;unfold Ar;rw[AT,zu (j:=0) ae,zu (j:=1) ae,zu (j:=2) ae,zu (j:=3) ae,zu (j:=4) ae,zu (j:=6) ae,AU ae,Qy ae]
 ·have e:(Ar p ks).aK=[]:=ui hn
  cases hx:p.aK with
  |nil =>
   refine⟨by simp only[decls,hx,eW,ctQ];trivial,?_⟩;simp only[decls,hx,eW,ctQ,zlm];unfold Ar;rw[zu (j:=0) ae,zu (j:=1) ae,zu (j:=2) ae,zu (j:=3) ae,zu (j:=4) ae,zu (j:=5) ae,AU ae,Qy ae,hx,AT,ui hn]
  |cons q r =>
   simp only[decls,hx,fS,cf];refine⟨⟨⟨af,by rw[<- hx];exact b7,by rw[<- hx];exact hs⟩,e,trivial⟩,?_⟩
   show({ Ar p ks with aK:=q::r },zfz p ks)=_
   unfold Ar;rw[zu (j:=0) ae,zu (j:=1) ae,zu (j:=2) ae,zu (j:=3) ae,zu (j:=4) ae,zu (j:=5) ae,AU ae,Qy ae,hx,AT]
 ·by_cases hx:p.aI=0
  ·simp only[decls,hx,if_true]
   refine⟨trivial,?_⟩
   show(Ar p ks,zfz p ks)=_
   unfold Ar zfz zs8;rw[zu (k:=7) (j:=0) ae,zu (k:=7) (j:=1) ae,zu (k:=7) (j:=2) ae,zu (k:=7) (j:=3) ae,zu (k:=7) (j:=4) ae,zu (k:=7) (j:=5) ae,zu (k:=7) (j:=6) ae,hx,ite_self,ite_self,dt rfl,bW,eB,eB]
  ·simp only[decls,hx,if_false]
   have e:zfz p ks=bd:=by unfold zfz;rw[df hn];rfl
   refine⟨⟨⟨hh.1,hh.2,hx⟩,e,trivial⟩,?_⟩
   show({ Ar p ks with aI:=p.aI },bf)=_
   unfold Ar zfz zs8;rw[zu (k:=7) (j:=0) ae,zu (k:=7) (j:=1) ae,zu (k:=7) (j:=2) ae,zu (k:=7) (j:=3) ae,zu (k:=7) (j:=4) ae,zu (k:=7) (j:=5) ae,zu (k:=7) (j:=6) ae,dt al,df hx,aP al];rfl
def zp0{p:yJ}(hp:uH p):∀(js ks:List Nat),(∀j∈js,j<8/\j ∉ ks)->js.Nodup->zs7 (Ar p ks) (zfz p ks) (js.flatMap (decls p))/\zlm (Ar p ks) (zfz p ks) (js.flatMap (decls p))=(Ar p (js.reverse++ks),zfz p (js.reverse++ks))
 |[],ks,_,_=>⟨trivial,rfl⟩
 |j::js,ks,h,hd=>by
  obtain⟨d1,d2⟩:=cG.1 hd;obtain⟨a1,a2⟩:=h j al;obtain⟨s1,s2⟩:=zLp hp (ks:=ks) j a1 a2
  obtain⟨t1,t2⟩:=zp0 hp js (j::ks) (λi hi=>⟨(h i (mcQ _ hi)).1,λhm=>by
   rcases bp.1 hm with rfl|hm
   ·exact d1 hi
   ·exact(h i (mcQ _ hi)).2 hm⟩) d2
  rw[cy,zwn,zwm,s2];refine⟨⟨s1,t1⟩,t2.trans ?_⟩;rw[List.reverse_cons,asc];rfl
def zTd{p:yJ}{ks:List Nat}(h:∀k<8,k∈ks):Ar p ks=p:=by
 unfold Ar pick zs8;rw[aP (h 0 ab),aP (h 1 ab),aP (h 2 ab),aP (h 3 ab),aP (h 4 ab),aP (h 5 ab),aP (h 6 ab),aP (h 7 ab)]
def LC(s:ak)(ts:List T3):Prop:=∀p r,∃l,l.map t3=ts/\zGu p (s++r)=zNm l (zGu (p+s.length) r)
def zZk:LC [] []:=λp r=>⟨[],rfl,by rw[zvk];rfl⟩
def lc_of{s:ak}{c:UInt8}{ts:List T3}(hc:ym c=bf)(h:LX s ts):LC (s++[c]) ts:=λp r=>by
 obtain⟨l,h1,h2⟩:=h p (c::r) (zkr hc);refine⟨l,h1,?_⟩;rw[asc,show[c]++r=c::r from rfl,h2,zhx hc,la,ee];rfl
def zZl{a b:ak}{ts us:List T3}(ha:LC a ts)(hb:LC b us):LC (a++b) (ts++us):=λp r=>by
 obtain⟨l,h1,h2⟩:=ha p (b++r);obtain⟨m,h3,h4⟩:=hb (p+a.length) r;refine⟨l++m,by rw[bO,h1,h3],?_⟩;rw[asc,h2,h4,zvj,la,ee]
def lc_lx{s:ak}{ts:List T3}(h:LC s ts):LX s ts:=λp r _=>h p r
def zlo(d:Decl):ak:=ye (zFv d)
def zTe{d:Decl}(h:zfx d):LC (zlo d) (zs5 d++[sgQ yf]):=by
 unfold zlo;rw[zTa h,show([32,59,10]:ak)=[32,59]++[10] from rfl,<- asc];exact lc_of rfl (zDu (zX5 (zwg h)) (zvl (c:=32) rfl (zDt (t:=sgQ yf) rfl)) (zkr rfl))
def zwo:∀{ds:List Decl},(∀d∈ds,zfx d)->LC (ds.flatMap zlo) (Z9 ds)
 |[],_=>zZk
 |d::ds,h=>by
  rw[cy,Z9,cy];exact zZl (zTe (h d al)) (zwo λx hx=>h x (mcQ _ hx))
def KS:List Nat:=[0,1,2,3,4,5,6,7]
def zta(p:yJ):HP p=(KS.flatMap (decls p)).flatMap zlo:=by
 unfold HP KS;simp only[cy,dK,bI,ft,decls,eX];refine aQ _ (aQ _ (aQ _ (aQ _ (aQ _ (aQ _ ?_)))))
 have e1:((bif p.aK.isEmpty then[]else[Decl.s p.aK]):List Decl).flatMap zlo=bif p.aK.isEmpty then[]else ye (zFj p.aK):=by
  cases p.aK.isEmpty
  ·simp[zlo,zFv]
  ·rfl
 have e2:((if p.aI=0 then[]else[Decl.h p.aI]):List Decl).flatMap zlo=if p.aI=0 then[]else ye (Vt p.aI):=by
  split
  ·rfl
  ·simp[zlo,zFv]
 rw[e1,e2]
def zGb(ds:List Decl):ds.length<=(Z9 ds).length:=by
 have:=JP (f:=λd=>zs5 d++[sgQ yf]) (k:=1) (λd=>by simp[zs5]) ds;unfold Z9;omega
def zTf(k:Nat)(h):(@Jx ⟨k+500,h⟩)=bc bf:=by kernel_rfl
def zLq[i:Fuel]:Jx=bc bf:=by
 obtain⟨n,h⟩:=i
 obtain⟨k,rfl⟩:∃k,n=k+500:=⟨n-500,ab⟩
 exact zTf k h
def zbn:∀(n p:Nat)(s:ak)(q:Nat)(e:Int),Ze n p s=.error (q,e)->e≠0
 |0,_,_,_,_,h=>by cases h
 |n+1,p,s,q,e,h=>by
  rw[Ze]at h;split at h
  ·cases h
  ·split at h
   ·rename_i c r hd e' ht
    cases h;exact zvi ht
   ·split at h
    ·rename_i hl
     cases h;exact zbn n _ _ _ _ hl
    ·cases h
def A7:yJ:=yJ.mk [] [] [] [] [] [] [] 0
noncomputable def Qz(s:ak):Except EE yJ:=match zJz s with
 |.error (p,e)=>.error ((p:Int),e)
 |.ok l=>match HO (l.length+1) A7 bd l with
  |.ok (v,_)=>.ok v.1
  |.error e=>.error e
def zLr:Except EE yJ->Int×Int×List zg×Int×List Def×List au×List yD×List zX×List Cap×List av
 |.ok p=>(0,0,p.aK,p.aI,p.aF,p.Tables,p.aB,p.aE,p.aJ,p.aG)
 |.error e=>(e.1,e.2,[],0,[],[],[],[],[],[])
def max0:MaxP A7:=by unfold MaxP A7;simp
def fit0:zT3 A7:=by unfold zT3 A7;simp
def zGc{s:ak}{p:yJ}(h:s.length<=8000)(hp:Qz s=.ok p):zT3 p:=by
 unfold Qz at hp;split at hp
 ·cases hp
 ·rename_i l hl
  obtain⟨hs,h0⟩:=zec h hl;split at hp
  ·rename_i v r hv
   cases hp;exact(zv7 _ _ _ _ ⟨hs.wf,hs.len⟩ ⟨max0,fit0⟩ _ _ hv).2
  ·cases hp
def NZ{α:Type}(x:Except EE α):Prop:=∀e,x=.error e->e.2≠0
section
variable{α β:Type}{r:List ar}
def NZ.thn{x:Except EE (α×List ar)}{g:α->List ar->Except EE β}(h:NZ x)(hg:∀a r,x=.ok (a,r)->NZ (g a r)):NZ (thn x g):=by
 match x,h,hg with
 |.error e,h,_=>exact λe' he=>h e' (aQ Except.error (Except.error.inj he))
 |.ok (a,r),_,hg=>exact hg a r rfl
def xJ{a:α}:NZ (.ok a:Except EE α):=λe h=>by cases h
def zOn{p k:Int}(h:k≠0):NZ (.error (p,k):Except EE α):=λe he=>by cases he;exact h
def zzh{k:Int}(h:k≠0):NZ (.error (zfu r k):Except EE α):=zOn h
def zez:NZ (oof:Except EE α):=zOn ae
def NZ.ite{c:Prop}[Decidable c]{x y:Except EE α}(h1:c->NZ x)(h2:¬c->NZ y):NZ (if c then x else y):=by
 split
 ·rename_i h;exact h1 h
 ·rename_i h;exact h2 h
def kp{lo hi:Int}:NZ (jQ lo hi r):=.ite (λ_=>.ite (λ_=>xJ) λ_=>zzh ae) λ_=>zzh ae
def Zt:NZ (kX r):=.ite (λ_=>xJ) λ_=>zzh ae
def vZ{w:ak}:NZ (xH w r):=.ite (λ_=>xJ) λ_=>zzh ae
def YF{b:Bool}{k:Int}(h:k≠0):NZ (HI b k r):=.ite (λ_=>xJ) λ_=>zzh h
def JQ{L:List ak}:NZ (xX L r):=.ite (λ_=>.ite (λ_=>zzh ae) λ_=>xJ) λ_=>zzh ae
def YG{m:Int}:NZ (wo m r):=.ite (λ_=>kp.thn λ_ _ _=>xJ) λ_=>kp
def ze0{w:List ak}:NZ (vm w r):=.ite (λ_=>by
 split
 ·exact xJ
 ·exact zzh ae) λ_=>zzh ae
def zlp:NZ (uh r):=kp.thn λ_ _ _=>kp.thn λ_ _ _=>kp.thn λ_ _ _=>xJ
def zwp{c:Bool}{k:Int}(h:k≠0):NZ (zh3 c k r):=(YF ae).thn λ_ _ _=>(YF h).thn λ_ _ _=>xJ
end
def ze1:∀(n:Nat)(acc:List zU)(r:List ar),NZ (vA n acc r)
 |0,_,_=>zez
 |n+1,acc,r=>kp.thn λ_ _ _=>kp.thn λ_ _ _=>.ite (λ_=>ze1 n _ _) λ_=>xJ
def zGd:∀(n:Nat)(acc:List ak)(r:List ar),NZ (Kt n acc r)
 |0,_,_=>zez
 |n+1,acc,r=>.ite (λ_=>Zt.thn λ_ _ _=>zGd n _ _) λ_=>xJ
def zGe{r:List ar}:NZ (A6 r):=Zt.thn λ_ _ _=>zGd _ _ _
def zGf:∀(n:Nat)(acc:List aw)(r:List ar),NZ (Ku n acc r)
 |0,_,_=>zez
 |n+1,acc,r=>.ite (λ_=>(YF ae).thn λ_ _ _=>JQ.thn λ_ _ _=>YG.thn λ_ _ _=>zGf n _ _) λ_=>xJ
def zOo:∀(n:Nat)(acc:List zg)(r:List ar),NZ (zpk n acc r)
 |0,_,_=>zez
 |n+1,acc,r=>.ite (λ_=>(YF ae).thn λ_ _ _=>zlp.thn λ_ _ _=>zOo n _ _) λ_=>xJ
def zOp:∀(n s:Nat)(r:List ar),NZ (zfw n s r)
 |0,_,_=>zez
 |n+1,s,r=>by
  rw[zfw];split
  ·exact .ite (λ_=>xJ) λ_=>zzh ae
  ·exact .ite (λ_=>xJ) λ_=>.ite (λ_=>zzh ae) λ_=>.ite (λ_=>zOp n _ _) λ_=>zzh ae
def zOq:∀(n:Nat)(acc:List zg)(r:List ar),NZ (zlx n acc r)
 |0,_,_=>zez
 |n+1,acc,r=>(YF ae).thn λ_ _ _=>(YF ae).thn λ_ _ _=>YG.thn λ_ _ _=>YG.thn λ_ _ _=>kp.thn λ_ _ _=>.ite (λ_=>zOq n _ _) λ_=>xJ
def zLs:∀(n:Nat),(∀(lv:Nat)(r:List ar),lv<=8->r.length<n->TWF r->NZ (DE lv r))/\(∀(lv:Nat)(e:Expr)(r:List ar),lv<8->r.length<n->TWF r->NZ (LP lv e r)):=by
 intro n
 induction n with
 |zero=>exact⟨λ_ _ _ h=>ab,λ_ _ _ _ h=>ab⟩
 |succ n ih =>
  have hLP:∀(lv:Nat)(e:Expr)(r:List ar),lv<8->r.length<n+1->TWF r->NZ (LP lv e r):=by
   intro lv e r hlv hn hr;rw[zo2 hr];split
   ·exact xJ
   ·rename_i op hop
    obtain⟨o,ho,_⟩:=uf hop;have ht:=zB hr (vI ho).1;have g:=ht.lt
    refine(ih.1 (lv+1) _ ab ab ht.wf).thn λa r1 h1=>?_
    have ha:=yW ht.wf h1;have g1:=ha.lt
    exact .ite (λ_=>xJ) λ_=>ih.2 lv _ _ hlv ab ha.wf
  refine⟨λlv=>?_,hLP⟩
  have key:∀(k lv:Nat),8-lv=k->lv<=8->∀(r:List ar),r.length<n+1->TWF r->NZ (DE lv r):=by
   intro k
   induction k with
   |zero =>
    intro lv hk hl r hn hr
    obtain rfl:lv=8:=ab
    rw[zyt hr]
    refine .ite (λ_=>kp.thn λ_ _ _=>xJ) λ_=>.ite (λ_=>Zt.thn λ_ _ _=>Zt.thn λ_ _ _=>xJ) λ_=>.ite (λ_=>Zt.thn λ_ _ _=>xJ) λ_=>.ite (λhb=>?_) λ_=>Zt.thn λ_ _ _=>xJ
    have ht:=zB hr (zo hb);have g:=ht.lt
    exact(ih.1 0 _ ab ab ht.wf).thn λ_ _ _=>vZ.thn λ_ _ _=>xJ
   |succ k ihk =>
    intro lv hk hl r hn hr;rw[Zg ab hr]
    refine .ite (λhb=>?_) λ_=>.ite (λhb=>?_) λ_=>.ite (λhb=>?_) λ_=>?_
    ·have ht:=zB hr (zo hb.2)
     have g:=ht.lt
     refine(ih.1 0 _ ab ab ht.wf).thn λa r1 h1=>vZ.thn λu r3 h3=>?_
     have w1:=yW ht.wf h1;have w3:=yr w1.wf h3;have:=w1.lt;have:=w3.lt
     refine(ih.1 0 _ ab ab w3.wf).thn λb r4 h4=>vZ.thn λu r5 h5=>?_
     have w4:=yW w3.wf h4;have w5:=yr w4.wf h5;have:=w4.lt;have:=w5.lt
     exact(ih.1 0 _ ab ab w5.wf).thn λ_ _ _=>xJ
    ·have ht:=zB hr (zo hb.2)
     have g:=ht.lt
     exact(ih.1 3 _ ab ab ht.wf).thn λ_ _ _=>xJ
    ·have ht:=zB hr (zo hb.2)
     have g:=ht.lt
     exact(ih.1 7 _ ab ab ht.wf).thn λ_ _ _=>xJ
    ·refine(ihk (lv+1) ab ab r hn hr).thn λa r1 h1=>?_
     have w1:=yW hr h1;have:=w1.lt;exact ih.2 lv a r1 ab ab w1.wf
  exact λr hl=>key _ lv rfl hl r
def zZm{lv:Nat}{r:List ar}(hl:lv<=8)(hr:TWF r):NZ (DE lv r):=(zLs (r.length+1)).1 lv r hl (ck _) hr
section
variable{r:List ar}{L:List ak}
def zZn(hr:TWF r):NZ (zv5 L r):=JQ.thn λ_ r1 h1=>vZ.thn λ_ r2 h2=>(zZm ab (yr (qB hr h1).wf h2).wf).thn λ_ _ _=>(zwp ae).thn λ_ _ _=>xJ
def zLt:NZ (AO L r):=JQ.thn λ_ _ _=>(zGf _ _ _).thn λ_ _ _=>vZ.thn λ_ _ _=>YG.thn λ_ _ _=>vZ.thn λ_ _ _=>xJ
def zTg:NZ (Yu L r):=JQ.thn λ_ _ _=>zlp.thn λ_ _ _=>vZ.thn λ_ _ _=>kp.thn λ_ _ _=>vZ.thn λ_ _ _=>zlp.thn λ_ _ _=>(zOo _ _ _).thn λ_ _ _=>vZ.thn λ_ _ _=>xJ
def zGg{o:Bool}:NZ (Ve L o r):=JQ.thn λ_ _ _=>(ze1 _ _ _).thn λ_ _ _=>(zwp ae).thn λ_ _ _=>xJ
def zZo:NZ (zy6 L r):=JQ.thn λ_ _ _=>ze0.thn λ_ _ _=>kp.thn λ_ _ _=>(ze1 _ _ _).thn λ_ _ _=>(zwp ae).thn λ_ _ _=>xJ
def zTh{acc:List zg}:NZ (zv4 acc r):=(zOq _ _ _).thn λ_ _ _=>vZ.thn λ_ _ _=>xJ
def zp1{α:Type}{t:ak}{d:α}{f:List ar->Except EE (α×List ar)}(hf:∀r,NZ (f r)):NZ (Wd t d f r):=.ite (λ_=>hf _) λ_=>xJ
def zTi(hr:TWF r):NZ (JI r):=.ite (λ_=>kp.thn λ_ _ _=>vZ.thn λ_ _ _=>kp.thn λ_ _ _=>vZ.thn λ_ _ _=>kp.thn λ_ _ _=>kp.thn λ_ _ _=>vZ.thn λ_ _ _=>xJ)
 λ_=>.ite (λ_=>(zOp _ _ _).thn λ_ _ _=>vZ.thn λ_ _ _=>xJ) λ_=>.ite (λ_=>ze0.thn λ_ _ _=>ze0.thn λ_ _ _=>kp.thn λ_ _ _=>vZ.thn λ_ _ _=>xJ)
 λ_=>(zZm ab hr).thn λ_ _ _=>(zwp ae).thn λ_ _ _=>xJ
def zTj(hr:TWF r):NZ (Yv L r):=JQ.thn λ_ r1 h1=>(zp1 λ_=>zGe).thn λ_ r2 h2=>(zp1 λ_=>zGe).thn λ_ r3 h3=>(zp1 λ_=>kp).thn λ_ r4 h4=>(zp1 λ_=>kp).thn λ_ r5 h5=>(zp1 λ_=>kp).thn λ_ r6 h6=>vZ.thn λ_ r7 h7=>by
 have w1:=(qB hr h1).wf;have w2:=(km w1 (λ_ h=>Qt h) _ _ h2).wf;have w3:=(km w2 (λ_ h=>Qt h) _ _ h3).wf;have w4:=(km w3 (λ_ h=>wv h) _ _ h4).wf;have w5:=(km w4 (λ_ h=>wv h) _ _ h5).wf;have w6:=(km w5 (λ_ h=>wv h) _ _ h6).wf
 exact(zTi (yr (Q8 w6).wf h7).wf).thn λ_ _ _=>xJ
def Wb{n m:Nat}:NZ (Qu n m r):=(YF ae).thn λ_ _ _=>xJ
def zTk{p:yJ}{h:Bool}(hr:TWF r)(hk:(hdT r).aM≠3):NZ (Qv p h r):=by
 have tl:=(zB hr hk).wf
 have ok:∀{n m:Nat}{u:Unit}{r2:List ar},Qu n m r=.ok (u,r2)->TWF r2:=λ{n m u r2} h=>by rw[(yQ h).1];exact tl
 unfold Qv
 exact .ite (λ_=>Wb.thn λ_ _ h1=>(zZn (ok h1)).thn λ_ _ _=>xJ) λ_=>.ite (λ_=>Wb.thn λ_ _ _=>zLt.thn λ_ _ _=>xJ) λ_=>.ite (λ_=>Wb.thn λ_ _ _=>zGg.thn λ_ _ _=>xJ) λ_ =>
  .ite (λ_=>Wb.thn λ_ _ _=>zGg.thn λ_ _ _=>xJ) λ_=>.ite (λ_=>Wb.thn λ_ _ h1=>(zTj (ok h1)).thn λ_ _ _=>xJ) λ_=>.ite (λ_=>Wb.thn λ_ _ _=>zZo.thn λ_ _ _=>xJ) λ_ =>
  .ite (λ_=>Wb.thn λ_ _ _=>zTg.thn λ_ _ _=>xJ) λ_=>.ite (λ_=>(YF ae).thn λ_ _ _=>zTh.thn λ_ _ _=>xJ) λ_=>.ite (λ_=>(YF ae).thn λ_ _ _=>kp.thn λ_ _ _=>vZ.thn λ_ _ _=>xJ) λ_=>zzh ae
end
def zGh:∀(n:Nat)(p:yJ)(h:Bool)(r:List ar),TWF r->NZ (HO n p h r)
 |0,_,_,_,_=>zez
 |n+1,p,h,r,hr=>.ite (λ_=>xJ) λhk=>(zTk hr hk).thn λx r1 h1=>zGh n _ _ _ (zsy hr hk _ _ h1).wf
def zwq{s:ak}(hs:s.length<=8000){e:EE}(h:Qz s=.error e):e.2≠0:=by
 unfold Qz at h;split at h
 ·rename_i p k hl
  cases h;exact zbn _ _ _ _ _ hl
 ·rename_i l hl
  split at h
  ·cases h
  ·rename_i e' he
   cases h;exact zGh _ _ _ _ (zec hs hl).1.wf _ he
def ztb{s:ak}(h:s.length<=8000):um s=bc (zLr (Qz s)):=by
 have hne:∀e,Qz s=.error e->e.2≠0:=λe he=>zwq h he
 unfold Qz at hne;unfold um Qz;rw[zRf h,bsQ]
 cases hx:zJz s with
 |error y =>
  obtain⟨p,e⟩:=y;have he:=zbn _ _ _ _ _ hx;rw[show zT2 (.error (p,e))=([],(p:Int),e) from rfl];dsimp only;rw[df he];rfl
 |ok l =>
  rw[hx]at hne;dsimp only at hne;obtain⟨hs,hp⟩:=zec h hx;rw[show zT2 (.ok l)=(l,0,0) from rfl];dsimp only;rw[show decide ((0:Int)=0)=bf from rfl,bW,cf];have hL:=zYm (b:=BB.mk l 0 [] [] [] [] [] [] [] 0 [] [] [] [] [] [] bd) (l.length+1) l A7 bd [] [] [] [] [] [] KK hs (ck _) (zy5 hs) (.inl ⟨rfl,rfl⟩) (.inl ⟨rfl,rfl⟩) (.inl ⟨rfl,rfl⟩) (.inl ⟨rfl,rfl⟩) (.inl ⟨rfl,rfl⟩) (.inl ⟨rfl,rfl⟩)
  have hq:qT l A7 bd l [] [] [] [] [] []=(0,0,bd,[],[],[],[],[],[],[],[],[],[],[],[],[]):=by unfold qT;rw[hp];rfl
  rw[show(BB.mk l 0 [] [] [] [] [] [] [] 0 [] [] [] [] [] [] bd).l=l from rfl,hq]at hL;unfold K8 Ju zjw zjz
  cases hy:HO (l.length+1) A7 bd l with
  |ok v =>
   obtain⟨⟨v,hh⟩,r⟩:=v;rw[hy]at hL;obtain⟨⟨y,h1,h2,q1,q2,q3,q4,q5,q6,q7,q8,q9,q10⟩,_⟩:=hL;dsimp only;rw[h1];obtain⟨y1,y2,y3,y4,y5,y6,y7,y8,y9,y10,y11⟩:=y;dsimp only at q1 q2 q3 q4 q5 q6 q7 q8 q9 q10;subst q2 q4 q5 q6 q7 q8 q9 q10;rfl
  |error e =>
   rw[hy]at hL hne;have he:=hne e rfl;obtain⟨h1,h2⟩:=hL;dsimp only;rw[h1,h2]
   show(bif (!(decide (e.2=0)))then _ else bh)=_
   rw[df he];rfl
section code
variable{c1:Int}{c8:Int}{s:ak}
def P_L1{c0:List Def}{c2:List au}{c3:List yD}{c4:List zX}{c5:List Cap}{c6:List av}{c7:List zg}(hl:c0.length<=300)(hs:We s)(hn:∀x∈c0,zD x.aL=bf)(h:∀x∈c0,okE 12 x.Body=bf)(hq:∀x∈c0,kY x.Body<=5000)(hb:(s++c0.flatMap λx=>ye (zzr x)).length<=140737488355328):
  jh c0 (bg c0:Nat) c2 c3 c4 c5 c6 c7 c8 KK (0,s)=bc (s++c0.flatMap λx=>ye (zzr x))/\We (s++c0.flatMap λx=>ye (zzr x)):=by
 refine vY c0 (λx=>ye (zzr x)) (λK q s=>jh c0 (bg c0:Nat) c2 c3 c4 c5 c6 c7 c8 K (q,s)) 140737488355328 We ab hs hb (λK i x s hx hI hM=>?_) (λK s=>?_)
 ·have hi:=Ah hx
  have hA:=zY3 (hn x (bP hx)) (h x (bP hx)) (hq x (bP hx))
  have e:ye (zzr x)=Vc (.inr wZ)++(spT [.inr x.aL,.inr Av]++(spT [.inr (zO 12 x.Body)]++[32,59,10])):=by
   show ye (.inr wZ::([.inr x.aL,.inr Av]++[.inr (zO 12 x.Body)]))=_
   rw[jK,JL,asc]
  simp only[e]at hM ⊢;have hM0:=hM;simp only[la]at hM0;obtain⟨p1,g1⟩:=AQ (x:=.inr wZ) (l:=[.inr x.aL,.inr Av]) hI (λy hy=>(hA y (by simp only[zzr,bp,dS,or_false]at hy ⊢;rcases hy with h|h|h<;>simp[h])).1) af (by simp only[la];omega);obtain⟨p2,g2⟩:=zpr g1 (h x (bP hx)) (by simp only[la];omega)
  show jh _ _ _ _ _ _ _ _ _ (K+1) ((i:Int),s)=_/\_
  rw[jh];simp only[A5 hx,ctQ,yx hx,bsQ,xv];rw[p1,bsQ,p2,bsQ,xE ab];simp only[asc]at g2 ⊢;exact⟨trivial,g2⟩
 ·show jh _ _ _ _ _ _ _ _ _ (K+1) (_,s)=_
  rw[jh];simp only[jI,cf]
def P_L3{c0:List au}{c2:Int}{c3:List aw}{c5:List Def}{c6:List yD}{c7:List zX}{c8:List Cap}{c9:List av}{c10:List zg}{c11:Int}{c12:ak}{c13:Int}(hl:c3.length<=64)(hs:Good s)(h:∀x∈c3,YI (zs1 x))(hb:(s++spT (c3.flatMap zs1)).length<=140737488355328):
  ji c0 c1 c2 c3 (bg c3:Nat) c5 c6 c7 c8 c9 c10 c11 c12 c13 KK (0,s)=bc (s++spT (c3.flatMap zs1))/\Good (s++spT (c3.flatMap zs1)):=by
 rw[YC]at hb ⊢;refine vY c3 (λx=>spT (zs1 x)) (λK q s=>ji c0 c1 c2 c3 (bg c3:Nat) c5 c6 c7 c8 c9 c10 c11 c12 c13 K (q,s)) 140737488355328 Good ab hs hb (λK i x s hx hI hM=>?_) (λK s=>?_)
 ·have hi:=Ah hx
  obtain⟨p1,g1⟩:=vn (l:=zs1 x) hI (h x (bP hx)).g (by simp[zs1]) hM;refine⟨?_,g1⟩
  show ji _ _ _ _ _ _ _ _ _ _ _ _ _ _ (K+1) ((i:Int),s)=_
  rw[ji];simp only[A5 hx,ctQ,yx hx,bsQ];rw[show([(br x.aL),(bo x.N)]:List (Int⊕ak))=zs1 x from rfl,p1,bsQ,xE ab]
 ·show ji _ _ _ _ _ _ _ _ _ _ _ _ _ _ (K+1) (_,s)=_
  rw[ji];simp only[jI,cf]
def zzi(x:au):ye (J2 x)=Vc (.inr yy)++(spT [.inr x.aL]++(spT (x.Rows.flatMap zs1)++(spT [.inr xe,.inl x.Else]++[32,59,10]))):=by
 show ye (.inr yy::([.inr x.aL]++(x.Rows.flatMap zs1++[.inr xe,.inl x.Else])))=_
 rw[jK];simp only[JL,asc]
def P_L2{c0:List au}{c2:List Def}{c3:List yD}{c4:List zX}{c5:List Cap}{c6:List av}{c7:List zg}(hl:c0.length<=300)(hs:We s)(hn:∀x∈c0,zD x.aL=bf)(h:∀x∈c0,Aj x)(hf:∀x∈c0,x.Rows.length<=64)(hb:(s++c0.flatMap λx=>ye (J2 x)).length<=140737488355328):
  jj c0 (bg c0:Nat) c2 c3 c4 c5 c6 c7 c8 KK (0,s)=bc (s++c0.flatMap λx=>ye (J2 x))/\We (s++c0.flatMap λx=>ye (J2 x)):=by
 refine vY c0 (λx=>ye (J2 x)) (λK q s=>jj c0 (bg c0:Nat) c2 c3 c4 c5 c6 c7 c8 K (q,s)) 140737488355328 We ab hs hb (λK i x s hx hI hM=>?_) (λK s=>?_)
 ·have hi:=Ah hx
  have hm:=bP hx;have hT:=h x hm;rw[zzi]at hM ⊢;have hM0:=hM;simp only[la]at hM0;obtain⟨p1,g1⟩:=AQ (x:=.inr yy) (l:=[.inr x.aL]) hI (zl (xi ae) (zl (vw (hn x hm)) yw)).g af (by simp only[la];omega);obtain⟨p2,g2⟩:=P_L3 (c0:=c0) (c1:=(bg c0:Nat)) (c2:=(i:Int)) (c3:=x.Rows) (c5:=c2) (c6:=c3) (c7:=c4) (c8:=c5) (c9:=c6) (c10:=c7) (c11:=c8) (c12:=x.aL) (c13:=x.Else) (hf x hm) g1 (λy hy=>zY4 (YE hT y hy) (hT.2.2 y hy)) (by simp only[la];omega);obtain⟨p3,g3⟩:=vn (l:=[.inr xe,.inl x.Else]) g2 (zl (xi ae) (zl (yE (xZ hT.2.1 ab ab)) yw)).g af (by simp only[la];omega);obtain⟨p4,g4⟩:=YB g3 (by simp only[la];omega)
  show jj _ _ _ _ _ _ _ _ _ (K+1) ((i:Int),s)=_/\_
  rw[jj];simp only[A5 hx,ctQ,yx hx,bsQ];rw[p1,bsQ,p2,bsQ,p3,bsQ,p4,bsQ,xE ab];simp only[asc]at g4 ⊢;exact⟨trivial,g4⟩
 ·show jj _ _ _ _ _ _ _ _ _ (K+1) (_,s)=_
  rw[jj];simp only[jI,cf]
def zGi(x:yD):ye (zev x)=Vc (.inr (bif x.Overlay then yH else xm))++(spT [.inr x.aL]++(spT (x.aA.flatMap ptT)++[32,59,10])):=by
 show ye (.inr (bif x.Overlay then yH else xm)::([.inr x.aL]++x.aA.flatMap ptT))=_
 rw[jK];simp only[JL,asc]
def P_L4{c0:List yD}{c2:List Def}{c3:List au}{c4:List zX}{c5:List Cap}{c6:List av}{c7:List zg}(hl:c0.length<=300)(hs:We s)(hn:∀x∈c0,zD x.aL=bf)(h:∀x∈c0,Aw x.aA)(hf:∀x∈c0,x.aA.length<=64)(hb:(s++c0.flatMap λx=>ye (zev x)).length<=140737488355328):
  jk c0 (bg c0:Nat) c2 c3 c4 c5 c6 c7 c8 KK (0,s)=bc (s++c0.flatMap λx=>ye (zev x))/\We (s++c0.flatMap λx=>ye (zev x)):=by
 refine vY c0 (λx=>ye (zev x)) (λK q s=>jk c0 (bg c0:Nat) c2 c3 c4 c5 c6 c7 c8 K (q,s)) 140737488355328 We ab hs hb (λK i x s hx hI hM=>?_) (λK s=>?_)
 ·have hi:=Ah hx
  have hm:=bP hx;rw[zGi]at hM ⊢;have hM0:=hM;simp only[la]at hM0;obtain⟨p1,g1⟩:=AQ (x:=.inr (bif x.Overlay then yH else xm)) (l:=[.inr x.aL]) hI (zl (zpv _) (zl (vw (hn x hm)) yw)).g af (by simp only[la];omega);obtain⟨p2,g2⟩:=zex g1 (zbl (h x hm)) (hf x hm) (by simp only[la];omega)
  have hw:(bif x.Overlay then bc yH else bc xm)=bc (bif x.Overlay then yH else xm):=by cases x.Overlay<;>rfl
  show jk _ _ _ _ _ _ _ _ _ (K+1) ((i:Int),s)=_/\_
  rw[jk];simp only[A5 hx,ctQ,yx hx,bsQ];rw[hw,bsQ,p1,bsQ,p2,bsQ,xE ab];simp only[asc]at g2 ⊢;exact⟨trivial,g2⟩
 ·show jk _ _ _ _ _ _ _ _ _ (K+1) (_,s)=_
  rw[jk];simp only[jI,cf]
def P_L5{c0:List zX}{c2:List Def}{c3:List au}{c4:List yD}{c5:List Cap}{c6:List av}{c7:List zg}(hl:c0.length<=300)(hs:We s)(hn:∀x∈c0,zD x.aL=bf)(h:∀x∈c0,VX x)(hf:∀x∈c0,zD4 x=bf)(hb:(s++c0.flatMap λx=>ye (V7 x)).length<=140737488355328):
  jm c0 (bg c0:Nat) c2 c3 c4 c5 c6 c7 c8 KK (0,s)=bc (s++c0.flatMap λx=>ye (V7 x))/\We (s++c0.flatMap λx=>ye (V7 x)):=by
 refine vY c0 (λx=>ye (V7 x)) (λK q s=>jm c0 (bg c0:Nat) c2 c3 c4 c5 c6 c7 c8 K (q,s)) 140737488355328 We ab hs hb (λK i x s hx hI hM=>?_) (λK s=>?_)
 ·have hi:=Ah hx
  have hm:=bP hx;obtain⟨p1,g1⟩:=zFo hI (h x hm) (hn x hm) (hf x hm) hM;refine⟨?_,g1⟩
  show jm _ _ _ _ _ _ _ _ _ (K+1) ((i:Int),s)=_
  rw[jm];simp only[A5 hx,ctQ,yx hx,bsQ,xv];rw[p1,bsQ,xE ab]
 ·show jm _ _ _ _ _ _ _ _ _ (K+1) (_,s)=_
  rw[jm];simp only[jI,cf]
def zGj{i:Nat}(h:i<3):JM[i]?=bc (JM.getD i []):=by
 rw[ca,bA (show i<JM.length from h)];rfl
def zLu(x:Cap):ye (zFi x)=Vc (.inr WQ)++(spT [.inr x.aL,.inr (JM.getD x.Load.toNat []),.inl x.Limit]++(spT (x.aA.flatMap ptT)++[32,59,10])):=by
 show ye (.inr WQ::([.inr x.aL,.inr (JM.getD x.Load.toNat []),.inl x.Limit]++x.aA.flatMap ptT))=_
 rw[jK];simp only[JL,asc]
def P_L6{c0:List Cap}{c2:List Def}{c3:List au}{c4:List yD}{c5:List zX}{c6:List av}{c7:List zg}(hl:c0.length<=300)(hs:We s)(hn:∀x∈c0,zD x.aL=bf)(h:∀x∈c0,zGv x)(hf:∀x∈c0,x.aA.length<=64)(hb:(s++c0.flatMap λx=>ye (zFi x)).length<=140737488355328):
  jo c0 (bg c0:Nat) c2 c3 c4 c5 c6 c7 c8 KK (0,s)=bc (s++c0.flatMap λx=>ye (zFi x))/\We (s++c0.flatMap λx=>ye (zFi x)):=by
 refine vY c0 (λx=>ye (zFi x)) (λK q s=>jo c0 (bg c0:Nat) c2 c3 c4 c5 c6 c7 c8 K (q,s)) 140737488355328 We ab hs hb (λK i x s hx hI hM=>?_) (λK s=>?_)
 ·have hi:=Ah hx
  have hm:=bP hx;obtain⟨k1,k2,k3⟩:=h x hm;rw[zLu]at hM ⊢;have hM0:=hM;simp only[la]at hM0;obtain⟨p1,g1⟩:=AQ (x:=.inr WQ) (l:=[.inr x.aL,.inr (JM.getD x.Load.toNat []),.inl x.Limit]) hI (zl (xi ae) (zl (vw (hn x hm)) (zl (zpu ab) (zl (yE (xZ k2 ab ab)) yw)))).g af (by simp only[la];omega);obtain⟨p2,g2⟩:=zex g1 (zbl k3) (hf x hm) (by simp only[la];omega)
  show jo _ _ _ _ _ _ _ _ _ (K+1) ((i:Int),s)=_/\_
  rw[jo];simp only[A5 hx,ctQ,yx hx,bsQ,zpq];rw[zE (show 0<=x.Load/\x.Load<((bg JM:Nat):Int) by rw[show JM.length=3 from rfl];omega),bsQ,zGj (show x.Load.toNat<3 by omega),bsQ,p1,bsQ,p2,bsQ,xE ab];simp only[asc]at g2 ⊢;exact⟨trivial,g2⟩
 ·show jo _ _ _ _ _ _ _ _ _ (K+1) (_,s)=_
  rw[jo];simp only[jI,cf]
def P_L8{c0:List av}{c2:Int}{c3:List zg}{c5:List Def}{c6:List au}{c7:List yD}{c8:List zX}{c9:List Cap}{c10:List zg}{c11:Int}(hl:c3.length<=64)(hs:Good s)(h:∀x∈c3,YI (YH x))(hb:(s++spT (c3.flatMap YH)).length<=140737488355328):
  jt c0 c1 c2 c3 (bg c3:Nat) c5 c6 c7 c8 c9 c10 c11 KK (0,s)=bc (s++spT (c3.flatMap YH))/\Good (s++spT (c3.flatMap YH)):=by
 rw[YC]at hb ⊢;refine vY c3 (λx=>spT (YH x)) (λK q s=>jt c0 c1 c2 c3 (bg c3:Nat) c5 c6 c7 c8 c9 c10 c11 K (q,s)) 140737488355328 Good ab hs hb (λK i x s hx hI hM=>?_) (λK s=>?_)
 ·have hi:=Ah hx
  obtain⟨p1,g1⟩:=vn (l:=YH x) hI (h x (bP hx)).g (by simp[YH]) hM;refine⟨?_,g1⟩
  show jt _ _ _ _ _ _ _ _ _ _ _ _ (K+1) ((i:Int),s)=_
  rw[jt];simp only[A5 hx,ctQ,yx hx,bsQ];rw[show([(bo x.X),(bo x.Y),(bo x.Z_)]:List (Int⊕ak))=YH x from rfl,p1,bsQ,xE ab]
 ·show jt _ _ _ _ _ _ _ _ _ _ _ _ (K+1) (_,s)=_
  rw[jt];simp only[jI,cf]
def zGk(x:av):ye (zew x)=Vc (.inr AD)++(spT [.inr x.aL,.inl x.Eye.X,.inl x.Eye.Y,.inl x.Eye.Z_,.inr vM,.inl x.Least,.inr xM]++(spT (x.Targets.flatMap YH)++[32,59,10])):=by
 show ye (.inr AD::([.inr x.aL,.inl x.Eye.X,.inl x.Eye.Y,.inl x.Eye.Z_,.inr vM,.inl x.Least,.inr xM]++x.Targets.flatMap YH))=_
 rw[jK];simp only[JL,asc]
def P_L7{c0:List av}{c2:List Def}{c3:List au}{c4:List yD}{c5:List zX}{c6:List Cap}{c7:List zg}(hl:c0.length<=300)(hs:We s)(hn:∀x∈c0,zD x.aL=bf)(h:∀x∈c0,Ym x)(hf:∀x∈c0,x.Targets.length<=64)(hb:(s++c0.flatMap λx=>ye (zew x)).length<=140737488355328):
  ju c0 (bg c0:Nat) c2 c3 c4 c5 c6 c7 c8 KK (0,s)=bc (s++c0.flatMap λx=>ye (zew x))/\We (s++c0.flatMap λx=>ye (zew x)):=by
 refine vY c0 (λx=>ye (zew x)) (λK q s=>ju c0 (bg c0:Nat) c2 c3 c4 c5 c6 c7 c8 K (q,s)) 140737488355328 We ab hs hb (λK i x s hx hI hM=>?_) (λK s=>?_)
 ·have hi:=Ah hx
  have hm:=bP hx;obtain⟨k1,k2,k3,k4⟩:=h x hm;obtain⟨e1,e2,e3⟩:=YD k3;rw[zGk]at hM ⊢;have hM0:=hM;simp only[la]at hM0;obtain⟨p1,g1⟩:=AQ (x:=.inr AD) (l:=[.inr x.aL,.inl x.Eye.X,.inl x.Eye.Y,.inl x.Eye.Z_,.inr vM,.inl x.Least,.inr xM]) hI (zl (xi ae) (zl (vw (hn x hm)) (zl (yE e1) (zl (yE e2) (zl (yE e3) (zl (xi ae) (zl (yE (xZ k1 ab ab)) (zl (xi ae) yw)))))))).g af (by simp only[la];omega);obtain⟨p2,g2⟩:=P_L8 (c0:=c0) (c1:=(bg c0:Nat)) (c2:=(i:Int)) (c3:=x.Targets) (c5:=c2) (c6:=c3) (c7:=c4) (c8:=c5) (c9:=c6) (c10:=c7) (c11:=c8) (hf x hm) g1 (λy hy=>zzc (YD (k4 y hy))) (by simp only[la];omega);obtain⟨p3,g3⟩:=YB g2 (by simp only[la];omega)
  show ju _ _ _ _ _ _ _ _ _ (K+1) ((i:Int),s)=_/\_
  rw[ju];simp only[A5 hx,ctQ,yx hx,bsQ];rw[p1,bsQ,p2,bsQ,p3,bsQ,xE ab];simp only[asc]at g3 ⊢;exact⟨trivial,g3⟩
 ·show ju _ _ _ _ _ _ _ _ _ (K+1) (_,s)=_
  rw[ju];simp only[jI,cf]
end code
def zaa(p:zg):List Tok:=.inr kW::YH p
def zZp{l:List zg}{c2:List Def}{c3:List au}{c4:List yD}{c5:List zX}{c6:List Cap}{c7:List av}{c8:Int}(hl:l.length<=64)(h:∀x∈l,zy3 x):∀(r:List zg)(i K:Nat)(s:ak),1<=i->l.drop i=r->i<=l.length->r.length<K->Good s->(s++r.flatMap λx=>spT (zaa x)).length<=140737488355328 ->
  jv l (bg l:Nat) c2 c3 c4 c5 c6 c7 c8 K ((i:Int),s)=bc (s++r.flatMap λx=>spT (zaa x))/\Good (s++r.flatMap λx=>spT (zaa x))
 |[],i,K,s,h1,hr,hi,hK,hI,hM=>by
  obtain⟨K,rfl⟩:∃k,K=k+1:=⟨K-1,by simp at hK;omega⟩
  have:=drop_nil hr hi;subst this;rw[jv];simp only[jI,cf,dK,bI,true_and];exact hI
 |x::r,i,K,s,h1,hr,hi,hK,hI,hM=>by
  obtain⟨K,rfl⟩:∃k,K=k+1:=⟨K-1,by simp at hK;omega⟩
  obtain⟨g1,g2,g3⟩:=xW hr;simp only[lc]at hK;rw[cy,<- asc]at hM ⊢;obtain⟨p1,p2⟩:=vn (l:=zaa x) hI (zl (xi ae) (zzc (zld (h x (bP g1))))).g (by simp[zaa,YH]) (by rw[la]at hM;omega);rw[jv];simp only[A5 g1,ctQ,yx g1,bsQ]
  rw[show min (i:Int) 1=1 by omega,zE ae,bsQ,show(([Jf,kW]:List ak))[(cg 1)]?=bc kW from rfl,bsQ,
   show([(br kW),(bo x.X),(bo x.Y),(bo x.Z_)]:List (Int⊕ak))=zaa x from rfl,p1,bsQ,xE ab]
  exact zZp hl h r (i+1) K _ ab g2 ab ab p2 hM
def zLv(p:zg)(r:List zg):ye (zFj (p::r))=Vc (.inr Jf)++(spT (YH p)++((r.flatMap λx=>spT (zaa x))++[32,59,10])):=by
 show ye (.inr Jf::(YH p++r.flatMap zaa))=_
 rw[jK];simp only[JL,asc,YC]
def P_L9{l:List zg}{c2:List Def}{c3:List au}{c4:List yD}{c5:List zX}{c6:List Cap}{c7:List av}{c8:Int}{s:ak}(hl:l.length<=64)(hs:We s)(h:∀x∈l,zy3 x)(hb:(s++(bif l.isEmpty then[]else ye (zFj l))).length<=140737488355328):
  (jv l (bg l:Nat) c2 c3 c4 c5 c6 c7 c8 KK (0,s)).bind (λx8=>((bif (decide (((bg l:Nat):Int)>0))then(qt x8).bind λx10=>bc x10 else bc x8)))=bc (s++(bif l.isEmpty then[]else ye (zFj l)))/\We (s++(bif l.isEmpty then[]else ye (zFj l))):=by
 obtain⟨k,hk⟩:∃k,KK=k+1:=⟨KK-1,by have:=j5 (n:=100) ab;omega⟩
 have hkl:l.length<k+1:=by rw[<- hk];exact j5 ab
 cases l with
 |nil =>
  rw[hk,jv];simp only[eW,ctQ,bI,bF];exact⟨rfl,hs⟩
 |cons p r =>
  simp only[fS,cf]at hb ⊢;rw[zLv]at hb ⊢;have hM0:=hb;simp only[la]at hM0;simp only[lc]at hkl;have hp:=h p al;obtain⟨p1,g1⟩:=AQ (x:=.inr Jf) (l:=YH p) hs (zl (xi ae) (zzc (zld hp))).g (by simp[YH]) (by simp only[la];omega);obtain⟨p2,g2⟩:=zZp (l:=p::r) (c2:=c2) (c3:=c3) (c4:=c4) (c5:=c5) (c6:=c6) (c7:=c7) (c8:=c8) hl h r 1 k _ ab rfl af ab g1 (by simp only[la];omega);obtain⟨p3,g3⟩:=YB g2 (by simp only[la];omega);rw[hk,jv];have h0:(p::r)[0]?=bc p:=rfl;have d0:decide ((0:Int)<(((p::r).length:Nat):Int))=bf:=A5 h0;have i0:idx (p::r) 0=bc p:=yx h0;simp only[d0,ctQ,i0,bsQ]
  rw[show min (0:Int) 1=0 from rfl,zE ae,bsQ,show(([Jf,kW]:List ak))[(cg 0)]?=bc Jf from rfl,bsQ,
   show([(br Jf),(bo p.X),(bo p.Y),(bo p.Z_)]:List (Int⊕ak))=.inr Jf::YH p from rfl,p1,bsQ,show w64 (0+1)=((1:Nat):Int) from rfl,p2,bsQ]
  rw[p3];simp only[asc,bsQ,true_and]at g3 ⊢;exact g3
def zTl{s:ak}{n:Int}(hs:We s)(h:0<=n/\n<=24)(hb:(s++(if n=0 then[]else ye (Vt n))).length<=140737488355328):
  ((bif (!(decide (n=0)))then(yu s ([(br kD),(bo n)]:List (Int⊕ak))).bind λx12=>aN (qt x12) λx13=>bc x13 else bc s))=bc (s++(if n=0 then[]else ye (Vt n))):=by
 by_cases h0:n=0
 ·rw[aP h0,dt h0,bI];rfl
 ·rw[aO h0]at hb ⊢
  have e:ye (Vt n)=Vc (.inr kD)++(spT [.inl n]++[32,59,10]):=jK _ _;rw[e]at hb ⊢;have hM0:=hb;simp only[la]at hM0;obtain⟨p1,g1⟩:=AQ (x:=.inr kD) (l:=[.inl n]) hs (zFs h).g af (by simp only[la];omega);obtain⟨p2,g2⟩:=YB g1 (by simp only[la];omega);rw[df h0,cC,ctQ,p1,bsQ,p2];simp only[asc,bsQ]
noncomputable def zGl(p:yJ):ak×Int:=bif pd (uH p)then(if(HP p).length<=8000 then(HP p,0)else([],6))else([],1)
def zLw{p:yJ}(hf:zXy p):zc2 p=bc (zGl p):=by
 unfold zc2 zGl;rw[zvt hf,bsQ]
 cases hr:pd (uH p)with
 |false=>rfl
 |true =>
  have hR:=vU.1 hr;have hb:=zFu hf hR;have nm:=zle hR;obtain⟨_,⟨b1,b2,b3,b4,b5,b6,b7⟩,hh,hs⟩:=hR;simp only[bW,cf,ctQ];have hb0:=hb;simp only[HP,la]at hb0;obtain⟨p1,g1⟩:=P_L1 (c0:=p.aF) (c2:=p.Tables) (c3:=p.aB) (c4:=p.aE) (c5:=p.aJ) (c6:=p.aG) (c7:=p.aK) (c8:=p.aI) (s:=[]) hf.d (.inl rfl) nm.d b1 (λx hx=>(Yk (hf.ds x hx).2).1) (by simp only[bM];omega);rw[bM]at p1 g1;generalize hs1:(p.aF.flatMap λx=>ye (zzr x))=s1 at p1 g1 hb0;obtain⟨p2,g2⟩:=P_L2 (c0:=p.Tables) (c2:=p.aF) (c3:=p.aB) (c4:=p.aE) (c5:=p.aJ) (c6:=p.aG) (c7:=p.aK) (c8:=p.aI) hf.t g1 nm.t b2 (λx hx=>(hf.ts x hx).2.1) (by simp only[la];omega);generalize hs2:(p.Tables.flatMap λx=>ye (J2 x))=s2 at p2 g2 hb0;obtain⟨p3,g3⟩:=P_L4 (c0:=p.aB) (c2:=p.aF) (c3:=p.Tables) (c4:=p.aE) (c5:=p.aJ) (c6:=p.aG) (c7:=p.aK) (c8:=p.aI) hf.z g2 nm.z b3 (λx hx=>(hf.zs x hx).2) (by simp only[la];omega);generalize hs3:(p.aB.flatMap λx=>ye (zev x))=s3 at p3 g3 hb0;obtain⟨p4,g4⟩:=P_L5 (c0:=p.aE) (c2:=p.aF) (c3:=p.Tables) (c4:=p.aB) (c5:=p.aJ) (c6:=p.aG) (c7:=p.aK) (c8:=p.aI) hf.r g3 nm.r b4 hf.rs (by simp only[la];omega);generalize hs4:(p.aE.flatMap λx=>ye (V7 x))=s4 at p4 g4 hb0;obtain⟨p5,g5⟩:=P_L6 (c0:=p.aJ) (c2:=p.aF) (c3:=p.Tables) (c4:=p.aB) (c5:=p.aE) (c6:=p.aG) (c7:=p.aK) (c8:=p.aI) hf.c g4 nm.c b5 (λx hx=>(hf.cs x hx).2) (by simp only[la];omega);generalize hs5:(p.aJ.flatMap λx=>ye (zFi x))=s5 at p5 g5 hb0;obtain⟨p6,g6⟩:=P_L7 (c0:=p.aG) (c2:=p.aF) (c3:=p.Tables) (c4:=p.aB) (c5:=p.aE) (c6:=p.aJ) (c7:=p.aK) (c8:=p.aI) hf.v g5 nm.v b6 (λx hx=>(hf.vs x hx).2) (by simp only[la];omega);generalize hs6:(p.aG.flatMap λx=>ye (zew x))=s6 at p6 g6 hb0;obtain⟨p7,g7⟩:=P_L9 (l:=p.aK) (c2:=p.aF) (c3:=p.Tables) (c4:=p.aB) (c5:=p.aE) (c6:=p.aJ) (c7:=p.aG) (c8:=p.aI) hf.s g6 b7 (by simp only[la];omega)
  generalize hs7:(bif p.aK.isEmpty then[]else ye (zFj p.aK))=s7 at p7 g7 hb0;have p8:=zTl g7 hh (by simp only[la];omega)
  have e:s1++s2++s3++s4++s5++s6++s7++(if p.aI=0 then[]else ye (Vt p.aI))=HP p:=by
   unfold HP;rw[hs1,hs2,hs3,hs4,hs5,hs6,hs7];simp only[asc]
  rw[e]at p8;rw[p1,bsQ,p2,bsQ,p3,bsQ,p4,bsQ,p5,bsQ,p6,bsQ];rw[<- Option.bind_assoc,p7,bsQ,p8,bsQ];unfold zri Ht;rw[bsQ];by_cases hl:(HP p).length<=8000
  ·rw[aP hl,df ab];rfl
  ·rw[aO hl,dt ab];rfl
def zzj{ds:List Decl}{p:yJ}{h:Bool}(hs:zs7 A7 bd ds)(hr:zlm A7 bd ds=(p,h)):Qz (ds.flatMap zlo)=.ok p:=by
 obtain⟨l,q,h1,h2⟩:=zNp (lc_lx (zwo (zln hs)));unfold Qz;rw[h2];dsimp only;have hlen:=aQ bg h1;rw[bN]at hlen;have:=zGb ds
 obtain⟨m,hm⟩:∃m,(l++[HG q]).length+1=ds.length+(m+1):=⟨l.length+1-ds.length,by simp only[la,lc,bF];omega⟩
 rw[hm,zpz ds (m+1) A7 bd l [HG q] hs h1 (show TWF [HG q] from rfl),hr,HO,aP (show(hdT [HG q]).aM=3 from rfl)]
def ks_lt:∀k∈KS,k<8:=ae
def zZq:∀k<8,k∈KS.reverse++[]:=ae
def zGm{p:yJ}(hp:uH p):Qz (HP p)=.ok p:=by
 obtain⟨s1,s2⟩:=zp0 hp KS [] (λj hj=>⟨ks_lt j hj,λh=>by cases h⟩) ae;rw[zta];exact zzj s1 (s2.trans (by rw[zTd zZq]))
def zwr(p:yJ):yJ.mk p.aF p.Tables p.aB p.aE p.aJ p.aG p.aK p.aI=p:=rfl
def zLx{s t:ak}{k v:Int}(h:tkS s=.ok (k,t,v)):okT (k,t,v):=by
 cases s with
 |nil=>cases h
 |cons c r =>
  rw[xT]at h;unfold okT;dsimp only;by_cases hl:jC c=bf
  ·rw[aP hl]at h
   split at h
   ·rename_i hn
    obtain⟨rfl,h2⟩:=Prod.mk.inj (Except.ok.inj h);obtain⟨rfl,rfl⟩:=Prod.mk.inj h2;have e:(c::r).takeWhile yV=c::r.takeWhile yV:=takeWhile_cons (by rw[yV,hl];rfl);have ha:=Yd (zkq yV (c::r));rw[e]at ha hn ⊢;rw[xT,aP hl,ha,aP hn]
   ·cases h
  ·rw[aO hl]at h
   by_cases hd:yK c=bf
   ·rw[aP hd]at h
    cases hv:zJw ((c::r).takeWhile yK)with
    |none=>rw[hv]at h;cases h
    |some n =>
     rw[hv]at h;obtain⟨rfl,h2⟩:=Prod.mk.inj (Except.ok.inj h);obtain⟨rfl,rfl⟩:=Prod.mk.inj h2;have e:(c::r).takeWhile yK=c::r.takeWhile yK:=takeWhile_cons hd;have ha:=Yd (zkq yK (c::r));rw[e]at ha hv ⊢;rw[xT,aO hl,aP hd,ha,hv]
   ·rw[aO hd]at h
    cases hs:zkp (c::r)with
    |none=>rw[hs]at h;cases h
    |some x =>
     rw[hs]at h;obtain⟨rfl,h2⟩:=Prod.mk.inj (Except.ok.inj h);obtain⟨rfl,rfl⟩:=Prod.mk.inj h2;rw[Yb]at hs;split at hs
     ·rename_i hh
      cases hs;rw[xT,aO hl,aO hd,Yb,aP ⟨rfl,hh.2⟩]
     ·split at hs
      ·rename_i hh
       cases hs;rw[xT,aO hl,aO hd,Yb,aO (λh=>by cases h.1),aP hh]
      ·cases hs
def zws:∀(n p:Nat)(s:ak)(l:List ar),s.length<n->Ze n p s=.ok l->∃b q,l=b++[HG q]/\OKs (b.map t3)/\(sq (b.map t3)).length<=2*s.length
 |0,_,_,_,hn,_=>aU hn (cY _)
 |n+1,p,s,l,hn,h=>by
  rw[Ze]at h
  cases hd:s.dropWhile ym with
  |nil =>
   rw[hd]at h;cases h;exact⟨[],_,rfl,ur,by simp[sq]⟩
  |cons c r =>
   rw[hd]at h;dsimp only at h
   cases ht:tkS (c::r)with
   |error e=>rw[ht]at h;cases h
   |ok x =>
    obtain⟨k,t,v⟩:=x;rw[ht]at h;dsimp only at h;split at h
    ·cases h
    ·rename_i l2 hl2
     cases h;have hlt:=zsg hd ht hn;obtain⟨b,q,rfl,h1,h2⟩:=zws n _ _ l2 hlt hl2
     have h4:(c::r).length<=s.length:=by
      rw[<- hd];exact(List.dropWhile_sublist _).length_le
     obtain⟨t1,_,t3'⟩:=zd8 ht;have:0<t.length:=dp.2 t1;refine⟨_::b,q,rfl,xd (zLx ht) h1,?_⟩;rw[mk9,zSw,la,lc];rw[List.length_drop]at h2
     show t.length+1+_<=_
     omega
def zZr(ts:List T3):(jq ts).length<=(sq ts).length:=by
 cases ts with
 |nil=>exact dk _
 |cons t ts=>rw[zKe af,lc];omega
def zGn{b0:Bool}{at_ there:Int}{l m:List ar}(hlen:m.length=l.length)(hl:l.length<=10000){j:Nat}{t t':ar}(h1:l[j]?=bc t)(h2:m[j]?=bc t')(e1:at_=t.Pos)(e2:there=t'.Pos):
  ∀(r:List ar)(i K:Nat)(b:Bool),l.drop i=r->i<=l.length->r.length<K->(b=bf∨i<=j)->z8 b0 at_ l there m K (b,(i:Int))=bc bf
 |[],i,K,b,hr,hi,hK,hb=>by
  obtain⟨K,rfl⟩:∃m,K=m+1:=⟨K-1,by simp at hK;omega⟩
  have:=drop_nil hr hi;subst this;have:=Ah h1;rw[z8];simp only[jI,cf]
  rcases hb with rfl|hb
  ·rfl
  ·omega
 |x::r,i,K,b,hr,hi,hK,hb=>by
  obtain⟨K,rfl⟩:∃m,K=m+1:=⟨K-1,by simp at hK;omega⟩
  obtain⟨g1,g2,g3⟩:=xW hr;simp only[lc]at hK;have hy:m[i]?=bc (m[i]'ab):=bA ab;rw[z8];simp only[A5 g1,ctQ,yx g1,yx hy,bsQ]
  have go:∀c:Bool,(c=bf∨i+1<=j)->z8 b0 at_ l there m K (c,(w64 ((i:Int)+1)))=bc bf:=λc hc=>by
   rw[xE ab];exact zGn hlen hl h1 h2 e1 e2 r (i+1) K c g2 ab ab hc
  cases b with
  |true=>rw[ctQ,bsQ];exact go bf (.inl rfl)
  |false =>
   rw[cf]
   have hij:i<=j:=by
    rcases hb with h|h
    ·cases h
    ·exact h
   by_cases he:i=j
   ·subst he
    obtain rfl:x=t:=Option.some.inj (g1.symm.trans h1);have hm:m[i]'ab=t':=Option.some.inj (hy.symm.trans h2);rw[dt e1.symm,ctQ,hm,dt e2.symm,bsQ];exact go bf (.inl rfl)
   ·cases decide (x.Pos=at_)
    ·rw[cf,bsQ];exact go _ (.inr ab)
    ·rw[ctQ,bsQ];exact go _ (.inr ab)
def zzk{α:Type}{g:α->ak}{m:Nat}:vW ([]:List α) g m:=⟨cj _,rfl⟩
def zLy{α:Type}{P:α->Prop}:∀x∈([]:List α),P x:=λ_ h=>(dS h).elim
def zZs:uH A7:=⟨⟨zzk,zzk,zzk,zzk,zzk,zzk⟩,⟨zLy,zLy,zLy,zLy,zLy,zLy,zLy⟩,⟨Int.le_refl _,by show(0:Int)<=24;omega⟩,cj _⟩
def bg0:BG A7:=⟨zLy,zLy⟩
def zZt:ZF (yJ.mk [] [] [] [] [] [] [] 0) (yJ.mk [] [] [] [] [] [] [] 0)=bc bf:=by
 have:=zef (a:=A7) (b:=A7) fit0;rw[VY rfl]at this;exact this
def zwt{s:ak}{l r:List ar}{v:yJ×Bool}{n:Nat}(hx:zJz s=.ok l)(hn:l.length=n)(hp:HO (n+1) A7 bd l=.ok (v,r)):Qz s=.ok v.1:=by
 subst hn;unfold Qz;rw[hx];dsimp only;rw[hp]
def zwu{s:ak}{l:List ar}{e:EE}{n:Nat}(hx:zJz s=.ok l)(hn:l.length=n)(hp:HO (n+1) A7 bd l=.error e):Qz s=.error e:=by
 subst hn;unfold Qz;rw[hx];dsimp only;rw[hp]
def zGo{s:ak}:wh s=bc bf:=by
 unfold wh;rw[zLq,bsQ];by_cases hl:s.length<=2000
 ·rw[df (show ¬((s.length:Nat):Int)>2000 by omega),cf,ztb ab,bsQ,zRf ab,bsQ]
  cases hx:zJz s with
  |error y =>
   obtain⟨p,e⟩:=y;have he:=zbn _ _ _ _ _ hx
   have hp:Qz s=.error ((p:Int),e):=by unfold Qz;rw[hx]
   rw[hp,show zT2 (.error (p,e))=([],(p:Int),e) from rfl];rw[df he,cC,ctQ,ctQ]
   show(bif decide (e=e)then _ else _)=_
   rw[dt (show e=e from rfl),ctQ]
   show(aN (ZF (yJ.mk [] [] [] [] [] [] [] 0) (yJ.mk [] [] [] [] [] [] [] 0)) λx=>bc x)=_
   rw[zZt];rfl
  |ok l =>
   obtain⟨hst,h0⟩:=zec ab hx;have hll:=zvq _ _ _ _ (ck _) hx;obtain⟨b,q,hb,hok,hsq⟩:=zws _ _ _ _ (ck _) hx
   have hlenT:(jq (b.map t3)).length<=8000:=by
    have:=zZr (b.map t3);omega
   obtain⟨b',q',hb',hx'⟩:=zNp (zX5 hok);rw[show zT2 (.ok l)=(l,0,0) from rfl];dsimp only;rw[show decide ((0:Int)=0)=bf from rfl,bW,cf,zY0 ab hst.txt,bsQ]
   have htx:zag ((tx l).map ar.Text)=jq (b.map t3):=by rw[hb,zY1 hok,zSv]
   rw[htx,ztb hlenT,bsQ,zRf hlenT,bsQ,hx',show zT2 (.ok (b'++[HG q']))=(b'++[HG q'],0,0) from rfl];dsimp only
   have heq:l.map t3=(b'++[HG q']).map t3:=by rw[hb,bO,bO,hb'];exact aQ _ rfl
   have hlen:(b'++[HG q']).length=l.length:=by
    have:=aQ bg heq;rw[bN,bN]at this;exact this.symm
   rw[df (show ¬((bg (jq (b.map t3)):Nat):Int)>8000 by omega),cf,hlen,dt rfl,bW,bsQ,cf];obtain⟨hst',_⟩:=zec hlenT hx'
   have hss:SS l (b'++[HG q']) l (b'++[HG q']):=⟨⟨0,rfl,rfl⟩,hst.wf,hst'.wf,heq⟩
   have hre:=zE4 (l.length+1) A7 bd _ _ hss (ck _)
   have hsh:Sh2 l:=⟨hst.wf,ab⟩
   cases hp:HO (l.length+1) A7 bd l with
   |error e =>
    cases hp':HO (l.length+1) A7 bd (b'++[HG q'])with
    |ok v=>rw[hp,hp']at hre;exact hre.elim
    |error e' =>
     rw[hp,hp']at hre;have hO:=zwu hx rfl hp;have hO':=zwu hx' hlen hp';obtain⟨k1,j,t,t',g1,g2,g3,g4⟩:=hre;have hz:e.2≠0:=zwq ab hO;rw[hO,hO'];simp only[zLr,k1,decide_true,bW,cf,zZt,bsQ];rw[k1]at hz;rw[df hz,cC,ctQ,show(0:Int)=((0:Nat):Int) from rfl,zGn hlen ab g1 g2 g3 g4 l 0 KK bd rfl (cj _) (j5 ab) (.inr (cj _))];rfl
   |ok v =>
    cases hp':HO (l.length+1) A7 bd (b'++[HG q'])with
    |error e'=>rw[hp,hp']at hre;exact hre.elim
    |ok v' =>
     rw[hp,hp']at hre;have hO:=zwt hx rfl hp;have hO':=zwt hx' hlen hp';obtain⟨⟨P,hh⟩,rr⟩:=v;obtain⟨⟨P',hh'⟩,rr'⟩:=v';obtain⟨k1,_⟩:=hre;cases k1;dsimp only at hO hO';have hR:=zFd _ _ _ _ hsh zZs bg0 _ _ hp;obtain⟨hR,hG⟩:=hR;dsimp only at hR hG;have hB:=zYy hR hG;have hF:zT3 P:=zGc ab hO;rw[hO,hO'];simp only[zLr,zwr,decide_true,bW,cf];rw[zef hF,VY rfl];simp only[bsQ,bW,cf];rw[zLw hB,bsQ];unfold zGl;rw[VY hR,ctQ];by_cases hpl:(HP P).length<=8000
     ·rw[aP hpl]
      dsimp only;rw[show decide ((0:Int)=0)=bf from rfl,bW,cf,ztb hpl,bsQ,zGm hR,ctQ,zvt hB,VY hR];simp only[zLr,zwr,decide_true,ctQ,bsQ];rw[zef hF,VY rfl];rfl
     ·rw[aO hpl];rfl
 ·rw[dt (show((s.length:Nat):Int)>2000 by omega)];rfl
end Go.Proofs.YtffencjoddkghaaGreatDoor
namespace Go.Proofs.YtffencjoddkghaaGreatDoor
open Go Go.ChangeShapes Go.WideShapes Go.ChangeAt Go.RowKit Go.Deep Go.Joins Go.EV
def zGp[Vl][Fuel](x0:ak)(r:Bool)(h:wh x0=bc r):FnA bq 8 [.str x0] gl (.bool r) gl:=kmp (by kernel_rfl) (Ks.2 x0 r h)
set_option maxRecDepth 100000 in
theorem Kv(os:Os)(started:os.Started)(H:Type)(enc:TypeId×Value->H):
  ReturnsInHanded {} Tryz.checked os 8 .any (λw args=>(Rows.syntaxCanonicalSpec.pre enc bq Tryz.f8 [] bd w args/\laidMetH bq zx6 w)/\sizedMet enc bq Tryz.f8 (OpenSpec.ofChange Rows.syntaxCanonicalSpec) bd w args)
   (Rows.syntaxCanonicalSpec.post enc bq Tryz.f8 bd bf bd bd):=by
 refine znj (C:=Tryz.checked) (X:=λw _=>laidMetH bq zx6 w) (λ_ _ _ hh h=>h.of_heap hh) own started (by kernel_rfl) Tryz.func8
  (ChangeSpec.witness_shaped (enc:=enc) (C:=Tryz.checked) (os:=os) (X:=λw _=>laidMetH bq zx6 w) bd (World.doorLaid bq 400 os) #[.string ⟨#[]⟩] 8 rfl (World.shaped_of_RefB (by kernel_rfl) (by kernel_rfl)) (by kernel_rfl) (by kernel_rfl) (by kernel_rfl) (zI7 os _)) ?_
 intro W base args ds gs before hval0 hW hS hL;have hval:∀(j:Nat) t v,Tryz.f8.params[j]?=bc t->args[j]?=bc v->Value.okWide bq W .any base t v:=hval0;have hW':=hW;obtain⟨p,q,hA0,hV,rfl,hfz,hnd⟩:=hW;have hA:DataW.TrodAll enc bq W 0 (λ_=>bf) bf Tryz.f8.params.toList args.toList ds p:=hA0;rw[Tryz.params8]at hA hval;have hA1:=hA;obtain⟨v0,vs,d0,ds,p0,q0,ha,rfl,rfl,h0,hA⟩:=trodAll_cons hA;obtain⟨rfl,rfl,rfl⟩:=trodAll_nil hA;obtain⟨rfl,rfl⟩:=trodVars_none hV
 have ha:args=#[v0]:=by cases args;simp_all
 subst ha;obtain⟨x0,ox0,rx0⟩:=zV2 (hval 0 9 v0 rfl rfl) h0;simp only[bI]at hW'
 let fu:Fuel:=⟨18446744073709551616,aq⟩
 refine Calls.mono (zCp (f:=8) (args:=[.str x0]) (vals:=[v0]) (zGp x0 bf (zGo)) hL hS ⟨_,_,rfl,rx0,rfl⟩) λe W' ⟨he,hb⟩=>?_
 subst he;refine⟨_,rfl,?_⟩;refine⟨_,_,_,[],_,[],hW',?_,zgt laidOut hb _ _ _ _ (by kernel_rfl) hA1 (λx hx=>by simpa using hW'.lt x (by simpa using hx)),rfl,hb.frame _,λh=>by cases h⟩;exact trodAll_mk1 (shut_bool Tryz.underlying4 bf)
def Wc:Rows.SyntaxCanonicalSaid :=
 OpenClaim.holds_of_wide 8 Tryz.f8 rfl rfl rfl rfl rfl rfl rfl ⟨rfl,rfl,rfl,rfl,rfl⟩ rfl rfl rfl rfl rfl (by kernel_rfl) Tryz.func8 KU
  (aY (by kernel_rfl)) (by unfold Func.isWrapper;first|(rw[aP ah];kernel_rfl)|(rw[aO ah];exact⟨rfl,rfl⟩))
  (λos started H enc _=>Kv os started H enc)
theorem syntaxCanonical_holds:Rows.SyntaxCanonicalCardSaid :=
 Claim7.holds_tied_plain_at .later [] [.data, .data, .data, .listed, .data, .data] bf (bf, "808b1baaab06890156bf9594850e24f5baf562363ce7a6119ef76d48d3ae3efc") bf
  Wc (λ_ h=>by cases h) (by kernel_rfl) (λ_ h=>by cases h) syntaxCanonical_row_tie rfl ⟨rfl,rfl⟩ (by kernel_rfl) rfl
  (λf fn hf hfn=>by
   obtain rfl : f = 8 := Option.some.inj ((show Tryz.prog.funcNamed "greenbelt/greenbeltlaw15.SyntaxCanonical" = bc 8 by kernel_rfl).symm.trans hf) |>.symm
   obtain rfl:fn=Tryz.f8:=(Option.some.inj (Tryz.func8.symm.trans hfn)).symm
   exact⟨by kernel_rfl,λj t ht=>by
    rw[Tryz.params8]at ht
    have hm:t∈[9]:=by simpa using Array.mem_of_getElem? ht
    have hall:([9].all λu=>!Tryz.prog.wantsStandIn u)=bf:=by kernel_rfl
    exact(show Tryz.prog.wantsStandIn t=bd by simpa using bj.1 hall t hm)⟩)
  (by kernel_rfl)
#print axioms syntaxCanonical_holds
end Go.Proofs.YtffencjoddkghaaGreatDoor
