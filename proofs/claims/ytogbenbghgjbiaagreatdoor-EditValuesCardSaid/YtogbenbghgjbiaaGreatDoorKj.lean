/- texts that the proof reaches, part 10 -/
import Derived.Test.YtogbenbghgjbiaaGreatDoorKi
set_option linter.all false
open Bool renaming false->bf,true->bh
open Nat renaming beq->bm
open Option renaming some->aY,none->bg
set_option maxRecDepth 100000
namespace Go.Proofs.YtogbenbghgjbiaaGreatDoor
open Go Go.RowKit Go.lG Go.EV Go.EQ
noncomputable abbrev aS:=Tryz.prog
abbrev i6:TC:=.i .i64
abbrev dI(k:Nat):Tp:=.d i6 k
abbrev Fp:TC:=.l (.m .s .b)
abbrev mPQ:TC:=.m .s .b
abbrev aR:TC:=.l .s
abbrev aZ:TC:=.l (.st 0)
abbrev bZ:TC:=.l (.st 1)
abbrev iS:TC:=.l (.st 2)
abbrev bT:TC:=.l (.st 3)
abbrev gu:TC:=.l (.st 4)
abbrev bV:TC:=.l (.st 5)
abbrev bC:TC:=.l (.st 7)
abbrev bR:TC:=.l (.st 8)
abbrev eo:TC:=.l (.st 9)
abbrev zZ:TC:=.l (.st 10)
abbrev oz:TC:=.l (.st 11)
abbrev vD:TC:=.l (.st 13)
abbrev pS:TC:=.l (.st 14)
abbrev gpQ(l:List (Nat×TO)):List (Nat×TO):=(900000000,.rw 1)::(900000001,.rw 2)::(900000002,.rw 3)::(900000003,.rw 4)::l
abbrev pnQ(n:Nat):Nat×Tp:=(n,.ptr (1000000+n) 0)
abbrev ajK:Nat×Tp:=(0,.ptr 1 0)
def lX{e_ fu β:Type}(f:e_->fu->β)(x:e_×fu):β:=f x.1 x.2
def na{e_ fu fF β:Type}(f:e_->fu->fF->β)(x:e_×fu×fF):β:=f x.1 x.2.1 x.2.2
def A8{e_ fu fF fG β:Type}(f:e_->fu->fF->fG->β)(x:e_×fu×fF×fG):β:=f x.1 x.2.1 x.2.2.1 x.2.2.2
def HG{e_ fu fF fG fO β:Type}(f:e_->fu->fF->fG->fO->β)(x:e_×fu×fF×fG×fO):β:=f x.1 x.2.1 x.2.2.1 x.2.2.2.1 x.2.2.2.2
def H8{e_ fu fF fG fO f_ β:Type}(f:e_->fu->fF->fG->fO->f_->β)(x:e_×fu×fF×fG×fO×f_):β:=f x.1 x.2.1 x.2.2.1 x.2.2.2.1 x.2.2.2.2.1 x.2.2.2.2.2
def H9{e_ fu fF fG fO f_ gp β:Type}(f:e_->fu->fF->fG->fO->f_->gp->β)(x:e_×fu×fF×fG×fO×f_×gp):β:=f x.1 x.2.1 x.2.2.1 x.2.2.2.1 x.2.2.2.2.1 x.2.2.2.2.2.1 x.2.2.2.2.2.2
def El{e_ fu fF fG fO f_ gp gx β:Type}(f:e_->fu->fF->fG->fO->f_->gp->gx->β)(x:e_×fu×fF×fG×fO×f_×gp×gx):β:=f x.1 x.2.1 x.2.2.1 x.2.2.2.1 x.2.2.2.2.1 x.2.2.2.2.2.1 x.2.2.2.2.2.2.1 x.2.2.2.2.2.2.2
def Em{e_ fu fF fG fO f_ gp gx gA β:Type}(f:e_->fu->fF->fG->fO->f_->gp->gx->gA->β)(x:e_×fu×fF×fG×fO×f_×gp×gx×gA):β:=f x.1 x.2.1 x.2.2.1 x.2.2.2.1 x.2.2.2.2.1 x.2.2.2.2.2.1 x.2.2.2.2.2.2.1 x.2.2.2.2.2.2.2.1 x.2.2.2.2.2.2.2.2
def aaX{e_ fu fF fG fO f_ gp gx gA gC β:Type}(f:e_->fu->fF->fG->fO->f_->gp->gx->gA->gC->β)(x:e_×fu×fF×fG×fO×f_×gp×gx×gA×gC):β:=f x.1 x.2.1 x.2.2.1 x.2.2.2.1 x.2.2.2.2.1 x.2.2.2.2.2.1 x.2.2.2.2.2.2.1 x.2.2.2.2.2.2.2.1 x.2.2.2.2.2.2.2.2.1 x.2.2.2.2.2.2.2.2.2
def Ts{e_ fu fF fG fO f_ gp gx gA gC gY β:Type}(f:e_->fu->fF->fG->fO->f_->gp->gx->gA->gC->gY->β)(x:e_×fu×fF×fG×fO×f_×gp×gx×gA×gC×gY):β:=f x.1 x.2.1 x.2.2.1 x.2.2.2.1 x.2.2.2.2.1 x.2.2.2.2.2.1 x.2.2.2.2.2.2.1 x.2.2.2.2.2.2.2.1 x.2.2.2.2.2.2.2.2.1 x.2.2.2.2.2.2.2.2.2.1 x.2.2.2.2.2.2.2.2.2.2
def aaY{e_ fu fF fG fO f_ gp gx gA gC gY gZ β:Type}(f:e_->fu->fF->fG->fO->f_->gp->gx->gA->gC->gY->gZ->β)(x:e_×fu×fF×fG×fO×f_×gp×gx×gA×gC×gY×gZ):β:=f x.1 x.2.1 x.2.2.1 x.2.2.2.1 x.2.2.2.2.1 x.2.2.2.2.2.1 x.2.2.2.2.2.2.1 x.2.2.2.2.2.2.2.1 x.2.2.2.2.2.2.2.2.1 x.2.2.2.2.2.2.2.2.2.1 x.2.2.2.2.2.2.2.2.2.2.1 x.2.2.2.2.2.2.2.2.2.2.2
def agN{e_ fu fF fG fO f_ gp gx gA gC gY gZ g_ β:Type}(f:e_->fu->fF->fG->fO->f_->gp->gx->gA->gC->gY->gZ->g_->β)(x:e_×fu×fF×fG×fO×f_×gp×gx×gA×gC×gY×gZ×g_):β:=f x.1 x.2.1 x.2.2.1 x.2.2.2.1 x.2.2.2.2.1 x.2.2.2.2.2.1 x.2.2.2.2.2.2.1 x.2.2.2.2.2.2.2.1 x.2.2.2.2.2.2.2.2.1 x.2.2.2.2.2.2.2.2.2.1 x.2.2.2.2.2.2.2.2.2.2.1 x.2.2.2.2.2.2.2.2.2.2.2.1 x.2.2.2.2.2.2.2.2.2.2.2.2
def tO{e_ fu fF fG fO f_ gp gx gA gC gY gZ g_ iw iA iM β:Type}(f:e_->fu->fF->fG->fO->f_->gp->gx->gA->gC->gY->gZ->g_->iw->iA->iM->β)(x:e_×fu×fF×fG×fO×f_×gp×gx×gA×gC×gY×gZ×g_×iw×iA×iM):β:=f x.1 x.2.1 x.2.2.1 x.2.2.2.1 x.2.2.2.2.1 x.2.2.2.2.2.1 x.2.2.2.2.2.2.1 x.2.2.2.2.2.2.2.1 x.2.2.2.2.2.2.2.2.1 x.2.2.2.2.2.2.2.2.2.1 x.2.2.2.2.2.2.2.2.2.2.1 x.2.2.2.2.2.2.2.2.2.2.2.1 x.2.2.2.2.2.2.2.2.2.2.2.2.1 x.2.2.2.2.2.2.2.2.2.2.2.2.2.1 x.2.2.2.2.2.2.2.2.2.2.2.2.2.2.1 x.2.2.2.2.2.2.2.2.2.2.2.2.2.2.2
def Ir{e_ fu fF fG fO f_ gp gx gA gC gY gZ g_ iw iA iM iP β:Type}(f:e_->fu->fF->fG->fO->f_->gp->gx->gA->gC->gY->gZ->g_->iw->iA->iM->iP->β)(x:e_×fu×fF×fG×fO×f_×gp×gx×gA×gC×gY×gZ×g_×iw×iA×iM×iP):β:=f x.1 x.2.1 x.2.2.1 x.2.2.2.1 x.2.2.2.2.1 x.2.2.2.2.2.1 x.2.2.2.2.2.2.1 x.2.2.2.2.2.2.2.1 x.2.2.2.2.2.2.2.2.1 x.2.2.2.2.2.2.2.2.2.1 x.2.2.2.2.2.2.2.2.2.2.1 x.2.2.2.2.2.2.2.2.2.2.2.1 x.2.2.2.2.2.2.2.2.2.2.2.2.1 x.2.2.2.2.2.2.2.2.2.2.2.2.2.1 x.2.2.2.2.2.2.2.2.2.2.2.2.2.2.1 x.2.2.2.2.2.2.2.2.2.2.2.2.2.2.2.1 x.2.2.2.2.2.2.2.2.2.2.2.2.2.2.2.2
def p5{e_ fu fF fG fO β:Type}(x:e_×fu×fF×fG×fO×β):β:=x.2.2.2.2.2
def p6{e_ fu fF fG fO f_ β:Type}(x:e_×fu×fF×fG×fO×f_×β):β:=x.2.2.2.2.2.2
def rV{e_ fu fF fG fO f_ gp β:Type}(x:e_×fu×fF×fG×fO×f_×gp×β):β:=x.2.2.2.2.2.2.2
def sC{e_ fu fF fG fO f_ gp gx β:Type}(x:e_×fu×fF×fG×fO×f_×gp×gx×β):β:=x.2.2.2.2.2.2.2.2
def sO{e_ fu fF fG fO f_ gp gx gA β:Type}(x:e_×fu×fF×fG×fO×f_×gp×gx×gA×β):β:=x.2.2.2.2.2.2.2.2.2
def s7{e_ fu fF fG fO f_ gp gx gA gC β:Type}(x:e_×fu×fF×fG×fO×f_×gp×gx×gA×gC×β):β:=x.2.2.2.2.2.2.2.2.2.2
def tt{e_ fu fF fG fO f_ gp gx gA gC gY β:Type}(x:e_×fu×fF×fG×fO×f_×gp×gx×gA×gC×gY×β):β:=x.2.2.2.2.2.2.2.2.2.2.2
def tn{e_ fu fF fG fO f_ gp gx gA gC gY gZ β:Type}(x:e_×fu×fF×fG×fO×f_×gp×gx×gA×gC×gY×gZ×β):β:=x.2.2.2.2.2.2.2.2.2.2.2.2
def Bd{e_ fu fF fG fO f_ gp gx gA gC gY gZ g_ β:Type}(x:e_×fu×fF×fG×fO×f_×gp×gx×gA×gC×gY×gZ×g_×β):β:=x.2.2.2.2.2.2.2.2.2.2.2.2.2
def Be{e_ fu fF fG fO f_ gp gx gA gC gY gZ g_ iw β:Type}(x:e_×fu×fF×fG×fO×f_×gp×gx×gA×gC×gY×gZ×g_×iw×β):β:=x.2.2.2.2.2.2.2.2.2.2.2.2.2.2
def Bf{e_ fu fF fG fO f_ gp gx gA gC gY gZ g_ iw iA β:Type}(x:e_×fu×fF×fG×fO×f_×gp×gx×gA×gC×gY×gZ×g_×iw×iA×β):β:=x.2.2.2.2.2.2.2.2.2.2.2.2.2.2.2
def BQ{e_ fu fF fG fO f_ gp gx gA gC gY gZ g_ iw iA iM β:Type}(x:e_×fu×fF×fG×fO×f_×gp×gx×gA×gC×gY×gZ×g_×iw×iA×iM×β):β:=x.2.2.2.2.2.2.2.2.2.2.2.2.2.2.2.2
def BR{e_ fu fF fG fO f_ gp gx gA gC gY gZ g_ iw iA iM iP β:Type}(x:e_×fu×fF×fG×fO×f_×gp×gx×gA×gC×gY×gZ×g_×iw×iA×iM×iP×β):β:=x.2.2.2.2.2.2.2.2.2.2.2.2.2.2.2.2.2
def BE{e_ fu fF fG fO f_ gp gx gA gC gY gZ g_ iw iA iM iP iY β:Type}(x:e_×fu×fF×fG×fO×f_×gp×gx×gA×gC×gY×gZ×g_×iw×iA×iM×iP×iY×β):β:=x.2.2.2.2.2.2.2.2.2.2.2.2.2.2.2.2.2.2
def BF{e_ fu fF fG fO f_ gp gx gA gC gY gZ g_ iw iA iM iP iY i_ β:Type}(x:e_×fu×fF×fG×fO×f_×gp×gx×gA×gC×gY×gZ×g_×iw×iA×iM×iP×iY×i_×β):β:=x.2.2.2.2.2.2.2.2.2.2.2.2.2.2.2.2.2.2.2
def BG{e_ fu fF fG fO f_ gp gx gA gC gY gZ g_ iw iA iM iP iY i_ k8 β:Type}(x:e_×fu×fF×fG×fO×f_×gp×gx×gA×gC×gY×gZ×g_×iw×iA×iM×iP×iY×i_×k8×β):β:=x.2.2.2.2.2.2.2.2.2.2.2.2.2.2.2.2.2.2.2.2
def BH{e_ fu fF fG fO f_ gp gx gA gC gY gZ g_ iw iA iM iP iY i_ k8 lx β:Type}(x:e_×fu×fF×fG×fO×f_×gp×gx×gA×gC×gY×gZ×g_×iw×iA×iM×iP×iY×i_×k8×lx×β):β:=x.2.2.2.2.2.2.2.2.2.2.2.2.2.2.2.2.2.2.2.2.2
def Cp{e_ fu fF fG fO f_ gp gx gA gC gY gZ g_ iw iA iM iP iY i_ k8 lx lB β:Type}(x:e_×fu×fF×fG×fO×f_×gp×gx×gA×gC×gY×gZ×g_×iw×iA×iM×iP×iY×i_×k8×lx×lB×β):β:=x.2.2.2.2.2.2.2.2.2.2.2.2.2.2.2.2.2.2.2.2.2.2
def Cq{e_ fu fF fG fO f_ gp gx gA gC gY gZ g_ iw iA iM iP iY i_ k8 lx lB lC β:Type}(x:e_×fu×fF×fG×fO×f_×gp×gx×gA×gC×gY×gZ×g_×iw×iA×iM×iP×iY×i_×k8×lx×lB×lC×β):β:=x.2.2.2.2.2.2.2.2.2.2.2.2.2.2.2.2.2.2.2.2.2.2.2
def Cr{e_ fu fF fG fO f_ gp gx gA gC gY gZ g_ iw iA iM iP iY i_ k8 lx lB lC lF β:Type}(x:e_×fu×fF×fG×fO×f_×gp×gx×gA×gC×gY×gZ×g_×iw×iA×iM×iP×iY×i_×k8×lx×lB×lC×lF×β):β:=x.2.2.2.2.2.2.2.2.2.2.2.2.2.2.2.2.2.2.2.2.2.2.2.2
def C1{e_ fu fF fG fO f_ gp gx gA gC gY gZ g_ iw iA iM iP iY i_ k8 lx lB lC lF lI β:Type}(x:e_×fu×fF×fG×fO×f_×gp×gx×gA×gC×gY×gZ×g_×iw×iA×iM×iP×iY×i_×k8×lx×lB×lC×lF×lI×β):β:=x.2.2.2.2.2.2.2.2.2.2.2.2.2.2.2.2.2.2.2.2.2.2.2.2.2
def C2{e_ fu fF fG fO f_ gp gx gA gC gY gZ g_ iw iA iM iP iY i_ k8 lx lB lC lF lI lL β:Type}(x:e_×fu×fF×fG×fO×f_×gp×gx×gA×gC×gY×gZ×g_×iw×iA×iM×iP×iY×i_×k8×lx×lB×lC×lF×lI×lL×β):β:=x.2.2.2.2.2.2.2.2.2.2.2.2.2.2.2.2.2.2.2.2.2.2.2.2.2.2
def C3{e_ fu fF fG fO f_ gp gx gA gC gY gZ g_ iw iA iM iP iY i_ k8 lx lB lC lF lI lL lP β:Type}(x:e_×fu×fF×fG×fO×f_×gp×gx×gA×gC×gY×gZ×g_×iw×iA×iM×iP×iY×i_×k8×lx×lB×lC×lF×lI×lL×lP×β):β:=x.2.2.2.2.2.2.2.2.2.2.2.2.2.2.2.2.2.2.2.2.2.2.2.2.2.2.2
def C4{e_ fu fF fG fO f_ gp gx gA gC gY gZ g_ iw iA iM iP iY i_ k8 lx lB lC lF lI lL lP lT β:Type}(x:e_×fu×fF×fG×fO×f_×gp×gx×gA×gC×gY×gZ×g_×iw×iA×iM×iP×iY×i_×k8×lx×lB×lC×lF×lI×lL×lP×lT×β):β:=x.2.2.2.2.2.2.2.2.2.2.2.2.2.2.2.2.2.2.2.2.2.2.2.2.2.2.2.2
def C5{e_ fu fF fG fO f_ gp gx gA gC gY gZ g_ iw iA iM iP iY i_ k8 lx lB lC lF lI lL lP lT lY β:Type}(x:e_×fu×fF×fG×fO×f_×gp×gx×gA×gC×gY×gZ×g_×iw×iA×iM×iP×iY×i_×k8×lx×lB×lC×lF×lI×lL×lP×lT×lY×β):β:=x.2.2.2.2.2.2.2.2.2.2.2.2.2.2.2.2.2.2.2.2.2.2.2.2.2.2.2.2.2
def C6{e_ fu fF fG fO f_ gp gx gA gC gY gZ g_ iw iA iM iP iY i_ k8 lx lB lC lF lI lL lP lT lY l4 β:Type}(x:e_×fu×fF×fG×fO×f_×gp×gx×gA×gC×gY×gZ×g_×iw×iA×iM×iP×iY×i_×k8×lx×lB×lC×lF×lI×lL×lP×lT×lY×l4×β):β:=x.2.2.2.2.2.2.2.2.2.2.2.2.2.2.2.2.2.2.2.2.2.2.2.2.2.2.2.2.2.2
def C7{e_ fu fF fG fO f_ gp gx gA gC gY gZ g_ iw iA iM iP iY i_ k8 lx lB lC lF lI lL lP lT lY l4 l8 β:Type}(x:e_×fu×fF×fG×fO×f_×gp×gx×gA×gC×gY×gZ×g_×iw×iA×iM×iP×iY×i_×k8×lx×lB×lC×lF×lI×lL×lP×lT×lY×l4×l8×β):β:=x.2.2.2.2.2.2.2.2.2.2.2.2.2.2.2.2.2.2.2.2.2.2.2.2.2.2.2.2.2.2.2
def af5{e_ fu fF fG fO f_ gp gx gA gC gY gZ g_ iw iA iM iP iY i_ k8 lx lB lC lF lI lL lP lT lY l4 l8 ma β:Type}(x:e_×fu×fF×fG×fO×f_×gp×gx×gA×gC×gY×gZ×g_×iw×iA×iM×iP×iY×i_×k8×lx×lB×lC×lF×lI×lL×lP×lT×lY×l4×l8×ma×β):β:=x.2.2.2.2.2.2.2.2.2.2.2.2.2.2.2.2.2.2.2.2.2.2.2.2.2.2.2.2.2.2.2.2
def af6{e_ fu fF fG fO f_ gp gx gA gC gY gZ g_ iw iA iM iP iY i_ k8 lx lB lC lF lI lL lP lT lY l4 l8 ma mb β:Type}(x:e_×fu×fF×fG×fO×f_×gp×gx×gA×gC×gY×gZ×g_×iw×iA×iM×iP×iY×i_×k8×lx×lB×lC×lF×lI×lL×lP×lT×lY×l4×l8×ma×mb×β):β:=x.2.2.2.2.2.2.2.2.2.2.2.2.2.2.2.2.2.2.2.2.2.2.2.2.2.2.2.2.2.2.2.2.2
def af7{e_ fu fF fG fO f_ gp gx gA gC gY gZ g_ iw iA iM iP iY i_ k8 lx lB lC lF lI lL lP lT lY l4 l8 ma mb me β:Type}(x:e_×fu×fF×fG×fO×f_×gp×gx×gA×gC×gY×gZ×g_×iw×iA×iM×iP×iY×i_×k8×lx×lB×lC×lF×lI×lL×lP×lT×lY×l4×l8×ma×mb×me×β):β:=x.2.2.2.2.2.2.2.2.2.2.2.2.2.2.2.2.2.2.2.2.2.2.2.2.2.2.2.2.2.2.2.2.2.2
def af8{e_ fu fF fG fO f_ gp gx gA gC gY gZ g_ iw iA iM iP iY i_ k8 lx lB lC lF lI lL lP lT lY l4 l8 ma mb me mg β:Type}(x:e_×fu×fF×fG×fO×f_×gp×gx×gA×gC×gY×gZ×g_×iw×iA×iM×iP×iY×i_×k8×lx×lB×lC×lF×lI×lL×lP×lT×lY×l4×l8×ma×mb×me×mg×β):β:=x.2.2.2.2.2.2.2.2.2.2.2.2.2.2.2.2.2.2.2.2.2.2.2.2.2.2.2.2.2.2.2.2.2.2.2
def af9{e_ fu fF fG fO f_ gp gx gA gC gY gZ g_ iw iA iM iP iY i_ k8 lx lB lC lF lI lL lP lT lY l4 l8 ma mb me mg mh β:Type}(x:e_×fu×fF×fG×fO×f_×gp×gx×gA×gC×gY×gZ×g_×iw×iA×iM×iP×iY×i_×k8×lx×lB×lC×lF×lI×lL×lP×lT×lY×l4×l8×ma×mb×me×mg×mh×β):β:=x.2.2.2.2.2.2.2.2.2.2.2.2.2.2.2.2.2.2.2.2.2.2.2.2.2.2.2.2.2.2.2.2.2.2.2.2
def af_{e_ fu fF fG fO f_ gp gx gA gC gY gZ g_ iw iA iM iP iY i_ k8 lx lB lC lF lI lL lP lT lY l4 l8 ma mb me mg mh mq β:Type}(x:e_×fu×fF×fG×fO×f_×gp×gx×gA×gC×gY×gZ×g_×iw×iA×iM×iP×iY×i_×k8×lx×lB×lC×lF×lI×lL×lP×lT×lY×l4×l8×ma×mb×me×mg×mh×mq×β):β:=x.2.2.2.2.2.2.2.2.2.2.2.2.2.2.2.2.2.2.2.2.2.2.2.2.2.2.2.2.2.2.2.2.2.2.2.2.2
def af'{e_ fu fF fG fO f_ gp gx gA gC gY gZ g_ iw iA iM iP iY i_ k8 lx lB lC lF lI lL lP lT lY l4 l8 ma mb me mg mh mq mw β:Type}(x:e_×fu×fF×fG×fO×f_×gp×gx×gA×gC×gY×gZ×g_×iw×iA×iM×iP×iY×i_×k8×lx×lB×lC×lF×lI×lL×lP×lT×lY×l4×l8×ma×mb×me×mg×mh×mq×mw×β):β:=x.2.2.2.2.2.2.2.2.2.2.2.2.2.2.2.2.2.2.2.2.2.2.2.2.2.2.2.2.2.2.2.2.2.2.2.2.2.2
def aga{e_ fu fF fG fO f_ gp gx gA gC gY gZ g_ iw iA iM iP iY i_ k8 lx lB lC lF lI lL lP lT lY l4 l8 ma mb me mg mh mq mw mC β:Type}(x:e_×fu×fF×fG×fO×f_×gp×gx×gA×gC×gY×gZ×g_×iw×iA×iM×iP×iY×i_×k8×lx×lB×lC×lF×lI×lL×lP×lT×lY×l4×l8×ma×mb×me×mg×mh×mq×mw×mC×β):β:=x.2.2.2.2.2.2.2.2.2.2.2.2.2.2.2.2.2.2.2.2.2.2.2.2.2.2.2.2.2.2.2.2.2.2.2.2.2.2.2
def agb{e_ fu fF fG fO f_ gp gx gA gC gY gZ g_ iw iA iM iP iY i_ k8 lx lB lC lF lI lL lP lT lY l4 l8 ma mb me mg mh mq mw mC mH β:Type}(x:e_×fu×fF×fG×fO×f_×gp×gx×gA×gC×gY×gZ×g_×iw×iA×iM×iP×iY×i_×k8×lx×lB×lC×lF×lI×lL×lP×lT×lY×l4×l8×ma×mb×me×mg×mh×mq×mw×mC×mH×β):β:=x.2.2.2.2.2.2.2.2.2.2.2.2.2.2.2.2.2.2.2.2.2.2.2.2.2.2.2.2.2.2.2.2.2.2.2.2.2.2.2.2
def agc{e_ fu fF fG fO f_ gp gx gA gC gY gZ g_ iw iA iM iP iY i_ k8 lx lB lC lF lI lL lP lT lY l4 l8 ma mb me mg mh mq mw mC mH mQ β:Type}(x:e_×fu×fF×fG×fO×f_×gp×gx×gA×gC×gY×gZ×g_×iw×iA×iM×iP×iY×i_×k8×lx×lB×lC×lF×lI×lL×lP×lT×lY×l4×l8×ma×mb×me×mg×mh×mq×mw×mC×mH×mQ×β):β:=x.2.2.2.2.2.2.2.2.2.2.2.2.2.2.2.2.2.2.2.2.2.2.2.2.2.2.2.2.2.2.2.2.2.2.2.2.2.2.2.2.2
def agd{e_ fu fF fG fO f_ gp gx gA gC gY gZ g_ iw iA iM iP iY i_ k8 lx lB lC lF lI lL lP lT lY l4 l8 ma mb me mg mh mq mw mC mH mQ nc β:Type}(x:e_×fu×fF×fG×fO×f_×gp×gx×gA×gC×gY×gZ×g_×iw×iA×iM×iP×iY×i_×k8×lx×lB×lC×lF×lI×lL×lP×lT×lY×l4×l8×ma×mb×me×mg×mh×mq×mw×mC×mH×mQ×nc×β):β:=x.2.2.2.2.2.2.2.2.2.2.2.2.2.2.2.2.2.2.2.2.2.2.2.2.2.2.2.2.2.2.2.2.2.2.2.2.2.2.2.2.2.2
def age{e_ fu fF fG fO f_ gp gx gA gC gY gZ g_ iw iA iM iP iY i_ k8 lx lB lC lF lI lL lP lT lY l4 l8 ma mb me mg mh mq mw mC mH mQ nc nn β:Type}(x:e_×fu×fF×fG×fO×f_×gp×gx×gA×gC×gY×gZ×g_×iw×iA×iM×iP×iY×i_×k8×lx×lB×lC×lF×lI×lL×lP×lT×lY×l4×l8×ma×mb×me×mg×mh×mq×mw×mC×mH×mQ×nc×nn×β):β:=x.2.2.2.2.2.2.2.2.2.2.2.2.2.2.2.2.2.2.2.2.2.2.2.2.2.2.2.2.2.2.2.2.2.2.2.2.2.2.2.2.2.2.2
def agf{e_ fu fF fG fO f_ gp gx gA gC gY gZ g_ iw iA iM iP iY i_ k8 lx lB lC lF lI lL lP lT lY l4 l8 ma mb me mg mh mq mw mC mH mQ nc nn nx β:Type}(x:e_×fu×fF×fG×fO×f_×gp×gx×gA×gC×gY×gZ×g_×iw×iA×iM×iP×iY×i_×k8×lx×lB×lC×lF×lI×lL×lP×lT×lY×l4×l8×ma×mb×me×mg×mh×mq×mw×mC×mH×mQ×nc×nn×nx×β):β:=x.2.2.2.2.2.2.2.2.2.2.2.2.2.2.2.2.2.2.2.2.2.2.2.2.2.2.2.2.2.2.2.2.2.2.2.2.2.2.2.2.2.2.2.2
def agh{e_ fu fF fG fO f_ gp gx gA gC gY gZ g_ iw iA iM iP iY i_ k8 lx lB lC lF lI lL lP lT lY l4 l8 ma mb me mg mh mq mw mC mH mQ nc nn nx nJ β:Type}(x:e_×fu×fF×fG×fO×f_×gp×gx×gA×gC×gY×gZ×g_×iw×iA×iM×iP×iY×i_×k8×lx×lB×lC×lF×lI×lL×lP×lT×lY×l4×l8×ma×mb×me×mg×mh×mq×mw×mC×mH×mQ×nc×nn×nx×nJ×β):β:=x.2.2.2.2.2.2.2.2.2.2.2.2.2.2.2.2.2.2.2.2.2.2.2.2.2.2.2.2.2.2.2.2.2.2.2.2.2.2.2.2.2.2.2.2.2
def agi{e_ fu fF fG fO f_ gp gx gA gC gY gZ g_ iw iA iM iP iY i_ k8 lx lB lC lF lI lL lP lT lY l4 l8 ma mb me mg mh mq mw mC mH mQ nc nn nx nJ nY β:Type}(x:e_×fu×fF×fG×fO×f_×gp×gx×gA×gC×gY×gZ×g_×iw×iA×iM×iP×iY×i_×k8×lx×lB×lC×lF×lI×lL×lP×lT×lY×l4×l8×ma×mb×me×mg×mh×mq×mw×mC×mH×mQ×nc×nn×nx×nJ×nY×β):β:=x.2.2.2.2.2.2.2.2.2.2.2.2.2.2.2.2.2.2.2.2.2.2.2.2.2.2.2.2.2.2.2.2.2.2.2.2.2.2.2.2.2.2.2.2.2.2
def agj{e_ fu fF fG fO f_ gp gx gA gC gY gZ g_ iw iA iM iP iY i_ k8 lx lB lC lF lI lL lP lT lY l4 l8 ma mb me mg mh mq mw mC mH mQ nc nn nx nJ nY pA β:Type}(x:e_×fu×fF×fG×fO×f_×gp×gx×gA×gC×gY×gZ×g_×iw×iA×iM×iP×iY×i_×k8×lx×lB×lC×lF×lI×lL×lP×lT×lY×l4×l8×ma×mb×me×mg×mh×mq×mw×mC×mH×mQ×nc×nn×nx×nJ×nY×pA×β):β:=x.2.2.2.2.2.2.2.2.2.2.2.2.2.2.2.2.2.2.2.2.2.2.2.2.2.2.2.2.2.2.2.2.2.2.2.2.2.2.2.2.2.2.2.2.2.2.2
def agk{e_ fu fF fG fO f_ gp gx gA gC gY gZ g_ iw iA iM iP iY i_ k8 lx lB lC lF lI lL lP lT lY l4 l8 ma mb me mg mh mq mw mC mH mQ nc nn nx nJ nY pA pL β:Type}(x:e_×fu×fF×fG×fO×f_×gp×gx×gA×gC×gY×gZ×g_×iw×iA×iM×iP×iY×i_×k8×lx×lB×lC×lF×lI×lL×lP×lT×lY×l4×l8×ma×mb×me×mg×mh×mq×mw×mC×mH×mQ×nc×nn×nx×nJ×nY×pA×pL×β):β:=x.2.2.2.2.2.2.2.2.2.2.2.2.2.2.2.2.2.2.2.2.2.2.2.2.2.2.2.2.2.2.2.2.2.2.2.2.2.2.2.2.2.2.2.2.2.2.2.2
def agl{e_ fu fF fG fO f_ gp gx gA gC gY gZ g_ iw iA iM iP iY i_ k8 lx lB lC lF lI lL lP lT lY l4 l8 ma mb me mg mh mq mw mC mH mQ nc nn nx nJ nY pA pL p9 β:Type}(x:e_×fu×fF×fG×fO×f_×gp×gx×gA×gC×gY×gZ×g_×iw×iA×iM×iP×iY×i_×k8×lx×lB×lC×lF×lI×lL×lP×lT×lY×l4×l8×ma×mb×me×mg×mh×mq×mw×mC×mH×mQ×nc×nn×nx×nJ×nY×pA×pL×p9×β):β:=x.2.2.2.2.2.2.2.2.2.2.2.2.2.2.2.2.2.2.2.2.2.2.2.2.2.2.2.2.2.2.2.2.2.2.2.2.2.2.2.2.2.2.2.2.2.2.2.2.2
def agm{e_ fu fF fG fO f_ gp gx gA gC gY gZ g_ iw iA iM iP iY i_ k8 lx lB lC lF lI lL lP lT lY l4 l8 ma mb me mg mh mq mw mC mH mQ nc nn nx nJ nY pA pL p9 rP β:Type}(x:e_×fu×fF×fG×fO×f_×gp×gx×gA×gC×gY×gZ×g_×iw×iA×iM×iP×iY×i_×k8×lx×lB×lC×lF×lI×lL×lP×lT×lY×l4×l8×ma×mb×me×mg×mh×mq×mw×mC×mH×mQ×nc×nn×nx×nJ×nY×pA×pL×p9×rP×β):β:=x.2.2.2.2.2.2.2.2.2.2.2.2.2.2.2.2.2.2.2.2.2.2.2.2.2.2.2.2.2.2.2.2.2.2.2.2.2.2.2.2.2.2.2.2.2.2.2.2.2.2
def agn{e_ fu fF fG fO f_ gp gx gA gC gY gZ g_ iw iA iM iP iY i_ k8 lx lB lC lF lI lL lP lT lY l4 l8 ma mb me mg mh mq mw mC mH mQ nc nn nx nJ nY pA pL p9 rP sq β:Type}(x:e_×fu×fF×fG×fO×f_×gp×gx×gA×gC×gY×gZ×g_×iw×iA×iM×iP×iY×i_×k8×lx×lB×lC×lF×lI×lL×lP×lT×lY×l4×l8×ma×mb×me×mg×mh×mq×mw×mC×mH×mQ×nc×nn×nx×nJ×nY×pA×pL×p9×rP×sq×β):β:=x.2.2.2.2.2.2.2.2.2.2.2.2.2.2.2.2.2.2.2.2.2.2.2.2.2.2.2.2.2.2.2.2.2.2.2.2.2.2.2.2.2.2.2.2.2.2.2.2.2.2.2
def ago{e_ fu fF fG fO f_ gp gx gA gC gY gZ g_ iw iA iM iP iY i_ k8 lx lB lC lF lI lL lP lT lY l4 l8 ma mb me mg mh mq mw mC mH mQ nc nn nx nJ nY pA pL p9 rP sq sR β:Type}(x:e_×fu×fF×fG×fO×f_×gp×gx×gA×gC×gY×gZ×g_×iw×iA×iM×iP×iY×i_×k8×lx×lB×lC×lF×lI×lL×lP×lT×lY×l4×l8×ma×mb×me×mg×mh×mq×mw×mC×mH×mQ×nc×nn×nx×nJ×nY×pA×pL×p9×rP×sq×sR×β):β:=x.2.2.2.2.2.2.2.2.2.2.2.2.2.2.2.2.2.2.2.2.2.2.2.2.2.2.2.2.2.2.2.2.2.2.2.2.2.2.2.2.2.2.2.2.2.2.2.2.2.2.2.2
def agp{e_ fu fF fG fO f_ gp gx gA gC gY gZ g_ iw iA iM iP iY i_ k8 lx lB lC lF lI lL lP lT lY l4 l8 ma mb me mg mh mq mw mC mH mQ nc nn nx nJ nY pA pL p9 rP sq sR tx β:Type}(x:e_×fu×fF×fG×fO×f_×gp×gx×gA×gC×gY×gZ×g_×iw×iA×iM×iP×iY×i_×k8×lx×lB×lC×lF×lI×lL×lP×lT×lY×l4×l8×ma×mb×me×mg×mh×mq×mw×mC×mH×mQ×nc×nn×nx×nJ×nY×pA×pL×p9×rP×sq×sR×tx×β):β:=x.2.2.2.2.2.2.2.2.2.2.2.2.2.2.2.2.2.2.2.2.2.2.2.2.2.2.2.2.2.2.2.2.2.2.2.2.2.2.2.2.2.2.2.2.2.2.2.2.2.2.2.2.2
def agq{e_ fu fF fG fO f_ gp gx gA gC gY gZ g_ iw iA iM iP iY i_ k8 lx lB lC lF lI lL lP lT lY l4 l8 ma mb me mg mh mq mw mC mH mQ nc nn nx nJ nY pA pL p9 rP sq sR tx Bg β:Type}(x:e_×fu×fF×fG×fO×f_×gp×gx×gA×gC×gY×gZ×g_×iw×iA×iM×iP×iY×i_×k8×lx×lB×lC×lF×lI×lL×lP×lT×lY×l4×l8×ma×mb×me×mg×mh×mq×mw×mC×mH×mQ×nc×nn×nx×nJ×nY×pA×pL×p9×rP×sq×sR×tx×Bg×β):β:=x.2.2.2.2.2.2.2.2.2.2.2.2.2.2.2.2.2.2.2.2.2.2.2.2.2.2.2.2.2.2.2.2.2.2.2.2.2.2.2.2.2.2.2.2.2.2.2.2.2.2.2.2.2.2
def agr{e_ fu fF fG fO f_ gp gx gA gC gY gZ g_ iw iA iM iP iY i_ k8 lx lB lC lF lI lL lP lT lY l4 l8 ma mb me mg mh mq mw mC mH mQ nc nn nx nJ nY pA pL p9 rP sq sR tx Bg Cs β:Type}(x:e_×fu×fF×fG×fO×f_×gp×gx×gA×gC×gY×gZ×g_×iw×iA×iM×iP×iY×i_×k8×lx×lB×lC×lF×lI×lL×lP×lT×lY×l4×l8×ma×mb×me×mg×mh×mq×mw×mC×mH×mQ×nc×nn×nx×nJ×nY×pA×pL×p9×rP×sq×sR×tx×Bg×Cs×β):β:=x.2.2.2.2.2.2.2.2.2.2.2.2.2.2.2.2.2.2.2.2.2.2.2.2.2.2.2.2.2.2.2.2.2.2.2.2.2.2.2.2.2.2.2.2.2.2.2.2.2.2.2.2.2.2.2
def ags{e_ fu fF fG fO f_ gp gx gA gC gY gZ g_ iw iA iM iP iY i_ k8 lx lB lC lF lI lL lP lT lY l4 l8 ma mb me mg mh mq mw mC mH mQ nc nn nx nJ nY pA pL p9 rP sq sR tx Bg Cs EF β:Type}(x:e_×fu×fF×fG×fO×f_×gp×gx×gA×gC×gY×gZ×g_×iw×iA×iM×iP×iY×i_×k8×lx×lB×lC×lF×lI×lL×lP×lT×lY×l4×l8×ma×mb×me×mg×mh×mq×mw×mC×mH×mQ×nc×nn×nx×nJ×nY×pA×pL×p9×rP×sq×sR×tx×Bg×Cs×EF×β):β:=x.2.2.2.2.2.2.2.2.2.2.2.2.2.2.2.2.2.2.2.2.2.2.2.2.2.2.2.2.2.2.2.2.2.2.2.2.2.2.2.2.2.2.2.2.2.2.2.2.2.2.2.2.2.2.2.2
def agt{e_ fu fF fG fO f_ gp gx gA gC gY gZ g_ iw iA iM iP iY i_ k8 lx lB lC lF lI lL lP lT lY l4 l8 ma mb me mg mh mq mw mC mH mQ nc nn nx nJ nY pA pL p9 rP sq sR tx Bg Cs EF I9 β:Type}(x:e_×fu×fF×fG×fO×f_×gp×gx×gA×gC×gY×gZ×g_×iw×iA×iM×iP×iY×i_×k8×lx×lB×lC×lF×lI×lL×lP×lT×lY×l4×l8×ma×mb×me×mg×mh×mq×mw×mC×mH×mQ×nc×nn×nx×nJ×nY×pA×pL×p9×rP×sq×sR×tx×Bg×Cs×EF×I9×β):β:=x.2.2.2.2.2.2.2.2.2.2.2.2.2.2.2.2.2.2.2.2.2.2.2.2.2.2.2.2.2.2.2.2.2.2.2.2.2.2.2.2.2.2.2.2.2.2.2.2.2.2.2.2.2.2.2.2.2
def agu{e_ fu fF fG fO f_ gp gx gA gC gY gZ g_ iw iA iM iP iY i_ k8 lx lB lC lF lI lL lP lT lY l4 l8 ma mb me mg mh mq mw mC mH mQ nc nn nx nJ nY pA pL p9 rP sq sR tx Bg Cs EF I9 SB β:Type}(x:e_×fu×fF×fG×fO×f_×gp×gx×gA×gC×gY×gZ×g_×iw×iA×iM×iP×iY×i_×k8×lx×lB×lC×lF×lI×lL×lP×lT×lY×l4×l8×ma×mb×me×mg×mh×mq×mw×mC×mH×mQ×nc×nn×nx×nJ×nY×pA×pL×p9×rP×sq×sR×tx×Bg×Cs×EF×I9×SB×β):β:=x.2.2.2.2.2.2.2.2.2.2.2.2.2.2.2.2.2.2.2.2.2.2.2.2.2.2.2.2.2.2.2.2.2.2.2.2.2.2.2.2.2.2.2.2.2.2.2.2.2.2.2.2.2.2.2.2.2.2
def agv{e_ fu fF fG fO f_ gp gx gA gC gY gZ g_ iw iA iM iP iY i_ k8 lx lB lC lF lI lL lP lT lY l4 l8 ma mb me mg mh mq mw mC mH mQ nc nn nx nJ nY pA pL p9 rP sq sR tx Bg Cs EF I9 SB afl β:Type}(x:e_×fu×fF×fG×fO×f_×gp×gx×gA×gC×gY×gZ×g_×iw×iA×iM×iP×iY×i_×k8×lx×lB×lC×lF×lI×lL×lP×lT×lY×l4×l8×ma×mb×me×mg×mh×mq×mw×mC×mH×mQ×nc×nn×nx×nJ×nY×pA×pL×p9×rP×sq×sR×tx×Bg×Cs×EF×I9×SB×afl×β):β:=x.2.2.2.2.2.2.2.2.2.2.2.2.2.2.2.2.2.2.2.2.2.2.2.2.2.2.2.2.2.2.2.2.2.2.2.2.2.2.2.2.2.2.2.2.2.2.2.2.2.2.2.2.2.2.2.2.2.2.2
variable[KY]
def Cc{a b:Prop}(h:a=b)(x:a):b:=h▸x
def k1:List TC:=[bZ,bT,bV,bC,bR,zZ,eo,i6]
def h2:List (Nat×TO):=[(900000000,.rw 1),(900000001,.rw 2),(900000002,.rw 3),(900000003,.rw 4)]
def h3(v0 v1 v2 v3 v4:Nat):List (Nat×TO):=[(900000000,.rw 1),(900000001,.rw 2),(900000002,.rw 3),(900000003,.rw 4),(v0,.box 98 [dI v1,.d .s v2,dI v3,dI v4])]
def h4(v0 v1 v2 v3:Nat):List (Nat×TO):=[(v0,.row v1 (.st v2) v3 bf)]
def h5(v0 v1 v2 v3 v4 v5 v6 v7 v8 v9 v10 v11 v12 pt pw pJ pK pz rm rn v20 v21 v22 v23 v24 v25 v26 v27 v28 v29 v30:Nat):List (Nat×TO):=[(900000000,.rw 1),(900000001,.rw 2),(900000002,.rw 3),(900000003,.rw 4),(v0,.box 41 [dI v1,.d .s v2,.d .s v3,dI v4,.d .s v5,.d aR v6,.d aR v7,dI v8,dI v9,dI v10,.d .b v11,dI v12,dI pt,dI pw,.d .s pJ,.d .s pK,.d aZ pz,dI rm,dI rn,dI v20,dI v21,dI v22,dI v23,dI v24,dI v25,dI v26,.d .s v27,.d .s v28,.d aZ v29,.d gu v30])]
abbrev XG:List (Nat×TO):=(h5 1000002 4 5 5 4 5 6 6 4 4 4 7 4 4 4 5 5 8 4 4 4 4 4 4 4 4 4 5 5 8 9)
def k6:List TC:=[i6,i6,.s,.s,i6,.s,aR,aR,i6,i6,i6,.b,i6,i6,i6,.s,.s,aZ,i6,i6,i6,i6,i6,i6,i6,i6,i6,.s,.s,aZ,gu]
def k7:List TC:=[oz,i6,i6,i6,i6,.s,aR,.b,aZ,gu]
def h8(v0 v1 v2 v3 v4 v5 v6 v7 v8 v9 v10 v11 v12 pt pw pJ pK pz rm rn v20 v21 v22 v23 v24 v25:Nat):List (Nat×TO):=[(900000000,.rw 1),(900000001,.rw 2),(900000002,.rw 3),(900000003,.rw 4),(1000002,.box 41 [dI v0,.d .s v1,.d .s v1,dI v2,.d .s v1,.d aR v3,.d aR v3,dI v4,dI v5,dI v6,.d .b v7,dI v8,dI v9,dI v10,.d .s v1,.d .s v1,.d aZ v11,dI v12,dI pt,dI pw,dI pJ,dI pK,dI pz,dI rm,dI rn,dI v20,.d .s v1,.d .s v1,.d aZ v11,.d gu v21]),(1000011,.box 41 [dI v22,.d .s 23,.d .s v23,dI v24,.d .s v1,.d aR v3,.d aR v3,dI v25,dI v25,dI v25,.d .b v7,dI v25,dI v25,dI v25,.d .s v1,.d .s v1,.d aZ v11,dI v25,dI v25,dI v25,dI v25,dI v25,dI v25,dI v25,dI v25,dI v25,.d .s v1,.d .s v1,.d aZ v11,.d gu v21])]
def k9:List TC:=[i6,i6,.s,i6,aR,i6,i6,i6,.b,i6,i6,i6,aZ,i6,i6,i6,i6,i6,i6,i6,i6,i6,gu,.s,i6,i6]
def O5:List TC:=[i6,.s,i6,aR,i6,i6,i6,.b,i6,i6,i6,aZ,i6,i6,i6,i6,i6,i6,i6,i6,i6,gu,i6,.s,.s,i6,i6]
def pX(v0 v1:Nat):List (Nat×TO):=[(900000000,.rw 1),(900000001,.rw 2),(900000002,.rw 3),(900000003,.rw 4),(v0,.row 93 oz v1 bf)]
def tG(v0 v1 v2 v3 v4 v5 v6 v7 v8:Nat):List (Nat×TO):=[(v0,.box 30 [.d bZ v1,.d bT v2,.d bV v3,.d bC v4,.d bR v5,.d zZ v6,.d eo v7,dI v8])]
abbrev tP:List (Nat×TO):=(tG 1000001 0 1 2 3 4 5 6 7)
def rE(v0:Nat):List (Nat×TO):=[(900000000,.rw 1),(900000001,.rw 2),(900000002,.rw 3),(900000003,.rw 4),(7000001,.row 9 .s v0 bf)]
def Uk:List (Nat×TO):=[(900000000,.rw 1),(900000001,.rw 2),(900000002,.rw 3),(900000003,.rw 4),(1000002,.box 34 [dI 1,dI 2,.d .s 3,.d .s 4,.d aZ 5])]
def LJ:List TC:=[i6,i6,i6,.s,.s,aZ]
def tc(v0 v1 v2 v3 v4 v5:Nat):List (Nat×TO):=[(900000000,.rw 1),(900000001,.rw 2),(900000002,.rw 3),(900000003,.rw 4),(1000002,.box 34 [dI v0,dI v1,.d .s v2,.d .s v3,.d aZ v4]),(1000005,.box 34 [dI v0,dI 7,.d .s 8,.d .s v5,.d aZ v4])]
def Of(v0 v1 v2 v3 v4 v5 v6 v7 v8 v9 v10 v11 v12 pt pw pJ pK pz rm rn v20 v21 v22 v23 v24 v25 v26 v27 v28 v29 v30 v31 v32 v33 Pe v35 v36 v37 Pf Ph v40 v41:Nat):List (Nat×TO):=[(v0,.box 38 [.d .s v1,.d aR v2,.d aR v3,dI v4,dI v5,dI v6,.d .b v7,dI v8,dI v9,dI v10,.d .s v11,.d .s v12,.d aZ pt,dI pw,dI pJ,dI pK,dI pz,dI rm,dI rn,dI v20]),(v21,.box 38 [.d .s v22,.d aR v23,.d aR v24,dI v25,dI v26,dI v27,.d .b v28,dI v29,dI v30,dI v31,.d .s v32,.d .s v33,.d aZ Pe,dI v35,dI v36,dI v37,dI Pf,dI Ph,dI v40,dI v41])]
abbrev S_:List (Nat×TO):=(Of 1000002 0 1 2 3 4 5 6 7 8 9 10 11 12 13 14 15 16 17 18 19 1000003 20 21 22 23 24 25 26 27 28 29 30 31 32 33 34 35 36 37 38 39)
def O6:List TC:=[.s,aR,aR,i6,i6,i6,.b,i6,i6,i6,.s,.s,aZ,i6,i6,i6,i6,i6,i6,i6,.s,aR,aR,i6,i6,i6,.b,i6,i6,i6,.s,.s,aZ,i6,i6,i6,i6,i6,i6,i6]
def Vk:List TC:=[.s,aR,aR,i6,i6,i6,.b,i6,i6,i6,.s,.s,aZ,i6,i6,i6,i6,i6,i6,i6]
def nC(v0 v1 v2 v3 v4 v5 v6 v7 v8:Nat):List (Nat×TO):=[(900000000,.rw 1),(900000001,.rw 2),(900000002,.rw 3),(900000003,.rw 4),(v0,.box 30 [.d bZ v1,.d bT v2,.d bV v3,.d bC v4,.d bR v5,.d zZ v6,.d eo v7,dI v8])]
def Ul(v0 v1 v2 v3 v4 v5 v6 v7:Nat):List (Nat×TO):=[(900000000,.rw 1),(900000001,.rw 2),(900000002,.rw 3),(900000003,.rw 4),(1000001,.box 30 [.d bZ v0,.d bT v1,.d bV v2,.d bC v3,.d bR v4,.d zZ 0,.d eo v5,dI v6]),(1000170,.row 77 (.st 9) v7 bf)]
def Og(v0 v1 v2 v3 v4 v5 v6 v7 v8 v9 v10 v11 v12 pt pw pJ pK pz rm rn v20 v21 v22 v23 v24 v25 v26 v27 v28 v29 v30:Nat):List (Nat×TO):=[(v0,.box 41 [dI v1,.d .s v2,.d .s v3,dI v4,.d .s v5,.d aR v6,.d aR v7,dI v8,dI v9,dI v10,.d .b v11,dI v12,dI pt,dI pw,.d .s pJ,.d .s pK,.d aZ pz,dI rm,dI rn,dI v20,dI v21,dI v22,dI v23,dI v24,dI v25,dI v26,.d .s v27,.d .s v28,.d aZ v29,.d gu v30])]
abbrev Nk:List (Nat×TO):=(Og 1 0 1 2 3 4 5 6 7 8 9 10 11 12 13 14 15 16 17 18 19 20 21 22 23 24 25 26 27 28 29)
abbrev KZ:List (Nat×TO):=(Og 1 1 2 3 4 5 6 7 8 9 10 11 12 13 14 15 16 17 18 19 20 21 22 23 24 25 26 27 28 29 30)
def Ec:List TC:=[i6,.s,.s,i6,.s,aR,aR,i6,i6,i6,.b,i6,i6,i6,.s,.s,aZ,i6,i6,i6,i6,i6,i6,i6,i6,i6,.s,.s,aZ,gu]
def Um(v0 v1 v2 v3 v4 v5 v6 v7 v8 v9 v10 v11 v12 pt pw pJ pK pz rm rn v20 v21 v22 v23 v24 v25 v26 v27 v28 v29 v30 v31 v32 v33 Pe v35 v36 v37 Pf Ph v40 v41 ae2 ae3 v44 ae4 v46 ae5 ae6 v49 ae7 v51 ae8 v53 ae9 ae_ ae' v57 afa:Nat):List (Nat×TO):=[(1000002,.box 41 [dI 0,.d .s 1,.d .s v0,dI v1,.d .s v2,.d aR v3,.d aR v4,dI v5,dI v6,dI v7,.d .b v8,dI v9,dI v10,dI v11,.d .s v12,.d .s pt,.d aZ pw,dI pJ,dI pK,dI pz,dI rm,dI rn,dI v20,dI v21,dI v22,dI v23,.d .s v24,.d .s v25,.d aZ v26,.d gu v27]),(v28,.box 41 [dI v29,.d .s v30,.d .s v31,dI v32,.d .s v33,.d aR Pe,.d aR v35,dI v36,dI v37,dI Pf,.d .b Ph,dI v40,dI v41,dI ae2,.d .s ae3,.d .s v44,.d aZ ae4,dI v46,dI ae5,dI ae6,dI v49,dI ae7,dI v51,dI ae8,dI v53,dI ae9,.d .s ae_,.d .s ae',.d aZ v57,.d gu afa])]
abbrev Mp:List (Nat×TO):=(Um 2 3 4 5 6 7 8 9 10 11 12 13 14 15 16 17 18 19 20 21 22 23 24 25 26 27 28 29 1000003 30 31 32 33 34 35 36 37 38 39 40 41 42 43 44 45 46 47 48 49 50 51 52 53 54 55 56 57 58 59)
def Oh(v0 v1 v2 v3 v4 v5 v6 v7 v8 v9 v10 v11 v12 pt pw pJ pK:Nat):List (Nat×TO):=[(1000002,.box 30 [.d bZ v0,.d bT v1,.d bV v2,.d bC v3,.d bR v4,.d zZ v5,.d eo v6,dI v7]),(v8,.box 30 [.d bZ v9,.d bT v10,.d bV v11,.d bC v12,.d bR pt,.d zZ pw,.d eo pJ,dI pK])]
abbrev F6:List (Nat×TO):=(Oh 1 2 3 4 5 6 7 8 1000003 9 10 11 12 13 14 15 16)
abbrev tq:List (Nat×TO):=(Oh 0 1 2 3 4 5 6 7 1000003 8 9 10 11 12 13 14 15)
def Cb:List TC:=[bZ,bT,bV,bC,bR,zZ,eo,i6,bZ,bT,bV,bC,bR,zZ,eo,i6]
def O7:List TC:=[i6,.s,.s,i6,.s,aR,aR,i6,i6,i6,.b,i6,i6,i6,.s,.s,aZ,i6,i6,i6,i6,i6,i6,i6,i6,i6,.s,.s,aZ,gu,i6,.s,.s,i6,.s,aR,aR,i6,i6,i6,.b,i6,i6,i6,.s,.s,aZ,i6,i6,i6,i6,i6,i6,i6,i6,i6,.s,.s,aZ,gu]
def Oi(v0:Nat):List (Nat×TO):=[(900000000,.rw 1),(900000001,.rw 2),(900000002,.rw 3),(900000003,.rw 4),(1000004,.gn 0 .s v0)]
def sM(v0 v1 v2 v3 v4 v5 v6 v7 v8 v9 v10 v11 v12 pt pw pJ pK pz rm rn v20 v21 v22 v23 v24 v25 v26 v27 v28 v29 v30 v31 v32:Nat):List (Nat×TO):=[(1,.row v0 (.st v1) v2 bf),(2,.box 41 [dI v3,.d .s v4,.d .s v5,dI v6,.d .s v7,.d aR v8,.d aR v9,dI v10,dI v11,dI v12,.d .b pt,dI pw,dI pJ,dI pK,.d .s pz,.d .s rm,.d aZ rn,dI v20,dI v21,dI v22,dI v23,dI v24,dI v25,dI v26,dI v27,dI v28,.d .s v29,.d .s v30,.d aZ v31,.d gu v32])]
abbrev XH:List (Nat×TO):=(sM 38 7 0 2 3 4 5 6 7 8 9 10 11 12 13 14 15 16 17 18 19 20 21 22 23 24 25 26 27 28 29 30 31)
abbrev XI:List (Nat×TO):=(sM 38 7 32 2 3 4 5 6 7 8 9 10 11 12 13 14 15 16 17 18 19 20 21 22 23 24 25 26 27 28 29 30 31)
abbrev Mq:List (Nat×TO):=(sM 50 2 0 1 2 3 4 5 6 7 8 9 10 11 12 13 14 15 16 17 18 19 20 21 22 23 24 25 26 27 28 29 30)
abbrev Mr:List (Nat×TO):=(sM 68 1 0 1 2 3 4 5 6 7 8 9 10 11 12 13 14 15 16 17 18 19 20 21 22 23 24 25 26 27 28 29 30)
abbrev Ms:List (Nat×TO):=(sM 70 3 0 1 2 3 4 5 6 7 8 9 10 11 12 13 14 15 16 17 18 19 20 21 22 23 24 25 26 27 28 29 30)
abbrev Mt:List (Nat×TO):=(sM 72 5 0 1 2 3 4 5 6 7 8 9 10 11 12 13 14 15 16 17 18 19 20 21 22 23 24 25 26 27 28 29 30)
abbrev Mu:List (Nat×TO):=(sM 75 8 0 1 2 3 4 5 6 7 8 9 10 11 12 13 14 15 16 17 18 19 20 21 22 23 24 25 26 27 28 29 30)
def Vl:List TC:=[bC,i6,i6,.s,.s,i6,.s,aR,aR,i6,i6,i6,.b,i6,i6,i6,.s,.s,aZ,i6,i6,i6,i6,i6,i6,i6,i6,i6,.s,.s,aZ,gu]
def aep:List TC:=[bC,i6,.s,.s,i6,.s,aR,aR,i6,i6,i6,.b,i6,i6,i6,.s,.s,aZ,i6,i6,i6,i6,i6,i6,i6,i6,i6,.s,.s,aZ,gu,i6]
def GK(v0 v1:Nat):List (Nat×TO):=[(1,.box 41 [dI 0,.d .s 1,.d .s 2,dI 3,.d .s 4,.d aR 5,.d aR 6,dI 7,dI 8,dI 9,.d .b 10,dI 11,dI 12,dI 13,.d .s 14,.d .s 15,.d aZ 16,dI 17,dI 18,dI 19,dI 20,dI 21,dI 22,dI 23,dI 24,dI 25,.d .s 26,.d .s 27,.d aZ 28,.d gu 29]),(103001300,.row v0 (.st v1) 31 bf)]
def Ll:List (Nat×TO):=[(1,.row 38 (.st 7) 0 bf),(2,.box 9 [.d .s 1])]
def Lm:List (Nat×TO):=[(1,.box 9 [.d .s 1]),(2,.box 41 [dI 2,.d .s 3,.d .s 4,dI 5,.d .s 6,.d aR 7,.d aR 8,dI 9,dI 10,dI 11,.d .b 12,dI 13,dI 14,dI 15,.d .s 16,.d .s 17,.d aZ 18,dI 19,dI 20,dI 21,dI 22,dI 23,dI 24,dI 25,dI 26,dI 27,.d .s 28,.d .s 29,.d aZ 30,.d gu 31])]
def aeq:List TC:=[bC,.s,i6,.s,.s,i6,.s,aR,aR,i6,i6,i6,.b,i6,i6,i6,.s,.s,aZ,i6,i6,i6,i6,i6,i6,i6,i6,i6,.s,.s,aZ,gu,i6]
def aer:List TC:=[.s,i6,.s,.s,i6,.s,aR,aR,i6,i6,i6,.b,i6,i6,i6,.s,.s,aZ,i6,i6,i6,i6,i6,i6,i6,i6,i6,.s,.s,aZ,gu]
def aes:List TC:=[bC,.s,i6,.s,.s,i6,.s,aR,aR,i6,i6,i6,.b,i6,i6,i6,.s,.s,aZ,i6,i6,i6,i6,i6,i6,i6,i6,i6,.s,.s,aZ,gu]
def aet:List TC:=[.st 1,i6,.s,.s,i6,.s,aR,aR,i6,i6,i6,.b,i6,i6,i6,.s,.s,aZ,i6,i6,i6,i6,i6,i6,i6,i6,i6,.s,.s,aZ,gu]
def aeu:List TC:=[bZ,i6,.s,.s,i6,.s,aR,aR,i6,i6,i6,.b,i6,i6,i6,.s,.s,aZ,i6,i6,i6,i6,i6,i6,i6,i6,i6,.s,.s,aZ,gu]
def Vm:List TC:=[bZ,i6,.s,.s,i6,.s,aR,aR,i6,i6,i6,.b,i6,i6,i6,.s,.s,aZ,i6,i6,i6,i6,i6,i6,i6,i6,i6,.s,.s,aZ,gu,i6]
def aev:List TC:=[bZ,i6,i6,.s,.s,i6,.s,aR,aR,i6,i6,i6,.b,i6,i6,i6,.s,.s,aZ,i6,i6,i6,i6,i6,i6,i6,i6,i6,.s,.s,aZ,gu]
def aew:List TC:=[.st 3,i6,.s,.s,i6,.s,aR,aR,i6,i6,i6,.b,i6,i6,i6,.s,.s,aZ,i6,i6,i6,i6,i6,i6,i6,i6,i6,.s,.s,aZ,gu]
def aex:List TC:=[bT,i6,.s,.s,i6,.s,aR,aR,i6,i6,i6,.b,i6,i6,i6,.s,.s,aZ,i6,i6,i6,i6,i6,i6,i6,i6,i6,.s,.s,aZ,gu]
def aey:List TC:=[bT,i6,.s,.s,i6,.s,aR,aR,i6,i6,i6,.b,i6,i6,i6,.s,.s,aZ,i6,i6,i6,i6,i6,i6,i6,i6,i6,.s,.s,aZ,gu,i6]
def aez:List TC:=[.st 2,i6,.s,.s,i6,.s,aR,aR,i6,i6,i6,.b,i6,i6,i6,.s,.s,aZ,i6,i6,i6,i6,i6,i6,i6,i6,i6,.s,.s,aZ,gu]
def aeA:List TC:=[iS,i6,.s,.s,i6,.s,aR,aR,i6,i6,i6,.b,i6,i6,i6,.s,.s,aZ,i6,i6,i6,i6,i6,i6,i6,i6,i6,.s,.s,aZ,gu]
def Vn:List TC:=[iS,i6,.s,.s,i6,.s,aR,aR,i6,i6,i6,.b,i6,i6,i6,.s,.s,aZ,i6,i6,i6,i6,i6,i6,i6,i6,i6,.s,.s,aZ,gu,i6]
def aeB:List TC:=[iS,i6,i6,.s,.s,i6,.s,aR,aR,i6,i6,i6,.b,i6,i6,i6,.s,.s,aZ,i6,i6,i6,i6,i6,i6,i6,i6,i6,.s,.s,aZ,gu]
def Un(v0 v1:Nat):List (Nat×TO):=[(1,.row 70 (.st 3) v0 bf),(2,.box 41 [dI 2,.d .s 3,.d .s 4,dI 5,.d .s 6,.d aR 7,.d aR 8,dI 9,dI 10,dI 11,.d .b 12,dI 13,dI 14,dI 15,.d .s 16,.d .s 17,.d aZ 18,dI 19,dI 20,dI 21,dI 22,dI 23,dI 24,dI 25,dI 26,dI 27,.d .s 28,.d .s 29,.d aZ 30,.d gu 31]),(3,.box 46 [dI v1])]
def aeC:List TC:=[bT,i6,i6,.s,.s,i6,.s,aR,aR,i6,i6,i6,.b,i6,i6,i6,.s,.s,aZ,i6,i6,i6,i6,i6,i6,i6,i6,i6,.s,.s,aZ,gu,i6]
def Uo(v0:Nat):List (Nat×TO):=[(1,.box 41 [dI 1,.d .s 2,.d .s 3,dI 4,.d .s 5,.d aR 6,.d aR 7,dI 8,dI 9,dI 10,.d .b 11,dI 12,dI 13,dI 14,.d .s 15,.d .s 16,.d aZ 17,dI 18,dI 19,dI 20,dI 21,dI 22,dI 23,dI 24,dI 25,dI 26,.d .s 27,.d .s 28,.d aZ 29,.d gu 30]),(2,.box 46 [dI v0])]
def aeD:List TC:=[bT,i6,.s,.s,i6,.s,aR,aR,i6,i6,i6,.b,i6,i6,i6,.s,.s,aZ,i6,i6,i6,i6,i6,i6,i6,i6,i6,.s,.s,aZ,gu,i6,i6]
def aeE:List TC:=[i6,.s,.s,i6,.s,aR,aR,i6,i6,i6,.b,i6,i6,i6,.s,.s,aZ,i6,i6,i6,i6,i6,i6,i6,i6,i6,.s,.s,aZ,gu,i6]
def Vo:List TC:=[.st 5,i6,.s,.s,i6,.s,aR,aR,i6,i6,i6,.b,i6,i6,i6,.s,.s,aZ,i6,i6,i6,i6,i6,i6,i6,i6,i6,.s,.s,aZ,gu]
def Vp:List TC:=[bV,i6,.s,.s,i6,.s,aR,aR,i6,i6,i6,.b,i6,i6,i6,.s,.s,aZ,i6,i6,i6,i6,i6,i6,i6,i6,i6,.s,.s,aZ,gu]
def aeF:List TC:=[i6,.s,.s,i6,.s,aR,aR,i6,i6,i6,.b,i6,i6,i6,.s,.s,aZ,i6,i6,i6,i6,i6,i6,i6,i6,i6,.s,.s,aZ,gu,bV,i6]
def Vq:List TC:=[bV,i6,.s,.s,i6,.s,aR,aR,i6,i6,i6,.b,i6,i6,i6,.s,.s,aZ,i6,i6,i6,i6,i6,i6,i6,i6,i6,.s,.s,aZ,gu,i6]
def aeG:List TC:=[bV,i6,i6,.s,.s,i6,.s,aR,aR,i6,i6,i6,.b,i6,i6,i6,.s,.s,aZ,i6,i6,i6,i6,i6,i6,i6,i6,i6,.s,.s,aZ,gu]
def aeH:List TC:=[.st 8,i6,.s,.s,i6,.s,aR,aR,i6,i6,i6,.b,i6,i6,i6,.s,.s,aZ,i6,i6,i6,i6,i6,i6,i6,i6,i6,.s,.s,aZ,gu]
def LK:List TC:=[bR,i6,.s,.s,i6,.s,aR,aR,i6,i6,i6,.b,i6,i6,i6,.s,.s,aZ,i6,i6,i6,i6,i6,i6,i6,i6,i6,.s,.s,aZ,gu]
def aeI:List TC:=[i6,.s,.s,i6,.s,aR,aR,i6,i6,i6,.b,i6,i6,i6,.s,.s,aZ,i6,i6,i6,i6,i6,i6,i6,i6,i6,.s,.s,aZ,gu,bR,i6]
def Vr:List TC:=[bR,i6,.s,.s,i6,.s,aR,aR,i6,i6,i6,.b,i6,i6,i6,.s,.s,aZ,i6,i6,i6,i6,i6,i6,i6,i6,i6,.s,.s,aZ,gu,i6]
def aeJ:List TC:=[bR,i6,i6,.s,.s,i6,.s,aR,aR,i6,i6,i6,.b,i6,i6,i6,.s,.s,aZ,i6,i6,i6,i6,i6,i6,i6,i6,i6,.s,.s,aZ,gu]
def LL:List TC:=[i6,bZ,bT,bV,bC,bR,zZ,eo,i6]
def Uq:List (Nat×TO):=[(1000002,.box 30 [.d bZ 0,.d bT 1,.d bV 2,.d bC 3,.d bR 4,.d zZ 5,.d eo 6,dI 7]),(1000003,.box 41 [dI 8,.d .s 9,.d .s 10,dI 11,.d .s 12,.d aR 13,.d aR 14,dI 15,dI 16,dI 17,.d .b 18,dI 19,dI 20,dI 21,.d .s 22,.d .s 23,.d aZ 24,dI 25,dI 26,dI 27,dI 28,dI 29,dI 30,dI 31,dI 32,dI 33,.d .s 34,.d .s 35,.d aZ 36,.d gu 37]),(1000004,.box 30 [.d bZ 38,.d bT 39,.d bV 40,.d bC 41,.d bR 42,.d zZ 43,.d eo 44,dI 45])]
def O8:List TC:=[bZ,bT,bV,bC,bR,zZ,eo,i6,i6,.s,.s,i6,.s,aR,aR,i6,i6,i6,.b,i6,i6,i6,.s,.s,aZ,i6,i6,i6,i6,i6,i6,i6,i6,i6,.s,.s,aZ,gu,bZ,bT,bV,bC,bR,zZ,eo,i6]
def se(v0 v1 v2 v3 v4 v5:Nat):List (Nat×TO):=[(v0,.box 34 [dI v1,dI v2,.d .s v3,.d .s v4,.d aZ v5])]
def Ur(v0:Nat):List (Nat×TO):=[(1000001,.box 34 [dI 2,dI 3,.d .s 4,.d .s 5,.d aZ 0]),(1000002,.box 34 [dI 6,dI 6,.d .s 7,.d .s 7,.d aZ 8]),(7001001,.row 34 (.st 0) v0 bf)]
def tH(v0 v1 v2 v3 v4 v5 v6 v7 v8 v9 v10 v11 v12 pt pw pJ pK pz:Nat):List (Nat×TO):=[(1000001,.box 30 [.row 6 103001200,.row 3 103001500,.row 3 103001800,.row 20 103002100,.row 4 103002800,.row 6 103003100,.d eo 1,dI 2]),(1000002,.box 30 [.row 6 1001000002000,.row 3 1001000002001,.row 3 1001000002002,.row 20 1001000002003,.row 4 1001000002004,.row 6 1001000002005,.d eo 3,dI 4]),(v0,.row v1 (.st v2) v3 bf),(v4,.row v5 (.st v6) v7 bf),(v8,.row v9 (.st v10) v11 bf),(v12,.row pt (.st pw) pJ bf),(103002800,.row 75 (.st 8) pK bf),(103003100,.row 79 (.st 10) pz bf),(1001000002000,.row 68 (.st 1) 10 bf),(1001000002001,.row 70 (.st 3) 11 bf),(1001000002002,.row 72 (.st 5) 12 bf),(1001000002003,.row 38 (.st 7) 13 bf),(1001000002004,.row 75 (.st 8) 14 bf),(1001000002005,.row 79 (.st 10) 15 bf)]
def DM(v0 v1 v2 v3 v4 v5:Nat):List (Nat×TO):=[(1,.box 68 [.d .s v0,dI v1,dI v2,.d .s v3,.d .s v4,.d aZ v5])]
def DN(v0 v1 v2:Nat):List (Nat×TO):=[(1,.box 70 [.d .s v0,.d iS v1,dI v2])]
def DO(v0 v1:Nat):List (Nat×TO):=[(1,.box 50 [.d .s v0,dI v1])]
def DP(v0 v1 v2:Nat):List (Nat×TO):=[(1,.box 72 [.d .s v0,.d .b v1,.d gu v2])]
def Ol(v0 v1 v2 v3 v4 v5 v6 v7 v8 v9 v10 v11 v12 pt pw pJ pK pz rm rn:Nat):List (Nat×TO):=[(1,.box 38 [.d .s v0,.d aR v1,.d aR v2,dI v3,dI v4,dI v5,.d .b v6,dI v7,dI v8,dI v9,.d .s v10,.d .s v11,.d aZ v12,dI pt,dI pw,dI pJ,dI pK,dI pz,dI rm,dI rn])]
abbrev I8:List (Nat×TO):=(Ol 1 2 3 4 5 6 7 8 9 10 11 12 13 14 15 16 17 18 19 20)
def Vs:List TC:=[bC,.s,aR,aR,i6,i6,i6,.b,i6,i6,i6,.s,.s,aZ,i6,i6,i6,i6,i6,i6,i6]
def DQ(v0 v1 v2 v3:Nat):List (Nat×TO):=[(1,.box 75 [.d .s v0,dI v1,dI v2,.d gu v3])]
def tI(v0 v1 v2 v3 v4 v5 v6 v7 v8 v9 v10 v11 v12 pt pw pJ pK pz:Nat):List (Nat×TO):=[(1000002,.box 30 [.d bZ v0,.d bT v1,.d bV v2,.d bC v3,.d bR v4,.d zZ v5,.d eo v6,dI v7]),(1000003,.box 30 [.d bZ v8,.d bT v9,.d bV v10,.d bC v11,.d bR v12,.d zZ pt,.d eo pw,dI pJ]),(pK,.row 41 (.st 13) pz bf)]
def aeK:List TC:=[bZ,i6,i6,bZ,bT,bV,bC,bR,zZ,eo,i6,bT,bV,bC,bR,zZ,eo,i6,vD,i6,.s,.s,i6,aR,.b,aZ,i6,i6,.s,.s,aZ,gu]
def Us(v0 v1 v2 v3 v4 v5 v6 v7 v8 v9 v10 v11 v12 pt pw pJ pK pz rm rn:Nat):List (Nat×TO):=[(1000002,.box 30 [.d bZ v0,.d bT v1,.d bV v2,.d bC v3,.d bR v4,.d zZ v5,.d eo v6,dI v7]),(1000003,.box 30 [.d bZ v8,.d bT 0,.d bV v9,.d bC v10,.d bR v11,.d zZ v12,.d eo pt,dI pw]),(7001001,.row 41 (.st 13) 26 bf),(1000012,.box 70 [.d .s pJ,.d iS 3,dI pK]),(1000013,.box 70 [.d .s pz,.d iS rm,dI rn])]
def aeL:List TC:=[bT,i6,i6,iS,i6,bZ,bT,bV,bC,bR,zZ,eo,i6,bZ,bV,bC,bR,zZ,eo,i6,.s,i6,.s,iS,i6]
def aeM:List TC:=[bT,i6,i6,iS,i6,i6,bZ,bT,bV,bC,bR,zZ,eo,i6,bZ,bV,bC,bR,zZ,eo,i6,.s,i6,.s,iS,i6]
def aeN:List TC:=[bT,i6,i6,iS,i6,i6,bZ,bT,bV,bC,bR,zZ,eo,i6,bZ,bV,bC,bR,zZ,eo,i6,vD,.s,i6,.s,iS,i6,.s,i6]
def Ut(v0 v1 v2 v3 v4 v5 v6 v7:Nat):List (Nat×TO):=[(1000002,.box 30 [.d bZ v0,.d bT v1,.d bV v2,.d bC v3,.d bR v4,.d zZ v5,.d eo v6,dI v7]),(7001001,.row 41 (.st 13) 11 bf)]
def Om(v0 v1 v2 v3 v4 v5 v6 v7 v8 v9 v10 v11 v12 pt pw pJ pK:Nat):List (Nat×TO):=[(900000000,.rw 1),(900000001,.rw 2),(900000002,.rw 3),(900000003,.rw 4),(1000002,.box 30 [.d bZ v0,.d bT v1,.d bV v2,.d bC v3,.d bR v4,.d zZ v5,.d eo v6,dI v7]),(v8,.box 30 [.d bZ v9,.d bT v10,.d bV v11,.d bC v12,.d bR pt,.d zZ pw,.d eo pJ,dI pK])]
def Uu:List (Nat×TO):=[(1000002,.box 34 [dI 0,dI 1,.d .s 2,.d .s 3,.d aZ 4]),(1000003,.box 34 [dI 5,dI 6,.d .s 7,.d .s 8,.d aZ 9])]
def Vt:List TC:=[i6,i6,.s,.s,aZ,i6,i6,.s,.s,aZ]
def aeO:List TC:=[.b,.s,aR,aR,i6,i6,i6,.b,i6,i6,i6,.s,.s,aZ,i6,i6,i6,i6,i6,i6,i6,.s,aR,aR,i6,i6,i6,.b,i6,i6,i6,.s,.s,aZ,i6,i6,i6,i6,i6,i6,i6]
def Hy:List TC:=[i6,bZ,bT,bV,bC,bR,zZ,eo,i6,bZ,bT,bV,bC,bR,zZ,eo,i6]
def Vu:List TC:=[bZ,bT,bV,bC,bR,zZ,eo,i6,.m .s i6,aR,.st 0]
def On(v0 v1 v2 v3 v4 v5 v6 v7 v8 v9 v10 v11 v12 pt pw:Nat):List (Nat×TO):=[(1,.map .s i6 0),(1000002,.box 84 [.d bZ v0,.d bT v1,.d bV v2,.d bC v3,.d bR v4,.d zZ v5,.d eo v6,dI v7,.mp 1,.d aR v8]),(1000003,.box 34 [dI v9,dI v10,.d .s v11,.d .s v12,.d aZ 1]),(pt,.row 3 i6 pw bf)]
def Oo(v0 v1 v2 v3 v4 v5 v6 v7 v8 v9 v10 v11:Nat):List (Nat×TO):=[(1000003,.box 30 [.d bZ v0,.d bT v1,.d bV v2,.d bC v3,.d bR v4,.d zZ v5,.d eo v6,dI v7]),(1000006,.box 84 [.gg,.gg,.gg,.gg,.gg,.gg,.gg,dI v8,.mD,.gg]),(1000008,.box 84 [.d bZ v0,.d bT v1,.d bV v2,.d bC v3,.d bR v4,.d zZ v5,.d eo v6,dI v7,.mp 1000020,.d aR v9]),(1000023,.map .s .b v10),(1000020,.map .s i6 v11)]
def Uv(v0 v1 v2 v3 v4 v5 v6 v7 v8 v9 v10:Nat):List (Nat×TO):=[(1000003,.box 30 [.d bZ v0,.d bT v1,.d bV v2,.d bC v3,.d bR v4,.d zZ v5,.d eo v6,dI v7]),(1000006,.box 84 [.gg,.gg,.gg,.gg,.gg,.gg,.gg,dI v8,.mD,.gg]),(1000008,.box 84 [.d bZ v0,.d bT v1,.d bV v2,.d bC v3,.d bR v4,.d zZ v5,.d eo v6,dI v7,.mp 1000020,.d aR v9]),(1000023,.map .s .b v10),(1000048,.row 3 i6 14 bf),(1000020,.map .s i6 15)]
def aeP:List TC:=[.s,i6,.b,bZ,bT,bV,bC,bR,zZ,eo,i6,i6,.s,.s,i6,.s,aR,aR,i6,i6,i6,.b,i6,i6,i6,.s,.s,aZ,i6,i6,i6,i6,i6,i6,i6,i6,i6,.s,.s,aZ,gu]
def aeQ:List TC:=[.b,i6,.s,.s,i6,.s,aR,aR,i6,i6,i6,.b,i6,i6,i6,.s,.s,aZ,i6,i6,i6,i6,i6,i6,i6,i6,i6,.s,.s,aZ,gu,bZ,bT,bV,bC,bR,zZ,eo,i6,iS]
def It:Nat->Type
 |0=>Expr
 |1=>Def
 |2=>av
 |3=>ar
 |4=>zK
 |5=>zF
 |6=>zh
 |7=>za
 |8=>a_
 |9=>zj
 |10=>au
 |11=>aq
 |12=>yp
 |13=>zN
 |14=>zw
 |_=>Unit
def T6:ni where
 T:=It
 SO:=λn=>match n with
  |0=>(default:Expr)
  |1=>(default:Def)
  |2=>(default:av)
  |3=>(default:ar)
  |4=>(default:zK)
  |5=>(default:zF)
  |6=>(default:zh)
  |7=>(default:za)
  |8=>(default:a_)
  |9=>(default:zj)
  |10=>(default:au)
  |11=>(default:aq)
  |12=>(default:yp)
  |13=>(default:zN)
  |14=>(default:zw)
  |_+15=>()
 fl:=λn=>match n with
  |0=>[i6,i6,.s,.s,aZ]
  |1=>[.s,.st 0]
  |2=>[.s,i6]
  |3=>[.s,iS,i6]
  |4=>[i6,i6]
  |5=>[.s,.b,gu]
  |6=>[i6,i6,i6,i6]
  |7=>[.s,aR,aR,i6,i6,i6,.b,i6,.st 0,.st 6,i6,i6,i6]
  |8=>[.s,i6,i6,gu]
  |9=>[i6,i6,i6]
  |10=>[.s,.st 9,i6,eo]
  |11=>[i6,.s,i6,i6]
  |12=>k1
  |13=>[i6,.s,.s,i6,.st 7,.st 0,gu]
  |14=>[.st 4,.st 4]
  |_+15=>[]
 cn:=λn=>match n with
  |0=>5
  |1=>6
  |2=>2
  |3=>3
  |4=>2
  |5=>3
  |6=>4
  |7=>20
  |8=>4
  |9=>3
  |10=>6
  |11=>4
  |12=>8
  |13=>30
  |14=>4
  |_+15=>0
 out:=λn=>match n with
  |0=>λx=>((x:Expr).Op,(x:Expr).N,(x:Expr).S,(x:Expr).Key,(x:Expr).aH)
  |1=>λx=>((x:Def).aK,(x:Def).Body)
  |2=>λx=>((x:av).aK,(x:av).N)
  |3=>λx=>((x:ar).aK,(x:ar).Rows,(x:ar).nU)
  |4=>λx=>((x:zK).X,(x:zK).Y)
  |5=>λx=>((x:zF).aK,(x:zF).nf,(x:zF).ay)
  |6=>λx=>((x:zh).nL,(x:zh).nK,(x:zh).nG,(x:zh).Den)
  |7=>λx=>((x:za).aK,(x:za).aA,(x:za).Except,(x:za).lA,(x:za).j_,(x:za).lN,(x:za).lU,(x:za).aL,(x:za).Test,(x:za).zh,(x:za).Uses,(x:za).lK,(x:za).N)
  |8=>λx=>((x:a_).aK,(x:a_).sH,(x:a_).pB,(x:a_).ay)
  |9=>λx=>((x:zj).X,(x:zj).Y,(x:zj).Z_)
  |10=>λx=>((x:au).aK,(x:au).nq,(x:au).sJ,(x:au).mK)
  |11=>λx=>((x:aq).aL,(x:aq).Text,(x:aq).N,(x:aq).Pos)
  |12=>λx=>((x:yp).aE,(x:yp).Tables,(x:yp).aA,(x:yp).aB,(x:yp).aI,(x:yp).aF,(x:yp).aJ,(x:yp).aG)
  |13=>λx=>((x:zN).aL,(x:zN).aK,(x:zN).Key,(x:zN).N,(x:zN).za,(x:zN).Body,(x:zN).ay)
  |14=>λx=>((x:zw).a,(x:zw).b)
  |_+15=>λ_=>()
 inj:=λn=>match n with
  |0=>λx=>(⟨x.1,x.2.1,x.2.2.1,x.2.2.2.1,x.2.2.2.2⟩:Expr)
  |1=>λx=>(⟨x.1,x.2⟩:Def)
  |2=>λx=>(⟨x.1,x.2⟩:av)
  |3=>λx=>(⟨x.1,x.2.1,x.2.2⟩:ar)
  |4=>λx=>(⟨x.1,x.2⟩:zK)
  |5=>λx=>(⟨x.1,x.2.1,x.2.2⟩:zF)
  |6=>λx=>(⟨x.1,x.2.1,x.2.2.1,x.2.2.2⟩:zh)
  |7=>λx=>(⟨x.1,x.2.1,x.2.2.1,x.2.2.2.1,x.2.2.2.2.1,(p5 x).1,(p6 x).1,(rV x).1,(sC x).1,(sO x).1,(s7 x).1,(tt x).1,(tn x)⟩:za)
  |8=>λx=>(⟨x.1,x.2.1,x.2.2.1,x.2.2.2⟩:a_)
  |9=>λx=>(⟨x.1,x.2.1,x.2.2⟩:zj)
  |10=>λx=>(⟨x.1,x.2.1,x.2.2.1,x.2.2.2⟩:au)
  |11=>λx=>(⟨x.1,x.2.1,x.2.2.1,x.2.2.2⟩:aq)
  |12=>λx=>(⟨x.1,x.2.1,x.2.2.1,x.2.2.2.1,x.2.2.2.2.1,(p5 x).1,(p6 x).1,(rV x)⟩:yp)
  |13=>λx=>(⟨x.1,x.2.1,x.2.2.1,x.2.2.2.1,x.2.2.2.2.1,(p5 x).1,(p6 x)⟩:zN)
  |14=>λx=>(⟨x.1,x.2⟩:zw)
  |_+15=>λ_=>()
 enc:=λn=>match n with
  |0=>zY
  |1=>ze
  |2=>HS
  |3=>HU
  |4=>uO
  |5=>Ql
  |6=>Za
  |7=>Qm
  |8=>Zb
  |9=>uo
  |10=>Qn
  |11=>zhy
  |12=>xo
  |13=>JW
  |14=>Hi
  |_+15=>λ_=>[]
 ro:=λn=>match n with
  |1=>Li KY.tl
  |2=>Lj KY.Eh
  |3=>E2 KY.Ei KY.m2
  |4=>GJ KY.CW
  |_=>.gen gone
def Oe(i:Nat):(c:TC)->c.ty It->EV.Obj
 |.s,x=>sb (bif bm i 0 then 108 else 221) x
 |.l (.m kc ec),x=>.gen (XD (List.map (jC (oL T6 kc) (oL T6 ec)) x))
 |_,_=>.gen gone
def Od:Nat->Option (Nat×Nat×List aj)
 |1=>aY (0,276,FT)
 |_=>bg
def Oc:Nat->Option (Nat×Dy It×List V)
 |108=>aY (0,⟨.s,([]:aj)⟩,[.mx,.gg])
 |221=>aY (1,⟨.s,([]:aj)⟩,[.mx,.gg])
 |_=>bg
def zI8(t i:Nat)(d:Dy It)(cs:List V)(h:Oc t=aY (i,d,cs))(m:M)(Z:ZM)(w:World)(k:Nat)(hh:EV.Holds m Z w k (.box t cs)):EV.Holds m Z w k (Oe i d.1 d.2)/\∀b,gM m (k,Oe i d.1 d.2) b->gM m (k,.box t cs) b:=by
 unfold Oc at h;split at h
 .cases h;exact Xa hh
 .cases h;exact Xa hh
 .cases h
def TS:ni where
 T:=It
 SO:=λn=>match n with
  |0=>(default:Expr)
  |1=>(default:Def)
  |2=>(default:av)
  |3=>(default:ar)
  |4=>(default:zK)
  |5=>(default:zF)
  |6=>(default:zh)
  |7=>(default:za)
  |8=>(default:a_)
  |9=>(default:zj)
  |10=>(default:au)
  |11=>(default:aq)
  |12=>(default:yp)
  |13=>(default:zN)
  |14=>(default:zw)
  |_+15=>()
 fl:=λn=>match n with
  |0=>[i6,i6,.s,.s,aZ]
  |1=>[.s,.st 0]
  |2=>[.s,i6]
  |3=>[.s,iS,i6]
  |4=>[i6,i6]
  |5=>[.s,.b,gu]
  |6=>[i6,i6,i6,i6]
  |7=>[.s,aR,aR,i6,i6,i6,.b,i6,.st 0,.st 6,i6,i6,i6]
  |8=>[.s,i6,i6,gu]
  |9=>[i6,i6,i6]
  |10=>[.s,.st 9,i6,eo]
  |11=>[i6,.s,i6,i6]
  |12=>k1
  |13=>[i6,.s,.s,i6,.st 7,.st 0,gu]
  |14=>[.st 4,.st 4]
  |_+15=>[]
 cn:=λn=>match n with
  |0=>5
  |1=>6
  |2=>2
  |3=>3
  |4=>2
  |5=>3
  |6=>4
  |7=>20
  |8=>4
  |9=>3
  |10=>6
  |11=>4
  |12=>8
  |13=>30
  |14=>4
  |_+15=>0
 out:=λn=>match n with
  |0=>λx=>((x:Expr).Op,(x:Expr).N,(x:Expr).S,(x:Expr).Key,(x:Expr).aH)
  |1=>λx=>((x:Def).aK,(x:Def).Body)
  |2=>λx=>((x:av).aK,(x:av).N)
  |3=>λx=>((x:ar).aK,(x:ar).Rows,(x:ar).nU)
  |4=>λx=>((x:zK).X,(x:zK).Y)
  |5=>λx=>((x:zF).aK,(x:zF).nf,(x:zF).ay)
  |6=>λx=>((x:zh).nL,(x:zh).nK,(x:zh).nG,(x:zh).Den)
  |7=>λx=>((x:za).aK,(x:za).aA,(x:za).Except,(x:za).lA,(x:za).j_,(x:za).lN,(x:za).lU,(x:za).aL,(x:za).Test,(x:za).zh,(x:za).Uses,(x:za).lK,(x:za).N)
  |8=>λx=>((x:a_).aK,(x:a_).sH,(x:a_).pB,(x:a_).ay)
  |9=>λx=>((x:zj).X,(x:zj).Y,(x:zj).Z_)
  |10=>λx=>((x:au).aK,(x:au).nq,(x:au).sJ,(x:au).mK)
  |11=>λx=>((x:aq).aL,(x:aq).Text,(x:aq).N,(x:aq).Pos)
  |12=>λx=>((x:yp).aE,(x:yp).Tables,(x:yp).aA,(x:yp).aB,(x:yp).aI,(x:yp).aF,(x:yp).aJ,(x:yp).aG)
  |13=>λx=>((x:zN).aL,(x:zN).aK,(x:zN).Key,(x:zN).N,(x:zN).za,(x:zN).Body,(x:zN).ay)
  |14=>λx=>((x:zw).a,(x:zw).b)
  |_+15=>λ_=>()
 inj:=λn=>match n with
  |0=>λx=>(⟨x.1,x.2.1,x.2.2.1,x.2.2.2.1,x.2.2.2.2⟩:Expr)
  |1=>λx=>(⟨x.1,x.2⟩:Def)
  |2=>λx=>(⟨x.1,x.2⟩:av)
  |3=>λx=>(⟨x.1,x.2.1,x.2.2⟩:ar)
  |4=>λx=>(⟨x.1,x.2⟩:zK)
  |5=>λx=>(⟨x.1,x.2.1,x.2.2⟩:zF)
  |6=>λx=>(⟨x.1,x.2.1,x.2.2.1,x.2.2.2⟩:zh)
  |7=>λx=>(⟨x.1,x.2.1,x.2.2.1,x.2.2.2.1,x.2.2.2.2.1,(p5 x).1,(p6 x).1,(rV x).1,(sC x).1,(sO x).1,(s7 x).1,(tt x).1,(tn x)⟩:za)
  |8=>λx=>(⟨x.1,x.2.1,x.2.2.1,x.2.2.2⟩:a_)
  |9=>λx=>(⟨x.1,x.2.1,x.2.2⟩:zj)
  |10=>λx=>(⟨x.1,x.2.1,x.2.2.1,x.2.2.2⟩:au)
  |11=>λx=>(⟨x.1,x.2.1,x.2.2.1,x.2.2.2⟩:aq)
  |12=>λx=>(⟨x.1,x.2.1,x.2.2.1,x.2.2.2.1,x.2.2.2.2.1,(p5 x).1,(p6 x).1,(rV x)⟩:yp)
  |13=>λx=>(⟨x.1,x.2.1,x.2.2.1,x.2.2.2.1,x.2.2.2.2.1,(p5 x).1,(p6 x)⟩:zN)
  |14=>λx=>(⟨x.1,x.2⟩:zw)
  |_+15=>λ_=>()
 enc:=λn=>match n with
  |0=>zY
  |1=>ze
  |2=>HS
  |3=>HU
  |4=>uO
  |5=>Ql
  |6=>Za
  |7=>Qm
  |8=>Zb
  |9=>uo
  |10=>Qn
  |11=>zhy
  |12=>xo
  |13=>JW
  |14=>Hi
  |_+15=>λ_=>[]
 ro:=λn=>match n with
  |1=>Li KY.tl
  |2=>Lj KY.Eh
  |3=>E2 KY.Ei KY.m2
  |4=>GJ KY.CW
  |_=>.gen gone
 go:=Oe
 gl:=Od
 ga:=Oc
 om:=bh
def aad:TS.OK where
 Gl:=λn x=>match n with
  |0=>by
   show zY x=_
   unfold zY;simp only[kU];rfl
  |1=>rfl
  |2=>rfl
  |3=>rfl
  |4=>rfl
  |5=>rfl
  |6=>rfl
  |7=>rfl
  |8=>rfl
  |9=>rfl
  |10=>rfl
  |11=>rfl
  |12=>rfl
  |13=>rfl
  |14=>rfl
  |_+15=>rfl
 NN:=λn h=>match n with
  |0=>rfl
  |1=>rfl
  |2=>rfl
  |3=>rfl
  |4=>rfl
  |5=>rfl
  |6=>rfl
  |7=>rfl
  |8=>rfl
  |9=>rfl
  |10=>rfl
  |11=>rfl
  |12=>rfl
  |13=>rfl
  |14=>rfl
  |_+15=>rfl
 VB:=rfl
 aaV:=λi σ=>match i with|0=>rfl|1=>rfl|2=>rfl|3=>rfl|4=>rfl|_+5=>rfl
 Tl:=λi=>match i with|0=>rfl|1=>rfl|2=>rfl|3=>rfl|4=>rfl|_+5=>rfl
 aaT:=λi k=>match i with|0=>rfl|1=>rfl|2=>rfl|3=>rfl|4=>rfl|_+5=>rfl
 len:=λn x=>match n with
  |0=>rfl
  |1=>rfl
  |2=>rfl
  |3=>rfl
  |4=>rfl
  |5=>rfl
  |6=>rfl
  |7=>rfl
  |8=>rfl
  |9=>rfl
  |10=>rfl
  |11=>rfl
  |12=>rfl
  |13=>rfl
  |14=>rfl
  |_+15=>rfl
 one:=λn x=>match n with
  |0=>rfl
  |1=>rfl
  |2=>rfl
  |3=>rfl
  |4=>rfl
  |5=>rfl
  |6=>rfl
  |7=>rfl
  |8=>rfl
  |9=>rfl
  |10=>rfl
  |11=>rfl
  |12=>rfl
  |13=>rfl
  |14=>rfl
  |_+15=>rfl
 refs:=λn x=>match n with
  |0=>rfl
  |1=>rfl
  |2=>rfl
  |3=>rfl
  |4=>rfl
  |5=>rfl
  |6=>rfl
  |7=>rfl
  |8=>rfl
  |9=>rfl
  |10=>rfl
  |11=>rfl
  |12=>rfl
  |13=>rfl
  |14=>rfl
  |_+15=>rfl
 aaq:=λi c x σ=>by cases c with
  |l t=>cases t<;>rfl
  |_=>rfl
 SQ:=λi c x=>by cases c with
  |l t=>cases t<;>rfl
  |_=>rfl
 aao:=λi c x k=>by cases c with
  |l t=>cases t<;>rfl
  |_=>rfl
 gom:=λ_ kc ec x=>by kernel_rfl
 ggl:=λi c x k=>by cases c with
  |l t=>cases t<;>rfl
  |_=>rfl
 aam:=λt i d cs h m Z w k hh=>zI8 t i d cs h m Z w k hh
 n_:=λi g t l h=>by
  change Od i=aY (g,t,l)at h;unfold Od at h;split at h
  .cases h;exact⟨_,rfl⟩
  .cases h
def pC(t:Nat):Option TC:=bif bm t 3 then aY i6 else bif bm t 4 then aY .b else bif bm t 9 then aY .s else bif bm t 34 then aY (.st 0)else bif bm t 38 then aY (.st 7)else bif bm t 41 then aY (.st 13)else bif bm t 50 then aY (.st 2)else bif bm t 68 then aY (.st 1)else bif bm t 70 then aY (.st 3)else bif bm t 72 then aY (.st 5)else bif bm t 75 then aY (.st 8)else bif bm t 77 then aY (.st 9)else bif bm t 79 then aY (.st 10)else bif bm t 93 then aY oz else bif bm t 98 then aY (.st 11)else bif bm t 123 then aY (.st 4)else bif bm t 307 then aY (.st 14)else bg
def cdL(t:Nat):Option TC:=pC (bif Nat.ble 1000000 t then Nat.sub t 1000000 else t)
def DD(t:Nat):Option TC:=bif bm t 5000000 then aY .b else pC t
def nE:NB:=λt=>bif bm t 30 then[(0,bf,68,.st 1),(1,bf,70,.st 3),(2,bf,72,.st 5),(3,bf,38,.st 7),(4,bf,75,.st 8),(5,bf,79,.st 10),(6,bf,77,.st 9)]else bif bm t 34 then[(4,bf,34,.st 0)]else bif bm t 38 then[(1,bf,9,.s),(2,bf,9,.s),(12,bf,34,.st 0)]else bif bm t 41 then[(5,bf,9,.s),(6,bf,9,.s),(16,bf,34,.st 0),(28,bf,34,.st 0),(29,bf,123,.st 4)]else bif bm t 68 then[(5,bf,34,.st 0)]else bif bm t 70 then[(1,bf,50,.st 2)]else bif bm t 72 then[(2,bf,123,.st 4)]else bif bm t 75 then[(3,bf,123,.st 4)]else bif bm t 79 then[(5,bf,77,.st 9)]else bif bm t 210 then[(0,bf,98,.st 11)]else bif bm t 213 then[(0,bf,98,.st 11),(2,bh,68,.st 1),(3,bh,70,.st 3),(4,bh,72,.st 5),(5,bh,38,.st 7),(6,bh,75,.st 8),(7,bh,79,.st 10),(8,bh,8000077,.st 9),(10,bh,7000000,Fp),(11,bh,7000000,Fp),(12,bh,7000000,Fp),(13,bh,7000000,Fp),(14,bh,7000000,Fp),(15,bh,7000000,Fp)]else[]
def zig:NB:=λt=>bif bm t 30 then[(0,bh,68,.st 1),(1,bh,70,.st 3),(2,bh,72,.st 5),(3,bh,38,.st 7),(4,bh,75,.st 8),(5,bh,79,.st 10),(6,bf,77,.st 9)]else  nE t
def aaP:aS.follows .mixedOrders=bh:=by kernel_rfl
variable[Fuel]
def zI9:zb aS 117:=zd (by kernel_rfl)
def M3:zb aS 116:=zd (by kernel_rfl)
def zJa:zb aS 185:=zd (by kernel_rfl)
def zJb:zb aS 187:=zd (by kernel_rfl)
def zJc:zb aS 186:=zd (by kernel_rfl)
def zJd:zb aS 222:=zd (by kernel_rfl)
def zJe:zb aS 164:=zd (by kernel_rfl)
def zJf:zb aS 188:=zd (by kernel_rfl)
def zJg:zb aS 189:=zd (by kernel_rfl)
def zJh:zb aS 118:=zd (by kernel_rfl)
def aho:zb aS 31:=zd (by kernel_rfl)
def zJi:zb aS 122:=zd (by kernel_rfl)
def zJj:zb aS 165:=zd (by kernel_rfl)
def ahC:zb aS 48:=zd (by kernel_rfl)
def ahq:zb aS 34:=zd (by kernel_rfl)
def ag8:zb aS 11:=zd (by kernel_rfl)
def aht:zb aS 37:=zd (by kernel_rfl)
def ahG:zb aS 52:=zd (by kernel_rfl)
def zJk:zb aS 166:=zd (by kernel_rfl)
def ahF:zb aS 51:=zd (by kernel_rfl)
def ahI:zb aS 54:=zd (by kernel_rfl)
def ahH:zb aS 53:=zd (by kernel_rfl)
def ahK:zb aS 56:=zd (by kernel_rfl)
def ahJ:zb aS 55:=zd (by kernel_rfl)
def ahM:zb aS 58:=zd (by kernel_rfl)
def ahL:zb aS 57:=zd (by kernel_rfl)
def ahO:zb aS 60:=zd (by kernel_rfl)
def ahN:zb aS 59:=zd (by kernel_rfl)
def ahQ:zb aS 62:=zd (by kernel_rfl)
def ahP:zb aS 61:=zd (by kernel_rfl)
def Sh:zb aS 167:=zd (by kernel_rfl)
def ahR:zb aS 63:=zd (by kernel_rfl)
def ahT:zb aS 65:=zd (by kernel_rfl)
def ahS:zb aS 64:=zd (by kernel_rfl)
def ahU:zb aS 66:=zd (by kernel_rfl)
def zJl:zb aS 223:=zd (by kernel_rfl)
def zJm:zb aS 224:=zd (by kernel_rfl)
def zJn:zb aS 225:=zd (by kernel_rfl)
def zJo:zb aS 276:=zd (by kernel_rfl)
def zJp:zb aS 256:=zd (by kernel_rfl)
def zJq:zb aS 255:=zd (by kernel_rfl)
def zJr:zb aS 226:=zd (by kernel_rfl)
def zJs:zb aS 227:=zd (by kernel_rfl)
def zJt:zb aS 168:=zd (by kernel_rfl)
def ahV:zb aS 67:=zd (by kernel_rfl)
def zJu:zb aS 220:=zd (by kernel_rfl)
def Si:zb aS 146:=zd (by kernel_rfl)
def WG:zb aS 219:=zd (by kernel_rfl)
def zJv:zb aS 156:=zd (by kernel_rfl)
def ahW:zb aS 68:=zd (by kernel_rfl)
def ahf:zb aS 21:=zd (by kernel_rfl)
def ahp:zb aS 33:=zd (by kernel_rfl)
def ahE:zb aS 50:=zd (by kernel_rfl)
def zJw:zb aS 145:=zd (by kernel_rfl)
def zJx:zb aS 153:=zd (by kernel_rfl)
def zJy:zb aS 148:=zd (by kernel_rfl)
def zJz:zb aS 147:=zd (by kernel_rfl)
def zJ0:zb aS 154:=zd (by kernel_rfl)
def zJ1:zb aS 155:=zd (by kernel_rfl)
def zJ2:zb aS 149:=zd (by kernel_rfl)
def zJ3:zb aS 157:=zd (by kernel_rfl)
def zJ4:zb aS 150:=zd (by kernel_rfl)
def zJ5:zb aS 158:=zd (by kernel_rfl)
def zJ6:zb aS 152:=zd (by kernel_rfl)
def zJ7:zb aS 151:=zd (by kernel_rfl)
def zJ8:zb aS 159:=zd (by kernel_rfl)
def ahA:zb aS 45:=zd (by kernel_rfl)
def ahd:zb aS 18:=zd (by kernel_rfl)
def ahb:zb aS 16:=zd (by kernel_rfl)
def ahs:zb aS 36:=zd (by kernel_rfl)
def zJ9:zb aS 123:=zd (by kernel_rfl)
def ahr:zb aS 35:=zd (by kernel_rfl)
def WH:zb aS 131:=zd (by kernel_rfl)
def zKa:zb aS 130:=zd (by kernel_rfl)
def ahu:zb aS 39:=zd (by kernel_rfl)
def ahv:zb aS 40:=zd (by kernel_rfl)
def ahw:zb aS 41:=zd (by kernel_rfl)
def ahx:zb aS 42:=zd (by kernel_rfl)
def ag9:zb aS 12:=zd (by kernel_rfl)
def ahX:zb aS 69:=zd (by kernel_rfl)
def ahY:zb aS 70:=zd (by kernel_rfl)
def Nl:zb aS 75:=zd (by kernel_rfl)
def ahZ:zb aS 71:=zd (by kernel_rfl)
def aim:zb aS 98:=zd (by kernel_rfl)
def ah0:zb aS 73:=zd (by kernel_rfl)
def ah1:zb aS 74:=zd (by kernel_rfl)
def XN:zb aS 72:=zd (by kernel_rfl)
def ah3:zb aS 77:=zd (by kernel_rfl)
def ah2:zb aS 76:=zd (by kernel_rfl)
def aij:zb aS 95:=zd (by kernel_rfl)
def ah5:zb aS 79:=zd (by kernel_rfl)
def WI:zb aS 169:=zd (by kernel_rfl)
def ah6:zb aS 80:=zd (by kernel_rfl)
def ah4:zb aS 78:=zd (by kernel_rfl)
def aik:zb aS 96:=zd (by kernel_rfl)
def ah8:zb aS 82:=zd (by kernel_rfl)
def Sj:zb aS 170:=zd (by kernel_rfl)
def Xf:zb aS 103:=zd (by kernel_rfl)
def ah':zb aS 85:=zd (by kernel_rfl)
def Sk:zb aS 171:=zd (by kernel_rfl)
def aia:zb aS 86:=zd (by kernel_rfl)
def ah_:zb aS 84:=zd (by kernel_rfl)
def ah9:zb aS 83:=zd (by kernel_rfl)
def ah7:zb aS 81:=zd (by kernel_rfl)
def aib:zb aS 88:=zd (by kernel_rfl)
def PC:zb aS 87:=zd (by kernel_rfl)
def ail:zb aS 97:=zd (by kernel_rfl)
def aid:zb aS 90:=zd (by kernel_rfl)
def aie:zb aS 91:=zd (by kernel_rfl)
def aic:zb aS 89:=zd (by kernel_rfl)
def aih:zb aS 93:=zd (by kernel_rfl)
def Sl:zb aS 218:=zd (by kernel_rfl)
def zKc:zb aS 172:=zd (by kernel_rfl)
def ain:zb aS 99:=zd (by kernel_rfl)
def aii:zb aS 94:=zd (by kernel_rfl)
def zKd:zb aS 173:=zd (by kernel_rfl)
def aif:zb aS 92:=zd (by kernel_rfl)
def ahg:zb aS 22:=zd (by kernel_rfl)
def zKe:zb aS 100:=zd (by kernel_rfl)
def zKf:zb aS 101:=zd (by kernel_rfl)
def Sm:zb aS 102:=zd (by kernel_rfl)
def zKg:zb aS 104:=zd (by kernel_rfl)
def zKh:zb aS 105:=zd (by kernel_rfl)
def ahh:zb aS 23:=zd (by kernel_rfl)
def afE:zb aS 7:=zd (by kernel_rfl)
def ag_:zb aS 13:=zd (by kernel_rfl)
def zKi:zb aS 134:=zd (by kernel_rfl)
def zKj:zb aS 133:=zd (by kernel_rfl)
def zKk:zb aS 136:=zd (by kernel_rfl)
def zKl:zb aS 135:=zd (by kernel_rfl)
def zKm:zb aS 138:=zd (by kernel_rfl)
def zKn:zb aS 137:=zd (by kernel_rfl)
def zKo:zb aS 140:=zd (by kernel_rfl)
def zKp:zb aS 139:=zd (by kernel_rfl)
def zKq:zb aS 142:=zd (by kernel_rfl)
def zKr:zb aS 141:=zd (by kernel_rfl)
def zKs:zb aS 144:=zd (by kernel_rfl)
def zKt:zb aS 143:=zd (by kernel_rfl)
def ahy:zb aS 43:=zd (by kernel_rfl)
def ahz:zb aS 44:=zd (by kernel_rfl)
def ag':zb aS 14:=zd (by kernel_rfl)
def zKu:zb aS 160:=zd (by kernel_rfl)
def PD:zb aS 47:=zd (by kernel_rfl)
def zKv:zb aS 161:=zd (by kernel_rfl)
def zKw:zb aS 162:=zd (by kernel_rfl)
def zKx:zb aS 221:=zd (by kernel_rfl)
def zKy:zb aS 163:=zd (by kernel_rfl)
def ahB:zb aS 46:=zd (by kernel_rfl)
def aha:zb aS 15:=zd (by kernel_rfl)
def ahD:zb aS 49:=zd (by kernel_rfl)
def ahc:zb aS 17:=zd (by kernel_rfl)
def afB:zb aS 4:=zd (by kernel_rfl)
def PM:zb aS 19:=zd (by kernel_rfl)
def ahe:zb aS 20:=zd (by kernel_rfl)
def afC:zb aS 5:=zd (by kernel_rfl)
def afD:zb aS 6:=zd (by kernel_rfl)
def zKz:zb aS 174:=zd (by kernel_rfl)
def Sn:zb aS 106:=zd (by kernel_rfl)
def ahi:zb aS 24:=zd (by kernel_rfl)
def zK0:zb aS 175:=zd (by kernel_rfl)
def zK1:zb aS 176:=zd (by kernel_rfl)
def zK2:zb aS 107:=zd (by kernel_rfl)
def zK3:zb aS 177:=zd (by kernel_rfl)
def zK4:zb aS 109:=zd (by kernel_rfl)
def zK5:zb aS 108:=zd (by kernel_rfl)
def zK6:zb aS 178:=zd (by kernel_rfl)
def zK7:zb aS 110:=zd (by kernel_rfl)
def PN:zb aS 26:=zd (by kernel_rfl)
def aav:zb aS 9:=zd (by kernel_rfl)
def ahj:zb aS 25:=zd (by kernel_rfl)
def afF:zb aS 8:=zd (by kernel_rfl)
def ag7:zb aS 10:=zd (by kernel_rfl)
def afA:zb aS 3:=zd (by kernel_rfl)
def o_{f:Nat}{fn:Func}{code:Code}{T:nA TS}{cd:Nat->Option TC}{nb:NB}{rc:List (Nat×Nat×Nat)}{c:Ct TS}{h:HT TS c.co}(hf:aS.funcs[f]?=aY fn)(hb:fn.body=aY code)(hB:zb aS f)(hT:nA.OK aS T)(hr:∀x,((pQ aS fn code T cd KK nb c rc h x).run,(pQ aS fn code T cd KK nb c rc h x).tr bh)=(c.fn x,(pQ aS fn code T cd KK nb c rc h x).tr bf)):zb aS f/\c.OK aS f:=⟨hB,XL (T:=T) (cd:=cd) (kk:=KK) (nb:=nb) (rc:=rc) (h:=h) aad hf hb aaP hT (λx=>aP Prod.fst (hr x)) (λx=>aP Prod.snd (hr x))⟩
def d_{f:Nat}{fn:Func}{code:Code}{T:nA TS}{c:Ct TS}{h:HT TS c.co}(hf:aS.funcs[f]?=aY fn)(hb:fn.body=aY code)(hB:zb aS f)(hT:nA.OK aS T)(hr:∀x,((pQ aS fn code T pC KK nE c [] h x).run,(pQ aS fn code T pC KK nE c [] h x).tr bh)=(c.fn x,(pQ aS fn code T pC KK nE c [] h x).tr bf)):zb aS f/\c.OK aS f:=⟨hB,XL (T:=T) (cd:=pC) (kk:=KK) (nb:=nE) (rc:=[]) (h:=h) aad hf hb aaP hT (λx=>aP Prod.fst (hr x)) (λx=>aP Prod.snd (hr x))⟩
def zih:Ct TS:=⟨[.d (.i .u8) 0],[],[.i .u8],.d .b 1,[],[.b],bf,λx=>zh2 x⟩
abbrev bH(n:Nat)(c:Ct TS):Prop:=zb aS n/\c.OK aS n
def zq3:bH 117 zih:=d_ (T:=[]) (h:=.n) Tryz.func117 rfl zI9 trivial λx=>by kernel_rfl
def zop:Ct TS:=⟨[.d .s 0,.fn 117 [] []],[],[.s],dI 1,[],[i6],bf,λx=>zod x⟩
def zvx:bH 116 zop:=d_ (T:=[(117,zih)]) (h:=.s .n (.s .n (.s (.s (.l ⟨[(0,.d .s 0),(1,.fn 117 [] []),(5,dI 1)],[],[.s],[i6]⟩ [(5,dI 1)] [] [i6] 0 (λx K v=>KD x K v) (.s (.s (.j ⟨[(0,.d .s 0),(1,.fn 117 [] []),(5,dI 1),(16,.d .b 2)],[],[.s,i6],[.b]⟩ bf .n) .n) .n)) .n) .n))) Tryz.func116 rfl M3 ⟨zq3,trivial⟩ λx=>by kernel_rfl
def Am:Ct TS:=⟨[.d (.i .u8) 0],[],[.i .u8],.d .b 1,[],[.b],bf,λx=>kd x⟩
def A9:bH 185 Am:=d_ (T:=[]) (h:=.n) Tryz.func185 rfl zJa trivial λx=>by kernel_rfl
def Ja:Ct TS:=⟨[.d (.i .u8) 0],[],[.i .u8],.d .b 1,[],[.b],bf,λx=>uS x⟩
def J8:bH 187 Ja:=d_ (T:=[]) (h:=.n) Tryz.func187 rfl zJb trivial λx=>by kernel_rfl
def π:Ct TS:=⟨[.d (.i .u8) 0],[],[.i .u8],.d .b 1,[],[.b],bf,λx=>ZY x⟩
def zlq:bH 186 π:=d_ (T:=[(185,Am),(187,Ja)]) (h:=.n) Tryz.func186 rfl zJc ⟨A9,J8,trivial⟩ λx=>by kernel_rfl
def ς:Ct TS:=⟨[.d .s 0,.fn 186 [] []],[],[.s],dI 1,[],[i6],bf,λx=>γ x⟩
def zlr:bH 116 ς:=d_ (T:=[(186,π)]) (h:=.s .n (.s .n (.s (.s (.l ⟨[(0,.d .s 0),(1,.fn 186 [] []),(5,dI 1)],[],[.s],[i6]⟩ [(5,dI 1)] [] [i6] 0 (λx K v=>AX x K v) (.s (.s (.j ⟨[(0,.d .s 0),(1,.fn 186 [] []),(5,dI 1),(16,.d .b 2)],[],[.s,i6],[.b]⟩ bf .n) .n) .n)) .n) .n))) Tryz.func116 rfl M3 ⟨zlq,trivial⟩ λx=>by kernel_rfl
def υ:Ct TS:=⟨[.d (.i .u8) 0],[],[.i .u8],.d .b 1,[],[.b],bf,λx=>Ah x⟩
def zls:bH 222 υ:=d_ (T:=[(185,Am),(187,Ja)]) (h:=.n) Tryz.func222 rfl zJd ⟨A9,J8,trivial⟩ λx=>by kernel_rfl
def χ:Ct TS:=⟨[.d .s 0,.fn 222 [] []],[],[.s],dI 1,[],[i6],bf,λx=>JX x⟩
def zlt:bH 116 χ:=d_ (T:=[(222,υ)]) (h:=.s .n (.s .n (.s (.s (.l ⟨[(0,.d .s 0),(1,.fn 222 [] []),(5,dI 1)],[],[.s],[i6]⟩ [(5,dI 1)] [] [i6] 0 (λx K v=>ua x K v) (.s (.s (.j ⟨[(0,.d .s 0),(1,.fn 222 [] []),(5,dI 1),(16,.d .b 2)],[],[.s,i6],[.b]⟩ bf .n) .n) .n)) .n) .n))) Tryz.func116 rfl M3 ⟨zls,trivial⟩ λx=>by kernel_rfl
def P7:Ct TS:=⟨[.d .s 0],[],[.s],.d .b 1,[],[.b],bf,λx=>AY x⟩
def zii:bH 164 P7:=d_ (T:=[(185,Am),(116,χ)]) (h:=.s .n (.s (.s (.j ⟨[(0,.d .s 0),(15,.d .b 1)],[],[.s],[.b]⟩ bf .n) .n) .n)) Tryz.func164 rfl zJe ⟨A9,zlt,trivial⟩ λx=>by kernel_rfl
def VO:Ct TS:=⟨[.d .s 0,.fn 187 [] []],[],[.s],dI 1,[],[i6],bf,λx=>VH x⟩
def Zu:bH 116 VO:=d_ (T:=[(187,Ja)]) (h:=.s .n (.s .n (.s (.s (.l ⟨[(0,.d .s 0),(1,.fn 187 [] []),(5,dI 1)],[],[.s],[i6]⟩ [(5,dI 1)] [] [i6] 0 (λx K v=>AZ x K v) (.s (.s (.j ⟨[(0,.d .s 0),(1,.fn 187 [] []),(5,dI 1),(16,.d .b 2)],[],[.s,i6],[.b]⟩ bf .n) .n) .n)) .n) .n))) Tryz.func116 rfl M3 ⟨J8,trivial⟩ λx=>by kernel_rfl
def ψ:Ct TS:=⟨[.d .s 0],[],[.s],.iN [dI 1,.d .b 2],[],[i6,.b],bf,λx=>ε x⟩
def zlu:bH 188 ψ:=d_ (T:=[(116,VO)]) (h:=.s .n (.s (.s (.j ⟨[(0,.d .s 0),(28,.d .b 1)],[],[.s],[.b]⟩ bf .n) .n) (.s .n (.s (.s .n (.s (.l ⟨[(0,.d .s 0),(4,dI 2),(30,dI 1),(31,dI 3)],[],[.s,i6],[i6,i6]⟩ [(4,dI 2)] [] [i6] 0 (lX A0) .n) .n)) .n)))) Tryz.func188 rfl zJf ⟨Zu,trivial⟩ λx=>by kernel_rfl
def Zv:Ct TS:=⟨[.d .s 0,.d .s 1],[],[.s,.s],.d .b 2,[],[.b],bf,lX Ze⟩
def zij:Zv.OK aS 189:=λx r h=>Cc (by kernel_rfl) (zlj x.1 x.2 r h)
def zoq:Ct TS:=⟨[.d .s 0],h2,[.s],.iN [.ag [dI 2,.d .s 3,dI 4,dI 5],dI 1],(h3 7000001 2 3 4 5),[i6,i6,.s,i6,i6],bf,λx=>zoe x⟩
def zvy:bH 118 zoq:=o_ (cd:=pC) (nb:=nE) (rc:=[(2,7000001,0)]) (T:=[(185,Am),(116,ς),(164,P7),(187,Ja),(116,VO),(188,ψ),(189,Zv)]) (h:=.s .n (.s .n (.s (.s .n (.s (.lr ⟨[(0,.d .s 0),(2,.ptr 1000002 0),(43,.ag [.d .s 1,.d .s 2,.d .s 3,.d .s 4,.d .s 5,.d .s 6,.d .s 7,.d .s 8,.d .s 9,.d .s 10,.d .s 11,.d .s 12,.d .s 13,.d .s 14]),(44,dI 17)],(h3 1000002 15 16 15 15),[.s,.s,.s,.s,.s,.s,.s,.s,.s,.s,.s,.s,.s,.s,.s,i6,.s],[i6]⟩ [(2,.ptr 1000002 0)] (h3 1000002 15 16 15 15) [] 1 (Ir KE) .n) .n)) .n))) Tryz.func118 rfl zJh ⟨A9,zlr,zii,J8,Zu,zlu,⟨zJg,zij⟩,trivial⟩ λx=>by kernel_rfl
def zvz:Ct TS:=⟨[.d .s 0],h2,[.s],.iN [.d oz 1,dI 2,dI 3],h2,[oz,i6,i6],bf,λx=>zu8 x⟩
def zzx:bH 31 zvz:=d_ (T:=[(116,zop),(118,zoq)]) (h:=.s .n (.s .n (.s .n (.s .n (.s (.lr ⟨[(0,.d .s 0),(5,.row 4 7000001),(6,dI 1)],[(900000000,.rw 1),(900000001,.rw 2),(900000002,.rw 3),(900000003,.rw 4),(7000001,.row 98 (.st 11) 2 bf)],[.s],[i6,oz]⟩ [] [] [] 999999999 (λx K v=>VI x K v) .n) .n))))) Tryz.func31 rfl aho ⟨zvx,zvy,trivial⟩ λx=>by kernel_rfl
def Ko:Ct TS:=⟨[.d oz 0],[],[oz],.row 4 7000001,(h4 7000001 98 11 1),[oz],bf,λx=>Km x⟩
def adb:bH 122 Ko:=d_ (T:=[]) (h:=.n) Tryz.func122 rfl zJi trivial (λx=>match x with|[]=>by kernel_rfl|_::_=>by kernel_rfl)
def ω:Ct TS:=⟨[.d .s 0,.d .s 1],h2,[.s,.s],.d .b 2,h2,[.b],bf,lX JY⟩
def zlv:ω.OK aS 165:=λx r h=>Cc (by kernel_rfl) (zqq x.1 x.2 r h)
def IP:Ct TS:=⟨[.d .s 0],h2,[.s],.d .b 1,h2,[.b],bf,λx=>Qp x⟩
def ML:bH 48 IP:=d_ (T:=[(164,P7),(165,ω)]) (h:=.n) Tryz.func48 rfl ahC ⟨zii,⟨zJj,zlv⟩,trivial⟩ λx=>by kernel_rfl
def zor:Ct TS:=⟨[.d oz 0],h2,[oz],.iN [.ag [dI 2,.d .s 3,.d .s 4,dI 5,.d .s 6,.d aR 7,.d aR 8,dI 9,dI 10,dI 11,.d .b 12,dI 13,dI 14,dI 15,.d .s 16,.d .s 17,.d aZ 18,dI 19,dI 20,dI 21,dI 22,dI 23,dI 24,dI 25,dI 26,dI 27,.d .s 28,.d .s 29,.d aZ 30,.d gu 31],dI 1],(h5 7000001 2 3 4 5 6 7 8 9 10 11 12 13 14 15 16 17 18 19 20 21 22 23 24 25 26 27 28 29 30 31),k6,bf,λx=>zof x⟩
def zv0:bH 34 zor:=o_ (cd:=pC) (nb:=nE) (rc:=[(2,7000001,0)]) (T:=[(122,Ko),(48,IP)]) (h:=.s .n (.s .n (.s .n (.s .n (.s .n (.s (.j ⟨[(0,.d oz 0),(2,.ptr 1000002 0),(5,dI 1),(7,dI 9),(8,dI 2)],(h5 1000002 3 4 4 3 4 5 5 3 3 3 6 3 3 3 4 4 7 3 3 3 3 3 3 3 3 3 4 4 7 8),[oz,i6,i6,i6,.s,aR,.b,aZ,gu],[i6]⟩ bf (.s .n (.s (.s .n (.s (.j ⟨[(0,.d oz 0),(2,.ptr 1000002 0),(5,dI 1),(7,dI 2),(8,dI 3),(37,.d .b 10)],XG,k7,[.b]⟩ bf .n) .n)) .n))) (.s (.s (.j ⟨[(0,.d oz 0),(2,.ptr 1000002 0),(5,dI 1),(7,dI 2),(8,dI 3),(54,.d .b 10)],XG,k7,[.b]⟩ bf .n) .n) (.s (.s .n (.s (.lr ⟨[(0,.d oz 0),(2,.ptr 1000002 0),(5,dI 1),(7,dI 2),(8,dI 3),(59,.d oz 4),(60,dI 5),(61,dI 11)],(h5 1000002 12 6 6 13 6 7 7 14 15 16 8 17 18 19 6 6 9 20 21 22 23 24 25 26 27 28 6 6 9 10),[oz,i6,i6,i6,oz,i6,.s,aR,.b,aZ,gu],[i6,i6,i6,i6,i6,i6,i6,i6,i6,i6,i6,i6,i6,i6,i6,i6,i6,i6]⟩ [(0,.d oz 0),(2,.ptr 1000002 0),(5,dI 1),(7,dI 2),(8,dI 3)] (h5 1000002 11 6 6 12 6 7 7 13 14 15 8 16 17 18 6 6 9 19 20 21 22 23 24 25 26 27 6 6 9 10) [i6,i6,i6,i6,i6,i6,i6,i6,i6,i6,i6,i6,i6,i6,i6,i6,i6] 0 (Ts KF) (.s .n (.s .n (.s (.s (.s .n (.s (.j ⟨[(0,.d oz 0),(2,.ptr 1000002 0),(5,dI 1),(7,dI 2),(8,dI 3),(59,.d oz 4),(60,dI 5),(61,dI 6),(73,.d .b 12)],(h5 1000002 13 7 7 14 7 8 8 15 16 17 9 18 19 20 7 7 10 21 22 23 24 25 26 27 28 29 7 7 10 11),[oz,i6,i6,i6,oz,i6,i6,.s,aR,.b,aZ,gu],[.b,i6,i6,i6,i6,i6,i6,i6,i6,i6,i6,i6,i6,i6,i6,i6,i6,i6]⟩ bf .n) .n)) .n) .n)))) .n)) (.s .n (.s (.j ⟨[(2,.ptr 1000002 0),(5,dI 0),(11,.ptr 1000011 0)],(h8 1 2 3 4 5 6 7 8 9 10 11 12 13 14 15 16 17 18 19 20 21 22 0 26 24 25),k9,[.s]⟩ bf .n) (.s (.s (.j ⟨[(2,.ptr 1000002 0),(11,.ptr 1000011 0),(108,.d .b 27)],(h8 0 1 2 3 4 5 6 7 8 9 10 11 12 13 14 15 16 17 18 19 20 21 22 24 25 26),O5,[.b]⟩ bf .n) .n) .n))))))))))) Tryz.func34 rfl ahq ⟨adb,ML,trivial⟩ λx=>by kernel_rfl
def zil:Ct TS:=⟨[.d .s 0],h2,[.s],.iN [.d vD 1,dI 2],h2,[vD,i6],bf,λx=>zh3 x⟩
def zq4:bH 11 zil:=d_ (T:=[(31,zvz),(34,zor)]) (h:=.s .n (.s .n (.s .n (.s .n (.s .n (.s (.s .n (.s (.l ⟨[(0,.d .s 0),(4,.d oz 1),(7,.row 1 7001001),(8,dI 3),(26,.d oz 1),(27,dI 2),(28,dI 4)],(pX 7001001 5),[.s,oz,i6],[i6,i6,.l oz]⟩ [(0,.d .s 0),(4,.d oz 1),(7,.row 1 7001001),(8,dI 3)] (pX 7001001 4) [i6,.l oz] 0 (na HX) (.s .n (.s .n (.s (.j ⟨[(0,.d .s 0),(4,.d oz 1),(7,.row 1 7000001),(8,dI 3),(26,.d oz 1),(27,dI 2),(28,dI 4)],(pX 7000001 5),[.s,oz,i6],[i6,i6,.l oz]⟩ bf (.s (.s .n (.s (.j ⟨[(0,.d .s 0),(4,.d oz 1),(7,.row 1 7001001),(8,dI 2),(9,dI 5),(26,.d oz 1),(27,dI 3),(28,dI 6),(40,.d .b 7)],(pX 7001001 4),[.s,oz,i6,i6,.l oz],[i6,i6,.b]⟩ bf .n) .n)) .n)) .n)))) .n)) (.s .n (.s .n (.s (.s .n (.s (.lr ⟨[(0,.d .s 0),(11,.row 30 7002001),(62,.row 1 7001001),(63,dI 1),(64,dI 3)],[(900000000,.rw 1),(900000001,.rw 2),(900000002,.rw 3),(900000003,.rw 4),(7002001,.row 41 (.st 13) 4 bf),(7001001,.row 93 oz 2 bf)],[.s,i6,.l oz],[i6,vD]⟩ [(11,.row 30 7002001)] [(900000000,.rw 1),(900000001,.rw 2),(900000002,.rw 3),(900000003,.rw 4),(7002001,.row 41 (.st 13) 3 bf)] [vD] 3 (na HY) (.s .n (.s .n (.s (.s (.s .n (.s .n (.s (.s .n (.s (.s (.j ⟨[(0,.d .s 0),(11,.row 30 7002001),(13,.d oz 1),(14,.ptr 1000014 0),(62,.row 1 7001001),(63,dI 2),(64,dI 3),(78,.d .b 12)],[(900000000,.rw 1),(900000001,.rw 2),(900000002,.rw 3),(900000003,.rw 4),(7002001,.row 41 (.st 13) 4 bf),(1000014,.box 41 [dI 5,.d .s 6,.d .s 6,dI 5,.d .s 6,.d aR 7,.d aR 7,dI 5,dI 5,dI 5,.d .b 8,dI 5,dI 5,dI 5,.d .s 6,.d .s 6,.d aZ 9,dI 5,dI 5,dI 5,dI 5,dI 5,dI 5,dI 5,dI 5,dI 5,.d .s 6,.d .s 6,.d aZ 9,.d gu 10]),(7001001,.row 93 oz 11 bf)],[.s,oz,i6,i6,vD,i6,.s,aR,.b,aZ,gu,.l oz],[.b]⟩ bf .n) .n) .n)) .n))) .n) .n)))) .n)) .n))))))))) Tryz.func11 rfl ag8 ⟨zzx,zv0,trivial⟩ λx=>by kernel_rfl
def Zx:Ct TS:=⟨[.d (.st 13) 0],[],[.st 13],.iN [.ag [.d bZ 2,.d bT 3,.d bV 4,.d bC 5,.d bR 6,.d zZ 7,.d eo 8,dI 9],.d .b 1],(tG 7000001 2 3 4 5 6 7 8 9),[.b,bZ,bT,bV,bC,bR,zZ,eo,i6],bf,λx=>Qq x⟩
def zct:bH 37 Zx:=o_ (cd:=pC) (nb:=nE) (rc:=[(2,7000001,0)]) (T:=[]) (h:=.n) Tryz.func37 rfl aht trivial λx=>by kernel_rfl
def zim:Ct TS:=⟨[.d (.st 1) 0],[],[.st 1],.d .s 1,[],[.s],bf,λx=>zh4 x⟩
def zq5:bH 52 zim:=d_ (T:=[]) (h:=.n) Tryz.func52 rfl ahG trivial λx=>by kernel_rfl
def Ha:Ct TS:=⟨[.d aR 0,.d .b 1],h2,[aR,.b],.d .b 2,h2,[.b],bf,lX ke⟩
def oA:bH 166 Ha:=d_ (T:=[(48,IP)]) (h:=.s .n (.s .n (.s (.s .n (.s (.lr ⟨[(1,.d .b 0),(5,.mp 1000008),(9,.d aR 1),(10,dI 2),(11,dI 3)],[(900000000,.rw 1),(900000001,.rw 2),(900000002,.rw 3),(900000003,.rw 4),(1000008,.map .s .b 4)],[.b,aR,i6],[i6,.m .s .b]⟩ [] h2 [] 0 (na uq) (.s .n (.s .n (.s (.s (.s .n (.s (.s (.j ⟨[(1,.d .b 0),(5,.mp 1000008),(7,.d .s 1),(9,.d aR 2),(10,dI 3),(11,dI 4),(25,.d .b 6)],[(900000000,.rw 1),(900000001,.rw 2),(900000002,.rw 3),(900000003,.rw 4),(1000008,.map .s .b 5)],[.b,.s,aR,i6,i6,.m .s .b],[.b]⟩ bf .n) .n) .n)) .n) .n)))) .n)) .n))) Tryz.func166 rfl zJk ⟨ML,trivial⟩ λx=>by kernel_rfl
def zos:Ct TS:=⟨[.d bZ 0,dI 1,.fn 52 [] []],h2,[bZ,i6],.d .b 2,h2,[.b],bf,lX Yj⟩
def zv1:bH 51 zos:=d_ (T:=[(52,zim),(166,Ha)]) (h:=.s .n (.s .n (.s (.s .n (.s (.l ⟨[(0,.d bZ 0),(1,dI 1),(2,.fn 52 [] []),(7,.row 1 7000001),(10,.d bZ 0),(11,dI 2),(12,dI 3)],(rE 4),[bZ,i6,i6],[i6,aR]⟩ [(0,.d bZ 0),(1,dI 1),(7,.row 1 7000001)] (rE 3) [aR] 0 (na A1) .n) .n)) .n))) Tryz.func51 rfl ahF ⟨zq5,oA,trivial⟩ λx=>by kernel_rfl
def zin:Ct TS:=⟨[.d (.st 3) 0],[],[.st 3],.d .s 1,[],[.s],bf,λx=>zh5 x⟩
def zq6:bH 54 zin:=d_ (T:=[]) (h:=.n) Tryz.func54 rfl ahI trivial λx=>by kernel_rfl
def zcu:Ct TS:=⟨[.d bT 0,dI 1,.fn 54 [] []],h2,[bT,i6],.d .b 2,h2,[.b],bf,lX JZ⟩
def zlw:bH 53 zcu:=d_ (T:=[(54,zin),(166,Ha)]) (h:=.s .n (.s .n (.s (.s .n (.s (.l ⟨[(0,.d bT 0),(1,dI 1),(2,.fn 54 [] []),(7,.row 1 7000001),(10,.d bT 0),(11,dI 2),(12,dI 3)],(rE 4),[bT,i6,i6],[i6,aR]⟩ [(0,.d bT 0),(1,dI 1),(7,.row 1 7000001)] (rE 3) [aR] 0 (na uc) .n) .n)) .n))) Tryz.func53 rfl ahH ⟨zq6,oA,trivial⟩ λx=>by kernel_rfl
def zio:Ct TS:=⟨[.d (.st 5) 0],[],[.st 5],.d .s 1,[],[.s],bf,λx=>zh6 x⟩
def zq7:bH 56 zio:=d_ (T:=[]) (h:=.n) Tryz.func56 rfl ahK trivial λx=>by kernel_rfl
def zcv:Ct TS:=⟨[.d bV 0,dI 1,.fn 56 [] []],h2,[bV,i6],.d .b 2,h2,[.b],bf,lX J0⟩
def zlx:bH 55 zcv:=d_ (T:=[(56,zio),(166,Ha)]) (h:=.s .n (.s .n (.s (.s .n (.s (.l ⟨[(0,.d bV 0),(1,dI 1),(2,.fn 56 [] []),(7,.row 1 7000001),(10,.d bV 0),(11,dI 2),(12,dI 3)],(rE 4),[bV,i6,i6],[i6,aR]⟩ [(0,.d bV 0),(1,dI 1),(7,.row 1 7000001)] (rE 3) [aR] 0 (na ud) .n) .n)) .n))) Tryz.func55 rfl ahJ ⟨zq7,oA,trivial⟩ λx=>by kernel_rfl
def ziq:Ct TS:=⟨[.d (.st 7) 0],[],[.st 7],.d .s 1,[],[.s],bf,λx=>zh7 x⟩
def zq8:bH 58 ziq:=d_ (T:=[]) (h:=.n) Tryz.func58 rfl ahM trivial λx=>by kernel_rfl
def zcw:Ct TS:=⟨[.d bC 0,dI 1,.fn 58 [] []],h2,[bC,i6],.d .b 2,h2,[.b],bf,lX J1⟩
def zly:bH 57 zcw:=d_ (T:=[(58,ziq),(166,Ha)]) (h:=.s .n (.s .n (.s (.s .n (.s (.l ⟨[(0,.d bC 0),(1,dI 1),(2,.fn 58 [] []),(7,.row 1 7000001),(10,.d bC 0),(11,dI 2),(12,dI 3)],(rE 4),[bC,i6,i6],[i6,aR]⟩ [(0,.d bC 0),(1,dI 1),(7,.row 1 7000001)] (rE 3) [aR] 0 (na ue) .n) .n)) .n))) Tryz.func57 rfl ahL ⟨zq8,oA,trivial⟩ λx=>by kernel_rfl
def zir:Ct TS:=⟨[.d (.st 8) 0],[],[.st 8],.d .s 1,[],[.s],bf,λx=>zh8 x⟩
def zq9:bH 60 zir:=d_ (T:=[]) (h:=.n) Tryz.func60 rfl ahO trivial λx=>by kernel_rfl
def zcx:Ct TS:=⟨[.d bR 0,dI 1,.fn 60 [] []],h2,[bR,i6],.d .b 2,h2,[.b],bf,lX J2⟩
def zlz:bH 59 zcx:=d_ (T:=[(60,zir),(166,Ha)]) (h:=.s .n (.s .n (.s (.s .n (.s (.l ⟨[(0,.d bR 0),(1,dI 1),(2,.fn 60 [] []),(7,.row 1 7000001),(10,.d bR 0),(11,dI 2),(12,dI 3)],(rE 4),[bR,i6,i6],[i6,aR]⟩ [(0,.d bR 0),(1,dI 1),(7,.row 1 7000001)] (rE 3) [aR] 0 (na uf) .n) .n)) .n))) Tryz.func59 rfl ahN ⟨zq9,oA,trivial⟩ λx=>by kernel_rfl
def zis:Ct TS:=⟨[.d (.st 10) 0],[],[.st 10],.d .s 1,[],[.s],bf,λx=>zh9 x⟩
def zra:bH 62 zis:=d_ (T:=[]) (h:=.n) Tryz.func62 rfl ahQ trivial λx=>by kernel_rfl
def zcy:Ct TS:=⟨[.d zZ 0,dI 1,.fn 62 [] []],h2,[zZ,i6],.d .b 2,h2,[.b],bf,lX J3⟩
def zl0:bH 61 zcy:=d_ (T:=[(62,zis),(166,Ha)]) (h:=.s .n (.s .n (.s (.s .n (.s (.l ⟨[(0,.d zZ 0),(1,dI 1),(2,.fn 62 [] []),(7,.row 1 7000001),(10,.d zZ 0),(11,dI 2),(12,dI 3)],(rE 4),[zZ,i6,i6],[i6,aR]⟩ [(0,.d zZ 0),(1,dI 1),(7,.row 1 7000001)] (rE 3) [aR] 0 (na ug) .n) .n)) .n))) Tryz.func61 rfl ahP ⟨zra,oA,trivial⟩ λx=>by kernel_rfl
def Zy(RK:Nat):Ct TS:=⟨[.d (.st 0) 0,dI 1],h2,[.st 0,i6],.d .b 2,h2,[.b],bf,λx=>yc RK x.1 x.2⟩
def zit:∀RK,(Zy RK).OK aS 167
 |0=>(λx r h=>nomatch (show(bg:Option _)=aY r from h))
 |RK+1=>(d_ (c:=Zy (RK+1)) (T:=[(48,IP),(167,Zy RK)]) (h:=.s .n (.s (.s (.j ⟨[(1,dI 0),(2,.ptr 1000002 0),(20,.d .b 6)],Uk,LJ,[.b]⟩ bf .n) .n) (.s .n (.s .n (.s (.j ⟨[(1,dI 0),(2,.ptr 1000002 0),(5,.ptr 1000005 0),(6,dI 6)],(tc 1 2 3 4 5 9),LJ,[i6,i6,.s,.s]⟩ bh (.s .n (.s (.s .n (.s .n (.s (.j ⟨[(1,dI 0),(2,.ptr 1000002 0),(5,.ptr 1000005 0),(6,dI 1),(27,dI 2),(35,.d .b 9)],(tc 2 3 4 5 6 8),[i6,i6,i6,i6,.s,.s,aZ,i6,.s],[.b]⟩ bf .n) (.s .n (.s .n (.s .n (.s (.j ⟨[(1,dI 0),(2,.ptr 1000002 0),(5,.ptr 1000005 0),(6,dI 1),(27,dI 2),(53,.d .b 9)],(tc 2 3 4 5 6 8),[i6,i6,i6,i6,.s,.s,aZ,i6,.s],[.b]⟩ bf .n) .n))))))) .n))) (.s (.s (.j ⟨[(1,dI 0),(2,.ptr 1000002 0),(98,.d .b 6)],Uk,LJ,[.b]⟩ bf .n) .n) (.s (.s .n (.s (.lr ⟨[(1,dI 0),(100,.d aZ 1),(101,dI 2),(102,dI 3)],h2,[i6,aZ,i6],[i6]⟩ [] h2 [] 1 (λx K v=>xe (yc RK) x.1 x.2.1 x.2.2 K v) .n) .n)) .n))))))) Tryz.func167 rfl Sh ⟨ML,⟨Sh,(zit RK)⟩,trivial⟩ λx=>by kernel_rfl).2
def zzy(RK:Nat):zb aS 167/\(Zy RK).OK aS 167:=⟨Sh,(zit RK)⟩
def KR:Ct TS:=⟨[.d (.st 0) 0],h2,[.st 0],.d .b 1,h2,[.b],bf,λx=>kf x⟩
def Wk:bH 63 KR:=d_ (T:=[(167,Zy KK)]) (h:=.n) Tryz.func63 rfl ahR ⟨(zzy KK),trivial⟩ λx=>by kernel_rfl
def ziu:Ct TS:=⟨[.d (.st 2) 0],[],[.st 2],.d .s 1,[],[.s],bf,λx=>zia x⟩
def zrb:bH 65 ziu:=d_ (T:=[]) (h:=.n) Tryz.func65 rfl ahT trivial λx=>by kernel_rfl
def zcz:Ct TS:=⟨[.d iS 0,dI 1,.fn 65 [] []],h2,[iS,i6],.d .b 2,h2,[.b],bf,lX J4⟩
def zl1:bH 64 zcz:=d_ (T:=[(65,ziu),(166,Ha)]) (h:=.s .n (.s .n (.s (.s .n (.s (.l ⟨[(0,.d iS 0),(1,dI 1),(2,.fn 65 [] []),(7,.row 1 7000001),(10,.d iS 0),(11,dI 2),(12,dI 3)],(rE 4),[iS,i6,i6],[i6,aR]⟩ [(0,.d iS 0),(1,dI 1),(7,.row 1 7000001)] (rE 3) [aR] 0 (na uh) .n) .n)) .n))) Tryz.func64 rfl ahS ⟨zrb,oA,trivial⟩ λx=>by kernel_rfl
def QX:Ct TS:=⟨[dI 0,dI 1,.d (.l i6) 2],[],[i6,i6,.l i6],.d .b 3,[],[.b],bf,na zR⟩
def ziv:bH 66 QX:=d_ (T:=[]) (h:=.s .n (.s (.s .n (.s (.lr ⟨[(0,dI 0),(1,dI 1),(9,.d (.l i6) 2),(10,dI 3),(11,dI 4)],[],[i6,i6,.l i6,i6],[i6]⟩ [] [] [] 0 (A8 uT) (.s .n (.s .n (.s (.s (.s .n (.s (.j ⟨[(0,dI 0),(1,dI 1),(9,.d (.l i6) 2),(10,dI 3),(11,dI 4),(22,.d .b 5)],[],[i6,i6,.l i6,i6,i6],[.b]⟩ bf .n) .n)) .n) .n)))) .n)) .n)) Tryz.func66 rfl ahU trivial λx=>by kernel_rfl
def X':Ct TS:=⟨[.d gu 0],[],[gu],.d pS 1,[],[pS],bf,λx=>J5 x⟩
def zl2:bH 223 X':=d_ (T:=[]) (h:=.s .n (.s .n (.s (.s .n (.s (.l ⟨[(0,.d gu 0),(3,.row 4 1000007),(9,dI 1),(10,dI 2)],(h4 1000007 307 14 3),[gu,i6],[i6,pS]⟩ [(3,.row 4 1000007)] (h4 1000007 307 14 2) [pS] 0 (lX wo) .n) .n)) .n))) Tryz.func223 rfl zJl trivial λx=>by kernel_rfl
def YH:Ct TS:=⟨[.d (.st 4) 0],[],[.st 4],.d .b 1,[],[.b],bf,λx=>VJ x⟩
def zl3:bH 224 YH:=d_ (T:=[]) (h:=.n) Tryz.func224 rfl zJm trivial λx=>by kernel_rfl
def Hk:Ct TS:=⟨[.d (.st 14) 0],[],[.st 14],.d .b 1,[],[.b],bf,λx=>y6 x⟩
def ack:bH 225 Hk:=d_ (T:=[]) (h:=.n) Tryz.func225 rfl zJn trivial λx=>by kernel_rfl
def Zz:Ct TS:=⟨[dI 0],[],[i6],.d .b 1,[],[.b],bf,λx=>xl x⟩
def ziw:bH 276 Zz:=d_ (T:=[]) (h:=.n) Tryz.func276 rfl zJo trivial λx=>by kernel_rfl
def QG:Ct TS:=⟨[dI 0,dI 1],[],[i6,i6],dI 2,[],[i6],bf,lX yC⟩
def za2:bH 256 QG:=d_ (T:=[(276,Zz)]) (h:=.n) Tryz.func256 rfl zJp ⟨ziw,trivial⟩ λx=>by kernel_rfl
def zot:Ct TS:=⟨[.d (.l i6) 0],[],[.l i6],dI 1,[],[i6],bf,λx=>Yk x⟩
def zv2:bH 255 zot:=d_ (T:=[]) (h:=.s .n (.s .n (.s (.s .n (.s (.lr ⟨[(3,dI 0),(6,.d (.l i6) 1),(7,dI 2),(8,dI 3)],[],[i6,.l i6,i6],[i6]⟩ [(3,dI 0)] [] [] 0 (na kg) .n) .n)) .n))) Tryz.func255 rfl zJq trivial λx=>by kernel_rfl
def ZA:Ct TS:=⟨[.d (.st 4) 0,.d (.st 4) 1],[],[.st 4,.st 4],dI 2,[],[i6],bf,lX A2⟩
def zix:bH 226 ZA:=d_ (T:=[(256,QG),(255,zot)]) (h:=.n) Tryz.func226 rfl zJr ⟨za2,zv2,trivial⟩ λx=>by kernel_rfl
def Hl:Ct TS:=⟨[.d (.st 14) 0,.d (.st 14) 1],[],[.st 14,.st 14],.d .b 2,[],[.b],bf,lX Hj⟩
def acm:bH 227 Hl:=d_ (T:=[]) (h:=.n) Tryz.func227 rfl zJs trivial λx=>by kernel_rfl
def ziy:Ct TS:=⟨[.d gu 0],[],[gu],.d .b 1,[],[.b],bf,λx=>Zf x⟩
def zrc:bH 168 ziy:=d_ (T:=[(223,X'),(224,YH),(225,Hk),(226,ZA),(227,Hl)]) (h:=.s .n (.s (.s (.j ⟨[(0,.d gu 0),(16,.d .b 1)],[],[gu],[.b]⟩ bf .n) .n) (.s .n (.s (.s .n (.s (.lr ⟨[(0,.d gu 0),(3,.d pS 1),(19,.d pS 1),(20,dI 2),(21,dI 3)],[],[gu,pS,i6],[i6]⟩ [(3,.d pS 1)] [] [] 0 (na jv) (.s .n (.s .n (.s (.s (.s .n (.s .n (.s (.s (.j ⟨[(0,.d gu 0),(3,.d pS 1),(4,dI 2),(19,.d pS 1),(20,dI 3),(21,dI 2),(61,.d .b 4)],[],[gu,pS,i6,i6],[.b]⟩ bf .n) .n) (.s (.j ⟨[(0,.d gu 0),(3,.d pS 1),(19,.d pS 1),(20,dI 2),(21,dI 3),(74,.d .b 4)],[],[gu,pS,i6,i6],[.b]⟩ bf .n) .n)))) .n) .n)))) .n)) (.s (.s .n (.s (.lr ⟨[(3,.d pS 0),(77,dI 1),(78,dI 2)],[],[pS,i6],[i6]⟩ [(3,.d pS 0)] [] [] 2 (lX jx) (.s .n (.s .n (.s (.s (.s .n (.s .n (.s (.lr ⟨[(3,.d pS 0),(7,dI 1),(8,dI 3),(77,dI 2),(78,dI 1)],[],[pS,i6,i6],[i6]⟩ [(3,.d pS 0),(77,dI 2),(78,dI 1)] [] [] 4 (na jw) (.s .n (.s (.s (.s (.j ⟨[(3,.d pS 0),(7,dI 1),(8,dI 2),(77,dI 3),(78,dI 1),(106,.d .b 4)],[],[pS,i6,i6,i6],[.b]⟩ bf .n) .n) .n) .n))) .n))) .n) .n)))) .n)) .n))))) Tryz.func168 rfl zJt ⟨zl2,zl3,ack,zix,acm,trivial⟩ λx=>by kernel_rfl
def zou:Ct TS:=⟨[.d gu 0],[],[gu],.d .b 1,[],[.b],bf,λx=>A3 x⟩
def zv3:bH 67 zou:=d_ (T:=[(168,ziy)]) (h:=.n) Tryz.func67 rfl ahV ⟨zrc,trivial⟩ λx=>by kernel_rfl
def Kp:Ct TS:=⟨[.d aR 0,.d aR 1],[],[aR,aR],.d .b 2,[],[.b],bf,lX ja⟩
def ac7:bH 220 Kp:=d_ (T:=[]) (h:=.s .n (.s .n (.s (.s .n (.s (.lr ⟨[(0,.d aR 0),(1,.d aR 1),(12,dI 2),(13,dI 3)],[],[aR,aR,i6],[i6]⟩ [] [] [] 0 (na kh) .n) .n)) .n))) Tryz.func220 rfl zJu trivial λx=>by kernel_rfl
def jS(RK:Nat):Ct TS:=⟨[.d aZ 0,.d aZ 1,.fn 146 [] []],[],[aZ,aZ],.d .b 2,[],[.b],bf,λx=>wW RK x.1 x.2⟩
def uG(RK:Nat):Ct TS:=⟨[.d (.st 0) 0,.d (.st 0) 1],[],[.st 0,.st 0],.d .b 2,[],[.b],bf,λx=>vA RK x.1 x.2⟩
def vU:∀RK,(jS RK).OK aS 219/\(uG RK).OK aS 146
 |0=>⟨(λx r h=>nomatch (show(bg:Option _)=aY r from h)),(λx r h=>nomatch (show(bg:Option _)=aY r from h))⟩
 |RK+1=>⟨(d_ (c:=jS (RK+1)) (T:=[(146,uG RK)]) (h:=.s .n (.s .n (.s (.s .n (.s (.lr ⟨[(1,.d aZ 0),(2,.fn 146 [] []),(15,.d aZ 1),(16,dI 2),(17,dI 3)],[],[aZ,aZ,i6],[i6]⟩ [] [] [] 0 (λx K v=>vi (vA RK) x.1 x.2.1 x.2.2 K v) .n) .n)) .n))) Tryz.func219 rfl WG ⟨⟨Si,(vU RK).2⟩,trivial⟩ λx=>by kernel_rfl).2,(d_ (c:=uG (RK+1)) (T:=[(219,jS RK)]) (h:=.n) Tryz.func146 rfl Si ⟨⟨WG,(vU RK).1⟩,trivial⟩ λx=>by kernel_rfl).2⟩
def ZC(RK:Nat):zb aS 146/\(uG RK).OK aS 146:=⟨Si,(vU RK).2⟩
def VR:Ct TS:=⟨[.d (.st 7) 0,.d (.st 7) 1],[],[.st 7,.st 7],.d .b 2,[],[.b],bf,lX kj⟩
def ZD:bH 156 VR:=d_ (T:=[(220,Kp),(146,uG KK)]) (h:=.s .n (.s (.s (.j ⟨[(2,.ptr 1000002 0),(3,.ptr 1000003 0),(27,.d .b 40)],S_,O6,[.b]⟩ bf .n) .n) (.s (.j ⟨[(2,.ptr 1000002 0),(3,.ptr 1000003 0),(5,.d .b 40)],S_,O6,[.b]⟩ bf .n) .n))) Tryz.func156 rfl zJv ⟨ac7,(ZC KK),trivial⟩ λx=>by kernel_rfl
def ZE:Ct TS:=⟨[.d (.st 7) 0],h2,[.st 7],.d .b 1,h2,[.b],bf,λx=>uU x⟩
def ziz:bH 68 ZE:=d_ (T:=[(166,Ha),(66,QX),(63,KR),(156,VR)]) (h:=.s .n (.s (.s (.j ⟨[(1,.ptr 1000001 0),(37,.d .b 20)],[(900000000,.rw 1),(900000001,.rw 2),(900000002,.rw 3),(900000003,.rw 4),(1000001,.box 38 [.d .s 0,.d aR 1,.d aR 2,dI 3,dI 4,dI 5,.d .b 6,dI 7,dI 8,dI 9,.d .s 10,.d .s 11,.d aZ 12,dI 13,dI 14,dI 15,dI 16,dI 17,dI 18,dI 19])],Vk,[.b]⟩ bf .n) .n) (.s .n (.s .n (.s (.j ⟨[(1,.ptr 1000001 0),(3,.ptr 1000003 0),(4,.d .b 20)],[(900000000,.rw 1),(900000001,.rw 2),(900000002,.rw 3),(900000003,.rw 4),(1000001,.box 38 [.d .s 0,.d aR 1,.d aR 2,dI 3,dI 4,dI 5,.d .b 6,dI 7,dI 8,dI 9,.d .s 10,.d .s 11,.d aZ 12,dI 13,dI 14,dI 15,dI 16,dI 17,dI 18,dI 19]),(1000003,.box 38 [.d .s 0,.d aR 1,.d aR 2,dI 3,dI 4,dI 5,.d .b 6,dI 7,dI 21,dI 22,.d .s 23,.d .s 24,.d aZ 25,dI 26,dI 27,dI 28,dI 29,dI 30,dI 31,dI 32])],Vk,[.b,i6,i6,.s,.s,aZ,i6,i6,i6,i6,i6,i6,i6]⟩ bf .n) .n))))) Tryz.func68 rfl ahW ⟨oA,ziv,Wk,ZD,trivial⟩ λx=>by kernel_rfl
def ZF:Ct TS:=⟨[.d (.st 12) 0],h2,[.st 12],.d .b 1,h2,[.b],bf,λx=>HZ x⟩
def Yr:bH 21 ZF:=d_ (T:=[(51,zos),(53,zcu),(55,zcv),(57,zcw),(59,zcx),(61,zcy),(63,KR),(64,zcz),(66,QX),(67,zou),(68,ZE)]) (h:=.s .n (.s (.s (.j ⟨[(1,.ptr 1000001 0),(54,.d .b 8)],(nC 1000001 0 1 2 3 4 5 6 7),k1,[.b]⟩ bf .n) .n) (.s (.s .n (.s (.lr ⟨[(1,.ptr 1000001 0),(56,.d bZ 0),(57,dI 1),(58,dI 9)],(nC 1000001 0 2 3 4 5 6 7 8),[bZ,i6,bT,bV,bC,bR,zZ,eo,i6],[i6]⟩ [(1,.ptr 1000001 0)] (nC 1000001 0 2 3 4 5 6 7 8) [] 0 (Em ur) .n) .n)) (.s (.s .n (.s (.lr ⟨[(1,.ptr 1000001 0),(68,.d bT 0),(69,dI 1),(70,dI 9)],(nC 1000001 2 0 3 4 5 6 7 8),[bT,i6,bZ,bV,bC,bR,zZ,eo,i6],[i6]⟩ [(1,.ptr 1000001 0)] (nC 1000001 2 0 3 4 5 6 7 8) [] 2 (Em kl) (.s .n (.s .n (.s (.s (.s .n (.s (.s (.j ⟨[(1,.ptr 1000001 0),(6,.ptr 1000006 0),(68,.d bT 0),(69,dI 1),(70,dI 2),(84,.d .b 13)],[(900000000,.rw 1),(900000001,.rw 2),(900000002,.rw 3),(900000003,.rw 4),(1000001,.box 30 [.d bZ 3,.d bT 0,.d bV 4,.d bC 5,.d bR 6,.d zZ 7,.d eo 8,dI 9]),(1000006,.box 70 [.d .s 10,.d iS 11,dI 12])],[bT,i6,i6,bZ,bV,bC,bR,zZ,eo,i6,.s,iS,i6],[.b]⟩ bf .n) .n) (.s .n (.s (.lr ⟨[(1,.ptr 1000001 0),(68,.d bT 0),(69,dI 1),(70,dI 2),(86,.d iS 3),(87,dI 4),(88,dI 12)],(nC 1000001 5 0 6 7 8 9 10 11),[bT,i6,i6,iS,i6,bZ,bV,bC,bR,zZ,eo,i6],[i6]⟩ [(1,.ptr 1000001 0),(68,.d bT 0),(69,dI 1),(70,dI 2)] (nC 1000001 5 0 6 7 8 9 10 11) [] 4 (aaY Ai) .n) .n)))) .n) .n)))) .n)) (.s (.s .n (.s (.lr ⟨[(1,.ptr 1000001 0),(100,.d bV 0),(101,dI 1),(102,dI 9)],(nC 1000001 2 3 0 4 5 6 7 8),[bV,i6,bZ,bT,bC,bR,zZ,eo,i6],[i6]⟩ [(1,.ptr 1000001 0)] (nC 1000001 2 3 0 4 5 6 7 8) [] 6 (Em uu) .n) .n)) (.s (.s .n (.s (.lr ⟨[(1,.ptr 1000001 0),(112,.d bC 0),(113,dI 1),(114,dI 9)],(nC 1000001 2 3 4 0 5 6 7 8),[bC,i6,bZ,bT,bV,bR,zZ,eo,i6],[i6]⟩ [(1,.ptr 1000001 0)] (nC 1000001 2 3 4 0 5 6 7 8) [] 8 (Em uv) .n) .n)) (.s (.s .n (.s (.lr ⟨[(1,.ptr 1000001 0),(123,.d bR 0),(124,dI 1),(125,dI 9)],(nC 1000001 2 3 4 5 0 6 7 8),[bR,i6,bZ,bT,bV,bC,zZ,eo,i6],[i6]⟩ [(1,.ptr 1000001 0)] (nC 1000001 2 3 4 5 0 6 7 8) [] 10 (Em ux) (.s .n (.s .n (.s (.s (.s .n (.s (.j ⟨[(1,.ptr 1000001 0),(123,.d bR 0),(124,dI 1),(125,dI 2),(146,.d .b 10)],(nC 1000001 3 4 5 6 0 7 8 9),[bR,i6,i6,bZ,bT,bV,bC,zZ,eo,i6],[.b]⟩ bf .n) .n)) .n) .n)))) .n)) (.s (.s .n (.s (.lr ⟨[(1,.ptr 1000001 0),(149,.d zZ 0),(150,dI 1),(151,dI 9)],(nC 1000001 2 3 4 5 6 0 7 8),[zZ,i6,bZ,bT,bV,bC,bR,eo,i6],[i6]⟩ [(1,.ptr 1000001 0)] (nC 1000001 2 3 4 5 6 0 7 8) [] 12 (Em km) (.s .n (.s .n (.s (.s (.s .n (.s (.s (.j ⟨[(1,.ptr 1000001 0),(16,.ptr 1000016 0),(149,.d zZ 0),(150,dI 1),(151,dI 2),(167,.d .b 16)],[(900000000,.rw 1),(900000001,.rw 2),(900000002,.rw 3),(900000003,.rw 4),(1000001,.box 30 [.d bZ 3,.d bT 4,.d bV 5,.d bC 6,.d bR 7,.d zZ 0,.d eo 8,dI 9]),(1000016,.box 79 [.d .s 10,dI 11,dI 12,dI 13,dI 14,.d eo 15])],[zZ,i6,i6,bZ,bT,bV,bC,bR,eo,i6,.s,i6,i6,i6,i6,eo],[.b]⟩ bf .n) .n) (.s .n (.s (.lr ⟨[(1,.ptr 1000001 0),(149,.d zZ 0),(150,dI 1),(151,dI 2),(173,.row 3 1000170),(174,dI 3),(175,dI 12)],(Ul 4 5 6 7 8 9 10 11),[zZ,i6,i6,i6,bZ,bT,bV,bC,bR,eo,i6,eo],[i6]⟩ [(1,.ptr 1000001 0),(149,.d zZ 0),(150,dI 1),(151,dI 2)] (nC 1000001 4 5 6 7 8 0 9 10) [] 14 (aaY Aj) (.s .n (.s .n (.s (.s (.s .n (.s (.j ⟨[(1,.ptr 1000001 0),(149,.d zZ 0),(150,dI 1),(151,dI 2),(173,.row 3 1000170),(174,dI 3),(175,dI 4),(192,.d .b 13)],(Ul 5 6 7 8 9 10 11 12),[zZ,i6,i6,i6,i6,bZ,bT,bV,bC,bR,eo,i6,eo],[.b]⟩ bf .n) .n)) .n) .n)))) .n)))) .n) .n)))) .n)) (.s (.s .n (.s (.lr ⟨[(1,.ptr 1000001 0),(196,.d eo 0),(197,dI 1),(198,dI 9)],(nC 1000001 2 3 4 5 6 7 0 8),[eo,i6,bZ,bT,bV,bC,bR,zZ,i6],[i6]⟩ [(1,.ptr 1000001 0)] (nC 1000001 2 3 4 5 6 7 0 8) [] 16 (Em uy) (.s .n (.s .n (.s (.s (.s .n (.s (.j ⟨[(1,.ptr 1000001 0),(196,.d eo 0),(197,dI 1),(198,dI 2),(215,.d .b 10)],(nC 1000001 3 4 5 6 7 8 0 9),[eo,i6,i6,bZ,bT,bV,bC,bR,zZ,i6],[.b]⟩ bf .n) .n)) .n) .n)))) .n)) .n))))))))) Tryz.func21 rfl ahf ⟨zv1,zlw,zlx,zly,zlz,zl0,Wk,zl1,ziv,zv3,ziz,trivial⟩ λx=>by kernel_rfl
def Q5:Ct TS:=⟨[.d (.st 12) 0],[],[.st 12],.ag [dI 1,.d .s 2,.d .s 3,dI 4,.d .s 5,.d aR 6,.d aR 7,dI 8,dI 9,dI 10,.d .b 11,dI 12,dI 13,dI 14,.d .s 15,.d .s 16,.d aZ 17,dI 18,dI 19,dI 20,dI 21,dI 22,dI 23,dI 24,dI 25,dI 26,.d .s 27,.d .s 28,.d aZ 29,.d gu 30],(Og 7000001 1 2 3 4 5 6 7 8 9 10 11 12 13 14 15 16 17 18 19 20 21 22 23 24 25 26 27 28 29 30),Ec,bf,λx=>J6 x⟩
def zi0:bH 33 Q5:=o_ (cd:=pC) (nb:=nE) (rc:=[(2,7000001,0)]) (T:=[]) (h:=.s .n (.s .n (.s .n (.s .n (.s (.j ⟨[(2,.ptr 1000002 0),(4,.ptr 1000004 0)],(Um 1 0 1 2 2 0 0 0 3 0 0 0 1 1 4 0 0 0 0 0 0 0 0 0 1 1 4 5 1000004 6 7 1 9 1 2 2 0 0 0 3 0 0 0 1 1 4 0 0 0 0 0 0 0 0 0 1 1 4 8),[i6,.s,aR,.b,aZ,gu,i6,.s,gu],[i6]⟩ bf .n) .n))))) Tryz.func33 rfl ahp trivial λx=>by kernel_rfl
def wL:Ct TS:=⟨[.d gu 0,.d gu 1],[],[gu,gu],.d .b 2,[],[.b],bf,lX y8⟩
def vE:bH 50 wL:=d_ (T:=[]) (h:=.s .n (.s .n (.s (.s .n (.s (.lr ⟨[(0,.d gu 0),(1,.d gu 1),(12,dI 2),(13,dI 3)],[],[gu,gu,i6],[i6]⟩ [] [] [] 0 (na jj) .n) .n)) .n))) Tryz.func50 rfl ahE trivial λx=>by kernel_rfl
def zov:Ct TS:=⟨[.d (.st 1) 0,.d (.st 1) 1],[],[.st 1,.st 1],.d .b 2,[],[.b],bf,lX Yl⟩
def zv4:bH 145 zov:=d_ (T:=[(146,uG KK)]) (h:=.n) Tryz.func145 rfl zJw ⟨(ZC KK),trivial⟩ λx=>by kernel_rfl
def qG:Ct TS:=⟨[.d bZ 0,.d bZ 1,.fn 145 [] []],[],[bZ,bZ],.d .b 2,[],[.b],bf,lX xH⟩
def abN:bH 153 qG:=d_ (T:=[(145,zov)]) (h:=.s .n (.s .n (.s (.s .n (.s (.lr ⟨[(1,.d bZ 0),(2,.fn 145 [] []),(15,.d bZ 1),(16,dI 2),(17,dI 3)],[],[bZ,bZ,i6],[i6]⟩ [] [] [] 0 (na wq) .n) .n)) .n))) Tryz.func153 rfl zJx ⟨zv4,trivial⟩ λx=>by kernel_rfl
def Hm:Ct TS:=⟨[.d iS 0,.d iS 1],[],[iS,iS],.d .b 2,[],[.b],bf,lX je⟩
def acn:bH 148 Hm:=d_ (T:=[]) (h:=.s .n (.s .n (.s (.s .n (.s (.lr ⟨[(0,.d iS 0),(1,.d iS 1),(12,dI 2),(13,dI 3)],[],[iS,iS,i6],[i6]⟩ [] [] [] 0 (na jk) .n) .n)) .n))) Tryz.func148 rfl zJy trivial λx=>by kernel_rfl
def zow:Ct TS:=⟨[.d (.st 3) 0,.d (.st 3) 1],[],[.st 3,.st 3],.d .b 2,[],[.b],bf,lX Ym⟩
def zv5:bH 147 zow:=d_ (T:=[(148,Hm)]) (h:=.n) Tryz.func147 rfl zJz ⟨acn,trivial⟩ λx=>by kernel_rfl
def qH:Ct TS:=⟨[.d bT 0,.d bT 1,.fn 147 [] []],[],[bT,bT],.d .b 2,[],[.b],bf,lX xI⟩
def abO:bH 154 qH:=d_ (T:=[(147,zow)]) (h:=.s .n (.s .n (.s (.s .n (.s (.lr ⟨[(1,.d bT 0),(2,.fn 147 [] []),(15,.d bT 1),(16,dI 2),(17,dI 3)],[],[bT,bT,i6],[i6]⟩ [] [] [] 0 (na wu) .n) .n)) .n))) Tryz.func154 rfl zJ0 ⟨zv5,trivial⟩ λx=>by kernel_rfl
def qI:Ct TS:=⟨[.d bC 0,.d bC 1,.fn 156 [] []],[],[bC,bC],.d .b 2,[],[.b],bf,lX xJ⟩
def abP:bH 155 qI:=d_ (T:=[(156,VR)]) (h:=.s .n (.s .n (.s (.s .n (.s (.lr ⟨[(1,.d bC 0),(2,.fn 156 [] []),(15,.d bC 1),(16,dI 2),(17,dI 3)],[],[bC,bC,i6],[i6]⟩ [] [] [] 0 (na wv) .n) .n)) .n))) Tryz.func155 rfl zJ1 ⟨ZD,trivial⟩ λx=>by kernel_rfl
def zox:Ct TS:=⟨[.d (.st 5) 0,.d (.st 5) 1],[],[.st 5,.st 5],.d .b 2,[],[.b],bf,lX Yn⟩
def zv6:bH 149 zox:=d_ (T:=[(50,wL)]) (h:=.n) Tryz.func149 rfl zJ2 ⟨vE,trivial⟩ λx=>by kernel_rfl
def qJ:Ct TS:=⟨[.d bV 0,.d bV 1,.fn 149 [] []],[],[bV,bV],.d .b 2,[],[.b],bf,lX xK⟩
def abQ:bH 157 qJ:=d_ (T:=[(149,zox)]) (h:=.s .n (.s .n (.s (.s .n (.s (.lr ⟨[(1,.d bV 0),(2,.fn 149 [] []),(15,.d bV 1),(16,dI 2),(17,dI 3)],[],[bV,bV,i6],[i6]⟩ [] [] [] 0 (na wx) .n) .n)) .n))) Tryz.func157 rfl zJ3 ⟨zv6,trivial⟩ λx=>by kernel_rfl
def zoy:Ct TS:=⟨[.d (.st 8) 0,.d (.st 8) 1],[],[.st 8,.st 8],.d .b 2,[],[.b],bf,lX Yo⟩
def zv7:bH 150 zoy:=d_ (T:=[(50,wL)]) (h:=.n) Tryz.func150 rfl zJ4 ⟨vE,trivial⟩ λx=>by kernel_rfl
def qK:Ct TS:=⟨[.d bR 0,.d bR 1,.fn 150 [] []],[],[bR,bR],.d .b 2,[],[.b],bf,lX xL⟩
def abR:bH 158 qK:=d_ (T:=[(150,zoy)]) (h:=.s .n (.s .n (.s (.s .n (.s (.lr ⟨[(1,.d bR 0),(2,.fn 150 [] []),(15,.d bR 1),(16,dI 2),(17,dI 3)],[],[bR,bR,i6],[i6]⟩ [] [] [] 0 (na wy) .n) .n)) .n))) Tryz.func158 rfl zJ5 ⟨zv7,trivial⟩ λx=>by kernel_rfl
def qw:Ct TS:=⟨[.d eo 0,.d eo 1],[],[eo,eo],.d .b 2,[],[.b],bf,lX wE⟩
def An:bH 152 qw:=d_ (T:=[]) (h:=.s .n (.s .n (.s (.s .n (.s (.lr ⟨[(0,.d eo 0),(1,.d eo 1),(12,dI 2),(13,dI 3)],[],[eo,eo,i6],[i6]⟩ [] [] [] 0 (na jm) .n) .n)) .n))) Tryz.func152 rfl zJ6 trivial λx=>by kernel_rfl
def zoz:Ct TS:=⟨[.d (.st 10) 0,.d (.st 10) 1],[],[.st 10,.st 10],.d .b 2,[],[.b],bf,lX Yp⟩
def zv8:bH 151 zoz:=d_ (T:=[(152,qw)]) (h:=.n) Tryz.func151 rfl zJ7 ⟨An,trivial⟩ λx=>by kernel_rfl
def qL:Ct TS:=⟨[.d zZ 0,.d zZ 1,.fn 151 [] []],[],[zZ,zZ],.d .b 2,[],[.b],bf,lX xM⟩
def abS:bH 159 qL:=d_ (T:=[(151,zoz)]) (h:=.s .n (.s .n (.s (.s .n (.s (.lr ⟨[(1,.d zZ 0),(2,.fn 151 [] []),(15,.d zZ 1),(16,dI 2),(17,dI 3)],[],[zZ,zZ,i6],[i6]⟩ [] [] [] 0 (na wz) .n) .n)) .n))) Tryz.func159 rfl zJ8 ⟨zv8,trivial⟩ λx=>by kernel_rfl
def Sd:Ct TS:=⟨[.d (.st 12) 0,.d (.st 12) 1],[],[.st 12,.st 12],.d .b 2,[],[.b],bf,lX IN⟩
def zwa:bH 45 Sd:=d_ (T:=[(153,qG),(154,qH),(155,qI),(157,qJ),(158,qK),(159,qL),(152,qw)]) (h:=.s .n (.s .n (.s .n (.s .n (.s .n (.s .n (.s (.j ⟨[(2,.ptr 1000002 0),(3,.ptr 1000003 0),(7,.fn 149 [] []),(8,.fn 150 [] []),(9,.fn 151 [] []),(10,.d .b 16)],tq,Cb,[.b]⟩ bf .n) (.s (.j ⟨[(2,.ptr 1000002 0),(3,.ptr 1000003 0),(10,.d .b 0),(11,.d .b 17)],F6,[.b,bZ,bT,bV,bC,bR,zZ,eo,i6,bZ,bT,bV,bC,bR,zZ,eo,i6],[.b]⟩ bf .n) .n)))))))) Tryz.func45 rfl ahA ⟨abN,abO,abP,abQ,abR,abS,An,trivial⟩ λx=>by kernel_rfl
def Ys:Ct TS:=⟨[.d (.st 13) 0,.d (.st 13) 1],[],[.st 13,.st 13],.d .b 2,[],[.b],bf,lX kK⟩
def ZG:bH 18 Ys:=d_ (T:=[(50,wL),(45,Sd)]) (h:=.s .n (.s (.j ⟨[(2,.ptr 1000002 0),(3,.ptr 1000003 0),(5,.d .b 60)],Mp,O7,[.b]⟩ bf .n) .n)) Tryz.func18 rfl ahd ⟨vE,zwa,trivial⟩ λx=>by kernel_rfl
def Ao:Ct TS:=⟨[.d (.st 13) 0],h2,[.st 13],.d .b 1,h2,[.b],bf,λx=>jJ x⟩
def Aq:bH 16 Ao:=d_ (T:=[(37,Zx),(21,ZF),(33,Q5),(18,Ys),(48,IP)]) (h:=.s .n (.s .n (.s (.s (.j ⟨[(1,.ptr 1000001 0),(36,.d .b 30)],(h5 1000001 0 1 2 3 4 5 6 7 8 9 10 11 12 13 14 15 16 17 18 19 20 21 22 23 24 25 26 27 28 29),Ec,[.b]⟩ bf .n) .n) .n))) Tryz.func16 rfl ahb ⟨zct,Yr,zi0,ZG,ML,trivial⟩ λx=>by kernel_rfl
def ZH:Ct TS:=⟨[.d (.st 13) 0],h2,[.st 13],.d .b 1,h2,[.b],bf,λx=>Zg x⟩
def zi1:bH 36 ZH:=d_ (T:=[(16,Ao)]) (h:=.n) Tryz.func36 rfl ahs ⟨Aq,trivial⟩ λx=>by kernel_rfl
def oB:Ct TS:=⟨[.d vD 0,.fn 36 [] []],h2,[vD],dI 1,h2,[i6],bf,λx=>yE x⟩
def ab2:bH 123 oB:=d_ (T:=[(36,ZH)]) (h:=.s .n (.s (.s .n (.s (.lr ⟨[(0,.d vD 0),(1,.fn 36 [] []),(7,dI 1),(8,dI 2)],h2,[vD,i6],[i6]⟩ [] h2 [] 0 (lX zu) .n) .n)) .n)) Tryz.func123 rfl zJ9 ⟨zi1,trivial⟩ λx=>by kernel_rfl
def qe:Ct TS:=⟨[.d vD 0,.fn 36 [] []],h2,[vD],.d .b 1,h2,[.b],bf,λx=>zO x⟩
def abI:bH 35 qe:=d_ (T:=[(123,oB)]) (h:=.n) Tryz.func35 rfl ahr ⟨ab2,trivial⟩ λx=>by kernel_rfl
def Ss:Ct TS:=⟨[dI 0],h2,[i6],.d .s 1,h2,[.s],bf,λx=>R8 x⟩
def zwc:Ss.OK aS 131:=λx r h=>Cc (by kernel_rfl) (zIe x r h)
def zi2:Ct TS:=⟨[.d .s 0,.d .s 1,.d .s 2,dI 3],h2,[.s,.s,.s,i6],.d .s 4,h2,[.s],bf,A8 zic⟩
def zrd:zi2.OK aS 130:=λx r h=>Cc (by kernel_rfl) (zu4 x.1 x.2.1 x.2.2.1 x.2.2.2 r h)
def zo0:Ct TS:=⟨[.d (.st 13) 0],h2,[.st 13],.d .s 1,h2,[.s],bf,λx=>zog x⟩
def zwd:bH 39 zo0:=d_ (T:=[(131,Ss),(130,zi2)]) (h:=.n) Tryz.func39 rfl ahu ⟨⟨WH,zwc⟩,⟨zKa,zrd⟩,trivial⟩ λx=>by kernel_rfl
def zwe:Ct TS:=⟨[.ptr 1 0,.d .s 1],[(1,.gn 0 .s 0)],[.s,.s],.iN [dI 2,.nM],[(1,.gn 0 .s 3)],[i6,.s],bf,lX zva⟩
def zzz:zwe.OK aS 40:=λx r h=>by obtain⟨_,h1,h2⟩:=bind_some h;cases h2;exact Cc (by kernel_rfl) (zEe agX 1 x.1 x.2 (yY h1))
def zwf:Ct TS:=⟨[.ptr 1 0],[(1,.gn 0 .s 0)],[.s],dI 1,[(1,.gn 0 .s 0)],[i6],bf,λx=>zvb x⟩
def zz0:zwf.OK aS 41:=λx r h=>by
 cases h;exact Cc (by kernel_rfl) (zEf (T:=108) 1 x)
def YJ:Ct TS:=⟨[.ptr 1 0],[(1,.gn 0 .s 0)],[.s],.d .s 1,[(1,.gn 0 .s 0)],[.s],bf,λx=>ζ x⟩
def zl4:YJ.OK aS 42:=λx r h=>by
 cases h;exact Cc (by kernel_rfl) (zqo (T:=108) 1 x)
def zi3:Ct TS:=⟨[.d vD 0],h2,[vD],.iN [.d .s 1,dI 2],h2,[.s,i6],bf,λx=>zid x⟩
def zre:bH 12 zi3:=d_ (T:=[(35,qe),(16,Ao),(37,Zx),(39,zo0),(40,zwe),(41,zwf),(42,YJ)]) (h:=.s .n (.s (.s (.j ⟨[(0,.d vD 0),(19,.d .b 1)],h2,[vD],[.b]⟩ bf .n) .n) (.s .n (.s .n (.s (.s .n (.s (.lr ⟨[(4,.ptr 1000004 0),(5,dI 0),(20,.d vD 1),(21,dI 2),(22,dI 3)],(Oi 4),[i6,vD,i6],[i6,.s]⟩ [(4,.ptr 1000004 0),(5,dI 0)] (Oi 3) [.s] 0 (na H0) .n) .n)) (.s (.s (.j ⟨[(4,.ptr 1000004 0),(52,.d .b 1)],(Oi 0),[.s],[.b]⟩ bf .n) .n) .n)))))) Tryz.func12 rfl ag9 ⟨abI,Aq,zct,zwd,⟨ahv,zzz⟩,⟨ahw,zz0⟩,⟨ahx,zl4⟩,trivial⟩ λx=>by kernel_rfl
def ZI:Ct TS:=⟨[.d .s 0],[],[.s],.fn 70 [] [.ptr 7000001 0],[(7000001,.box 9 [.d .s 1])],[.s],bf,λx=>ko x⟩
def zi4:bH 69 ZI:=d_ (T:=[]) (h:=.n) Tryz.func69 rfl ahX trivial λx=>by kernel_rfl
def Hb:Ct TS:=⟨[.d (.st 7) 0,.ptr 1 0],[(1,.box 9 [.d .s 1])],[.st 7,.s],.d .b 2,[(1,.box 9 [.d .s 1])],[.b],bf,lX A4⟩
def Kq:bH 70 Hb:=d_ (T:=[]) (h:=.n) Tryz.func70 rfl ahY trivial λx=>by kernel_rfl
def vV:Ct TS:=⟨[.d bC 0,.fn 70 [] [.ptr 1 0]],[(1,.box 9 [.d .s 1])],[bC,.s],dI 2,[(1,.box 9 [.d .s 1])],[i6],bf,lX xN⟩
def qf:bH 75 vV:=d_ (T:=[(70,Hb)]) (h:=.s .n (.s (.s .n (.s (.lr ⟨[(0,.d bC 1),(1,.fn 70 [] [.ptr 1 0]),(7,dI 2),(8,dI 3)],[(1,.box 9 [.d .s 0])],[.s,bC,i6],[i6]⟩ [] [(1,.box 9 [.d .s 0])] [] 0 (na yg) .n) .n)) .n)) Tryz.func75 rfl Nl ⟨Kq,trivial⟩ λx=>by kernel_rfl
def wB:Ct TS:=⟨[.d bC 0,.fn 70 [] [.ptr 1 0]],[(1,.box 9 [.d .s 1])],[bC,.s],.d .b 2,[(1,.box 9 [.d .s 1])],[.b],bf,lX yF⟩
def jA:bH 71 wB:=d_ (T:=[(75,vV)]) (h:=.n) Tryz.func71 rfl ahZ ⟨qf,trivial⟩ λx=>by kernel_rfl
def ji:Ct TS:=⟨[.d bC 0],[],[bC],.row 20 7000001,(h4 7000001 38 7 1),[bC],bf,λx=>xt x⟩
def kv:bH 98 ji:=d_ (T:=[]) (h:=.n) Tryz.func98 rfl aim trivial (λx=>match x with|[]=>by kernel_rfl|_::_=>by kernel_rfl)
def ZJ:Ct TS:=⟨[.d (.st 7) 0],[],[.st 7],.d .b 1,[],[.b],bf,λx=>Zh x⟩
def zi5:bH 73 ZJ:=d_ (T:=[]) (h:=.n) Tryz.func73 rfl ah0 trivial λx=>by kernel_rfl
def qM:Ct TS:=⟨[.row 20 1,.fn 73 [] []],(h4 1 38 7 0),[bC],dI 1,(h4 1 38 7 0),[i6],bf,λx=>vL x⟩
def abT:bH 75 qM:=d_ (T:=[(73,ZJ)]) (h:=.s .n (.s (.s .n (.s (.lr ⟨[(0,.row 20 1),(1,.fn 73 [] []),(7,dI 1),(8,dI 2)],(h4 1 38 7 0),[bC,i6],[i6]⟩ [] (h4 1 38 7 0) [] 0 (lX yh) .n) .n)) .n)) Tryz.func75 rfl Nl ⟨zi5,trivial⟩ λx=>by kernel_rfl
def ZK:Ct TS:=⟨[.rp 20 1 1 0,.ptr 2 0],XH,Vl,.iN [],XI,[bC],bf,λx=>uV x.1 x.2.1 (oe x.2.2)⟩
def zi6:bH 74 ZK:=d_ (T:=[]) (h:=.n) Tryz.func74 rfl ah1 trivial λx=>by kernel_rfl
def zwg:Ct TS:=⟨[.d bC 0,.fn 73 [] [],.fn 74 [] [.ptr 1 0],dI 31],KZ,aep,.iN [.d bC 32,dI 33],KZ,[bC,i6],bf,λx=>ME x.1 (Dc x.2) (Ce x.2)⟩
def zz1:bH 72 zwg:=o_ (cd:=DD) (nb:=nE) (rc:=[]) (T:=[(98,ji),(75,qM),(74,ZK)]) (h:=.s .n (.s .n (.s .n (.s (.j ⟨[(0,.row 20 103001300),(2,.fn 74 [] [.ptr 1 0]),(10,dI 30)],(GK 38 7),Ec,[i6,bC]⟩ bh .n) .n)))) Tryz.func72 rfl XN ⟨kv,abT,zi6,trivial⟩ λx=>by kernel_rfl
def qN:Ct TS:=⟨[.row 20 1,.fn 70 [] [.ptr 2 0]],Ll,[bC,.s],dI 2,Ll,[i6],bf,lX vM⟩
def abU:bH 75 qN:=d_ (T:=[(70,Hb)]) (h:=.s .n (.s (.s .n (.s (.lr ⟨[(0,.row 20 1),(1,.fn 70 [] [.ptr 2 0]),(7,dI 2),(8,dI 3)],Ll,[bC,.s,i6],[i6]⟩ [] Ll [] 0 (na yi) .n) .n)) .n)) Tryz.func75 rfl Nl ⟨Kq,trivial⟩ λx=>by kernel_rfl
def ZL:Ct TS:=⟨[.rp 20 1 1 0,.ptr 2 0],XH,Vl,.iN [],XI,[bC],bf,λx=>uW x.1 x.2.1 (oe x.2.2)⟩
def zi7:bH 77 ZL:=d_ (T:=[]) (h:=.n) Tryz.func77 rfl ah3 trivial λx=>by kernel_rfl
def zi8:Ct TS:=⟨[.d bC 0,.fn 70 [] [.ptr 1 0],.fn 77 [] [.ptr 2 0],dI 32],Lm,aeq,.iN [.d bC 33,dI 34],Lm,[bC,i6],bf,λx=>Qr x.1 x.2.1 (Dc x.2.2) (Ce x.2.2)⟩
def zrf:bH 72 zi8:=o_ (cd:=DD) (nb:=nE) (rc:=[]) (T:=[(98,ji),(75,qN),(77,ZL)]) (h:=.s .n (.s .n (.s .n (.s (.j ⟨[(0,.row 20 103001300),(2,.fn 77 [] [.ptr 2 0]),(10,dI 31)],[(1,.box 9 [.d .s 0]),(2,.box 41 [dI 1,.d .s 2,.d .s 3,dI 4,.d .s 5,.d aR 6,.d aR 7,dI 8,dI 9,dI 10,.d .b 11,dI 12,dI 13,dI 14,.d .s 15,.d .s 16,.d aZ 17,dI 18,dI 19,dI 20,dI 21,dI 22,dI 23,dI 24,dI 25,dI 26,.d .s 27,.d .s 28,.d aZ 29,.d gu 30]),(103001300,.row 38 (.st 7) 32 bf)],aer,[i6,bC]⟩ bh .n) .n)))) Tryz.func72 rfl XN ⟨kv,abU,zi7,trivial⟩ λx=>by kernel_rfl
def Wl:Ct TS:=⟨[.d bC 0,.fn 70 [] [.ptr 1 0],.fn 77 [] [.ptr 2 0]],Lm,aes,.iN [.d bC 32,dI 33],Lm,[bC,i6],bf,λx=>ox x.1 x.2.1 (oe x.2.2)⟩
def zfd:bH 76 Wl:=d_ (T:=[(71,wB),(72,zi8)]) (h:=.n) Tryz.func76 rfl ah2 ⟨jA,zrf,trivial⟩ λx=>by kernel_rfl
def qx:Ct TS:=⟨[.d bZ 0],[],[bZ],.row 6 7000001,(h4 7000001 68 1 1),[bZ],bf,λx=>wF x⟩
def Ar:bH 95 qx:=d_ (T:=[]) (h:=.n) Tryz.func95 rfl aij trivial (λx=>match x with|[]=>by kernel_rfl|_::_=>by kernel_rfl)
def ZN:Ct TS:=⟨[.d (.st 1) 0,.ptr 1 0],KZ,aet,.d .b 31,KZ,[.b],bf,λx=>Zi x.1 (oe x.2)⟩
def zi9:bH 79 ZN:=d_ (T:=[]) (h:=.n) Tryz.func79 rfl ah5 trivial λx=>by kernel_rfl
def qO:Ct TS:=⟨[.row 6 1,.fn 79 [] [.ptr 2 0]],Mr,aeu,dI 31,Mr,[i6],bf,λx=>vN x.1 (oe x.2)⟩
def abV:bH 169 qO:=d_ (T:=[(79,ZN)]) (h:=.s .n (.s (.s .n (.s (.lr ⟨[(0,.row 6 1),(1,.fn 79 [] [.ptr 2 0]),(7,dI 31),(8,dI 32)],Mr,Vm,[i6]⟩ [] Mr [] 0 (λx K v=>yj (EB.mk x.2.1 x.2.2.1 x.2.2.2.1 x.2.2.2.2.1 (p5 x).1 (p6 x).1 (rV x).1 (sC x).1 (sO x).1 (s7 x).1 (tt x).1 (tn x).1 (Bd x).1 (Be x).1 (Bf x).1 (BQ x).1 (BR x).1 (BE x).1 (BF x).1 (BG x).1 (BH x).1 (Cp x).1 (Cq x).1 (Cr x).1 (C1 x).1 (C2 x).1 (C3 x).1 (C4 x).1 (C5 x).1 (C6 x).1) x.1 (C7 x) K v) .n) .n)) .n)) Tryz.func169 rfl WI ⟨zi9,trivial⟩ λx=>by kernel_rfl
def ZO:Ct TS:=⟨[.rp 6 1 1 0,.ptr 2 0],(sM 68 1 0 2 3 4 5 6 7 8 9 10 11 12 13 14 15 16 17 18 19 20 21 22 23 24 25 26 27 28 29 30 31),aev,.iN [],(sM 68 1 32 2 3 4 5 6 7 8 9 10 11 12 13 14 15 16 17 18 19 20 21 22 23 24 25 26 27 28 29 30 31),[bZ],bf,λx=>uX x.1 x.2.1 (oe x.2.2)⟩
def zja:bH 80 ZO:=d_ (T:=[]) (h:=.n) Tryz.func80 rfl ah6 trivial λx=>by kernel_rfl
def zjb:Ct TS:=⟨[.d bZ 0,.fn 79 [] [.ptr 1 0],.fn 80 [] [.ptr 1 0],dI 31],KZ,Vm,.iN [.d bZ 32,dI 33],KZ,[bZ,i6],bf,λx=>Qs x.1 (Dc x.2) (Ce x.2)⟩
def zrg:bH 78 zjb:=o_ (cd:=DD) (nb:=nE) (rc:=[]) (T:=[(95,qx),(169,qO),(80,ZO)]) (h:=.s .n (.s .n (.s .n (.s (.j ⟨[(0,.row 6 103001300),(2,.fn 80 [] [.ptr 1 0]),(10,dI 30)],(GK 68 1),Ec,[i6,bZ]⟩ bh .n) .n)))) Tryz.func78 rfl ah4 ⟨Ar,abV,zja,trivial⟩ λx=>by kernel_rfl
def qy:Ct TS:=⟨[.d bT 0],[],[bT],.row 3 7000001,(h4 7000001 70 3 1),[bT],bf,λx=>wG x⟩
def As:bH 96 qy:=d_ (T:=[]) (h:=.n) Tryz.func96 rfl aik trivial (λx=>match x with|[]=>by kernel_rfl|_::_=>by kernel_rfl)
def ZP:Ct TS:=⟨[.d (.st 3) 0,.ptr 1 0],KZ,aew,.d .b 31,KZ,[.b],bf,λx=>Zj x.1 (oe x.2)⟩
def zjc:bH 82 ZP:=d_ (T:=[]) (h:=.n) Tryz.func82 rfl ah8 trivial λx=>by kernel_rfl
def qP:Ct TS:=⟨[.row 3 1,.fn 82 [] [.ptr 2 0]],Ms,aex,dI 31,Ms,[i6],bf,λx=>vO x.1 (oe x.2)⟩
def abW:bH 170 qP:=d_ (T:=[(82,ZP)]) (h:=.s .n (.s (.s .n (.s (.lr ⟨[(0,.row 3 1),(1,.fn 82 [] [.ptr 2 0]),(7,dI 31),(8,dI 32)],Ms,aey,[i6]⟩ [] Ms [] 0 (λx K v=>yk (EB.mk x.2.1 x.2.2.1 x.2.2.2.1 x.2.2.2.2.1 (p5 x).1 (p6 x).1 (rV x).1 (sC x).1 (sO x).1 (s7 x).1 (tt x).1 (tn x).1 (Bd x).1 (Be x).1 (Bf x).1 (BQ x).1 (BR x).1 (BE x).1 (BF x).1 (BG x).1 (BH x).1 (Cp x).1 (Cq x).1 (Cr x).1 (C1 x).1 (C2 x).1 (C3 x).1 (C4 x).1 (C5 x).1 (C6 x).1) x.1 (C7 x) K v) .n) .n)) .n)) Tryz.func170 rfl Sj ⟨zjc,trivial⟩ λx=>by kernel_rfl
def Hn:Ct TS:=⟨[.d iS 0],[],[iS],.row 2 7000001,(h4 7000001 50 2 1),[iS],bf,λx=>jf x⟩
def aco:bH 103 Hn:=d_ (T:=[]) (h:=.n) Tryz.func103 rfl Xf trivial (λx=>match x with|[]=>by kernel_rfl|_::_=>by kernel_rfl)
def QH:Ct TS:=⟨[.d (.st 2) 0,.ptr 1 0],KZ,aez,.d .b 31,KZ,[.b],bf,λx=>Qt x.1 (oe x.2)⟩
def za3:bH 85 QH:=d_ (T:=[]) (h:=.n) Tryz.func85 rfl ah' trivial λx=>by kernel_rfl
def qQ:Ct TS:=⟨[.row 2 1,.fn 85 [] [.ptr 2 0]],Mq,aeA,dI 31,Mq,[i6],bf,λx=>vP x.1 (oe x.2)⟩
def abX:bH 171 qQ:=d_ (T:=[(85,QH)]) (h:=.s .n (.s (.s .n (.s (.lr ⟨[(0,.row 2 1),(1,.fn 85 [] [.ptr 2 0]),(7,dI 31),(8,dI 32)],Mq,Vn,[i6]⟩ [] Mq [] 0 (λx K v=>yl (EB.mk x.2.1 x.2.2.1 x.2.2.2.1 x.2.2.2.2.1 (p5 x).1 (p6 x).1 (rV x).1 (sC x).1 (sO x).1 (s7 x).1 (tt x).1 (tn x).1 (Bd x).1 (Be x).1 (Bf x).1 (BQ x).1 (BR x).1 (BE x).1 (BF x).1 (BG x).1 (BH x).1 (Cp x).1 (Cq x).1 (Cr x).1 (C1 x).1 (C2 x).1 (C3 x).1 (C4 x).1 (C5 x).1 (C6 x).1) x.1 (C7 x) K v) .n) .n)) .n)) Tryz.func171 rfl Sk ⟨za3,trivial⟩ λx=>by kernel_rfl
def QI:Ct TS:=⟨[.rp 2 1 1 0,.ptr 2 0],(sM 50 2 0 2 3 4 5 6 7 8 9 10 11 12 13 14 15 16 17 18 19 20 21 22 23 24 25 26 27 28 29 30 31),aeB,.iN [],(sM 50 2 32 2 3 4 5 6 7 8 9 10 11 12 13 14 15 16 17 18 19 20 21 22 23 24 25 26 27 28 29 30 31),[iS],bf,λx=>jK x.1 x.2.1 (oe x.2.2)⟩
def za4:bH 86 QI:=d_ (T:=[]) (h:=.n) Tryz.func86 rfl aia trivial λx=>by kernel_rfl
def zjd:Ct TS:=⟨[.d iS 0,.fn 85 [] [.ptr 1 0],.fn 86 [] [.ptr 1 0],dI 31],KZ,Vn,.iN [.d iS 32,dI 33],KZ,[iS,i6],bf,λx=>H4 x.1 (Dc x.2) (Ce x.2)⟩
def zrh:bH 84 zjd:=o_ (cd:=DD) (nb:=nE) (rc:=[]) (T:=[(103,Hn),(171,qQ),(86,QI)]) (h:=.s .n (.s .n (.s .n (.s (.j ⟨[(0,.row 2 103001300),(2,.fn 86 [] [.ptr 1 0]),(10,dI 30)],(GK 50 2),Ec,[i6,iS]⟩ bh .n) .n)))) Tryz.func84 rfl ah_ ⟨aco,abX,za4,trivial⟩ λx=>by kernel_rfl
def ZQ:Ct TS:=⟨[.rp 3 1 1 0,.ptr 2 0,.ptr 3 0],(Un 0 32),aeC,.iN [],(Un 33 34),[bT,i6],bf,λx=>uY x.1 x.2.1 (Dc x.2.2) (Ce x.2.2)⟩
def zje:bH 83 ZQ:=d_ (T:=[(84,zjd)]) (h:=.n) Tryz.func83 rfl ah9 ⟨zrh,trivial⟩ λx=>by kernel_rfl
def zjf:Ct TS:=⟨[.d bT 0,.fn 82 [] [.ptr 1 0],.fn 83 [] [.ptr 1 0,.ptr 2 0],dI 32],(Uo 31),aeD,.iN [.d bT 33,dI 34],(Uo 35),[bT,i6,i6],bf,λx=>Qu x.1 (Dc x.2) (Ce x.2).1 (Ce x.2).2⟩
def zri:bH 81 zjf:=o_ (cd:=DD) (nb:=nE) (rc:=[]) (T:=[(96,qy),(170,qP),(83,ZQ)]) (h:=.s .n (.s .n (.s .n (.s (.j ⟨[(0,.row 3 103001300),(2,.fn 83 [] [.ptr 1 0,.ptr 2 0]),(10,dI 31)],[(1,.box 41 [dI 0,.d .s 1,.d .s 2,dI 3,.d .s 4,.d aR 5,.d aR 6,dI 7,dI 8,dI 9,.d .b 10,dI 11,dI 12,dI 13,.d .s 14,.d .s 15,.d aZ 16,dI 17,dI 18,dI 19,dI 20,dI 21,dI 22,dI 23,dI 24,dI 25,.d .s 26,.d .s 27,.d aZ 28,.d gu 29]),(2,.box 46 [dI 30]),(103001300,.row 70 (.st 3) 32 bf)],aeE,[i6,bT]⟩ bh .n) .n)))) Tryz.func81 rfl ah7 ⟨As,abW,zje,trivial⟩ λx=>by kernel_rfl
def ZR:Ct TS:=⟨[.d (.st 5) 0,.ptr 1 0],KZ,Vo,.d .b 31,KZ,[.b],bf,λx=>Zk x.1 (oe x.2)⟩
def zjg:bH 88 ZR:=d_ (T:=[]) (h:=.n) Tryz.func88 rfl aib trivial λx=>by kernel_rfl
def qR:Ct TS:=⟨[.d bV 0,.fn 88 [] [.ptr 1 0]],KZ,Vp,dI 31,KZ,[i6],bf,λx=>vQ x.1 (oe x.2)⟩
def abY:bH 87 qR:=d_ (T:=[(88,ZR)]) (h:=.s .n (.s (.s .n (.s (.lr ⟨[(0,.d bV 30),(1,.fn 88 [] [.ptr 1 0]),(7,dI 31),(8,dI 32)],Nk,aeF,[i6]⟩ [] Nk [] 0 (λx K v=>ym (EB.mk x.1 x.2.1 x.2.2.1 x.2.2.2.1 x.2.2.2.2.1 (p5 x).1 (p6 x).1 (rV x).1 (sC x).1 (sO x).1 (s7 x).1 (tt x).1 (tn x).1 (Bd x).1 (Be x).1 (Bf x).1 (BQ x).1 (BR x).1 (BE x).1 (BF x).1 (BG x).1 (BH x).1 (Cp x).1 (Cq x).1 (Cr x).1 (C1 x).1 (C2 x).1 (C3 x).1 (C4 x).1 (C5 x).1) (C6 x).1 (C7 x) K v) .n) .n)) .n)) Tryz.func87 rfl PC ⟨zjg,trivial⟩ λx=>by kernel_rfl
def qz:Ct TS:=⟨[.d bV 0],[],[bV],.row 3 7000001,(h4 7000001 72 5 1),[bV],bf,λx=>wH x⟩
def Au:bH 97 qz:=d_ (T:=[]) (h:=.n) Tryz.func97 rfl ail trivial (λx=>match x with|[]=>by kernel_rfl|_::_=>by kernel_rfl)
def Wm:Ct TS:=⟨[.d (.st 5) 0,.ptr 1 0],KZ,Vo,.d .b 31,KZ,[.b],bf,λx=>Wi x.1 (oe x.2)⟩
def zfe:bH 90 Wm:=d_ (T:=[]) (h:=.n) Tryz.func90 rfl aid trivial λx=>by kernel_rfl
def qS:Ct TS:=⟨[.row 3 1,.fn 90 [] [.ptr 2 0]],Mt,Vp,dI 31,Mt,[i6],bf,λx=>vR x.1 (oe x.2)⟩
def abZ:bH 87 qS:=d_ (T:=[(90,Wm)]) (h:=.s .n (.s (.s .n (.s (.lr ⟨[(0,.row 3 1),(1,.fn 90 [] [.ptr 2 0]),(7,dI 31),(8,dI 32)],Mt,Vq,[i6]⟩ [] Mt [] 0 (λx K v=>yn (EB.mk x.2.1 x.2.2.1 x.2.2.2.1 x.2.2.2.2.1 (p5 x).1 (p6 x).1 (rV x).1 (sC x).1 (sO x).1 (s7 x).1 (tt x).1 (tn x).1 (Bd x).1 (Be x).1 (Bf x).1 (BQ x).1 (BR x).1 (BE x).1 (BF x).1 (BG x).1 (BH x).1 (Cp x).1 (Cq x).1 (Cr x).1 (C1 x).1 (C2 x).1 (C3 x).1 (C4 x).1 (C5 x).1 (C6 x).1) x.1 (C7 x) K v) .n) .n)) .n)) Tryz.func87 rfl PC ⟨zfe,trivial⟩ λx=>by kernel_rfl
def Wn:Ct TS:=⟨[.rp 3 1 1 0,.ptr 2 0],(sM 72 5 0 2 3 4 5 6 7 8 9 10 11 12 13 14 15 16 17 18 19 20 21 22 23 24 25 26 27 28 29 30 31),aeG,.iN [],(sM 72 5 32 2 3 4 5 6 7 8 9 10 11 12 13 14 15 16 17 18 19 20 21 22 23 24 25 26 27 28 29 30 31),[bV],bf,λx=>kV x.1 x.2.1 (oe x.2.2)⟩
def zff:bH 91 Wn:=d_ (T:=[]) (h:=.n) Tryz.func91 rfl aie trivial λx=>by kernel_rfl
def zjh:Ct TS:=⟨[.d bV 0,.fn 90 [] [.ptr 1 0],.fn 91 [] [.ptr 1 0],dI 31],KZ,Vq,.iN [.d bV 32,dI 33],KZ,[bV,i6],bf,λx=>Qv x.1 (Dc x.2) (Ce x.2)⟩
def zrj:bH 89 zjh:=o_ (cd:=DD) (nb:=nE) (rc:=[]) (T:=[(97,qz),(87,qS),(91,Wn)]) (h:=.s .n (.s .n (.s .n (.s (.j ⟨[(0,.row 3 103001300),(2,.fn 91 [] [.ptr 1 0]),(10,dI 30)],(GK 72 5),Ec,[i6,bV]⟩ bh .n) .n)))) Tryz.func89 rfl aic ⟨Au,abZ,zff,trivial⟩ λx=>by kernel_rfl
def Jo:Ct TS:=⟨[.d (.st 8) 0,.ptr 1 0],KZ,aeH,.d .b 31,KZ,[.b],bf,λx=>H5 x.1 (oe x.2)⟩
def QJ:bH 93 Jo:=d_ (T:=[]) (h:=.n) Tryz.func93 rfl aih trivial λx=>by kernel_rfl
def qg:Ct TS:=⟨[.d bR 0,.fn 93 [] [.ptr 1 0]],KZ,LK,dI 31,KZ,[i6],bf,λx=>vj x.1 (oe x.2)⟩
def abJ:bH 218 qg:=d_ (T:=[(93,Jo)]) (h:=.s .n (.s (.s .n (.s (.lr ⟨[(0,.d bR 30),(1,.fn 93 [] [.ptr 1 0]),(7,dI 31),(8,dI 32)],Nk,aeI,[i6]⟩ [] Nk [] 0 (λx K v=>z7 (EB.mk x.1 x.2.1 x.2.2.1 x.2.2.2.1 x.2.2.2.2.1 (p5 x).1 (p6 x).1 (rV x).1 (sC x).1 (sO x).1 (s7 x).1 (tt x).1 (tn x).1 (Bd x).1 (Be x).1 (Bf x).1 (BQ x).1 (BR x).1 (BE x).1 (BF x).1 (BG x).1 (BH x).1 (Cp x).1 (Cq x).1 (Cr x).1 (C1 x).1 (C2 x).1 (C3 x).1 (C4 x).1 (C5 x).1) (C6 x).1 (C7 x) K v) .n) .n)) .n)) Tryz.func218 rfl Sl ⟨QJ,trivial⟩ λx=>by kernel_rfl
def jT:Ct TS:=⟨[.d bR 0,.fn 93 [] [.ptr 1 0]],KZ,LK,.d .b 31,KZ,[.b],bf,λx=>xb x.1 (oe x.2)⟩
def aby:bH 172 jT:=d_ (T:=[(218,qg)]) (h:=.n) Tryz.func172 rfl zKc ⟨abJ,trivial⟩ λx=>by kernel_rfl
def qA:Ct TS:=⟨[.d bR 0],[],[bR],.row 4 7000001,(h4 7000001 75 8 1),[bR],bf,λx=>wI x⟩
def Aw:bH 99 qA:=d_ (T:=[]) (h:=.n) Tryz.func99 rfl ain trivial (λx=>match x with|[]=>by kernel_rfl|_::_=>by kernel_rfl)
def qh:Ct TS:=⟨[.row 4 1,.fn 93 [] [.ptr 2 0]],Mu,LK,dI 31,Mu,[i6],bf,λx=>vk x.1 (oe x.2)⟩
def abK:bH 218 qh:=d_ (T:=[(93,Jo)]) (h:=.s .n (.s (.s .n (.s (.lr ⟨[(0,.row 4 1),(1,.fn 93 [] [.ptr 2 0]),(7,dI 31),(8,dI 32)],Mu,Vr,[i6]⟩ [] Mu [] 0 (λx K v=>z8 (EB.mk x.2.1 x.2.2.1 x.2.2.2.1 x.2.2.2.2.1 (p5 x).1 (p6 x).1 (rV x).1 (sC x).1 (sO x).1 (s7 x).1 (tt x).1 (tn x).1 (Bd x).1 (Be x).1 (Bf x).1 (BQ x).1 (BR x).1 (BE x).1 (BF x).1 (BG x).1 (BH x).1 (Cp x).1 (Cq x).1 (Cr x).1 (C1 x).1 (C2 x).1 (C3 x).1 (C4 x).1 (C5 x).1 (C6 x).1) x.1 (C7 x) K v) .n) .n)) .n)) Tryz.func218 rfl Sl ⟨QJ,trivial⟩ λx=>by kernel_rfl
def Wo:Ct TS:=⟨[.rp 4 1 1 0,.ptr 2 0],(sM 75 8 0 2 3 4 5 6 7 8 9 10 11 12 13 14 15 16 17 18 19 20 21 22 23 24 25 26 27 28 29 30 31),aeJ,.iN [],(sM 75 8 32 2 3 4 5 6 7 8 9 10 11 12 13 14 15 16 17 18 19 20 21 22 23 24 25 26 27 28 29 30 31),[bR],bf,λx=>kW x.1 x.2.1 (oe x.2.2)⟩
def zfg:bH 94 Wo:=d_ (T:=[]) (h:=.n) Tryz.func94 rfl aii trivial λx=>by kernel_rfl
def zji:Ct TS:=⟨[.d bR 0,.fn 93 [] [.ptr 1 0],.fn 94 [] [.ptr 1 0],dI 31],KZ,Vr,.iN [.d bR 32,dI 33],KZ,[bR,i6],bf,λx=>Qw x.1 (Dc x.2) (Ce x.2)⟩
def zrk:bH 173 zji:=o_ (cd:=DD) (nb:=nE) (rc:=[]) (T:=[(99,qA),(218,qh),(94,Wo)]) (h:=.s .n (.s .n (.s .n (.s (.j ⟨[(0,.row 4 103001300),(2,.fn 94 [] [.ptr 1 0]),(10,dI 30)],(GK 75 8),Ec,[i6,bR]⟩ bh .n) .n)))) Tryz.func173 rfl zKd ⟨Aw,abK,zfg,trivial⟩ λx=>by kernel_rfl
def Kr:Ct TS:=⟨[.d bR 0,.fn 93 [] [.ptr 1 0],.fn 94 [] [.ptr 1 0]],KZ,LK,.iN [.d bR 31,dI 32],KZ,[bR,i6],bf,λx=>kL x.1 (oe x.2)⟩
def ac8:bH 92 Kr:=d_ (T:=[(172,jT),(173,zji)]) (h:=.n) Tryz.func92 rfl aif ⟨aby,zrk,trivial⟩ λx=>by kernel_rfl
def zjj:Ct TS:=⟨[.d (.st 12) 0,.d (.st 13) 1],[],[.st 12,.st 13],.iN [.ag [.d bZ 3,.d bT 4,.d bV 5,.d bC 6,.d bR 7,.d zZ 8,.d eo 9,dI 10],dI 2],(tG 7000001 3 4 5 6 7 8 9 10),LL,bf,lX xm⟩
def zrl:bH 22 zjj:=o_ (cd:=pC) (nb:=nE) (rc:=[(4,7000001,0)]) (T:=[(69,ZI),(71,wB),(72,zwg),(75,vV),(76,Wl),(78,zjb),(81,zjf),(87,qR),(89,zjh),(92,Kr)]) (h:=.s .n (.s .n (.s .n (.s (.j ⟨[(2,.ptr 1000002 0),(4,.ptr 1000004 0),(6,dI 11)],(Oh 12 13 14 15 16 0 1 2 1000004 3 4 5 6 7 8 9 10),[zZ,eo,i6,bZ,bT,bV,bC,bR,zZ,eo,i6],[i6,bZ,bT,bV,bC,bR]⟩ bh (.s .n (.s (.s .n (.s .n (.s .n (.s (.s (.s .n (.s (.j ⟨[(2,.ptr 1000002 0),(3,.ptr 1000003 0),(4,.ptr 1000004 0),(7,.fn 69 [] []),(62,.d .b 46)],Uq,O8,[.b]⟩ bf .n) .n)) .n) (.s .n (.s .n (.s .n (.s .n (.s .n (.s (.s (.s .n (.s (.j ⟨[(2,.ptr 1000002 0),(3,.ptr 1000003 0),(4,.ptr 1000004 0),(120,.d .b 46)],Uq,O8,[.b]⟩ bf .n) .n)) .n) .n)))))))))) .n))) .n)))) Tryz.func22 rfl ahg ⟨zi4,jA,zz1,qf,zfd,zrg,zri,abY,zrj,ac8,trivial⟩ λx=>by kernel_rfl
def Ho:Ct TS:=⟨[.d zZ 0],[],[zZ],.row 6 7000001,(h4 7000001 79 10 1),[zZ],bf,λx=>jg x⟩
def acp:bH 100 Ho:=d_ (T:=[]) (h:=.n) Tryz.func100 rfl zKe trivial (λx=>match x with|[]=>by kernel_rfl|_::_=>by kernel_rfl)
def Hp:Ct TS:=⟨[.d eo 0],[],[eo],.d eo 1,[],[eo],bf,λx=>wJ x⟩
def acq:bH 101 Hp:=d_ (T:=[]) (h:=.n) Tryz.func101 rfl zKf trivial (λx=>match x with|[]=>by kernel_rfl|_::_=>by kernel_rfl)
def u0(RK:Nat):Ct TS:=⟨[.d (.st 0) 0],[],[.st 0],.ag [dI 1,dI 2,.d .s 3,.d .s 4,.d aZ 5],(se 7000001 1 2 3 4 5),[i6,i6,.s,.s,aZ],bf,λx=>wA RK x⟩
def QK:∀RK,(u0 RK).OK aS 102
 |0=>(λx r h=>nomatch (show(bg:Option _)=aY r from h))
 |RK+1=>(o_ (c:=u0 (RK+1)) (cd:=pC) (nb:=nE) (rc:=[(2,7000001,0)]) (T:=[(102,u0 RK)]) (h:=.s .n (.s .n (.s (.s .n (.s (.l ⟨[(1,.ptr 1000001 0),(2,.ptr 1000002 0),(3,.row 5 7001001),(7,.d aZ 0),(8,dI 1),(9,dI 9)],(Ur 10),[aZ,i6,i6,i6,.s,.s,i6,.s,aZ],[i6,aZ]⟩ [(1,.ptr 1000001 0),(2,.ptr 1000002 0),(3,.row 5 7001001)] (Ur 9) [aZ] 0 (λx K v=>wQ (wA RK) x.1 x.2.1 x.2.2.1 x.2.2.2.1 x.2.2.2.2.1 (p5 x).1 (p6 x).1 (rV x).1 (sC x) K v) .n) .n)) .n))) Tryz.func102 rfl Sm ⟨⟨Sm,(QK RK)⟩,trivial⟩ λx=>by kernel_rfl).2
def zjk(RK:Nat):zb aS 102/\(u0 RK).OK aS 102:=⟨Sm,(QK RK)⟩
def Ax:Ct TS:=⟨[.d iS 0],[],[iS],.d iS 1,[],[iS],bf,λx=>vC x⟩
def ab7:bH 103 Ax:=d_ (T:=[]) (h:=.n) Tryz.func103 rfl Xf trivial (λx=>match x with|[]=>by kernel_rfl|_::_=>by kernel_rfl)
def Ay:Ct TS:=⟨[.d gu 0],[],[gu],.d gu 1,[],[gu],bf,λx=>xS x⟩
def ab8:bH 104 Ay:=d_ (T:=[]) (h:=.n) Tryz.func104 rfl zKg trivial (λx=>match x with|[]=>by kernel_rfl|_::_=>by kernel_rfl)
def Az:Ct TS:=⟨[.d aR 0],[],[aR],.d aR 1,[],[aR],bf,λx=>xT x⟩
def ab9:bH 105 Az:=d_ (T:=[]) (h:=.n) Tryz.func105 rfl zKh trivial (λx=>match x with|[]=>by kernel_rfl|_::_=>by kernel_rfl)
def MM:Ct TS:=⟨[.d (.st 12) 0],[],[.st 12],.ag [.row 6 7000002,.row 3 7000003,.row 3 7000004,.row 20 7000005,.row 4 7000006,.row 6 7000007,.d eo 1,dI 2],[(7000001,.box 30 [.row 6 7000002,.row 3 7000003,.row 3 7000004,.row 20 7000005,.row 4 7000006,.row 6 7000007,.d eo 1,dI 2]),(7000002,.row 68 (.st 1) 3 bf),(7000003,.row 70 (.st 3) 4 bf),(7000004,.row 72 (.st 5) 5 bf),(7000005,.row 38 (.st 7) 6 bf),(7000006,.row 75 (.st 8) 7 bf),(7000007,.row 79 (.st 10) 8 bf)],[eo,i6,bZ,bT,bV,bC,bR,zZ],bf,λx=>KG x⟩
def Q_:bH 23 MM:=o_ (cd:=pC) (nb:=zig) (rc:=[(2,7000001,0)]) (T:=[(95,qx),(96,qy),(97,qz),(98,ji),(99,qA),(100,Ho),(101,Hp),(102,u0 KK),(103,Ax),(104,Ay),(105,Az)]) (h:=.s .n (.s .n (.s .n (.s (.s .n (.s (.l ⟨[(1,.ptr 1000001 0),(2,.ptr 1000002 0),(40,dI 0),(41,dI 16)],(tH 103001200 68 1 17 103001500 70 3 5 103001800 72 5 6 103002100 38 7 7 8 9),[i6,eo,i6,eo,i6,bT,bV,bC,bR,zZ,bZ,bT,bV,bC,bR,zZ],[i6,bZ]⟩ [(1,.ptr 1000001 0),(2,.ptr 1000002 0)] (tH 103001200 68 1 16 103001500 70 3 5 103001800 72 5 6 103002100 38 7 7 8 9) [bZ] 0 (tO uz) .n) .n)) (.s (.s .n (.s (.l ⟨[(1,.ptr 1000001 0),(2,.ptr 1000002 0),(59,dI 0),(60,dI 16)],(tH 103001200 68 1 5 103001500 70 3 17 103001800 72 5 6 103002100 38 7 7 8 9),[i6,eo,i6,eo,i6,bZ,bV,bC,bR,zZ,bZ,bT,bV,bC,bR,zZ],[i6,bT]⟩ [(1,.ptr 1000001 0),(2,.ptr 1000002 0)] (tH 103001200 68 1 5 103001500 70 3 16 103001800 72 5 6 103002100 38 7 7 8 9) [bT] 2 (tO uA) .n) .n)) (.s (.s .n (.s (.l ⟨[(1,.ptr 1000001 0),(2,.ptr 1000002 0),(78,dI 0),(79,dI 16)],(tH 103001200 68 1 5 103001500 70 3 6 103001800 72 5 17 103002100 38 7 7 8 9),[i6,eo,i6,eo,i6,bZ,bT,bC,bR,zZ,bZ,bT,bV,bC,bR,zZ],[i6,bV]⟩ [(1,.ptr 1000001 0),(2,.ptr 1000002 0)] (tH 103001200 68 1 5 103001500 70 3 6 103001800 72 5 16 103002100 38 7 7 8 9) [bV] 4 (tO uB) .n) .n)) (.s (.s .n (.s (.l ⟨[(1,.ptr 1000001 0),(2,.ptr 1000002 0),(96,.row 20 103002100),(97,dI 0),(98,dI 16)],(tH 103002100 38 7 17 103001200 68 1 5 103001500 70 3 6 103001800 72 5 7 8 9),[i6,eo,i6,eo,i6,bZ,bT,bV,bR,zZ,bZ,bT,bV,bC,bR,zZ],[i6,bC]⟩ [(1,.ptr 1000001 0),(2,.ptr 1000002 0)] (tH 103001200 68 1 5 103001500 70 3 6 103001800 72 5 7 103002100 38 7 16 8 9) [bC] 6 (tO uC) .n) .n)) (.s (.s .n (.s (.l ⟨[(1,.ptr 1000001 0),(2,.ptr 1000002 0),(130,dI 0),(131,dI 16)],(tH 103001200 68 1 5 103001500 70 3 6 103001800 72 5 7 103002100 38 7 8 17 9),[i6,eo,i6,eo,i6,bZ,bT,bV,bC,zZ,bZ,bT,bV,bC,bR,zZ],[i6,bR]⟩ [(1,.ptr 1000001 0),(2,.ptr 1000002 0)] (tH 103001200 68 1 5 103001500 70 3 6 103001800 72 5 7 103002100 38 7 8 16 9) [bR] 8 (tO uD) .n) .n)) (.s (.s .n (.s (.l ⟨[(1,.ptr 1000001 0),(2,.ptr 1000002 0),(149,dI 0),(150,dI 16)],(tH 103001200 68 1 5 103001500 70 3 6 103001800 72 5 7 103002100 38 7 8 9 17),[i6,eo,i6,eo,i6,bZ,bT,bV,bC,bR,bZ,bT,bV,bC,bR,zZ],[i6,zZ]⟩ [(1,.ptr 1000001 0),(2,.ptr 1000002 0)] (tH 103001200 68 1 5 103001500 70 3 6 103001800 72 5 7 103002100 38 7 8 9 16) [zZ] 10 (tO uE) .n) .n)) .n))))))))) Tryz.func23 rfl ahh ⟨Ar,As,Au,kv,Aw,acp,acq,(zjk KK),ab7,ab8,ab9,trivial⟩ λx=>by kernel_rfl
def MN:Ct TS:=⟨[.d (.st 12) 0,.d (.st 13) 1],h2,[.st 12,.st 13],.iN [.ag [.d bZ 3,.d bT 4,.d bV 5,.d bC 6,.d bR 7,.d zZ 8,.d eo 9,dI 10],dI 2],(nC 7000001 3 4 5 6 7 8 9 10),LL,bf,lX A5⟩
def Ra:bH 7 MN:=o_ (cd:=pC) (nb:=nE) (rc:=[(4,7000001,0)]) (T:=[(21,ZF),(16,Ao),(22,zjj),(23,MM)]) (h:=.s .n (.s (.s (.j ⟨[(2,.ptr 1000002 0),(3,.ptr 1000003 0),(4,.ptr 1000004 0),(15,.d .b 46)],[(900000000,.rw 1),(900000001,.rw 2),(900000002,.rw 3),(900000003,.rw 4),(1000002,.box 30 [.d bZ 0,.d bT 1,.d bV 2,.d bC 3,.d bR 4,.d zZ 5,.d eo 6,dI 7]),(1000003,.box 41 [dI 8,.d .s 9,.d .s 10,dI 11,.d .s 12,.d aR 13,.d aR 14,dI 15,dI 16,dI 17,.d .b 18,dI 19,dI 20,dI 21,.d .s 22,.d .s 23,.d aZ 24,dI 25,dI 26,dI 27,dI 28,dI 29,dI 30,dI 31,dI 32,dI 33,.d .s 34,.d .s 35,.d aZ 36,.d gu 37]),(1000004,.box 30 [.d bZ 38,.d bT 39,.d bV 40,.d bC 41,.d bR 42,.d zZ 43,.d eo 44,dI 45])],O8,[.b]⟩ bf .n) .n) .n)) Tryz.func7 rfl afE ⟨Yr,Aq,zrl,Q_,trivial⟩ λx=>by kernel_rfl
def zjl:Ct TS:=⟨[dI 0],[],[i6],.ag [dI 1,dI 2,.d .s 3,.d .s 4,.d aZ 5],(se 7000001 1 2 3 4 5),[i6,i6,.s,.s,aZ],bf,λx=>Zl x⟩
def zrm:bH 13 zjl:=o_ (cd:=pC) (nb:=nE) (rc:=[(2,7000001,0)]) (T:=[]) (h:=.n) Tryz.func13 rfl ag_ trivial λx=>by kernel_rfl
def QO:Ct TS:=⟨[.d (.st 1) 0,.ptr 1 0],(DM 1 2 3 4 5 6),[.st 1,.s,i6,i6,.s,.s,aZ],.d .b 7,(DM 1 2 3 4 5 6),[.b],bf,H9 Qx⟩
def za5:bH 134 QO:=d_ (T:=[]) (h:=.n) Tryz.func134 rfl zKi trivial λx=>by kernel_rfl
def qi:Ct TS:=⟨[.d bZ 0,.fn 134 [] [.ptr 1 0]],(DM 1 2 3 4 5 6),[bZ,.s,i6,i6,.s,.s,aZ],dI 7,(DM 1 2 3 4 5 6),[i6],bf,H9 kX⟩
def abL:bH 169 qi:=d_ (T:=[(134,QO)]) (h:=.s .n (.s (.s .n (.s (.lr ⟨[(0,.d bZ 6),(1,.fn 134 [] [.ptr 1 0]),(7,dI 7),(8,dI 8)],(DM 0 1 2 3 4 5),[.s,i6,i6,.s,.s,aZ,bZ,i6],[i6]⟩ [] (DM 0 1 2 3 4 5) [] 0 (El xU) .n) .n)) .n)) Tryz.func169 rfl WI ⟨za5,trivial⟩ λx=>by kernel_rfl
def zo1:Ct TS:=⟨[.d bZ 0,.fn 134 [] [.ptr 1 0]],(DM 1 2 3 4 5 6),[bZ,.s,i6,i6,.s,.s,aZ],.iN [.ag [.d .s 8,dI 9,dI 10,.d .s 11,.d .s 12,.d aZ 13],.d .b 7],[(1,.box 68 [.d .s 1,dI 2,dI 3,.d .s 4,.d .s 5,.d aZ 6]),(7000001,.box 68 [.d .s 8,dI 9,dI 10,.d .s 11,.d .s 12,.d aZ 13])],[.b,.s,i6,i6,.s,.s,aZ],bf,H9 zoh⟩
def zwh:bH 133 zo1:=o_ (cd:=pC) (nb:=nE) (rc:=[(4,7000001,0)]) (T:=[(169,qi)]) (h:=.n) Tryz.func133 rfl zKj ⟨abL,trivial⟩ λx=>by kernel_rfl
def QP:Ct TS:=⟨[.d (.st 3) 0,.ptr 1 0],(DN 1 2 3),[.st 3,.s,iS,i6],.d .b 4,(DN 1 2 3),[.b],bf,A8 Qy⟩
def za6:bH 136 QP:=d_ (T:=[]) (h:=.n) Tryz.func136 rfl zKk trivial λx=>by kernel_rfl
def qj:Ct TS:=⟨[.d bT 0,.fn 136 [] [.ptr 1 0]],(DN 1 2 3),[bT,.s,iS,i6],dI 4,(DN 1 2 3),[i6],bf,A8 kY⟩
def abM:bH 170 qj:=d_ (T:=[(136,QP)]) (h:=.s .n (.s (.s .n (.s (.lr ⟨[(0,.d bT 3),(1,.fn 136 [] [.ptr 1 0]),(7,dI 4),(8,dI 5)],(DN 0 1 2),[.s,iS,i6,bT,i6],[i6]⟩ [] (DN 0 1 2) [] 0 (HG xV) .n) .n)) .n)) Tryz.func170 rfl Sj ⟨za6,trivial⟩ λx=>by kernel_rfl
def YU:Ct TS:=⟨[.d bT 0,.fn 136 [] [.ptr 1 0]],(DN 1 2 3),[bT,.s,iS,i6],.iN [.ag [.d .s 5,.d iS 6,dI 7],.d .b 4],[(1,.box 70 [.d .s 1,.d iS 2,dI 3]),(7000001,.box 70 [.d .s 5,.d iS 6,dI 7])],[.b,.s,iS,i6],bf,A8 θ⟩
def zl5:bH 135 YU:=o_ (cd:=pC) (nb:=nE) (rc:=[(4,7000001,0)]) (T:=[(170,qj)]) (h:=.n) Tryz.func135 rfl zKl ⟨abM,trivial⟩ λx=>by kernel_rfl
def QQ:Ct TS:=⟨[.d (.st 2) 0,.ptr 1 0],(DO 1 2),[.st 2,.s,i6],.d .b 3,(DO 1 2),[.b],bf,na Qz⟩
def za7:bH 138 QQ:=d_ (T:=[]) (h:=.n) Tryz.func138 rfl zKm trivial λx=>by kernel_rfl
def qk:Ct TS:=⟨[.d iS 0,.fn 138 [] [.ptr 1 0]],(DO 1 2),[iS,.s,i6],dI 3,(DO 1 2),[i6],bf,na kZ⟩
def abB:bH 171 qk:=d_ (T:=[(138,QQ)]) (h:=.s .n (.s (.s .n (.s (.lr ⟨[(0,.d iS 2),(1,.fn 138 [] [.ptr 1 0]),(7,dI 3),(8,dI 4)],(DO 0 1),[.s,i6,iS,i6],[i6]⟩ [] (DO 0 1) [] 0 (A8 xW) .n) .n)) .n)) Tryz.func171 rfl Sk ⟨za7,trivial⟩ λx=>by kernel_rfl
def YV:Ct TS:=⟨[.d iS 0,.fn 138 [] [.ptr 1 0]],(DO 1 2),[iS,.s,i6],.iN [.ag [.d .s 4,dI 5],.d .b 3],[(1,.box 50 [.d .s 1,dI 2]),(7000001,.box 50 [.d .s 4,dI 5])],[.b,.s,i6],bf,na ι⟩
def zl6:bH 137 YV:=o_ (cd:=pC) (nb:=nE) (rc:=[(4,7000001,0)]) (T:=[(171,qk)]) (h:=.n) Tryz.func137 rfl zKn ⟨abB,trivial⟩ λx=>by kernel_rfl
def QR:Ct TS:=⟨[.d (.st 5) 0,.ptr 1 0],(DP 1 2 3),[.st 5,.s,.b,gu],.d .b 4,(DP 1 2 3),[.b],bf,A8 QA⟩
def za8:bH 140 QR:=d_ (T:=[]) (h:=.n) Tryz.func140 rfl zKo trivial λx=>by kernel_rfl
def ql:Ct TS:=⟨[.d bV 0,.fn 140 [] [.ptr 1 0]],(DP 1 2 3),[bV,.s,.b,gu],dI 4,(DP 1 2 3),[i6],bf,A8 qa⟩
def abC:bH 87 ql:=d_ (T:=[(140,QR)]) (h:=.s .n (.s (.s .n (.s (.lr ⟨[(0,.d bV 3),(1,.fn 140 [] [.ptr 1 0]),(7,dI 4),(8,dI 5)],(DP 0 1 2),[.s,.b,gu,bV,i6],[i6]⟩ [] (DP 0 1 2) [] 0 (HG xX) .n) .n)) .n)) Tryz.func87 rfl PC ⟨za8,trivial⟩ λx=>by kernel_rfl
def Y_:Ct TS:=⟨[.d bV 0,.fn 140 [] [.ptr 1 0]],(DP 1 2 3),[bV,.s,.b,gu],.iN [.ag [.d .s 5,.d .b 6,.d gu 7],.d .b 4],[(1,.box 72 [.d .s 1,.d .b 2,.d gu 3]),(7000001,.box 72 [.d .s 5,.d .b 6,.d gu 7])],[.b,.s,.b,gu],bf,A8 ν⟩
def zl7:bH 139 Y_:=o_ (cd:=pC) (nb:=nE) (rc:=[(4,7000001,0)]) (T:=[(87,ql)]) (h:=.n) Tryz.func139 rfl zKp ⟨abC,trivial⟩ λx=>by kernel_rfl
def QS:Ct TS:=⟨[.d (.st 7) 0,.ptr 1 0],I8,[.st 7,.s,aR,aR,i6,i6,i6,.b,i6,i6,i6,.s,.s,aZ,i6,i6,i6,i6,i6,i6,i6],.d .b 21,I8,[.b],bf,λx=>QB x.1 (PF x.2)⟩
def za9:bH 142 QS:=d_ (T:=[]) (h:=.n) Tryz.func142 rfl zKq trivial λx=>by kernel_rfl
def qm:Ct TS:=⟨[.d bC 0,.fn 142 [] [.ptr 1 0]],I8,Vs,dI 21,I8,[i6],bf,λx=>qb x.1 (PF x.2)⟩
def abD:bH 75 qm:=d_ (T:=[(142,QS)]) (h:=.s .n (.s (.s .n (.s (.lr ⟨[(0,.d bC 20),(1,.fn 142 [] [.ptr 1 0]),(7,dI 21),(8,dI 22)],(Ol 0 1 2 3 4 5 6 7 8 9 10 11 12 13 14 15 16 17 18 19),[.s,aR,aR,i6,i6,i6,.b,i6,i6,i6,.s,.s,aZ,i6,i6,i6,i6,i6,i6,i6,bC,i6],[i6]⟩ [] (Ol 0 1 2 3 4 5 6 7 8 9 10 11 12 13 14 15 16 17 18 19) [] 0 (λx K v=>xY (RB.mk x.1 x.2.1 x.2.2.1 x.2.2.2.1 x.2.2.2.2.1 (p5 x).1 (p6 x).1 (rV x).1 (sC x).1 (sO x).1 (s7 x).1 (tt x).1 (tn x).1 (Bd x).1 (Be x).1 (Bf x).1 (BQ x).1 (BR x).1 (BE x).1 (BF x).1) (BG x).1 (BH x) K v) .n) .n)) .n)) Tryz.func75 rfl Nl ⟨za9,trivial⟩ λx=>by kernel_rfl
def Y':Ct TS:=⟨[.d bC 0,.fn 142 [] [.ptr 1 0]],I8,Vs,.iN [.ag [.d .s 22,.d aR 23,.d aR 24,dI 25,dI 26,dI 27,.d .b 28,dI 29,dI 30,dI 31,.d .s 32,.d .s 33,.d aZ 34,dI 35,dI 36,dI 37,dI 38,dI 39,dI 40,dI 41],.d .b 21],(Of 1 1 2 3 4 5 6 7 8 9 10 11 12 13 14 15 16 17 18 19 20 7000001 22 23 24 25 26 27 28 29 30 31 32 33 34 35 36 37 38 39 40 41),[.b,.s,aR,aR,i6,i6,i6,.b,i6,i6,i6,.s,.s,aZ,i6,i6,i6,i6,i6,i6,i6],bf,λx=>ξ x.1 (PF x.2)⟩
def zl8:bH 141 Y':=o_ (cd:=pC) (nb:=nE) (rc:=[(4,7000001,0)]) (T:=[(75,qm)]) (h:=.n) Tryz.func141 rfl zKr ⟨abD,trivial⟩ λx=>by kernel_rfl
def QT:Ct TS:=⟨[.d (.st 8) 0,.ptr 1 0],(DQ 1 2 3 4),[.st 8,.s,i6,i6,gu],.d .b 5,(DQ 1 2 3 4),[.b],bf,HG QC⟩
def zba:bH 144 QT:=d_ (T:=[]) (h:=.n) Tryz.func144 rfl zKs trivial λx=>by kernel_rfl
def qn:Ct TS:=⟨[.d bR 0,.fn 144 [] [.ptr 1 0]],(DQ 1 2 3 4),[bR,.s,i6,i6,gu],dI 5,(DQ 1 2 3 4),[i6],bf,HG qc⟩
def abE:bH 218 qn:=d_ (T:=[(144,QT)]) (h:=.s .n (.s (.s .n (.s (.lr ⟨[(0,.d bR 4),(1,.fn 144 [] [.ptr 1 0]),(7,dI 5),(8,dI 6)],(DQ 0 1 2 3),[.s,i6,i6,gu,bR,i6],[i6]⟩ [] (DQ 0 1 2 3) [] 0 (H8 xZ) .n) .n)) .n)) Tryz.func218 rfl Sl ⟨zba,trivial⟩ λx=>by kernel_rfl
def Zr:Ct TS:=⟨[.d bR 0,.fn 144 [] [.ptr 1 0]],(DQ 1 2 3 4),[bR,.s,i6,i6,gu],.iN [.ag [.d .s 6,dI 7,dI 8,.d gu 9],.d .b 5],[(1,.box 75 [.d .s 1,dI 2,dI 3,.d gu 4]),(7000001,.box 75 [.d .s 6,dI 7,dI 8,.d gu 9])],[.b,.s,i6,i6,gu],bf,HG ο⟩
def zl9:bH 143 Zr:=o_ (cd:=pC) (nb:=nE) (rc:=[(4,7000001,0)]) (T:=[(218,qn)]) (h:=.n) Tryz.func143 rfl zKt ⟨abE,trivial⟩ λx=>by kernel_rfl
def ZT:Ct TS:=⟨[.d (.st 12) 0,.d (.st 12) 1],[],[.st 12,.st 12],.d vD 2,[],[vD],bf,lX Zm⟩
def zjm:bH 43 ZT:=d_ (T:=[(133,zo1),(18,Ys),(135,YU),(137,YV),(139,Y_),(50,wL),(33,Q5),(141,Y'),(143,Zr)]) (h:=.s .n (.s .n (.s (.s .n (.s (.l ⟨[(2,.ptr 1000002 0),(3,.ptr 1000003 0),(5,.row 30 7001001),(32,.d bZ 0),(33,dI 1),(34,dI 17)],(tI 2 3 4 5 6 7 8 9 0 10 11 12 13 14 15 16 7001001 18),[bZ,i6,bZ,bT,bV,bC,bR,zZ,eo,i6,bT,bV,bC,bR,zZ,eo,i6],[i6,vD]⟩ [(2,.ptr 1000002 0),(3,.ptr 1000003 0),(5,.row 30 7001001)] (tI 2 3 4 5 6 7 8 9 0 10 11 12 13 14 15 16 7001001 17) [vD] 0 (Ir oS) (.s .n (.s .n (.s (.j ⟨[(2,.ptr 1000002 0),(3,.ptr 1000003 0),(5,.row 30 7000001),(32,.d bZ 0),(33,dI 1),(34,dI 2)],(tI 3 4 5 6 7 8 9 10 0 11 12 13 14 15 16 17 7000001 18),[bZ,i6,i6,bZ,bT,bV,bC,bR,zZ,eo,i6,bT,bV,bC,bR,zZ,eo,i6],[vD]⟩ bf (.s (.s .n (.s .n (.s .n (.s (.j ⟨[(2,.ptr 1000002 0),(3,.ptr 1000003 0),(5,.row 30 7001001),(10,.ptr 1000010 0),(32,.d bZ 0),(33,dI 1),(34,dI 2),(61,.d .b 32)],[(1000002,.box 30 [.d bZ 3,.d bT 4,.d bV 5,.d bC 6,.d bR 7,.d zZ 8,.d eo 9,dI 10]),(1000003,.box 30 [.d bZ 0,.d bT 11,.d bV 12,.d bC 13,.d bR 14,.d zZ 15,.d eo 16,dI 17]),(7001001,.row 41 (.st 13) 18 bf),(1000010,.box 41 [dI 19,.d .s 20,.d .s 21,dI 22,.d .s 21,.d aR 23,.d aR 23,dI 22,dI 22,dI 22,.d .b 24,dI 22,dI 22,dI 22,.d .s 21,.d .s 21,.d aZ 25,dI 22,dI 22,dI 22,dI 22,dI 22,dI 22,dI 22,dI 26,dI 27,.d .s 28,.d .s 29,.d aZ 30,.d gu 31])],aeK,[.b]⟩ bf .n) .n)))) .n)) .n)))) .n)) (.s (.s .n (.s (.l ⟨[(2,.ptr 1000002 0),(3,.ptr 1000003 0),(5,.row 30 7001001),(68,.d bT 0),(69,dI 1),(70,dI 17)],(tI 2 3 4 5 6 7 8 9 10 0 11 12 13 14 15 16 7001001 18),[bT,i6,bZ,bT,bV,bC,bR,zZ,eo,i6,bZ,bV,bC,bR,zZ,eo,i6],[i6,vD]⟩ [(2,.ptr 1000002 0),(3,.ptr 1000003 0),(5,.row 30 7001001)] (tI 2 3 4 5 6 7 8 9 10 0 11 12 13 14 15 16 7001001 17) [vD] 2 (Ir oU) (.s .n (.s .n (.s (.s (.s .n (.s .n (.s .n (.s (.l ⟨[(2,.ptr 1000002 0),(3,.ptr 1000003 0),(5,.row 30 7001001),(12,.ptr 1000012 0),(13,.ptr 1000013 0),(68,.d bT 0),(69,dI 1),(70,dI 2),(82,.d iS 3),(83,dI 4),(84,dI 25)],(Us 5 6 7 8 9 10 11 12 13 14 15 16 17 18 19 20 21 22 23 24),aeL,[i6,vD]⟩ [(2,.ptr 1000002 0),(3,.ptr 1000003 0),(5,.row 30 7001001),(68,.d bT 0),(69,dI 1),(70,dI 2)] (tI 5 6 7 8 9 10 11 12 13 0 14 15 16 17 18 19 7001001 25) [vD] 4 (λx K v=>oT x.1 x.2.1 x.2.2.1 x.2.2.2.1 x.2.2.2.2.1 (p5 x).1 (p6 x).1 (rV x).1 (sC x).1 (sO x).1 (s7 x).1 (tt x).1 (tn x).1 (Bd x).1 (Be x).1 (Bf x).1 (BQ x).1 (BR x).1 (BE x).1 (BF x).1 (BG x).1 (BH x).1 (Cp x).1 (Cq x).1 (Cr x) K v) (.s .n (.s .n (.s (.j ⟨[(2,.ptr 1000002 0),(3,.ptr 1000003 0),(5,.row 30 7001001),(12,.ptr 1000012 0),(13,.ptr 1000013 0),(68,.d bT 0),(69,dI 1),(70,dI 2),(82,.d iS 3),(83,dI 4),(84,dI 5)],(Us 6 7 8 9 10 11 12 13 14 15 16 17 18 19 20 21 22 23 24 25),aeM,[vD]⟩ bf (.s (.s .n (.s .n (.s (.j ⟨[(2,.ptr 1000002 0),(3,.ptr 1000003 0),(5,.row 30 7001001),(12,.ptr 1000012 0),(13,.ptr 1000013 0),(16,.ptr 1000016 0),(68,.d bT 0),(69,dI 1),(70,dI 2),(82,.d iS 3),(83,dI 4),(84,dI 5),(103,.d .b 29)],[(1000002,.box 30 [.d bZ 6,.d bT 7,.d bV 8,.d bC 9,.d bR 10,.d zZ 11,.d eo 12,dI 13]),(1000003,.box 30 [.d bZ 14,.d bT 0,.d bV 15,.d bC 16,.d bR 17,.d zZ 18,.d eo 19,dI 20]),(7001001,.row 41 (.st 13) 21 bf),(1000012,.box 70 [.d .s 22,.d iS 3,dI 23]),(1000013,.box 70 [.d .s 24,.d iS 25,dI 26]),(1000016,.box 50 [.d .s 27,dI 28])],aeN,[.b]⟩ bf .n) .n))) .n)) .n)))) .n)))) .n) .n)))) .n)) (.s (.s .n (.s (.l ⟨[(2,.ptr 1000002 0),(3,.ptr 1000003 0),(5,.row 30 7001001),(117,.d bV 0),(118,dI 1),(119,dI 17)],(tI 2 3 4 5 6 7 8 9 10 11 0 12 13 14 15 16 7001001 18),[bV,i6,bZ,bT,bV,bC,bR,zZ,eo,i6,bZ,bT,bC,bR,zZ,eo,i6],[i6,vD]⟩ [(2,.ptr 1000002 0),(3,.ptr 1000003 0),(5,.row 30 7001001)] (tI 2 3 4 5 6 7 8 9 10 11 0 12 13 14 15 16 7001001 17) [vD] 6 (Ir oV) (.s .n (.s .n (.s (.j ⟨[(2,.ptr 1000002 0),(3,.ptr 1000003 0),(5,.row 30 7001001),(117,.d bV 0),(118,dI 1),(119,dI 2)],(tI 3 4 5 6 7 8 9 10 11 12 0 13 14 15 16 17 7001001 18),[bV,i6,i6,bZ,bT,bV,bC,bR,zZ,eo,i6,bZ,bT,bC,bR,zZ,eo,i6],[vD]⟩ bf (.s (.s .n (.s .n (.s (.j ⟨[(2,.ptr 1000002 0),(3,.ptr 1000003 0),(5,.row 30 7001001),(20,.ptr 1000020 0),(117,.d bV 0),(118,dI 1),(119,dI 2),(139,.d .b 22)],[(1000002,.box 30 [.d bZ 3,.d bT 4,.d bV 5,.d bC 6,.d bR 7,.d zZ 8,.d eo 9,dI 10]),(1000003,.box 30 [.d bZ 11,.d bT 12,.d bV 0,.d bC 13,.d bR 14,.d zZ 15,.d eo 16,dI 17]),(7001001,.row 41 (.st 13) 18 bf),(1000020,.box 72 [.d .s 19,.d .b 20,.d gu 21])],[bV,i6,i6,bZ,bT,bV,bC,bR,zZ,eo,i6,bZ,bT,bC,bR,zZ,eo,i6,vD,.s,.b,gu],[.b]⟩ bf .n) .n))) .n)) .n)))) .n)) (.s (.s .n (.s (.l ⟨[(2,.ptr 1000002 0),(3,.ptr 1000003 0),(5,.row 30 7001001),(149,.d bC 0),(150,dI 1),(151,dI 17)],(tI 2 3 4 5 6 7 8 9 10 11 12 0 13 14 15 16 7001001 18),[bC,i6,bZ,bT,bV,bC,bR,zZ,eo,i6,bZ,bT,bV,bR,zZ,eo,i6],[i6,vD]⟩ [(2,.ptr 1000002 0),(3,.ptr 1000003 0),(5,.row 30 7001001)] (tI 2 3 4 5 6 7 8 9 10 11 12 0 13 14 15 16 7001001 17) [vD] 8 (Ir oW) (.s .n (.s .n (.s (.j ⟨[(2,.ptr 1000002 0),(3,.ptr 1000003 0),(5,.row 30 7001001),(149,.d bC 0),(150,dI 1),(151,dI 2)],(tI 3 4 5 6 7 8 9 10 11 12 13 0 14 15 16 17 7001001 18),[bC,i6,i6,bZ,bT,bV,bC,bR,zZ,eo,i6,bZ,bT,bV,bR,zZ,eo,i6],[vD]⟩ bf .n) .n)))) .n)) (.s (.s .n (.s (.l ⟨[(2,.ptr 1000002 0),(5,.row 30 7001001),(186,.d bR 0),(187,dI 1),(188,dI 10)],(Ut 2 3 4 5 6 7 8 9),[bR,i6,bZ,bT,bV,bC,bR,zZ,eo,i6],[i6,vD]⟩ [(5,.row 30 7001001)] (h4 7001001 41 13 10) [vD] 11 (aaX oX) (.s .n (.s .n (.s (.j ⟨[(2,.ptr 1000002 0),(5,.row 30 7001001),(186,.d bR 0),(187,dI 1),(188,dI 2)],(Ut 3 4 5 6 7 8 9 10),[bR,i6,i6,bZ,bT,bV,bC,bR,zZ,eo,i6],[vD]⟩ bf (.s (.s .n (.s .n (.s (.j ⟨[(2,.ptr 1000002 0),(5,.row 30 7001001),(28,.ptr 1000028 0),(186,.d bR 0),(187,dI 1),(188,dI 2),(206,.d .b 16)],[(1000002,.box 30 [.d bZ 3,.d bT 4,.d bV 5,.d bC 6,.d bR 7,.d zZ 8,.d eo 9,dI 10]),(7001001,.row 41 (.st 13) 11 bf),(1000028,.box 75 [.d .s 12,dI 13,dI 14,.d gu 15])],[bR,i6,i6,bZ,bT,bV,bC,bR,zZ,eo,i6,vD,.s,i6,i6,gu],[.b]⟩ bf .n) .n))) .n)) .n)))) .n)) .n))))))) Tryz.func43 rfl ahy ⟨zwh,ZG,zl5,zl6,zl7,vE,zi0,zl8,zl9,trivial⟩ λx=>by kernel_rfl
def zjn:Ct TS:=⟨[.d (.st 12) 0,.d vD 1],h2,[.st 12,vD],.iN [.ag [.d bZ 3,.d bT 4,.d bV 5,.d bC 6,.d bR 7,.d zZ 8,.d eo 9,dI 10],dI 2],(nC 7000001 3 4 5 6 7 8 9 10),LL,bf,lX zie⟩
def zrn:bH 44 zjn:=o_ (cd:=pC) (nb:=nE) (rc:=[(4,7000001,0)]) (T:=[(21,ZF),(7,MN),(23,MM)]) (h:=.s .n (.s .n (.s .n (.s (.s .n (.s (.lr ⟨[(2,.ptr 1000002 0),(4,.ptr 1000004 0),(13,.d vD 0),(14,dI 1),(15,dI 10)],(Om 11 12 13 14 15 16 17 18 1000004 2 3 4 5 6 7 8 9),[vD,i6,bZ,bT,bV,bC,bR,zZ,eo,i6],LL⟩ [(2,.ptr 1000002 0),(4,.ptr 1000004 0)] (Om 10 11 12 13 14 15 16 17 1000004 2 3 4 5 6 7 8 9) k1 0 (aaX H6) .n) .n)) .n)))) Tryz.func44 rfl ahz ⟨Yr,Ra,Q_,trivial⟩ λx=>by kernel_rfl
def zo2:Ct TS:=⟨[.d (.st 12) 0,.d (.st 12) 1],h2,[.st 12,.st 12],.iN [.d vD 2,dI 3],h2,[vD,i6],bf,lX zoi⟩
def zwi:bH 14 zo2:=d_ (T:=[(21,ZF),(23,MM),(43,ZT),(44,zjn),(45,Sd)]) (h:=.s .n (.s (.s (.j ⟨[(2,.ptr 1000002 0),(3,.ptr 1000003 0),(16,.d .b 16)],(Om 0 1 2 3 4 5 6 7 1000003 8 9 10 11 12 13 14 15),Cb,[.b]⟩ bf .n) .n) (.s .n (.s (.s .n (.s (.j ⟨[(6,.d vD 0),(34,.d .b 1)],h2,[vD],[.b]⟩ bf .n) .n)) .n)))) Tryz.func14 rfl ag' ⟨Yr,Q_,zjm,zrn,zwa,trivial⟩ λx=>by kernel_rfl
def Ks:Ct TS:=⟨[.d eo 0,.d eo 1],[],[eo,eo],.d .b 2,[],[.b],bf,lX oY⟩
def ac9:bH 160 Ks:=d_ (T:=[]) (h:=.s .n (.s .n (.s (.s .n (.s (.lr ⟨[(0,.d eo 0),(1,.d eo 1),(5,dI 2)],[],[eo,eo],[i6]⟩ [] [] [] 0 (lX kp) .n) .n)) .n))) Tryz.func160 rfl zKu trivial λx=>by kernel_rfl
def vq(RK:Nat):Ct TS:=⟨[.d (.st 0) 0,.d (.st 0) 1],[],[.st 0,.st 0],.d .b 2,[],[.b],bf,λx=>jy RK x.1 x.2⟩
def Kt:∀RK,(vq RK).OK aS 47
 |0=>(λx r h=>nomatch (show(bg:Option _)=aY r from h))
 |RK+1=>(d_ (c:=vq (RK+1)) (T:=[(47,vq RK)]) (h:=.s .n (.s (.s (.j ⟨[(2,.ptr 1000002 0),(3,.ptr 1000003 0),(40,.d .b 10)],Uu,Vt,[.b]⟩ bf .n) .n) (.s (.s .n (.s (.lr ⟨[(2,.ptr 1000002 0),(3,.ptr 1000003 0),(5,dI 10)],Uu,Vt,[i6]⟩ [] [] [] 0 (λx K v=>uZ (jy RK) x.1 x.2.1 x.2.2.1 x.2.2.2.1 x.2.2.2.2.1 (p5 x).1 (p6 x).1 (rV x).1 (sC x).1 (sO x) K v) .n) .n)) .n))) Tryz.func47 rfl PD ⟨⟨PD,(Kt RK)⟩,trivial⟩ λx=>by kernel_rfl).2
def Hc(RK:Nat):zb aS 47/\(vq RK).OK aS 47:=⟨PD,(Kt RK)⟩
def Jp:Ct TS:=⟨[.d iS 0,.d iS 1],[],[iS,iS],.d .b 2,[],[.b],bf,lX H7⟩
def acX:bH 161 Jp:=d_ (T:=[]) (h:=.s .n (.s .n (.s (.s .n (.s (.lr ⟨[(0,.d iS 0),(1,.d iS 1),(5,dI 2)],[],[iS,iS],[i6]⟩ [] [] [] 0 (lX jL) .n) .n)) .n))) Tryz.func161 rfl zKv trivial λx=>by kernel_rfl
def Ku:Ct TS:=⟨[.d gu 0,.d gu 1],[],[gu,gu],.d .b 2,[],[.b],bf,lX oZ⟩
def ac_:bH 162 Ku:=d_ (T:=[]) (h:=.s .n (.s .n (.s (.s .n (.s (.lr ⟨[(0,.d gu 0),(1,.d gu 1),(5,dI 2)],[],[gu,gu],[i6]⟩ [] [] [] 0 (lX ku) .n) .n)) .n))) Tryz.func162 rfl zKw trivial λx=>by kernel_rfl
def QU:Ct TS:=⟨[.d aR 0,.d aR 1],[],[aR,aR],.d .b 2,[],[.b],bf,lX A6⟩
def zbb:bH 221 QU:=d_ (T:=[]) (h:=.s .n (.s .n (.s (.s .n (.s (.lr ⟨[(0,.d aR 0),(1,.d aR 1),(5,dI 2)],[],[aR,aR],[i6]⟩ [] [] [] 0 (lX qu) .n) .n)) .n))) Tryz.func221 rfl zKx trivial λx=>by kernel_rfl
def Wq:Ct TS:=⟨[.d (.st 7) 0,.d (.st 7) 1],[],[.st 7,.st 7],.d .b 2,[],[.b],bf,lX Wj⟩
def zfl:bH 163 Wq:=d_ (T:=[(221,QU),(47,vq KK)]) (h:=.s .n (.s (.j ⟨[(2,.ptr 1000002 0),(3,.ptr 1000003 0),(5,.d .b 40)],S_,O6,[.b]⟩ bf .n) (.s (.j ⟨[(2,.ptr 1000002 0),(3,.ptr 1000003 0),(5,.d .b 0),(6,.d .b 41)],(Of 1000002 1 2 3 4 5 6 7 8 9 10 11 12 13 14 15 16 17 18 19 20 1000003 21 22 23 24 25 26 27 28 29 30 31 32 33 34 35 36 37 38 39 40),aeO,[.b]⟩ bf .n) .n))) Tryz.func163 rfl zKy ⟨zbb,(Hc KK),trivial⟩ λx=>by kernel_rfl
def zo3:Ct TS:=⟨[.d (.st 12) 0,.d (.st 12) 1],[],[.st 12,.st 12],.d .b 2,[],[.b],bf,lX zoj⟩
def zwj:bH 46 zo3:=d_ (T:=[(160,Ks),(47,vq KK),(161,Jp),(162,Ku),(163,Wq)]) (h:=.s .n (.s (.s (.j ⟨[(2,.ptr 1000002 0),(3,.ptr 1000003 0),(77,.d .b 16)],tq,Cb,[.b]⟩ bf .n) .n) (.s (.s .n (.s (.lr ⟨[(2,.ptr 1000002 0),(3,.ptr 1000003 0),(5,dI 16)],tq,Cb,[i6]⟩ [(2,.ptr 1000002 0),(3,.ptr 1000003 0)] tq [] 0 (tO KH) (.s .n (.s (.s (.s (.j ⟨[(2,.ptr 1000002 0),(3,.ptr 1000003 0),(5,dI 0),(113,.d .b 17)],F6,Hy,[.b]⟩ bf .n) .n) .n) .n))) .n)) (.s (.s .n (.s (.lr ⟨[(2,.ptr 1000002 0),(3,.ptr 1000003 0),(6,dI 16)],tq,Cb,[i6]⟩ [(2,.ptr 1000002 0),(3,.ptr 1000003 0)] tq [] 2 (tO KI) (.s .n (.s (.s (.s (.j ⟨[(2,.ptr 1000002 0),(3,.ptr 1000003 0),(6,dI 0),(164,.d .b 17)],F6,Hy,[.b]⟩ bf .n) .n) .n) .n))) .n)) (.s (.s .n (.s (.lr ⟨[(2,.ptr 1000002 0),(3,.ptr 1000003 0),(7,dI 16)],tq,Cb,[i6]⟩ [(2,.ptr 1000002 0),(3,.ptr 1000003 0)] tq [] 4 (tO KJ) (.s .n (.s (.s (.s (.j ⟨[(2,.ptr 1000002 0),(3,.ptr 1000003 0),(7,dI 0),(215,.d .b 17)],F6,Hy,[.b]⟩ bf .n) .n) .n) .n))) .n)) (.s (.s .n (.s (.lr ⟨[(2,.ptr 1000002 0),(3,.ptr 1000003 0),(8,dI 16)],tq,Cb,[i6]⟩ [(2,.ptr 1000002 0),(3,.ptr 1000003 0)] tq [] 6 (tO KN) .n) .n)) (.s (.s .n (.s (.lr ⟨[(2,.ptr 1000002 0),(3,.ptr 1000003 0),(9,dI 16)],tq,Cb,[i6]⟩ [(2,.ptr 1000002 0),(3,.ptr 1000003 0)] tq [] 8 (tO KO) (.s .n (.s (.s (.s (.j ⟨[(2,.ptr 1000002 0),(3,.ptr 1000003 0),(9,dI 0),(300,.d .b 17)],F6,Hy,[.b]⟩ bf .n) .n) .n) .n))) .n)) (.s (.s .n (.s (.lr ⟨[(2,.ptr 1000002 0),(3,.ptr 1000003 0),(10,dI 16)],tq,Cb,[i6]⟩ [] [] [] 10 (tO KP) (.s .n (.s (.s (.s (.j ⟨[(2,.ptr 1000002 0),(3,.ptr 1000003 0),(10,dI 0),(366,.d .b 17)],F6,Hy,[.b]⟩ bf .n) .n) .n) .n))) .n)) .n)))))))) Tryz.func46 rfl ahB ⟨ac9,(Hc KK),acX,ac_,zfl,trivial⟩ λx=>by kernel_rfl
def zo4:Ct TS:=⟨[.d (.st 13) 0,.d (.st 13) 1],[],[.st 13,.st 13],.d .b 2,[],[.b],bf,lX Yq⟩
def zwk:bH 15 zo4:=d_ (T:=[(46,zo3),(47,vq KK)]) (h:=.s .n (.s (.s (.j ⟨[(2,.ptr 1000002 0),(3,.ptr 1000003 0),(42,.d .b 60)],Mp,O7,[.b]⟩ bf .n) .n) (.s (.s .n (.s (.lr ⟨[(2,.ptr 1000002 0),(3,.ptr 1000003 0),(5,dI 60)],Mp,O7,[i6]⟩ [(2,.ptr 1000002 0),(3,.ptr 1000003 0)] Mp [] 0 (λx K v=>KQ x.1 x.2.1 x.2.2.1 x.2.2.2.1 x.2.2.2.2.1 (p5 x).1 (p6 x).1 (rV x).1 (sC x).1 (sO x).1 (s7 x).1 (tt x).1 (tn x).1 (Bd x).1 (Be x).1 (Bf x).1 (BQ x).1 (BR x).1 (BE x).1 (BF x).1 (BG x).1 (BH x).1 (Cp x).1 (Cq x).1 (Cr x).1 (C1 x).1 (C2 x).1 (C3 x).1 (C4 x).1 (C5 x).1 (C6 x).1 (C7 x).1 (af5 x).1 (af6 x).1 (af7 x).1 (af8 x).1 (af9 x).1 (af_ x).1 (af' x).1 (aga x).1 (agb x).1 (agc x).1 (agd x).1 (age x).1 (agf x).1 (agh x).1 (agi x).1 (agj x).1 (agk x).1 (agl x).1 (agm x).1 (agn x).1 (ago x).1 (agp x).1 (agq x).1 (agr x).1 (ags x).1 (agt x).1 (agu x).1 (agv x) K v) .n) .n)) .n))) Tryz.func15 rfl aha ⟨zwj,(Hc KK),trivial⟩ λx=>by kernel_rfl
def zjo:Ct TS:=⟨[.d (.st 13) 0],h2,[.st 13],.ag [.d .s 1,.d .s 2,.d .s 3],[(900000000,.rw 1),(900000001,.rw 2),(900000002,.rw 3),(900000003,.rw 4),(7000001,.box 126 [.d .s 1,.d .s 2,.d .s 3])],[.s,.s,.s],bf,λx=>Zn x⟩
def zro:bH 49 zjo:=o_ (cd:=pC) (nb:=nE) (rc:=[(2,7000001,0)]) (T:=[(131,Ss)]) (h:=.n) Tryz.func49 rfl ahD ⟨⟨WH,zwc⟩,trivial⟩ λx=>by kernel_rfl
def zjp:Ct TS:=⟨[.d (.st 13) 0,.d (.st 13) 1],h2,[.st 13,.st 13],.d .b 2,h2,[.b],bf,lX Zo⟩
def zrp:bH 17 zjp:=d_ (T:=[(16,Ao),(49,zjo)]) (h:=.n) Tryz.func17 rfl ahc ⟨Aq,zro,trivial⟩ λx=>by kernel_rfl
def ZW:Ct TS:=⟨[],h2,[],.d .b 0,h2,[.b],bf,λ_=>A7⟩
def zjq:bH 4 ZW:=o_ (cd:=cdL) (nb:=nE) (rc:=[]) (T:=[(11,zil),(12,zi3),(7,MN),(13,zjl),(14,zo2),(15,zo4),(16,Ao),(17,zjp),(18,Ys)]) (h:=.s .n (.s .n (.s .n (.s .n (.s .n (.s .n (.s (.s (.j ⟨[(1,.d vD 0),(2,dI 1),(3,.d .s 2),(4,dI 3),(6,dI 4),(8,dI 5),(9,.d vD 6),(10,dI 7),(55,.d .b 8)],h2,[vD,i6,.s,i6,i6,i6,vD,i6],[.b]⟩ bf .n) .n) (.s (.j ⟨[(1,.d vD 0),(9,.d vD 1),(11,.d .b 2)],h2,[vD,vD],[.b]⟩ bf .n) (.s (.j ⟨[(1,.d vD 0),(9,.d vD 1),(11,.d .b 2),(12,.d .b 3)],h2,[vD,vD,.b],[.b]⟩ bf .n) .n))))))))) Tryz.func4 rfl afB ⟨zq4,zre,Ra,zrm,zwi,zwk,Aq,zrp,ZG,trivial⟩ λx=>by kernel_rfl
def jo(RK:Nat):Ct TS:=⟨[.d (.st 0) 0,dI 1,dI 2],[],[.st 0,i6,i6],dI 3,[],[i6],bf,λx=>yw RK x.1 x.2.1 x.2.2⟩
def QV:∀RK,(jo RK).OK aS 19
 |0=>(λx r h=>nomatch (show(bg:Option _)=aY r from h))
 |RK+1=>(d_ (c:=jo (RK+1)) (T:=[(19,jo RK)]) (h:=.s .n (.s .n (.s .n (.s (.s .n (.s (.l ⟨[(1,dI 0),(2,dI 1),(3,.ptr 1000003 0),(7,dI 7),(8,dI 8)],(se 1000003 2 3 4 5 6),[i6,i6,i6,i6,.s,.s,aZ],[i6,i6]⟩ [(7,dI 7)] [] [i6] 0 (λx K v=>wR (yw RK) x.1 x.2.1 x.2.2.1 x.2.2.2.1 x.2.2.2.2.1 (p5 x).1 (p6 x) K v) (.s (.s (.j ⟨[(1,dI 0),(2,dI 1),(3,.ptr 1000003 0),(7,dI 2),(8,dI 3),(22,.d .b 9)],(se 1000003 4 5 6 7 8),[i6,i6,i6,i6,i6,i6,.s,.s,aZ],[.b]⟩ bf .n) .n) .n)) .n)) .n)))) Tryz.func19 rfl PM ⟨⟨PM,(QV RK)⟩,trivial⟩ λx=>by kernel_rfl).2
def Jq(RK:Nat):zb aS 19/\(jo RK).OK aS 19:=⟨PM,(QV RK)⟩
def VW:Ct TS:=⟨[.d (.st 7) 0],[],[.st 7],.d .b 1,[],[.b],bf,λx=>uF x⟩
def ZX:bH 20 VW:=d_ (T:=[(19,jo KK)]) (h:=.n) Tryz.func20 rfl ahe ⟨(Jq KK),trivial⟩ λx=>by kernel_rfl
def Zw:Ct TS:=⟨[.d (.st 12) 0],[],[.st 12],.d .b 1,[],[.b],bf,λx=>J7 x⟩
def zma:bH 5 Zw:=d_ (T:=[(19,jo KK),(20,VW)]) (h:=.s .n (.s (.s (.j ⟨[(1,.ptr 1000001 0),(48,.d .b 8)],tP,k1,[.b]⟩ bf .n) .n) (.s (.s .n (.s (.lr ⟨[(1,.ptr 1000001 0),(3,dI 8)],tP,k1,[i6]⟩ [(1,.ptr 1000001 0)] tP [] 0 (El jM) .n) .n)) (.s (.s .n (.s (.lr ⟨[(1,.ptr 1000001 0),(4,dI 8)],tP,k1,[i6]⟩ [(1,.ptr 1000001 0)] tP [] 2 (El jN) .n) .n)) (.s (.s .n (.s (.lr ⟨[(1,.ptr 1000001 0),(5,dI 8)],tP,k1,[i6]⟩ [(1,.ptr 1000001 0)] tP [] 4 (El jO) .n) .n)) (.s (.s .n (.s (.lr ⟨[(1,.ptr 1000001 0),(6,dI 8)],tP,k1,[i6]⟩ [(1,.ptr 1000001 0)] tP [] 6 (El jP) .n) .n)) (.s (.s .n (.s (.lr ⟨[(1,.ptr 1000001 0),(7,dI 8)],tP,k1,[i6]⟩ [(1,.ptr 1000001 0)] tP [] 8 (El jQ) .n) .n)) (.s (.s .n (.s (.lr ⟨[(1,.ptr 1000001 0),(8,dI 8)],tP,k1,[i6]⟩ [] [] [] 10 (El jR) .n) .n)) .n)))))))) Tryz.func5 rfl afC ⟨(Jq KK),ZX,trivial⟩ λx=>by kernel_rfl
def zjr:Ct TS:=⟨[.d vD 0],[],[vD],.d .b 1,[],[.b],bf,λx=>QD x⟩
def zrq:bH 6 zjr:=d_ (T:=[(20,VW),(19,jo KK)]) (h:=.s .n (.s (.s .n (.s (.lr ⟨[(0,.d vD 0),(3,dI 1)],[],[vD],[i6]⟩ [(0,.d vD 0)] [] [] 0 (λx K v=>jz x K v) (.s (.s (.j ⟨[(0,.d vD 0),(3,dI 1),(11,.d .b 2)],[],[vD,i6],[.b]⟩ bf .n) .n) (.s (.s (.s (.j ⟨[(0,.d vD 0),(3,dI 1),(38,.d .b 2)],[],[vD,i6],[.b]⟩ bf .n) .n) .n) .n))) .n)) .n)) Tryz.func6 rfl afD ⟨ZX,(Jq KK),trivial⟩ λx=>by kernel_rfl
def Wr:Ct TS:=⟨[dI 0],[],[i6],.iN [dI 1,.d .b 2],[],[i6,.b],bf,λx=>oy x⟩
def zfm:bH 174 Wr:=d_ (T:=[]) (h:=.s .n (.s (.s .n (.s (.s (.j ⟨[(0,dI 0),(4,dI 0),(5,.d .b 1)],[],[i6],[.b]⟩ bf .n) (.s .n (.s (.j ⟨[(0,dI 0),(4,dI 0),(10,.d .b 1)],[],[i6],[.b]⟩ bf .n) .n))) .n)) .n)) Tryz.func174 rfl zKz trivial λx=>by kernel_rfl
def jU(RK:Nat):Ct TS:=⟨[.d (.st 0) 0,dI 1],[],[.st 0,i6],dI 2,[],[i6],bf,λx=>yT RK x.1 x.2⟩
def Jr:∀RK,(jU RK).OK aS 106
 |0=>(λx r h=>nomatch (show(bg:Option _)=aY r from h))
 |RK+1=>(d_ (c:=jU (RK+1)) (T:=[(174,Wr),(106,jU RK)]) (h:=.s .n (.s .n (.s (.s (.j ⟨[(1,dI 0),(2,.ptr 1000002 0),(28,.d .b 6)],(se 1000002 1 2 3 4 5),LJ,[.b]⟩ bf .n) .n) (.s .n (.s (.s .n (.s (.l ⟨[(1,dI 0),(7,dI 3),(30,.d aZ 1),(31,dI 2),(32,dI 4)],[],[i6,aZ,i6],[i6,i6]⟩ [(7,dI 3)] [] [i6] 0 (λx K v=>wK (yT RK) x.1 x.2.1 x.2.2 K v) .n) .n)) .n))))) Tryz.func106 rfl Sn ⟨zfm,⟨Sn,(Jr RK)⟩,trivial⟩ λx=>by kernel_rfl).2
def zbc(RK:Nat):zb aS 106/\(jU RK).OK aS 106:=⟨Sn,(Jr RK)⟩
def Js:Ct TS:=⟨[.d (.st 0) 0],[],[.st 0],.d .b 1,[],[.b],bf,λx=>qd x⟩
def QW:bH 24 Js:=d_ (T:=[(106,jU KK)]) (h:=.n) Tryz.func24 rfl ahi ⟨(zbc KK),trivial⟩ λx=>by kernel_rfl
def RI:Ct TS:=⟨[.d (.st 12) 0],[],[.st 12],.iN [.d (.l i6) 1,.d aR 2,dI 3],[],[.l i6,aR,i6],bf,λx=>VK x⟩
def zo5:RI.OK aS 9:=λx r h=>Cc (by kernel_rfl) (zE7 x r h)
def qT:Ct TS:=⟨[.d (.st 3) 0,.ptr 1 0],(se 1 1 2 3 4 5),[.st 3,i6,i6,.s,.s,aZ],.d .b 6,(se 1 1 2 3 4 5),[.b],bf,H8 qE⟩
def ab0:bH 175 qT:=d_ (T:=[]) (h:=.n) Tryz.func175 rfl zK0 trivial λx=>by kernel_rfl
def qo:Ct TS:=⟨[.d bT 0,.fn 175 [] [.ptr 1 0]],(se 1 1 2 3 4 5),[bT,i6,i6,.s,.s,aZ],dI 6,(se 1 1 2 3 4 5),[i6],bf,H8 vl⟩
def abF:bH 170 qo:=d_ (T:=[(175,qT)]) (h:=.s .n (.s (.s .n (.s (.lr ⟨[(0,.d bT 5),(1,.fn 175 [] [.ptr 1 0]),(7,dI 6),(8,dI 7)],(se 1 0 1 2 3 4),[i6,i6,.s,.s,aZ,bT,i6],[i6]⟩ [] (se 1 0 1 2 3 4) [] 0 (H9 ya) .n) .n)) .n)) Tryz.func170 rfl Sj ⟨ab0,trivial⟩ λx=>by kernel_rfl
def qU:Ct TS:=⟨[.d (.st 2) 0,.ptr 1 0],(se 1 1 2 3 4 5),[.st 2,i6,i6,.s,.s,aZ],.d .b 6,(se 1 1 2 3 4 5),[.b],bf,H8 qF⟩
def ab1:bH 176 qU:=d_ (T:=[]) (h:=.n) Tryz.func176 rfl zK1 trivial λx=>by kernel_rfl
def qp:Ct TS:=⟨[.d iS 0,.fn 176 [] [.ptr 1 0]],(se 1 1 2 3 4 5),[iS,i6,i6,.s,.s,aZ],dI 6,(se 1 1 2 3 4 5),[i6],bf,H8 vm⟩
def abG:bH 171 qp:=d_ (T:=[(176,qU)]) (h:=.s .n (.s (.s .n (.s (.lr ⟨[(0,.d iS 5),(1,.fn 176 [] [.ptr 1 0]),(7,dI 6),(8,dI 7)],(se 1 0 1 2 3 4),[i6,i6,.s,.s,aZ,iS,i6],[i6]⟩ [] (se 1 0 1 2 3 4) [] 0 (H9 yb) .n) .n)) .n)) Tryz.func171 rfl Sk ⟨ab1,trivial⟩ λx=>by kernel_rfl
def oC:Ct TS:=⟨[.ag [.d bZ 0,.d bT 1,.d bV 2,.d bC 3,.d bR 4,.d zZ 5,.d eo 6,dI 7,.mp 1,.d aR 9],.d (.st 0) 10],[(1,.map .s i6 8)],Vu,dI 11,[(1,.map .s i6 8)],[i6],bf,Ts wX⟩
def ab3:bH 107 oC:=d_ (T:=[(170,qo),(171,qp)]) (h:=.n) Tryz.func107 rfl zK2 ⟨abF,abG,trivial⟩ λx=>by kernel_rfl
def Kv:Ct TS:=⟨[.d aR 0,.d .s 1],[],[aR,.s],dI 2,[],[i6],bf,lX yS⟩
def ac':bH 177 Kv:=d_ (T:=[]) (h:=.s .n (.s (.s .n (.s (.lr ⟨[(0,.d aR 0),(1,.d .s 1),(7,dI 2),(8,dI 3)],[],[aR,.s,i6],[i6]⟩ [] [] [] 0 (na zx) .n) .n)) .n)) Tryz.func177 rfl zK3 trivial λx=>by kernel_rfl
def AA:Ct TS:=⟨[.d aR 0,.d .s 1],[],[aR,.s],.d .b 2,[],[.b],bf,lX zU⟩
def ab_:bH 109 AA:=d_ (T:=[(177,Kv)]) (h:=.n) Tryz.func109 rfl zK4 ⟨ac',trivial⟩ λx=>by kernel_rfl
def VX:Ct TS:=⟨[.d .b 0],[],[.b],dI 1,[],[i6],bf,λx=>wa x⟩
def Z1:bH 108 VX:=d_ (T:=[]) (h:=.n) Tryz.func108 rfl zK5 trivial λx=>by kernel_rfl
def Jv:Ct TS:=⟨[dI 0,dI 1],[],[i6,i6],dI 2,[],[i6],bf,lX vn⟩
def acY:bH 178 Jv:=d_ (T:=[]) (h:=.s .n (.s .n (.s .n (.s (.j ⟨[(5,dI 0)],[],[],[i6]⟩ bf (.s .n (.s (.j ⟨[(5,dI 0),(23,.d .b 1)],[],[i6],[.b]⟩ bf .n) .n))) .n)))) Tryz.func178 rfl zK6 trivial λx=>by kernel_rfl
def QY:Ct TS:=⟨[dI 0,dI 1,dI 2],[],[i6,i6,i6],dI 3,[],[i6],bf,na ui⟩
def zbd:bH 110 QY:=d_ (T:=[(178,Jv),(108,VX)]) (h:=.n) Tryz.func110 rfl zK7 ⟨acY,Z1,trivial⟩ λx=>by kernel_rfl
def yH(RK:Nat):Ct TS:=⟨[.ag [.d bZ 0,.d bT 1,.d bV 2,.d bC 3,.d bR 4,.d zZ 5,.d eo 6,dI 7,.mp 1,.d aR 9],.d (.st 0) 10],[(1,.map .s i6 8)],Vu,dI 11,[(1,.map .s i6 8)],[i6],bf,λx=>zL RK x.1 x.2.1 x.2.2.1 x.2.2.2.1 x.2.2.2.2.1 (p5 x).1 (p6 x).1 (rV x).1 (sC x).1 (sO x).1 (s7 x)⟩
def j5:∀RK,(yH RK).OK aS 26
 |0=>(λx r h=>nomatch (show(bg:Option _)=aY r from h))
 |RK+1=>(d_ (c:=yH (RK+1)) (T:=[(26,yH RK),(107,oC),(109,AA),(108,VX),(110,QY)]) (h:=.s .n (.s .n (.s (.s .n (.s (.l ⟨[(2,.ptr 1000002 0),(3,.ptr 1000003 0),(5,.row 1 7000001),(9,.d aZ 1),(10,dI 2),(11,dI 16)],(On 3 4 5 6 7 8 9 10 11 12 13 14 15 7000001 17),[.m .s i6,aZ,i6,bZ,bT,bV,bC,bR,zZ,eo,i6,aR,i6,i6,.s,.s],[i6,.l i6]⟩ [(2,.ptr 1000002 0),(3,.ptr 1000003 0),(5,.row 1 7000001)] (On 3 4 5 6 7 8 9 10 11 12 13 14 15 7000001 16) [.l i6] 0 (λx K v=>zB (zL RK) x.1 x.2.1 x.2.2.1 x.2.2.2.1 x.2.2.2.2.1 (p5 x).1 (p6 x).1 (rV x).1 (sC x).1 (sO x).1 (s7 x).1 (tt x).1 (tn x).1 (Bd x).1 (Be x).1 (Bf x) K v) (.s .n (.s .n (.s (.j ⟨[(2,.ptr 1000002 0),(3,.ptr 1000003 0),(5,.row 1 7001001),(9,.d aZ 1),(10,dI 2),(11,dI 3)],(On 4 5 6 7 8 9 10 11 12 13 14 15 16 7001001 17),[.m .s i6,aZ,i6,i6,bZ,bT,bV,bC,bR,zZ,eo,i6,aR,i6,i6,.s,.s],[.l i6]⟩ bf (.s (.s .n (.s (.s (.j ⟨[(2,.ptr 1000002 0),(3,.ptr 1000003 0),(5,.row 1 7000001),(7,.ptr 1000007 0),(9,.d aZ 1),(10,dI 2),(11,dI 3),(31,.d .b 23)],[(1,.map .s i6 0),(1000002,.box 84 [.d bZ 4,.d bT 5,.d bV 6,.d bC 7,.d bR 8,.d zZ 9,.d eo 10,dI 11,.mp 1,.d aR 12]),(1000003,.box 34 [dI 13,dI 14,.d .s 15,.d .s 16,.d aZ 1]),(7000001,.row 3 i6 17 bf),(1000007,.box 34 [dI 18,dI 19,.d .s 20,.d .s 21,.d aZ 22])],[.m .s i6,aZ,i6,i6,bZ,bT,bV,bC,bR,zZ,eo,i6,aR,i6,i6,.s,.s,.l i6,i6,i6,.s,.s,aZ],[.b]⟩ bf .n) .n) .n)) .n)) .n)))) .n)) .n))) Tryz.func26 rfl PN ⟨⟨PN,(j5 RK)⟩,ab3,ab_,Z1,zbd,trivial⟩ λx=>by kernel_rfl).2
def qq(RK:Nat):zb aS 26/\(yH RK).OK aS 26:=⟨PN,(j5 RK)⟩
def o5:Ct TS:=⟨[.d (.st 12) 0,.d iS 1,.d aR 2],[],[.st 12,iS,aR],.iN [.ag [.d bZ 4,.d bT 5,.d bV 6,.d bC 7,.d bR 8,.d zZ 9,.d eo 10,dI 11,.mp 7000002,.d aR 12],.d (.l i6) 3],[(7000001,.box 84 [.d bZ 4,.d bT 5,.d bV 6,.d bC 7,.d bR 8,.d zZ 9,.d eo 10,dI 11,.mp 7000002,.d aR 12]),(7000002,.map .s i6 13)],[.l i6,bZ,bT,bV,bC,bR,zZ,eo,i6,aR,.m .s i6],bf,na xB⟩
def Jw:bH 25 o5:=o_ (cd:=pC) (nb:=nE) (rc:=[(6,7000001,0)]) (T:=[(9,RI),(24,Js),(26,yH KK)]) (h:=.s .n (.s .n (.s .n (.s (.s .n (.s (.l ⟨[(3,.ptr 1000003 0),(6,.ptr 1000006 0),(8,.ptr 1000008 0),(9,.mp 1000023),(24,.d iS 0),(25,dI 1),(26,dI 11)],(Oo 2 3 4 5 6 7 8 9 12 10 13 14),[iS,i6,bZ,bT,bV,bC,bR,zZ,eo,i6,aR],[i6,i6,.m .s .b,.m .s i6]⟩ [(3,.ptr 1000003 0),(6,.ptr 1000006 0),(8,.ptr 1000008 0),(9,.mp 1000023)] (Oo 2 3 4 5 6 7 8 9 11 10 12 13) [i6,.m .s .b,.m .s i6] 0 (Ts yN) (.s .n (.s .n (.s (.j ⟨[(3,.ptr 1000003 0),(6,.ptr 1000006 0),(8,.ptr 1000008 0),(9,.mp 1000023),(24,.d iS 0),(25,dI 1),(26,dI 2)],(Oo 3 4 5 6 7 8 9 10 12 11 13 14),[iS,i6,i6,bZ,bT,bV,bC,bR,zZ,eo,i6,aR],[i6,.m .s .b,.m .s i6]⟩ bf .n) .n)))) .n)) (.s .n (.s .n (.s .n (.s (.s .n (.s (.l ⟨[(3,.ptr 1000003 0),(6,.ptr 1000006 0),(8,.ptr 1000008 0),(9,.mp 1000023),(12,.row 1 1000048),(59,.d (.l i6) 0),(60,dI 1),(61,dI 13)],(Uv 2 3 4 5 6 7 8 9 10 11 12),[.l i6,i6,bZ,bT,bV,bC,bR,zZ,eo,i6,i6,aR,.m .s .b],[i6,.l i6,.m .s i6]⟩ [(6,.ptr 1000006 0),(8,.ptr 1000008 0),(12,.row 1 1000048)] [(1000006,.box 84 [.gg,.gg,.gg,.gg,.gg,.gg,.gg,dI 10,.mD,.gg]),(1000008,.box 84 [.d bZ 2,.d bT 3,.d bV 4,.d bC 5,.d bR 6,.d zZ 7,.d eo 8,dI 9,.mp 1000020,.d aR 11]),(1000048,.row 3 i6 13 bf),(1000020,.map .s i6 14)] [.l i6,.m .s i6] 2 (agN yO) (.s .n (.s .n (.s (.j ⟨[(3,.ptr 1000003 0),(6,.ptr 1000006 0),(8,.ptr 1000008 0),(9,.mp 1000023),(12,.row 1 1000048),(59,.d (.l i6) 0),(60,dI 1),(61,dI 2)],(Uv 3 4 5 6 7 8 9 10 11 12 13),[.l i6,i6,i6,bZ,bT,bV,bC,bR,zZ,eo,i6,i6,aR,.m .s .b],[.l i6,.m .s i6]⟩ bf (.s (.s .n (.s .n (.s (.j ⟨[(3,.ptr 1000003 0),(6,.ptr 1000006 0),(8,.ptr 1000008 0),(9,.mp 1000023),(12,.row 1 1000048),(17,dI 0),(18,.ptr 1000018 0),(59,.d (.l i6) 1),(60,dI 2),(61,dI 3)],[(1000003,.box 30 [.d bZ 4,.d bT 5,.d bV 6,.d bC 7,.d bR 8,.d zZ 9,.d eo 10,dI 11]),(1000006,.box 84 [.gg,.gg,.gg,.gg,.gg,.gg,.gg,dI 12,.mD,.gg]),(1000008,.box 84 [.d bZ 4,.d bT 5,.d bV 6,.d bC 7,.d bR 8,.d zZ 9,.d eo 10,dI 11,.mp 1000020,.d aR 13]),(1000023,.map .s .b 14),(1000048,.row 3 i6 22 bf),(1000018,.box 68 [.d .s 15,dI 16,dI 17,.d .s 18,.d .s 19,.d aZ 20]),(1000020,.map .s i6 21)],[i6,.l i6,i6,i6,bZ,bT,bV,bC,bR,zZ,eo,i6,i6,aR,.m .s .b,.s,i6,i6,.s,.s,aZ,.m .s i6],[.l i6]⟩ bf .n) .n))) .n)) .n)))) .n)) .n)))))))) Tryz.func25 rfl ahj ⟨⟨aav,zo5⟩,QW,(qq KK),trivial⟩ λx=>by kernel_rfl
def Z3:Ct TS:=⟨[.d (.st 12) 0,.d iS 1,.d aR 2,.d (.st 0) 3],[],[.st 12,iS,aR,.st 0],dI 4,[],[i6],bf,A8 yr⟩
def zjs:bH 8 Z3:=d_ (T:=[(24,Js),(25,o5),(26,yH KK)]) (h:=.n) Tryz.func8 rfl afF ⟨QW,Jw,(qq KK),trivial⟩ λx=>by kernel_rfl
def ZB:Ct TS:=⟨[.d (.st 12) 0,.d iS 1,.d aR 2],[],[.st 12,iS,aR],.d (.l i6) 3,[],[.l i6],bf,na wb⟩
def zmc:bH 10 ZB:=d_ (T:=[(25,o5)]) (h:=.n) Tryz.func10 rfl ag7 ⟨Jw,trivial⟩ λx=>by kernel_rfl
def acZ:Ct TS:=⟨[.d (.st 12) 0,.d (.st 13) 1,.d .s 2,dI 3],h2,[.st 12,.st 13,.s,i6],.d .b 4,h2,[.b],bf,A8 jh⟩
def acr:bH 3 acZ:=d_ (T:=[(4,ZW),(5,Zw),(6,zjr),(7,MN),(8,Z3),(9,RI),(10,ZB)]) (h:=.s .n (.s .n (.s (.s (.j ⟨[(2,.d .s 0),(3,dI 1),(4,.ptr 1000004 0),(5,.ptr 1000005 0),(9,.d .b 2),(28,.d .b 41)],[(900000000,.rw 1),(900000001,.rw 2),(900000002,.rw 3),(900000003,.rw 4),(1000004,.box 30 [.d bZ 3,.d bT 4,.d bV 5,.d bC 6,.d bR 7,.d zZ 8,.d eo 9,dI 10]),(1000005,.box 41 [dI 11,.d .s 12,.d .s 13,dI 14,.d .s 15,.d aR 16,.d aR 17,dI 18,dI 19,dI 20,.d .b 21,dI 22,dI 23,dI 24,.d .s 25,.d .s 26,.d aZ 27,dI 28,dI 29,dI 30,dI 31,dI 32,dI 33,dI 34,dI 35,dI 36,.d .s 37,.d .s 38,.d aZ 39,.d gu 40])],aeP,[.b]⟩ bf .n) .n) (.s .n (.s .n (.s .n (.s .n (.s (.s .n (.s (.s .n (.s (.s (.j ⟨[(5,.ptr 1000005 0),(9,.d .b 0),(10,.ptr 1000010 0),(12,.row 2 1000042),(76,.d .b 40)],[(900000000,.rw 1),(900000001,.rw 2),(900000002,.rw 3),(900000003,.rw 4),(1000005,.box 41 [dI 1,.d .s 2,.d .s 3,dI 4,.d .s 5,.d aR 6,.d aR 7,dI 8,dI 9,dI 10,.d .b 11,dI 12,dI 13,dI 14,.d .s 15,.d .s 16,.d aZ 17,dI 18,dI 19,dI 20,dI 21,dI 22,dI 23,dI 24,dI 25,dI 26,.d .s 27,.d .s 28,.d aZ 29,.d gu 30]),(1000010,.box 30 [.d bZ 31,.d bT 32,.d bV 33,.d bC 34,.d bR 35,.d zZ 36,.d eo 37,dI 38]),(1000042,.row 50 (.st 2) 39 bf)],aeQ,[.b]⟩ bf .n) .n) .n)) .n)) (.s .n (.s .n (.s (.s (.j ⟨[(9,.d .b 0),(16,.d (.l i6) 1),(17,.d (.l i6) 2),(111,.d .b 3)],h2,[.b,.l i6,.l i6],[.b]⟩ bf .n) .n) (.s (.s .n (.s (.lr ⟨[(9,.d .b 0),(16,.d (.l i6) 1),(17,.d (.l i6) 2),(18,dI 3)],h2,[.b,.l i6,.l i6],[i6]⟩ [(9,.d .b 0)] h2 [] 0 (na yd) .n) .n)) .n)))))))))))) Tryz.func3 rfl afA ⟨zjq,zma,zrq,Ra,zjs,⟨aav,zo5⟩,zmc,trivial⟩ λx=>by kernel_rfl
end Go.Proofs.YtogbenbghgjbiaaGreatDoor
