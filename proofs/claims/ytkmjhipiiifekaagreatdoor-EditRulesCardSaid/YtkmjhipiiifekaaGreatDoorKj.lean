/- texts that the proof reaches, part 10 -/
import Derived.Test.YtkmjhipiiifekaaGreatDoorKi
set_option linter.all false
open Bool renaming false->bf,true->bg
open Nat renaming beq->bk
open Option renaming some->aY,none->bh
set_option maxRecDepth 100000
namespace Go.Proofs.YtkmjhipiiifekaaGreatDoor
open Go Go.RowKit Go.lA Go.EV Go.EQ
noncomputable abbrev bH:=Tryz.prog
abbrev i6:TC:=.i .i64
abbrev dI(k:Nat):Tp:=.d i6 k
abbrev Ce:TC:=.l (.m .s .b)
abbrev mPQ:TC:=.m .s .b
abbrev a_:TC:=.l .s
abbrev dR:TC:=.l (.st 0)
abbrev fP:TC:=.l (.st 1)
abbrev iG:TC:=.l (.st 2)
abbrev e_:TC:=.l (.st 3)
abbrev gD:TC:=.l (.st 4)
abbrev fh:TC:=.l (.st 5)
abbrev eH:TC:=.l (.st 7)
abbrev eM:TC:=.l (.st 8)
abbrev gh:TC:=.l (.st 9)
abbrev zW:TC:=.l (.st 10)
abbrev qB:TC:=.l (.st 11)
abbrev wy:TC:=.l (.st 13)
abbrev yu:TC:=.l (.st 14)
abbrev Hl:TC:=.l (.st 15)
abbrev Ya:TC:=.l (.st 16)
abbrev oR:TC:=.l (.st 17)
abbrev gpQ(l:List (Nat×TO)):List (Nat×TO):=(900000000,.rw 1)::(900000001,.rw 2)::(900000002,.rw 3)::(900000003,.rw 4)::l
abbrev pnQ(n:Nat):Nat×Tp:=(n,.ptr (1000000+n) 0)
abbrev afz:Nat×Tp:=(0,.ptr 1 0)
def ir{f_ gg β:Type}(f:f_->gg->β)(x:f_×gg):β:=f x.1 x.2
def lG{f_ gg gp β:Type}(f:f_->gg->gp->β)(x:f_×gg×gp):β:=f x.1 x.2.1 x.2.2
def sn{f_ gg gp gw β:Type}(f:f_->gg->gp->gw->β)(x:f_×gg×gp×gw):β:=f x.1 x.2.1 x.2.2.1 x.2.2.2
def tD{f_ gg gp gw gA β:Type}(f:f_->gg->gp->gw->gA->β)(x:f_×gg×gp×gw×gA):β:=f x.1 x.2.1 x.2.2.1 x.2.2.2.1 x.2.2.2.2
def Pq{f_ gg gp gw gA gH β:Type}(f:f_->gg->gp->gw->gA->gH->β)(x:f_×gg×gp×gw×gA×gH):β:=f x.1 x.2.1 x.2.2.1 x.2.2.2.1 x.2.2.2.2.1 x.2.2.2.2.2
def J_{f_ gg gp gw gA gH gP β:Type}(f:f_->gg->gp->gw->gA->gH->gP->β)(x:f_×gg×gp×gw×gA×gH×gP):β:=f x.1 x.2.1 x.2.2.1 x.2.2.2.1 x.2.2.2.2.1 x.2.2.2.2.2.1 x.2.2.2.2.2.2
def Be{f_ gg gp gw gA gH gP gU β:Type}(f:f_->gg->gp->gw->gA->gH->gP->gU->β)(x:f_×gg×gp×gw×gA×gH×gP×gU):β:=f x.1 x.2.1 x.2.2.1 x.2.2.2.1 x.2.2.2.2.1 x.2.2.2.2.2.1 x.2.2.2.2.2.2.1 x.2.2.2.2.2.2.2
def tE{f_ gg gp gw gA gH gP gU gV β:Type}(f:f_->gg->gp->gw->gA->gH->gP->gU->gV->β)(x:f_×gg×gp×gw×gA×gH×gP×gU×gV):β:=f x.1 x.2.1 x.2.2.1 x.2.2.2.1 x.2.2.2.2.1 x.2.2.2.2.2.1 x.2.2.2.2.2.2.1 x.2.2.2.2.2.2.2.1 x.2.2.2.2.2.2.2.2
def ND{f_ gg gp gw gA gH gP gU gV gW β:Type}(f:f_->gg->gp->gw->gA->gH->gP->gU->gV->gW->β)(x:f_×gg×gp×gw×gA×gH×gP×gU×gV×gW):β:=f x.1 x.2.1 x.2.2.1 x.2.2.2.1 x.2.2.2.2.1 x.2.2.2.2.2.1 x.2.2.2.2.2.2.1 x.2.2.2.2.2.2.2.1 x.2.2.2.2.2.2.2.2.1 x.2.2.2.2.2.2.2.2.2
def XW{f_ gg gp gw gA gH gP gU gV gW gZ β:Type}(f:f_->gg->gp->gw->gA->gH->gP->gU->gV->gW->gZ->β)(x:f_×gg×gp×gw×gA×gH×gP×gU×gV×gW×gZ):β:=f x.1 x.2.1 x.2.2.1 x.2.2.2.1 x.2.2.2.2.1 x.2.2.2.2.2.1 x.2.2.2.2.2.2.1 x.2.2.2.2.2.2.2.1 x.2.2.2.2.2.2.2.2.1 x.2.2.2.2.2.2.2.2.2.1 x.2.2.2.2.2.2.2.2.2.2
def XX{f_ gg gp gw gA gH gP gU gV gW gZ g_ β:Type}(f:f_->gg->gp->gw->gA->gH->gP->gU->gV->gW->gZ->g_->β)(x:f_×gg×gp×gw×gA×gH×gP×gU×gV×gW×gZ×g_):β:=f x.1 x.2.1 x.2.2.1 x.2.2.2.1 x.2.2.2.2.1 x.2.2.2.2.2.1 x.2.2.2.2.2.2.1 x.2.2.2.2.2.2.2.1 x.2.2.2.2.2.2.2.2.1 x.2.2.2.2.2.2.2.2.2.1 x.2.2.2.2.2.2.2.2.2.2.1 x.2.2.2.2.2.2.2.2.2.2.2
def rb{f_ gg gp gw gA gH gP gU gV gW gZ g_ hU h_ ia ic β:Type}(f:f_->gg->gp->gw->gA->gH->gP->gU->gV->gW->gZ->g_->hU->h_->ia->ic->β)(x:f_×gg×gp×gw×gA×gH×gP×gU×gV×gW×gZ×g_×hU×h_×ia×ic):β:=f x.1 x.2.1 x.2.2.1 x.2.2.2.1 x.2.2.2.2.1 x.2.2.2.2.2.1 x.2.2.2.2.2.2.1 x.2.2.2.2.2.2.2.1 x.2.2.2.2.2.2.2.2.1 x.2.2.2.2.2.2.2.2.2.1 x.2.2.2.2.2.2.2.2.2.2.1 x.2.2.2.2.2.2.2.2.2.2.2.1 x.2.2.2.2.2.2.2.2.2.2.2.2.1 x.2.2.2.2.2.2.2.2.2.2.2.2.2.1 x.2.2.2.2.2.2.2.2.2.2.2.2.2.2.1 x.2.2.2.2.2.2.2.2.2.2.2.2.2.2.2
def DD{f_ gg gp gw gA gH gP gU gV gW gZ g_ hU h_ ia ic ik β:Type}(f:f_->gg->gp->gw->gA->gH->gP->gU->gV->gW->gZ->g_->hU->h_->ia->ic->ik->β)(x:f_×gg×gp×gw×gA×gH×gP×gU×gV×gW×gZ×g_×hU×h_×ia×ic×ik):β:=f x.1 x.2.1 x.2.2.1 x.2.2.2.1 x.2.2.2.2.1 x.2.2.2.2.2.1 x.2.2.2.2.2.2.1 x.2.2.2.2.2.2.2.1 x.2.2.2.2.2.2.2.2.1 x.2.2.2.2.2.2.2.2.2.1 x.2.2.2.2.2.2.2.2.2.2.1 x.2.2.2.2.2.2.2.2.2.2.2.1 x.2.2.2.2.2.2.2.2.2.2.2.2.1 x.2.2.2.2.2.2.2.2.2.2.2.2.2.1 x.2.2.2.2.2.2.2.2.2.2.2.2.2.2.1 x.2.2.2.2.2.2.2.2.2.2.2.2.2.2.2.1 x.2.2.2.2.2.2.2.2.2.2.2.2.2.2.2.2
def nj{f_ gg gp gw gA β:Type}(x:f_×gg×gp×gw×gA×β):β:=x.2.2.2.2.2
def nk{f_ gg gp gw gA gH β:Type}(x:f_×gg×gp×gw×gA×gH×β):β:=x.2.2.2.2.2.2
def nN{f_ gg gp gw gA gH gP β:Type}(x:f_×gg×gp×gw×gA×gH×gP×β):β:=x.2.2.2.2.2.2.2
def pe{f_ gg gp gw gA gH gP gU β:Type}(x:f_×gg×gp×gw×gA×gH×gP×gU×β):β:=x.2.2.2.2.2.2.2.2
def pz{f_ gg gp gw gA gH gP gU gV β:Type}(x:f_×gg×gp×gw×gA×gH×gP×gU×gV×β):β:=x.2.2.2.2.2.2.2.2.2
def pR{f_ gg gp gw gA gH gP gU gV gW β:Type}(x:f_×gg×gp×gw×gA×gH×gP×gU×gV×gW×β):β:=x.2.2.2.2.2.2.2.2.2.2
def pO{f_ gg gp gw gA gH gP gU gV gW gZ β:Type}(x:f_×gg×gp×gw×gA×gH×gP×gU×gV×gW×gZ×β):β:=x.2.2.2.2.2.2.2.2.2.2.2
def pP{f_ gg gp gw gA gH gP gU gV gW gZ g_ β:Type}(x:f_×gg×gp×gw×gA×gH×gP×gU×gV×gW×gZ×g_×β):β:=x.2.2.2.2.2.2.2.2.2.2.2.2
def rI{f_ gg gp gw gA gH gP gU gV gW gZ g_ hU β:Type}(x:f_×gg×gp×gw×gA×gH×gP×gU×gV×gW×gZ×g_×hU×β):β:=x.2.2.2.2.2.2.2.2.2.2.2.2.2
def rJ{f_ gg gp gw gA gH gP gU gV gW gZ g_ hU h_ β:Type}(x:f_×gg×gp×gw×gA×gH×gP×gU×gV×gW×gZ×g_×hU×h_×β):β:=x.2.2.2.2.2.2.2.2.2.2.2.2.2.2
def rK{f_ gg gp gw gA gH gP gU gV gW gZ g_ hU h_ ia β:Type}(x:f_×gg×gp×gw×gA×gH×gP×gU×gV×gW×gZ×g_×hU×h_×ia×β):β:=x.2.2.2.2.2.2.2.2.2.2.2.2.2.2.2
def rL{f_ gg gp gw gA gH gP gU gV gW gZ g_ hU h_ ia ic β:Type}(x:f_×gg×gp×gw×gA×gH×gP×gU×gV×gW×gZ×g_×hU×h_×ia×ic×β):β:=x.2.2.2.2.2.2.2.2.2.2.2.2.2.2.2.2
def rM{f_ gg gp gw gA gH gP gU gV gW gZ g_ hU h_ ia ic ik β:Type}(x:f_×gg×gp×gw×gA×gH×gP×gU×gV×gW×gZ×g_×hU×h_×ia×ic×ik×β):β:=x.2.2.2.2.2.2.2.2.2.2.2.2.2.2.2.2.2
def rN{f_ gg gp gw gA gH gP gU gV gW gZ g_ hU h_ ia ic ik im β:Type}(x:f_×gg×gp×gw×gA×gH×gP×gU×gV×gW×gZ×g_×hU×h_×ia×ic×ik×im×β):β:=x.2.2.2.2.2.2.2.2.2.2.2.2.2.2.2.2.2.2
def rO{f_ gg gp gw gA gH gP gU gV gW gZ g_ hU h_ ia ic ik im iq β:Type}(x:f_×gg×gp×gw×gA×gH×gP×gU×gV×gW×gZ×g_×hU×h_×ia×ic×ik×im×iq×β):β:=x.2.2.2.2.2.2.2.2.2.2.2.2.2.2.2.2.2.2.2
def rP{f_ gg gp gw gA gH gP gU gV gW gZ g_ hU h_ ia ic ik im iq iu β:Type}(x:f_×gg×gp×gw×gA×gH×gP×gU×gV×gW×gZ×g_×hU×h_×ia×ic×ik×im×iq×iu×β):β:=x.2.2.2.2.2.2.2.2.2.2.2.2.2.2.2.2.2.2.2.2
def rQ{f_ gg gp gw gA gH gP gU gV gW gZ g_ hU h_ ia ic ik im iq iu iv β:Type}(x:f_×gg×gp×gw×gA×gH×gP×gU×gV×gW×gZ×g_×hU×h_×ia×ic×ik×im×iq×iu×iv×β):β:=x.2.2.2.2.2.2.2.2.2.2.2.2.2.2.2.2.2.2.2.2.2
def sB{f_ gg gp gw gA gH gP gU gV gW gZ g_ hU h_ ia ic ik im iq iu iv iA β:Type}(x:f_×gg×gp×gw×gA×gH×gP×gU×gV×gW×gZ×g_×hU×h_×ia×ic×ik×im×iq×iu×iv×iA×β):β:=x.2.2.2.2.2.2.2.2.2.2.2.2.2.2.2.2.2.2.2.2.2.2
def sr{f_ gg gp gw gA gH gP gU gV gW gZ g_ hU h_ ia ic ik im iq iu iv iA iC β:Type}(x:f_×gg×gp×gw×gA×gH×gP×gU×gV×gW×gZ×g_×hU×h_×ia×ic×ik×im×iq×iu×iv×iA×iC×β):β:=x.2.2.2.2.2.2.2.2.2.2.2.2.2.2.2.2.2.2.2.2.2.2.2
def ss{f_ gg gp gw gA gH gP gU gV gW gZ g_ hU h_ ia ic ik im iq iu iv iA iC iH β:Type}(x:f_×gg×gp×gw×gA×gH×gP×gU×gV×gW×gZ×g_×hU×h_×ia×ic×ik×im×iq×iu×iv×iA×iC×iH×β):β:=x.2.2.2.2.2.2.2.2.2.2.2.2.2.2.2.2.2.2.2.2.2.2.2.2
def sY{f_ gg gp gw gA gH gP gU gV gW gZ g_ hU h_ ia ic ik im iq iu iv iA iC iH iJ β:Type}(x:f_×gg×gp×gw×gA×gH×gP×gU×gV×gW×gZ×g_×hU×h_×ia×ic×ik×im×iq×iu×iv×iA×iC×iH×iJ×β):β:=x.2.2.2.2.2.2.2.2.2.2.2.2.2.2.2.2.2.2.2.2.2.2.2.2.2
def sZ{f_ gg gp gw gA gH gP gU gV gW gZ g_ hU h_ ia ic ik im iq iu iv iA iC iH iJ iM β:Type}(x:f_×gg×gp×gw×gA×gH×gP×gU×gV×gW×gZ×g_×hU×h_×ia×ic×ik×im×iq×iu×iv×iA×iC×iH×iJ×iM×β):β:=x.2.2.2.2.2.2.2.2.2.2.2.2.2.2.2.2.2.2.2.2.2.2.2.2.2.2
def s3{f_ gg gp gw gA gH gP gU gV gW gZ g_ hU h_ ia ic ik im iq iu iv iA iC iH iJ iM iP β:Type}(x:f_×gg×gp×gw×gA×gH×gP×gU×gV×gW×gZ×g_×hU×h_×ia×ic×ik×im×iq×iu×iv×iA×iC×iH×iJ×iM×iP×β):β:=x.2.2.2.2.2.2.2.2.2.2.2.2.2.2.2.2.2.2.2.2.2.2.2.2.2.2.2
def s4{f_ gg gp gw gA gH gP gU gV gW gZ g_ hU h_ ia ic ik im iq iu iv iA iC iH iJ iM iP iU β:Type}(x:f_×gg×gp×gw×gA×gH×gP×gU×gV×gW×gZ×g_×hU×h_×ia×ic×ik×im×iq×iu×iv×iA×iC×iH×iJ×iM×iP×iU×β):β:=x.2.2.2.2.2.2.2.2.2.2.2.2.2.2.2.2.2.2.2.2.2.2.2.2.2.2.2.2
def s5{f_ gg gp gw gA gH gP gU gV gW gZ g_ hU h_ ia ic ik im iq iu iv iA iC iH iJ iM iP iU iW β:Type}(x:f_×gg×gp×gw×gA×gH×gP×gU×gV×gW×gZ×g_×hU×h_×ia×ic×ik×im×iq×iu×iv×iA×iC×iH×iJ×iM×iP×iU×iW×β):β:=x.2.2.2.2.2.2.2.2.2.2.2.2.2.2.2.2.2.2.2.2.2.2.2.2.2.2.2.2.2
def s6{f_ gg gp gw gA gH gP gU gV gW gZ g_ hU h_ ia ic ik im iq iu iv iA iC iH iJ iM iP iU iW iY β:Type}(x:f_×gg×gp×gw×gA×gH×gP×gU×gV×gW×gZ×g_×hU×h_×ia×ic×ik×im×iq×iu×iv×iA×iC×iH×iJ×iM×iP×iU×iW×iY×β):β:=x.2.2.2.2.2.2.2.2.2.2.2.2.2.2.2.2.2.2.2.2.2.2.2.2.2.2.2.2.2.2
def sX{f_ gg gp gw gA gH gP gU gV gW gZ g_ hU h_ ia ic ik im iq iu iv iA iC iH iJ iM iP iU iW iY i_ β:Type}(x:f_×gg×gp×gw×gA×gH×gP×gU×gV×gW×gZ×g_×hU×h_×ia×ic×ik×im×iq×iu×iv×iA×iC×iH×iJ×iM×iP×iU×iW×iY×i_×β):β:=x.2.2.2.2.2.2.2.2.2.2.2.2.2.2.2.2.2.2.2.2.2.2.2.2.2.2.2.2.2.2.2
def Xv{f_ gg gp gw gA gH gP gU gV gW gZ g_ hU h_ ia ic ik im iq iu iv iA iC iH iJ iM iP iU iW iY i_ k_ β:Type}(x:f_×gg×gp×gw×gA×gH×gP×gU×gV×gW×gZ×g_×hU×h_×ia×ic×ik×im×iq×iu×iv×iA×iC×iH×iJ×iM×iP×iU×iW×iY×i_×k_×β):β:=x.2.2.2.2.2.2.2.2.2.2.2.2.2.2.2.2.2.2.2.2.2.2.2.2.2.2.2.2.2.2.2.2
def Xw{f_ gg gp gw gA gH gP gU gV gW gZ g_ hU h_ ia ic ik im iq iu iv iA iC iH iJ iM iP iU iW iY i_ k_ lf β:Type}(x:f_×gg×gp×gw×gA×gH×gP×gU×gV×gW×gZ×g_×hU×h_×ia×ic×ik×im×iq×iu×iv×iA×iC×iH×iJ×iM×iP×iU×iW×iY×i_×k_×lf×β):β:=x.2.2.2.2.2.2.2.2.2.2.2.2.2.2.2.2.2.2.2.2.2.2.2.2.2.2.2.2.2.2.2.2.2
def Xx{f_ gg gp gw gA gH gP gU gV gW gZ g_ hU h_ ia ic ik im iq iu iv iA iC iH iJ iM iP iU iW iY i_ k_ lf lh β:Type}(x:f_×gg×gp×gw×gA×gH×gP×gU×gV×gW×gZ×g_×hU×h_×ia×ic×ik×im×iq×iu×iv×iA×iC×iH×iJ×iM×iP×iU×iW×iY×i_×k_×lf×lh×β):β:=x.2.2.2.2.2.2.2.2.2.2.2.2.2.2.2.2.2.2.2.2.2.2.2.2.2.2.2.2.2.2.2.2.2.2
def Xy{f_ gg gp gw gA gH gP gU gV gW gZ g_ hU h_ ia ic ik im iq iu iv iA iC iH iJ iM iP iU iW iY i_ k_ lf lh lk β:Type}(x:f_×gg×gp×gw×gA×gH×gP×gU×gV×gW×gZ×g_×hU×h_×ia×ic×ik×im×iq×iu×iv×iA×iC×iH×iJ×iM×iP×iU×iW×iY×i_×k_×lf×lh×lk×β):β:=x.2.2.2.2.2.2.2.2.2.2.2.2.2.2.2.2.2.2.2.2.2.2.2.2.2.2.2.2.2.2.2.2.2.2.2
def Xz{f_ gg gp gw gA gH gP gU gV gW gZ g_ hU h_ ia ic ik im iq iu iv iA iC iH iJ iM iP iU iW iY i_ k_ lf lh lk lq β:Type}(x:f_×gg×gp×gw×gA×gH×gP×gU×gV×gW×gZ×g_×hU×h_×ia×ic×ik×im×iq×iu×iv×iA×iC×iH×iJ×iM×iP×iU×iW×iY×i_×k_×lf×lh×lk×lq×β):β:=x.2.2.2.2.2.2.2.2.2.2.2.2.2.2.2.2.2.2.2.2.2.2.2.2.2.2.2.2.2.2.2.2.2.2.2.2
def XA{f_ gg gp gw gA gH gP gU gV gW gZ g_ hU h_ ia ic ik im iq iu iv iA iC iH iJ iM iP iU iW iY i_ k_ lf lh lk lq lx β:Type}(x:f_×gg×gp×gw×gA×gH×gP×gU×gV×gW×gZ×g_×hU×h_×ia×ic×ik×im×iq×iu×iv×iA×iC×iH×iJ×iM×iP×iU×iW×iY×i_×k_×lf×lh×lk×lq×lx×β):β:=x.2.2.2.2.2.2.2.2.2.2.2.2.2.2.2.2.2.2.2.2.2.2.2.2.2.2.2.2.2.2.2.2.2.2.2.2.2
def XB{f_ gg gp gw gA gH gP gU gV gW gZ g_ hU h_ ia ic ik im iq iu iv iA iC iH iJ iM iP iU iW iY i_ k_ lf lh lk lq lx lB β:Type}(x:f_×gg×gp×gw×gA×gH×gP×gU×gV×gW×gZ×g_×hU×h_×ia×ic×ik×im×iq×iu×iv×iA×iC×iH×iJ×iM×iP×iU×iW×iY×i_×k_×lf×lh×lk×lq×lx×lB×β):β:=x.2.2.2.2.2.2.2.2.2.2.2.2.2.2.2.2.2.2.2.2.2.2.2.2.2.2.2.2.2.2.2.2.2.2.2.2.2.2
def XC{f_ gg gp gw gA gH gP gU gV gW gZ g_ hU h_ ia ic ik im iq iu iv iA iC iH iJ iM iP iU iW iY i_ k_ lf lh lk lq lx lB lH β:Type}(x:f_×gg×gp×gw×gA×gH×gP×gU×gV×gW×gZ×g_×hU×h_×ia×ic×ik×im×iq×iu×iv×iA×iC×iH×iJ×iM×iP×iU×iW×iY×i_×k_×lf×lh×lk×lq×lx×lB×lH×β):β:=x.2.2.2.2.2.2.2.2.2.2.2.2.2.2.2.2.2.2.2.2.2.2.2.2.2.2.2.2.2.2.2.2.2.2.2.2.2.2.2
def XD{f_ gg gp gw gA gH gP gU gV gW gZ g_ hU h_ ia ic ik im iq iu iv iA iC iH iJ iM iP iU iW iY i_ k_ lf lh lk lq lx lB lH lJ β:Type}(x:f_×gg×gp×gw×gA×gH×gP×gU×gV×gW×gZ×g_×hU×h_×ia×ic×ik×im×iq×iu×iv×iA×iC×iH×iJ×iM×iP×iU×iW×iY×i_×k_×lf×lh×lk×lq×lx×lB×lH×lJ×β):β:=x.2.2.2.2.2.2.2.2.2.2.2.2.2.2.2.2.2.2.2.2.2.2.2.2.2.2.2.2.2.2.2.2.2.2.2.2.2.2.2.2
def XE{f_ gg gp gw gA gH gP gU gV gW gZ g_ hU h_ ia ic ik im iq iu iv iA iC iH iJ iM iP iU iW iY i_ k_ lf lh lk lq lx lB lH lJ lO β:Type}(x:f_×gg×gp×gw×gA×gH×gP×gU×gV×gW×gZ×g_×hU×h_×ia×ic×ik×im×iq×iu×iv×iA×iC×iH×iJ×iM×iP×iU×iW×iY×i_×k_×lf×lh×lk×lq×lx×lB×lH×lJ×lO×β):β:=x.2.2.2.2.2.2.2.2.2.2.2.2.2.2.2.2.2.2.2.2.2.2.2.2.2.2.2.2.2.2.2.2.2.2.2.2.2.2.2.2.2
def XF{f_ gg gp gw gA gH gP gU gV gW gZ g_ hU h_ ia ic ik im iq iu iv iA iC iH iJ iM iP iU iW iY i_ k_ lf lh lk lq lx lB lH lJ lO lU β:Type}(x:f_×gg×gp×gw×gA×gH×gP×gU×gV×gW×gZ×g_×hU×h_×ia×ic×ik×im×iq×iu×iv×iA×iC×iH×iJ×iM×iP×iU×iW×iY×i_×k_×lf×lh×lk×lq×lx×lB×lH×lJ×lO×lU×β):β:=x.2.2.2.2.2.2.2.2.2.2.2.2.2.2.2.2.2.2.2.2.2.2.2.2.2.2.2.2.2.2.2.2.2.2.2.2.2.2.2.2.2.2
def XG{f_ gg gp gw gA gH gP gU gV gW gZ g_ hU h_ ia ic ik im iq iu iv iA iC iH iJ iM iP iU iW iY i_ k_ lf lh lk lq lx lB lH lJ lO lU lY β:Type}(x:f_×gg×gp×gw×gA×gH×gP×gU×gV×gW×gZ×g_×hU×h_×ia×ic×ik×im×iq×iu×iv×iA×iC×iH×iJ×iM×iP×iU×iW×iY×i_×k_×lf×lh×lk×lq×lx×lB×lH×lJ×lO×lU×lY×β):β:=x.2.2.2.2.2.2.2.2.2.2.2.2.2.2.2.2.2.2.2.2.2.2.2.2.2.2.2.2.2.2.2.2.2.2.2.2.2.2.2.2.2.2.2
def XH{f_ gg gp gw gA gH gP gU gV gW gZ g_ hU h_ ia ic ik im iq iu iv iA iC iH iJ iM iP iU iW iY i_ k_ lf lh lk lq lx lB lH lJ lO lU lY l6 β:Type}(x:f_×gg×gp×gw×gA×gH×gP×gU×gV×gW×gZ×g_×hU×h_×ia×ic×ik×im×iq×iu×iv×iA×iC×iH×iJ×iM×iP×iU×iW×iY×i_×k_×lf×lh×lk×lq×lx×lB×lH×lJ×lO×lU×lY×l6×β):β:=x.2.2.2.2.2.2.2.2.2.2.2.2.2.2.2.2.2.2.2.2.2.2.2.2.2.2.2.2.2.2.2.2.2.2.2.2.2.2.2.2.2.2.2.2
def XI{f_ gg gp gw gA gH gP gU gV gW gZ g_ hU h_ ia ic ik im iq iu iv iA iC iH iJ iM iP iU iW iY i_ k_ lf lh lk lq lx lB lH lJ lO lU lY l6 mj β:Type}(x:f_×gg×gp×gw×gA×gH×gP×gU×gV×gW×gZ×g_×hU×h_×ia×ic×ik×im×iq×iu×iv×iA×iC×iH×iJ×iM×iP×iU×iW×iY×i_×k_×lf×lh×lk×lq×lx×lB×lH×lJ×lO×lU×lY×l6×mj×β):β:=x.2.2.2.2.2.2.2.2.2.2.2.2.2.2.2.2.2.2.2.2.2.2.2.2.2.2.2.2.2.2.2.2.2.2.2.2.2.2.2.2.2.2.2.2.2
def XJ{f_ gg gp gw gA gH gP gU gV gW gZ g_ hU h_ ia ic ik im iq iu iv iA iC iH iJ iM iP iU iW iY i_ k_ lf lh lk lq lx lB lH lJ lO lU lY l6 mj mx β:Type}(x:f_×gg×gp×gw×gA×gH×gP×gU×gV×gW×gZ×g_×hU×h_×ia×ic×ik×im×iq×iu×iv×iA×iC×iH×iJ×iM×iP×iU×iW×iY×i_×k_×lf×lh×lk×lq×lx×lB×lH×lJ×lO×lU×lY×l6×mj×mx×β):β:=x.2.2.2.2.2.2.2.2.2.2.2.2.2.2.2.2.2.2.2.2.2.2.2.2.2.2.2.2.2.2.2.2.2.2.2.2.2.2.2.2.2.2.2.2.2.2
def XK{f_ gg gp gw gA gH gP gU gV gW gZ g_ hU h_ ia ic ik im iq iu iv iA iC iH iJ iM iP iU iW iY i_ k_ lf lh lk lq lx lB lH lJ lO lU lY l6 mj mx mL β:Type}(x:f_×gg×gp×gw×gA×gH×gP×gU×gV×gW×gZ×g_×hU×h_×ia×ic×ik×im×iq×iu×iv×iA×iC×iH×iJ×iM×iP×iU×iW×iY×i_×k_×lf×lh×lk×lq×lx×lB×lH×lJ×lO×lU×lY×l6×mj×mx×mL×β):β:=x.2.2.2.2.2.2.2.2.2.2.2.2.2.2.2.2.2.2.2.2.2.2.2.2.2.2.2.2.2.2.2.2.2.2.2.2.2.2.2.2.2.2.2.2.2.2.2
def XL{f_ gg gp gw gA gH gP gU gV gW gZ g_ hU h_ ia ic ik im iq iu iv iA iC iH iJ iM iP iU iW iY i_ k_ lf lh lk lq lx lB lH lJ lO lU lY l6 mj mx mL mS β:Type}(x:f_×gg×gp×gw×gA×gH×gP×gU×gV×gW×gZ×g_×hU×h_×ia×ic×ik×im×iq×iu×iv×iA×iC×iH×iJ×iM×iP×iU×iW×iY×i_×k_×lf×lh×lk×lq×lx×lB×lH×lJ×lO×lU×lY×l6×mj×mx×mL×mS×β):β:=x.2.2.2.2.2.2.2.2.2.2.2.2.2.2.2.2.2.2.2.2.2.2.2.2.2.2.2.2.2.2.2.2.2.2.2.2.2.2.2.2.2.2.2.2.2.2.2.2
def XM{f_ gg gp gw gA gH gP gU gV gW gZ g_ hU h_ ia ic ik im iq iu iv iA iC iH iJ iM iP iU iW iY i_ k_ lf lh lk lq lx lB lH lJ lO lU lY l6 mj mx mL mS nd β:Type}(x:f_×gg×gp×gw×gA×gH×gP×gU×gV×gW×gZ×g_×hU×h_×ia×ic×ik×im×iq×iu×iv×iA×iC×iH×iJ×iM×iP×iU×iW×iY×i_×k_×lf×lh×lk×lq×lx×lB×lH×lJ×lO×lU×lY×l6×mj×mx×mL×mS×nd×β):β:=x.2.2.2.2.2.2.2.2.2.2.2.2.2.2.2.2.2.2.2.2.2.2.2.2.2.2.2.2.2.2.2.2.2.2.2.2.2.2.2.2.2.2.2.2.2.2.2.2.2
def XN{f_ gg gp gw gA gH gP gU gV gW gZ g_ hU h_ ia ic ik im iq iu iv iA iC iH iJ iM iP iU iW iY i_ k_ lf lh lk lq lx lB lH lJ lO lU lY l6 mj mx mL mS nd nt β:Type}(x:f_×gg×gp×gw×gA×gH×gP×gU×gV×gW×gZ×g_×hU×h_×ia×ic×ik×im×iq×iu×iv×iA×iC×iH×iJ×iM×iP×iU×iW×iY×i_×k_×lf×lh×lk×lq×lx×lB×lH×lJ×lO×lU×lY×l6×mj×mx×mL×mS×nd×nt×β):β:=x.2.2.2.2.2.2.2.2.2.2.2.2.2.2.2.2.2.2.2.2.2.2.2.2.2.2.2.2.2.2.2.2.2.2.2.2.2.2.2.2.2.2.2.2.2.2.2.2.2.2
def XO{f_ gg gp gw gA gH gP gU gV gW gZ g_ hU h_ ia ic ik im iq iu iv iA iC iH iJ iM iP iU iW iY i_ k_ lf lh lk lq lx lB lH lJ lO lU lY l6 mj mx mL mS nd nt nS β:Type}(x:f_×gg×gp×gw×gA×gH×gP×gU×gV×gW×gZ×g_×hU×h_×ia×ic×ik×im×iq×iu×iv×iA×iC×iH×iJ×iM×iP×iU×iW×iY×i_×k_×lf×lh×lk×lq×lx×lB×lH×lJ×lO×lU×lY×l6×mj×mx×mL×mS×nd×nt×nS×β):β:=x.2.2.2.2.2.2.2.2.2.2.2.2.2.2.2.2.2.2.2.2.2.2.2.2.2.2.2.2.2.2.2.2.2.2.2.2.2.2.2.2.2.2.2.2.2.2.2.2.2.2.2
def XP{f_ gg gp gw gA gH gP gU gV gW gZ g_ hU h_ ia ic ik im iq iu iv iA iC iH iJ iM iP iU iW iY i_ k_ lf lh lk lq lx lB lH lJ lO lU lY l6 mj mx mL mS nd nt nS ph β:Type}(x:f_×gg×gp×gw×gA×gH×gP×gU×gV×gW×gZ×g_×hU×h_×ia×ic×ik×im×iq×iu×iv×iA×iC×iH×iJ×iM×iP×iU×iW×iY×i_×k_×lf×lh×lk×lq×lx×lB×lH×lJ×lO×lU×lY×l6×mj×mx×mL×mS×nd×nt×nS×ph×β):β:=x.2.2.2.2.2.2.2.2.2.2.2.2.2.2.2.2.2.2.2.2.2.2.2.2.2.2.2.2.2.2.2.2.2.2.2.2.2.2.2.2.2.2.2.2.2.2.2.2.2.2.2.2
def XQ{f_ gg gp gw gA gH gP gU gV gW gZ g_ hU h_ ia ic ik im iq iu iv iA iC iH iJ iM iP iU iW iY i_ k_ lf lh lk lq lx lB lH lJ lO lU lY l6 mj mx mL mS nd nt nS ph pS β:Type}(x:f_×gg×gp×gw×gA×gH×gP×gU×gV×gW×gZ×g_×hU×h_×ia×ic×ik×im×iq×iu×iv×iA×iC×iH×iJ×iM×iP×iU×iW×iY×i_×k_×lf×lh×lk×lq×lx×lB×lH×lJ×lO×lU×lY×l6×mj×mx×mL×mS×nd×nt×nS×ph×pS×β):β:=x.2.2.2.2.2.2.2.2.2.2.2.2.2.2.2.2.2.2.2.2.2.2.2.2.2.2.2.2.2.2.2.2.2.2.2.2.2.2.2.2.2.2.2.2.2.2.2.2.2.2.2.2.2
def XR{f_ gg gp gw gA gH gP gU gV gW gZ g_ hU h_ ia ic ik im iq iu iv iA iC iH iJ iM iP iU iW iY i_ k_ lf lh lk lq lx lB lH lJ lO lU lY l6 mj mx mL mS nd nt nS ph pS rS β:Type}(x:f_×gg×gp×gw×gA×gH×gP×gU×gV×gW×gZ×g_×hU×h_×ia×ic×ik×im×iq×iu×iv×iA×iC×iH×iJ×iM×iP×iU×iW×iY×i_×k_×lf×lh×lk×lq×lx×lB×lH×lJ×lO×lU×lY×l6×mj×mx×mL×mS×nd×nt×nS×ph×pS×rS×β):β:=x.2.2.2.2.2.2.2.2.2.2.2.2.2.2.2.2.2.2.2.2.2.2.2.2.2.2.2.2.2.2.2.2.2.2.2.2.2.2.2.2.2.2.2.2.2.2.2.2.2.2.2.2.2.2
def ace{f_ gg gp gw gA gH gP gU gV gW gZ g_ hU h_ ia ic ik im iq iu iv iA iC iH iJ iM iP iU iW iY i_ k_ lf lh lk lq lx lB lH lJ lO lU lY l6 mj mx mL mS nd nt nS ph pS rS s8 β:Type}(x:f_×gg×gp×gw×gA×gH×gP×gU×gV×gW×gZ×g_×hU×h_×ia×ic×ik×im×iq×iu×iv×iA×iC×iH×iJ×iM×iP×iU×iW×iY×i_×k_×lf×lh×lk×lq×lx×lB×lH×lJ×lO×lU×lY×l6×mj×mx×mL×mS×nd×nt×nS×ph×pS×rS×s8×β):β:=x.2.2.2.2.2.2.2.2.2.2.2.2.2.2.2.2.2.2.2.2.2.2.2.2.2.2.2.2.2.2.2.2.2.2.2.2.2.2.2.2.2.2.2.2.2.2.2.2.2.2.2.2.2.2.2
def acf{f_ gg gp gw gA gH gP gU gV gW gZ g_ hU h_ ia ic ik im iq iu iv iA iC iH iJ iM iP iU iW iY i_ k_ lf lh lk lq lx lB lH lJ lO lU lY l6 mj mx mL mS nd nt nS ph pS rS s8 Bt β:Type}(x:f_×gg×gp×gw×gA×gH×gP×gU×gV×gW×gZ×g_×hU×h_×ia×ic×ik×im×iq×iu×iv×iA×iC×iH×iJ×iM×iP×iU×iW×iY×i_×k_×lf×lh×lk×lq×lx×lB×lH×lJ×lO×lU×lY×l6×mj×mx×mL×mS×nd×nt×nS×ph×pS×rS×s8×Bt×β):β:=x.2.2.2.2.2.2.2.2.2.2.2.2.2.2.2.2.2.2.2.2.2.2.2.2.2.2.2.2.2.2.2.2.2.2.2.2.2.2.2.2.2.2.2.2.2.2.2.2.2.2.2.2.2.2.2.2
def acg{f_ gg gp gw gA gH gP gU gV gW gZ g_ hU h_ ia ic ik im iq iu iv iA iC iH iJ iM iP iU iW iY i_ k_ lf lh lk lq lx lB lH lJ lO lU lY l6 mj mx mL mS nd nt nS ph pS rS s8 Bt Eb β:Type}(x:f_×gg×gp×gw×gA×gH×gP×gU×gV×gW×gZ×g_×hU×h_×ia×ic×ik×im×iq×iu×iv×iA×iC×iH×iJ×iM×iP×iU×iW×iY×i_×k_×lf×lh×lk×lq×lx×lB×lH×lJ×lO×lU×lY×l6×mj×mx×mL×mS×nd×nt×nS×ph×pS×rS×s8×Bt×Eb×β):β:=x.2.2.2.2.2.2.2.2.2.2.2.2.2.2.2.2.2.2.2.2.2.2.2.2.2.2.2.2.2.2.2.2.2.2.2.2.2.2.2.2.2.2.2.2.2.2.2.2.2.2.2.2.2.2.2.2.2
def ach{f_ gg gp gw gA gH gP gU gV gW gZ g_ hU h_ ia ic ik im iq iu iv iA iC iH iJ iM iP iU iW iY i_ k_ lf lh lk lq lx lB lH lJ lO lU lY l6 mj mx mL mS nd nt nS ph pS rS s8 Bt Eb MW β:Type}(x:f_×gg×gp×gw×gA×gH×gP×gU×gV×gW×gZ×g_×hU×h_×ia×ic×ik×im×iq×iu×iv×iA×iC×iH×iJ×iM×iP×iU×iW×iY×i_×k_×lf×lh×lk×lq×lx×lB×lH×lJ×lO×lU×lY×l6×mj×mx×mL×mS×nd×nt×nS×ph×pS×rS×s8×Bt×Eb×MW×β):β:=x.2.2.2.2.2.2.2.2.2.2.2.2.2.2.2.2.2.2.2.2.2.2.2.2.2.2.2.2.2.2.2.2.2.2.2.2.2.2.2.2.2.2.2.2.2.2.2.2.2.2.2.2.2.2.2.2.2.2
def aci{f_ gg gp gw gA gH gP gU gV gW gZ g_ hU h_ ia ic ik im iq iu iv iA iC iH iJ iM iP iU iW iY i_ k_ lf lh lk lq lx lB lH lJ lO lU lY l6 mj mx mL mS nd nt nS ph pS rS s8 Bt Eb MW abH β:Type}(x:f_×gg×gp×gw×gA×gH×gP×gU×gV×gW×gZ×g_×hU×h_×ia×ic×ik×im×iq×iu×iv×iA×iC×iH×iJ×iM×iP×iU×iW×iY×i_×k_×lf×lh×lk×lq×lx×lB×lH×lJ×lO×lU×lY×l6×mj×mx×mL×mS×nd×nt×nS×ph×pS×rS×s8×Bt×Eb×MW×abH×β):β:=x.2.2.2.2.2.2.2.2.2.2.2.2.2.2.2.2.2.2.2.2.2.2.2.2.2.2.2.2.2.2.2.2.2.2.2.2.2.2.2.2.2.2.2.2.2.2.2.2.2.2.2.2.2.2.2.2.2.2.2
variable[Jg]
def q0{a b:Prop}(h:a=b)(x:a):b:=h▸x
def k1:List TC:=[fP,e_,fh,eH,eM,zW,gh,i6]
def h2:List (Nat×TO):=[(900000000,.rw 1),(900000001,.rw 2),(900000002,.rw 3),(900000003,.rw 4)]
def h3(v0 v1 v2 v3 v4:Nat):List (Nat×TO):=[(900000000,.rw 1),(900000001,.rw 2),(900000002,.rw 3),(900000003,.rw 4),(v0,.box 88 [dI v1,.d .s v2,dI v3,dI v4])]
def h4(v0 v1 v2 v3:Nat):List (Nat×TO):=[(v0,.row v1 (.st v2) v3 bf)]
def h5(v0 v1 v2 v3 v4 v5 v6 v7 v8 v9 v10 v11 v12 mH mI mJ mK nc nO nP v20 v21 v22 v23 v24 v25 v26 rE v28 rF v30:Nat):List (Nat×TO):=[(900000000,.rw 1),(900000001,.rw 2),(900000002,.rw 3),(900000003,.rw 4),(v0,.box 41 [dI v1,.d .s v2,.d .s v3,dI v4,.d .s v5,.d a_ v6,.d a_ v7,dI v8,dI v9,dI v10,.d .b v11,dI v12,dI mH,dI mI,.d .s mJ,.d .s mK,.d dR nc,dI nO,dI nP,dI v20,dI v21,dI v22,dI v23,dI v24,dI v25,dI v26,.d .s rE,.d .s v28,.d dR rF,.d gD v30])]
abbrev PB:List (Nat×TO):=(h5 1000002 4 5 5 4 5 6 6 4 4 4 7 4 4 4 5 5 8 4 4 4 4 4 4 4 4 4 5 5 8 9)
def k6:List TC:=[i6,i6,.s,.s,i6,.s,a_,a_,i6,i6,i6,.b,i6,i6,i6,.s,.s,dR,i6,i6,i6,i6,i6,i6,i6,i6,i6,.s,.s,dR,gD]
def k7:List TC:=[qB,i6,i6,i6,i6,.s,a_,.b,dR,gD]
def h8(v0 v1 v2 v3 v4 v5 v6 v7 v8 v9 v10 v11 v12 mH mI mJ mK nc nO nP v20 v21 v22 v23 v24 v25:Nat):List (Nat×TO):=[(900000000,.rw 1),(900000001,.rw 2),(900000002,.rw 3),(900000003,.rw 4),(1000002,.box 41 [dI v0,.d .s v1,.d .s v1,dI v2,.d .s v1,.d a_ v3,.d a_ v3,dI v4,dI v5,dI v6,.d .b v7,dI v8,dI v9,dI v10,.d .s v1,.d .s v1,.d dR v11,dI v12,dI mH,dI mI,dI mJ,dI mK,dI nc,dI nO,dI nP,dI v20,.d .s v1,.d .s v1,.d dR v11,.d gD v21]),(1000011,.box 41 [dI v22,.d .s 23,.d .s v23,dI v24,.d .s v1,.d a_ v3,.d a_ v3,dI v25,dI v25,dI v25,.d .b v7,dI v25,dI v25,dI v25,.d .s v1,.d .s v1,.d dR v11,dI v25,dI v25,dI v25,dI v25,dI v25,dI v25,dI v25,dI v25,dI v25,.d .s v1,.d .s v1,.d dR v11,.d gD v21])]
def k9:List TC:=[i6,i6,.s,i6,a_,i6,i6,i6,.b,i6,i6,i6,dR,i6,i6,i6,i6,i6,i6,i6,i6,i6,gD,.s,i6,i6]
def E0:List TC:=[i6,.s,i6,a_,i6,i6,i6,.b,i6,i6,i6,dR,i6,i6,i6,i6,i6,i6,i6,i6,i6,gD,i6,.s,.s,i6,i6]
def sg(v0 v1:Nat):List (Nat×TO):=[(900000000,.rw 1),(900000001,.rw 2),(900000002,.rw 3),(900000003,.rw 4),(v0,.row 83 qB v1 bf)]
def rz(v0 v1 v2 v3 v4 v5 v6 v7 v8:Nat):List (Nat×TO):=[(v0,.box 30 [.d fP v1,.d e_ v2,.d fh v3,.d eH v4,.d eM v5,.d zW v6,.d gh v7,dI v8])]
abbrev re:List (Nat×TO):=(rz 1000001 0 1 2 3 4 5 6 7)
def nX(v0:Nat):List (Nat×TO):=[(900000000,.rw 1),(900000001,.rw 2),(900000002,.rw 3),(900000003,.rw 4),(7000001,.row 9 .s v0 bf)]
def Of:List (Nat×TO):=[(900000000,.rw 1),(900000001,.rw 2),(900000002,.rw 3),(900000003,.rw 4),(1000002,.box 34 [dI 1,dI 2,.d .s 3,.d .s 4,.d dR 5])]
def I0:List TC:=[i6,i6,i6,.s,.s,dR]
def si(v0 v1 v2 v3 v4 v5:Nat):List (Nat×TO):=[(900000000,.rw 1),(900000001,.rw 2),(900000002,.rw 3),(900000003,.rw 4),(1000002,.box 34 [dI v0,dI v1,.d .s v2,.d .s v3,.d dR v4]),(1000005,.box 34 [dI v0,dI 7,.d .s 8,.d .s v5,.d dR v4])]
def G2(v0 v1 v2 v3 v4 v5 v6 v7 v8 v9 v10 v11 v12 mH mI mJ mK nc nO nP v20 v21 v22 v23 v24 v25 v26 rE v28 rF v30 v31 Bf Dm Dn Dp Dq v37 Dr Dt v40 Du:Nat):List (Nat×TO):=[(v0,.box 38 [.d .s v1,.d a_ v2,.d a_ v3,dI v4,dI v5,dI v6,.d .b v7,dI v8,dI v9,dI v10,.d .s v11,.d .s v12,.d dR mH,dI mI,dI mJ,dI mK,dI nc,dI nO,dI nP,dI v20]),(v21,.box 38 [.d .s v22,.d a_ v23,.d a_ v24,dI v25,dI v26,dI rE,.d .b v28,dI rF,dI v30,dI v31,.d .s Bf,.d .s Dm,.d dR Dn,dI Dp,dI Dq,dI v37,dI Dr,dI Dt,dI v40,dI Du])]
abbrev Nn:List (Nat×TO):=(G2 1000002 0 1 2 3 4 5 6 7 8 9 10 11 12 13 14 15 16 17 18 19 1000003 20 21 22 23 24 25 26 27 28 29 30 31 32 33 34 35 36 37 38 39)
def I1:List TC:=[.s,a_,a_,i6,i6,i6,.b,i6,i6,i6,.s,.s,dR,i6,i6,i6,i6,i6,i6,i6,.s,a_,a_,i6,i6,i6,.b,i6,i6,i6,.s,.s,dR,i6,i6,i6,i6,i6,i6,i6]
def O5:List TC:=[.s,a_,a_,i6,i6,i6,.b,i6,i6,i6,.s,.s,dR,i6,i6,i6,i6,i6,i6,i6]
def mA(v0 v1 v2 v3 v4 v5 v6 v7 v8:Nat):List (Nat×TO):=[(900000000,.rw 1),(900000001,.rw 2),(900000002,.rw 3),(900000003,.rw 4),(v0,.box 30 [.d fP v1,.d e_ v2,.d fh v3,.d eH v4,.d eM v5,.d zW v6,.d gh v7,dI v8])]
def Og(v0 v1 v2 v3 v4 v5 v6 v7:Nat):List (Nat×TO):=[(900000000,.rw 1),(900000001,.rw 2),(900000002,.rw 3),(900000003,.rw 4),(1000001,.box 30 [.d fP v0,.d e_ v1,.d fh v2,.d eH v3,.d eM v4,.d zW 0,.d gh v5,dI v6]),(1000170,.row 77 (.st 9) v7 bf)]
def G3(v0 v1 v2 v3 v4 v5 v6 v7 v8 v9 v10 v11 v12 mH mI mJ mK nc nO nP v20 v21 v22 v23 v24 v25 v26 rE v28 rF v30:Nat):List (Nat×TO):=[(v0,.box 41 [dI v1,.d .s v2,.d .s v3,dI v4,.d .s v5,.d a_ v6,.d a_ v7,dI v8,dI v9,dI v10,.d .b v11,dI v12,dI mH,dI mI,.d .s mJ,.d .s mK,.d dR nc,dI nO,dI nP,dI v20,dI v21,dI v22,dI v23,dI v24,dI v25,dI v26,.d .s rE,.d .s v28,.d dR rF,.d gD v30])]
abbrev Gi:List (Nat×TO):=(G3 1 0 1 2 3 4 5 6 7 8 9 10 11 12 13 14 15 16 17 18 19 20 21 22 23 24 25 26 27 28 29)
abbrev Jh:List (Nat×TO):=(G3 1 1 2 3 4 5 6 7 8 9 10 11 12 13 14 15 16 17 18 19 20 21 22 23 24 25 26 27 28 29 30)
def A_:List TC:=[i6,.s,.s,i6,.s,a_,a_,i6,i6,i6,.b,i6,i6,i6,.s,.s,dR,i6,i6,i6,i6,i6,i6,i6,i6,i6,.s,.s,dR,gD]
def Oh(v0 v1 v2 v3 v4 v5 v6 v7 v8 v9 v10 v11 v12 mH mI mJ mK nc nO nP v20 v21 v22 v23 v24 v25 v26 rE v28 rF v30 v31 Bf Dm Dn Dp Dq v37 Dr Dt v40 Du J' K_ K' La v46 Lb Lc v49 abr v51 abt v53 abu abv abw abx aby:Nat):List (Nat×TO):=[(1000002,.box 41 [dI 0,.d .s 1,.d .s v0,dI v1,.d .s v2,.d a_ v3,.d a_ v4,dI v5,dI v6,dI v7,.d .b v8,dI v9,dI v10,dI v11,.d .s v12,.d .s mH,.d dR mI,dI mJ,dI mK,dI nc,dI nO,dI nP,dI v20,dI v21,dI v22,dI v23,.d .s v24,.d .s v25,.d dR v26,.d gD rE]),(v28,.box 41 [dI rF,.d .s v30,.d .s v31,dI Bf,.d .s Dm,.d a_ Dn,.d a_ Dp,dI Dq,dI v37,dI Dr,.d .b Dt,dI v40,dI Du,dI J',.d .s K_,.d .s K',.d dR La,dI v46,dI Lb,dI Lc,dI v49,dI abr,dI v51,dI abt,dI v53,dI abu,.d .s abv,.d .s abw,.d dR abx,.d gD aby])]
abbrev Fp:List (Nat×TO):=(Oh 2 3 4 5 6 7 8 9 10 11 12 13 14 15 16 17 18 19 20 21 22 23 24 25 26 27 28 29 1000003 30 31 32 33 34 35 36 37 38 39 40 41 42 43 44 45 46 47 48 49 50 51 52 53 54 55 56 57 58 59)
def G4(v0 v1 v2 v3 v4 v5 v6 v7 v8 v9 v10 v11 v12 mH mI mJ mK:Nat):List (Nat×TO):=[(1000002,.box 30 [.d fP v0,.d e_ v1,.d fh v2,.d eH v3,.d eM v4,.d zW v5,.d gh v6,dI v7]),(v8,.box 30 [.d fP v9,.d e_ v10,.d fh v11,.d eH v12,.d eM mH,.d zW mI,.d gh mJ,dI mK])]
abbrev Cp:List (Nat×TO):=(G4 1 2 3 4 5 6 7 8 1000003 9 10 11 12 13 14 15 16)
abbrev pQ:List (Nat×TO):=(G4 0 1 2 3 4 5 6 7 1000003 8 9 10 11 12 13 14 15)
def sQ:List TC:=[fP,e_,fh,eH,eM,zW,gh,i6,fP,e_,fh,eH,eM,zW,gh,i6]
def I2:List TC:=[i6,.s,.s,i6,.s,a_,a_,i6,i6,i6,.b,i6,i6,i6,.s,.s,dR,i6,i6,i6,i6,i6,i6,i6,i6,i6,.s,.s,dR,gD,i6,.s,.s,i6,.s,a_,a_,i6,i6,i6,.b,i6,i6,i6,.s,.s,dR,i6,i6,i6,i6,i6,i6,i6,i6,i6,.s,.s,dR,gD]
def G5(v0:Nat):List (Nat×TO):=[(900000000,.rw 1),(900000001,.rw 2),(900000002,.rw 3),(900000003,.rw 4),(1000004,.gn 0 .s v0)]
def o0(v0 v1 v2 v3 v4 v5 v6 v7 v8 v9 v10 v11 v12 mH mI mJ mK nc nO nP v20 v21 v22 v23 v24 v25 v26 rE v28 rF v30 v31 Bf:Nat):List (Nat×TO):=[(1,.row v0 (.st v1) v2 bf),(2,.box 41 [dI v3,.d .s v4,.d .s v5,dI v6,.d .s v7,.d a_ v8,.d a_ v9,dI v10,dI v11,dI v12,.d .b mH,dI mI,dI mJ,dI mK,.d .s nc,.d .s nO,.d dR nP,dI v20,dI v21,dI v22,dI v23,dI v24,dI v25,dI v26,dI rE,dI v28,.d .s rF,.d .s v30,.d dR v31,.d gD Bf])]
abbrev PC:List (Nat×TO):=(o0 38 7 0 2 3 4 5 6 7 8 9 10 11 12 13 14 15 16 17 18 19 20 21 22 23 24 25 26 27 28 29 30 31)
abbrev PD:List (Nat×TO):=(o0 38 7 32 2 3 4 5 6 7 8 9 10 11 12 13 14 15 16 17 18 19 20 21 22 23 24 25 26 27 28 29 30 31)
abbrev Fq:List (Nat×TO):=(o0 67 1 0 1 2 3 4 5 6 7 8 9 10 11 12 13 14 15 16 17 18 19 20 21 22 23 24 25 26 27 28 29 30)
abbrev Fs:List (Nat×TO):=(o0 70 3 0 1 2 3 4 5 6 7 8 9 10 11 12 13 14 15 16 17 18 19 20 21 22 23 24 25 26 27 28 29 30)
abbrev Ft:List (Nat×TO):=(o0 72 5 0 1 2 3 4 5 6 7 8 9 10 11 12 13 14 15 16 17 18 19 20 21 22 23 24 25 26 27 28 29 30)
abbrev FF:List (Nat×TO):=(o0 75 8 0 1 2 3 4 5 6 7 8 9 10 11 12 13 14 15 16 17 18 19 20 21 22 23 24 25 26 27 28 29 30)
abbrev FG:List (Nat×TO):=(o0 134 2 0 1 2 3 4 5 6 7 8 9 10 11 12 13 14 15 16 17 18 19 20 21 22 23 24 25 26 27 28 29 30)
def O6:List TC:=[eH,i6,i6,.s,.s,i6,.s,a_,a_,i6,i6,i6,.b,i6,i6,i6,.s,.s,dR,i6,i6,i6,i6,i6,i6,i6,i6,i6,.s,.s,dR,gD]
def aaP:List TC:=[eH,i6,.s,.s,i6,.s,a_,a_,i6,i6,i6,.b,i6,i6,i6,.s,.s,dR,i6,i6,i6,i6,i6,i6,i6,i6,i6,.s,.s,dR,gD,i6]
def CZ(v0 v1:Nat):List (Nat×TO):=[(1,.box 41 [dI 0,.d .s 1,.d .s 2,dI 3,.d .s 4,.d a_ 5,.d a_ 6,dI 7,dI 8,dI 9,.d .b 10,dI 11,dI 12,dI 13,.d .s 14,.d .s 15,.d dR 16,dI 17,dI 18,dI 19,dI 20,dI 21,dI 22,dI 23,dI 24,dI 25,.d .s 26,.d .s 27,.d dR 28,.d gD 29]),(103001300,.row v0 (.st v1) 31 bf)]
def EE:List (Nat×TO):=[(1,.row 38 (.st 7) 0 bf),(2,.box 9 [.d .s 1])]
def EF:List (Nat×TO):=[(1,.box 9 [.d .s 1]),(2,.box 41 [dI 2,.d .s 3,.d .s 4,dI 5,.d .s 6,.d a_ 7,.d a_ 8,dI 9,dI 10,dI 11,.d .b 12,dI 13,dI 14,dI 15,.d .s 16,.d .s 17,.d dR 18,dI 19,dI 20,dI 21,dI 22,dI 23,dI 24,dI 25,dI 26,dI 27,.d .s 28,.d .s 29,.d dR 30,.d gD 31])]
def aaQ:List TC:=[eH,.s,i6,.s,.s,i6,.s,a_,a_,i6,i6,i6,.b,i6,i6,i6,.s,.s,dR,i6,i6,i6,i6,i6,i6,i6,i6,i6,.s,.s,dR,gD,i6]
def aaR:List TC:=[.s,i6,.s,.s,i6,.s,a_,a_,i6,i6,i6,.b,i6,i6,i6,.s,.s,dR,i6,i6,i6,i6,i6,i6,i6,i6,i6,.s,.s,dR,gD]
def aaS:List TC:=[eH,.s,i6,.s,.s,i6,.s,a_,a_,i6,i6,i6,.b,i6,i6,i6,.s,.s,dR,i6,i6,i6,i6,i6,i6,i6,i6,i6,.s,.s,dR,gD]
def aaT:List TC:=[.st 1,i6,.s,.s,i6,.s,a_,a_,i6,i6,i6,.b,i6,i6,i6,.s,.s,dR,i6,i6,i6,i6,i6,i6,i6,i6,i6,.s,.s,dR,gD]
def aaU:List TC:=[fP,i6,.s,.s,i6,.s,a_,a_,i6,i6,i6,.b,i6,i6,i6,.s,.s,dR,i6,i6,i6,i6,i6,i6,i6,i6,i6,.s,.s,dR,gD]
def O7:List TC:=[fP,i6,.s,.s,i6,.s,a_,a_,i6,i6,i6,.b,i6,i6,i6,.s,.s,dR,i6,i6,i6,i6,i6,i6,i6,i6,i6,.s,.s,dR,gD,i6]
def aaV:List TC:=[fP,i6,i6,.s,.s,i6,.s,a_,a_,i6,i6,i6,.b,i6,i6,i6,.s,.s,dR,i6,i6,i6,i6,i6,i6,i6,i6,i6,.s,.s,dR,gD]
def aaW:List TC:=[.st 3,i6,.s,.s,i6,.s,a_,a_,i6,i6,i6,.b,i6,i6,i6,.s,.s,dR,i6,i6,i6,i6,i6,i6,i6,i6,i6,.s,.s,dR,gD]
def aaX:List TC:=[e_,i6,.s,.s,i6,.s,a_,a_,i6,i6,i6,.b,i6,i6,i6,.s,.s,dR,i6,i6,i6,i6,i6,i6,i6,i6,i6,.s,.s,dR,gD]
def aaY:List TC:=[e_,i6,.s,.s,i6,.s,a_,a_,i6,i6,i6,.b,i6,i6,i6,.s,.s,dR,i6,i6,i6,i6,i6,i6,i6,i6,i6,.s,.s,dR,gD,i6]
def aaZ:List TC:=[.st 2,i6,.s,.s,i6,.s,a_,a_,i6,i6,i6,.b,i6,i6,i6,.s,.s,dR,i6,i6,i6,i6,i6,i6,i6,i6,i6,.s,.s,dR,gD]
def aa0:List TC:=[iG,i6,.s,.s,i6,.s,a_,a_,i6,i6,i6,.b,i6,i6,i6,.s,.s,dR,i6,i6,i6,i6,i6,i6,i6,i6,i6,.s,.s,dR,gD]
def O8:List TC:=[iG,i6,.s,.s,i6,.s,a_,a_,i6,i6,i6,.b,i6,i6,i6,.s,.s,dR,i6,i6,i6,i6,i6,i6,i6,i6,i6,.s,.s,dR,gD,i6]
def aa1:List TC:=[iG,i6,i6,.s,.s,i6,.s,a_,a_,i6,i6,i6,.b,i6,i6,i6,.s,.s,dR,i6,i6,i6,i6,i6,i6,i6,i6,i6,.s,.s,dR,gD]
def Oi(v0 v1:Nat):List (Nat×TO):=[(1,.row 70 (.st 3) v0 bf),(2,.box 41 [dI 2,.d .s 3,.d .s 4,dI 5,.d .s 6,.d a_ 7,.d a_ 8,dI 9,dI 10,dI 11,.d .b 12,dI 13,dI 14,dI 15,.d .s 16,.d .s 17,.d dR 18,dI 19,dI 20,dI 21,dI 22,dI 23,dI 24,dI 25,dI 26,dI 27,.d .s 28,.d .s 29,.d dR 30,.d gD 31]),(3,.box 48 [dI v1])]
def aa2:List TC:=[e_,i6,i6,.s,.s,i6,.s,a_,a_,i6,i6,i6,.b,i6,i6,i6,.s,.s,dR,i6,i6,i6,i6,i6,i6,i6,i6,i6,.s,.s,dR,gD,i6]
def Oj(v0:Nat):List (Nat×TO):=[(1,.box 41 [dI 1,.d .s 2,.d .s 3,dI 4,.d .s 5,.d a_ 6,.d a_ 7,dI 8,dI 9,dI 10,.d .b 11,dI 12,dI 13,dI 14,.d .s 15,.d .s 16,.d dR 17,dI 18,dI 19,dI 20,dI 21,dI 22,dI 23,dI 24,dI 25,dI 26,.d .s 27,.d .s 28,.d dR 29,.d gD 30]),(2,.box 48 [dI v0])]
def aa3:List TC:=[e_,i6,.s,.s,i6,.s,a_,a_,i6,i6,i6,.b,i6,i6,i6,.s,.s,dR,i6,i6,i6,i6,i6,i6,i6,i6,i6,.s,.s,dR,gD,i6,i6]
def aa4:List TC:=[i6,.s,.s,i6,.s,a_,a_,i6,i6,i6,.b,i6,i6,i6,.s,.s,dR,i6,i6,i6,i6,i6,i6,i6,i6,i6,.s,.s,dR,gD,i6]
def O9:List TC:=[.st 5,i6,.s,.s,i6,.s,a_,a_,i6,i6,i6,.b,i6,i6,i6,.s,.s,dR,i6,i6,i6,i6,i6,i6,i6,i6,i6,.s,.s,dR,gD]
def O_:List TC:=[fh,i6,.s,.s,i6,.s,a_,a_,i6,i6,i6,.b,i6,i6,i6,.s,.s,dR,i6,i6,i6,i6,i6,i6,i6,i6,i6,.s,.s,dR,gD]
def aa5:List TC:=[i6,.s,.s,i6,.s,a_,a_,i6,i6,i6,.b,i6,i6,i6,.s,.s,dR,i6,i6,i6,i6,i6,i6,i6,i6,i6,.s,.s,dR,gD,fh,i6]
def O':List TC:=[fh,i6,.s,.s,i6,.s,a_,a_,i6,i6,i6,.b,i6,i6,i6,.s,.s,dR,i6,i6,i6,i6,i6,i6,i6,i6,i6,.s,.s,dR,gD,i6]
def aa6:List TC:=[fh,i6,i6,.s,.s,i6,.s,a_,a_,i6,i6,i6,.b,i6,i6,i6,.s,.s,dR,i6,i6,i6,i6,i6,i6,i6,i6,i6,.s,.s,dR,gD]
def aa7:List TC:=[.st 8,i6,.s,.s,i6,.s,a_,a_,i6,i6,i6,.b,i6,i6,i6,.s,.s,dR,i6,i6,i6,i6,i6,i6,i6,i6,i6,.s,.s,dR,gD]
def E2:List TC:=[eM,i6,.s,.s,i6,.s,a_,a_,i6,i6,i6,.b,i6,i6,i6,.s,.s,dR,i6,i6,i6,i6,i6,i6,i6,i6,i6,.s,.s,dR,gD]
def aa8:List TC:=[i6,.s,.s,i6,.s,a_,a_,i6,i6,i6,.b,i6,i6,i6,.s,.s,dR,i6,i6,i6,i6,i6,i6,i6,i6,i6,.s,.s,dR,gD,eM,i6]
def Pa:List TC:=[eM,i6,.s,.s,i6,.s,a_,a_,i6,i6,i6,.b,i6,i6,i6,.s,.s,dR,i6,i6,i6,i6,i6,i6,i6,i6,i6,.s,.s,dR,gD,i6]
def aa9:List TC:=[eM,i6,i6,.s,.s,i6,.s,a_,a_,i6,i6,i6,.b,i6,i6,i6,.s,.s,dR,i6,i6,i6,i6,i6,i6,i6,i6,i6,.s,.s,dR,gD]
def E3:List TC:=[i6,fP,e_,fh,eH,eM,zW,gh,i6]
def Ol:List (Nat×TO):=[(1000002,.box 30 [.d fP 0,.d e_ 1,.d fh 2,.d eH 3,.d eM 4,.d zW 5,.d gh 6,dI 7]),(1000003,.box 41 [dI 8,.d .s 9,.d .s 10,dI 11,.d .s 12,.d a_ 13,.d a_ 14,dI 15,dI 16,dI 17,.d .b 18,dI 19,dI 20,dI 21,.d .s 22,.d .s 23,.d dR 24,dI 25,dI 26,dI 27,dI 28,dI 29,dI 30,dI 31,dI 32,dI 33,.d .s 34,.d .s 35,.d dR 36,.d gD 37]),(1000004,.box 30 [.d fP 38,.d e_ 39,.d fh 40,.d eH 41,.d eM 42,.d zW 43,.d gh 44,dI 45])]
def I3:List TC:=[fP,e_,fh,eH,eM,zW,gh,i6,i6,.s,.s,i6,.s,a_,a_,i6,i6,i6,.b,i6,i6,i6,.s,.s,dR,i6,i6,i6,i6,i6,i6,i6,i6,i6,.s,.s,dR,gD,fP,e_,fh,eH,eM,zW,gh,i6]
def EH(v0 v1 v2 v3 v4 v5:Nat):List (Nat×TO):=[(v0,.box 34 [dI v1,dI v2,.d .s v3,.d .s v4,.d dR v5])]
def Om(v0:Nat):List (Nat×TO):=[(1000001,.box 34 [dI 2,dI 3,.d .s 4,.d .s 5,.d dR 0]),(1000002,.box 34 [dI 6,dI 6,.d .s 7,.d .s 7,.d dR 8]),(7001001,.row 34 (.st 0) v0 bf)]
def p7(v0 v1 v2 v3 v4 v5 v6 v7 v8 v9 v10 v11 v12 mH mI mJ mK nc:Nat):List (Nat×TO):=[(1000001,.box 30 [.row 6 103001200,.row 3 103001500,.row 3 103001800,.row 20 103002100,.row 4 103002800,.row 6 103003100,.d gh 1,dI 2]),(1000002,.box 30 [.row 6 1001000002000,.row 3 1001000002001,.row 3 1001000002002,.row 20 1001000002003,.row 4 1001000002004,.row 6 1001000002005,.d gh 3,dI 4]),(v0,.row v1 (.st v2) v3 bf),(v4,.row v5 (.st v6) v7 bf),(v8,.row v9 (.st v10) v11 bf),(v12,.row mH (.st mI) mJ bf),(103002800,.row 75 (.st 8) mK bf),(103003100,.row 79 (.st 10) nc bf),(1001000002000,.row 67 (.st 1) 10 bf),(1001000002001,.row 70 (.st 3) 11 bf),(1001000002002,.row 72 (.st 5) 12 bf),(1001000002003,.row 38 (.st 7) 13 bf),(1001000002004,.row 75 (.st 8) 14 bf),(1001000002005,.row 79 (.st 10) 15 bf)]
def uK(v0 v1 v2 v3 v4 v5:Nat):List (Nat×TO):=[(1,.box 67 [.d .s v0,dI v1,dI v2,.d .s v3,.d .s v4,.d dR v5])]
def u1(v0 v1 v2:Nat):List (Nat×TO):=[(1,.box 70 [.d .s v0,.d iG v1,dI v2])]
def u4(v0 v1:Nat):List (Nat×TO):=[(1,.box 134 [.d .s v0,dI v1])]
def u_(v0 v1 v2:Nat):List (Nat×TO):=[(1,.box 72 [.d .s v0,.d .b v1,.d gD v2])]
def G7(v0 v1 v2 v3 v4 v5 v6 v7 v8 v9 v10 v11 v12 mH mI mJ mK nc nO nP:Nat):List (Nat×TO):=[(1,.box 38 [.d .s v0,.d a_ v1,.d a_ v2,dI v3,dI v4,dI v5,.d .b v6,dI v7,dI v8,dI v9,.d .s v10,.d .s v11,.d dR v12,dI mH,dI mI,dI mJ,dI mK,dI nc,dI nO,dI nP])]
abbrev D8:List (Nat×TO):=(G7 1 2 3 4 5 6 7 8 9 10 11 12 13 14 15 16 17 18 19 20)
def Pb:List TC:=[eH,.s,a_,a_,i6,i6,i6,.b,i6,i6,i6,.s,.s,dR,i6,i6,i6,i6,i6,i6,i6]
def vE(v0 v1 v2 v3:Nat):List (Nat×TO):=[(1,.box 75 [.d .s v0,dI v1,dI v2,.d gD v3])]
def p8(v0 v1 v2 v3 v4 v5 v6 v7 v8 v9 v10 v11 v12 mH mI mJ mK nc:Nat):List (Nat×TO):=[(1000002,.box 30 [.d fP v0,.d e_ v1,.d fh v2,.d eH v3,.d eM v4,.d zW v5,.d gh v6,dI v7]),(1000003,.box 30 [.d fP v8,.d e_ v9,.d fh v10,.d eH v11,.d eM v12,.d zW mH,.d gh mI,dI mJ]),(mK,.row 41 (.st 13) nc bf)]
def aa':List TC:=[fP,i6,i6,fP,e_,fh,eH,eM,zW,gh,i6,e_,fh,eH,eM,zW,gh,i6,wy,i6,.s,.s,i6,a_,.b,dR,i6,i6,.s,.s,dR,gD]
def On(v0 v1 v2 v3 v4 v5 v6 v7 v8 v9 v10 v11 v12 mH mI mJ mK nc nO nP:Nat):List (Nat×TO):=[(1000002,.box 30 [.d fP v0,.d e_ v1,.d fh v2,.d eH v3,.d eM v4,.d zW v5,.d gh v6,dI v7]),(1000003,.box 30 [.d fP v8,.d e_ 0,.d fh v9,.d eH v10,.d eM v11,.d zW v12,.d gh mH,dI mI]),(7001001,.row 41 (.st 13) 26 bf),(1000012,.box 70 [.d .s mJ,.d iG 3,dI mK]),(1000013,.box 70 [.d .s nc,.d iG nO,dI nP])]
def aba:List TC:=[e_,i6,i6,iG,i6,fP,e_,fh,eH,eM,zW,gh,i6,fP,fh,eH,eM,zW,gh,i6,.s,i6,.s,iG,i6]
def abb:List TC:=[e_,i6,i6,iG,i6,i6,fP,e_,fh,eH,eM,zW,gh,i6,fP,fh,eH,eM,zW,gh,i6,.s,i6,.s,iG,i6]
def abc:List TC:=[e_,i6,i6,iG,i6,i6,fP,e_,fh,eH,eM,zW,gh,i6,fP,fh,eH,eM,zW,gh,i6,wy,.s,i6,.s,iG,i6,.s,i6]
def Oo(v0 v1 v2 v3 v4 v5 v6 v7:Nat):List (Nat×TO):=[(1000002,.box 30 [.d fP v0,.d e_ v1,.d fh v2,.d eH v3,.d eM v4,.d zW v5,.d gh v6,dI v7]),(7001001,.row 41 (.st 13) 11 bf)]
def G8(v0 v1 v2 v3 v4 v5 v6 v7 v8 v9 v10 v11 v12 mH mI mJ mK:Nat):List (Nat×TO):=[(900000000,.rw 1),(900000001,.rw 2),(900000002,.rw 3),(900000003,.rw 4),(1000002,.box 30 [.d fP v0,.d e_ v1,.d fh v2,.d eH v3,.d eM v4,.d zW v5,.d gh v6,dI v7]),(v8,.box 30 [.d fP v9,.d e_ v10,.d fh v11,.d eH v12,.d eM mH,.d zW mI,.d gh mJ,dI mK])]
def Oq:List (Nat×TO):=[(1000002,.box 34 [dI 0,dI 1,.d .s 2,.d .s 3,.d dR 4]),(1000003,.box 34 [dI 5,dI 6,.d .s 7,.d .s 8,.d dR 9])]
def Pc:List TC:=[i6,i6,.s,.s,dR,i6,i6,.s,.s,dR]
def abd:List TC:=[.b,.s,a_,a_,i6,i6,i6,.b,i6,i6,i6,.s,.s,dR,i6,i6,i6,i6,i6,i6,i6,.s,a_,a_,i6,i6,i6,.b,i6,i6,i6,.s,.s,dR,i6,i6,i6,i6,i6,i6,i6]
def Df:List TC:=[i6,fP,e_,fh,eH,eM,zW,gh,i6,fP,e_,fh,eH,eM,zW,gh,i6]
def tn(v0:Nat):List (Nat×TO):=[(1,.box 31 [.d a_ v0])]
def pG(v0 v1:Nat):List (Nat×TO):=[(v0,.row 3 i6 v1 bf)]
def EI(v0 v1 v2 v3:Nat):List (Nat×TO):=[(v0,.row 43 (.st 14) v1 bf),(v2,.row 3 i6 v3 bf)]
def G9(v0 v1 v2 v3:Nat):List (Nat×TO):=[(1000005,.box 113 [dI v0,dI v1]),(1000007,.box 113 [dI v2,dI v3])]
def I4:List TC:=[i6,i6,i6,i6,i6]
def Ot(v0 v1 v2 v3:Nat):List (Nat×TO):=[(1000005,.box 113 [dI 11,dI 12]),(1000007,.box 113 [dI 13,dI 14]),(1000009,.box 43 [dI v0,dI v1,dI v2,dI v3])]
def G_(v0 v1 v2 v3 v4 v5 v6 v7 v8:Nat):List (Nat×TO):=[(1000002,.box 30 [.d fP v0,.d e_ v1,.d fh v2,.d eH v3,.d eM v4,.d zW v5,.d gh v6,dI v7]),(v8,.row 9 .s 12 bf)]
def abe:List TC:=[a_,i6,.b,fP,e_,fh,eH,eM,zW,gh,i6,i6,.s,.s,i6,.s,a_,a_,i6,i6,i6,.b,i6,i6,i6,.s,.s,dR,i6,i6,i6,i6,i6,i6,i6,i6,i6,.s,.s,dR,gD,i6,i6,i6,i6]
def G'(v0 v1 v2 v3 v4 v5 v6 v7 v8 v9 v10 v11 v12 mH mI mJ mK nc nO nP v20 v21 v22 v23 v24 v25 v26 rE v28 rF v30 v31 Bf Dm Dn Dp Dq v37 Dr Dt v40 Du J' K_ K' La v46 Lb Lc v49:Nat):List (Nat×TO):=[(900000000,.rw 1),(900000001,.rw 2),(900000002,.rw 3),(900000003,.rw 4),(1000005,.box 30 [.d fP v0,.d e_ v1,.d fh v2,.d eH v3,.d eM v4,.d zW v5,.d gh v6,dI v7]),(1000006,.box 41 [dI v8,.d .s v9,.d .s v10,dI v11,.d .s v12,.d a_ mH,.d a_ mI,dI mJ,dI mK,dI nc,.d .b nO,dI nP,dI v20,dI v21,.d .s v22,.d .s v23,.d dR v24,dI v25,dI v26,dI rE,dI v28,dI rF,dI v30,dI v31,dI Bf,dI Dm,.d .s Dn,.d .s Dp,.d dR Dq,.d gD v37]),(1000009,.box 43 [dI Dr,dI Dt,dI v40,dI Du]),(1000012,.box 30 [.d fP J',.d e_ K_,.d fh K',.d eH La,.d eM v46,.d zW Lb,.d gh Lc,dI v49])]
abbrev PE:List (Nat×TO):=(G' 1 2 3 4 5 6 7 8 9 10 11 12 13 14 15 16 17 18 19 20 21 22 23 24 25 26 27 28 29 30 31 32 33 34 35 36 37 38 39 40 41 42 43 44 45 46 47 48 49 50)
abbrev PF:List (Nat×TO):=(G' 5 6 7 8 9 10 11 12 13 14 15 16 17 18 19 20 21 22 23 24 25 26 27 28 29 30 31 32 33 34 35 36 37 38 39 40 41 42 43 44 45 46 47 48 49 50 51 52 53 54)
abbrev PG:List (Nat×TO):=(G' 6 7 8 9 10 11 12 13 14 15 16 17 18 19 20 21 22 23 24 25 26 27 28 29 30 31 32 33 34 35 36 37 38 39 40 41 42 43 44 45 46 47 48 49 50 51 52 53 54 55)
def abf:List TC:=[a_,i6,.b,.l i6,.l i6,fP,e_,fh,eH,eM,zW,gh,i6,i6,.s,.s,i6,.s,a_,a_,i6,i6,i6,.b,i6,i6,i6,.s,.s,dR,i6,i6,i6,i6,i6,i6,i6,i6,i6,.s,.s,dR,gD,i6,i6,i6,i6,fP,e_,fh,eH,eM,zW,gh,i6]
def Pd:List TC:=[a_,i6,.b,.l i6,.l i6,i6,fP,e_,fh,eH,eM,zW,gh,i6,i6,.s,.s,i6,.s,a_,a_,i6,i6,i6,.b,i6,i6,i6,.s,.s,dR,i6,i6,i6,i6,i6,i6,i6,i6,i6,.s,.s,dR,gD,i6,i6,i6,i6,fP,e_,fh,eH,eM,zW,gh,i6]
def Xq:List TC:=[.b,fP,e_,fh,eH,eM,zW,gh,i6,i6,.s,.s,i6,.s,a_,a_,i6,i6,i6,.b,i6,i6,i6,.s,.s,dR,i6,i6,i6,i6,i6,i6,i6,i6,i6,.s,.s,dR,gD,i6,i6,i6,i6,fP,e_,fh,eH,eM,zW,gh,i6]
def DE:Nat->Type
 |0=>Expr
 |1=>Def
 |2=>av
 |3=>ar
 |4=>zt
 |5=>zq
 |6=>zg
 |7=>za
 |8=>eC
 |9=>zh
 |10=>au
 |11=>aq
 |12=>yf
 |13=>zA
 |14=>yl
 |15=>zk
 |16=>zj
 |17=>zo
 |_=>Unit
def N4:lW where
 T:=DE
 M9:=λn=>match n with
  |0=>(default:Expr)
  |1=>(default:Def)
  |2=>(default:av)
  |3=>(default:ar)
  |4=>(default:zt)
  |5=>(default:zq)
  |6=>(default:zg)
  |7=>(default:za)
  |8=>(default:eC)
  |9=>(default:zh)
  |10=>(default:au)
  |11=>(default:aq)
  |12=>(default:yf)
  |13=>(default:zA)
  |14=>(default:yl)
  |15=>(default:zk)
  |16=>(default:zj)
  |17=>(default:zo)
  |_+18=>()
 fl:=λn=>match n with
  |0=>[i6,i6,.s,.s,dR]
  |1=>[.s,.st 0]
  |2=>[.s,i6]
  |3=>[.s,iG,i6]
  |4=>[i6,i6]
  |5=>[.s,.b,gD]
  |6=>[i6,i6,i6,i6]
  |7=>[.s,a_,a_,i6,i6,i6,.b,i6,.st 0,.st 6,i6,i6,i6]
  |8=>[.s,i6,i6,gD]
  |9=>[i6,i6,i6]
  |10=>[.s,.st 9,i6,gh]
  |11=>[i6,.s,i6,i6]
  |12=>k1
  |13=>[i6,.s,.s,i6,.st 7,.st 0,gD]
  |14=>[i6,i6,i6,i6]
  |15=>[.st 4,.st 4]
  |16=>[i6,i6]
  |17=>[i6,i6,Ya]
  |_+18=>[]
 cn:=λn=>match n with
  |0=>5
  |1=>6
  |2=>2
  |3=>3
  |4=>2
  |5=>3
  |6=>4
  |7=>20
  |8=>4
  |9=>3
  |10=>6
  |11=>4
  |12=>8
  |13=>30
  |14=>4
  |15=>4
  |16=>2
  |17=>3
  |_+18=>0
 out:=λn=>match n with
  |0=>λx=>((x:Expr).Op,(x:Expr).N,(x:Expr).S,(x:Expr).Key,(x:Expr).fu)
  |1=>λx=>((x:Def).aK,(x:Def).Body)
  |2=>λx=>((x:av).aK,(x:av).N)
  |3=>λx=>((x:ar).aK,(x:ar).Rows,(x:ar).mD)
  |4=>λx=>((x:zt).X,(x:zt).Y)
  |5=>λx=>((x:zq).aK,(x:zq).lQ,(x:zq).ay)
  |6=>λx=>((x:zg).me,(x:zg).mb,(x:zg).l8,(x:zg).Den)
  |7=>λx=>((x:za).aK,(x:za).aA,(x:za).Except,(x:za).il,(x:za).hJ,(x:za).iI,(x:za).iN,(x:za).aL,(x:za).Test,(x:za).zg,(x:za).Uses,(x:za).iD,(x:za).N)
  |8=>λx=>((x:eC).aK,(x:eC).oS,(x:eC).mM,(x:eC).ay)
  |9=>λx=>((x:zh).X,(x:zh).Y,(x:zh).Z_)
  |10=>λx=>((x:au).aK,(x:au).l3,(x:au).oU,(x:au).lL)
  |11=>λx=>((x:aq).aL,(x:aq).Text,(x:aq).N,(x:aq).Pos)
  |12=>λx=>((x:yf).aE,(x:yf).Tables,(x:yf).aA,(x:yf).aB,(x:yf).aI,(x:yf).aF,(x:yf).aJ,(x:yf).aG)
  |13=>λx=>((x:zA).aL,(x:zA).aK,(x:zA).Key,(x:zA).N,(x:zA).za,(x:zA).Body,(x:zA).ay)
  |14=>λx=>((x:yl).X0,(x:yl).Y0,(x:yl).X1,(x:yl).Y1)
  |15=>λx=>((x:zk).a,(x:zk).b)
  |16=>λx=>((x:zj).from_,(x:zj).q_)
  |17=>λx=>((x:zo).x0,(x:zo).x1,(x:zo).column)
  |_+18=>λ_=>()
 inj:=λn=>match n with
  |0=>λx=>(⟨x.1,x.2.1,x.2.2.1,x.2.2.2.1,x.2.2.2.2⟩:Expr)
  |1=>λx=>(⟨x.1,x.2⟩:Def)
  |2=>λx=>(⟨x.1,x.2⟩:av)
  |3=>λx=>(⟨x.1,x.2.1,x.2.2⟩:ar)
  |4=>λx=>(⟨x.1,x.2⟩:zt)
  |5=>λx=>(⟨x.1,x.2.1,x.2.2⟩:zq)
  |6=>λx=>(⟨x.1,x.2.1,x.2.2.1,x.2.2.2⟩:zg)
  |7=>λx=>(⟨x.1,x.2.1,x.2.2.1,x.2.2.2.1,x.2.2.2.2.1,(nj x).1,(nk x).1,(nN x).1,(pe x).1,(pz x).1,(pR x).1,(pO x).1,(pP x)⟩:za)
  |8=>λx=>(⟨x.1,x.2.1,x.2.2.1,x.2.2.2⟩:eC)
  |9=>λx=>(⟨x.1,x.2.1,x.2.2⟩:zh)
  |10=>λx=>(⟨x.1,x.2.1,x.2.2.1,x.2.2.2⟩:au)
  |11=>λx=>(⟨x.1,x.2.1,x.2.2.1,x.2.2.2⟩:aq)
  |12=>λx=>(⟨x.1,x.2.1,x.2.2.1,x.2.2.2.1,x.2.2.2.2.1,(nj x).1,(nk x).1,(nN x)⟩:yf)
  |13=>λx=>(⟨x.1,x.2.1,x.2.2.1,x.2.2.2.1,x.2.2.2.2.1,(nj x).1,(nk x)⟩:zA)
  |14=>λx=>(⟨x.1,x.2.1,x.2.2.1,x.2.2.2⟩:yl)
  |15=>λx=>(⟨x.1,x.2⟩:zk)
  |16=>λx=>(⟨x.1,x.2⟩:zj)
  |17=>λx=>(⟨x.1,x.2.1,x.2.2⟩:zo)
  |_+18=>λ_=>()
 enc:=λn=>match n with
  |0=>qx
  |1=>VT
  |2=>Aa
  |3=>Ab
  |4=>kY
  |5=>JD
  |6=>VU
  |7=>JE
  |8=>VV
  |9=>kz
  |10=>JF
  |11=>Rz
  |12=>A6
  |13=>A7
  |14=>A8
  |15=>ox
  |16=>kZ
  |17=>oy
  |_+18=>λ_=>[]
 ro:=λn=>match n with
  |1=>EA Jg.Ba
  |2=>EC Jg.Bb
  |3=>B3 Jg.Bc Jg.m2
  |4=>CY Jg.tB
  |_=>.gen gone
def G0(i:Nat):(c:TC)->c.ty DE->EV.Obj
 |.s,x=>sb (bif bk i 0 then 98 else 209) x
 |.l (.m kc ec),x=>.gen (Pt (List.map (rH (qM N4 kc) (qM N4 ec)) x))
 |_,_=>.gen gone
def GZ:Nat->Option (Nat×Nat×List aj)
 |1=>aY (0,264,YR)
 |_=>bh
def GY:Nat->Option (Nat×Dy DE×List V)
 |98=>aY (0,⟨.s,([]:aj)⟩,[.lF,.iO])
 |209=>aY (1,⟨.s,([]:aj)⟩,[.lF,.iO])
 |_=>bh
def zB9(t i:Nat)(d:Dy DE)(cs:List V)(h:GY t=aY (i,d,cs))(m:M)(Z:ZM)(w:World)(k:Nat)(hh:EV.Holds m Z w k (.box t cs)):EV.Holds m Z w k (G0 i d.1 d.2)/\∀b,gT m (k,G0 i d.1 d.2) b->gT m (k,.box t cs) b:=by
 unfold GY at h;split at h
 .cases h;exact UK hh
 .cases h;exact UK hh
 .cases h
def TS:lW where
 T:=DE
 M9:=λn=>match n with
  |0=>(default:Expr)
  |1=>(default:Def)
  |2=>(default:av)
  |3=>(default:ar)
  |4=>(default:zt)
  |5=>(default:zq)
  |6=>(default:zg)
  |7=>(default:za)
  |8=>(default:eC)
  |9=>(default:zh)
  |10=>(default:au)
  |11=>(default:aq)
  |12=>(default:yf)
  |13=>(default:zA)
  |14=>(default:yl)
  |15=>(default:zk)
  |16=>(default:zj)
  |17=>(default:zo)
  |_+18=>()
 fl:=λn=>match n with
  |0=>[i6,i6,.s,.s,dR]
  |1=>[.s,.st 0]
  |2=>[.s,i6]
  |3=>[.s,iG,i6]
  |4=>[i6,i6]
  |5=>[.s,.b,gD]
  |6=>[i6,i6,i6,i6]
  |7=>[.s,a_,a_,i6,i6,i6,.b,i6,.st 0,.st 6,i6,i6,i6]
  |8=>[.s,i6,i6,gD]
  |9=>[i6,i6,i6]
  |10=>[.s,.st 9,i6,gh]
  |11=>[i6,.s,i6,i6]
  |12=>k1
  |13=>[i6,.s,.s,i6,.st 7,.st 0,gD]
  |14=>[i6,i6,i6,i6]
  |15=>[.st 4,.st 4]
  |16=>[i6,i6]
  |17=>[i6,i6,Ya]
  |_+18=>[]
 cn:=λn=>match n with
  |0=>5
  |1=>6
  |2=>2
  |3=>3
  |4=>2
  |5=>3
  |6=>4
  |7=>20
  |8=>4
  |9=>3
  |10=>6
  |11=>4
  |12=>8
  |13=>30
  |14=>4
  |15=>4
  |16=>2
  |17=>3
  |_+18=>0
 out:=λn=>match n with
  |0=>λx=>((x:Expr).Op,(x:Expr).N,(x:Expr).S,(x:Expr).Key,(x:Expr).fu)
  |1=>λx=>((x:Def).aK,(x:Def).Body)
  |2=>λx=>((x:av).aK,(x:av).N)
  |3=>λx=>((x:ar).aK,(x:ar).Rows,(x:ar).mD)
  |4=>λx=>((x:zt).X,(x:zt).Y)
  |5=>λx=>((x:zq).aK,(x:zq).lQ,(x:zq).ay)
  |6=>λx=>((x:zg).me,(x:zg).mb,(x:zg).l8,(x:zg).Den)
  |7=>λx=>((x:za).aK,(x:za).aA,(x:za).Except,(x:za).il,(x:za).hJ,(x:za).iI,(x:za).iN,(x:za).aL,(x:za).Test,(x:za).zg,(x:za).Uses,(x:za).iD,(x:za).N)
  |8=>λx=>((x:eC).aK,(x:eC).oS,(x:eC).mM,(x:eC).ay)
  |9=>λx=>((x:zh).X,(x:zh).Y,(x:zh).Z_)
  |10=>λx=>((x:au).aK,(x:au).l3,(x:au).oU,(x:au).lL)
  |11=>λx=>((x:aq).aL,(x:aq).Text,(x:aq).N,(x:aq).Pos)
  |12=>λx=>((x:yf).aE,(x:yf).Tables,(x:yf).aA,(x:yf).aB,(x:yf).aI,(x:yf).aF,(x:yf).aJ,(x:yf).aG)
  |13=>λx=>((x:zA).aL,(x:zA).aK,(x:zA).Key,(x:zA).N,(x:zA).za,(x:zA).Body,(x:zA).ay)
  |14=>λx=>((x:yl).X0,(x:yl).Y0,(x:yl).X1,(x:yl).Y1)
  |15=>λx=>((x:zk).a,(x:zk).b)
  |16=>λx=>((x:zj).from_,(x:zj).q_)
  |17=>λx=>((x:zo).x0,(x:zo).x1,(x:zo).column)
  |_+18=>λ_=>()
 inj:=λn=>match n with
  |0=>λx=>(⟨x.1,x.2.1,x.2.2.1,x.2.2.2.1,x.2.2.2.2⟩:Expr)
  |1=>λx=>(⟨x.1,x.2⟩:Def)
  |2=>λx=>(⟨x.1,x.2⟩:av)
  |3=>λx=>(⟨x.1,x.2.1,x.2.2⟩:ar)
  |4=>λx=>(⟨x.1,x.2⟩:zt)
  |5=>λx=>(⟨x.1,x.2.1,x.2.2⟩:zq)
  |6=>λx=>(⟨x.1,x.2.1,x.2.2.1,x.2.2.2⟩:zg)
  |7=>λx=>(⟨x.1,x.2.1,x.2.2.1,x.2.2.2.1,x.2.2.2.2.1,(nj x).1,(nk x).1,(nN x).1,(pe x).1,(pz x).1,(pR x).1,(pO x).1,(pP x)⟩:za)
  |8=>λx=>(⟨x.1,x.2.1,x.2.2.1,x.2.2.2⟩:eC)
  |9=>λx=>(⟨x.1,x.2.1,x.2.2⟩:zh)
  |10=>λx=>(⟨x.1,x.2.1,x.2.2.1,x.2.2.2⟩:au)
  |11=>λx=>(⟨x.1,x.2.1,x.2.2.1,x.2.2.2⟩:aq)
  |12=>λx=>(⟨x.1,x.2.1,x.2.2.1,x.2.2.2.1,x.2.2.2.2.1,(nj x).1,(nk x).1,(nN x)⟩:yf)
  |13=>λx=>(⟨x.1,x.2.1,x.2.2.1,x.2.2.2.1,x.2.2.2.2.1,(nj x).1,(nk x)⟩:zA)
  |14=>λx=>(⟨x.1,x.2.1,x.2.2.1,x.2.2.2⟩:yl)
  |15=>λx=>(⟨x.1,x.2⟩:zk)
  |16=>λx=>(⟨x.1,x.2⟩:zj)
  |17=>λx=>(⟨x.1,x.2.1,x.2.2⟩:zo)
  |_+18=>λ_=>()
 enc:=λn=>match n with
  |0=>qx
  |1=>VT
  |2=>Aa
  |3=>Ab
  |4=>kY
  |5=>JD
  |6=>VU
  |7=>JE
  |8=>VV
  |9=>kz
  |10=>JF
  |11=>Rz
  |12=>A6
  |13=>A7
  |14=>A8
  |15=>ox
  |16=>kZ
  |17=>oy
  |_+18=>λ_=>[]
 ro:=λn=>match n with
  |1=>EA Jg.Ba
  |2=>EC Jg.Bb
  |3=>B3 Jg.Bc Jg.m2
  |4=>CY Jg.tB
  |_=>.gen gone
 go:=G0
 gl:=GZ
 ga:=GY
 om:=bg
def U7:TS.OK where
 CR:=λn x=>match n with
  |0=>by
   show qx x=_
   unfold qx;simp only[o9];rfl
  |1=>rfl
  |2=>rfl
  |3=>rfl
  |4=>rfl
  |5=>rfl
  |6=>rfl
  |7=>rfl
  |8=>rfl
  |9=>rfl
  |10=>rfl
  |11=>rfl
  |12=>rfl
  |13=>rfl
  |14=>rfl
  |15=>rfl
  |16=>rfl
  |17=>rfl
  |_+18=>rfl
 GI:=λn h=>match n with
  |0=>rfl
  |1=>rfl
  |2=>rfl
  |3=>rfl
  |4=>rfl
  |5=>rfl
  |6=>rfl
  |7=>rfl
  |8=>rfl
  |9=>rfl
  |10=>rfl
  |11=>rfl
  |12=>rfl
  |13=>rfl
  |14=>rfl
  |15=>rfl
  |16=>rfl
  |17=>rfl
  |_+18=>rfl
 Pm:=rfl
 XV:=λi σ=>match i with|0=>rfl|1=>rfl|2=>rfl|3=>rfl|4=>rfl|_+5=>rfl
 NA:=λi=>match i with|0=>rfl|1=>rfl|2=>rfl|3=>rfl|4=>rfl|_+5=>rfl
 XT:=λi k=>match i with|0=>rfl|1=>rfl|2=>rfl|3=>rfl|4=>rfl|_+5=>rfl
 len:=λn x=>match n with
  |0=>rfl
  |1=>rfl
  |2=>rfl
  |3=>rfl
  |4=>rfl
  |5=>rfl
  |6=>rfl
  |7=>rfl
  |8=>rfl
  |9=>rfl
  |10=>rfl
  |11=>rfl
  |12=>rfl
  |13=>rfl
  |14=>rfl
  |15=>rfl
  |16=>rfl
  |17=>rfl
  |_+18=>rfl
 one:=λn x=>match n with
  |0=>rfl
  |1=>rfl
  |2=>rfl
  |3=>rfl
  |4=>rfl
  |5=>rfl
  |6=>rfl
  |7=>rfl
  |8=>rfl
  |9=>rfl
  |10=>rfl
  |11=>rfl
  |12=>rfl
  |13=>rfl
  |14=>rfl
  |15=>rfl
  |16=>rfl
  |17=>rfl
  |_+18=>rfl
 refs:=λn x=>match n with
  |0=>rfl
  |1=>rfl
  |2=>rfl
  |3=>rfl
  |4=>rfl
  |5=>rfl
  |6=>rfl
  |7=>rfl
  |8=>rfl
  |9=>rfl
  |10=>rfl
  |11=>rfl
  |12=>rfl
  |13=>rfl
  |14=>rfl
  |15=>rfl
  |16=>rfl
  |17=>rfl
  |_+18=>rfl
 W_:=λi c x σ=>by cases c with
  |l t=>cases t<;>rfl
  |_=>rfl
 M':=λi c x=>by cases c with
  |l t=>cases t<;>rfl
  |_=>rfl
 W8:=λi c x k=>by cases c with
  |l t=>cases t<;>rfl
  |_=>rfl
 gom:=λ_ kc ec x=>by kernel_rfl
 ggl:=λi c x k=>by cases c with
  |l t=>cases t<;>rfl
  |_=>rfl
 V_:=λt i d cs h m Z w k hh=>zB9 t i d cs h m Z w k hh
 my:=λi g t l h=>by
  change GZ i=aY (g,t,l)at h;unfold GZ at h;split at h
  .cases h;exact⟨_,rfl⟩
  .cases h
def mz(t:Nat):Option TC:=bif bk t 3 then aY i6 else bif bk t 4 then aY .b else bif bk t 9 then aY .s else bif bk t 34 then aY (.st 0)else bif bk t 38 then aY (.st 7)else bif bk t 41 then aY (.st 13)else bif bk t 43 then aY (.st 14)else bif bk t 55 then aY yu else bif bk t 67 then aY (.st 1)else bif bk t 70 then aY (.st 3)else bif bk t 72 then aY (.st 5)else bif bk t 75 then aY (.st 8)else bif bk t 77 then aY (.st 9)else bif bk t 79 then aY (.st 10)else bif bk t 83 then aY qB else bif bk t 88 then aY (.st 11)else bif bk t 113 then aY (.st 4)else bif bk t 134 then aY (.st 2)else bif bk t 296 then aY (.st 15)else bif bk t 326 then aY (.st 16)else bif bk t 328 then aY (.st 17)else bif bk t 9000223 then aY .b else bh
def cdL(t:Nat):Option TC:=mz (bif Nat.ble 1000000 t then Nat.sub t 1000000 else t)
def tY(t:Nat):Option TC:=bif bk t 5000000 then aY .b else mz t
def l0:NB:=λt=>bif bk t 30 then[(0,bf,67,.st 1),(1,bf,70,.st 3),(2,bf,72,.st 5),(3,bf,38,.st 7),(4,bf,75,.st 8),(5,bf,79,.st 10),(6,bf,77,.st 9)]else bif bk t 34 then[(4,bf,34,.st 0)]else bif bk t 38 then[(1,bf,9,.s),(2,bf,9,.s),(12,bf,34,.st 0)]else bif bk t 41 then[(5,bf,9,.s),(6,bf,9,.s),(16,bf,34,.st 0),(28,bf,34,.st 0),(29,bf,113,.st 4)]else bif bk t 67 then[(5,bf,34,.st 0)]else bif bk t 70 then[(1,bf,134,.st 2)]else bif bk t 72 then[(2,bf,113,.st 4)]else bif bk t 75 then[(3,bf,113,.st 4)]else bif bk t 79 then[(5,bf,77,.st 9)]else bif bk t 195 then[(0,bf,88,.st 11)]else bif bk t 199 then[(0,bf,88,.st 11),(2,bg,67,.st 1),(3,bg,70,.st 3),(4,bg,72,.st 5),(5,bg,38,.st 7),(6,bg,75,.st 8),(7,bg,79,.st 10),(8,bg,8000077,.st 9),(10,bg,7000000,Ce),(11,bg,7000000,Ce),(12,bg,7000000,Ce),(13,bg,7000000,Ce),(14,bg,7000000,Ce),(15,bg,7000000,Ce)]else[]
def zda:NB:=λt=>bif bk t 30 then[(0,bg,67,.st 1),(1,bg,70,.st 3),(2,bg,72,.st 5),(3,bg,38,.st 7),(4,bg,75,.st 8),(5,bg,79,.st 10),(6,bf,77,.st 9)]else  l0 t
def Xt:bH.follows .mixedOrders=bg:=by kernel_rfl
variable[Fuel]
def zCa:zb bH 108:=zd (by kernel_rfl)
def F9:zb bH 107:=zd (by kernel_rfl)
def zCb:zb bH 174:=zd (by kernel_rfl)
def zCc:zb bH 176:=zd (by kernel_rfl)
def zCd:zb bH 175:=zd (by kernel_rfl)
def zCe:zb bH 211:=zd (by kernel_rfl)
def zCf:zb bH 155:=zd (by kernel_rfl)
def zCg:zb bH 177:=zd (by kernel_rfl)
def zCh:zb bH 178:=zd (by kernel_rfl)
def zCi:zb bH 109:=zd (by kernel_rfl)
def ac6:zb bH 26:=zd (by kernel_rfl)
def zCj:zb bH 113:=zd (by kernel_rfl)
def zCk:zb bH 156:=zd (by kernel_rfl)
def adk:zb bH 43:=zd (by kernel_rfl)
def ac8:zb bH 29:=zd (by kernel_rfl)
def acS:zb bH 11:=zd (by kernel_rfl)
def ac':zb bH 32:=zd (by kernel_rfl)
def ado:zb bH 47:=zd (by kernel_rfl)
def zCl:zb bH 157:=zd (by kernel_rfl)
def adn:zb bH 46:=zd (by kernel_rfl)
def adq:zb bH 49:=zd (by kernel_rfl)
def adp:zb bH 48:=zd (by kernel_rfl)
def ads:zb bH 51:=zd (by kernel_rfl)
def adr:zb bH 50:=zd (by kernel_rfl)
def adu:zb bH 53:=zd (by kernel_rfl)
def adt:zb bH 52:=zd (by kernel_rfl)
def adw:zb bH 55:=zd (by kernel_rfl)
def adv:zb bH 54:=zd (by kernel_rfl)
def ady:zb bH 57:=zd (by kernel_rfl)
def adx:zb bH 56:=zd (by kernel_rfl)
def Ml:zb bH 158:=zd (by kernel_rfl)
def adz:zb bH 58:=zd (by kernel_rfl)
def adB:zb bH 60:=zd (by kernel_rfl)
def adA:zb bH 59:=zd (by kernel_rfl)
def adC:zb bH 61:=zd (by kernel_rfl)
def zCm:zb bH 212:=zd (by kernel_rfl)
def zCn:zb bH 213:=zd (by kernel_rfl)
def zCo:zb bH 214:=zd (by kernel_rfl)
def zCp:zb bH 222:=zd (by kernel_rfl)
def zCq:zb bH 172:=zd (by kernel_rfl)
def zCr:zb bH 171:=zd (by kernel_rfl)
def zCs:zb bH 215:=zd (by kernel_rfl)
def zCt:zb bH 216:=zd (by kernel_rfl)
def zCu:zb bH 159:=zd (by kernel_rfl)
def adD:zb bH 62:=zd (by kernel_rfl)
def zCv:zb bH 209:=zd (by kernel_rfl)
def Mm:zb bH 137:=zd (by kernel_rfl)
def UP:zb bH 208:=zd (by kernel_rfl)
def zCw:zb bH 147:=zd (by kernel_rfl)
def adE:zb bH 63:=zd (by kernel_rfl)
def ac1:zb bH 21:=zd (by kernel_rfl)
def ac7:zb bH 28:=zd (by kernel_rfl)
def adm:zb bH 45:=zd (by kernel_rfl)
def zCx:zb bH 136:=zd (by kernel_rfl)
def zCy:zb bH 144:=zd (by kernel_rfl)
def zCz:zb bH 139:=zd (by kernel_rfl)
def zC0:zb bH 138:=zd (by kernel_rfl)
def zC1:zb bH 145:=zd (by kernel_rfl)
def zC2:zb bH 146:=zd (by kernel_rfl)
def zC3:zb bH 140:=zd (by kernel_rfl)
def zC4:zb bH 148:=zd (by kernel_rfl)
def zC5:zb bH 141:=zd (by kernel_rfl)
def zC6:zb bH 149:=zd (by kernel_rfl)
def zC7:zb bH 143:=zd (by kernel_rfl)
def zC8:zb bH 142:=zd (by kernel_rfl)
def zC9:zb bH 150:=zd (by kernel_rfl)
def adi:zb bH 40:=zd (by kernel_rfl)
def acZ:zb bH 18:=zd (by kernel_rfl)
def acX:zb bH 16:=zd (by kernel_rfl)
def ac_:zb bH 31:=zd (by kernel_rfl)
def zDa:zb bH 114:=zd (by kernel_rfl)
def ac9:zb bH 30:=zd (by kernel_rfl)
def UQ:zb bH 122:=zd (by kernel_rfl)
def zDb:zb bH 121:=zd (by kernel_rfl)
def ada:zb bH 34:=zd (by kernel_rfl)
def adb:zb bH 35:=zd (by kernel_rfl)
def ade:zb bH 36:=zd (by kernel_rfl)
def adf:zb bH 37:=zd (by kernel_rfl)
def acT:zb bH 12:=zd (by kernel_rfl)
def adF:zb bH 64:=zd (by kernel_rfl)
def adG:zb bH 65:=zd (by kernel_rfl)
def Gj:zb bH 70:=zd (by kernel_rfl)
def adH:zb bH 66:=zd (by kernel_rfl)
def ad5:zb bH 93:=zd (by kernel_rfl)
def adI:zb bH 68:=zd (by kernel_rfl)
def adJ:zb bH 69:=zd (by kernel_rfl)
def PR:zb bH 67:=zd (by kernel_rfl)
def adL:zb bH 72:=zd (by kernel_rfl)
def adK:zb bH 71:=zd (by kernel_rfl)
def ad2:zb bH 90:=zd (by kernel_rfl)
def adN:zb bH 74:=zd (by kernel_rfl)
def UR:zb bH 160:=zd (by kernel_rfl)
def adO:zb bH 75:=zd (by kernel_rfl)
def adM:zb bH 73:=zd (by kernel_rfl)
def ad3:zb bH 91:=zd (by kernel_rfl)
def adQ:zb bH 77:=zd (by kernel_rfl)
def US:zb bH 161:=zd (by kernel_rfl)
def PS:zb bH 98:=zd (by kernel_rfl)
def adT:zb bH 80:=zd (by kernel_rfl)
def UT:zb bH 162:=zd (by kernel_rfl)
def adU:zb bH 81:=zd (by kernel_rfl)
def adS:zb bH 79:=zd (by kernel_rfl)
def adR:zb bH 78:=zd (by kernel_rfl)
def adP:zb bH 76:=zd (by kernel_rfl)
def adV:zb bH 83:=zd (by kernel_rfl)
def MR:zb bH 82:=zd (by kernel_rfl)
def ad4:zb bH 92:=zd (by kernel_rfl)
def adX:zb bH 85:=zd (by kernel_rfl)
def adY:zb bH 86:=zd (by kernel_rfl)
def adW:zb bH 84:=zd (by kernel_rfl)
def ad0:zb bH 88:=zd (by kernel_rfl)
def Mn:zb bH 207:=zd (by kernel_rfl)
def zDe:zb bH 163:=zd (by kernel_rfl)
def ad6:zb bH 94:=zd (by kernel_rfl)
def ad1:zb bH 89:=zd (by kernel_rfl)
def zDf:zb bH 164:=zd (by kernel_rfl)
def adZ:zb bH 87:=zd (by kernel_rfl)
def ac2:zb bH 22:=zd (by kernel_rfl)
def ad7:zb bH 95:=zd (by kernel_rfl)
def ad8:zb bH 96:=zd (by kernel_rfl)
def MS:zb bH 97:=zd (by kernel_rfl)
def ad9:zb bH 99:=zd (by kernel_rfl)
def zDg:zb bH 100:=zd (by kernel_rfl)
def ac3:zb bH 23:=zd (by kernel_rfl)
def abV:zb bH 7:=zd (by kernel_rfl)
def acU:zb bH 13:=zd (by kernel_rfl)
def zDh:zb bH 125:=zd (by kernel_rfl)
def zDi:zb bH 124:=zd (by kernel_rfl)
def zDj:zb bH 127:=zd (by kernel_rfl)
def zDk:zb bH 126:=zd (by kernel_rfl)
def zDl:zb bH 129:=zd (by kernel_rfl)
def zDm:zb bH 128:=zd (by kernel_rfl)
def zDn:zb bH 131:=zd (by kernel_rfl)
def zDo:zb bH 130:=zd (by kernel_rfl)
def zDp:zb bH 133:=zd (by kernel_rfl)
def zDq:zb bH 132:=zd (by kernel_rfl)
def zDr:zb bH 135:=zd (by kernel_rfl)
def zDs:zb bH 134:=zd (by kernel_rfl)
def adg:zb bH 38:=zd (by kernel_rfl)
def adh:zb bH 39:=zd (by kernel_rfl)
def acV:zb bH 14:=zd (by kernel_rfl)
def zDt:zb bH 151:=zd (by kernel_rfl)
def MT:zb bH 42:=zd (by kernel_rfl)
def zDu:zb bH 152:=zd (by kernel_rfl)
def zDv:zb bH 153:=zd (by kernel_rfl)
def zDw:zb bH 210:=zd (by kernel_rfl)
def zDx:zb bH 154:=zd (by kernel_rfl)
def adj:zb bH 41:=zd (by kernel_rfl)
def acW:zb bH 15:=zd (by kernel_rfl)
def adl:zb bH 44:=zd (by kernel_rfl)
def acY:zb bH 17:=zd (by kernel_rfl)
def abS:zb bH 4:=zd (by kernel_rfl)
def MU:zb bH 19:=zd (by kernel_rfl)
def ac0:zb bH 20:=zd (by kernel_rfl)
def abT:zb bH 5:=zd (by kernel_rfl)
def abU:zb bH 6:=zd (by kernel_rfl)
def zDy:zb bH 165:=zd (by kernel_rfl)
def zDz:zb bH 102:=zd (by kernel_rfl)
def zD0:zb bH 101:=zd (by kernel_rfl)
def zD1:zb bH 166:=zd (by kernel_rfl)
def zD2:zb bH 103:=zd (by kernel_rfl)
def ac4:zb bH 24:=zd (by kernel_rfl)
def abW:zb bH 8:=zd (by kernel_rfl)
def abX:zb bH 9:=zd (by kernel_rfl)
def zD3:zb bH 217:=zd (by kernel_rfl)
def zD4:zb bH 264:=zd (by kernel_rfl)
def zD5:zb bH 246:=zd (by kernel_rfl)
def zD6:zb bH 265:=zd (by kernel_rfl)
def zD7:zb bH 247:=zd (by kernel_rfl)
def UU:zb bH 223:=zd (by kernel_rfl)
def UW:zb bH 224:=zd (by kernel_rfl)
def zD8:zb bH 220:=zd (by kernel_rfl)
def zD9:zb bH 245:=zd (by kernel_rfl)
def zEa:zb bH 219:=zd (by kernel_rfl)
def zEb:zb bH 218:=zd (by kernel_rfl)
def zEc:zb bH 167:=zd (by kernel_rfl)
def zEd:zb bH 168:=zd (by kernel_rfl)
def zEe:zb bH 104:=zd (by kernel_rfl)
def zEf:zb bH 173:=zd (by kernel_rfl)
def zEg:zb bH 106:=zd (by kernel_rfl)
def zEh:zb bH 221:=zd (by kernel_rfl)
def zEi:zb bH 169:=zd (by kernel_rfl)
def zEj:zb bH 170:=zd (by kernel_rfl)
def zEk:zb bH 105:=zd (by kernel_rfl)
def ac5:zb bH 25:=zd (by kernel_rfl)
def acR:zb bH 10:=zd (by kernel_rfl)
def abR:zb bH 3:=zd (by kernel_rfl)
def mq{f:Nat}{fn:Func}{code:Code}{T:l7 TS}{cd:Nat->Option TC}{nb:NB}{rc:List (Nat×Nat×Nat)}{c:Ct TS}{h:HT TS c.co}(hf:bH.funcs[f]?=aY fn)(hb:fn.body=aY code)(hB:zb bH f)(hT:l7.OK bH T)(hr:∀x,((mV bH fn code T cd KK nb c rc h x).run,(mV bH fn code T cd KK nb c rc h x).tr bg)=(c.fn x,(mV bH fn code T cd KK nb c rc h x).tr bf)):zb bH f/\c.OK bH f:=⟨hB,PO (T:=T) (cd:=cd) (kk:=KK) (nb:=nb) (rc:=rc) (h:=h) U7 hf hb Xt hT (λx=>aP Prod.fst (hr x)) (λx=>aP Prod.snd (hr x))⟩
def eL{f:Nat}{fn:Func}{code:Code}{T:l7 TS}{c:Ct TS}{h:HT TS c.co}(hf:bH.funcs[f]?=aY fn)(hb:fn.body=aY code)(hB:zb bH f)(hT:l7.OK bH T)(hr:∀x,((mV bH fn code T mz KK l0 c [] h x).run,(mV bH fn code T mz KK l0 c [] h x).tr bg)=(c.fn x,(mV bH fn code T mz KK l0 c [] h x).tr bf)):zb bH f/\c.OK bH f:=⟨hB,PO (T:=T) (cd:=mz) (kk:=KK) (nb:=l0) (rc:=[]) (h:=h) U7 hf hb Xt hT (λx=>aP Prod.fst (hr x)) (λx=>aP Prod.snd (hr x))⟩
def RJ:Ct TS:=⟨[.d (.i .u8) 0],[],[.i .u8],.d .b 1,[],[.b],bf,λx=>RC x⟩
abbrev d_(n:Nat)(c:Ct TS):Prop:=zb bH n/\c.OK bH n
def zk4:d_ 108 RJ:=eL (T:=[]) (h:=.n) Tryz.func108 rfl zCa trivial λx=>by kernel_rfl
def Tf:Ct TS:=⟨[.d .s 0,.fn 108 [] []],[],[.s],dI 1,[],[i6],bf,λx=>S8 x⟩
def zpt:d_ 107 Tf:=eL (T:=[(108,RJ)]) (h:=.s .n (.s .n (.s (.s (.l ⟨[(0,.d .s 0),(1,.fn 108 [] []),(5,dI 1)],[],[.s],[i6]⟩ [(5,dI 1)] [] [i6] 0 (λx K v=>HW x K v) (.s (.s (.j ⟨[(0,.d .s 0),(1,.fn 108 [] []),(5,dI 1),(16,.d .b 2)],[],[.s,i6],[.b]⟩ bf .n) .n) .n)) .n) .n))) Tryz.func107 rfl F9 ⟨zk4,trivial⟩ λx=>by kernel_rfl
def uv:Ct TS:=⟨[.d (.i .u8) 0],[],[.i .u8],.d .b 1,[],[.b],bf,λx=>vF x⟩
def oc:d_ 174 uv:=eL (T:=[]) (h:=.n) Tryz.func174 rfl zCb trivial λx=>by kernel_rfl
def Al:Ct TS:=⟨[.d (.i .u8) 0],[],[.i .u8],.d .b 1,[],[.b],bf,λx=>qb x⟩
def Hm:d_ 176 Al:=eL (T:=[]) (h:=.n) Tryz.func176 rfl zCc trivial λx=>by kernel_rfl
def Y5:Ct TS:=⟨[.d (.i .u8) 0],[],[.i .u8],.d .b 1,[],[.b],bf,λx=>YU x⟩
def zgj:d_ 175 Y5:=eL (T:=[(174,uv),(176,Al)]) (h:=.n) Tryz.func175 rfl zCd ⟨oc,Hm,trivial⟩ λx=>by kernel_rfl
def Y6:Ct TS:=⟨[.d .s 0,.fn 175 [] []],[],[.s],dI 1,[],[i6],bf,λx=>YV x⟩
def zgk:d_ 107 Y6:=eL (T:=[(175,Y5)]) (h:=.s .n (.s .n (.s (.s (.l ⟨[(0,.d .s 0),(1,.fn 175 [] []),(5,dI 1)],[],[.s],[i6]⟩ [(5,dI 1)] [] [i6] 0 (λx K v=>uV x K v) (.s (.s (.j ⟨[(0,.d .s 0),(1,.fn 175 [] []),(5,dI 1),(16,.d .b 2)],[],[.s,i6],[.b]⟩ bf .n) .n) .n)) .n) .n))) Tryz.func107 rfl F9 ⟨zgj,trivial⟩ λx=>by kernel_rfl
def Y7:Ct TS:=⟨[.d (.i .u8) 0],[],[.i .u8],.d .b 1,[],[.b],bf,λx=>um x⟩
def zgl:d_ 211 Y7:=eL (T:=[(174,uv),(176,Al)]) (h:=.n) Tryz.func211 rfl zCe ⟨oc,Hm,trivial⟩ λx=>by kernel_rfl
def Y8:Ct TS:=⟨[.d .s 0,.fn 211 [] []],[],[.s],dI 1,[],[i6],bf,λx=>A9 x⟩
def zgm:d_ 107 Y8:=eL (T:=[(211,Y7)]) (h:=.s .n (.s .n (.s (.s (.l ⟨[(0,.d .s 0),(1,.fn 211 [] []),(5,dI 1)],[],[.s],[i6]⟩ [(5,dI 1)] [] [i6] 0 (λx K v=>kd x K v) (.s (.s (.j ⟨[(0,.d .s 0),(1,.fn 211 [] []),(5,dI 1),(16,.d .b 2)],[],[.s,i6],[.b]⟩ bf .n) .n) .n)) .n) .n))) Tryz.func107 rfl F9 ⟨zgl,trivial⟩ λx=>by kernel_rfl
def Lp:Ct TS:=⟨[.d .s 0],[],[.s],.d .b 1,[],[.b],bf,λx=>uW x⟩
def RL:d_ 155 Lp:=eL (T:=[(174,uv),(107,Y8)]) (h:=.s .n (.s (.s (.j ⟨[(0,.d .s 0),(15,.d .b 1)],[],[.s],[.b]⟩ bf .n) .n) .n)) Tryz.func155 rfl zCf ⟨oc,zgm,trivial⟩ λx=>by kernel_rfl
def Kx:Ct TS:=⟨[.d .s 0,.fn 176 [] []],[],[.s],dI 1,[],[i6],bf,λx=>Ku x⟩
def V9:d_ 107 Kx:=eL (T:=[(176,Al)]) (h:=.s .n (.s .n (.s (.s (.l ⟨[(0,.d .s 0),(1,.fn 176 [] []),(5,dI 1)],[],[.s],[i6]⟩ [(5,dI 1)] [] [i6] 0 (λx K v=>uX x K v) (.s (.s (.j ⟨[(0,.d .s 0),(1,.fn 176 [] []),(5,dI 1),(16,.d .b 2)],[],[.s,i6],[.b]⟩ bf .n) .n) .n)) .n) .n))) Tryz.func107 rfl F9 ⟨Hm,trivial⟩ λx=>by kernel_rfl
def Y9:Ct TS:=⟨[.d .s 0],[],[.s],.ij [dI 1,.d .b 2],[],[i6,.b],bf,λx=>YW x⟩
def zgn:d_ 177 Y9:=eL (T:=[(107,Kx)]) (h:=.s .n (.s (.s (.j ⟨[(0,.d .s 0),(28,.d .b 1)],[],[.s],[.b]⟩ bf .n) .n) (.s .n (.s (.s .n (.s (.l ⟨[(0,.d .s 0),(4,dI 2),(30,dI 1),(31,dI 3)],[],[.s,i6],[i6,i6]⟩ [(4,dI 2)] [] [i6] 0 (ir uY) .n) .n)) .n)))) Tryz.func177 rfl zCg ⟨V9,trivial⟩ λx=>by kernel_rfl
def Wa:Ct TS:=⟨[.d .s 0,.d .s 1],[],[.s,.s],.d .b 2,[],[.b],bf,ir VX⟩
def zdd:Wa.OK bH 178:=λx r h=>q0 (by kernel_rfl) (zgd x.1 x.2 r h)
def Tg:Ct TS:=⟨[.d .s 0],h2,[.s],.ij [.ag [dI 2,.d .s 3,dI 4,dI 5],dI 1],(h3 7000001 2 3 4 5),[i6,i6,.s,i6,i6],bf,λx=>S9 x⟩
def zpu:d_ 109 Tg:=mq (cd:=mz) (nb:=l0) (rc:=[(2,7000001,0)]) (T:=[(174,uv),(107,Y6),(155,Lp),(176,Al),(107,Kx),(177,Y9),(178,Wa)]) (h:=.s .n (.s .n (.s (.s .n (.s (.lr ⟨[(0,.d .s 0),(2,.ptr 1000002 0),(43,.ag [.d .s 1,.d .s 2,.d .s 3,.d .s 4,.d .s 5,.d .s 6,.d .s 7,.d .s 8,.d .s 9,.d .s 10,.d .s 11,.d .s 12,.d .s 13,.d .s 14]),(44,dI 17)],(h3 1000002 15 16 15 15),[.s,.s,.s,.s,.s,.s,.s,.s,.s,.s,.s,.s,.s,.s,.s,i6,.s],[i6]⟩ [(2,.ptr 1000002 0)] (h3 1000002 15 16 15 15) [] 1 (DD HX) .n) .n)) .n))) Tryz.func109 rfl zCi ⟨oc,zgk,RL,Hm,V9,zgn,⟨zCh,zdd⟩,trivial⟩ λx=>by kernel_rfl
def Uc:Ct TS:=⟨[.d .s 0],h2,[.s],.ij [.d qB 1,dI 2,dI 3],h2,[qB,i6,i6],bf,λx=>TV x⟩
def zt3:d_ 26 Uc:=eL (T:=[(107,Tf),(109,Tg)]) (h:=.s .n (.s .n (.s .n (.s .n (.s (.lr ⟨[(0,.d .s 0),(5,.row 4 7000001),(6,dI 1)],[(900000000,.rw 1),(900000001,.rw 2),(900000002,.rw 3),(900000003,.rw 4),(7000001,.row 88 (.st 11) 2 bf)],[.s],[i6,qB]⟩ [] [] [] 999999999 (λx K v=>Kv x K v) .n) .n))))) Tryz.func26 rfl ac6 ⟨zpt,zpu,trivial⟩ λx=>by kernel_rfl
def HB:Ct TS:=⟨[.d qB 0],[],[qB],.row 4 7000001,(h4 7000001 88 11 1),[qB],bf,λx=>HA x⟩
def Wb:d_ 113 HB:=eL (T:=[]) (h:=.n) Tryz.func113 rfl zCj trivial (λx=>match x with|[]=>by kernel_rfl|_::_=>by kernel_rfl)
def Za:Ct TS:=⟨[.d .s 0,.d .s 1],h2,[.s,.s],.d .b 2,h2,[.b],bf,ir Ha⟩
def zgo:Za.OK bH 156:=λx r h=>q0 (by kernel_rfl) (zku x.1 x.2 r h)
def DU:Ct TS:=⟨[.d .s 0],h2,[.s],.d .b 1,h2,[.b],bf,λx=>JH x⟩
def FT:d_ 43 DU:=eL (T:=[(155,Lp),(156,Za)]) (h:=.n) Tryz.func43 rfl adk ⟨RL,⟨zCk,zgo⟩,trivial⟩ λx=>by kernel_rfl
def Th:Ct TS:=⟨[.d qB 0],h2,[qB],.ij [.ag [dI 2,.d .s 3,.d .s 4,dI 5,.d .s 6,.d a_ 7,.d a_ 8,dI 9,dI 10,dI 11,.d .b 12,dI 13,dI 14,dI 15,.d .s 16,.d .s 17,.d dR 18,dI 19,dI 20,dI 21,dI 22,dI 23,dI 24,dI 25,dI 26,dI 27,.d .s 28,.d .s 29,.d dR 30,.d gD 31],dI 1],(h5 7000001 2 3 4 5 6 7 8 9 10 11 12 13 14 15 16 17 18 19 20 21 22 23 24 25 26 27 28 29 30 31),k6,bf,λx=>S_ x⟩
def zpw:d_ 29 Th:=mq (cd:=mz) (nb:=l0) (rc:=[(2,7000001,0)]) (T:=[(113,HB),(43,DU)]) (h:=.s .n (.s .n (.s .n (.s .n (.s .n (.s (.j ⟨[(0,.d qB 0),(2,.ptr 1000002 0),(5,dI 1),(7,dI 9),(8,dI 2)],(h5 1000002 3 4 4 3 4 5 5 3 3 3 6 3 3 3 4 4 7 3 3 3 3 3 3 3 3 3 4 4 7 8),[qB,i6,i6,i6,.s,a_,.b,dR,gD],[i6]⟩ bf (.s .n (.s (.s .n (.s (.j ⟨[(0,.d qB 0),(2,.ptr 1000002 0),(5,dI 1),(7,dI 2),(8,dI 3),(37,.d .b 10)],PB,k7,[.b]⟩ bf .n) .n)) .n))) (.s (.s (.j ⟨[(0,.d qB 0),(2,.ptr 1000002 0),(5,dI 1),(7,dI 2),(8,dI 3),(54,.d .b 10)],PB,k7,[.b]⟩ bf .n) .n) (.s (.s .n (.s (.lr ⟨[(0,.d qB 0),(2,.ptr 1000002 0),(5,dI 1),(7,dI 2),(8,dI 3),(59,.d qB 4),(60,dI 5),(61,dI 11)],(h5 1000002 12 6 6 13 6 7 7 14 15 16 8 17 18 19 6 6 9 20 21 22 23 24 25 26 27 28 6 6 9 10),[qB,i6,i6,i6,qB,i6,.s,a_,.b,dR,gD],[i6,i6,i6,i6,i6,i6,i6,i6,i6,i6,i6,i6,i6,i6,i6,i6,i6,i6]⟩ [(0,.d qB 0),(2,.ptr 1000002 0),(5,dI 1),(7,dI 2),(8,dI 3)] (h5 1000002 11 6 6 12 6 7 7 13 14 15 8 16 17 18 6 6 9 19 20 21 22 23 24 25 26 27 6 6 9 10) [i6,i6,i6,i6,i6,i6,i6,i6,i6,i6,i6,i6,i6,i6,i6,i6,i6] 0 (XW HY) (.s .n (.s .n (.s (.s (.s .n (.s (.j ⟨[(0,.d qB 0),(2,.ptr 1000002 0),(5,dI 1),(7,dI 2),(8,dI 3),(59,.d qB 4),(60,dI 5),(61,dI 6),(73,.d .b 12)],(h5 1000002 13 7 7 14 7 8 8 15 16 17 9 18 19 20 7 7 10 21 22 23 24 25 26 27 28 29 7 7 10 11),[qB,i6,i6,i6,qB,i6,i6,.s,a_,.b,dR,gD],[.b,i6,i6,i6,i6,i6,i6,i6,i6,i6,i6,i6,i6,i6,i6,i6,i6,i6]⟩ bf .n) .n)) .n) .n)))) .n)) (.s .n (.s (.j ⟨[(2,.ptr 1000002 0),(5,dI 0),(11,.ptr 1000011 0)],(h8 1 2 3 4 5 6 7 8 9 10 11 12 13 14 15 16 17 18 19 20 21 22 0 26 24 25),k9,[.s]⟩ bf .n) (.s (.s (.j ⟨[(2,.ptr 1000002 0),(11,.ptr 1000011 0),(108,.d .b 27)],(h8 0 1 2 3 4 5 6 7 8 9 10 11 12 13 14 15 16 17 18 19 20 21 22 24 25 26),E0,[.b]⟩ bf .n) .n) .n))))))))))) Tryz.func29 rfl ac8 ⟨Wb,FT,trivial⟩ λx=>by kernel_rfl
def RM:Ct TS:=⟨[.d .s 0],h2,[.s],.ij [.d wy 1,dI 2],h2,[wy,i6],bf,λx=>RD x⟩
def zk5:d_ 11 RM:=eL (T:=[(26,Uc),(29,Th)]) (h:=.s .n (.s .n (.s .n (.s .n (.s .n (.s (.s .n (.s (.l ⟨[(0,.d .s 0),(4,.d qB 1),(7,.row 1 7001001),(8,dI 3),(26,.d qB 1),(27,dI 2),(28,dI 4)],(sg 7001001 5),[.s,qB,i6],[i6,i6,.l qB]⟩ [(0,.d .s 0),(4,.d qB 1),(7,.row 1 7001001),(8,dI 3)] (sg 7001001 4) [i6,.l qB] 0 (lG Ac) (.s .n (.s .n (.s (.j ⟨[(0,.d .s 0),(4,.d qB 1),(7,.row 1 7000001),(8,dI 3),(26,.d qB 1),(27,dI 2),(28,dI 4)],(sg 7000001 5),[.s,qB,i6],[i6,i6,.l qB]⟩ bf (.s (.s .n (.s (.j ⟨[(0,.d .s 0),(4,.d qB 1),(7,.row 1 7001001),(8,dI 2),(9,dI 5),(26,.d qB 1),(27,dI 3),(28,dI 6),(40,.d .b 7)],(sg 7001001 4),[.s,qB,i6,i6,.l qB],[i6,i6,.b]⟩ bf .n) .n)) .n)) .n)))) .n)) (.s .n (.s .n (.s (.s .n (.s (.lr ⟨[(0,.d .s 0),(11,.row 30 7002001),(62,.row 1 7001001),(63,dI 1),(64,dI 3)],[(900000000,.rw 1),(900000001,.rw 2),(900000002,.rw 3),(900000003,.rw 4),(7002001,.row 41 (.st 13) 4 bf),(7001001,.row 83 qB 2 bf)],[.s,i6,.l qB],[i6,wy]⟩ [(11,.row 30 7002001)] [(900000000,.rw 1),(900000001,.rw 2),(900000002,.rw 3),(900000003,.rw 4),(7002001,.row 41 (.st 13) 3 bf)] [wy] 3 (lG Ad) (.s .n (.s .n (.s (.s (.s .n (.s .n (.s (.s .n (.s (.s (.j ⟨[(0,.d .s 0),(11,.row 30 7002001),(13,.d qB 1),(14,.ptr 1000014 0),(62,.row 1 7001001),(63,dI 2),(64,dI 3),(78,.d .b 12)],[(900000000,.rw 1),(900000001,.rw 2),(900000002,.rw 3),(900000003,.rw 4),(7002001,.row 41 (.st 13) 4 bf),(1000014,.box 41 [dI 5,.d .s 6,.d .s 6,dI 5,.d .s 6,.d a_ 7,.d a_ 7,dI 5,dI 5,dI 5,.d .b 8,dI 5,dI 5,dI 5,.d .s 6,.d .s 6,.d dR 9,dI 5,dI 5,dI 5,dI 5,dI 5,dI 5,dI 5,dI 5,dI 5,.d .s 6,.d .s 6,.d dR 9,.d gD 10]),(7001001,.row 83 qB 11 bf)],[.s,qB,i6,i6,wy,i6,.s,a_,.b,dR,gD,.l qB],[.b]⟩ bf .n) .n) .n)) .n))) .n) .n)))) .n)) .n))))))))) Tryz.func11 rfl acS ⟨zt3,zpw,trivial⟩ λx=>by kernel_rfl
def Wc:Ct TS:=⟨[.d (.st 13) 0],[],[.st 13],.ij [.ag [.d fP 2,.d e_ 3,.d fh 4,.d eH 5,.d eM 6,.d zW 7,.d gh 8,dI 9],.d .b 1],(rz 7000001 2 3 4 5 6 7 8 9),[.b,fP,e_,fh,eH,eM,zW,gh,i6],bf,λx=>JI x⟩
def Zb:d_ 32 Wc:=mq (cd:=mz) (nb:=l0) (rc:=[(2,7000001,0)]) (T:=[]) (h:=.n) Tryz.func32 rfl ac' trivial λx=>by kernel_rfl
def RN:Ct TS:=⟨[.d (.st 1) 0],[],[.st 1],.d .s 1,[],[.s],bf,λx=>RE x⟩
def zk6:d_ 47 RN:=eL (T:=[]) (h:=.n) Tryz.func47 rfl ado trivial λx=>by kernel_rfl
def od:Ct TS:=⟨[.d a_ 0,.d .b 1],h2,[a_,.b],.d .b 2,h2,[.b],bf,ir vG⟩
def qC:d_ 157 od:=eL (T:=[(43,DU)]) (h:=.s .n (.s .n (.s (.s .n (.s (.lr ⟨[(1,.d .b 0),(5,.mp 1000008),(9,.d a_ 1),(10,dI 2),(11,dI 3)],[(900000000,.rw 1),(900000001,.rw 2),(900000002,.rw 3),(900000003,.rw 4),(1000008,.map .s .b 4)],[.b,a_,i6],[i6,.m .s .b]⟩ [] h2 [] 0 (lG kA) (.s .n (.s .n (.s (.s (.s .n (.s (.s (.j ⟨[(1,.d .b 0),(5,.mp 1000008),(7,.d .s 1),(9,.d a_ 2),(10,dI 3),(11,dI 4),(25,.d .b 6)],[(900000000,.rw 1),(900000001,.rw 2),(900000002,.rw 3),(900000003,.rw 4),(1000008,.map .s .b 5)],[.b,.s,a_,i6,i6,.m .s .b],[.b]⟩ bf .n) .n) .n)) .n) .n)))) .n)) .n))) Tryz.func157 rfl zCl ⟨FT,trivial⟩ λx=>by kernel_rfl
def SL:Ct TS:=⟨[.d fP 0,dI 1,.fn 47 [] []],h2,[fP,i6],.d .b 2,h2,[.b],bf,ir Q2⟩
def zpx:d_ 46 SL:=eL (T:=[(47,RN),(157,od)]) (h:=.s .n (.s .n (.s (.s .n (.s (.l ⟨[(0,.d fP 0),(1,dI 1),(2,.fn 47 [] []),(7,.row 1 7000001),(10,.d fP 0),(11,dI 2),(12,dI 3)],(nX 4),[fP,i6,i6],[i6,a_]⟩ [(0,.d fP 0),(1,dI 1),(7,.row 1 7000001)] (nX 3) [a_] 0 (lG uZ) .n) .n)) .n))) Tryz.func46 rfl adn ⟨zk6,qC,trivial⟩ λx=>by kernel_rfl
def RO:Ct TS:=⟨[.d (.st 3) 0],[],[.st 3],.d .s 1,[],[.s],bf,λx=>Re x⟩
def zk7:d_ 49 RO:=eL (T:=[]) (h:=.n) Tryz.func49 rfl adq trivial λx=>by kernel_rfl
def Zc:Ct TS:=⟨[.d e_ 0,dI 1,.fn 49 [] []],h2,[e_,i6],.d .b 2,h2,[.b],bf,ir Hb⟩
def zgp:d_ 48 Zc:=eL (T:=[(49,RO),(157,od)]) (h:=.s .n (.s .n (.s (.s .n (.s (.l ⟨[(0,.d e_ 0),(1,dI 1),(2,.fn 49 [] []),(7,.row 1 7000001),(10,.d e_ 0),(11,dI 2),(12,dI 3)],(nX 4),[e_,i6,i6],[i6,a_]⟩ [(0,.d e_ 0),(1,dI 1),(7,.row 1 7000001)] (nX 3) [a_] 0 (lG ke) .n) .n)) .n))) Tryz.func48 rfl adp ⟨zk7,qC,trivial⟩ λx=>by kernel_rfl
def RP:Ct TS:=⟨[.d (.st 5) 0],[],[.st 5],.d .s 1,[],[.s],bf,λx=>Rf x⟩
def zk8:d_ 51 RP:=eL (T:=[]) (h:=.n) Tryz.func51 rfl ads trivial λx=>by kernel_rfl
def Zd:Ct TS:=⟨[.d fh 0,dI 1,.fn 51 [] []],h2,[fh,i6],.d .b 2,h2,[.b],bf,ir Hc⟩
def zgq:d_ 50 Zd:=eL (T:=[(51,RP),(157,od)]) (h:=.s .n (.s .n (.s (.s .n (.s (.l ⟨[(0,.d fh 0),(1,dI 1),(2,.fn 51 [] []),(7,.row 1 7000001),(10,.d fh 0),(11,dI 2),(12,dI 3)],(nX 4),[fh,i6,i6],[i6,a_]⟩ [(0,.d fh 0),(1,dI 1),(7,.row 1 7000001)] (nX 3) [a_] 0 (lG kf) .n) .n)) .n))) Tryz.func50 rfl adr ⟨zk8,qC,trivial⟩ λx=>by kernel_rfl
def RQ:Ct TS:=⟨[.d (.st 7) 0],[],[.st 7],.d .s 1,[],[.s],bf,λx=>Rh x⟩
def zk9:d_ 53 RQ:=eL (T:=[]) (h:=.n) Tryz.func53 rfl adu trivial λx=>by kernel_rfl
def Ze:Ct TS:=⟨[.d eH 0,dI 1,.fn 53 [] []],h2,[eH,i6],.d .b 2,h2,[.b],bf,ir Hd⟩
def zgr:d_ 52 Ze:=eL (T:=[(53,RQ),(157,od)]) (h:=.s .n (.s .n (.s (.s .n (.s (.l ⟨[(0,.d eH 0),(1,dI 1),(2,.fn 53 [] []),(7,.row 1 7000001),(10,.d eH 0),(11,dI 2),(12,dI 3)],(nX 4),[eH,i6,i6],[i6,a_]⟩ [(0,.d eH 0),(1,dI 1),(7,.row 1 7000001)] (nX 3) [a_] 0 (lG kg) .n) .n)) .n))) Tryz.func52 rfl adt ⟨zk9,qC,trivial⟩ λx=>by kernel_rfl
def RR:Ct TS:=⟨[.d (.st 8) 0],[],[.st 8],.d .s 1,[],[.s],bf,λx=>Ri x⟩
def zla:d_ 55 RR:=eL (T:=[]) (h:=.n) Tryz.func55 rfl adw trivial λx=>by kernel_rfl
def Zf:Ct TS:=⟨[.d eM 0,dI 1,.fn 55 [] []],h2,[eM,i6],.d .b 2,h2,[.b],bf,ir He⟩
def zgs:d_ 54 Zf:=eL (T:=[(55,RR),(157,od)]) (h:=.s .n (.s .n (.s (.s .n (.s (.l ⟨[(0,.d eM 0),(1,dI 1),(2,.fn 55 [] []),(7,.row 1 7000001),(10,.d eM 0),(11,dI 2),(12,dI 3)],(nX 4),[eM,i6,i6],[i6,a_]⟩ [(0,.d eM 0),(1,dI 1),(7,.row 1 7000001)] (nX 3) [a_] 0 (lG kh) .n) .n)) .n))) Tryz.func54 rfl adv ⟨zla,qC,trivial⟩ λx=>by kernel_rfl
def RS:Ct TS:=⟨[.d (.st 10) 0],[],[.st 10],.d .s 1,[],[.s],bf,λx=>Rj x⟩
def zlb:d_ 57 RS:=eL (T:=[]) (h:=.n) Tryz.func57 rfl ady trivial λx=>by kernel_rfl
def Zg:Ct TS:=⟨[.d zW 0,dI 1,.fn 57 [] []],h2,[zW,i6],.d .b 2,h2,[.b],bf,ir Hf⟩
def zgt:d_ 56 Zg:=eL (T:=[(57,RS),(157,od)]) (h:=.s .n (.s .n (.s (.s .n (.s (.l ⟨[(0,.d zW 0),(1,dI 1),(2,.fn 57 [] []),(7,.row 1 7000001),(10,.d zW 0),(11,dI 2),(12,dI 3)],(nX 4),[zW,i6,i6],[i6,a_]⟩ [(0,.d zW 0),(1,dI 1),(7,.row 1 7000001)] (nX 3) [a_] 0 (lG kj) .n) .n)) .n))) Tryz.func56 rfl adx ⟨zlb,qC,trivial⟩ λx=>by kernel_rfl
def Wd(RK:Nat):Ct TS:=⟨[.d (.st 0) 0,dI 1],h2,[.st 0,i6],.d .b 2,h2,[.b],bf,λx=>zJ RK x.1 x.2⟩
def RT:∀RK,(Wd RK).OK bH 158
 |0=>(λx r h=>nomatch (show(bh:Option _)=aY r from h))
 |RK+1=>(eL (c:=Wd (RK+1)) (T:=[(43,DU),(158,Wd RK)]) (h:=.s .n (.s (.s (.j ⟨[(1,dI 0),(2,.ptr 1000002 0),(20,.d .b 6)],Of,I0,[.b]⟩ bf .n) .n) (.s .n (.s .n (.s (.j ⟨[(1,dI 0),(2,.ptr 1000002 0),(5,.ptr 1000005 0),(6,dI 6)],(si 1 2 3 4 5 9),I0,[i6,i6,.s,.s]⟩ bg (.s .n (.s (.s .n (.s .n (.s (.j ⟨[(1,dI 0),(2,.ptr 1000002 0),(5,.ptr 1000005 0),(6,dI 1),(27,dI 2),(35,.d .b 9)],(si 2 3 4 5 6 8),[i6,i6,i6,i6,.s,.s,dR,i6,.s],[.b]⟩ bf .n) (.s .n (.s .n (.s .n (.s (.j ⟨[(1,dI 0),(2,.ptr 1000002 0),(5,.ptr 1000005 0),(6,dI 1),(27,dI 2),(53,.d .b 9)],(si 2 3 4 5 6 8),[i6,i6,i6,i6,.s,.s,dR,i6,.s],[.b]⟩ bf .n) .n))))))) .n))) (.s (.s (.j ⟨[(1,dI 0),(2,.ptr 1000002 0),(98,.d .b 6)],Of,I0,[.b]⟩ bf .n) .n) (.s (.s .n (.s (.lr ⟨[(1,dI 0),(100,.d dR 1),(101,dI 2),(102,dI 3)],h2,[i6,dR,i6],[i6]⟩ [] h2 [] 1 (λx K v=>yq (zJ RK) x.1 x.2.1 x.2.2 K v) .n) .n)) .n))))))) Tryz.func158 rfl Ml ⟨FT,⟨Ml,(RT RK)⟩,trivial⟩ λx=>by kernel_rfl).2
def zt4(RK:Nat):zb bH 158/\(Wd RK).OK bH 158:=⟨Ml,(RT RK)⟩
def Jc:Ct TS:=⟨[.d (.st 0) 0],h2,[.st 0],.d .b 1,h2,[.b],bf,λx=>vH x⟩
def K8:d_ 58 Jc:=eL (T:=[(158,Wd KK)]) (h:=.n) Tryz.func58 rfl adz ⟨(zt4 KK),trivial⟩ λx=>by kernel_rfl
def RU:Ct TS:=⟨[.d (.st 2) 0],[],[.st 2],.d .s 1,[],[.s],bf,λx=>Rk x⟩
def zlc:d_ 60 RU:=eL (T:=[]) (h:=.n) Tryz.func60 rfl adB trivial λx=>by kernel_rfl
def Zh:Ct TS:=⟨[.d iG 0,dI 1,.fn 60 [] []],h2,[iG,i6],.d .b 2,h2,[.b],bf,ir Hg⟩
def zgu:d_ 59 Zh:=eL (T:=[(60,RU),(157,od)]) (h:=.s .n (.s .n (.s (.s .n (.s (.l ⟨[(0,.d iG 0),(1,dI 1),(2,.fn 60 [] []),(7,.row 1 7000001),(10,.d iG 0),(11,dI 2),(12,dI 3)],(nX 4),[iG,i6,i6],[i6,a_]⟩ [(0,.d iG 0),(1,dI 1),(7,.row 1 7000001)] (nX 3) [a_] 0 (lG kl) .n) .n)) .n))) Tryz.func59 rfl adA ⟨zlc,qC,trivial⟩ λx=>by kernel_rfl
def Lq:Ct TS:=⟨[dI 0,dI 1,.d (.l i6) 2],[],[i6,i6,.l i6],.d .b 3,[],[.b],bf,lG zB⟩
def RV:d_ 61 Lq:=eL (T:=[]) (h:=.s .n (.s (.s .n (.s (.lr ⟨[(0,dI 0),(1,dI 1),(9,.d (.l i6) 2),(10,dI 3),(11,dI 4)],[],[i6,i6,.l i6,i6],[i6]⟩ [] [] [] 0 (sn qc) (.s .n (.s .n (.s (.s (.s .n (.s (.j ⟨[(0,dI 0),(1,dI 1),(9,.d (.l i6) 2),(10,dI 3),(11,dI 4),(22,.d .b 5)],[],[i6,i6,.l i6,i6,i6],[.b]⟩ bf .n) .n)) .n) .n)))) .n)) .n)) Tryz.func61 rfl adC trivial λx=>by kernel_rfl
def Ky:Ct TS:=⟨[.d gD 0],[],[gD],.d Hl 1,[],[Hl],bf,λx=>uo x⟩
def We:d_ 212 Ky:=eL (T:=[]) (h:=.s .n (.s .n (.s (.s .n (.s (.l ⟨[(0,.d gD 0),(3,.row 4 1000007),(9,dI 1),(10,dI 2)],(h4 1000007 296 15 3),[gD,i6],[i6,Hl]⟩ [(3,.row 4 1000007)] (h4 1000007 296 15 2) [Hl] 0 (ir y9) .n) .n)) .n))) Tryz.func212 rfl zCm trivial λx=>by kernel_rfl
def Zi:Ct TS:=⟨[.d (.st 4) 0],[],[.st 4],.d .b 1,[],[.b],bf,λx=>Kw x⟩
def zgv:d_ 213 Zi:=eL (T:=[]) (h:=.n) Tryz.func213 rfl zCn trivial λx=>by kernel_rfl
def jH:Ct TS:=⟨[.d (.st 15) 0],[],[.st 15],.d .b 1,[],[.b],bf,λx=>yd x⟩
def uw:d_ 214 jH:=eL (T:=[]) (h:=.n) Tryz.func214 rfl zCo trivial λx=>by kernel_rfl
def Wf:Ct TS:=⟨[dI 0],[],[i6],.d .b 1,[],[.b],bf,λx=>u0 x⟩
def zdp:d_ 222 Wf:=eL (T:=[]) (h:=.n) Tryz.func222 rfl zCp trivial λx=>by kernel_rfl
def oe:Ct TS:=⟨[dI 0,dI 1],[],[i6,i6],dI 2,[],[i6],bf,ir yC⟩
def HC:d_ 172 oe:=eL (T:=[(222,Wf)]) (h:=.n) Tryz.func172 rfl zCq ⟨zdp,trivial⟩ λx=>by kernel_rfl
def Lr:Ct TS:=⟨[.d (.l i6) 0],[],[.l i6],dI 1,[],[i6],bf,λx=>Hh x⟩
def RW:d_ 171 Lr:=eL (T:=[]) (h:=.s .n (.s .n (.s (.s .n (.s (.lr ⟨[(3,dI 0),(6,.d (.l i6) 1),(7,dI 2),(8,dI 3)],[],[i6,.l i6,i6],[i6]⟩ [(3,dI 0)] [] [] 0 (lG xT) .n) .n)) .n))) Tryz.func171 rfl zCr trivial λx=>by kernel_rfl
def Wg:Ct TS:=⟨[.d (.st 4) 0,.d (.st 4) 1],[],[.st 4,.st 4],dI 2,[],[i6],bf,ir u5⟩
def zdr:d_ 215 Wg:=eL (T:=[(172,oe),(171,Lr)]) (h:=.n) Tryz.func215 rfl zCs ⟨HC,RW,trivial⟩ λx=>by kernel_rfl
def oC:Ct TS:=⟨[.d (.st 15) 0,.d (.st 15) 1],[],[.st 15,.st 15],.d .b 2,[],[.b],bf,ir oz⟩
def Kz:d_ 216 oC:=eL (T:=[]) (h:=.n) Tryz.func216 rfl zCt trivial λx=>by kernel_rfl
def Wh:Ct TS:=⟨[.d gD 0],[],[gD],.d .b 1,[],[.b],bf,λx=>Ae x⟩
def Zj:d_ 159 Wh:=eL (T:=[(212,Ky),(213,Zi),(214,jH),(215,Wg),(216,oC)]) (h:=.s .n (.s (.s (.j ⟨[(0,.d gD 0),(16,.d .b 1)],[],[gD],[.b]⟩ bf .n) .n) (.s .n (.s (.s .n (.s (.lr ⟨[(0,.d gD 0),(3,.d Hl 1),(19,.d Hl 1),(20,dI 2),(21,dI 3)],[],[gD,Hl,i6],[i6]⟩ [(3,.d Hl 1)] [] [] 0 (lG w6) (.s .n (.s .n (.s (.s (.s .n (.s .n (.s (.s (.j ⟨[(0,.d gD 0),(3,.d Hl 1),(4,dI 2),(19,.d Hl 1),(20,dI 3),(21,dI 2),(61,.d .b 4)],[],[gD,Hl,i6,i6],[.b]⟩ bf .n) .n) (.s (.j ⟨[(0,.d gD 0),(3,.d Hl 1),(19,.d Hl 1),(20,dI 2),(21,dI 3),(74,.d .b 4)],[],[gD,Hl,i6,i6],[.b]⟩ bf .n) .n)))) .n) .n)))) .n)) (.s (.s .n (.s (.lr ⟨[(3,.d Hl 0),(77,dI 1),(78,dI 2)],[],[Hl,i6],[i6]⟩ [(3,.d Hl 0)] [] [] 2 (ir w8) (.s .n (.s .n (.s (.s (.s .n (.s .n (.s (.lr ⟨[(3,.d Hl 0),(7,dI 1),(8,dI 3),(77,dI 2),(78,dI 1)],[],[Hl,i6,i6],[i6]⟩ [(3,.d Hl 0),(77,dI 2),(78,dI 1)] [] [] 4 (lG w7) (.s .n (.s (.s (.s (.j ⟨[(3,.d Hl 0),(7,dI 1),(8,dI 2),(77,dI 3),(78,dI 1),(106,.d .b 4)],[],[Hl,i6,i6,i6],[.b]⟩ bf .n) .n) .n) .n))) .n))) .n) .n)))) .n)) .n))))) Tryz.func159 rfl zCu ⟨We,zgv,uw,zdr,Kz,trivial⟩ λx=>by kernel_rfl
def SM:Ct TS:=⟨[.d gD 0],[],[gD],.d .b 1,[],[.b],bf,λx=>qy x⟩
def zpy:d_ 62 SM:=eL (T:=[(159,Wh)]) (h:=.n) Tryz.func62 rfl adD ⟨Zj,trivial⟩ λx=>by kernel_rfl
def HD:Ct TS:=⟨[.d a_ 0,.d a_ 1],[],[a_,a_],.d .b 2,[],[.b],bf,ir wM⟩
def Wi:d_ 209 HD:=eL (T:=[]) (h:=.s .n (.s .n (.s (.s .n (.s (.lr ⟨[(0,.d a_ 0),(1,.d a_ 1),(12,dI 2),(13,dI 3)],[],[a_,a_,i6],[i6]⟩ [] [] [] 0 (lG vI) .n) .n)) .n))) Tryz.func209 rfl zCv trivial λx=>by kernel_rfl
def vv(RK:Nat):Ct TS:=⟨[.d dR 0,.d dR 1,.fn 137 [] []],[],[dR,dR],.d .b 2,[],[.b],bf,λx=>xI RK x.1 x.2⟩
def kO(RK:Nat):Ct TS:=⟨[.d (.st 0) 0,.d (.st 0) 1],[],[.st 0,.st 0],.d .b 2,[],[.b],bf,λx=>wj RK x.1 x.2⟩
def wK:∀RK,(vv RK).OK bH 208/\(kO RK).OK bH 137
 |0=>⟨(λx r h=>nomatch (show(bh:Option _)=aY r from h)),(λx r h=>nomatch (show(bh:Option _)=aY r from h))⟩
 |RK+1=>⟨(eL (c:=vv (RK+1)) (T:=[(137,kO RK)]) (h:=.s .n (.s .n (.s (.s .n (.s (.lr ⟨[(1,.d dR 0),(2,.fn 137 [] []),(15,.d dR 1),(16,dI 2),(17,dI 3)],[],[dR,dR,i6],[i6]⟩ [] [] [] 0 (λx K v=>xU (wj RK) x.1 x.2.1 x.2.2 K v) .n) .n)) .n))) Tryz.func208 rfl UP ⟨⟨Mm,(wK RK).2⟩,trivial⟩ λx=>by kernel_rfl).2,(eL (c:=kO (RK+1)) (T:=[(208,vv RK)]) (h:=.n) Tryz.func137 rfl Mm ⟨⟨UP,(wK RK).1⟩,trivial⟩ λx=>by kernel_rfl).2⟩
def Wj(RK:Nat):zb bH 137/\(kO RK).OK bH 137:=⟨Mm,(wK RK).2⟩
def KA:Ct TS:=⟨[.d (.st 7) 0,.d (.st 7) 1],[],[.st 7,.st 7],.d .b 2,[],[.b],bf,ir vJ⟩
def Wk:d_ 147 KA:=eL (T:=[(209,HD),(137,kO KK)]) (h:=.s .n (.s (.s (.j ⟨[(2,.ptr 1000002 0),(3,.ptr 1000003 0),(27,.d .b 40)],Nn,I1,[.b]⟩ bf .n) .n) (.s (.j ⟨[(2,.ptr 1000002 0),(3,.ptr 1000003 0),(5,.d .b 40)],Nn,I1,[.b]⟩ bf .n) .n))) Tryz.func147 rfl zCw ⟨Wi,(Wj KK),trivial⟩ λx=>by kernel_rfl
def Wl:Ct TS:=⟨[.d (.st 7) 0],h2,[.st 7],.d .b 1,h2,[.b],bf,λx=>qd x⟩
def zds:d_ 63 Wl:=eL (T:=[(157,od),(61,Lq),(58,Jc),(147,KA)]) (h:=.s .n (.s (.s (.j ⟨[(1,.ptr 1000001 0),(37,.d .b 20)],[(900000000,.rw 1),(900000001,.rw 2),(900000002,.rw 3),(900000003,.rw 4),(1000001,.box 38 [.d .s 0,.d a_ 1,.d a_ 2,dI 3,dI 4,dI 5,.d .b 6,dI 7,dI 8,dI 9,.d .s 10,.d .s 11,.d dR 12,dI 13,dI 14,dI 15,dI 16,dI 17,dI 18,dI 19])],O5,[.b]⟩ bf .n) .n) (.s .n (.s .n (.s (.j ⟨[(1,.ptr 1000001 0),(3,.ptr 1000003 0),(4,.d .b 20)],[(900000000,.rw 1),(900000001,.rw 2),(900000002,.rw 3),(900000003,.rw 4),(1000001,.box 38 [.d .s 0,.d a_ 1,.d a_ 2,dI 3,dI 4,dI 5,.d .b 6,dI 7,dI 8,dI 9,.d .s 10,.d .s 11,.d dR 12,dI 13,dI 14,dI 15,dI 16,dI 17,dI 18,dI 19]),(1000003,.box 38 [.d .s 0,.d a_ 1,.d a_ 2,dI 3,dI 4,dI 5,.d .b 6,dI 7,dI 21,dI 22,.d .s 23,.d .s 24,.d dR 25,dI 26,dI 27,dI 28,dI 29,dI 30,dI 31,dI 32])],O5,[.b,i6,i6,.s,.s,dR,i6,i6,i6,i6,i6,i6,i6]⟩ bf .n) .n))))) Tryz.func63 rfl adE ⟨qC,RV,K8,Wk,trivial⟩ λx=>by kernel_rfl
def Wm:Ct TS:=⟨[.d (.st 12) 0],h2,[.st 12],.d .b 1,h2,[.b],bf,λx=>Af x⟩
def Q9:d_ 21 Wm:=eL (T:=[(46,SL),(48,Zc),(50,Zd),(52,Ze),(54,Zf),(56,Zg),(58,Jc),(59,Zh),(61,Lq),(62,SM),(63,Wl)]) (h:=.s .n (.s (.s (.j ⟨[(1,.ptr 1000001 0),(54,.d .b 8)],(mA 1000001 0 1 2 3 4 5 6 7),k1,[.b]⟩ bf .n) .n) (.s (.s .n (.s (.lr ⟨[(1,.ptr 1000001 0),(56,.d fP 0),(57,dI 1),(58,dI 9)],(mA 1000001 0 2 3 4 5 6 7 8),[fP,i6,e_,fh,eH,eM,zW,gh,i6],[i6]⟩ [(1,.ptr 1000001 0)] (mA 1000001 0 2 3 4 5 6 7 8) [] 0 (tE kB) .n) .n)) (.s (.s .n (.s (.lr ⟨[(1,.ptr 1000001 0),(68,.d e_ 0),(69,dI 1),(70,dI 9)],(mA 1000001 2 0 3 4 5 6 7 8),[e_,i6,fP,fh,eH,eM,zW,gh,i6],[i6]⟩ [(1,.ptr 1000001 0)] (mA 1000001 2 0 3 4 5 6 7 8) [] 2 (tE vK) (.s .n (.s .n (.s (.s (.s .n (.s (.s (.j ⟨[(1,.ptr 1000001 0),(6,.ptr 1000006 0),(68,.d e_ 0),(69,dI 1),(70,dI 2),(84,.d .b 13)],[(900000000,.rw 1),(900000001,.rw 2),(900000002,.rw 3),(900000003,.rw 4),(1000001,.box 30 [.d fP 3,.d e_ 0,.d fh 4,.d eH 5,.d eM 6,.d zW 7,.d gh 8,dI 9]),(1000006,.box 70 [.d .s 10,.d iG 11,dI 12])],[e_,i6,i6,fP,fh,eH,eM,zW,gh,i6,.s,iG,i6],[.b]⟩ bf .n) .n) (.s .n (.s (.lr ⟨[(1,.ptr 1000001 0),(68,.d e_ 0),(69,dI 1),(70,dI 2),(86,.d iG 3),(87,dI 4),(88,dI 12)],(mA 1000001 5 0 6 7 8 9 10 11),[e_,i6,i6,iG,i6,fP,fh,eH,eM,zW,gh,i6],[i6]⟩ [(1,.ptr 1000001 0),(68,.d e_ 0),(69,dI 1),(70,dI 2)] (mA 1000001 5 0 6 7 8 9 10 11) [] 4 (XX uq) .n) .n)))) .n) .n)))) .n)) (.s (.s .n (.s (.lr ⟨[(1,.ptr 1000001 0),(100,.d fh 0),(101,dI 1),(102,dI 9)],(mA 1000001 2 3 0 4 5 6 7 8),[fh,i6,fP,e_,eH,eM,zW,gh,i6],[i6]⟩ [(1,.ptr 1000001 0)] (mA 1000001 2 3 0 4 5 6 7 8) [] 6 (tE kC) .n) .n)) (.s (.s .n (.s (.lr ⟨[(1,.ptr 1000001 0),(112,.d eH 0),(113,dI 1),(114,dI 9)],(mA 1000001 2 3 4 0 5 6 7 8),[eH,i6,fP,e_,fh,eM,zW,gh,i6],[i6]⟩ [(1,.ptr 1000001 0)] (mA 1000001 2 3 4 0 5 6 7 8) [] 8 (tE kD) .n) .n)) (.s (.s .n (.s (.lr ⟨[(1,.ptr 1000001 0),(123,.d eM 0),(124,dI 1),(125,dI 9)],(mA 1000001 2 3 4 5 0 6 7 8),[eM,i6,fP,e_,fh,eH,zW,gh,i6],[i6]⟩ [(1,.ptr 1000001 0)] (mA 1000001 2 3 4 5 0 6 7 8) [] 10 (tE kE) (.s .n (.s .n (.s (.s (.s .n (.s (.j ⟨[(1,.ptr 1000001 0),(123,.d eM 0),(124,dI 1),(125,dI 2),(146,.d .b 10)],(mA 1000001 3 4 5 6 0 7 8 9),[eM,i6,i6,fP,e_,fh,eH,zW,gh,i6],[.b]⟩ bf .n) .n)) .n) .n)))) .n)) (.s (.s .n (.s (.lr ⟨[(1,.ptr 1000001 0),(149,.d zW 0),(150,dI 1),(151,dI 9)],(mA 1000001 2 3 4 5 6 0 7 8),[zW,i6,fP,e_,fh,eH,eM,gh,i6],[i6]⟩ [(1,.ptr 1000001 0)] (mA 1000001 2 3 4 5 6 0 7 8) [] 12 (tE vL) (.s .n (.s .n (.s (.s (.s .n (.s (.s (.j ⟨[(1,.ptr 1000001 0),(16,.ptr 1000016 0),(149,.d zW 0),(150,dI 1),(151,dI 2),(167,.d .b 16)],[(900000000,.rw 1),(900000001,.rw 2),(900000002,.rw 3),(900000003,.rw 4),(1000001,.box 30 [.d fP 3,.d e_ 4,.d fh 5,.d eH 6,.d eM 7,.d zW 0,.d gh 8,dI 9]),(1000016,.box 79 [.d .s 10,dI 11,dI 12,dI 13,dI 14,.d gh 15])],[zW,i6,i6,fP,e_,fh,eH,eM,gh,i6,.s,i6,i6,i6,i6,gh],[.b]⟩ bf .n) .n) (.s .n (.s (.lr ⟨[(1,.ptr 1000001 0),(149,.d zW 0),(150,dI 1),(151,dI 2),(173,.row 3 1000170),(174,dI 3),(175,dI 12)],(Og 4 5 6 7 8 9 10 11),[zW,i6,i6,i6,fP,e_,fh,eH,eM,gh,i6,gh],[i6]⟩ [(1,.ptr 1000001 0),(149,.d zW 0),(150,dI 1),(151,dI 2)] (mA 1000001 4 5 6 7 8 0 9 10) [] 14 (XX ur) (.s .n (.s .n (.s (.s (.s .n (.s (.j ⟨[(1,.ptr 1000001 0),(149,.d zW 0),(150,dI 1),(151,dI 2),(173,.row 3 1000170),(174,dI 3),(175,dI 4),(192,.d .b 13)],(Og 5 6 7 8 9 10 11 12),[zW,i6,i6,i6,i6,fP,e_,fh,eH,eM,gh,i6,gh],[.b]⟩ bf .n) .n)) .n) .n)))) .n)))) .n) .n)))) .n)) (.s (.s .n (.s (.lr ⟨[(1,.ptr 1000001 0),(196,.d gh 0),(197,dI 1),(198,dI 9)],(mA 1000001 2 3 4 5 6 7 0 8),[gh,i6,fP,e_,fh,eH,eM,zW,i6],[i6]⟩ [(1,.ptr 1000001 0)] (mA 1000001 2 3 4 5 6 7 0 8) [] 16 (tE kG) (.s .n (.s .n (.s (.s (.s .n (.s (.j ⟨[(1,.ptr 1000001 0),(196,.d gh 0),(197,dI 1),(198,dI 2),(215,.d .b 10)],(mA 1000001 3 4 5 6 7 8 0 9),[gh,i6,i6,fP,e_,fh,eH,eM,zW,i6],[.b]⟩ bf .n) .n)) .n) .n)))) .n)) .n))))))))) Tryz.func21 rfl ac1 ⟨zpx,zgp,zgq,zgr,zgs,zgt,K8,zgu,RV,zpy,zds,trivial⟩ λx=>by kernel_rfl
def Ls:Ct TS:=⟨[.d (.st 12) 0],[],[.st 12],.ag [dI 1,.d .s 2,.d .s 3,dI 4,.d .s 5,.d a_ 6,.d a_ 7,dI 8,dI 9,dI 10,.d .b 11,dI 12,dI 13,dI 14,.d .s 15,.d .s 16,.d dR 17,dI 18,dI 19,dI 20,dI 21,dI 22,dI 23,dI 24,dI 25,dI 26,.d .s 27,.d .s 28,.d dR 29,.d gD 30],(G3 7000001 1 2 3 4 5 6 7 8 9 10 11 12 13 14 15 16 17 18 19 20 21 22 23 24 25 26 27 28 29 30),A_,bf,λx=>Hi x⟩
def RX:d_ 28 Ls:=mq (cd:=mz) (nb:=l0) (rc:=[(2,7000001,0)]) (T:=[]) (h:=.s .n (.s .n (.s .n (.s .n (.s (.j ⟨[(2,.ptr 1000002 0),(4,.ptr 1000004 0)],(Oh 1 0 1 2 2 0 0 0 3 0 0 0 1 1 4 0 0 0 0 0 0 0 0 0 1 1 4 5 1000004 6 7 1 9 1 2 2 0 0 0 3 0 0 0 1 1 4 0 0 0 0 0 0 0 0 0 1 1 4 8),[i6,.s,a_,.b,dR,gD,i6,.s,gD],[i6]⟩ bf .n) .n))))) Tryz.func28 rfl ac7 trivial λx=>by kernel_rfl
def xy:Ct TS:=⟨[.d gD 0,.d gD 1],[],[gD,gD],.d .b 2,[],[.b],bf,ir ym⟩
def wz:d_ 45 xy:=eL (T:=[]) (h:=.s .n (.s .n (.s (.s .n (.s (.lr ⟨[(0,.d gD 0),(1,.d gD 1),(12,dI 2),(13,dI 3)],[],[gD,gD,i6],[i6]⟩ [] [] [] 0 (lG wU) .n) .n)) .n))) Tryz.func45 rfl adm trivial λx=>by kernel_rfl
def SN:Ct TS:=⟨[.d (.st 1) 0,.d (.st 1) 1],[],[.st 1,.st 1],.d .b 2,[],[.b],bf,ir Q3⟩
def zpz:d_ 136 SN:=eL (T:=[(137,kO KK)]) (h:=.n) Tryz.func136 rfl zCx ⟨(Wj KK),trivial⟩ λx=>by kernel_rfl
def jQ:Ct TS:=⟨[.d fP 0,.d fP 1,.fn 136 [] []],[],[fP,fP],.d .b 2,[],[.b],bf,ir yM⟩
def Am:d_ 144 jQ:=eL (T:=[(136,SN)]) (h:=.s .n (.s .n (.s (.s .n (.s (.lr ⟨[(1,.d fP 0),(2,.fn 136 [] []),(15,.d fP 1),(16,dI 2),(17,dI 3)],[],[fP,fP,i6],[i6]⟩ [] [] [] 0 (lG xa) .n) .n)) .n))) Tryz.func144 rfl zCy ⟨zpz,trivial⟩ λx=>by kernel_rfl
def oD:Ct TS:=⟨[.d iG 0,.d iG 1],[],[iG,iG],.d .b 2,[],[.b],bf,ir wO⟩
def KB:d_ 139 oD:=eL (T:=[]) (h:=.s .n (.s .n (.s (.s .n (.s (.lr ⟨[(0,.d iG 0),(1,.d iG 1),(12,dI 2),(13,dI 3)],[],[iG,iG,i6],[i6]⟩ [] [] [] 0 (lG wV) .n) .n)) .n))) Tryz.func139 rfl zCz trivial λx=>by kernel_rfl
def SO:Ct TS:=⟨[.d (.st 3) 0,.d (.st 3) 1],[],[.st 3,.st 3],.d .b 2,[],[.b],bf,ir Q4⟩
def zp0:d_ 138 SO:=eL (T:=[(139,oD)]) (h:=.n) Tryz.func138 rfl zC0 ⟨KB,trivial⟩ λx=>by kernel_rfl
def jR:Ct TS:=⟨[.d e_ 0,.d e_ 1,.fn 138 [] []],[],[e_,e_],.d .b 2,[],[.b],bf,ir yN⟩
def An:d_ 145 jR:=eL (T:=[(138,SO)]) (h:=.s .n (.s .n (.s (.s .n (.s (.lr ⟨[(1,.d e_ 0),(2,.fn 138 [] []),(15,.d e_ 1),(16,dI 2),(17,dI 3)],[],[e_,e_,i6],[i6]⟩ [] [] [] 0 (lG xb) .n) .n)) .n))) Tryz.func145 rfl zC1 ⟨zp0,trivial⟩ λx=>by kernel_rfl
def jS:Ct TS:=⟨[.d eH 0,.d eH 1,.fn 147 [] []],[],[eH,eH],.d .b 2,[],[.b],bf,ir yO⟩
def Ao:d_ 146 jS:=eL (T:=[(147,KA)]) (h:=.s .n (.s .n (.s (.s .n (.s (.lr ⟨[(1,.d eH 0),(2,.fn 147 [] []),(15,.d eH 1),(16,dI 2),(17,dI 3)],[],[eH,eH,i6],[i6]⟩ [] [] [] 0 (lG xd) .n) .n)) .n))) Tryz.func146 rfl zC2 ⟨Wk,trivial⟩ λx=>by kernel_rfl
def SP:Ct TS:=⟨[.d (.st 5) 0,.d (.st 5) 1],[],[.st 5,.st 5],.d .b 2,[],[.b],bf,ir Q5⟩
def zp1:d_ 140 SP:=eL (T:=[(45,xy)]) (h:=.n) Tryz.func140 rfl zC3 ⟨wz,trivial⟩ λx=>by kernel_rfl
def jT:Ct TS:=⟨[.d fh 0,.d fh 1,.fn 140 [] []],[],[fh,fh],.d .b 2,[],[.b],bf,ir yP⟩
def Aq:d_ 148 jT:=eL (T:=[(140,SP)]) (h:=.s .n (.s .n (.s (.s .n (.s (.lr ⟨[(1,.d fh 0),(2,.fn 140 [] []),(15,.d fh 1),(16,dI 2),(17,dI 3)],[],[fh,fh,i6],[i6]⟩ [] [] [] 0 (lG xe) .n) .n)) .n))) Tryz.func148 rfl zC4 ⟨zp1,trivial⟩ λx=>by kernel_rfl
def SQ:Ct TS:=⟨[.d (.st 8) 0,.d (.st 8) 1],[],[.st 8,.st 8],.d .b 2,[],[.b],bf,ir Q6⟩
def zp2:d_ 141 SQ:=eL (T:=[(45,xy)]) (h:=.n) Tryz.func141 rfl zC5 ⟨wz,trivial⟩ λx=>by kernel_rfl
def jU:Ct TS:=⟨[.d eM 0,.d eM 1,.fn 141 [] []],[],[eM,eM],.d .b 2,[],[.b],bf,ir yQ⟩
def Ar:d_ 149 jU:=eL (T:=[(141,SQ)]) (h:=.s .n (.s .n (.s (.s .n (.s (.lr ⟨[(1,.d eM 0),(2,.fn 141 [] []),(15,.d eM 1),(16,dI 2),(17,dI 3)],[],[eM,eM,i6],[i6]⟩ [] [] [] 0 (lG xf) .n) .n)) .n))) Tryz.func149 rfl zC6 ⟨zp2,trivial⟩ λx=>by kernel_rfl
def jI:Ct TS:=⟨[.d gh 0,.d gh 1],[],[gh,gh],.d .b 2,[],[.b],bf,ir xr⟩
def ux:d_ 143 jI:=eL (T:=[]) (h:=.s .n (.s .n (.s (.s .n (.s (.lr ⟨[(0,.d gh 0),(1,.d gh 1),(12,dI 2),(13,dI 3)],[],[gh,gh,i6],[i6]⟩ [] [] [] 0 (lG wW) .n) .n)) .n))) Tryz.func143 rfl zC7 trivial λx=>by kernel_rfl
def SR:Ct TS:=⟨[.d (.st 10) 0,.d (.st 10) 1],[],[.st 10,.st 10],.d .b 2,[],[.b],bf,ir Q7⟩
def zp3:d_ 142 SR:=eL (T:=[(143,jI)]) (h:=.n) Tryz.func142 rfl zC8 ⟨ux,trivial⟩ λx=>by kernel_rfl
def jV:Ct TS:=⟨[.d zW 0,.d zW 1,.fn 142 [] []],[],[zW,zW],.d .b 2,[],[.b],bf,ir yR⟩
def As:d_ 150 jV:=eL (T:=[(142,SR)]) (h:=.s .n (.s .n (.s (.s .n (.s (.lr ⟨[(1,.d zW 0),(2,.fn 142 [] []),(15,.d zW 1),(16,dI 2),(17,dI 3)],[],[zW,zW,i6],[i6]⟩ [] [] [] 0 (lG xg) .n) .n)) .n))) Tryz.func150 rfl zC9 ⟨zp3,trivial⟩ λx=>by kernel_rfl
def Mh:Ct TS:=⟨[.d (.st 12) 0,.d (.st 12) 1],[],[.st 12,.st 12],.d .b 2,[],[.b],bf,ir DO⟩
def T7:d_ 40 Mh:=eL (T:=[(144,jQ),(145,jR),(146,jS),(148,jT),(149,jU),(150,jV),(143,jI)]) (h:=.s .n (.s .n (.s .n (.s .n (.s .n (.s .n (.s (.j ⟨[(2,.ptr 1000002 0),(3,.ptr 1000003 0),(7,.fn 140 [] []),(8,.fn 141 [] []),(9,.fn 142 [] []),(10,.d .b 16)],pQ,sQ,[.b]⟩ bf .n) (.s (.j ⟨[(2,.ptr 1000002 0),(3,.ptr 1000003 0),(10,.d .b 0),(11,.d .b 17)],Cp,[.b,fP,e_,fh,eH,eM,zW,gh,i6,fP,e_,fh,eH,eM,zW,gh,i6],[.b]⟩ bf .n) .n)))))))) Tryz.func40 rfl adi ⟨Am,An,Ao,Aq,Ar,As,ux,trivial⟩ λx=>by kernel_rfl
def Va:Ct TS:=⟨[.d (.st 13) 0,.d (.st 13) 1],[],[.st 13,.st 13],.d .b 2,[],[.b],bf,ir vX⟩
def Wn:d_ 18 Va:=eL (T:=[(45,xy),(40,Mh)]) (h:=.s .n (.s (.j ⟨[(2,.ptr 1000002 0),(3,.ptr 1000003 0),(5,.d .b 60)],Fp,I2,[.b]⟩ bf .n) .n)) Tryz.func18 rfl acZ ⟨wz,T7,trivial⟩ λx=>by kernel_rfl
def uy:Ct TS:=⟨[.d (.st 13) 0],h2,[.st 13],.d .b 1,h2,[.b],bf,λx=>vh x⟩
def uz:d_ 16 uy:=eL (T:=[(32,Wc),(21,Wm),(28,Ls),(18,Va),(43,DU)]) (h:=.s .n (.s .n (.s (.s (.j ⟨[(1,.ptr 1000001 0),(36,.d .b 30)],(h5 1000001 0 1 2 3 4 5 6 7 8 9 10 11 12 13 14 15 16 17 18 19 20 21 22 23 24 25 26 27 28 29),A_,[.b]⟩ bf .n) .n) .n))) Tryz.func16 rfl acX ⟨Zb,Q9,RX,Wn,FT,trivial⟩ λx=>by kernel_rfl
def Wo:Ct TS:=⟨[.d (.st 13) 0],h2,[.st 13],.d .b 1,h2,[.b],bf,λx=>VY x⟩
def zdu:d_ 31 Wo:=eL (T:=[(16,uy)]) (h:=.n) Tryz.func31 rfl ac_ ⟨uz,trivial⟩ λx=>by kernel_rfl
def qD:Ct TS:=⟨[.d wy 0,.fn 31 [] []],h2,[wy],dI 1,h2,[i6],bf,λx=>qz x⟩
def Jd:d_ 114 qD:=eL (T:=[(31,Wo)]) (h:=.s .n (.s (.s .n (.s (.lr ⟨[(0,.d wy 0),(1,.fn 31 [] []),(7,dI 1),(8,dI 2)],h2,[wy,i6],[i6]⟩ [] h2 [] 0 (ir xV) .n) .n)) .n)) Tryz.func114 rfl zDa ⟨zdu,trivial⟩ λx=>by kernel_rfl
def jq:Ct TS:=⟨[.d wy 0,.fn 31 [] []],h2,[wy],.d .b 1,h2,[.b],bf,λx=>je x⟩
def aad:d_ 30 jq:=eL (T:=[(114,qD)]) (h:=.n) Tryz.func30 rfl ac9 ⟨Jd,trivial⟩ λx=>by kernel_rfl
def Mi:Ct TS:=⟨[dI 0],h2,[i6],.d .s 1,h2,[.s],bf,λx=>Ma x⟩
def T8:Mi.OK bH 122:=λx r h=>q0 (by kernel_rfl) (zBs x r h)
def RY:Ct TS:=⟨[.d .s 0,.d .s 1,.d .s 2,dI 3],h2,[.s,.s,.s,i6],.d .s 4,h2,[.s],bf,sn Rl⟩
def zld:RY.OK bH 121:=λx r h=>q0 (by kernel_rfl) (zov x.1 x.2.1 x.2.2.1 x.2.2.2 r h)
def SS:Ct TS:=⟨[.d (.st 13) 0],h2,[.st 13],.d .s 1,h2,[.s],bf,λx=>Ta x⟩
def zp8:d_ 34 SS:=eL (T:=[(122,Mi),(121,RY)]) (h:=.n) Tryz.func34 rfl ada ⟨⟨UQ,T8⟩,⟨zDb,zld⟩,trivial⟩ λx=>by kernel_rfl
def T9:Ct TS:=⟨[.ptr 1 0,.d .s 1],[(1,.gn 0 .s 0)],[.s,.s],.ij [dI 2,.mn],[(1,.gn 0 .s 3)],[i6,.s],bf,ir TW⟩
def zt5:T9.OK bH 35:=λx r h=>by obtain⟨_,h1,h2⟩:=bind_some h;cases h2;exact q0 (by kernel_rfl) (zxu acI 1 x.1 x.2 (yL h1))
def Ui:Ct TS:=⟨[.ptr 1 0],[(1,.gn 0 .s 0)],[.s],dI 1,[(1,.gn 0 .s 0)],[i6],bf,λx=>TX x⟩
def zt6:Ui.OK bH 36:=λx r h=>by
 cases h;exact q0 (by kernel_rfl) (zxv (T:=98) 1 x)
def Zk:Ct TS:=⟨[.ptr 1 0],[(1,.gn 0 .s 0)],[.s],.d .s 1,[(1,.gn 0 .s 0)],[.s],bf,λx=>YX x⟩
def zgw:Zk.OK bH 37:=λx r h=>by
 cases h;exact q0 (by kernel_rfl) (zks (T:=98) 1 x)
def RZ:Ct TS:=⟨[.d wy 0],h2,[wy],.ij [.d .s 1,dI 2],h2,[.s,i6],bf,λx=>Rm x⟩
def zle:d_ 12 RZ:=eL (T:=[(30,jq),(16,uy),(32,Wc),(34,SS),(35,T9),(36,Ui),(37,Zk)]) (h:=.s .n (.s (.s (.j ⟨[(0,.d wy 0),(19,.d .b 1)],h2,[wy],[.b]⟩ bf .n) .n) (.s .n (.s .n (.s (.s .n (.s (.lr ⟨[(4,.ptr 1000004 0),(5,dI 0),(20,.d wy 1),(21,dI 2),(22,dI 3)],(G5 4),[i6,wy,i6],[i6,.s]⟩ [(4,.ptr 1000004 0),(5,dI 0)] (G5 3) [.s] 0 (lG Ag) .n) .n)) (.s (.s (.j ⟨[(4,.ptr 1000004 0),(52,.d .b 1)],(G5 0),[.s],[.b]⟩ bf .n) .n) .n)))))) Tryz.func12 rfl acT ⟨aad,uz,Zb,zp8,⟨adb,zt5⟩,⟨ade,zt6⟩,⟨adf,zgw⟩,trivial⟩ λx=>by kernel_rfl
def Wq:Ct TS:=⟨[.d .s 0],[],[.s],.fn 65 [] [.ptr 7000001 0],[(7000001,.box 9 [.d .s 1])],[.s],bf,λx=>vM x⟩
def zdx:d_ 64 Wq:=eL (T:=[]) (h:=.n) Tryz.func64 rfl adF trivial λx=>by kernel_rfl
def og:Ct TS:=⟨[.d (.st 7) 0,.ptr 1 0],[(1,.box 9 [.d .s 1])],[.st 7,.s],.d .b 2,[(1,.box 9 [.d .s 1])],[.b],bf,ir u6⟩
def HE:d_ 65 og:=eL (T:=[]) (h:=.n) Tryz.func65 rfl adG trivial λx=>by kernel_rfl
def wL:Ct TS:=⟨[.d eH 0,.fn 65 [] [.ptr 1 0]],[(1,.box 9 [.d .s 1])],[eH,.s],dI 2,[(1,.box 9 [.d .s 1])],[i6],bf,ir yS⟩
def js:d_ 70 wL:=eL (T:=[(65,og)]) (h:=.s .n (.s (.s .n (.s (.lr ⟨[(0,.d eH 1),(1,.fn 65 [] [.ptr 1 0]),(7,dI 2),(8,dI 3)],[(1,.box 9 [.d .s 0])],[.s,eH,i6],[i6]⟩ [] [(1,.box 9 [.d .s 0])] [] 0 (lG zM) .n) .n)) .n)) Tryz.func70 rfl Gj ⟨HE,trivial⟩ λx=>by kernel_rfl
def xl:Ct TS:=⟨[.d eH 0,.fn 65 [] [.ptr 1 0]],[(1,.box 9 [.d .s 1])],[eH,.s],.d .b 2,[(1,.box 9 [.d .s 1])],[.b],bf,ir z8⟩
def vd:d_ 66 xl:=eL (T:=[(70,wL)]) (h:=.n) Tryz.func66 rfl adH ⟨js,trivial⟩ λx=>by kernel_rfl
def wS:Ct TS:=⟨[.d eH 0],[],[eH],.row 20 7000001,(h4 7000001 38 7 1),[eH],bf,λx=>yB x⟩
def vQ:d_ 93 wS:=eL (T:=[]) (h:=.n) Tryz.func93 rfl ad5 trivial (λx=>match x with|[]=>by kernel_rfl|_::_=>by kernel_rfl)
def Wr:Ct TS:=⟨[.d (.st 7) 0],[],[.st 7],.d .b 1,[],[.b],bf,λx=>VZ x⟩
def zdy:d_ 68 Wr:=eL (T:=[]) (h:=.n) Tryz.func68 rfl adI trivial λx=>by kernel_rfl
def jW:Ct TS:=⟨[.row 20 1,.fn 68 [] []],(h4 1 38 7 0),[eH],dI 1,(h4 1 38 7 0),[i6],bf,λx=>wD x⟩
def Au:d_ 70 jW:=eL (T:=[(68,Wr)]) (h:=.s .n (.s (.s .n (.s (.lr ⟨[(0,.row 20 1),(1,.fn 68 [] []),(7,dI 1),(8,dI 2)],(h4 1 38 7 0),[eH,i6],[i6]⟩ [] (h4 1 38 7 0) [] 0 (ir zN) .n) .n)) .n)) Tryz.func70 rfl Gj ⟨zdy,trivial⟩ λx=>by kernel_rfl
def Ws:Ct TS:=⟨[.rp 20 1 1 0,.ptr 2 0],PC,O6,.ij [],PD,[eH],bf,λx=>qe x.1 x.2.1 (qo x.2.2)⟩
def zdz:d_ 69 Ws:=eL (T:=[]) (h:=.n) Tryz.func69 rfl adJ trivial λx=>by kernel_rfl
def Uj:Ct TS:=⟨[.d eH 0,.fn 68 [] [],.fn 69 [] [.ptr 1 0],dI 31],Jh,aaP,.ij [.d eH 32,dI 33],Jh,[eH,i6],bf,λx=>FR x.1 (tP x.2) (sT x.2)⟩
def zt7:d_ 67 Uj:=mq (cd:=tY) (nb:=l0) (rc:=[]) (T:=[(93,wS),(70,jW),(69,Ws)]) (h:=.s .n (.s .n (.s .n (.s (.j ⟨[(0,.row 20 103001300),(2,.fn 69 [] [.ptr 1 0]),(10,dI 30)],(CZ 38 7),A_,[i6,eH]⟩ bg .n) .n)))) Tryz.func67 rfl PR ⟨vQ,Au,zdz,trivial⟩ λx=>by kernel_rfl
def jX:Ct TS:=⟨[.row 20 1,.fn 65 [] [.ptr 2 0]],EE,[eH,.s],dI 2,EE,[i6],bf,ir wE⟩
def Av:d_ 70 jX:=eL (T:=[(65,og)]) (h:=.s .n (.s (.s .n (.s (.lr ⟨[(0,.row 20 1),(1,.fn 65 [] [.ptr 2 0]),(7,dI 2),(8,dI 3)],EE,[eH,.s,i6],[i6]⟩ [] EE [] 0 (lG zO) .n) .n)) .n)) Tryz.func70 rfl Gj ⟨HE,trivial⟩ λx=>by kernel_rfl
def Wt:Ct TS:=⟨[.rp 20 1 1 0,.ptr 2 0],PC,O6,.ij [],PD,[eH],bf,λx=>qf x.1 x.2.1 (qo x.2.2)⟩
def zd0:d_ 72 Wt:=eL (T:=[]) (h:=.n) Tryz.func72 rfl adL trivial λx=>by kernel_rfl
def RF:Ct TS:=⟨[.d eH 0,.fn 65 [] [.ptr 1 0],.fn 72 [] [.ptr 2 0],dI 32],EF,aaQ,.ij [.d eH 33,dI 34],EF,[eH,i6],bf,λx=>JJ x.1 x.2.1 (tP x.2.2) (sT x.2.2)⟩
def zlf:d_ 67 RF:=mq (cd:=tY) (nb:=l0) (rc:=[]) (T:=[(93,wS),(70,jX),(72,Wt)]) (h:=.s .n (.s .n (.s .n (.s (.j ⟨[(0,.row 20 103001300),(2,.fn 72 [] [.ptr 2 0]),(10,dI 31)],[(1,.box 9 [.d .s 0]),(2,.box 41 [dI 1,.d .s 2,.d .s 3,dI 4,.d .s 5,.d a_ 6,.d a_ 7,dI 8,dI 9,dI 10,.d .b 11,dI 12,dI 13,dI 14,.d .s 15,.d .s 16,.d dR 17,dI 18,dI 19,dI 20,dI 21,dI 22,dI 23,dI 24,dI 25,dI 26,.d .s 27,.d .s 28,.d dR 29,.d gD 30]),(103001300,.row 38 (.st 7) 32 bf)],aaR,[i6,eH]⟩ bg .n) .n)))) Tryz.func67 rfl PR ⟨vQ,Av,zd0,trivial⟩ λx=>by kernel_rfl
def K9:Ct TS:=⟨[.d eH 0,.fn 65 [] [.ptr 1 0],.fn 72 [] [.ptr 2 0]],EF,aaS,.ij [.d eH 32,dI 33],EF,[eH,i6],bf,λx=>qA x.1 x.2.1 (qo x.2.2)⟩
def zap:d_ 71 K9:=eL (T:=[(66,xl),(67,RF)]) (h:=.n) Tryz.func71 rfl adK ⟨vd,zlf,trivial⟩ λx=>by kernel_rfl
def jJ:Ct TS:=⟨[.d fP 0],[],[fP],.row 6 7000001,(h4 7000001 67 1 1),[fP],bf,λx=>xt x⟩
def uA:d_ 90 jJ:=eL (T:=[]) (h:=.n) Tryz.func90 rfl ad2 trivial (λx=>match x with|[]=>by kernel_rfl|_::_=>by kernel_rfl)
def Wu:Ct TS:=⟨[.d (.st 1) 0,.ptr 1 0],Jh,aaT,.d .b 31,Jh,[.b],bf,λx=>V0 x.1 (qo x.2)⟩
def zd2:d_ 74 Wu:=eL (T:=[]) (h:=.n) Tryz.func74 rfl adN trivial λx=>by kernel_rfl
def jY:Ct TS:=⟨[.row 6 1,.fn 74 [] [.ptr 2 0]],Fq,aaU,dI 31,Fq,[i6],bf,λx=>wF x.1 (qo x.2)⟩
def Aw:d_ 160 jY:=eL (T:=[(74,Wu)]) (h:=.s .n (.s (.s .n (.s (.lr ⟨[(0,.row 6 1),(1,.fn 74 [] [.ptr 2 0]),(7,dI 31),(8,dI 32)],Fq,O7,[i6]⟩ [] Fq [] 0 (λx K v=>zP (EB.mk x.2.1 x.2.2.1 x.2.2.2.1 x.2.2.2.2.1 (nj x).1 (nk x).1 (nN x).1 (pe x).1 (pz x).1 (pR x).1 (pO x).1 (pP x).1 (rI x).1 (rJ x).1 (rK x).1 (rL x).1 (rM x).1 (rN x).1 (rO x).1 (rP x).1 (rQ x).1 (sB x).1 (sr x).1 (ss x).1 (sY x).1 (sZ x).1 (s3 x).1 (s4 x).1 (s5 x).1 (s6 x).1) x.1 (sX x) K v) .n) .n)) .n)) Tryz.func160 rfl UR ⟨zd2,trivial⟩ λx=>by kernel_rfl
def Wv:Ct TS:=⟨[.rp 6 1 1 0,.ptr 2 0],(o0 67 1 0 2 3 4 5 6 7 8 9 10 11 12 13 14 15 16 17 18 19 20 21 22 23 24 25 26 27 28 29 30 31),aaV,.ij [],(o0 67 1 32 2 3 4 5 6 7 8 9 10 11 12 13 14 15 16 17 18 19 20 21 22 23 24 25 26 27 28 29 30 31),[fP],bf,λx=>qg x.1 x.2.1 (qo x.2.2)⟩
def zd3:d_ 75 Wv:=eL (T:=[]) (h:=.n) Tryz.func75 rfl adO trivial λx=>by kernel_rfl
def RG:Ct TS:=⟨[.d fP 0,.fn 74 [] [.ptr 1 0],.fn 75 [] [.ptr 1 0],dI 31],Jh,O7,.ij [.d fP 32,dI 33],Jh,[fP,i6],bf,λx=>JK x.1 (tP x.2) (sT x.2)⟩
def zlg:d_ 73 RG:=mq (cd:=tY) (nb:=l0) (rc:=[]) (T:=[(90,jJ),(160,jY),(75,Wv)]) (h:=.s .n (.s .n (.s .n (.s (.j ⟨[(0,.row 6 103001300),(2,.fn 75 [] [.ptr 1 0]),(10,dI 30)],(CZ 67 1),A_,[i6,fP]⟩ bg .n) .n)))) Tryz.func73 rfl adM ⟨uA,Aw,zd3,trivial⟩ λx=>by kernel_rfl
def jK:Ct TS:=⟨[.d e_ 0],[],[e_],.row 3 7000001,(h4 7000001 70 3 1),[e_],bf,λx=>xu x⟩
def uB:d_ 91 jK:=eL (T:=[]) (h:=.n) Tryz.func91 rfl ad3 trivial (λx=>match x with|[]=>by kernel_rfl|_::_=>by kernel_rfl)
def Ww:Ct TS:=⟨[.d (.st 3) 0,.ptr 1 0],Jh,aaW,.d .b 31,Jh,[.b],bf,λx=>V1 x.1 (qo x.2)⟩
def zd5:d_ 77 Ww:=eL (T:=[]) (h:=.n) Tryz.func77 rfl adQ trivial λx=>by kernel_rfl
def jZ:Ct TS:=⟨[.row 3 1,.fn 77 [] [.ptr 2 0]],Fs,aaX,dI 31,Fs,[i6],bf,λx=>wG x.1 (qo x.2)⟩
def Ax:d_ 161 jZ:=eL (T:=[(77,Ww)]) (h:=.s .n (.s (.s .n (.s (.lr ⟨[(0,.row 3 1),(1,.fn 77 [] [.ptr 2 0]),(7,dI 31),(8,dI 32)],Fs,aaY,[i6]⟩ [] Fs [] 0 (λx K v=>zQ (EB.mk x.2.1 x.2.2.1 x.2.2.2.1 x.2.2.2.2.1 (nj x).1 (nk x).1 (nN x).1 (pe x).1 (pz x).1 (pR x).1 (pO x).1 (pP x).1 (rI x).1 (rJ x).1 (rK x).1 (rL x).1 (rM x).1 (rN x).1 (rO x).1 (rP x).1 (rQ x).1 (sB x).1 (sr x).1 (ss x).1 (sY x).1 (sZ x).1 (s3 x).1 (s4 x).1 (s5 x).1 (s6 x).1) x.1 (sX x) K v) .n) .n)) .n)) Tryz.func161 rfl US ⟨zd5,trivial⟩ λx=>by kernel_rfl
def oE:Ct TS:=⟨[.d iG 0],[],[iG],.row 2 7000001,(h4 7000001 134 2 1),[iG],bf,λx=>wP x⟩
def KC:d_ 98 oE:=eL (T:=[]) (h:=.n) Tryz.func98 rfl PS trivial (λx=>match x with|[]=>by kernel_rfl|_::_=>by kernel_rfl)
def JX:Ct TS:=⟨[.d (.st 2) 0,.ptr 1 0],Jh,aaZ,.d .b 31,Jh,[.b],bf,λx=>JL x.1 (qo x.2)⟩
def Yk:d_ 80 JX:=eL (T:=[]) (h:=.n) Tryz.func80 rfl adT trivial λx=>by kernel_rfl
def j3:Ct TS:=⟨[.row 2 1,.fn 80 [] [.ptr 2 0]],FG,aa0,dI 31,FG,[i6],bf,λx=>wH x.1 (qo x.2)⟩
def Ay:d_ 162 j3:=eL (T:=[(80,JX)]) (h:=.s .n (.s (.s .n (.s (.lr ⟨[(0,.row 2 1),(1,.fn 80 [] [.ptr 2 0]),(7,dI 31),(8,dI 32)],FG,O8,[i6]⟩ [] FG [] 0 (λx K v=>zR (EB.mk x.2.1 x.2.2.1 x.2.2.2.1 x.2.2.2.2.1 (nj x).1 (nk x).1 (nN x).1 (pe x).1 (pz x).1 (pR x).1 (pO x).1 (pP x).1 (rI x).1 (rJ x).1 (rK x).1 (rL x).1 (rM x).1 (rN x).1 (rO x).1 (rP x).1 (rQ x).1 (sB x).1 (sr x).1 (ss x).1 (sY x).1 (sZ x).1 (s3 x).1 (s4 x).1 (s5 x).1 (s6 x).1) x.1 (sX x) K v) .n) .n)) .n)) Tryz.func162 rfl UT ⟨Yk,trivial⟩ λx=>by kernel_rfl
def JY:Ct TS:=⟨[.rp 2 1 1 0,.ptr 2 0],(o0 134 2 0 2 3 4 5 6 7 8 9 10 11 12 13 14 15 16 17 18 19 20 21 22 23 24 25 26 27 28 29 30 31),aa1,.ij [],(o0 134 2 32 2 3 4 5 6 7 8 9 10 11 12 13 14 15 16 17 18 19 20 21 22 23 24 25 26 27 28 29 30 31),[iG],bf,λx=>vi x.1 x.2.1 (qo x.2.2)⟩
def Yl:d_ 81 JY:=eL (T:=[]) (h:=.n) Tryz.func81 rfl adU trivial λx=>by kernel_rfl
def RH:Ct TS:=⟨[.d iG 0,.fn 80 [] [.ptr 1 0],.fn 81 [] [.ptr 1 0],dI 31],Jh,O8,.ij [.d iG 32,dI 33],Jh,[iG,i6],bf,λx=>Ah x.1 (tP x.2) (sT x.2)⟩
def zlh:d_ 79 RH:=mq (cd:=tY) (nb:=l0) (rc:=[]) (T:=[(98,oE),(162,j3),(81,JY)]) (h:=.s .n (.s .n (.s .n (.s (.j ⟨[(0,.row 2 103001300),(2,.fn 81 [] [.ptr 1 0]),(10,dI 30)],(CZ 134 2),A_,[i6,iG]⟩ bg .n) .n)))) Tryz.func79 rfl adS ⟨KC,Ay,Yl,trivial⟩ λx=>by kernel_rfl
def Wx:Ct TS:=⟨[.rp 3 1 1 0,.ptr 2 0,.ptr 3 0],(Oi 0 32),aa2,.ij [],(Oi 33 34),[e_,i6],bf,λx=>qh x.1 x.2.1 (tP x.2.2) (sT x.2.2)⟩
def zd7:d_ 78 Wx:=eL (T:=[(79,RH)]) (h:=.n) Tryz.func78 rfl adR ⟨zlh,trivial⟩ λx=>by kernel_rfl
def RI:Ct TS:=⟨[.d e_ 0,.fn 77 [] [.ptr 1 0],.fn 78 [] [.ptr 1 0,.ptr 2 0],dI 32],(Oj 31),aa3,.ij [.d e_ 33,dI 34],(Oj 35),[e_,i6,i6],bf,λx=>JM x.1 (tP x.2) (sT x.2).1 (sT x.2).2⟩
def zli:d_ 76 RI:=mq (cd:=tY) (nb:=l0) (rc:=[]) (T:=[(91,jK),(161,jZ),(78,Wx)]) (h:=.s .n (.s .n (.s .n (.s (.j ⟨[(0,.row 3 103001300),(2,.fn 78 [] [.ptr 1 0,.ptr 2 0]),(10,dI 31)],[(1,.box 41 [dI 0,.d .s 1,.d .s 2,dI 3,.d .s 4,.d a_ 5,.d a_ 6,dI 7,dI 8,dI 9,.d .b 10,dI 11,dI 12,dI 13,.d .s 14,.d .s 15,.d dR 16,dI 17,dI 18,dI 19,dI 20,dI 21,dI 22,dI 23,dI 24,dI 25,.d .s 26,.d .s 27,.d dR 28,.d gD 29]),(2,.box 48 [dI 30]),(103001300,.row 70 (.st 3) 32 bf)],aa4,[i6,e_]⟩ bg .n) .n)))) Tryz.func76 rfl adP ⟨uB,Ax,zd7,trivial⟩ λx=>by kernel_rfl
def Wy:Ct TS:=⟨[.d (.st 5) 0,.ptr 1 0],Jh,O9,.d .b 31,Jh,[.b],bf,λx=>V2 x.1 (qo x.2)⟩
def zd9:d_ 83 Wy:=eL (T:=[]) (h:=.n) Tryz.func83 rfl adV trivial λx=>by kernel_rfl
def j4:Ct TS:=⟨[.d fh 0,.fn 83 [] [.ptr 1 0]],Jh,O_,dI 31,Jh,[i6],bf,λx=>wI x.1 (qo x.2)⟩
def Az:d_ 82 j4:=eL (T:=[(83,Wy)]) (h:=.s .n (.s (.s .n (.s (.lr ⟨[(0,.d fh 30),(1,.fn 83 [] [.ptr 1 0]),(7,dI 31),(8,dI 32)],Gi,aa5,[i6]⟩ [] Gi [] 0 (λx K v=>zS (EB.mk x.1 x.2.1 x.2.2.1 x.2.2.2.1 x.2.2.2.2.1 (nj x).1 (nk x).1 (nN x).1 (pe x).1 (pz x).1 (pR x).1 (pO x).1 (pP x).1 (rI x).1 (rJ x).1 (rK x).1 (rL x).1 (rM x).1 (rN x).1 (rO x).1 (rP x).1 (rQ x).1 (sB x).1 (sr x).1 (ss x).1 (sY x).1 (sZ x).1 (s3 x).1 (s4 x).1 (s5 x).1) (s6 x).1 (sX x) K v) .n) .n)) .n)) Tryz.func82 rfl MR ⟨zd9,trivial⟩ λx=>by kernel_rfl
def jL:Ct TS:=⟨[.d fh 0],[],[fh],.row 3 7000001,(h4 7000001 72 5 1),[fh],bf,λx=>xv x⟩
def uC:d_ 92 jL:=eL (T:=[]) (h:=.n) Tryz.func92 rfl ad4 trivial (λx=>match x with|[]=>by kernel_rfl|_::_=>by kernel_rfl)
def Qa:Ct TS:=⟨[.d (.st 5) 0,.ptr 1 0],Jh,O9,.d .b 31,Jh,[.b],bf,λx=>K5 x.1 (qo x.2)⟩
def zaq:d_ 85 Qa:=eL (T:=[]) (h:=.n) Tryz.func85 rfl adX trivial λx=>by kernel_rfl
def j5:Ct TS:=⟨[.row 3 1,.fn 85 [] [.ptr 2 0]],Ft,O_,dI 31,Ft,[i6],bf,λx=>wJ x.1 (qo x.2)⟩
def AA:d_ 82 j5:=eL (T:=[(85,Qa)]) (h:=.s .n (.s (.s .n (.s (.lr ⟨[(0,.row 3 1),(1,.fn 85 [] [.ptr 2 0]),(7,dI 31),(8,dI 32)],Ft,O',[i6]⟩ [] Ft [] 0 (λx K v=>zU (EB.mk x.2.1 x.2.2.1 x.2.2.2.1 x.2.2.2.2.1 (nj x).1 (nk x).1 (nN x).1 (pe x).1 (pz x).1 (pR x).1 (pO x).1 (pP x).1 (rI x).1 (rJ x).1 (rK x).1 (rL x).1 (rM x).1 (rN x).1 (rO x).1 (rP x).1 (rQ x).1 (sB x).1 (sr x).1 (ss x).1 (sY x).1 (sZ x).1 (s3 x).1 (s4 x).1 (s5 x).1 (s6 x).1) x.1 (sX x) K v) .n) .n)) .n)) Tryz.func82 rfl MR ⟨zaq,trivial⟩ λx=>by kernel_rfl
def Qb:Ct TS:=⟨[.rp 3 1 1 0,.ptr 2 0],(o0 72 5 0 2 3 4 5 6 7 8 9 10 11 12 13 14 15 16 17 18 19 20 21 22 23 24 25 26 27 28 29 30 31),aa6,.ij [],(o0 72 5 32 2 3 4 5 6 7 8 9 10 11 12 13 14 15 16 17 18 19 20 21 22 23 24 25 26 27 28 29 30 31),[fh],bf,λx=>jf x.1 x.2.1 (qo x.2.2)⟩
def zar:d_ 86 Qb:=eL (T:=[]) (h:=.n) Tryz.func86 rfl adY trivial λx=>by kernel_rfl
def R7:Ct TS:=⟨[.d fh 0,.fn 85 [] [.ptr 1 0],.fn 86 [] [.ptr 1 0],dI 31],Jh,O',.ij [.d fh 32,dI 33],Jh,[fh,i6],bf,λx=>JN x.1 (tP x.2) (sT x.2)⟩
def zlj:d_ 84 R7:=mq (cd:=tY) (nb:=l0) (rc:=[]) (T:=[(92,jL),(82,j5),(86,Qb)]) (h:=.s .n (.s .n (.s .n (.s (.j ⟨[(0,.row 3 103001300),(2,.fn 86 [] [.ptr 1 0]),(10,dI 30)],(CZ 72 5),A_,[i6,fh]⟩ bg .n) .n)))) Tryz.func84 rfl adW ⟨uC,AA,zar,trivial⟩ λx=>by kernel_rfl
def AB:Ct TS:=⟨[.d (.st 8) 0,.ptr 1 0],Jh,aa7,.d .b 31,Jh,[.b],bf,λx=>Ai x.1 (qo x.2)⟩
def JZ:d_ 88 AB:=eL (T:=[]) (h:=.n) Tryz.func88 rfl ad0 trivial λx=>by kernel_rfl
def jt:Ct TS:=⟨[.d eM 0,.fn 88 [] [.ptr 1 0]],Jh,E2,dI 31,Jh,[i6],bf,λx=>xW x.1 (qo x.2)⟩
def aae:d_ 207 jt:=eL (T:=[(88,AB)]) (h:=.s .n (.s (.s .n (.s (.lr ⟨[(0,.d eM 30),(1,.fn 88 [] [.ptr 1 0]),(7,dI 31),(8,dI 32)],Gi,aa8,[i6]⟩ [] Gi [] 0 (λx K v=>zF (EB.mk x.1 x.2.1 x.2.2.1 x.2.2.2.1 x.2.2.2.2.1 (nj x).1 (nk x).1 (nN x).1 (pe x).1 (pz x).1 (pR x).1 (pO x).1 (pP x).1 (rI x).1 (rJ x).1 (rK x).1 (rL x).1 (rM x).1 (rN x).1 (rO x).1 (rP x).1 (rQ x).1 (sB x).1 (sr x).1 (ss x).1 (sY x).1 (sZ x).1 (s3 x).1 (s4 x).1 (s5 x).1) (s6 x).1 (sX x) K v) .n) .n)) .n)) Tryz.func207 rfl Mn ⟨JZ,trivial⟩ λx=>by kernel_rfl
def vw:Ct TS:=⟨[.d eM 0,.fn 88 [] [.ptr 1 0]],Jh,E2,.d .b 31,Jh,[.b],bf,λx=>yo x.1 (qo x.2)⟩
def aas:d_ 163 vw:=eL (T:=[(207,jt)]) (h:=.n) Tryz.func163 rfl zDe ⟨aae,trivial⟩ λx=>by kernel_rfl
def jM:Ct TS:=⟨[.d eM 0],[],[eM],.row 4 7000001,(h4 7000001 75 8 1),[eM],bf,λx=>xw x⟩
def uE:d_ 94 jM:=eL (T:=[]) (h:=.n) Tryz.func94 rfl ad6 trivial (λx=>match x with|[]=>by kernel_rfl|_::_=>by kernel_rfl)
def ju:Ct TS:=⟨[.row 4 1,.fn 88 [] [.ptr 2 0]],FF,E2,dI 31,FF,[i6],bf,λx=>xX x.1 (qo x.2)⟩
def aaf:d_ 207 ju:=eL (T:=[(88,AB)]) (h:=.s .n (.s (.s .n (.s (.lr ⟨[(0,.row 4 1),(1,.fn 88 [] [.ptr 2 0]),(7,dI 31),(8,dI 32)],FF,Pa,[i6]⟩ [] FF [] 0 (λx K v=>zG (EB.mk x.2.1 x.2.2.1 x.2.2.2.1 x.2.2.2.2.1 (nj x).1 (nk x).1 (nN x).1 (pe x).1 (pz x).1 (pR x).1 (pO x).1 (pP x).1 (rI x).1 (rJ x).1 (rK x).1 (rL x).1 (rM x).1 (rN x).1 (rO x).1 (rP x).1 (rQ x).1 (sB x).1 (sr x).1 (ss x).1 (sY x).1 (sZ x).1 (s3 x).1 (s4 x).1 (s5 x).1 (s6 x).1) x.1 (sX x) K v) .n) .n)) .n)) Tryz.func207 rfl Mn ⟨JZ,trivial⟩ λx=>by kernel_rfl
def Qc:Ct TS:=⟨[.rp 4 1 1 0,.ptr 2 0],(o0 75 8 0 2 3 4 5 6 7 8 9 10 11 12 13 14 15 16 17 18 19 20 21 22 23 24 25 26 27 28 29 30 31),aa9,.ij [],(o0 75 8 32 2 3 4 5 6 7 8 9 10 11 12 13 14 15 16 17 18 19 20 21 22 23 24 25 26 27 28 29 30 31),[eM],bf,λx=>jg x.1 x.2.1 (qo x.2.2)⟩
def zas:d_ 89 Qc:=eL (T:=[]) (h:=.n) Tryz.func89 rfl ad1 trivial λx=>by kernel_rfl
def R8:Ct TS:=⟨[.d eM 0,.fn 88 [] [.ptr 1 0],.fn 89 [] [.ptr 1 0],dI 31],Jh,Pa,.ij [.d eM 32,dI 33],Jh,[eM,i6],bf,λx=>JO x.1 (tP x.2) (sT x.2)⟩
def zlk:d_ 164 R8:=mq (cd:=tY) (nb:=l0) (rc:=[]) (T:=[(94,jM),(207,ju),(89,Qc)]) (h:=.s .n (.s .n (.s .n (.s (.j ⟨[(0,.row 4 103001300),(2,.fn 89 [] [.ptr 1 0]),(10,dI 30)],(CZ 75 8),A_,[i6,eM]⟩ bg .n) .n)))) Tryz.func164 rfl zDf ⟨uE,aaf,zas,trivial⟩ λx=>by kernel_rfl
def HG:Ct TS:=⟨[.d eM 0,.fn 88 [] [.ptr 1 0],.fn 89 [] [.ptr 1 0]],Jh,E2,.ij [.d eM 31,dI 32],Jh,[eM,i6],bf,λx=>vY x.1 (qo x.2)⟩
def Wz:d_ 87 HG:=eL (T:=[(163,vw),(164,R8)]) (h:=.n) Tryz.func87 rfl adZ ⟨aas,zlk,trivial⟩ λx=>by kernel_rfl
def R9:Ct TS:=⟨[.d (.st 12) 0,.d (.st 13) 1],[],[.st 12,.st 13],.ij [.ag [.d fP 3,.d e_ 4,.d fh 5,.d eH 6,.d eM 7,.d zW 8,.d gh 9,dI 10],dI 2],(rz 7000001 3 4 5 6 7 8 9 10),E3,bf,ir yy⟩
def zll:d_ 22 R9:=mq (cd:=mz) (nb:=l0) (rc:=[(4,7000001,0)]) (T:=[(64,Wq),(66,xl),(67,Uj),(70,wL),(71,K9),(73,RG),(76,RI),(82,j4),(84,R7),(87,HG)]) (h:=.s .n (.s .n (.s .n (.s (.j ⟨[(2,.ptr 1000002 0),(4,.ptr 1000004 0),(6,dI 11)],(G4 12 13 14 15 16 0 1 2 1000004 3 4 5 6 7 8 9 10),[zW,gh,i6,fP,e_,fh,eH,eM,zW,gh,i6],[i6,fP,e_,fh,eH,eM]⟩ bg (.s .n (.s (.s .n (.s .n (.s .n (.s (.s (.s .n (.s (.j ⟨[(2,.ptr 1000002 0),(3,.ptr 1000003 0),(4,.ptr 1000004 0),(7,.fn 64 [] []),(62,.d .b 46)],Ol,I3,[.b]⟩ bf .n) .n)) .n) (.s .n (.s .n (.s .n (.s .n (.s .n (.s (.s (.s .n (.s (.j ⟨[(2,.ptr 1000002 0),(3,.ptr 1000003 0),(4,.ptr 1000004 0),(120,.d .b 46)],Ol,I3,[.b]⟩ bf .n) .n)) .n) .n)))))))))) .n))) .n)))) Tryz.func22 rfl ac2 ⟨zdx,vd,zt7,js,zap,zlg,zli,Az,zlj,Wz,trivial⟩ λx=>by kernel_rfl
def oF:Ct TS:=⟨[.d zW 0],[],[zW],.row 6 7000001,(h4 7000001 79 10 1),[zW],bf,λx=>wQ x⟩
def KD:d_ 95 oF:=eL (T:=[]) (h:=.n) Tryz.func95 rfl ad7 trivial (λx=>match x with|[]=>by kernel_rfl|_::_=>by kernel_rfl)
def oG:Ct TS:=⟨[.d gh 0],[],[gh],.d gh 1,[],[gh],bf,λx=>xx x⟩
def KE:d_ 96 oG:=eL (T:=[]) (h:=.n) Tryz.func96 rfl ad8 trivial (λx=>match x with|[]=>by kernel_rfl|_::_=>by kernel_rfl)
def ql(RK:Nat):Ct TS:=⟨[.d (.st 0) 0],[],[.st 0],.ag [dI 1,dI 2,.d .s 3,.d .s 4,.d dR 5],(EH 7000001 1 2 3 4 5),[i6,i6,.s,.s,dR],bf,λx=>xh RK x⟩
def J0:∀RK,(ql RK).OK bH 97
 |0=>(λx r h=>nomatch (show(bh:Option _)=aY r from h))
 |RK+1=>(mq (c:=ql (RK+1)) (cd:=mz) (nb:=l0) (rc:=[(2,7000001,0)]) (T:=[(97,ql RK)]) (h:=.s .n (.s .n (.s (.s .n (.s (.l ⟨[(1,.ptr 1000001 0),(2,.ptr 1000002 0),(3,.row 5 7001001),(7,.d dR 0),(8,dI 1),(9,dI 9)],(Om 10),[dR,i6,i6,i6,.s,.s,i6,.s,dR],[i6,dR]⟩ [(1,.ptr 1000001 0),(2,.ptr 1000002 0),(3,.row 5 7001001)] (Om 9) [dR] 0 (λx K v=>xC (xh RK) x.1 x.2.1 x.2.2.1 x.2.2.2.1 x.2.2.2.2.1 (nj x).1 (nk x).1 (nN x).1 (pe x) K v) .n) .n)) .n))) Tryz.func97 rfl MS ⟨⟨MS,(J0 RK)⟩,trivial⟩ λx=>by kernel_rfl).2
def zed(RK:Nat):zb bH 97/\(ql RK).OK bH 97:=⟨MS,(J0 RK)⟩
def uF:Ct TS:=⟨[.d iG 0],[],[iG],.d iG 1,[],[iG],bf,λx=>wk x⟩
def J1:d_ 98 uF:=eL (T:=[]) (h:=.n) Tryz.func98 rfl PS trivial (λx=>match x with|[]=>by kernel_rfl|_::_=>by kernel_rfl)
def uG:Ct TS:=⟨[.d gD 0],[],[gD],.d gD 1,[],[gD],bf,λx=>yV x⟩
def J2:d_ 99 uG:=eL (T:=[]) (h:=.n) Tryz.func99 rfl ad9 trivial (λx=>match x with|[]=>by kernel_rfl|_::_=>by kernel_rfl)
def uH:Ct TS:=⟨[.d a_ 0],[],[a_],.d a_ 1,[],[a_],bf,λx=>yW x⟩
def J3:d_ 100 uH:=eL (T:=[]) (h:=.n) Tryz.func100 rfl zDg trivial (λx=>match x with|[]=>by kernel_rfl|_::_=>by kernel_rfl)
def FU:Ct TS:=⟨[.d (.st 12) 0],[],[.st 12],.ag [.row 6 7000002,.row 3 7000003,.row 3 7000004,.row 20 7000005,.row 4 7000006,.row 6 7000007,.d gh 1,dI 2],[(7000001,.box 30 [.row 6 7000002,.row 3 7000003,.row 3 7000004,.row 20 7000005,.row 4 7000006,.row 6 7000007,.d gh 1,dI 2]),(7000002,.row 67 (.st 1) 3 bf),(7000003,.row 70 (.st 3) 4 bf),(7000004,.row 72 (.st 5) 5 bf),(7000005,.row 38 (.st 7) 6 bf),(7000006,.row 75 (.st 8) 7 bf),(7000007,.row 79 (.st 10) 8 bf)],[gh,i6,fP,e_,fh,eH,eM,zW],bf,λx=>HZ x⟩
def Lt:d_ 23 FU:=mq (cd:=mz) (nb:=zda) (rc:=[(2,7000001,0)]) (T:=[(90,jJ),(91,jK),(92,jL),(93,wS),(94,jM),(95,oF),(96,oG),(97,ql KK),(98,uF),(99,uG),(100,uH)]) (h:=.s .n (.s .n (.s .n (.s (.s .n (.s (.l ⟨[(1,.ptr 1000001 0),(2,.ptr 1000002 0),(40,dI 0),(41,dI 16)],(p7 103001200 67 1 17 103001500 70 3 5 103001800 72 5 6 103002100 38 7 7 8 9),[i6,gh,i6,gh,i6,e_,fh,eH,eM,zW,fP,e_,fh,eH,eM,zW],[i6,fP]⟩ [(1,.ptr 1000001 0),(2,.ptr 1000002 0)] (p7 103001200 67 1 16 103001500 70 3 5 103001800 72 5 6 103002100 38 7 7 8 9) [fP] 0 (rb kH) .n) .n)) (.s (.s .n (.s (.l ⟨[(1,.ptr 1000001 0),(2,.ptr 1000002 0),(59,dI 0),(60,dI 16)],(p7 103001200 67 1 5 103001500 70 3 17 103001800 72 5 6 103002100 38 7 7 8 9),[i6,gh,i6,gh,i6,fP,fh,eH,eM,zW,fP,e_,fh,eH,eM,zW],[i6,e_]⟩ [(1,.ptr 1000001 0),(2,.ptr 1000002 0)] (p7 103001200 67 1 5 103001500 70 3 16 103001800 72 5 6 103002100 38 7 7 8 9) [e_] 2 (rb kI) .n) .n)) (.s (.s .n (.s (.l ⟨[(1,.ptr 1000001 0),(2,.ptr 1000002 0),(78,dI 0),(79,dI 16)],(p7 103001200 67 1 5 103001500 70 3 6 103001800 72 5 17 103002100 38 7 7 8 9),[i6,gh,i6,gh,i6,fP,e_,eH,eM,zW,fP,e_,fh,eH,eM,zW],[i6,fh]⟩ [(1,.ptr 1000001 0),(2,.ptr 1000002 0)] (p7 103001200 67 1 5 103001500 70 3 6 103001800 72 5 16 103002100 38 7 7 8 9) [fh] 4 (rb kJ) .n) .n)) (.s (.s .n (.s (.l ⟨[(1,.ptr 1000001 0),(2,.ptr 1000002 0),(96,.row 20 103002100),(97,dI 0),(98,dI 16)],(p7 103002100 38 7 17 103001200 67 1 5 103001500 70 3 6 103001800 72 5 7 8 9),[i6,gh,i6,gh,i6,fP,e_,fh,eM,zW,fP,e_,fh,eH,eM,zW],[i6,eH]⟩ [(1,.ptr 1000001 0),(2,.ptr 1000002 0)] (p7 103001200 67 1 5 103001500 70 3 6 103001800 72 5 7 103002100 38 7 16 8 9) [eH] 6 (rb kK) .n) .n)) (.s (.s .n (.s (.l ⟨[(1,.ptr 1000001 0),(2,.ptr 1000002 0),(130,dI 0),(131,dI 16)],(p7 103001200 67 1 5 103001500 70 3 6 103001800 72 5 7 103002100 38 7 8 17 9),[i6,gh,i6,gh,i6,fP,e_,fh,eH,zW,fP,e_,fh,eH,eM,zW],[i6,eM]⟩ [(1,.ptr 1000001 0),(2,.ptr 1000002 0)] (p7 103001200 67 1 5 103001500 70 3 6 103001800 72 5 7 103002100 38 7 8 16 9) [eM] 8 (rb kL) .n) .n)) (.s (.s .n (.s (.l ⟨[(1,.ptr 1000001 0),(2,.ptr 1000002 0),(149,dI 0),(150,dI 16)],(p7 103001200 67 1 5 103001500 70 3 6 103001800 72 5 7 103002100 38 7 8 9 17),[i6,gh,i6,gh,i6,fP,e_,fh,eH,eM,fP,e_,fh,eH,eM,zW],[i6,zW]⟩ [(1,.ptr 1000001 0),(2,.ptr 1000002 0)] (p7 103001200 67 1 5 103001500 70 3 6 103001800 72 5 7 103002100 38 7 8 9 16) [zW] 10 (rb kM) .n) .n)) .n))))))))) Tryz.func23 rfl ac3 ⟨uA,uB,uC,vQ,uE,KD,KE,(zed KK),J1,J2,J3,trivial⟩ λx=>by kernel_rfl
def FV:Ct TS:=⟨[.d (.st 12) 0,.d (.st 13) 1],h2,[.st 12,.st 13],.ij [.ag [.d fP 3,.d e_ 4,.d fh 5,.d eH 6,.d eM 7,.d zW 8,.d gh 9,dI 10],dI 2],(mA 7000001 3 4 5 6 7 8 9 10),E3,bf,ir u7⟩
def Lu:d_ 7 FV:=mq (cd:=mz) (nb:=l0) (rc:=[(4,7000001,0)]) (T:=[(21,Wm),(16,uy),(22,R9),(23,FU)]) (h:=.s .n (.s (.s (.j ⟨[(2,.ptr 1000002 0),(3,.ptr 1000003 0),(4,.ptr 1000004 0),(15,.d .b 46)],[(900000000,.rw 1),(900000001,.rw 2),(900000002,.rw 3),(900000003,.rw 4),(1000002,.box 30 [.d fP 0,.d e_ 1,.d fh 2,.d eH 3,.d eM 4,.d zW 5,.d gh 6,dI 7]),(1000003,.box 41 [dI 8,.d .s 9,.d .s 10,dI 11,.d .s 12,.d a_ 13,.d a_ 14,dI 15,dI 16,dI 17,.d .b 18,dI 19,dI 20,dI 21,.d .s 22,.d .s 23,.d dR 24,dI 25,dI 26,dI 27,dI 28,dI 29,dI 30,dI 31,dI 32,dI 33,.d .s 34,.d .s 35,.d dR 36,.d gD 37]),(1000004,.box 30 [.d fP 38,.d e_ 39,.d fh 40,.d eH 41,.d eM 42,.d zW 43,.d gh 44,dI 45])],I3,[.b]⟩ bf .n) .n) .n)) Tryz.func7 rfl abV ⟨Q9,uz,zll,Lt,trivial⟩ λx=>by kernel_rfl
def R_:Ct TS:=⟨[dI 0],[],[i6],.ag [dI 1,dI 2,.d .s 3,.d .s 4,.d dR 5],(EH 7000001 1 2 3 4 5),[i6,i6,.s,.s,dR],bf,λx=>V3 x⟩
def zlm:d_ 13 R_:=mq (cd:=mz) (nb:=l0) (rc:=[(2,7000001,0)]) (T:=[]) (h:=.n) Tryz.func13 rfl acU trivial λx=>by kernel_rfl
def J4:Ct TS:=⟨[.d (.st 1) 0,.ptr 1 0],(uK 1 2 3 4 5 6),[.st 1,.s,i6,i6,.s,.s,dR],.d .b 7,(uK 1 2 3 4 5 6),[.b],bf,J_ JP⟩
def Ym:d_ 125 J4:=eL (T:=[]) (h:=.n) Tryz.func125 rfl zDh trivial λx=>by kernel_rfl
def jv:Ct TS:=⟨[.d fP 0,.fn 125 [] [.ptr 1 0]],(uK 1 2 3 4 5 6),[fP,.s,i6,i6,.s,.s,dR],dI 7,(uK 1 2 3 4 5 6),[i6],bf,J_ jh⟩
def aag:d_ 160 jv:=eL (T:=[(125,J4)]) (h:=.s .n (.s (.s .n (.s (.lr ⟨[(0,.d fP 6),(1,.fn 125 [] [.ptr 1 0]),(7,dI 7),(8,dI 8)],(uK 0 1 2 3 4 5),[.s,i6,i6,.s,.s,dR,fP,i6],[i6]⟩ [] (uK 0 1 2 3 4 5) [] 0 (Be yX) .n) .n)) .n)) Tryz.func160 rfl UR ⟨Ym,trivial⟩ λx=>by kernel_rfl
def SU:Ct TS:=⟨[.d fP 0,.fn 125 [] [.ptr 1 0]],(uK 1 2 3 4 5 6),[fP,.s,i6,i6,.s,.s,dR],.ij [.ag [.d .s 8,dI 9,dI 10,.d .s 11,.d .s 12,.d dR 13],.d .b 7],[(1,.box 67 [.d .s 1,dI 2,dI 3,.d .s 4,.d .s 5,.d dR 6]),(7000001,.box 67 [.d .s 8,dI 9,dI 10,.d .s 11,.d .s 12,.d dR 13])],[.b,.s,i6,i6,.s,.s,dR],bf,J_ Tb⟩
def zqc:d_ 124 SU:=mq (cd:=mz) (nb:=l0) (rc:=[(4,7000001,0)]) (T:=[(160,jv)]) (h:=.n) Tryz.func124 rfl zDi ⟨aag,trivial⟩ λx=>by kernel_rfl
def J5:Ct TS:=⟨[.d (.st 3) 0,.ptr 1 0],(u1 1 2 3),[.st 3,.s,iG,i6],.d .b 4,(u1 1 2 3),[.b],bf,sn JQ⟩
def Yn:d_ 127 J5:=eL (T:=[]) (h:=.n) Tryz.func127 rfl zDj trivial λx=>by kernel_rfl
def jw:Ct TS:=⟨[.d e_ 0,.fn 127 [] [.ptr 1 0]],(u1 1 2 3),[e_,.s,iG,i6],dI 4,(u1 1 2 3),[i6],bf,sn ji⟩
def aah:d_ 161 jw:=eL (T:=[(127,J5)]) (h:=.s .n (.s (.s .n (.s (.lr ⟨[(0,.d e_ 3),(1,.fn 127 [] [.ptr 1 0]),(7,dI 4),(8,dI 5)],(u1 0 1 2),[.s,iG,i6,e_,i6],[i6]⟩ [] (u1 0 1 2) [] 0 (tD yY) .n) .n)) .n)) Tryz.func161 rfl US ⟨Yn,trivial⟩ λx=>by kernel_rfl
def Zl:Ct TS:=⟨[.d e_ 0,.fn 127 [] [.ptr 1 0]],(u1 1 2 3),[e_,.s,iG,i6],.ij [.ag [.d .s 5,.d iG 6,dI 7],.d .b 4],[(1,.box 70 [.d .s 1,.d iG 2,dI 3]),(7000001,.box 70 [.d .s 5,.d iG 6,dI 7])],[.b,.s,iG,i6],bf,sn YY⟩
def zgx:d_ 126 Zl:=mq (cd:=mz) (nb:=l0) (rc:=[(4,7000001,0)]) (T:=[(161,jw)]) (h:=.n) Tryz.func126 rfl zDk ⟨aah,trivial⟩ λx=>by kernel_rfl
def J6:Ct TS:=⟨[.d (.st 2) 0,.ptr 1 0],(u4 1 2),[.st 2,.s,i6],.d .b 3,(u4 1 2),[.b],bf,lG JR⟩
def Yo:d_ 129 J6:=eL (T:=[]) (h:=.n) Tryz.func129 rfl zDl trivial λx=>by kernel_rfl
def jx:Ct TS:=⟨[.d iG 0,.fn 129 [] [.ptr 1 0]],(u4 1 2),[iG,.s,i6],dI 3,(u4 1 2),[i6],bf,lG jj⟩
def aai:d_ 162 jx:=eL (T:=[(129,J6)]) (h:=.s .n (.s (.s .n (.s (.lr ⟨[(0,.d iG 2),(1,.fn 129 [] [.ptr 1 0]),(7,dI 3),(8,dI 4)],(u4 0 1),[.s,i6,iG,i6],[i6]⟩ [] (u4 0 1) [] 0 (sn yZ) .n) .n)) .n)) Tryz.func162 rfl UT ⟨Yo,trivial⟩ λx=>by kernel_rfl
def Zm:Ct TS:=⟨[.d iG 0,.fn 129 [] [.ptr 1 0]],(u4 1 2),[iG,.s,i6],.ij [.ag [.d .s 4,dI 5],.d .b 3],[(1,.box 134 [.d .s 1,dI 2]),(7000001,.box 134 [.d .s 4,dI 5])],[.b,.s,i6],bf,lG YZ⟩
def zgy:d_ 128 Zm:=mq (cd:=mz) (nb:=l0) (rc:=[(4,7000001,0)]) (T:=[(162,jx)]) (h:=.n) Tryz.func128 rfl zDm ⟨aai,trivial⟩ λx=>by kernel_rfl
def J7:Ct TS:=⟨[.d (.st 5) 0,.ptr 1 0],(u_ 1 2 3),[.st 5,.s,.b,gD],.d .b 4,(u_ 1 2 3),[.b],bf,sn JS⟩
def Yp:d_ 131 J7:=eL (T:=[]) (h:=.n) Tryz.func131 rfl zDn trivial λx=>by kernel_rfl
def jy:Ct TS:=⟨[.d fh 0,.fn 131 [] [.ptr 1 0]],(u_ 1 2 3),[fh,.s,.b,gD],dI 4,(u_ 1 2 3),[i6],bf,sn jk⟩
def aaj:d_ 82 jy:=eL (T:=[(131,J7)]) (h:=.s .n (.s (.s .n (.s (.lr ⟨[(0,.d fh 3),(1,.fn 131 [] [.ptr 1 0]),(7,dI 4),(8,dI 5)],(u_ 0 1 2),[.s,.b,gD,fh,i6],[i6]⟩ [] (u_ 0 1 2) [] 0 (tD y0) .n) .n)) .n)) Tryz.func82 rfl MR ⟨Yp,trivial⟩ λx=>by kernel_rfl
def Zn:Ct TS:=⟨[.d fh 0,.fn 131 [] [.ptr 1 0]],(u_ 1 2 3),[fh,.s,.b,gD],.ij [.ag [.d .s 5,.d .b 6,.d gD 7],.d .b 4],[(1,.box 72 [.d .s 1,.d .b 2,.d gD 3]),(7000001,.box 72 [.d .s 5,.d .b 6,.d gD 7])],[.b,.s,.b,gD],bf,sn Y2⟩
def zgz:d_ 130 Zn:=mq (cd:=mz) (nb:=l0) (rc:=[(4,7000001,0)]) (T:=[(82,jy)]) (h:=.n) Tryz.func130 rfl zDo ⟨aaj,trivial⟩ λx=>by kernel_rfl
def J8:Ct TS:=⟨[.d (.st 7) 0,.ptr 1 0],D8,[.st 7,.s,a_,a_,i6,i6,i6,.b,i6,i6,i6,.s,.s,dR,i6,i6,i6,i6,i6,i6,i6],.d .b 21,D8,[.b],bf,λx=>JT x.1 (MF x.2)⟩
def Yq:d_ 133 J8:=eL (T:=[]) (h:=.n) Tryz.func133 rfl zDp trivial λx=>by kernel_rfl
def jz:Ct TS:=⟨[.d eH 0,.fn 133 [] [.ptr 1 0]],D8,Pb,dI 21,D8,[i6],bf,λx=>jm x.1 (MF x.2)⟩
def aak:d_ 70 jz:=eL (T:=[(133,J8)]) (h:=.s .n (.s (.s .n (.s (.lr ⟨[(0,.d eH 20),(1,.fn 133 [] [.ptr 1 0]),(7,dI 21),(8,dI 22)],(G7 0 1 2 3 4 5 6 7 8 9 10 11 12 13 14 15 16 17 18 19),[.s,a_,a_,i6,i6,i6,.b,i6,i6,i6,.s,.s,dR,i6,i6,i6,i6,i6,i6,i6,eH,i6],[i6]⟩ [] (G7 0 1 2 3 4 5 6 7 8 9 10 11 12 13 14 15 16 17 18 19) [] 0 (λx K v=>y3 (RB.mk x.1 x.2.1 x.2.2.1 x.2.2.2.1 x.2.2.2.2.1 (nj x).1 (nk x).1 (nN x).1 (pe x).1 (pz x).1 (pR x).1 (pO x).1 (pP x).1 (rI x).1 (rJ x).1 (rK x).1 (rL x).1 (rM x).1 (rN x).1 (rO x).1) (rP x).1 (rQ x) K v) .n) .n)) .n)) Tryz.func70 rfl Gj ⟨Yq,trivial⟩ λx=>by kernel_rfl
def Zo:Ct TS:=⟨[.d eH 0,.fn 133 [] [.ptr 1 0]],D8,Pb,.ij [.ag [.d .s 22,.d a_ 23,.d a_ 24,dI 25,dI 26,dI 27,.d .b 28,dI 29,dI 30,dI 31,.d .s 32,.d .s 33,.d dR 34,dI 35,dI 36,dI 37,dI 38,dI 39,dI 40,dI 41],.d .b 21],(G2 1 1 2 3 4 5 6 7 8 9 10 11 12 13 14 15 16 17 18 19 20 7000001 22 23 24 25 26 27 28 29 30 31 32 33 34 35 36 37 38 39 40 41),[.b,.s,a_,a_,i6,i6,i6,.b,i6,i6,i6,.s,.s,dR,i6,i6,i6,i6,i6,i6,i6],bf,λx=>Y3 x.1 (MF x.2)⟩
def zg0:d_ 132 Zo:=mq (cd:=mz) (nb:=l0) (rc:=[(4,7000001,0)]) (T:=[(70,jz)]) (h:=.n) Tryz.func132 rfl zDq ⟨aak,trivial⟩ λx=>by kernel_rfl
def J9:Ct TS:=⟨[.d (.st 8) 0,.ptr 1 0],(vE 1 2 3 4),[.st 8,.s,i6,i6,gD],.d .b 5,(vE 1 2 3 4),[.b],bf,tD JU⟩
def Yr:d_ 135 J9:=eL (T:=[]) (h:=.n) Tryz.func135 rfl zDr trivial λx=>by kernel_rfl
def jA:Ct TS:=⟨[.d eM 0,.fn 135 [] [.ptr 1 0]],(vE 1 2 3 4),[eM,.s,i6,i6,gD],dI 5,(vE 1 2 3 4),[i6],bf,tD jo⟩
def aal:d_ 207 jA:=eL (T:=[(135,J9)]) (h:=.s .n (.s (.s .n (.s (.lr ⟨[(0,.d eM 4),(1,.fn 135 [] [.ptr 1 0]),(7,dI 5),(8,dI 6)],(vE 0 1 2 3),[.s,i6,i6,gD,eM,i6],[i6]⟩ [] (vE 0 1 2 3) [] 0 (Pq y4) .n) .n)) .n)) Tryz.func207 rfl Mn ⟨Yr,trivial⟩ λx=>by kernel_rfl
def Zp:Ct TS:=⟨[.d eM 0,.fn 135 [] [.ptr 1 0]],(vE 1 2 3 4),[eM,.s,i6,i6,gD],.ij [.ag [.d .s 6,dI 7,dI 8,.d gD 9],.d .b 5],[(1,.box 75 [.d .s 1,dI 2,dI 3,.d gD 4]),(7000001,.box 75 [.d .s 6,dI 7,dI 8,.d gD 9])],[.b,.s,i6,i6,gD],bf,tD Y4⟩
def zg1:d_ 134 Zp:=mq (cd:=mz) (nb:=l0) (rc:=[(4,7000001,0)]) (T:=[(207,jA)]) (h:=.n) Tryz.func134 rfl zDs ⟨aal,trivial⟩ λx=>by kernel_rfl
def WA:Ct TS:=⟨[.d (.st 12) 0,.d (.st 12) 1],[],[.st 12,.st 12],.d wy 2,[],[wy],bf,ir V4⟩
def zef:d_ 38 WA:=eL (T:=[(124,SU),(18,Va),(126,Zl),(128,Zm),(130,Zn),(45,xy),(28,Ls),(132,Zo),(134,Zp)]) (h:=.s .n (.s .n (.s (.s .n (.s (.l ⟨[(2,.ptr 1000002 0),(3,.ptr 1000003 0),(5,.row 30 7001001),(32,.d fP 0),(33,dI 1),(34,dI 17)],(p8 2 3 4 5 6 7 8 9 0 10 11 12 13 14 15 16 7001001 18),[fP,i6,fP,e_,fh,eH,eM,zW,gh,i6,e_,fh,eH,eM,zW,gh,i6],[i6,wy]⟩ [(2,.ptr 1000002 0),(3,.ptr 1000003 0),(5,.row 30 7001001)] (p8 2 3 4 5 6 7 8 9 0 10 11 12 13 14 15 16 7001001 17) [wy] 0 (DD qQ) (.s .n (.s .n (.s (.j ⟨[(2,.ptr 1000002 0),(3,.ptr 1000003 0),(5,.row 30 7000001),(32,.d fP 0),(33,dI 1),(34,dI 2)],(p8 3 4 5 6 7 8 9 10 0 11 12 13 14 15 16 17 7000001 18),[fP,i6,i6,fP,e_,fh,eH,eM,zW,gh,i6,e_,fh,eH,eM,zW,gh,i6],[wy]⟩ bf (.s (.s .n (.s .n (.s .n (.s (.j ⟨[(2,.ptr 1000002 0),(3,.ptr 1000003 0),(5,.row 30 7001001),(10,.ptr 1000010 0),(32,.d fP 0),(33,dI 1),(34,dI 2),(61,.d .b 32)],[(1000002,.box 30 [.d fP 3,.d e_ 4,.d fh 5,.d eH 6,.d eM 7,.d zW 8,.d gh 9,dI 10]),(1000003,.box 30 [.d fP 0,.d e_ 11,.d fh 12,.d eH 13,.d eM 14,.d zW 15,.d gh 16,dI 17]),(7001001,.row 41 (.st 13) 18 bf),(1000010,.box 41 [dI 19,.d .s 20,.d .s 21,dI 22,.d .s 21,.d a_ 23,.d a_ 23,dI 22,dI 22,dI 22,.d .b 24,dI 22,dI 22,dI 22,.d .s 21,.d .s 21,.d dR 25,dI 22,dI 22,dI 22,dI 22,dI 22,dI 22,dI 22,dI 26,dI 27,.d .s 28,.d .s 29,.d dR 30,.d gD 31])],aa',[.b]⟩ bf .n) .n)))) .n)) .n)))) .n)) (.s (.s .n (.s (.l ⟨[(2,.ptr 1000002 0),(3,.ptr 1000003 0),(5,.row 30 7001001),(68,.d e_ 0),(69,dI 1),(70,dI 17)],(p8 2 3 4 5 6 7 8 9 10 0 11 12 13 14 15 16 7001001 18),[e_,i6,fP,e_,fh,eH,eM,zW,gh,i6,fP,fh,eH,eM,zW,gh,i6],[i6,wy]⟩ [(2,.ptr 1000002 0),(3,.ptr 1000003 0),(5,.row 30 7001001)] (p8 2 3 4 5 6 7 8 9 10 0 11 12 13 14 15 16 7001001 17) [wy] 2 (DD qS) (.s .n (.s .n (.s (.s (.s .n (.s .n (.s .n (.s (.l ⟨[(2,.ptr 1000002 0),(3,.ptr 1000003 0),(5,.row 30 7001001),(12,.ptr 1000012 0),(13,.ptr 1000013 0),(68,.d e_ 0),(69,dI 1),(70,dI 2),(82,.d iG 3),(83,dI 4),(84,dI 25)],(On 5 6 7 8 9 10 11 12 13 14 15 16 17 18 19 20 21 22 23 24),aba,[i6,wy]⟩ [(2,.ptr 1000002 0),(3,.ptr 1000003 0),(5,.row 30 7001001),(68,.d e_ 0),(69,dI 1),(70,dI 2)] (p8 5 6 7 8 9 10 11 12 13 0 14 15 16 17 18 19 7001001 25) [wy] 4 (λx K v=>qR x.1 x.2.1 x.2.2.1 x.2.2.2.1 x.2.2.2.2.1 (nj x).1 (nk x).1 (nN x).1 (pe x).1 (pz x).1 (pR x).1 (pO x).1 (pP x).1 (rI x).1 (rJ x).1 (rK x).1 (rL x).1 (rM x).1 (rN x).1 (rO x).1 (rP x).1 (rQ x).1 (sB x).1 (sr x).1 (ss x) K v) (.s .n (.s .n (.s (.j ⟨[(2,.ptr 1000002 0),(3,.ptr 1000003 0),(5,.row 30 7001001),(12,.ptr 1000012 0),(13,.ptr 1000013 0),(68,.d e_ 0),(69,dI 1),(70,dI 2),(82,.d iG 3),(83,dI 4),(84,dI 5)],(On 6 7 8 9 10 11 12 13 14 15 16 17 18 19 20 21 22 23 24 25),abb,[wy]⟩ bf (.s (.s .n (.s .n (.s (.j ⟨[(2,.ptr 1000002 0),(3,.ptr 1000003 0),(5,.row 30 7001001),(12,.ptr 1000012 0),(13,.ptr 1000013 0),(16,.ptr 1000016 0),(68,.d e_ 0),(69,dI 1),(70,dI 2),(82,.d iG 3),(83,dI 4),(84,dI 5),(103,.d .b 29)],[(1000002,.box 30 [.d fP 6,.d e_ 7,.d fh 8,.d eH 9,.d eM 10,.d zW 11,.d gh 12,dI 13]),(1000003,.box 30 [.d fP 14,.d e_ 0,.d fh 15,.d eH 16,.d eM 17,.d zW 18,.d gh 19,dI 20]),(7001001,.row 41 (.st 13) 21 bf),(1000012,.box 70 [.d .s 22,.d iG 3,dI 23]),(1000013,.box 70 [.d .s 24,.d iG 25,dI 26]),(1000016,.box 134 [.d .s 27,dI 28])],abc,[.b]⟩ bf .n) .n))) .n)) .n)))) .n)))) .n) .n)))) .n)) (.s (.s .n (.s (.l ⟨[(2,.ptr 1000002 0),(3,.ptr 1000003 0),(5,.row 30 7001001),(117,.d fh 0),(118,dI 1),(119,dI 17)],(p8 2 3 4 5 6 7 8 9 10 11 0 12 13 14 15 16 7001001 18),[fh,i6,fP,e_,fh,eH,eM,zW,gh,i6,fP,e_,eH,eM,zW,gh,i6],[i6,wy]⟩ [(2,.ptr 1000002 0),(3,.ptr 1000003 0),(5,.row 30 7001001)] (p8 2 3 4 5 6 7 8 9 10 11 0 12 13 14 15 16 7001001 17) [wy] 6 (DD qT) (.s .n (.s .n (.s (.j ⟨[(2,.ptr 1000002 0),(3,.ptr 1000003 0),(5,.row 30 7001001),(117,.d fh 0),(118,dI 1),(119,dI 2)],(p8 3 4 5 6 7 8 9 10 11 12 0 13 14 15 16 17 7001001 18),[fh,i6,i6,fP,e_,fh,eH,eM,zW,gh,i6,fP,e_,eH,eM,zW,gh,i6],[wy]⟩ bf (.s (.s .n (.s .n (.s (.j ⟨[(2,.ptr 1000002 0),(3,.ptr 1000003 0),(5,.row 30 7001001),(20,.ptr 1000020 0),(117,.d fh 0),(118,dI 1),(119,dI 2),(139,.d .b 22)],[(1000002,.box 30 [.d fP 3,.d e_ 4,.d fh 5,.d eH 6,.d eM 7,.d zW 8,.d gh 9,dI 10]),(1000003,.box 30 [.d fP 11,.d e_ 12,.d fh 0,.d eH 13,.d eM 14,.d zW 15,.d gh 16,dI 17]),(7001001,.row 41 (.st 13) 18 bf),(1000020,.box 72 [.d .s 19,.d .b 20,.d gD 21])],[fh,i6,i6,fP,e_,fh,eH,eM,zW,gh,i6,fP,e_,eH,eM,zW,gh,i6,wy,.s,.b,gD],[.b]⟩ bf .n) .n))) .n)) .n)))) .n)) (.s (.s .n (.s (.l ⟨[(2,.ptr 1000002 0),(3,.ptr 1000003 0),(5,.row 30 7001001),(149,.d eH 0),(150,dI 1),(151,dI 17)],(p8 2 3 4 5 6 7 8 9 10 11 12 0 13 14 15 16 7001001 18),[eH,i6,fP,e_,fh,eH,eM,zW,gh,i6,fP,e_,fh,eM,zW,gh,i6],[i6,wy]⟩ [(2,.ptr 1000002 0),(3,.ptr 1000003 0),(5,.row 30 7001001)] (p8 2 3 4 5 6 7 8 9 10 11 12 0 13 14 15 16 7001001 17) [wy] 8 (DD qU) (.s .n (.s .n (.s (.j ⟨[(2,.ptr 1000002 0),(3,.ptr 1000003 0),(5,.row 30 7001001),(149,.d eH 0),(150,dI 1),(151,dI 2)],(p8 3 4 5 6 7 8 9 10 11 12 13 0 14 15 16 17 7001001 18),[eH,i6,i6,fP,e_,fh,eH,eM,zW,gh,i6,fP,e_,fh,eM,zW,gh,i6],[wy]⟩ bf .n) .n)))) .n)) (.s (.s .n (.s (.l ⟨[(2,.ptr 1000002 0),(5,.row 30 7001001),(186,.d eM 0),(187,dI 1),(188,dI 10)],(Oo 2 3 4 5 6 7 8 9),[eM,i6,fP,e_,fh,eH,eM,zW,gh,i6],[i6,wy]⟩ [(5,.row 30 7001001)] (h4 7001001 41 13 10) [wy] 11 (ND qV) (.s .n (.s .n (.s (.j ⟨[(2,.ptr 1000002 0),(5,.row 30 7001001),(186,.d eM 0),(187,dI 1),(188,dI 2)],(Oo 3 4 5 6 7 8 9 10),[eM,i6,i6,fP,e_,fh,eH,eM,zW,gh,i6],[wy]⟩ bf (.s (.s .n (.s .n (.s (.j ⟨[(2,.ptr 1000002 0),(5,.row 30 7001001),(28,.ptr 1000028 0),(186,.d eM 0),(187,dI 1),(188,dI 2),(206,.d .b 16)],[(1000002,.box 30 [.d fP 3,.d e_ 4,.d fh 5,.d eH 6,.d eM 7,.d zW 8,.d gh 9,dI 10]),(7001001,.row 41 (.st 13) 11 bf),(1000028,.box 75 [.d .s 12,dI 13,dI 14,.d gD 15])],[eM,i6,i6,fP,e_,fh,eH,eM,zW,gh,i6,wy,.s,i6,i6,gD],[.b]⟩ bf .n) .n))) .n)) .n)))) .n)) .n))))))) Tryz.func38 rfl adg ⟨zqc,Wn,zgx,zgy,zgz,wz,RX,zg0,zg1,trivial⟩ λx=>by kernel_rfl
def Sa:Ct TS:=⟨[.d (.st 12) 0,.d wy 1],h2,[.st 12,wy],.ij [.ag [.d fP 3,.d e_ 4,.d fh 5,.d eH 6,.d eM 7,.d zW 8,.d gh 9,dI 10],dI 2],(mA 7000001 3 4 5 6 7 8 9 10),E3,bf,ir Rn⟩
def zln:d_ 39 Sa:=mq (cd:=mz) (nb:=l0) (rc:=[(4,7000001,0)]) (T:=[(21,Wm),(7,FV),(23,FU)]) (h:=.s .n (.s .n (.s .n (.s (.s .n (.s (.lr ⟨[(2,.ptr 1000002 0),(4,.ptr 1000004 0),(13,.d wy 0),(14,dI 1),(15,dI 10)],(G8 11 12 13 14 15 16 17 18 1000004 2 3 4 5 6 7 8 9),[wy,i6,fP,e_,fh,eH,eM,zW,gh,i6],E3⟩ [(2,.ptr 1000002 0),(4,.ptr 1000004 0)] (G8 10 11 12 13 14 15 16 17 1000004 2 3 4 5 6 7 8 9) k1 0 (ND Aj) .n) .n)) .n)))) Tryz.func39 rfl adh ⟨Q9,Lu,Lt,trivial⟩ λx=>by kernel_rfl
def SV:Ct TS:=⟨[.d (.st 12) 0,.d (.st 12) 1],h2,[.st 12,.st 12],.ij [.d wy 2,dI 3],h2,[wy,i6],bf,ir Tc⟩
def zqd:d_ 14 SV:=eL (T:=[(21,Wm),(23,FU),(38,WA),(39,Sa),(40,Mh)]) (h:=.s .n (.s (.s (.j ⟨[(2,.ptr 1000002 0),(3,.ptr 1000003 0),(16,.d .b 16)],(G8 0 1 2 3 4 5 6 7 1000003 8 9 10 11 12 13 14 15),sQ,[.b]⟩ bf .n) .n) (.s .n (.s (.s .n (.s (.j ⟨[(6,.d wy 0),(34,.d .b 1)],h2,[wy],[.b]⟩ bf .n) .n)) .n)))) Tryz.func14 rfl acV ⟨Q9,Lt,zef,zln,T7,trivial⟩ λx=>by kernel_rfl
def HH:Ct TS:=⟨[.d gh 0,.d gh 1],[],[gh,gh],.d .b 2,[],[.b],bf,ir qW⟩
def WB:d_ 151 HH:=eL (T:=[]) (h:=.s .n (.s .n (.s (.s .n (.s (.lr ⟨[(0,.d gh 0),(1,.d gh 1),(5,dI 2)],[],[gh,gh],[i6]⟩ [] [] [] 0 (ir vN) .n) .n)) .n))) Tryz.func151 rfl zDt trivial λx=>by kernel_rfl
def wc(RK:Nat):Ct TS:=⟨[.d (.st 0) 0,.d (.st 0) 1],[],[.st 0,.st 0],.d .b 2,[],[.b],bf,λx=>w9 RK x.1 x.2⟩
def HI:∀RK,(wc RK).OK bH 42
 |0=>(λx r h=>nomatch (show(bh:Option _)=aY r from h))
 |RK+1=>(eL (c:=wc (RK+1)) (T:=[(42,wc RK)]) (h:=.s .n (.s (.s (.j ⟨[(2,.ptr 1000002 0),(3,.ptr 1000003 0),(40,.d .b 10)],Oq,Pc,[.b]⟩ bf .n) .n) (.s (.s .n (.s (.lr ⟨[(2,.ptr 1000002 0),(3,.ptr 1000003 0),(5,dI 10)],Oq,Pc,[i6]⟩ [] [] [] 0 (λx K v=>qi (w9 RK) x.1 x.2.1 x.2.2.1 x.2.2.2.1 x.2.2.2.2.1 (nj x).1 (nk x).1 (nN x).1 (pe x).1 (pz x) K v) .n) .n)) .n))) Tryz.func42 rfl MT ⟨⟨MT,(HI RK)⟩,trivial⟩ λx=>by kernel_rfl).2
def oi(RK:Nat):zb bH 42/\(wc RK).OK bH 42:=⟨MT,(HI RK)⟩
def AD:Ct TS:=⟨[.d iG 0,.d iG 1],[],[iG,iG],.d .b 2,[],[.b],bf,ir Ak⟩
def QF:d_ 152 AD:=eL (T:=[]) (h:=.s .n (.s .n (.s (.s .n (.s (.lr ⟨[(0,.d iG 0),(1,.d iG 1),(5,dI 2)],[],[iG,iG],[i6]⟩ [] [] [] 0 (ir vj) .n) .n)) .n))) Tryz.func152 rfl zDu trivial λx=>by kernel_rfl
def HJ:Ct TS:=⟨[.d gD 0,.d gD 1],[],[gD,gD],.d .b 2,[],[.b],bf,ir qX⟩
def WC:d_ 153 HJ:=eL (T:=[]) (h:=.s .n (.s .n (.s (.s .n (.s (.lr ⟨[(0,.d gD 0),(1,.d gD 1),(5,dI 2)],[],[gD,gD],[i6]⟩ [] [] [] 0 (ir vO) .n) .n)) .n))) Tryz.func153 rfl zDv trivial λx=>by kernel_rfl
def Ka:Ct TS:=⟨[.d a_ 0,.d a_ 1],[],[a_,a_],.d .b 2,[],[.b],bf,ir u9⟩
def Ys:d_ 210 Ka:=eL (T:=[]) (h:=.s .n (.s .n (.s (.s .n (.s (.lr ⟨[(0,.d a_ 0),(1,.d a_ 1),(5,dI 2)],[],[a_,a_],[i6]⟩ [] [] [] 0 (ir jE) .n) .n)) .n))) Tryz.func210 rfl zDw trivial λx=>by kernel_rfl
def Qd:Ct TS:=⟨[.d (.st 7) 0,.d (.st 7) 1],[],[.st 7,.st 7],.d .b 2,[],[.b],bf,ir K6⟩
def zax:d_ 154 Qd:=eL (T:=[(210,Ka),(42,wc KK)]) (h:=.s .n (.s (.j ⟨[(2,.ptr 1000002 0),(3,.ptr 1000003 0),(5,.d .b 40)],Nn,I1,[.b]⟩ bf .n) (.s (.j ⟨[(2,.ptr 1000002 0),(3,.ptr 1000003 0),(5,.d .b 0),(6,.d .b 41)],(G2 1000002 1 2 3 4 5 6 7 8 9 10 11 12 13 14 15 16 17 18 19 20 1000003 21 22 23 24 25 26 27 28 29 30 31 32 33 34 35 36 37 38 39 40),abd,[.b]⟩ bf .n) .n))) Tryz.func154 rfl zDx ⟨Ys,(oi KK),trivial⟩ λx=>by kernel_rfl
def Ti:Ct TS:=⟨[.d (.st 12) 0,.d (.st 12) 1],[],[.st 12,.st 12],.d .b 2,[],[.b],bf,ir Td⟩
def zqe:d_ 41 Ti:=eL (T:=[(151,HH),(42,wc KK),(152,AD),(153,HJ),(154,Qd)]) (h:=.s .n (.s (.s (.j ⟨[(2,.ptr 1000002 0),(3,.ptr 1000003 0),(77,.d .b 16)],pQ,sQ,[.b]⟩ bf .n) .n) (.s (.s .n (.s (.lr ⟨[(2,.ptr 1000002 0),(3,.ptr 1000003 0),(5,dI 16)],pQ,sQ,[i6]⟩ [(2,.ptr 1000002 0),(3,.ptr 1000003 0)] pQ [] 0 (rb H0) (.s .n (.s (.s (.s (.j ⟨[(2,.ptr 1000002 0),(3,.ptr 1000003 0),(5,dI 0),(113,.d .b 17)],Cp,Df,[.b]⟩ bf .n) .n) .n) .n))) .n)) (.s (.s .n (.s (.lr ⟨[(2,.ptr 1000002 0),(3,.ptr 1000003 0),(6,dI 16)],pQ,sQ,[i6]⟩ [(2,.ptr 1000002 0),(3,.ptr 1000003 0)] pQ [] 2 (rb H4) (.s .n (.s (.s (.s (.j ⟨[(2,.ptr 1000002 0),(3,.ptr 1000003 0),(6,dI 0),(164,.d .b 17)],Cp,Df,[.b]⟩ bf .n) .n) .n) .n))) .n)) (.s (.s .n (.s (.lr ⟨[(2,.ptr 1000002 0),(3,.ptr 1000003 0),(7,dI 16)],pQ,sQ,[i6]⟩ [(2,.ptr 1000002 0),(3,.ptr 1000003 0)] pQ [] 4 (rb H5) (.s .n (.s (.s (.s (.j ⟨[(2,.ptr 1000002 0),(3,.ptr 1000003 0),(7,dI 0),(215,.d .b 17)],Cp,Df,[.b]⟩ bf .n) .n) .n) .n))) .n)) (.s (.s .n (.s (.lr ⟨[(2,.ptr 1000002 0),(3,.ptr 1000003 0),(8,dI 16)],pQ,sQ,[i6]⟩ [(2,.ptr 1000002 0),(3,.ptr 1000003 0)] pQ [] 6 (rb H6) .n) .n)) (.s (.s .n (.s (.lr ⟨[(2,.ptr 1000002 0),(3,.ptr 1000003 0),(9,dI 16)],pQ,sQ,[i6]⟩ [(2,.ptr 1000002 0),(3,.ptr 1000003 0)] pQ [] 8 (rb H7) (.s .n (.s (.s (.s (.j ⟨[(2,.ptr 1000002 0),(3,.ptr 1000003 0),(9,dI 0),(300,.d .b 17)],Cp,Df,[.b]⟩ bf .n) .n) .n) .n))) .n)) (.s (.s .n (.s (.lr ⟨[(2,.ptr 1000002 0),(3,.ptr 1000003 0),(10,dI 16)],pQ,sQ,[i6]⟩ [] [] [] 10 (rb H8) (.s .n (.s (.s (.s (.j ⟨[(2,.ptr 1000002 0),(3,.ptr 1000003 0),(10,dI 0),(366,.d .b 17)],Cp,Df,[.b]⟩ bf .n) .n) .n) .n))) .n)) .n)))))))) Tryz.func41 rfl adj ⟨WB,(oi KK),QF,WC,zax,trivial⟩ λx=>by kernel_rfl
def Tj:Ct TS:=⟨[.d (.st 13) 0,.d (.st 13) 1],[],[.st 13,.st 13],.d .b 2,[],[.b],bf,ir Q8⟩
def zqf:d_ 15 Tj:=eL (T:=[(41,Ti),(42,wc KK)]) (h:=.s .n (.s (.s (.j ⟨[(2,.ptr 1000002 0),(3,.ptr 1000003 0),(42,.d .b 60)],Fp,I2,[.b]⟩ bf .n) .n) (.s (.s .n (.s (.lr ⟨[(2,.ptr 1000002 0),(3,.ptr 1000003 0),(5,dI 60)],Fp,I2,[i6]⟩ [(2,.ptr 1000002 0),(3,.ptr 1000003 0)] Fp [] 0 (λx K v=>H9 x.1 x.2.1 x.2.2.1 x.2.2.2.1 x.2.2.2.2.1 (nj x).1 (nk x).1 (nN x).1 (pe x).1 (pz x).1 (pR x).1 (pO x).1 (pP x).1 (rI x).1 (rJ x).1 (rK x).1 (rL x).1 (rM x).1 (rN x).1 (rO x).1 (rP x).1 (rQ x).1 (sB x).1 (sr x).1 (ss x).1 (sY x).1 (sZ x).1 (s3 x).1 (s4 x).1 (s5 x).1 (s6 x).1 (sX x).1 (Xv x).1 (Xw x).1 (Xx x).1 (Xy x).1 (Xz x).1 (XA x).1 (XB x).1 (XC x).1 (XD x).1 (XE x).1 (XF x).1 (XG x).1 (XH x).1 (XI x).1 (XJ x).1 (XK x).1 (XL x).1 (XM x).1 (XN x).1 (XO x).1 (XP x).1 (XQ x).1 (XR x).1 (ace x).1 (acf x).1 (acg x).1 (ach x).1 (aci x) K v) .n) .n)) .n))) Tryz.func15 rfl acW ⟨zqe,(oi KK),trivial⟩ λx=>by kernel_rfl
def Sb:Ct TS:=⟨[.d (.st 13) 0],h2,[.st 13],.ag [.d .s 1,.d .s 2,.d .s 3],[(900000000,.rw 1),(900000001,.rw 2),(900000002,.rw 3),(900000003,.rw 4),(7000001,.box 116 [.d .s 1,.d .s 2,.d .s 3])],[.s,.s,.s],bf,λx=>V5 x⟩
def zlo:d_ 44 Sb:=mq (cd:=mz) (nb:=l0) (rc:=[(2,7000001,0)]) (T:=[(122,Mi)]) (h:=.n) Tryz.func44 rfl adl ⟨⟨UQ,T8⟩,trivial⟩ λx=>by kernel_rfl
def Sc:Ct TS:=⟨[.d (.st 13) 0,.d (.st 13) 1],h2,[.st 13,.st 13],.d .b 2,h2,[.b],bf,ir V6⟩
def zlp:d_ 17 Sc:=eL (T:=[(16,uy),(44,Sb)]) (h:=.n) Tryz.func17 rfl acY ⟨uz,zlo,trivial⟩ λx=>by kernel_rfl
def WD:Ct TS:=⟨[],h2,[],.d .b 0,h2,[.b],bf,λ_=>oa⟩
def zej:d_ 4 WD:=mq (cd:=cdL) (nb:=l0) (rc:=[]) (T:=[(11,RM),(12,RZ),(7,FV),(13,R_),(14,SV),(15,Tj),(16,uy),(17,Sc),(18,Va)]) (h:=.s .n (.s .n (.s .n (.s .n (.s .n (.s .n (.s (.s (.j ⟨[(1,.d wy 0),(2,dI 1),(3,.d .s 2),(4,dI 3),(6,dI 4),(8,dI 5),(9,.d wy 6),(10,dI 7),(55,.d .b 8)],h2,[wy,i6,.s,i6,i6,i6,wy,i6],[.b]⟩ bf .n) .n) (.s (.j ⟨[(1,.d wy 0),(9,.d wy 1),(11,.d .b 2)],h2,[wy,wy],[.b]⟩ bf .n) (.s (.j ⟨[(1,.d wy 0),(9,.d wy 1),(11,.d .b 2),(12,.d .b 3)],h2,[wy,wy,.b],[.b]⟩ bf .n) .n))))))))) Tryz.func4 rfl abS ⟨zk5,zle,Lu,zlm,zqd,zqf,uz,zlp,Wn,trivial⟩ λx=>by kernel_rfl
def wY(RK:Nat):Ct TS:=⟨[.d (.st 0) 0,dI 1,dI 2],[],[.st 0,i6,i6],dI 3,[],[i6],bf,λx=>zZ RK x.1 x.2.1 x.2.2⟩
def Kb:∀RK,(wY RK).OK bH 19
 |0=>(λx r h=>nomatch (show(bh:Option _)=aY r from h))
 |RK+1=>(eL (c:=wY (RK+1)) (T:=[(19,wY RK)]) (h:=.s .n (.s .n (.s .n (.s (.s .n (.s (.l ⟨[(1,dI 0),(2,dI 1),(3,.ptr 1000003 0),(7,dI 7),(8,dI 8)],(EH 1000003 2 3 4 5 6),[i6,i6,i6,i6,.s,.s,dR],[i6,i6]⟩ [(7,dI 7)] [] [i6] 0 (λx K v=>xD (zZ RK) x.1 x.2.1 x.2.2.1 x.2.2.2.1 x.2.2.2.2.1 (nj x).1 (nk x) K v) (.s (.s (.j ⟨[(1,dI 0),(2,dI 1),(3,.ptr 1000003 0),(7,dI 2),(8,dI 3),(22,.d .b 9)],(EH 1000003 4 5 6 7 8),[i6,i6,i6,i6,i6,i6,.s,.s,dR],[.b]⟩ bf .n) .n) .n)) .n)) .n)))) Tryz.func19 rfl MU ⟨⟨MU,(Kb RK)⟩,trivial⟩ λx=>by kernel_rfl).2
def AF(RK:Nat):zb bH 19/\(wY RK).OK bH 19:=⟨MU,(Kb RK)⟩
def KF:Ct TS:=⟨[.d (.st 7) 0],[],[.st 7],.d .b 1,[],[.b],bf,λx=>kN x⟩
def WE:d_ 20 KF:=eL (T:=[(19,wY KK)]) (h:=.n) Tryz.func20 rfl ac0 ⟨(AF KK),trivial⟩ λx=>by kernel_rfl
def Zq:Ct TS:=⟨[.d (.st 12) 0],[],[.st 12],.d .b 1,[],[.b],bf,λx=>Hj x⟩
def zg2:d_ 5 Zq:=eL (T:=[(19,wY KK),(20,KF)]) (h:=.s .n (.s (.s (.j ⟨[(1,.ptr 1000001 0),(48,.d .b 8)],re,k1,[.b]⟩ bf .n) .n) (.s (.s .n (.s (.lr ⟨[(1,.ptr 1000001 0),(3,dI 8)],re,k1,[i6]⟩ [(1,.ptr 1000001 0)] re [] 0 (Be vk) .n) .n)) (.s (.s .n (.s (.lr ⟨[(1,.ptr 1000001 0),(4,dI 8)],re,k1,[i6]⟩ [(1,.ptr 1000001 0)] re [] 2 (Be vl) .n) .n)) (.s (.s .n (.s (.lr ⟨[(1,.ptr 1000001 0),(5,dI 8)],re,k1,[i6]⟩ [(1,.ptr 1000001 0)] re [] 4 (Be vm) .n) .n)) (.s (.s .n (.s (.lr ⟨[(1,.ptr 1000001 0),(6,dI 8)],re,k1,[i6]⟩ [(1,.ptr 1000001 0)] re [] 6 (Be vn) .n) .n)) (.s (.s .n (.s (.lr ⟨[(1,.ptr 1000001 0),(7,dI 8)],re,k1,[i6]⟩ [(1,.ptr 1000001 0)] re [] 8 (Be vq) .n) .n)) (.s (.s .n (.s (.lr ⟨[(1,.ptr 1000001 0),(8,dI 8)],re,k1,[i6]⟩ [] [] [] 10 (Be vr) .n) .n)) .n)))))))) Tryz.func5 rfl abT ⟨(AF KK),WE,trivial⟩ λx=>by kernel_rfl
def Sd:Ct TS:=⟨[.d wy 0],[],[wy],.d .b 1,[],[.b],bf,λx=>JV x⟩
def zlq:d_ 6 Sd:=eL (T:=[(20,KF),(19,wY KK)]) (h:=.s .n (.s (.s .n (.s (.lr ⟨[(0,.d wy 0),(3,dI 1)],[],[wy],[i6]⟩ [(0,.d wy 0)] [] [] 0 (λx K v=>vb x K v) (.s (.s (.j ⟨[(0,.d wy 0),(3,dI 1),(11,.d .b 2)],[],[wy,i6],[.b]⟩ bf .n) .n) (.s (.s (.s (.j ⟨[(0,.d wy 0),(3,dI 1),(38,.d .b 2)],[],[wy,i6],[.b]⟩ bf .n) .n) .n) .n))) .n)) .n)) Tryz.func6 rfl abU ⟨WE,(AF KK),trivial⟩ λx=>by kernel_rfl
def HK:Ct TS:=⟨[.d a_ 0,.d .s 1],[],[a_,.s],dI 2,[],[i6],bf,ir qY⟩
def WG:d_ 165 HK:=eL (T:=[]) (h:=.s .n (.s (.s .n (.s (.lr ⟨[(0,.d a_ 0),(1,.d .s 1),(7,dI 2),(8,dI 3)],[],[a_,.s,i6],[i6]⟩ [] [] [] 0 (lG yr) .n) .n)) .n)) Tryz.func165 rfl zDy trivial λx=>by kernel_rfl
def uI:Ct TS:=⟨[.d a_ 0,.d .s 1],[],[a_,.s],.d .b 2,[],[.b],bf,ir wm⟩
def Kc:d_ 102 uI:=eL (T:=[(165,HK)]) (h:=.n) Tryz.func102 rfl zDz ⟨WG,trivial⟩ λx=>by kernel_rfl
def uJ:Ct TS:=⟨[.d .s 0,.ptr 1 0],(tn 1),[.s,a_],.d .b 2,(tn 1),[.b],bf,ir vP⟩
def Kd:d_ 101 uJ:=eL (T:=[(102,uI)]) (h:=.n) Tryz.func101 rfl zD0 ⟨Kc,trivial⟩ λx=>by kernel_rfl
def jB:Ct TS:=⟨[.d a_ 0,.fn 101 [] [.ptr 1 0]],(tn 1),[a_,a_],dI 2,(tn 1),[i6],bf,ir xY⟩
def aam:d_ 166 jB:=eL (T:=[(101,uJ)]) (h:=.s .n (.s (.s .n (.s (.lr ⟨[(0,.d a_ 1),(1,.fn 101 [] [.ptr 1 0]),(7,dI 2),(8,dI 3)],(tn 0),[a_,a_,i6],[i6]⟩ [] (tn 0) [] 0 (lG zH) .n) .n)) .n)) Tryz.func166 rfl zD1 ⟨Kd,trivial⟩ λx=>by kernel_rfl
def vx:Ct TS:=⟨[.d a_ 0,.fn 101 [] [.ptr 1 0]],(tn 1),[a_,a_],.d .b 2,(tn 1),[.b],bf,ir zV⟩
def aat:d_ 103 vx:=eL (T:=[(166,jB)]) (h:=.n) Tryz.func103 rfl zD2 ⟨aam,trivial⟩ λx=>by kernel_rfl
def AG:Ct TS:=⟨[.d (.st 7) 0,.d a_ 1],[],[.st 7,a_],.d .b 2,[],[.b],bf,ir xZ⟩
def QG:d_ 24 AG:=eL (T:=[(103,vx)]) (h:=.n) Tryz.func24 rfl ac4 ⟨aat,trivial⟩ λx=>by kernel_rfl
def HM:Ct TS:=⟨[.d (.st 12) 0,.d a_ 1,dI 2],[],[.st 12,a_,i6],.d (.l i6) 3,[],[.l i6],bf,lG yI⟩
def WH:d_ 8 HM:=eL (T:=[(24,AG)]) (h:=.s .n (.s .n (.s (.s .n (.s (.l ⟨[(1,.d a_ 0),(2,dI 1),(7,.row 1 7001001),(11,.d eH 2),(12,dI 3),(13,dI 4)],(pG 7001001 5),[a_,i6,eH,i6],[i6,.l i6]⟩ [(7,.row 1 7001001)] (pG 7001001 4) [.l i6] 0 (sn yt) (.s .n (.s .n (.s (.j ⟨[(1,.d a_ 0),(2,dI 1),(7,.row 1 7000001),(11,.d eH 2),(12,dI 3),(13,dI 4)],(pG 7000001 5),[a_,i6,eH,i6,i6],[.l i6]⟩ bf (.s (.s .n (.s (.j ⟨[(1,.d a_ 0),(2,dI 1),(7,.row 1 7001001),(8,dI 2),(11,.d eH 3),(12,dI 4),(13,dI 2),(37,.d .b 6)],(pG 7001001 5),[a_,i6,i6,eH,i6,.l i6],[.b]⟩ bf .n) .n)) .n)) .n)))) .n)) .n))) Tryz.func8 rfl abW ⟨QG,trivial⟩ λx=>by kernel_rfl
def Se:Ct TS:=⟨[.d (.l i6) 0,dI 1],[],[.l i6,i6],.d .b 2,[],[.b],bf,ir zx⟩
def zlr:d_ 9 Se:=eL (T:=[]) (h:=.s .n (.s (.s .n (.s (.lr ⟨[(0,.d (.l i6) 0),(1,dI 1),(5,dI 2)],[],[.l i6,i6],[i6]⟩ [] [] [] 0 (ir vc) .n) .n)) .n)) Tryz.func9 rfl abX trivial λx=>by kernel_rfl
def qE:Ct TS:=⟨[.d (.st 14) 0],[],[.st 14],.d .b 1,[],[.b],bf,λx=>yD x⟩
def oj:d_ 217 qE:=eL (T:=[]) (h:=.n) Tryz.func217 rfl zD3 trivial λx=>by kernel_rfl
def UX:Ct TS:=⟨[.iO,dI 0],[],[i6],.row 4 70,(h4 70 43 14 1),[yu],bf,λx=>Mb x⟩
def zyu:UX.OK bH 264:=λx r h=>by obtain⟨u,h1,h2⟩:=bind_some h;cases h2;exact q0 (by kernel_rfl) (zBw x u h1)
def AI:Ct TS:=⟨[.d (.l yu) 0],[],[.l yu],.d yu 1,[],[yu],bf,λx=>qj x⟩
def QH:d_ 246 AI:=eL (T:=[(264,UX)]) (h:=.s .n (.s .n (.s (.s .n (.s (.l ⟨[(0,.d (.l yu) 0),(3,dI 2),(9,.d (.l yu) 0),(10,dI 1),(11,dI 3)],[],[.l yu,i6],[i6,i6]⟩ [(0,.d (.l yu) 0),(3,dI 2)] [] [i6] 0 (ir xJ) .n) .n)) (.s .n (.s (.s .n (.s (.l ⟨[(6,.row 4 103002400),(25,.d (.l yu) 0),(26,dI 1),(27,dI 2)],(h4 103002400 43 14 3),[.l yu,i6],[i6,yu]⟩ [(6,.row 4 103002400)] (h4 103002400 43 14 2) [yu] 2 (ir xK) .n) .n)) .n))))) Tryz.func246 rfl zD5 ⟨⟨zD4,zyu⟩,trivial⟩ λx=>by kernel_rfl
def Mq:Ct TS:=⟨[.row 1 1],(pG 1 0),[.l i6],.ij [],(pG 1 1),[.l i6],bf,λx=>K7 x⟩
def Uk:Mq.OK bH 223:=λx r h=>q0 (by kernel_rfl) (zBv x r h)
def WI:Ct TS:=⟨[.row 1 1],(pG 1 0),[.l i6],.d (.l i6) 1,[(1,.row 3 i6 2 bg)],[.l i6,.l i6],bf,λx=>uu x⟩
def Zr:WI.OK bH 224:=λx r h=>q0 (by kernel_rfl) (zox x r h)
def Ul:Ct TS:=⟨[.row 2 1,.fn 266 [] []],(h4 1 326 16 0),[Ya],.ij [],(h4 1 326 16 0),[],bf,λx=>LR x⟩
def zt8:Ul.OK bH 265:=λx r h=>by obtain⟨_,h1,h2⟩:=bind_some h;exact q0 (by kernel_rfl) (zx0 (L:=List.length x) (els:=List.map (ub TS (.st 16)) x) (yL h1) ((List.length_map ..).trans (yL h1)))
def AJ:Ct TS:=⟨[.d yu 0,dI 1],[],[yu,i6],.d Ya 2,[],[Ya],bf,ir vt⟩
def QI:d_ 247 AJ:=eL (T:=[(265,Ul)]) (h:=.s .n (.s .n (.s (.s .n (.s (.l ⟨[(1,dI 0),(5,.row 2 7001001),(12,.d yu 1),(13,dI 2),(14,dI 3)],(h4 7001001 326 16 4),[i6,yu,i6],[i6,Ya]⟩ [(5,.row 2 7001001)] (h4 7001001 326 16 3) [Ya] 0 (lG yE) (.s .n (.s .n (.s (.j ⟨[(1,dI 0),(5,.row 2 7000001),(12,.d yu 1),(13,dI 2),(14,dI 3)],(h4 7000001 326 16 4),[i6,yu,i6,i6],[Ya]⟩ bf (.s (.s .n (.s (.j ⟨[(1,dI 0),(5,.row 2 7001001),(7,.ptr 1000007 0),(12,.d yu 1),(13,dI 2),(14,dI 3),(27,.d .b 9)],[(7001001,.row 326 (.st 16) 4 bf),(1000007,.box 43 [dI 5,dI 6,dI 7,dI 8])],[i6,yu,i6,i6,Ya,i6,i6,i6,i6],[.b]⟩ bf .n) .n)) .n)) .n)))) .n)) (.s .n (.s .n (.s (.s .n (.s (.l ⟨[(8,.row 2 7002001),(39,.row 2 7001001),(40,dI 0),(41,dI 2)],[(7002001,.row 326 (.st 16) 3 bf),(7001001,.row 326 (.st 16) 1 bf)],[i6,Ya],[i6,Ya]⟩ [(8,.row 2 7002001)] (h4 7002001 326 16 2) [Ya] 2 (ir yi) .n) .n)) .n)))))) Tryz.func247 rfl zD7 ⟨⟨zD6,zt8⟩,trivial⟩ λx=>by kernel_rfl
def AK:Ct TS:=⟨[.d (.l yu) 0],[],[.l yu],.d oR 1,[],[oR],bf,λx=>wa x⟩
def QJ:d_ 220 AK:=eL (T:=[(246,AI),(223,Mq),(224,WI),(247,AJ)]) (h:=.s .n (.s .n (.s .n (.s (.s .n (.s (.l ⟨[(3,.d yu 0),(4,.row 1 7000001),(11,.d yu 0),(12,dI 1),(13,dI 2)],(pG 7000001 3),[yu,i6],[i6,.l i6]⟩ [(3,.d yu 0),(4,.row 1 7000001)] (pG 7000001 2) [.l i6] 0 (ir xL) .n) .n)) (.s .n (.s .n (.s .n (.s (.s .n (.s (.l ⟨[(3,.d yu 0),(4,.d (.l i6) 1),(7,.row 3 7001001),(8,dI 2)],(h4 7001001 328 17 3),[yu,.l i6],[i6,oR]⟩ [(7,.row 3 7001001)] (h4 7001001 328 17 2) [oR] 2 (ir yF) .n) .n)) .n)))))))) Tryz.func220 rfl zD8 ⟨QH,⟨UU,Uk⟩,⟨UW,Zr⟩,QI,trivial⟩ λx=>by kernel_rfl
def oH:Ct TS:=⟨[.d Ya 0,.d Ya 1],[],[Ya,Ya],.d .b 2,[],[.b],bf,ir oA⟩
def KG:d_ 245 oH:=eL (T:=[]) (h:=.s .n (.s .n (.s (.s .n (.s (.lr ⟨[(0,.d Ya 0),(1,.d Ya 1),(12,dI 2),(13,dI 3)],[],[Ya,Ya,i6],[i6]⟩ [] [] [] 0 (lG wX) .n) .n)) .n))) Tryz.func245 rfl zD9 trivial λx=>by kernel_rfl
def HN:Ct TS:=⟨[.d oR 0],[],[oR],.d yu 1,[],[yu],bf,λx=>wN x⟩
def WJ:d_ 219 HN:=eL (T:=[(245,oH)]) (h:=.s .n (.s .n (.s (.s .n (.s (.l ⟨[(0,.d oR 0),(3,.row 4 7001001),(4,dI 1)],(h4 7001001 43 14 2),[oR],[i6,yu]⟩ [(3,.row 4 7001001)] (h4 7001001 43 14 1) [yu] 0 (λx K v=>y5 x K v) (.s .n (.s (.s .n (.s (.s (.l ⟨[(0,.d oR 0),(3,.row 4 7001001),(4,dI 1),(5,dI 3)],(h4 7001001 43 14 2),[oR,i6,yu],[i6]⟩ [(0,.d oR 0),(3,.row 4 7001001),(4,dI 1),(5,dI 3)] (h4 7001001 43 14 2) [i6] 2 (lG wo) (.s (.s (.j ⟨[(0,.d oR 0),(3,.row 4 7001001),(4,dI 1),(5,dI 2),(30,.d .b 4)],(h4 7001001 43 14 3),[oR,i6,i6,yu],[.b]⟩ bf .n) .n) .n)) .n) (.s (.s .n (.s (.l ⟨[(0,.d oR 0),(3,.row 4 7000001),(4,dI 1),(5,dI 2),(37,.d Ya 3),(38,dI 4),(39,dI 5)],(h4 7000001 43 14 6),[oR,i6,i6,Ya,i6],[i6,yu]⟩ [(0,.d oR 0),(3,.row 4 7000001),(5,dI 2)] (h4 7000001 43 14 5) [yu] 4 (tD wq) .n) .n)) .n))) .n))) .n)) .n))) Tryz.func219 rfl zEa ⟨KG,trivial⟩ λx=>by kernel_rfl
def oI:Ct TS:=⟨[.d yu 0],[],[yu],.ij [.d yu 1,dI 2],[],[yu,i6],bf,λx=>jF x⟩
def KH:d_ 218 oI:=eL (T:=[]) (h:=.n) Tryz.func218 rfl zEb trivial λx=>by kernel_rfl
def WK:Ct TS:=⟨[.d yu 0],[],[yu],.ij [.d yu 1,dI 2],[],[yu,i6],bf,λx=>Ja x⟩
def zem:d_ 167 WK:=eL (T:=[(217,qE),(220,AK),(219,HN),(218,oI)]) (h:=.s .n (.s (.s .n (.s (.lr ⟨[(0,.d yu 0),(6,.d yu 0),(7,dI 1),(8,dI 2)],[],[yu,i6],[i6]⟩ [(0,.d yu 0)] [] [] 0 (ir yJ) .n) .n)) .n)) Tryz.func167 rfl zEc ⟨oj,QJ,WJ,KH,trivial⟩ λx=>by kernel_rfl
def oJ:Ct TS:=⟨[.d yu 0,.d yu 1],[],[yu,yu],.d .b 2,[],[.b],bf,ir wR⟩
def KI:d_ 168 oJ:=eL (T:=[]) (h:=.s .n (.s .n (.s (.s .n (.s (.lr ⟨[(0,.d yu 0),(1,.d yu 1),(12,dI 2),(13,dI 3)],[],[yu,yu,i6],[i6]⟩ [] [] [] 0 (lG yz) .n) .n)) .n))) Tryz.func168 rfl zEd trivial λx=>by kernel_rfl
def HO:Ct TS:=⟨[.d yu 0],[],[yu],.d .b 1,[],[.b],bf,λx=>vZ x⟩
def WL:d_ 104 HO:=eL (T:=[(167,WK),(168,oJ)]) (h:=.n) Tryz.func104 rfl zEe ⟨zem,KI,trivial⟩ λx=>by kernel_rfl
def Zs:Ct TS:=⟨[.d gD 0],[],[gD],.ij [.d yu 1,dI 2],[],[yu,i6],bf,λx=>Hk x⟩
def zg3:d_ 173 Zs:=eL (T:=[(159,Wh),(223,Mq),(224,WI),(212,Ky),(214,jH)]) (h:=.s .n (.s .n (.s .n (.s (.s .n (.s (.l ⟨[(0,.d gD 0),(4,.row 1 7000001),(17,.d gD 0),(18,dI 1),(19,dI 2)],(pG 7000001 3),[gD,i6],[i6,.l i6]⟩ [(0,.d gD 0),(4,.row 1 7000001)] (pG 7000001 2) [.l i6] 0 (ir wu) .n) .n)) (.s .n (.s .n (.s .n (.s .n (.s (.s .n (.s (.l ⟨[(4,.d (.l i6) 0),(7,.d Hl 1),(8,.row 4 7004001),(37,dI 2),(38,dI 3)],(h4 7004001 43 14 4),[.l i6,Hl,i6],[i6,yu]⟩ [(8,.row 4 7004001)] (h4 7004001 43 14 3) [yu] 2 (lG wx) (.s .n (.s .n (.s (.s (.s .n (.s .n (.s (.s .n (.s (.l ⟨[(4,.d (.l i6) 0),(7,.d Hl 1),(8,.row 4 7004001),(9,dI 2),(10,.row 1 7002001),(37,dI 3),(38,dI 2),(41,.d Hl 1),(42,dI 4),(43,dI 6)],(EI 7004001 5 7002001 7),[.l i6,Hl,i6,i6,i6,yu],[i6,.l i6]⟩ [(4,.d (.l i6) 0),(7,.d Hl 1),(8,.row 4 7004001),(9,dI 2),(10,.row 1 7002001),(37,dI 3),(38,dI 2)] (EI 7004001 5 7002001 6) [.l i6] 4 (Pq xj) (.s .n (.s .n (.s (.j ⟨[(4,.d (.l i6) 0),(7,.d Hl 1),(8,.row 4 7004001),(9,dI 2),(10,.row 1 7001001),(37,dI 3),(38,dI 2),(41,.d Hl 1),(42,dI 4),(43,dI 5)],(EI 7004001 6 7001001 7),[.l i6,Hl,i6,i6,i6,i6,yu],[.l i6]⟩ bf .n) .n)))) .n)) (.s .n (.s .n (.s (.l ⟨[(4,.d (.l i6) 0),(7,.d Hl 1),(8,.row 4 7003001),(9,dI 2),(10,.row 1 7002001),(13,dI 5),(37,dI 3),(38,dI 2)],(EI 7003001 6 7002001 4),[.l i6,Hl,i6,i6,.l i6],[i6,yu]⟩ [(4,.d (.l i6) 0),(7,.d Hl 1),(8,.row 4 7003001),(37,dI 3),(38,dI 2)] (h4 7003001 43 14 5) [yu] 6 (tD wv) .n) .n)))))) .n) .n)))) .n)) .n))))))))) Tryz.func173 rfl zEf ⟨Zj,⟨UU,Uk⟩,⟨UW,Zr⟩,We,uw,trivial⟩ λx=>by kernel_rfl
def HP:Ct TS:=⟨[.d (.st 5) 0],[],[.st 5],.d yu 1,[],[yu],bf,λx=>qZ x⟩
def WM:d_ 106 HP:=eL (T:=[(173,Zs)]) (h:=.n) Tryz.func106 rfl zEg ⟨zg3,trivial⟩ λx=>by kernel_rfl
def q8:Ct TS:=⟨[.d (.st 14) 0],[],[.st 14],.ij [.ag [dI 2,dI 3,dI 4,dI 5],.d .b 1],[(7000001,.box 43 [dI 2,dI 3,dI 4,dI 5])],[.b,i6,i6,i6,i6],bf,λx=>ja x⟩
def AL:d_ 221 q8:=mq (cd:=mz) (nb:=l0) (rc:=[(2,7000001,0)]) (T:=[(217,qE)]) (h:=.n) Tryz.func221 rfl zEh ⟨oj,trivial⟩ λx=>by kernel_rfl
def oK:Ct TS:=⟨[.d (.st 14) 0,.d (.st 14) 1],[],[.st 14,.st 14],.ij [.ag [dI 3,dI 4,dI 5,dI 6],.d .b 2],[(7000001,.box 43 [dI 3,dI 4,dI 5,dI 6])],[.b,i6,i6,i6,i6],bf,ir jG⟩
def KJ:d_ 169 oK:=mq (cd:=mz) (nb:=l0) (rc:=[(4,7000001,0)]) (T:=[(217,qE),(221,q8)]) (h:=.s .n (.s (.s (.j ⟨[(2,.ptr 1000002 0),(3,.ptr 1000003 0),(4,.ptr 1000004 0),(13,.d .b 9)],[(1000002,.box 43 [dI 0,dI 1,dI 2,dI 3]),(1000003,.box 43 [dI 4,dI 5,dI 6,dI 7]),(1000004,.box 43 [dI 8,dI 8,dI 8,dI 8])],[i6,i6,i6,i6,i6,i6,i6,i6,i6],[.b]⟩ bf .n) .n) .n)) Tryz.func169 rfl zEi ⟨oj,AL,trivial⟩ λx=>by kernel_rfl
def WN:Ct TS:=⟨[.d (.st 14) 0],[],[.st 14],dI 1,[],[i6],bf,λx=>Jb x⟩
def zen:d_ 170 WN:=eL (T:=[(221,q8)]) (h:=.n) Tryz.func170 rfl zEj ⟨AL,trivial⟩ λx=>by kernel_rfl
def AM:Ct TS:=⟨[.d yu 0,.d yu 1],[],[yu,yu],.ij [dI 2,.ag [dI 3,dI 4]],[(7000001,.box 113 [dI 3,dI 4])],[i6,i6,i6],bf,ir qk⟩
def QK:d_ 105 AM:=mq (cd:=mz) (nb:=l0) (rc:=[(5,7000001,0)]) (T:=[(169,oK),(170,WN),(172,oe),(171,Lr)]) (h:=.s .n (.s .n (.s (.s .n (.s (.l ⟨[(1,.d yu 0),(5,.ptr 1000005 0),(6,dI 3),(7,.ptr 1000007 0),(16,.d yu 1),(17,dI 2),(18,dI 4)],(G9 5 6 7 8),[yu,yu,i6],[i6,i6,i6,i6,i6,i6]⟩ [(5,.ptr 1000005 0),(6,dI 3),(7,.ptr 1000007 0)] (G9 4 5 6 7) I4 0 (lG yj) (.s .n (.s .n (.s (.s (.s .n (.s .n (.s (.l ⟨[(1,.d yu 0),(5,.ptr 1000005 0),(6,dI 9),(7,.ptr 1000007 0),(9,.ptr 1000009 0),(16,.d yu 1),(17,dI 2),(18,dI 3),(22,.d yu 0),(23,dI 4),(24,dI 10)],(Ot 5 6 7 8),[yu,yu,i6,i6,i6,i6,i6,i6,i6],[i6,i6,i6,i6,i6,i6]⟩ [(1,.d yu 0),(5,.ptr 1000005 0),(6,dI 9),(7,.ptr 1000007 0),(16,.d yu 1),(17,dI 2),(18,dI 3)] (G9 10 11 12 13) I4 2 (tE ya) (.s .n (.s .n (.s (.j ⟨[(1,.d yu 0),(5,.ptr 1000005 0),(6,dI 10),(7,.ptr 1000007 0),(9,.ptr 1000009 0),(16,.d yu 1),(17,dI 2),(18,dI 3),(22,.d yu 0),(23,dI 4),(24,dI 5)],(Ot 6 7 8 9),[yu,yu,i6,i6,i6,i6,i6,i6,i6,i6],I4⟩ bf .n) .n)))) .n))) .n) .n)))) .n)) .n))) Tryz.func105 rfl zEk ⟨KJ,zen,HC,RW,trivial⟩ λx=>by kernel_rfl
def AN:Ct TS:=⟨[.d (.st 12) 0,.d yu 1],[],[.st 12,yu],.d (.l i6) 2,[],[.l i6],bf,ir wb⟩
def QL:d_ 25 AN:=eL (T:=[(104,HO),(106,HP),(105,AM)]) (h:=.s .n (.s .n (.s .n (.s (.s .n (.s (.l ⟨[(1,.d yu 0),(5,.row 1 7000001),(14,.d fh 1),(15,dI 2),(16,dI 3)],(pG 7000001 4),[yu,fh,i6],[i6,.l i6]⟩ [(5,.row 1 7000001)] (pG 7000001 3) [.l i6] 0 (lG yG) .n) .n)) .n)))) Tryz.func25 rfl ac5 ⟨WL,WM,QK,trivial⟩ λx=>by kernel_rfl
def WO:Ct TS:=⟨[.d (.st 12) 0,.d yu 1],[],[.st 12,yu],.d a_ 2,[],[a_],bf,ir xk⟩
def zeo:d_ 10 WO:=eL (T:=[(25,AN)]) (h:=.s .n (.s .n (.s .n (.s (.s .n (.s (.l ⟨[(2,.ptr 1000002 0),(5,.d (.l i6) 0),(6,dI 10),(15,.d (.l i6) 0),(16,dI 1),(17,dI 11)],(rz 1000002 2 3 4 5 6 7 8 9),[.l i6,i6,fP,e_,fh,eH,eM,zW,gh,i6],[i6,i6]⟩ [(2,.ptr 1000002 0),(5,.d (.l i6) 0),(6,dI 10)] (rz 1000002 2 3 4 5 6 7 8 9) [i6] 0 (ND zK) (.s .n (.s .n (.s (.j ⟨[(2,.ptr 1000002 0),(5,.d (.l i6) 0),(6,dI 11),(15,.d (.l i6) 0),(16,dI 1),(17,dI 2)],(rz 1000002 3 4 5 6 7 8 9 10),[.l i6,i6,i6,fP,e_,fh,eH,eM,zW,gh,i6],[i6]⟩ bf (.s (.s .n (.s (.j ⟨[(2,.ptr 1000002 0),(5,.d (.l i6) 0),(6,dI 1),(7,dI 2),(15,.d (.l i6) 0),(16,dI 3),(17,dI 2),(44,.d .b 12)],(rz 1000002 4 5 6 7 8 9 10 11),[.l i6,i6,i6,i6,fP,e_,fh,eH,eM,zW,gh,i6],[.b]⟩ bf .n) .n)) .n)) .n)))) .n)) (.s .n (.s (.s .n (.s (.l ⟨[(2,.ptr 1000002 0),(6,dI 0),(9,.row 1 7001001),(47,.d (.l i6) 1),(48,dI 2),(49,dI 11)],(G_ 3 4 5 6 7 8 9 10 7001001),[i6,.l i6,i6,fP,e_,fh,eH,eM,zW,gh,i6],[i6,a_]⟩ [(9,.row 1 7001001)] [(7001001,.row 9 .s 11 bf)] [a_] 2 (XW zL) (.s .n (.s .n (.s (.j ⟨[(2,.ptr 1000002 0),(6,dI 0),(9,.row 1 7000001),(47,.d (.l i6) 1),(48,dI 2),(49,dI 3)],(G_ 4 5 6 7 8 9 10 11 7000001),[i6,.l i6,i6,i6,fP,e_,fh,eH,eM,zW,gh,i6],[a_]⟩ bf (.s (.s .n (.s (.j ⟨[(2,.ptr 1000002 0),(6,dI 0),(9,.row 1 7001001),(10,dI 1),(47,.d (.l i6) 2),(48,dI 3),(49,dI 1),(68,.d .b 13)],(G_ 4 5 6 7 8 9 10 11 7001001),[i6,i6,.l i6,i6,fP,e_,fh,eH,eM,zW,gh,i6,a_],[.b]⟩ bf .n) .n)) .n)) .n)))) .n)) .n)))))) Tryz.func10 rfl acR ⟨QL,trivial⟩ λx=>by kernel_rfl
def WQ:Ct TS:=⟨[.d (.st 12) 0,.d (.st 13) 1,.d a_ 2,dI 3,.d (.st 14) 4],h2,[.st 12,.st 13,a_,i6,.st 14],.d .b 5,h2,[.b],bf,tD vu⟩
def QM:d_ 3 WQ:=eL (T:=[(4,WD),(5,Zq),(6,Sd),(7,FV),(8,HM),(9,Se),(10,WO)]) (h:=.s .n (.s .n (.s (.s (.j ⟨[(2,.d a_ 0),(3,dI 1),(5,.ptr 1000005 0),(6,.ptr 1000006 0),(9,.ptr 1000009 0),(11,.d .b 2),(36,.d .b 45)],[(900000000,.rw 1),(900000001,.rw 2),(900000002,.rw 3),(900000003,.rw 4),(1000005,.box 30 [.d fP 3,.d e_ 4,.d fh 5,.d eH 6,.d eM 7,.d zW 8,.d gh 9,dI 10]),(1000006,.box 41 [dI 11,.d .s 12,.d .s 13,dI 14,.d .s 15,.d a_ 16,.d a_ 17,dI 18,dI 19,dI 20,.d .b 21,dI 22,dI 23,dI 24,.d .s 25,.d .s 26,.d dR 27,dI 28,dI 29,dI 30,dI 31,dI 32,dI 33,dI 34,dI 35,dI 36,.d .s 37,.d .s 38,.d dR 39,.d gD 40]),(1000009,.box 43 [dI 41,dI 42,dI 43,dI 44])],abe,[.b]⟩ bf .n) .n) (.s .n (.s .n (.s .n (.s .n (.s (.s .n (.s (.lr ⟨[(2,.d a_ 0),(3,dI 1),(5,.ptr 1000005 0),(6,.ptr 1000006 0),(9,.ptr 1000009 0),(11,.d .b 2),(12,.ptr 1000012 0),(14,.d (.l i6) 3),(15,.d (.l i6) 4),(16,dI 55)],PF,abf,[i6]⟩ [(2,.d a_ 0),(3,dI 1),(5,.ptr 1000005 0),(6,.ptr 1000006 0),(9,.ptr 1000009 0),(11,.d .b 2),(12,.ptr 1000012 0),(15,.d (.l i6) 4)] PF [] 0 (λx K v=>yb x.1 x.2.1 x.2.2.1 x.2.2.2.1 x.2.2.2.2.1 (nj x).1 (nk x).1 (nN x).1 (pe x).1 (pz x).1 (pR x).1 (pO x).1 (pP x).1 (rI x).1 (rJ x).1 (rK x).1 (rL x).1 (rM x).1 (rN x).1 (rO x).1 (rP x).1 (rQ x).1 (sB x).1 (sr x).1 (ss x).1 (sY x).1 (sZ x).1 (s3 x).1 (s4 x).1 (s5 x).1 (s6 x).1 (sX x).1 (Xv x).1 (Xw x).1 (Xx x).1 (Xy x).1 (Xz x).1 (XA x).1 (XB x).1 (XC x).1 (XD x).1 (XE x).1 (XF x).1 (XG x).1 (XH x).1 (XI x).1 (XJ x).1 (XK x).1 (XL x).1 (XM x).1 (XN x).1 (XO x).1 (XP x).1 (XQ x).1 (XR x) K v) (.s .n (.s (.s (.s (.j ⟨[(2,.d a_ 0),(3,dI 1),(5,.ptr 1000005 0),(6,.ptr 1000006 0),(9,.ptr 1000009 0),(11,.d .b 2),(12,.ptr 1000012 0),(14,.d (.l i6) 3),(15,.d (.l i6) 4),(16,dI 5),(17,.d .b 56)],PG,Pd,[.b]⟩ bf .n) (.s (.j ⟨[(2,.d a_ 0),(3,dI 1),(5,.ptr 1000005 0),(6,.ptr 1000006 0),(9,.ptr 1000009 0),(11,.d .b 2),(12,.ptr 1000012 0),(14,.d (.l i6) 3),(15,.d (.l i6) 4),(16,dI 5),(120,.d .b 56)],PG,Pd,[.b]⟩ bf .n) .n)) .n) .n))) .n)) (.s (.j ⟨[(5,.ptr 1000005 0),(6,.ptr 1000006 0),(9,.ptr 1000009 0),(11,.d .b 0),(12,.ptr 1000012 0)],PE,Xq,[]⟩ bg (.s .n (.s (.s .n (.s (.j ⟨[(5,.ptr 1000005 0),(6,.ptr 1000006 0),(9,.ptr 1000009 0),(11,.d .b 0),(12,.ptr 1000012 0),(149,.d .b 51)],PE,Xq,[.b]⟩ bf .n) .n)) .n))) (.s .n (.s .n (.s .n (.s .n (.s (.s .n (.s (.lr ⟨[(11,.d .b 0),(19,.d a_ 1),(20,.d a_ 2),(21,dI 3)],h2,[.b,a_,a_],[i6]⟩ [(11,.d .b 0)] h2 [] 2 (lG zX) .n) .n)) .n)))))))))))))) Tryz.func3 rfl abR ⟨zej,zg2,zlq,Lu,WH,zlr,zeo,trivial⟩ λx=>by kernel_rfl
end Go.Proofs.YtkmjhipiiifekaaGreatDoor
