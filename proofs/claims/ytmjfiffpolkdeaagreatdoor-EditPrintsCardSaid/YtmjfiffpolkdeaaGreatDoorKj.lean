/- texts that the proof reaches, part 10 -/
import Derived.Test.YtmjfiffpolkdeaaGreatDoorKi
set_option linter.all false
open Bool renaming false->bd,true->bg
open Nat renaming beq->bk
open Option renaming some->bc,none->bh
set_option maxRecDepth 100000
namespace Go.Proofs.YtmjfiffpolkdeaaGreatDoor
open Go Go.RowKit Go.iE Go.EV Go.EQ
noncomputable abbrev aR:=Tryz.prog
abbrev i6:TC:=.i .i64
abbrev dI(k:Nat):Tp:=.d i6 k
abbrev bC:TC:=.l (.m .s .b)
abbrev mPQ:TC:=.m .s .b
abbrev bH:TC:=.l .s
abbrev bZ:TC:=.l (.st 0)
abbrev gE:TC:=.l (.st 1)
abbrev eR:TC:=.l (.st 2)
abbrev mg:TC:=.l (.st 3)
abbrev fN:TC:=.l (.st 4)
abbrev fO:TC:=.l (.st 5)
abbrev fR:TC:=.l (.st 7)
abbrev fH:TC:=.l (.st 8)
abbrev fy:TC:=.l (.st 9)
abbrev yy:TC:=.l (.st 10)
abbrev vb:TC:=.l (.st 11)
abbrev wZ:TC:=.l (.st 12)
abbrev Bj:TC:=.l (.st 13)
abbrev nJ:TC:=.l (.st 14)
abbrev gpQ(l:List (Nat×TO)):List (Nat×TO):=(900000000,.rw 1)::(900000001,.rw 2)::(900000002,.rw 3)::(900000003,.rw 4)::l
abbrev pnQ(n:Nat):Nat×Tp:=(n,.ptr (1000000+n) 0)
abbrev alf:Nat×Tp:=(0,.ptr 1 0)
def ir{b_ cq β:Type}(f:b_->cq->β)(x:b_×cq):β:=f x.1 x.2
def mI{b_ cq di β:Type}(f:b_->cq->di->β)(x:b_×cq×di):β:=f x.1 x.2.1 x.2.2
def ac5{b_ cq di d_ β:Type}(f:b_->cq->di->d_->β)(x:b_×cq×di×d_):β:=f x.1 x.2.1 x.2.2.1 x.2.2.2
def SO{b_ cq di d_ ew fu fx β:Type}(f:b_->cq->di->d_->ew->fu->fx->β)(x:b_×cq×di×d_×ew×fu×fx):β:=f x.1 x.2.1 x.2.2.1 x.2.2.2.1 x.2.2.2.2.1 x.2.2.2.2.2.1 x.2.2.2.2.2.2
def rY{b_ cq di d_ ew fu fx fF fJ β:Type}(f:b_->cq->di->d_->ew->fu->fx->fF->fJ->β)(x:b_×cq×di×d_×ew×fu×fx×fF×fJ):β:=f x.1 x.2.1 x.2.2.1 x.2.2.2.1 x.2.2.2.2.1 x.2.2.2.2.2.1 x.2.2.2.2.2.2.1 x.2.2.2.2.2.2.2.1 x.2.2.2.2.2.2.2.2
def aiB{b_ cq di d_ ew fu fx fF fJ fL β:Type}(f:b_->cq->di->d_->ew->fu->fx->fF->fJ->fL->β)(x:b_×cq×di×d_×ew×fu×fx×fF×fJ×fL):β:=f x.1 x.2.1 x.2.2.1 x.2.2.2.1 x.2.2.2.2.1 x.2.2.2.2.2.1 x.2.2.2.2.2.2.1 x.2.2.2.2.2.2.2.1 x.2.2.2.2.2.2.2.2.1 x.2.2.2.2.2.2.2.2.2
def aiC{b_ cq di d_ ew fu fx fF fJ fL fT β:Type}(f:b_->cq->di->d_->ew->fu->fx->fF->fJ->fL->fT->β)(x:b_×cq×di×d_×ew×fu×fx×fF×fJ×fL×fT):β:=f x.1 x.2.1 x.2.2.1 x.2.2.2.1 x.2.2.2.2.1 x.2.2.2.2.2.1 x.2.2.2.2.2.2.1 x.2.2.2.2.2.2.2.1 x.2.2.2.2.2.2.2.2.1 x.2.2.2.2.2.2.2.2.2.1 x.2.2.2.2.2.2.2.2.2.2
def ND{b_ cq di d_ ew fu fx fF fJ fL fT fX β:Type}(f:b_->cq->di->d_->ew->fu->fx->fF->fJ->fL->fT->fX->β)(x:b_×cq×di×d_×ew×fu×fx×fF×fJ×fL×fT×fX):β:=f x.1 x.2.1 x.2.2.1 x.2.2.2.1 x.2.2.2.2.1 x.2.2.2.2.2.1 x.2.2.2.2.2.2.1 x.2.2.2.2.2.2.2.1 x.2.2.2.2.2.2.2.2.1 x.2.2.2.2.2.2.2.2.2.1 x.2.2.2.2.2.2.2.2.2.2.1 x.2.2.2.2.2.2.2.2.2.2.2
def aiD{b_ cq di d_ ew fu fx fF fJ fL fT fX f_ gb β:Type}(f:b_->cq->di->d_->ew->fu->fx->fF->fJ->fL->fT->fX->f_->gb->β)(x:b_×cq×di×d_×ew×fu×fx×fF×fJ×fL×fT×fX×f_×gb):β:=f x.1 x.2.1 x.2.2.1 x.2.2.2.1 x.2.2.2.2.1 x.2.2.2.2.2.1 x.2.2.2.2.2.2.1 x.2.2.2.2.2.2.2.1 x.2.2.2.2.2.2.2.2.1 x.2.2.2.2.2.2.2.2.2.1 x.2.2.2.2.2.2.2.2.2.2.1 x.2.2.2.2.2.2.2.2.2.2.2.1 x.2.2.2.2.2.2.2.2.2.2.2.2.1 x.2.2.2.2.2.2.2.2.2.2.2.2.2
def Df{b_ cq di d_ ew fu fx fF fJ fL fT fX f_ gb gi gj β:Type}(f:b_->cq->di->d_->ew->fu->fx->fF->fJ->fL->fT->fX->f_->gb->gi->gj->β)(x:b_×cq×di×d_×ew×fu×fx×fF×fJ×fL×fT×fX×f_×gb×gi×gj):β:=f x.1 x.2.1 x.2.2.1 x.2.2.2.1 x.2.2.2.2.1 x.2.2.2.2.2.1 x.2.2.2.2.2.2.1 x.2.2.2.2.2.2.2.1 x.2.2.2.2.2.2.2.2.1 x.2.2.2.2.2.2.2.2.2.1 x.2.2.2.2.2.2.2.2.2.2.1 x.2.2.2.2.2.2.2.2.2.2.2.1 x.2.2.2.2.2.2.2.2.2.2.2.2.1 x.2.2.2.2.2.2.2.2.2.2.2.2.2.1 x.2.2.2.2.2.2.2.2.2.2.2.2.2.2.1 x.2.2.2.2.2.2.2.2.2.2.2.2.2.2.2
def Ga{b_ cq di d_ ew fu fx fF fJ fL fT fX f_ gb gi gj gx β:Type}(f:b_->cq->di->d_->ew->fu->fx->fF->fJ->fL->fT->fX->f_->gb->gi->gj->gx->β)(x:b_×cq×di×d_×ew×fu×fx×fF×fJ×fL×fT×fX×f_×gb×gi×gj×gx):β:=f x.1 x.2.1 x.2.2.1 x.2.2.2.1 x.2.2.2.2.1 x.2.2.2.2.2.1 x.2.2.2.2.2.2.1 x.2.2.2.2.2.2.2.1 x.2.2.2.2.2.2.2.2.1 x.2.2.2.2.2.2.2.2.2.1 x.2.2.2.2.2.2.2.2.2.2.1 x.2.2.2.2.2.2.2.2.2.2.2.1 x.2.2.2.2.2.2.2.2.2.2.2.2.1 x.2.2.2.2.2.2.2.2.2.2.2.2.2.1 x.2.2.2.2.2.2.2.2.2.2.2.2.2.2.1 x.2.2.2.2.2.2.2.2.2.2.2.2.2.2.2.1 x.2.2.2.2.2.2.2.2.2.2.2.2.2.2.2.2
def ZC{b_ cq di d_ ew fu fx fF fJ fL fT fX f_ gb gi gj gx gz gB β:Type}(f:b_->cq->di->d_->ew->fu->fx->fF->fJ->fL->fT->fX->f_->gb->gi->gj->gx->gz->gB->β)(x:b_×cq×di×d_×ew×fu×fx×fF×fJ×fL×fT×fX×f_×gb×gi×gj×gx×gz×gB):β:=f x.1 x.2.1 x.2.2.1 x.2.2.2.1 x.2.2.2.2.1 x.2.2.2.2.2.1 x.2.2.2.2.2.2.1 x.2.2.2.2.2.2.2.1 x.2.2.2.2.2.2.2.2.1 x.2.2.2.2.2.2.2.2.2.1 x.2.2.2.2.2.2.2.2.2.2.1 x.2.2.2.2.2.2.2.2.2.2.2.1 x.2.2.2.2.2.2.2.2.2.2.2.2.1 x.2.2.2.2.2.2.2.2.2.2.2.2.2.1 x.2.2.2.2.2.2.2.2.2.2.2.2.2.2.1 x.2.2.2.2.2.2.2.2.2.2.2.2.2.2.2.1 x.2.2.2.2.2.2.2.2.2.2.2.2.2.2.2.2.1 x.2.2.2.2.2.2.2.2.2.2.2.2.2.2.2.2.2.1 x.2.2.2.2.2.2.2.2.2.2.2.2.2.2.2.2.2.2
def ZH{b_ cq di d_ ew fu fx fF fJ fL fT fX f_ gb gi gj gx gz gB gJ gL gM β:Type}(f:b_->cq->di->d_->ew->fu->fx->fF->fJ->fL->fT->fX->f_->gb->gi->gj->gx->gz->gB->gJ->gL->gM->β)(x:b_×cq×di×d_×ew×fu×fx×fF×fJ×fL×fT×fX×f_×gb×gi×gj×gx×gz×gB×gJ×gL×gM):β:=f x.1 x.2.1 x.2.2.1 x.2.2.2.1 x.2.2.2.2.1 x.2.2.2.2.2.1 x.2.2.2.2.2.2.1 x.2.2.2.2.2.2.2.1 x.2.2.2.2.2.2.2.2.1 x.2.2.2.2.2.2.2.2.2.1 x.2.2.2.2.2.2.2.2.2.2.1 x.2.2.2.2.2.2.2.2.2.2.2.1 x.2.2.2.2.2.2.2.2.2.2.2.2.1 x.2.2.2.2.2.2.2.2.2.2.2.2.2.1 x.2.2.2.2.2.2.2.2.2.2.2.2.2.2.1 x.2.2.2.2.2.2.2.2.2.2.2.2.2.2.2.1 x.2.2.2.2.2.2.2.2.2.2.2.2.2.2.2.2.1 x.2.2.2.2.2.2.2.2.2.2.2.2.2.2.2.2.2.1 x.2.2.2.2.2.2.2.2.2.2.2.2.2.2.2.2.2.2.1 x.2.2.2.2.2.2.2.2.2.2.2.2.2.2.2.2.2.2.2.1 x.2.2.2.2.2.2.2.2.2.2.2.2.2.2.2.2.2.2.2.2.1 x.2.2.2.2.2.2.2.2.2.2.2.2.2.2.2.2.2.2.2.2.2
def nE{b_ cq di d_ ew β:Type}(x:b_×cq×di×d_×ew×β):β:=x.2.2.2.2.2
def oz{b_ cq di d_ ew fu β:Type}(x:b_×cq×di×d_×ew×fu×β):β:=x.2.2.2.2.2.2
def rX{b_ cq di d_ ew fu fx β:Type}(x:b_×cq×di×d_×ew×fu×fx×β):β:=x.2.2.2.2.2.2.2
def sY{b_ cq di d_ ew fu fx fF β:Type}(x:b_×cq×di×d_×ew×fu×fx×fF×β):β:=x.2.2.2.2.2.2.2.2
def tB{b_ cq di d_ ew fu fx fF fJ β:Type}(x:b_×cq×di×d_×ew×fu×fx×fF×fJ×β):β:=x.2.2.2.2.2.2.2.2.2
def ui{b_ cq di d_ ew fu fx fF fJ fL β:Type}(x:b_×cq×di×d_×ew×fu×fx×fF×fJ×fL×β):β:=x.2.2.2.2.2.2.2.2.2.2
def uj{b_ cq di d_ ew fu fx fF fJ fL fT β:Type}(x:b_×cq×di×d_×ew×fu×fx×fF×fJ×fL×fT×β):β:=x.2.2.2.2.2.2.2.2.2.2.2
def uk{b_ cq di d_ ew fu fx fF fJ fL fT fX β:Type}(x:b_×cq×di×d_×ew×fu×fx×fF×fJ×fL×fT×fX×β):β:=x.2.2.2.2.2.2.2.2.2.2.2.2
def Ci{b_ cq di d_ ew fu fx fF fJ fL fT fX f_ β:Type}(x:b_×cq×di×d_×ew×fu×fx×fF×fJ×fL×fT×fX×f_×β):β:=x.2.2.2.2.2.2.2.2.2.2.2.2.2
def Cj{b_ cq di d_ ew fu fx fF fJ fL fT fX f_ gb β:Type}(x:b_×cq×di×d_×ew×fu×fx×fF×fJ×fL×fT×fX×f_×gb×β):β:=x.2.2.2.2.2.2.2.2.2.2.2.2.2.2
def Ck{b_ cq di d_ ew fu fx fF fJ fL fT fX f_ gb gi β:Type}(x:b_×cq×di×d_×ew×fu×fx×fF×fJ×fL×fT×fX×f_×gb×gi×β):β:=x.2.2.2.2.2.2.2.2.2.2.2.2.2.2.2
def Lj{b_ cq di d_ ew fu fx fF fJ fL fT fX f_ gb gi gj β:Type}(x:b_×cq×di×d_×ew×fu×fx×fF×fJ×fL×fT×fX×f_×gb×gi×gj×β):β:=x.2.2.2.2.2.2.2.2.2.2.2.2.2.2.2.2
def o_{b_ cq di d_ ew fu fx fF fJ fL fT fX f_ gb gi gj gx β:Type}(x:b_×cq×di×d_×ew×fu×fx×fF×fJ×fL×fT×fX×f_×gb×gi×gj×gx×β):β:=x.2.2.2.2.2.2.2.2.2.2.2.2.2.2.2.2.2
def um{b_ cq di d_ ew fu fx fF fJ fL fT fX f_ gb gi gj gx gz β:Type}(x:b_×cq×di×d_×ew×fu×fx×fF×fJ×fL×fT×fX×f_×gb×gi×gj×gx×gz×β):β:=x.2.2.2.2.2.2.2.2.2.2.2.2.2.2.2.2.2.2
def Ev{b_ cq di d_ ew fu fx fF fJ fL fT fX f_ gb gi gj gx gz gB β:Type}(x:b_×cq×di×d_×ew×fu×fx×fF×fJ×fL×fT×fX×f_×gb×gi×gj×gx×gz×gB×β):β:=x.2.2.2.2.2.2.2.2.2.2.2.2.2.2.2.2.2.2.2
def Lk{b_ cq di d_ ew fu fx fF fJ fL fT fX f_ gb gi gj gx gz gB gJ β:Type}(x:b_×cq×di×d_×ew×fu×fx×fF×fJ×fL×fT×fX×f_×gb×gi×gj×gx×gz×gB×gJ×β):β:=x.2.2.2.2.2.2.2.2.2.2.2.2.2.2.2.2.2.2.2.2
def Ll{b_ cq di d_ ew fu fx fF fJ fL fT fX f_ gb gi gj gx gz gB gJ gL β:Type}(x:b_×cq×di×d_×ew×fu×fx×fF×fJ×fL×fT×fX×f_×gb×gi×gj×gx×gz×gB×gJ×gL×β):β:=x.2.2.2.2.2.2.2.2.2.2.2.2.2.2.2.2.2.2.2.2.2
def Lm{b_ cq di d_ ew fu fx fF fJ fL fT fX f_ gb gi gj gx gz gB gJ gL gM β:Type}(x:b_×cq×di×d_×ew×fu×fx×fF×fJ×fL×fT×fX×f_×gb×gi×gj×gx×gz×gB×gJ×gL×gM×β):β:=x.2.2.2.2.2.2.2.2.2.2.2.2.2.2.2.2.2.2.2.2.2.2
def Ln{b_ cq di d_ ew fu fx fF fJ fL fT fX f_ gb gi gj gx gz gB gJ gL gM gX β:Type}(x:b_×cq×di×d_×ew×fu×fx×fF×fJ×fL×fT×fX×f_×gb×gi×gj×gx×gz×gB×gJ×gL×gM×gX×β):β:=x.2.2.2.2.2.2.2.2.2.2.2.2.2.2.2.2.2.2.2.2.2.2.2
def Lo{b_ cq di d_ ew fu fx fF fJ fL fT fX f_ gb gi gj gx gz gB gJ gL gM gX hJ β:Type}(x:b_×cq×di×d_×ew×fu×fx×fF×fJ×fL×fT×fX×f_×gb×gi×gj×gx×gz×gB×gJ×gL×gM×gX×hJ×β):β:=x.2.2.2.2.2.2.2.2.2.2.2.2.2.2.2.2.2.2.2.2.2.2.2.2
def Lp{b_ cq di d_ ew fu fx fF fJ fL fT fX f_ gb gi gj gx gz gB gJ gL gM gX hJ h_ β:Type}(x:b_×cq×di×d_×ew×fu×fx×fF×fJ×fL×fT×fX×f_×gb×gi×gj×gx×gz×gB×gJ×gL×gM×gX×hJ×h_×β):β:=x.2.2.2.2.2.2.2.2.2.2.2.2.2.2.2.2.2.2.2.2.2.2.2.2.2
def Ld{b_ cq di d_ ew fu fx fF fJ fL fT fX f_ gb gi gj gx gz gB gJ gL gM gX hJ h_ iu β:Type}(x:b_×cq×di×d_×ew×fu×fx×fF×fJ×fL×fT×fX×f_×gb×gi×gj×gx×gz×gB×gJ×gL×gM×gX×hJ×h_×iu×β):β:=x.2.2.2.2.2.2.2.2.2.2.2.2.2.2.2.2.2.2.2.2.2.2.2.2.2.2
def Le{b_ cq di d_ ew fu fx fF fJ fL fT fX f_ gb gi gj gx gz gB gJ gL gM gX hJ h_ iu iv β:Type}(x:b_×cq×di×d_×ew×fu×fx×fF×fJ×fL×fT×fX×f_×gb×gi×gj×gx×gz×gB×gJ×gL×gM×gX×hJ×h_×iu×iv×β):β:=x.2.2.2.2.2.2.2.2.2.2.2.2.2.2.2.2.2.2.2.2.2.2.2.2.2.2.2
def Lf{b_ cq di d_ ew fu fx fF fJ fL fT fX f_ gb gi gj gx gz gB gJ gL gM gX hJ h_ iu iv iA β:Type}(x:b_×cq×di×d_×ew×fu×fx×fF×fJ×fL×fT×fX×f_×gb×gi×gj×gx×gz×gB×gJ×gL×gM×gX×hJ×h_×iu×iv×iA×β):β:=x.2.2.2.2.2.2.2.2.2.2.2.2.2.2.2.2.2.2.2.2.2.2.2.2.2.2.2.2
def Zq{b_ cq di d_ ew fu fx fF fJ fL fT fX f_ gb gi gj gx gz gB gJ gL gM gX hJ h_ iu iv iA iC β:Type}(x:b_×cq×di×d_×ew×fu×fx×fF×fJ×fL×fT×fX×f_×gb×gi×gj×gx×gz×gB×gJ×gL×gM×gX×hJ×h_×iu×iv×iA×iC×β):β:=x.2.2.2.2.2.2.2.2.2.2.2.2.2.2.2.2.2.2.2.2.2.2.2.2.2.2.2.2.2
def Zr{b_ cq di d_ ew fu fx fF fJ fL fT fX f_ gb gi gj gx gz gB gJ gL gM gX hJ h_ iu iv iA iC iD β:Type}(x:b_×cq×di×d_×ew×fu×fx×fF×fJ×fL×fT×fX×f_×gb×gi×gj×gx×gz×gB×gJ×gL×gM×gX×hJ×h_×iu×iv×iA×iC×iD×β):β:=x.2.2.2.2.2.2.2.2.2.2.2.2.2.2.2.2.2.2.2.2.2.2.2.2.2.2.2.2.2.2
def Zs{b_ cq di d_ ew fu fx fF fJ fL fT fX f_ gb gi gj gx gz gB gJ gL gM gX hJ h_ iu iv iA iC iD iH β:Type}(x:b_×cq×di×d_×ew×fu×fx×fF×fJ×fL×fT×fX×f_×gb×gi×gj×gx×gz×gB×gJ×gL×gM×gX×hJ×h_×iu×iv×iA×iC×iD×iH×β):β:=x.2.2.2.2.2.2.2.2.2.2.2.2.2.2.2.2.2.2.2.2.2.2.2.2.2.2.2.2.2.2.2
def Zt{b_ cq di d_ ew fu fx fF fJ fL fT fX f_ gb gi gj gx gz gB gJ gL gM gX hJ h_ iu iv iA iC iD iH iL β:Type}(x:b_×cq×di×d_×ew×fu×fx×fF×fJ×fL×fT×fX×f_×gb×gi×gj×gx×gz×gB×gJ×gL×gM×gX×hJ×h_×iu×iv×iA×iC×iD×iH×iL×β):β:=x.2.2.2.2.2.2.2.2.2.2.2.2.2.2.2.2.2.2.2.2.2.2.2.2.2.2.2.2.2.2.2.2
def ah7{b_ cq di d_ ew fu fx fF fJ fL fT fX f_ gb gi gj gx gz gB gJ gL gM gX hJ h_ iu iv iA iC iD iH iL iR β:Type}(x:b_×cq×di×d_×ew×fu×fx×fF×fJ×fL×fT×fX×f_×gb×gi×gj×gx×gz×gB×gJ×gL×gM×gX×hJ×h_×iu×iv×iA×iC×iD×iH×iL×iR×β):β:=x.2.2.2.2.2.2.2.2.2.2.2.2.2.2.2.2.2.2.2.2.2.2.2.2.2.2.2.2.2.2.2.2.2
def ah8{b_ cq di d_ ew fu fx fF fJ fL fT fX f_ gb gi gj gx gz gB gJ gL gM gX hJ h_ iu iv iA iC iD iH iL iR iU β:Type}(x:b_×cq×di×d_×ew×fu×fx×fF×fJ×fL×fT×fX×f_×gb×gi×gj×gx×gz×gB×gJ×gL×gM×gX×hJ×h_×iu×iv×iA×iC×iD×iH×iL×iR×iU×β):β:=x.2.2.2.2.2.2.2.2.2.2.2.2.2.2.2.2.2.2.2.2.2.2.2.2.2.2.2.2.2.2.2.2.2.2
def ah9{b_ cq di d_ ew fu fx fF fJ fL fT fX f_ gb gi gj gx gz gB gJ gL gM gX hJ h_ iu iv iA iC iD iH iL iR iU j4 β:Type}(x:b_×cq×di×d_×ew×fu×fx×fF×fJ×fL×fT×fX×f_×gb×gi×gj×gx×gz×gB×gJ×gL×gM×gX×hJ×h_×iu×iv×iA×iC×iD×iH×iL×iR×iU×j4×β):β:=x.2.2.2.2.2.2.2.2.2.2.2.2.2.2.2.2.2.2.2.2.2.2.2.2.2.2.2.2.2.2.2.2.2.2.2
def ah_{b_ cq di d_ ew fu fx fF fJ fL fT fX f_ gb gi gj gx gz gB gJ gL gM gX hJ h_ iu iv iA iC iD iH iL iR iU j4 kf β:Type}(x:b_×cq×di×d_×ew×fu×fx×fF×fJ×fL×fT×fX×f_×gb×gi×gj×gx×gz×gB×gJ×gL×gM×gX×hJ×h_×iu×iv×iA×iC×iD×iH×iL×iR×iU×j4×kf×β):β:=x.2.2.2.2.2.2.2.2.2.2.2.2.2.2.2.2.2.2.2.2.2.2.2.2.2.2.2.2.2.2.2.2.2.2.2.2
def ah'{b_ cq di d_ ew fu fx fF fJ fL fT fX f_ gb gi gj gx gz gB gJ gL gM gX hJ h_ iu iv iA iC iD iH iL iR iU j4 kf lg β:Type}(x:b_×cq×di×d_×ew×fu×fx×fF×fJ×fL×fT×fX×f_×gb×gi×gj×gx×gz×gB×gJ×gL×gM×gX×hJ×h_×iu×iv×iA×iC×iD×iH×iL×iR×iU×j4×kf×lg×β):β:=x.2.2.2.2.2.2.2.2.2.2.2.2.2.2.2.2.2.2.2.2.2.2.2.2.2.2.2.2.2.2.2.2.2.2.2.2.2
def aia{b_ cq di d_ ew fu fx fF fJ fL fT fX f_ gb gi gj gx gz gB gJ gL gM gX hJ h_ iu iv iA iC iD iH iL iR iU j4 kf lg ll β:Type}(x:b_×cq×di×d_×ew×fu×fx×fF×fJ×fL×fT×fX×f_×gb×gi×gj×gx×gz×gB×gJ×gL×gM×gX×hJ×h_×iu×iv×iA×iC×iD×iH×iL×iR×iU×j4×kf×lg×ll×β):β:=x.2.2.2.2.2.2.2.2.2.2.2.2.2.2.2.2.2.2.2.2.2.2.2.2.2.2.2.2.2.2.2.2.2.2.2.2.2.2
def aib{b_ cq di d_ ew fu fx fF fJ fL fT fX f_ gb gi gj gx gz gB gJ gL gM gX hJ h_ iu iv iA iC iD iH iL iR iU j4 kf lg ll lF β:Type}(x:b_×cq×di×d_×ew×fu×fx×fF×fJ×fL×fT×fX×f_×gb×gi×gj×gx×gz×gB×gJ×gL×gM×gX×hJ×h_×iu×iv×iA×iC×iD×iH×iL×iR×iU×j4×kf×lg×ll×lF×β):β:=x.2.2.2.2.2.2.2.2.2.2.2.2.2.2.2.2.2.2.2.2.2.2.2.2.2.2.2.2.2.2.2.2.2.2.2.2.2.2.2
def aic{b_ cq di d_ ew fu fx fF fJ fL fT fX f_ gb gi gj gx gz gB gJ gL gM gX hJ h_ iu iv iA iC iD iH iL iR iU j4 kf lg ll lF lN β:Type}(x:b_×cq×di×d_×ew×fu×fx×fF×fJ×fL×fT×fX×f_×gb×gi×gj×gx×gz×gB×gJ×gL×gM×gX×hJ×h_×iu×iv×iA×iC×iD×iH×iL×iR×iU×j4×kf×lg×ll×lF×lN×β):β:=x.2.2.2.2.2.2.2.2.2.2.2.2.2.2.2.2.2.2.2.2.2.2.2.2.2.2.2.2.2.2.2.2.2.2.2.2.2.2.2.2
def aid{b_ cq di d_ ew fu fx fF fJ fL fT fX f_ gb gi gj gx gz gB gJ gL gM gX hJ h_ iu iv iA iC iD iH iL iR iU j4 kf lg ll lF lN lQ β:Type}(x:b_×cq×di×d_×ew×fu×fx×fF×fJ×fL×fT×fX×f_×gb×gi×gj×gx×gz×gB×gJ×gL×gM×gX×hJ×h_×iu×iv×iA×iC×iD×iH×iL×iR×iU×j4×kf×lg×ll×lF×lN×lQ×β):β:=x.2.2.2.2.2.2.2.2.2.2.2.2.2.2.2.2.2.2.2.2.2.2.2.2.2.2.2.2.2.2.2.2.2.2.2.2.2.2.2.2.2
def aie{b_ cq di d_ ew fu fx fF fJ fL fT fX f_ gb gi gj gx gz gB gJ gL gM gX hJ h_ iu iv iA iC iD iH iL iR iU j4 kf lg ll lF lN lQ lW β:Type}(x:b_×cq×di×d_×ew×fu×fx×fF×fJ×fL×fT×fX×f_×gb×gi×gj×gx×gz×gB×gJ×gL×gM×gX×hJ×h_×iu×iv×iA×iC×iD×iH×iL×iR×iU×j4×kf×lg×ll×lF×lN×lQ×lW×β):β:=x.2.2.2.2.2.2.2.2.2.2.2.2.2.2.2.2.2.2.2.2.2.2.2.2.2.2.2.2.2.2.2.2.2.2.2.2.2.2.2.2.2.2
def aif{b_ cq di d_ ew fu fx fF fJ fL fT fX f_ gb gi gj gx gz gB gJ gL gM gX hJ h_ iu iv iA iC iD iH iL iR iU j4 kf lg ll lF lN lQ lW l_ β:Type}(x:b_×cq×di×d_×ew×fu×fx×fF×fJ×fL×fT×fX×f_×gb×gi×gj×gx×gz×gB×gJ×gL×gM×gX×hJ×h_×iu×iv×iA×iC×iD×iH×iL×iR×iU×j4×kf×lg×ll×lF×lN×lQ×lW×l_×β):β:=x.2.2.2.2.2.2.2.2.2.2.2.2.2.2.2.2.2.2.2.2.2.2.2.2.2.2.2.2.2.2.2.2.2.2.2.2.2.2.2.2.2.2.2
def aih{b_ cq di d_ ew fu fx fF fJ fL fT fX f_ gb gi gj gx gz gB gJ gL gM gX hJ h_ iu iv iA iC iD iH iL iR iU j4 kf lg ll lF lN lQ lW l_ ml β:Type}(x:b_×cq×di×d_×ew×fu×fx×fF×fJ×fL×fT×fX×f_×gb×gi×gj×gx×gz×gB×gJ×gL×gM×gX×hJ×h_×iu×iv×iA×iC×iD×iH×iL×iR×iU×j4×kf×lg×ll×lF×lN×lQ×lW×l_×ml×β):β:=x.2.2.2.2.2.2.2.2.2.2.2.2.2.2.2.2.2.2.2.2.2.2.2.2.2.2.2.2.2.2.2.2.2.2.2.2.2.2.2.2.2.2.2.2
def aii{b_ cq di d_ ew fu fx fF fJ fL fT fX f_ gb gi gj gx gz gB gJ gL gM gX hJ h_ iu iv iA iC iD iH iL iR iU j4 kf lg ll lF lN lQ lW l_ ml mw β:Type}(x:b_×cq×di×d_×ew×fu×fx×fF×fJ×fL×fT×fX×f_×gb×gi×gj×gx×gz×gB×gJ×gL×gM×gX×hJ×h_×iu×iv×iA×iC×iD×iH×iL×iR×iU×j4×kf×lg×ll×lF×lN×lQ×lW×l_×ml×mw×β):β:=x.2.2.2.2.2.2.2.2.2.2.2.2.2.2.2.2.2.2.2.2.2.2.2.2.2.2.2.2.2.2.2.2.2.2.2.2.2.2.2.2.2.2.2.2.2
def aij{b_ cq di d_ ew fu fx fF fJ fL fT fX f_ gb gi gj gx gz gB gJ gL gM gX hJ h_ iu iv iA iC iD iH iL iR iU j4 kf lg ll lF lN lQ lW l_ ml mw mL β:Type}(x:b_×cq×di×d_×ew×fu×fx×fF×fJ×fL×fT×fX×f_×gb×gi×gj×gx×gz×gB×gJ×gL×gM×gX×hJ×h_×iu×iv×iA×iC×iD×iH×iL×iR×iU×j4×kf×lg×ll×lF×lN×lQ×lW×l_×ml×mw×mL×β):β:=x.2.2.2.2.2.2.2.2.2.2.2.2.2.2.2.2.2.2.2.2.2.2.2.2.2.2.2.2.2.2.2.2.2.2.2.2.2.2.2.2.2.2.2.2.2.2
def aik{b_ cq di d_ ew fu fx fF fJ fL fT fX f_ gb gi gj gx gz gB gJ gL gM gX hJ h_ iu iv iA iC iD iH iL iR iU j4 kf lg ll lF lN lQ lW l_ ml mw mL m_ β:Type}(x:b_×cq×di×d_×ew×fu×fx×fF×fJ×fL×fT×fX×f_×gb×gi×gj×gx×gz×gB×gJ×gL×gM×gX×hJ×h_×iu×iv×iA×iC×iD×iH×iL×iR×iU×j4×kf×lg×ll×lF×lN×lQ×lW×l_×ml×mw×mL×m_×β):β:=x.2.2.2.2.2.2.2.2.2.2.2.2.2.2.2.2.2.2.2.2.2.2.2.2.2.2.2.2.2.2.2.2.2.2.2.2.2.2.2.2.2.2.2.2.2.2.2
def ail{b_ cq di d_ ew fu fx fF fJ fL fT fX f_ gb gi gj gx gz gB gJ gL gM gX hJ h_ iu iv iA iC iD iH iL iR iU j4 kf lg ll lF lN lQ lW l_ ml mw mL m_ nA β:Type}(x:b_×cq×di×d_×ew×fu×fx×fF×fJ×fL×fT×fX×f_×gb×gi×gj×gx×gz×gB×gJ×gL×gM×gX×hJ×h_×iu×iv×iA×iC×iD×iH×iL×iR×iU×j4×kf×lg×ll×lF×lN×lQ×lW×l_×ml×mw×mL×m_×nA×β):β:=x.2.2.2.2.2.2.2.2.2.2.2.2.2.2.2.2.2.2.2.2.2.2.2.2.2.2.2.2.2.2.2.2.2.2.2.2.2.2.2.2.2.2.2.2.2.2.2.2
def aim{b_ cq di d_ ew fu fx fF fJ fL fT fX f_ gb gi gj gx gz gB gJ gL gM gX hJ h_ iu iv iA iC iD iH iL iR iU j4 kf lg ll lF lN lQ lW l_ ml mw mL m_ nA nV β:Type}(x:b_×cq×di×d_×ew×fu×fx×fF×fJ×fL×fT×fX×f_×gb×gi×gj×gx×gz×gB×gJ×gL×gM×gX×hJ×h_×iu×iv×iA×iC×iD×iH×iL×iR×iU×j4×kf×lg×ll×lF×lN×lQ×lW×l_×ml×mw×mL×m_×nA×nV×β):β:=x.2.2.2.2.2.2.2.2.2.2.2.2.2.2.2.2.2.2.2.2.2.2.2.2.2.2.2.2.2.2.2.2.2.2.2.2.2.2.2.2.2.2.2.2.2.2.2.2.2
def ain{b_ cq di d_ ew fu fx fF fJ fL fT fX f_ gb gi gj gx gz gB gJ gL gM gX hJ h_ iu iv iA iC iD iH iL iR iU j4 kf lg ll lF lN lQ lW l_ ml mw mL m_ nA nV pG β:Type}(x:b_×cq×di×d_×ew×fu×fx×fF×fJ×fL×fT×fX×f_×gb×gi×gj×gx×gz×gB×gJ×gL×gM×gX×hJ×h_×iu×iv×iA×iC×iD×iH×iL×iR×iU×j4×kf×lg×ll×lF×lN×lQ×lW×l_×ml×mw×mL×m_×nA×nV×pG×β):β:=x.2.2.2.2.2.2.2.2.2.2.2.2.2.2.2.2.2.2.2.2.2.2.2.2.2.2.2.2.2.2.2.2.2.2.2.2.2.2.2.2.2.2.2.2.2.2.2.2.2.2
def aio{b_ cq di d_ ew fu fx fF fJ fL fT fX f_ gb gi gj gx gz gB gJ gL gM gX hJ h_ iu iv iA iC iD iH iL iR iU j4 kf lg ll lF lN lQ lW l_ ml mw mL m_ nA nV pG ri β:Type}(x:b_×cq×di×d_×ew×fu×fx×fF×fJ×fL×fT×fX×f_×gb×gi×gj×gx×gz×gB×gJ×gL×gM×gX×hJ×h_×iu×iv×iA×iC×iD×iH×iL×iR×iU×j4×kf×lg×ll×lF×lN×lQ×lW×l_×ml×mw×mL×m_×nA×nV×pG×ri×β):β:=x.2.2.2.2.2.2.2.2.2.2.2.2.2.2.2.2.2.2.2.2.2.2.2.2.2.2.2.2.2.2.2.2.2.2.2.2.2.2.2.2.2.2.2.2.2.2.2.2.2.2.2
def aip{b_ cq di d_ ew fu fx fF fJ fL fT fX f_ gb gi gj gx gz gB gJ gL gM gX hJ h_ iu iv iA iC iD iH iL iR iU j4 kf lg ll lF lN lQ lW l_ ml mw mL m_ nA nV pG ri ss β:Type}(x:b_×cq×di×d_×ew×fu×fx×fF×fJ×fL×fT×fX×f_×gb×gi×gj×gx×gz×gB×gJ×gL×gM×gX×hJ×h_×iu×iv×iA×iC×iD×iH×iL×iR×iU×j4×kf×lg×ll×lF×lN×lQ×lW×l_×ml×mw×mL×m_×nA×nV×pG×ri×ss×β):β:=x.2.2.2.2.2.2.2.2.2.2.2.2.2.2.2.2.2.2.2.2.2.2.2.2.2.2.2.2.2.2.2.2.2.2.2.2.2.2.2.2.2.2.2.2.2.2.2.2.2.2.2.2
def aiq{b_ cq di d_ ew fu fx fF fJ fL fT fX f_ gb gi gj gx gz gB gJ gL gM gX hJ h_ iu iv iA iC iD iH iL iR iU j4 kf lg ll lF lN lQ lW l_ ml mw mL m_ nA nV pG ri ss tm β:Type}(x:b_×cq×di×d_×ew×fu×fx×fF×fJ×fL×fT×fX×f_×gb×gi×gj×gx×gz×gB×gJ×gL×gM×gX×hJ×h_×iu×iv×iA×iC×iD×iH×iL×iR×iU×j4×kf×lg×ll×lF×lN×lQ×lW×l_×ml×mw×mL×m_×nA×nV×pG×ri×ss×tm×β):β:=x.2.2.2.2.2.2.2.2.2.2.2.2.2.2.2.2.2.2.2.2.2.2.2.2.2.2.2.2.2.2.2.2.2.2.2.2.2.2.2.2.2.2.2.2.2.2.2.2.2.2.2.2.2
def air{b_ cq di d_ ew fu fx fF fJ fL fT fX f_ gb gi gj gx gz gB gJ gL gM gX hJ h_ iu iv iA iC iD iH iL iR iU j4 kf lg ll lF lN lQ lW l_ ml mw mL m_ nA nV pG ri ss tm y0 β:Type}(x:b_×cq×di×d_×ew×fu×fx×fF×fJ×fL×fT×fX×f_×gb×gi×gj×gx×gz×gB×gJ×gL×gM×gX×hJ×h_×iu×iv×iA×iC×iD×iH×iL×iR×iU×j4×kf×lg×ll×lF×lN×lQ×lW×l_×ml×mw×mL×m_×nA×nV×pG×ri×ss×tm×y0×β):β:=x.2.2.2.2.2.2.2.2.2.2.2.2.2.2.2.2.2.2.2.2.2.2.2.2.2.2.2.2.2.2.2.2.2.2.2.2.2.2.2.2.2.2.2.2.2.2.2.2.2.2.2.2.2.2
def ais{b_ cq di d_ ew fu fx fF fJ fL fT fX f_ gb gi gj gx gz gB gJ gL gM gX hJ h_ iu iv iA iC iD iH iL iR iU j4 kf lg ll lF lN lQ lW l_ ml mw mL m_ nA nV pG ri ss tm y0 Cv β:Type}(x:b_×cq×di×d_×ew×fu×fx×fF×fJ×fL×fT×fX×f_×gb×gi×gj×gx×gz×gB×gJ×gL×gM×gX×hJ×h_×iu×iv×iA×iC×iD×iH×iL×iR×iU×j4×kf×lg×ll×lF×lN×lQ×lW×l_×ml×mw×mL×m_×nA×nV×pG×ri×ss×tm×y0×Cv×β):β:=x.2.2.2.2.2.2.2.2.2.2.2.2.2.2.2.2.2.2.2.2.2.2.2.2.2.2.2.2.2.2.2.2.2.2.2.2.2.2.2.2.2.2.2.2.2.2.2.2.2.2.2.2.2.2.2
def ait{b_ cq di d_ ew fu fx fF fJ fL fT fX f_ gb gi gj gx gz gB gJ gL gM gX hJ h_ iu iv iA iC iD iH iL iR iU j4 kf lg ll lF lN lQ lW l_ ml mw mL m_ nA nV pG ri ss tm y0 Cv E3 β:Type}(x:b_×cq×di×d_×ew×fu×fx×fF×fJ×fL×fT×fX×f_×gb×gi×gj×gx×gz×gB×gJ×gL×gM×gX×hJ×h_×iu×iv×iA×iC×iD×iH×iL×iR×iU×j4×kf×lg×ll×lF×lN×lQ×lW×l_×ml×mw×mL×m_×nA×nV×pG×ri×ss×tm×y0×Cv×E3×β):β:=x.2.2.2.2.2.2.2.2.2.2.2.2.2.2.2.2.2.2.2.2.2.2.2.2.2.2.2.2.2.2.2.2.2.2.2.2.2.2.2.2.2.2.2.2.2.2.2.2.2.2.2.2.2.2.2.2
def aiu{b_ cq di d_ ew fu fx fF fJ fL fT fX f_ gb gi gj gx gz gB gJ gL gM gX hJ h_ iu iv iA iC iD iH iL iR iU j4 kf lg ll lF lN lQ lW l_ ml mw mL m_ nA nV pG ri ss tm y0 Cv E3 Mk β:Type}(x:b_×cq×di×d_×ew×fu×fx×fF×fJ×fL×fT×fX×f_×gb×gi×gj×gx×gz×gB×gJ×gL×gM×gX×hJ×h_×iu×iv×iA×iC×iD×iH×iL×iR×iU×j4×kf×lg×ll×lF×lN×lQ×lW×l_×ml×mw×mL×m_×nA×nV×pG×ri×ss×tm×y0×Cv×E3×Mk×β):β:=x.2.2.2.2.2.2.2.2.2.2.2.2.2.2.2.2.2.2.2.2.2.2.2.2.2.2.2.2.2.2.2.2.2.2.2.2.2.2.2.2.2.2.2.2.2.2.2.2.2.2.2.2.2.2.2.2.2
def aiv{b_ cq di d_ ew fu fx fF fJ fL fT fX f_ gb gi gj gx gz gB gJ gL gM gX hJ h_ iu iv iA iC iD iH iL iR iU j4 kf lg ll lF lN lQ lW l_ ml mw mL m_ nA nV pG ri ss tm y0 Cv E3 Mk Yj β:Type}(x:b_×cq×di×d_×ew×fu×fx×fF×fJ×fL×fT×fX×f_×gb×gi×gj×gx×gz×gB×gJ×gL×gM×gX×hJ×h_×iu×iv×iA×iC×iD×iH×iL×iR×iU×j4×kf×lg×ll×lF×lN×lQ×lW×l_×ml×mw×mL×m_×nA×nV×pG×ri×ss×tm×y0×Cv×E3×Mk×Yj×β):β:=x.2.2.2.2.2.2.2.2.2.2.2.2.2.2.2.2.2.2.2.2.2.2.2.2.2.2.2.2.2.2.2.2.2.2.2.2.2.2.2.2.2.2.2.2.2.2.2.2.2.2.2.2.2.2.2.2.2.2
def aiw{b_ cq di d_ ew fu fx fF fJ fL fT fX f_ gb gi gj gx gz gB gJ gL gM gX hJ h_ iu iv iA iC iD iH iL iR iU j4 kf lg ll lF lN lQ lW l_ ml mw mL m_ nA nV pG ri ss tm y0 Cv E3 Mk Yj ahp β:Type}(x:b_×cq×di×d_×ew×fu×fx×fF×fJ×fL×fT×fX×f_×gb×gi×gj×gx×gz×gB×gJ×gL×gM×gX×hJ×h_×iu×iv×iA×iC×iD×iH×iL×iR×iU×j4×kf×lg×ll×lF×lN×lQ×lW×l_×ml×mw×mL×m_×nA×nV×pG×ri×ss×tm×y0×Cv×E3×Mk×Yj×ahp×β):β:=x.2.2.2.2.2.2.2.2.2.2.2.2.2.2.2.2.2.2.2.2.2.2.2.2.2.2.2.2.2.2.2.2.2.2.2.2.2.2.2.2.2.2.2.2.2.2.2.2.2.2.2.2.2.2.2.2.2.2.2
variable[JC]
def ni{a b:Prop}(h:a=b)(x:a):b:=h▸x
def zJu{n:Int}(h0:0<=n)(h1:n<256):(((UInt8.ofNat (Int.toNat n)).toNat:Nat):Int)=n:=by rw[UInt8.toNat_ofNat'];omega
def zV3{T:Nat}(hT:w_ T)(s:ak)(n:Int)(r:ak)(h:Px s n=bc r):mx aR 153 [.ptr 1 0 0,.int .u8 n] [(1,sb T s)] .lJ [(1,sb T r)]:=by obtain⟨_,h1,h2⟩:=bind_some h;obtain⟨g1,g2,g3⟩:=yD h1;cases h2;have:=zJb hT 1 s (UInt8.ofNat (Int.toNat n)) g3;rw[zJu g1 g2]at this;exact this
def zJv(l:List ar)(i j:Int)(r:List ar×List ar)(h:WZ l i j=bc r):mx aR 76 [.sl 4 1 l.length 0 l.length,.int .i64 i,.int .i64 j] [(1,.row 83 4 0 (l.map vv))] (.vs 4 (r.1.map vv)) [(1,.row 83 4 r.2.length (r.2.map vv))]:=by
 obtain⟨_,h1,h2⟩:=bind_some h;obtain⟨rfl,rfl,h4⟩:=yD h1;cases h2;have:=zQp (els:=l.map vv) (λc hc=>by obtain⟨x,_,rfl⟩:=List.mem_map.1 hc;exact⟨rfl,rfl⟩) (by simpa using h4);simp only[List.length_map]at this
 have e:(l.take 3++(l.drop 4++[(⟨0,[],0,0⟩:ar)])).length=l.length:=by simp;omega
 show mx aR 76 _ _ (.vs 4 ((l.take 3++l.drop 4).map vv)) [(1,.row 83 4 (l.take 3++(l.drop 4++[(⟨0,[],0,0⟩:ar)])).length ((l.take 3++(l.drop 4++[(⟨0,[],0,0⟩:ar)])).map vv))]
 rw[e];simpa[vv]using this
def k1:List TC:=[i6,.s,i6,i6]
def k2:List TC:=[eR,fN,fO,fR,fH,yy,fy,i6]
def h3:List (Nat×TO):=[(900000000,.rw 1),(900000001,.rw 2),(900000002,.rw 3),(900000003,.rw 4)]
def h4(v0 v1 v2 v3 v4:Nat):List (Nat×TO):=[(900000000,.rw 1),(900000001,.rw 2),(900000002,.rw 3),(900000003,.rw 4),(v0,.box 83 [dI v1,.d .s v2,dI v3,dI v4])]
def h5(v0 v1 v2 v3 v4 v5 v6 v7 v8 v9 v10 v11 v12 lL lM lO:Nat):List (Nat×TO):=[(1,.box 153 [.d vb 0,dI v0,.row 6 2,.row 3 3,.row 3 4,.row 20 5,.row 4 6,.row 6 7,.pU 3 8,dI v1,.om 9,.om 10,.om 11,.om 12,.om 13,.om 14,.d .b v2]),(2,.row 99 (.st 2) v3 bd),(3,.row 107 (.st 4) v4 bd),(4,.row 101 (.st 5) v5 bd),(5,.row 33 (.st 7) v6 bd),(6,.row 115 (.st 8) v7 bd),(7,.row 121 (.st 10) v8 bd),(8,.row 119 (.st 9) v9 bd),(9,.gn 7 bC v10),(10,.gn 7 bC v11),(11,.gn 7 bC v12),(12,.gn 7 bC lL),(13,.gn 7 bC lM),(14,.gn 7 bC lO)]
abbrev J3:List (Nat×TO):=(h5 19 9 16 2 3 4 5 6 7 8 10 11 12 13 14 15)
abbrev GB:List (Nat×TO):=(h5 18 9 16 2 3 4 5 6 7 8 10 11 12 13 14 15)
abbrev Dg:List (Nat×TO):=(h5 16 1 2 3 4 5 6 7 8 9 10 11 12 13 14 15)
abbrev rJ:List (Nat×TO):=(h5 1 2 3 4 5 6 7 8 9 10 11 12 13 14 15 16)
abbrev km:List (Nat×TO):=(h5 1 9 16 2 3 4 5 6 7 8 10 11 12 13 14 15)
def k6:List TC:=[vb,i6,eR,fN,fO,fR,fH,yy,fy,i6,bC,bC,bC,bC,bC,bC,.b]
def k7:List TC:=[vb,i6,eR,fN,fO,fR,fH,yy,fy,i6,bC,bC,bC,bC,bC,bC,.b,.b,i6]
def k8:List TC:=[vb,i6,eR,fN,fO,fR,fH,yy,fy,i6,bC,bC,bC,bC,bC,bC,.b,i6,i6]
def k9:List TC:=[.s,i6,bC]
def p9(v0 v1 v2 v3 v4 v5 v6 v7 v8 v9 v10:Nat):List (Nat×TO):=[(1,.box 153 [.d vb 0,dI v0,.row 6 2,.row 3 3,.row 3 4,.row 20 5,.row 4 6,.row 6 7,.pU 3 8,dI v1,.om v2,.om 10,.om 11,.om 12,.om 13,.om 14,.d .b v3]),(2,.row 99 (.st 2) v4 bd),(3,.row 107 (.st 4) v5 bd),(4,.row 101 (.st 5) v6 bd),(5,.row 33 (.st 7) v7 bd),(6,.row 115 (.st 8) v8 bd),(7,.row 121 (.st 10) v9 bd),(8,.row 119 (.st 9) v10 bd),(9,.rw 0),(10,.gn 7 bC 11),(11,.gn 7 bC 12),(12,.gn 7 bC 13),(13,.gn 7 bC 14),(14,.gn 7 bC 15)]
def p_(v0 v1:Nat):List (Nat×TO):=[(v0,.gn 7 bC v1)]
def Bb:List TC:=[vb,i6,i6,.b,eR,fN,fO,fR,fH,yy,fy,bC,bC,bC,bC,bC,i6]
def FM:List TC:=[vb,i6,eR,fN,fO,fR,fH,yy,fy,i6,bC,bC,bC,bC,bC,bC,.b,.s]
def FN:List TC:=[vb,i6,i6,.b,eR,fN,fO,fR,fH,yy,fy,bC,bC,bC,bC,bC,bC,i6]
def IJ:List TC:=[vb,i6,eR,fN,fO,fR,fH,yy,fy,i6,bC,bC,bC,bC,bC,bC,.b,i6]
def qB(v0 v1 v2 v3 v4 v5:Nat):List (Nat×TO):=[(v0,.box 29 [dI v1,dI v2,.d .s v3,.d .s v4,.d bZ v5])]
abbrev zV4:List (Nat×TO):=((h5 19 1 2 3 4 5 6 7 8 9 10 11 12 13 14 15)++h3++(qB 1000004 16 16 17 17 18))
abbrev N6:List (Nat×TO):=((h5 20 1 2 3 4 5 6 7 8 9 10 11 12 13 14 15)++h3++(qB 1000004 17 17 18 18 19))
def Nb:List TC:=[i6,i6,i6,i6,.s,.s,bZ]
def Nc:List TC:=[i6,i6,i6,.s,.s,bZ]
def FO:List TC:=[vb,i6,.b,eR,fN,fO,fR,fH,yy,fy,bC,bC,bC,bC,bC,bC,i6,i6,.s,bZ]
def acI:List TC:=[vb,i6,.b,eR,fN,fO,fR,fH,yy,fy,bC,bC,bC,bC,bC,bC,i6,.s,bZ]
def Ro(v0 v1 v2 v3 v4 v5 v6 v7 v8 v9 v10 v11:Nat):List (Nat×TO):=[(v0,.box 29 [dI v1,dI v2,.d .s v3,.d .s v4,.d bZ v5]),(v6,.box 29 [dI v7,dI v8,.d .s v9,.d .s v10,.d bZ v11])]
abbrev zV5:List (Nat×TO):=((h5 20 1 2 3 4 5 6 7 8 9 10 11 12 13 14 15)++h3++(Ro 1000004 17 17 18 18 19 1000005 22 23 24 25 26))
def CH(v0 v1 v2 v3 v4 v5 v6 v7 v8 v9 v10:Nat):List (Nat×TO):=[(1000004,.box 29 [dI v0,dI v0,.d .s v1,.d .s v1,.d bZ v2]),(1000005,.box 29 [dI v3,dI v4,.d .s v5,.d .s v6,.d bZ v7]),(1000007,.box 297 [.d .s v8,dI v9,dI v10])]
def acJ:List TC:=[vb,i6,i6,.b,eR,fN,fO,fR,fH,yy,fy,bC,bC,bC,bC,bC,bC,i6,i6,Bj,i6,i6,.s,bZ,i6,i6,.s,.s,bZ]
def acK:List TC:=[vb,i6,i6,.b,eR,fN,fO,fR,fH,yy,fy,bC,bC,bC,bC,bC,bC,i6,i6,Bj,i6,i6,i6,.s,bZ,i6,i6,.s,.s,bZ]
def acL:List TC:=[vb,i6,i6,.b,eR,fN,fO,fR,fH,yy,fy,bC,bC,bC,bC,bC,bC,i6,i6,.s,bZ,i6,i6,.s,.s,bZ,.s,i6,i6]
def acq(v0 v1 v2 v3 v4 v5 v6 v7 v8 v9 v10 v11 v12:Nat):List (Nat×TO):=[(1,.box 153 [.d vb 0,dI v0,.row 6 2,.row 3 3,.row 3 4,.row 20 5,.row 4 6,.row 6 7,.pU 3 8,dI v1,.om 9,.om 10,.om v2,.om 12,.om 13,.om 14,.d .b v3]),(2,.row 99 (.st 2) v4 bd),(3,.row 107 (.st 4) v5 bd),(4,.row 101 (.st 5) v6 bd),(5,.row 33 (.st 7) v7 bd),(6,.row 115 (.st 8) v8 bd),(7,.row 121 (.st 10) v9 bd),(8,.row 119 (.st 9) v10 bd),(9,.gn 7 bC v11),(10,.gn 7 bC v12),(11,.rw 0),(12,.gn 7 bC 13),(13,.gn 7 bC 14),(14,.gn 7 bC 15)]
abbrev zV6:List (Nat×TO):=((acq 1 2 7000001 3 4 5 6 7 8 9 10 11 12)++h3++(p_ 7000001 17))
def sV(v0 v1 v2 v3:Nat):List (Nat×TO):=[(v0,.row v1 (.st v2) v3 bd)]
def FQ:List TC:=[vb,i6,.b,eR,fN,fO,fR,fH,yy,fy,bC,bC,bC,bC,bC,bC]
def D0(v0 v1 v2 v3 v4 v5 v6 v7 v8 v9 v10 v11 v12 lL lM lO:Nat):List (Nat×TO):=[(1,.box 153 [.d vb 0,dI v0,.row 6 2,.row 3 3,.row 3 4,.row 20 5,.row 4 6,.row 6 7,.pU 3 8,dI v1,.om 9,.om 10,.om 11,.om v2,.om 13,.om 14,.d .b v3]),(2,.row 99 (.st 2) v4 bd),(3,.row 107 (.st 4) v5 bd),(4,.row 101 (.st 5) v6 bd),(5,.row 33 (.st 7) v7 bd),(6,.row 115 (.st 8) v8 bd),(7,.row 121 (.st 10) v9 bd),(8,.row 119 (.st 9) v10 bd),(9,.gn 7 bC v11),(10,.gn 7 bC v12),(11,.gn 7 bC lL),(12,.rw 0),(13,.gn 7 bC lM),(14,.gn 7 bC lO)]
abbrev zV7:List (Nat×TO):=((D0 1 2 7000001 3 4 5 6 7 8 9 10 11 12 13 14 15)++h3++(p_ 7000001 17))
abbrev N7:List (Nat×TO):=(D0 22 1 103000400 2 3 4 5 6 7 8 9 10 11 12 13 14)
abbrev N8:List (Nat×TO):=(D0 23 1 103000400 2 3 4 5 6 7 8 9 10 11 12 13 14)
def acM:List TC:=[vb,i6,i6,.b,eR,fN,fO,fR,fH,yy,fy,bC,bC,bC,bC,bC,bC,i6,i6]
def zp(v0 v1 v2 v3 v4 v5 v6 v7 v8 v9 v10 v11 v12 lL lM lO mi mJ mX:Nat):List (Nat×TO):=[(103000400,.gn 7 bC 15),(1000002,.box 33 [.d .s 16,.d bH v0,.d bH v1,dI v2,dI v3,dI v4,.d .b v5,dI v6,dI v7,dI v8,.d .s v9,.d .s v10,.d bZ v11,dI v12,dI lL,dI lM,dI lO,dI mi,dI mJ,dI mX])]
abbrev zV8:List (Nat×TO):=((D0 24 1 103000400 2 3 4 5 6 7 8 9 10 11 12 13 14)++h3++(zp 17 18 19 25 20 21 20 20 20 22 22 23 20 20 20 20 20 20 20))
abbrev zV9:List (Nat×TO):=((D0 25 1 103000400 2 3 4 5 6 7 8 9 10 11 12 13 14)++h3++(zp 17 18 19 20 26 21 22 22 22 23 23 24 22 22 22 22 22 22 22))
def Nd:List TC:=[vb,i6,.b,eR,fN,fO,fR,fH,yy,fy,bC,bC,bC,bC,bC,bC,.s,bH,i6,.b,.s,bZ]
def acN:List TC:=[vb,i6,.b,eR,fN,fO,fR,fH,yy,fy,bC,bC,bC,bC,bC,bC,.s,bH,bH,i6,.b,.s,bZ]
def acO:List TC:=[vb,i6,.b,eR,fN,fO,fR,fH,yy,fy,bC,bC,bC,bC,bC,bC,.s,bH,bH,i6,i6,.b,.s,bZ]
def acP:List TC:=[vb,i6,.b,eR,fN,fO,fR,fH,yy,fy,bC,bC,bC,bC,bC,bC,.s,bH,bH,i6,i6,.b,i6,.s,bZ]
def acQ:List TC:=[vb,i6,.b,eR,fN,fO,fR,fH,yy,fy,bC,bC,bC,bC,bC,bC,.s,bH,bH,i6,i6,i6,.b]
def acR:List TC:=[i6,i6,i6,i6,.s,.s,bZ,i6,i6,i6,i6,i6,i6,i6]
def acr(v0 v1 v2 v3 v4 v5 v6 v7 v8 v9 v10 v11 v12 lL lM:Nat):List (Nat×TO):=[(1,.box 153 [.d vb 0,dI v0,.row 6 2,.row 3 3,.row 3 4,.row 20 5,.row 4 6,.row 6 7,.pU 3 8,dI v1,.om 9,.om 10,.om 11,.om 12,.om v2,.om 14,.d .b v3]),(2,.row 99 (.st 2) v4 bd),(3,.row 107 (.st 4) v5 bd),(4,.row 101 (.st 5) v6 bd),(5,.row 33 (.st 7) v7 bd),(6,.row 115 (.st 8) v8 bd),(7,.row 121 (.st 10) v9 bd),(8,.row 119 (.st 9) v10 bd),(9,.gn 7 bC v11),(10,.gn 7 bC v12),(11,.gn 7 bC lL),(12,.gn 7 bC lM),(13,.rw 0),(14,.gn 7 bC 15)]
abbrev zWa:List (Nat×TO):=((acr 1 2 7000001 3 4 5 6 7 8 9 10 11 12 13 14)++h3++(p_ 7000001 17))
def Rp(v0 v1 v2 v3 v4 v5 v6 v7 v8 v9 v10 v11 v12 lL lM lO:Nat):List (Nat×TO):=[(1,.box 153 [.d vb 0,dI v0,.row 6 2,.row 3 3,.row 3 4,.row 20 5,.row 4 6,.row 6 7,.pU 3 8,dI v1,.om v2,.om 10,.om v3,.om v4,.om v5,.om 14,.d .b v6]),(2,.row 99 (.st 2) v7 bd),(3,.row 107 (.st 4) v8 bd),(4,.row 101 (.st 5) v9 bd),(5,.row 33 (.st 7) v10 bd),(6,.row 115 (.st 8) v11 bd),(7,.row 121 (.st 10) v12 bd),(8,.row 119 (.st 9) lL bd),(9,.rw 0),(10,.gn 7 bC lM),(11,.rw 0),(12,.rw 0),(13,.rw 0),(14,.gn 7 bC lO)]
def Rs(v0 v1 v2 v3 v4 v5 v6 v7:Nat):List (Nat×TO):=[(v0,.gn 7 bC v1),(v2,.gn 7 bC v3),(v4,.gn 7 bC v5),(v6,.gn 7 bC v7)]
abbrev NF:List (Nat×TO):=((Rp 6 7 7000001 7000002 7000003 7000004 8 9 1 10 11 12 2 3 4 5)++h3++(Rs 7000001 13 7000002 14 7000003 15 7000004 16))
def IK:List TC:=[i6,i6,.b,eR,fO,fR,fH,bC,bC,bC,bC]
def acS:List TC:=[vb,fN,yy,fy,bC,bC]
def Rt(v0 v1 v2 v3 v4 v5 v6 v7 v8 v9 v10 v11 v12 lL lM lO mi mJ mX nw v20 v21 v22 v23 v24 v25 v26 s8 v28 ue v30:Nat):List (Nat×TO):=[(v0,.box 36 [dI v1,.d .s v2,.d .s v3,dI v4,.d .s v5,.d bH v6,.d bH v7,dI v8,dI v9,dI v10,.d .b v11,dI v12,dI lL,dI lM,.d .s lO,.d .s mi,.d bZ mJ,dI mX,dI nw,dI v20,dI v21,dI v22,dI v23,dI v24,dI v25,dI v26,.d .s s8,.d .s v28,.d bZ ue,.d gE v30])]
abbrev zWb:List (Nat×TO):=(Rt 1 0 1 2 3 4 5 6 7 8 9 10 11 12 13 14 15 16 17 18 19 20 21 22 23 24 25 26 27 28 29)
abbrev Dh:List (Nat×TO):=(Rt 1 1 2 3 4 5 6 7 8 9 10 11 12 13 14 15 16 17 18 19 20 21 22 23 24 25 26 27 28 29 30)
def Sv:List TC:=[i6,.s,.s,i6,.s,bH,bH,i6,i6,i6,.b,i6,i6,i6,.s,.s,bZ,i6,i6,i6,i6,i6,i6,i6,i6,i6,.s,.s,bZ,gE]
def acs(v0 v1 v2 v3 v4 v5 v6 v7 v8 v9 v10 v11 v12 lL lM lO mi mJ mX nw v20 v21 v22 v23 v24 v25 v26 s8 v28 ue v30 v31 SP SQ SS SU SV v37 SW SX v40 agX agY agZ ag0 ag1 v46 ag2 ag3 v49 ag4 v51 ag5 v53 ag6 ag7 ag8 ag9 ag_:Nat):List (Nat×TO):=[(1000002,.box 36 [dI 0,.d .s 1,.d .s v0,dI v1,.d .s v2,.d bH v3,.d bH v4,dI v5,dI v6,dI v7,.d .b v8,dI v9,dI v10,dI v11,.d .s v12,.d .s lL,.d bZ lM,dI lO,dI mi,dI mJ,dI mX,dI nw,dI v20,dI v21,dI v22,dI v23,.d .s v24,.d .s v25,.d bZ v26,.d gE s8]),(v28,.box 36 [dI ue,.d .s v30,.d .s v31,dI SP,.d .s SQ,.d bH SS,.d bH SU,dI SV,dI v37,dI SW,.d .b SX,dI v40,dI agX,dI agY,.d .s agZ,.d .s ag0,.d bZ ag1,dI v46,dI ag2,dI ag3,dI v49,dI ag4,dI v51,dI ag5,dI v53,dI ag6,.d .s ag7,.d .s ag8,.d bZ ag9,.d gE ag_])]
abbrev NG:List (Nat×TO):=(acs 2 3 4 5 6 7 8 9 10 11 12 13 14 15 16 17 18 19 20 21 22 23 24 25 26 27 28 29 1000003 30 31 32 33 34 35 36 37 38 39 40 41 42 43 44 45 46 47 48 49 50 51 52 53 54 55 56 57 58 59)
def D1(v0 v1 v2 v3 v4 v5 v6 v7 v8 v9 v10 v11 v12 lL lM lO mi mJ mX nw v20 v21 v22 v23 v24 v25 v26 s8 v28 ue v30:Nat):List (Nat×TO):=[(900000000,.rw 1),(900000001,.rw 2),(900000002,.rw 3),(900000003,.rw 4),(v0,.box 36 [dI v1,.d .s v2,.d .s v3,dI v4,.d .s v5,.d bH v6,.d bH v7,dI v8,dI v9,dI v10,.d .b v11,dI v12,dI lL,dI lM,.d .s lO,.d .s mi,.d bZ mJ,dI mX,dI nw,dI v20,dI v21,dI v22,dI v23,dI v24,dI v25,dI v26,.d .s s8,.d .s v28,.d bZ ue,.d gE v30])]
abbrev zWc:List (Nat×TO):=(D1 1000002 4 5 5 4 5 6 6 4 4 4 7 4 4 4 5 5 8 4 4 4 4 4 4 4 4 4 5 5 8 9)
def acT:List TC:=[i6,i6,.s,.s,i6,.s,bH,bH,i6,i6,i6,.b,i6,i6,i6,.s,.s,bZ,i6,i6,i6,i6,i6,i6,i6,i6,i6,.s,.s,bZ,gE]
def acU:List TC:=[vb,i6,i6,i6,i6,.s,bH,.b,bZ,gE]
def acv(v0 v1 v2 v3 v4 v5 v6 v7 v8 v9 v10 v11 v12 lL lM lO mi mJ mX nw v20 v21 v22 v23 v24 v25:Nat):List (Nat×TO):=[(900000000,.rw 1),(900000001,.rw 2),(900000002,.rw 3),(900000003,.rw 4),(1000002,.box 36 [dI v0,.d .s v1,.d .s v1,dI v2,.d .s v1,.d bH v3,.d bH v3,dI v4,dI v5,dI v6,.d .b v7,dI v8,dI v9,dI v10,.d .s v1,.d .s v1,.d bZ v11,dI v12,dI lL,dI lM,dI lO,dI mi,dI mJ,dI mX,dI nw,dI v20,.d .s v1,.d .s v1,.d bZ v11,.d gE v21]),(1000011,.box 36 [dI v22,.d .s 23,.d .s v23,dI v24,.d .s v1,.d bH v3,.d bH v3,dI v25,dI v25,dI v25,.d .b v7,dI v25,dI v25,dI v25,.d .s v1,.d .s v1,.d bZ v11,dI v25,dI v25,dI v25,dI v25,dI v25,dI v25,dI v25,dI v25,dI v25,.d .s v1,.d .s v1,.d bZ v11,.d gE v21])]
def agC:List TC:=[i6,i6,.s,i6,bH,i6,i6,i6,.b,i6,i6,i6,bZ,i6,i6,i6,i6,i6,i6,i6,i6,i6,gE,.s,i6,i6]
def agD:List TC:=[i6,.s,i6,bH,i6,i6,i6,.b,i6,i6,i6,bZ,i6,i6,i6,i6,i6,i6,i6,i6,i6,gE,i6,.s,.s,i6,i6]
def MY(v0 v1:Nat):List (Nat×TO):=[(900000000,.rw 1),(900000001,.rw 2),(900000002,.rw 3),(900000003,.rw 4),(v0,.row 78 vb v1 bd)]
def acw(v0 v1 v2 v3 v4 v5 v6 v7 v8 v9 v10 v11 v12 lL lM lO mi mJ mX nw v20 v21 v22 v23 v24 v25 v26 s8 v28 ue v30 v31:Nat):List (Nat×TO):=[(900000000,.rw 1),(900000001,.rw 2),(900000002,.rw 3),(900000003,.rw 4),(7002001,.row 36 (.st 12) v0 bd),(1000014,.box 36 [dI v1,.d .s v2,.d .s v3,dI v4,.d .s v5,.d bH v6,.d bH v7,dI v8,dI v9,dI v10,.d .b v11,dI v12,dI lL,dI lM,.d .s lO,.d .s mi,.d bZ mJ,dI mX,dI nw,dI v20,dI v21,dI v22,dI v23,dI v24,dI v25,dI v26,.d .s s8,.d .s v28,.d bZ ue,.d gE v30]),(7001001,.row 78 vb v31 bd)]
def sB(v0:Nat):List (Nat×TO):=[(900000000,.rw 1),(900000001,.rw 2),(900000002,.rw 3),(900000003,.rw 4),(7000001,.row 9 .s v0 bd)]
def acx:List (Nat×TO):=[(900000000,.rw 1),(900000001,.rw 2),(900000002,.rw 3),(900000003,.rw 4),(1000002,.box 29 [dI 1,dI 2,.d .s 3,.d .s 4,.d bZ 5])]
def Ru(v0 v1 v2 v3 v4 v5:Nat):List (Nat×TO):=[(900000000,.rw 1),(900000001,.rw 2),(900000002,.rw 3),(900000003,.rw 4),(1000002,.box 29 [dI v0,dI v1,.d .s v2,.d .s v3,.d bZ v4]),(1000005,.box 29 [dI v0,dI 7,.d .s 8,.d .s v5,.d bZ v4])]
def acy(v0 v1 v2 v3 v4 v5 v6 v7 v8 v9 v10 v11 v12 lL lM lO mi mJ mX nw v20 v21 v22 v23 v24 v25 v26 s8 v28 ue v30 v31 SP SQ SS SU SV v37 SW SX:Nat):List (Nat×TO):=[(1000002,.box 33 [.d .s v0,.d bH v1,.d bH v2,dI v3,dI v4,dI v5,.d .b v6,dI v7,dI v8,dI v9,.d .s v10,.d .s v11,.d bZ v12,dI lL,dI lM,dI lO,dI mi,dI mJ,dI mX,dI nw]),(1000003,.box 33 [.d .s v20,.d bH v21,.d bH v22,dI v23,dI v24,dI v25,.d .b v26,dI s8,dI v28,dI ue,.d .s v30,.d .s v31,.d bZ SP,dI SQ,dI SS,dI SU,dI SV,dI v37,dI SW,dI SX])]
abbrev Um:List (Nat×TO):=(acy 0 1 2 3 4 5 6 7 8 9 10 11 12 13 14 15 16 17 18 19 20 21 22 23 24 25 26 27 28 29 30 31 32 33 34 35 36 37 38 39)
def Sw:List TC:=[.s,bH,bH,i6,i6,i6,.b,i6,i6,i6,.s,.s,bZ,i6,i6,i6,i6,i6,i6,i6,.s,bH,bH,i6,i6,i6,.b,i6,i6,i6,.s,.s,bZ,i6,i6,i6,i6,i6,i6,i6]
def Sx:List TC:=[.s,bH,bH,i6,i6,i6,.b,i6,i6,i6,.s,.s,bZ,i6,i6,i6,i6,i6,i6,i6]
def mU(v0 v1 v2 v3 v4 v5 v6 v7 v8:Nat):List (Nat×TO):=[(900000000,.rw 1),(900000001,.rw 2),(900000002,.rw 3),(900000003,.rw 4),(v0,.box 52 [.d eR v1,.d fN v2,.d fO v3,.d fR v4,.d fH v5,.d yy v6,.d fy v7,dI v8])]
def acV:List TC:=[eR,i6,fN,fO,fR,fH,yy,fy,i6]
def acW:List TC:=[fN,i6,eR,fO,fR,fH,yy,fy,i6]
def acX:List TC:=[fO,i6,eR,fN,fR,fH,yy,fy,i6]
def acY:List TC:=[fR,i6,eR,fN,fO,fH,yy,fy,i6]
def acZ:List TC:=[fH,i6,eR,fN,fO,fR,yy,fy,i6]
def ac0:List TC:=[yy,i6,eR,fN,fO,fR,fH,fy,i6]
def acz(v0 v1 v2 v3 v4 v5 v6 v7:Nat):List (Nat×TO):=[(900000000,.rw 1),(900000001,.rw 2),(900000002,.rw 3),(900000003,.rw 4),(1000001,.box 52 [.d eR v0,.d fN v1,.d fO v2,.d fR v3,.d fH v4,.d yy 0,.d fy v5,dI v6]),(1000170,.row 119 (.st 9) v7 bd)]
def ac1:List TC:=[fy,i6,eR,fN,fO,fR,fH,yy,i6]
def Rw(v0 v1 v2 v3 v4 v5 v6 v7 v8 v9 v10 v11 v12 lL lM lO mi:Nat):List (Nat×TO):=[(1000002,.box 52 [.d eR v0,.d fN v1,.d fO v2,.d fR v3,.d fH v4,.d yy v5,.d fy v6,dI v7]),(v8,.box 52 [.d eR v9,.d fN v10,.d fO v11,.d fR v12,.d fH lL,.d yy lM,.d fy lO,dI mi])]
abbrev Gb:List (Nat×TO):=(Rw 1 2 3 4 5 6 7 8 1000003 9 10 11 12 13 14 15 16)
abbrev tb:List (Nat×TO):=(Rw 0 1 2 3 4 5 6 7 1000003 8 9 10 11 12 13 14 15)
def B9:List TC:=[eR,fN,fO,fR,fH,yy,fy,i6,eR,fN,fO,fR,fH,yy,fy,i6]
def Sy:List TC:=[i6,.s,.s,i6,.s,bH,bH,i6,i6,i6,.b,i6,i6,i6,.s,.s,bZ,i6,i6,i6,i6,i6,i6,i6,i6,i6,.s,.s,bZ,gE,i6,.s,.s,i6,.s,bH,bH,i6,i6,i6,.b,i6,i6,i6,.s,.s,bZ,i6,i6,i6,i6,i6,i6,i6,i6,i6,.s,.s,bZ,gE]
def nc(v0 v1:Nat):List (Nat×TO):=[(1,.gn v0 .s v1),(900000000,.rw 1),(900000001,.rw 2),(900000002,.rw 3),(900000003,.rw 4)]
def acA:List (Nat×TO):=[(1,.gn 0 .s 7),(900000000,.rw 1),(900000001,.rw 2),(900000002,.rw 3),(900000003,.rw 4),(1000004,.box 29 [dI 1,dI 2,.d .s 3,.d .s 4,.d bZ 5]),(1000090,.row 9 .s 6 bd)]
def acB:List (Nat×TO):=[(1,.gn 0 .s 0),(900000000,.rw 1),(900000001,.rw 2),(900000002,.rw 3),(900000003,.rw 4),(1000004,.box 29 [dI 3,dI 4,.d .s 5,.d .s 6,.d bZ 7])]
def acC(v0 v1 v2 v3 v4 v5 v6 v7 v8 v9 v10 v11 v12 lL lM lO mi mJ mX nw v20 v21:Nat):List (Nat×TO):=[(1,.gn 1 .s v0),(900000000,.rw 1),(900000001,.rw 2),(900000002,.rw 3),(900000003,.rw 4),(1000003,.box 33 [.d .s v1,.d bH v2,.d bH v3,dI v4,dI v5,dI v6,.d .b v7,dI v8,dI v9,dI v10,.d .s v11,.d .s v12,.d bZ lL,dI lM,dI lO,dI mi,dI mJ,dI mX,dI nw,dI v20]),(1000022,.row 26 bH v21 bd)]
def Ry(v0 v1 v2 v3 v4 v5 v6 v7 v8 v9 v10 v11 v12 lL lM lO mi mJ mX nw v20:Nat):List (Nat×TO):=[(1,.gn 1 .s v0),(900000000,.rw 1),(900000001,.rw 2),(900000002,.rw 3),(900000003,.rw 4),(1000003,.box 33 [.d .s v1,.d bH v2,.d bH v3,dI v4,dI v5,dI v6,.d .b v7,dI v8,dI v9,dI v10,.d .s v11,.d .s v12,.d bZ lL,dI lM,dI lO,dI mi,dI mJ,dI mX,dI nw,dI v20])]
def acD(v0 v1 v2 v3 v4 v5 v6 v7 v8 v9 v10 v11 v12 lL lM lO mi mJ mX nw v20 v21:Nat):List (Nat×TO):=[(1,.gn 1 .s v0),(900000000,.rw 1),(900000001,.rw 2),(900000002,.rw 3),(900000003,.rw 4),(1000003,.box 33 [.d .s v1,.d bH v2,.d bH v3,dI v4,dI v5,dI v6,.d .b v7,dI v8,dI v9,dI v10,.d .s v11,.d .s v12,.d bZ lL,dI lM,dI lO,dI mi,dI mJ,dI mX,dI nw,dI v20]),(1000050,.row 3 i6 v21 bd)]
def acE(v0 v1 v2 v3 v4 v5 v6 v7 v8 v9 v10 v11 v12 lL lM lO mi mJ mX nw v20 v21:Nat):List (Nat×TO):=[(1,.gn 1 .s v0),(900000000,.rw 1),(900000001,.rw 2),(900000002,.rw 3),(900000003,.rw 4),(1000003,.box 33 [.d .s v1,.d bH v2,.d bH v3,dI v4,dI v5,dI v6,.d .b v7,dI v8,dI v9,dI v10,.d .s v11,.d .s v12,.d bZ lL,dI lM,dI lO,dI mi,dI mJ,dI mX,dI nw,dI v20]),(103008000,.row 9 .s v21 bd)]
def qJ(v0 v1 v2 v3 v4 v5 v6 v7 v8:Nat):List (Nat×TO):=[(900000000,.rw 1),(900000001,.rw 2),(900000002,.rw 3),(900000003,.rw 4),(1000001,.box 52 [.d eR v0,.d fN v1,.d fO v2,.d fR v3,.d fH v4,.d yy v5,.d fy v6,dI v7]),(1000028,.gn 1 .s v8)]
def acF(v0:Nat):List (Nat×TO):=[(900000000,.rw 1),(900000001,.rw 2),(900000002,.rw 3),(900000003,.rw 4),(1000001,.box 52 [.d eR 5,.d fN 0,.d fO 6,.d fR 7,.d fH 8,.d yy 9,.d fy 10,dI 11]),(1000028,.gn 1 .s v0),(1000008,.box 107 [.d .s 12,.d mg 3,dI 13])]
def Ih(v0 v1 v2:Nat):List (Nat×TO):=[(900000000,.rw 1),(900000001,.rw 2),(900000002,.rw 3),(900000003,.rw 4),(v0,.gn v1 .s v2)]
def Rz(v0 v1 v2 v3 v4 v5 v6 v7 v8 v9 v10 v11 v12 lL lM lO mi mJ mX nw v20 v21 v22 v23 v24 v25 v26 s8 v28 ue v30:Nat):List (Nat×TO):=[(1,.row 99 (.st 2) v0 bd),(2,.box 36 [dI v1,.d .s v2,.d .s v3,dI v4,.d .s v5,.d bH v6,.d bH v7,dI v8,dI v9,dI v10,.d .b v11,dI v12,dI lL,dI lM,.d .s lO,.d .s mi,.d bZ mJ,dI mX,dI nw,dI v20,dI v21,dI v22,dI v23,dI v24,dI v25,dI v26,.d .s s8,.d .s v28,.d bZ ue,.d gE v30])]
abbrev NH:List (Nat×TO):=(Rz 0 1 2 3 4 5 6 7 8 9 10 11 12 13 14 15 16 17 18 19 20 21 22 23 24 25 26 27 28 29 30)
def agE:List TC:=[eR,i6,.s,.s,i6,.s,bH,bH,i6,i6,i6,.b,i6,i6,i6,.s,.s,bZ,i6,i6,i6,i6,i6,i6,i6,i6,i6,.s,.s,bZ,gE]
def agF:List TC:=[eR,i6,.s,.s,i6,.s,bH,bH,i6,i6,i6,.b,i6,i6,i6,.s,.s,bZ,i6,i6,i6,i6,i6,i6,i6,i6,i6,.s,.s,bZ,gE,i6,i6]
def agG:List TC:=[eR,i6,i6,.s,.s,i6,.s,bH,bH,i6,i6,i6,.b,i6,i6,i6,.s,.s,bZ,i6,i6,i6,i6,i6,i6,i6,i6,i6,.s,.s,bZ,gE]
def agH:List TC:=[eR,i6,.s,.s,i6,.s,bH,bH,i6,i6,i6,.b,i6,i6,i6,.s,.s,bZ,i6,i6,i6,i6,i6,i6,i6,i6,i6,.s,.s,bZ,gE,i6]
def Sz:List TC:=[fH,i6,.s,.s,i6,.s,bH,bH,i6,i6,i6,.b,i6,i6,i6,.s,.s,bZ,i6,i6,i6,i6,i6,i6,i6,i6,i6,.s,.s,bZ,gE]
def agI:List TC:=[i6,.s,.s,i6,.s,bH,bH,i6,i6,i6,.b,i6,i6,i6,.s,.s,bZ,i6,i6,i6,i6,i6,i6,i6,i6,i6,.s,.s,bZ,gE,fH,i6,i6]
def Nf:List TC:=[i6,eR,fN,fO,fR,fH,yy,fy,i6]
def acG(v0:Nat):List (Nat×TO):=[(1000001,.box 29 [dI 2,dI 3,.d .s 4,.d .s 5,.d bZ 0]),(1000002,.box 29 [dI 6,dI 6,.d .s 7,.d .s 7,.d bZ 8]),(7001001,.row 29 (.st 0) v0 bd)]
def D2(v0 v1 v2 v3 v4 v5 v6 v7 v8 v9 v10 v11 v12 lL lM lO mi mJ mX nw v20 v21 v22 v23 v24 v25 v26 s8:Nat):List (Nat×TO):=[(1000001,.box 52 [.row 6 103001200,.row 3 103001500,.row 3 103001800,.row 20 103002100,.row 4 103002800,.row 6 103003100,.d fy v0,dI v1]),(1000002,.box 52 [.row 6 1001000002000,.row 3 1001000002001,.row 3 1001000002002,.row 20 1001000002003,.row 4 1001000002004,.row 6 1001000002005,.d fy v2,dI v3]),(v4,.row v5 (.st v6) v7 bd),(v8,.row v9 (.st v10) v11 bd),(v12,.row lL (.st lM) lO bd),(mi,.row mJ (.st mX) nw bd),(103002800,.row 115 (.st 8) v20 bd),(103003100,.row 121 (.st 10) v21 bd),(1001000002000,.row 99 (.st 2) v22 bd),(1001000002001,.row 107 (.st 4) v23 bd),(1001000002002,.row 101 (.st 5) v24 bd),(1001000002003,.row 33 (.st 7) v25 bd),(1001000002004,.row 115 (.st 8) v26 bd),(1001000002005,.row 121 (.st 10) s8 bd)]
abbrev Gc:List (Nat×TO):=(D2 2 3 4 1 103001200 99 2 5 103001500 107 4 6 103001800 101 5 7 103002100 33 7 8 9 10 11 12 13 14 15 16)
def SB:List TC:=[i6,i6,fy,i6,fy,eR,fN,fO,fR,fH,yy,eR,fN,fO,fR,fH,yy]
def agJ:List TC:=[eR,fN,fO,fR,fH,yy,fy,i6,i6,.s,.s,i6,.s,bH,bH,i6,i6,i6,.b,i6,i6,i6,.s,.s,bZ,i6,i6,i6,i6,i6,i6,i6,i6,i6,.s,.s,bZ,gE,eR,fN,fO,fR,fH,yy,fy,i6]
def Ii(v0 v1 v2 v3 v4 v5:Nat):List (Nat×TO):=[(1,.box 99 [.d .s v0,dI v1,dI v2,.d .s v3,.d .s v4,.d bZ v5])]
def BQ(v0 v1 v2 v3 v4 v5 v6 v7 v8 v9 v10 v11 v12 lL lM lO mi mJ:Nat):List (Nat×TO):=[(1000002,.box 52 [.d eR v0,.d fN v1,.d fO v2,.d fR v3,.d fH v4,.d yy v5,.d fy v6,dI v7]),(1000003,.box 52 [.d eR v8,.d fN v9,.d fO v10,.d fR v11,.d fH v12,.d yy lL,.d fy lM,dI lO]),(mi,.row 36 (.st 12) mJ bd)]
def agK:List TC:=[eR,i6,i6,eR,fN,fO,fR,fH,yy,fy,i6,fN,fO,fR,fH,yy,fy,i6,wZ,i6,.s,.s,i6,bH,.b,bZ,i6,i6,.s,.s,bZ,gE]
def RA(v0 v1 v2 v3 v4 v5 v6 v7 v8 v9 v10 v11 v12 lL lM lO mi:Nat):List (Nat×TO):=[(900000000,.rw 1),(900000001,.rw 2),(900000002,.rw 3),(900000003,.rw 4),(1000002,.box 52 [.d eR v0,.d fN v1,.d fO v2,.d fR v3,.d fH v4,.d yy v5,.d fy v6,dI v7]),(v8,.box 52 [.d eR v9,.d fN v10,.d fO v11,.d fR v12,.d fH lL,.d yy lM,.d fy lO,dI mi])]
def ac2:List TC:=[i6,i6,.s,.s,bZ,i6,i6,.s,.s,bZ]
def agL:List TC:=[.b,.s,bH,bH,i6,i6,i6,.b,i6,i6,i6,.s,.s,bZ,i6,i6,i6,i6,i6,i6,i6,.s,bH,bH,i6,i6,i6,.b,i6,i6,i6,.s,.s,bZ,i6,i6,i6,i6,i6,i6,i6]
def Lq:List TC:=[i6,eR,fN,fO,fR,fH,yy,fy,i6,eR,fN,fO,fR,fH,yy,fy,i6]
def De:Nat->Type
 |0=>Expr
 |1=>zx
 |2=>Def
 |3=>aw
 |4=>au
 |5=>zM
 |6=>zj
 |7=>zd
 |8=>bD
 |9=>zl
 |10=>av
 |11=>ar
 |12=>zN
 |13=>zf
 |14=>zD
 |15=>xP
 |_=>Unit
def acn:lD where
 T:=De
 PL:=λn=>match n with
  |0=>(default:Expr)
  |1=>(default:zx)
  |2=>(default:Def)
  |3=>(default:aw)
  |4=>(default:au)
  |5=>(default:zM)
  |6=>(default:zj)
  |7=>(default:zd)
  |8=>(default:bD)
  |9=>(default:zl)
  |10=>(default:av)
  |11=>(default:ar)
  |12=>(default:zN)
  |13=>(default:zf)
  |14=>(default:zD)
  |15=>(default:xP)
  |_+16=>()
 fl:=λn=>match n with
  |0=>[i6,i6,.s,.s,bZ]
  |1=>[i6,i6]
  |2=>[.s,.st 0]
  |3=>[.s,i6]
  |4=>[.s,mg,i6]
  |5=>[.s,.b,gE]
  |6=>[i6,i6,i6,i6]
  |7=>[.s,bH,bH,i6,i6,i6,.b,i6,.st 0,.st 6,i6,i6,i6]
  |8=>[.s,i6,i6,gE]
  |9=>[i6,i6,i6]
  |10=>[.s,.st 9,i6,fy]
  |11=>k1
  |12=>[i6,.s,.s,i6,.st 7,.st 0,gE]
  |13=>[.s,i6,i6]
  |14=>[.st 1,.st 1]
  |15=>k2
  |_+16=>[]
 cn:=λn=>match n with
  |0=>5
  |1=>2
  |2=>6
  |3=>2
  |4=>3
  |5=>3
  |6=>4
  |7=>20
  |8=>4
  |9=>3
  |10=>6
  |11=>4
  |12=>30
  |13=>3
  |14=>4
  |15=>8
  |_+16=>0
 out:=λn=>match n with
  |0=>λx=>((x:Expr).Op,(x:Expr).N,(x:Expr).S,(x:Expr).Key,(x:Expr).aZ)
  |1=>λx=>((x:zx).X,(x:zx).Y)
  |2=>λx=>((x:Def).aL,(x:Def).Body)
  |3=>λx=>((x:aw).aL,(x:aw).N)
  |4=>λx=>((x:au).aL,(x:au).Rows,(x:au).nn)
  |5=>λx=>((x:zM).aL,(x:zM).mN,(x:zM).aA)
  |6=>λx=>((x:zj).lz,(x:zj).ly,(x:zj).ln,(x:zj).Den)
  |7=>λx=>((x:zd).aL,(x:zd).aB,(x:zd).Except,(x:zd).gY,(x:zd).gW,(x:zd).hU,(x:zd).gZ,(x:zd).aM,(x:zd).Test,(x:zd).zj,(x:zd).Uses,(x:zd).gS,(x:zd).N)
  |8=>λx=>((x:bD).aL,(x:bD).np,(x:bD).pH,(x:bD).aA)
  |9=>λx=>((x:zl).X,(x:zl).Y,(x:zl).Z_)
  |10=>λx=>((x:av).aL,(x:av).iW,(x:av).nB,(x:av).lB)
  |11=>λx=>((x:ar).aM,(x:ar).Text,(x:ar).N,(x:ar).Pos)
  |12=>λx=>((x:zN).aM,(x:zN).aL,(x:zN).Key,(x:zN).N,(x:zN).zd,(x:zN).Body,(x:zN).aA)
  |13=>λx=>((x:zf).text,(x:zf).op,(x:zf).form)
  |14=>λx=>((x:zD).a,(x:zD).b)
  |15=>λx=>((x:xP).aF,(x:xP).Tables,(x:xP).aB,(x:xP).aE,(x:xP).aJ,(x:xP).aG,(x:xP).aK,(x:xP).aI)
  |_+16=>λ_=>()
 inj:=λn=>match n with
  |0=>λx=>(⟨x.1,x.2.1,x.2.2.1,x.2.2.2.1,x.2.2.2.2⟩:Expr)
  |1=>λx=>(⟨x.1,x.2⟩:zx)
  |2=>λx=>(⟨x.1,x.2⟩:Def)
  |3=>λx=>(⟨x.1,x.2⟩:aw)
  |4=>λx=>(⟨x.1,x.2.1,x.2.2⟩:au)
  |5=>λx=>(⟨x.1,x.2.1,x.2.2⟩:zM)
  |6=>λx=>(⟨x.1,x.2.1,x.2.2.1,x.2.2.2⟩:zj)
  |7=>λx=>(⟨x.1,x.2.1,x.2.2.1,x.2.2.2.1,x.2.2.2.2.1,(nE x).1,(oz x).1,(rX x).1,(sY x).1,(tB x).1,(ui x).1,(uj x).1,(uk x)⟩:zd)
  |8=>λx=>(⟨x.1,x.2.1,x.2.2.1,x.2.2.2⟩:bD)
  |9=>λx=>(⟨x.1,x.2.1,x.2.2⟩:zl)
  |10=>λx=>(⟨x.1,x.2.1,x.2.2.1,x.2.2.2⟩:av)
  |11=>λx=>(⟨x.1,x.2.1,x.2.2.1,x.2.2.2⟩:ar)
  |12=>λx=>(⟨x.1,x.2.1,x.2.2.1,x.2.2.2.1,x.2.2.2.2.1,(nE x).1,(oz x)⟩:zN)
  |13=>λx=>(⟨x.1,x.2.1,x.2.2⟩:zf)
  |14=>λx=>(⟨x.1,x.2⟩:zD)
  |15=>λx=>(⟨x.1,x.2.1,x.2.2.1,x.2.2.2.1,x.2.2.2.2.1,(nE x).1,(oz x).1,(rX x)⟩:xP)
  |_+16=>λ_=>()
 enc:=λn=>match n with
  |0=>vg
  |1=>vu
  |2=>Lu
  |3=>AZ
  |4=>JQ
  |5=>VQ
  |6=>JR
  |7=>KO
  |8=>Lv
  |9=>kM
  |10=>VR
  |11=>vv
  |12=>Hw
  |13=>abY
  |14=>Ji
  |15=>zuk
  |_+16=>λ_=>[]
 ro:=λn=>match n with
  |1=>Ie JC.CZ
  |2=>Fu JC.B_
  |3=>DY JC.C0 JC.m2
  |4=>Fv JC.B'
  |_=>.gen gone
def Ig(i:Nat):(c:TC)->c.ty De->EV.Obj
 |.s,x=>sb (bif bk i 0 then 69 else 134) x
 |.l (.m kc ec),x=>.gen (oX (List.map (nI (vt acn kc) (vt acn ec)) x))
 |_,_=>.gen gone
def Rl:Nat->Option (Nat×Nat×List ak)
 |1=>bc (1,249,Gn)
 |_=>bh
def Rj:Nat->Option (Nat×Dy De×List V)
 |69=>bc (0,⟨.s,([]:ak)⟩,[.kq,.gR])
 |134=>bc (1,⟨.s,([]:ak)⟩,[.kq,.gR])
 |_=>bh
def zWe(t i:Nat)(d:Dy De)(cs:List V)(h:Rj t=bc (i,d,cs))(m:M)(Z:ZM)(w:World)(k:Nat)(hh:EV.Holds m Z w k (.box t cs)):EV.Holds m Z w k (Ig i d.1 d.2)/\∀b,fD m (k,Ig i d.1 d.2) b->fD m (k,.box t cs) b:=by
 unfold Rj at h;split at h
 .cases h;exact Tt hh
 .cases h;exact Tt hh
 .cases h
def TS:lD where
 T:=De
 PL:=λn=>match n with
  |0=>(default:Expr)
  |1=>(default:zx)
  |2=>(default:Def)
  |3=>(default:aw)
  |4=>(default:au)
  |5=>(default:zM)
  |6=>(default:zj)
  |7=>(default:zd)
  |8=>(default:bD)
  |9=>(default:zl)
  |10=>(default:av)
  |11=>(default:ar)
  |12=>(default:zN)
  |13=>(default:zf)
  |14=>(default:zD)
  |15=>(default:xP)
  |_+16=>()
 fl:=λn=>match n with
  |0=>[i6,i6,.s,.s,bZ]
  |1=>[i6,i6]
  |2=>[.s,.st 0]
  |3=>[.s,i6]
  |4=>[.s,mg,i6]
  |5=>[.s,.b,gE]
  |6=>[i6,i6,i6,i6]
  |7=>[.s,bH,bH,i6,i6,i6,.b,i6,.st 0,.st 6,i6,i6,i6]
  |8=>[.s,i6,i6,gE]
  |9=>[i6,i6,i6]
  |10=>[.s,.st 9,i6,fy]
  |11=>k1
  |12=>[i6,.s,.s,i6,.st 7,.st 0,gE]
  |13=>[.s,i6,i6]
  |14=>[.st 1,.st 1]
  |15=>k2
  |_+16=>[]
 cn:=λn=>match n with
  |0=>5
  |1=>2
  |2=>6
  |3=>2
  |4=>3
  |5=>3
  |6=>4
  |7=>20
  |8=>4
  |9=>3
  |10=>6
  |11=>4
  |12=>30
  |13=>3
  |14=>4
  |15=>8
  |_+16=>0
 out:=λn=>match n with
  |0=>λx=>((x:Expr).Op,(x:Expr).N,(x:Expr).S,(x:Expr).Key,(x:Expr).aZ)
  |1=>λx=>((x:zx).X,(x:zx).Y)
  |2=>λx=>((x:Def).aL,(x:Def).Body)
  |3=>λx=>((x:aw).aL,(x:aw).N)
  |4=>λx=>((x:au).aL,(x:au).Rows,(x:au).nn)
  |5=>λx=>((x:zM).aL,(x:zM).mN,(x:zM).aA)
  |6=>λx=>((x:zj).lz,(x:zj).ly,(x:zj).ln,(x:zj).Den)
  |7=>λx=>((x:zd).aL,(x:zd).aB,(x:zd).Except,(x:zd).gY,(x:zd).gW,(x:zd).hU,(x:zd).gZ,(x:zd).aM,(x:zd).Test,(x:zd).zj,(x:zd).Uses,(x:zd).gS,(x:zd).N)
  |8=>λx=>((x:bD).aL,(x:bD).np,(x:bD).pH,(x:bD).aA)
  |9=>λx=>((x:zl).X,(x:zl).Y,(x:zl).Z_)
  |10=>λx=>((x:av).aL,(x:av).iW,(x:av).nB,(x:av).lB)
  |11=>λx=>((x:ar).aM,(x:ar).Text,(x:ar).N,(x:ar).Pos)
  |12=>λx=>((x:zN).aM,(x:zN).aL,(x:zN).Key,(x:zN).N,(x:zN).zd,(x:zN).Body,(x:zN).aA)
  |13=>λx=>((x:zf).text,(x:zf).op,(x:zf).form)
  |14=>λx=>((x:zD).a,(x:zD).b)
  |15=>λx=>((x:xP).aF,(x:xP).Tables,(x:xP).aB,(x:xP).aE,(x:xP).aJ,(x:xP).aG,(x:xP).aK,(x:xP).aI)
  |_+16=>λ_=>()
 inj:=λn=>match n with
  |0=>λx=>(⟨x.1,x.2.1,x.2.2.1,x.2.2.2.1,x.2.2.2.2⟩:Expr)
  |1=>λx=>(⟨x.1,x.2⟩:zx)
  |2=>λx=>(⟨x.1,x.2⟩:Def)
  |3=>λx=>(⟨x.1,x.2⟩:aw)
  |4=>λx=>(⟨x.1,x.2.1,x.2.2⟩:au)
  |5=>λx=>(⟨x.1,x.2.1,x.2.2⟩:zM)
  |6=>λx=>(⟨x.1,x.2.1,x.2.2.1,x.2.2.2⟩:zj)
  |7=>λx=>(⟨x.1,x.2.1,x.2.2.1,x.2.2.2.1,x.2.2.2.2.1,(nE x).1,(oz x).1,(rX x).1,(sY x).1,(tB x).1,(ui x).1,(uj x).1,(uk x)⟩:zd)
  |8=>λx=>(⟨x.1,x.2.1,x.2.2.1,x.2.2.2⟩:bD)
  |9=>λx=>(⟨x.1,x.2.1,x.2.2⟩:zl)
  |10=>λx=>(⟨x.1,x.2.1,x.2.2.1,x.2.2.2⟩:av)
  |11=>λx=>(⟨x.1,x.2.1,x.2.2.1,x.2.2.2⟩:ar)
  |12=>λx=>(⟨x.1,x.2.1,x.2.2.1,x.2.2.2.1,x.2.2.2.2.1,(nE x).1,(oz x)⟩:zN)
  |13=>λx=>(⟨x.1,x.2.1,x.2.2⟩:zf)
  |14=>λx=>(⟨x.1,x.2⟩:zD)
  |15=>λx=>(⟨x.1,x.2.1,x.2.2.1,x.2.2.2.1,x.2.2.2.2.1,(nE x).1,(oz x).1,(rX x)⟩:xP)
  |_+16=>λ_=>()
 enc:=λn=>match n with
  |0=>vg
  |1=>vu
  |2=>Lu
  |3=>AZ
  |4=>JQ
  |5=>VQ
  |6=>JR
  |7=>KO
  |8=>Lv
  |9=>kM
  |10=>VR
  |11=>vv
  |12=>Hw
  |13=>abY
  |14=>Ji
  |15=>zuk
  |_+16=>λ_=>[]
 ro:=λn=>match n with
  |1=>Ie JC.CZ
  |2=>Fu JC.B_
  |3=>DY JC.C0 JC.m2
  |4=>Fv JC.B'
  |_=>.gen gone
 go:=Ig
 gl:=Rl
 ga:=Rj
 om:=bg
def Ez:TS.OK where
 Fc:=λn x=>match n with
  |0=>by
   show vg x=_
   unfold vg;simp only[jL];rfl
  |1=>rfl
  |2=>rfl
  |3=>rfl
  |4=>rfl
  |5=>rfl
  |6=>rfl
  |7=>rfl
  |8=>rfl
  |9=>rfl
  |10=>rfl
  |11=>rfl
  |12=>rfl
  |13=>rfl
  |14=>rfl
  |15=>rfl
  |_+16=>rfl
 MM:=λn h=>match n with
  |0=>rfl
  |1=>rfl
  |2=>rfl
  |3=>rfl
  |4=>rfl
  |5=>rfl
  |6=>rfl
  |7=>rfl
  |8=>rfl
  |9=>rfl
  |10=>rfl
  |11=>rfl
  |12=>rfl
  |13=>rfl
  |14=>rfl
  |15=>rfl
  |_+16=>rfl
 Nk:=rfl
 Zy:=λi σ=>match i with|0=>rfl|1=>rfl|2=>rfl|3=>rfl|4=>rfl|_+5=>rfl
 P2:=λi=>match i with|0=>rfl|1=>rfl|2=>rfl|3=>rfl|4=>rfl|_+5=>rfl
 Zv:=λi k=>match i with|0=>rfl|1=>rfl|2=>rfl|3=>rfl|4=>rfl|_+5=>rfl
 len:=λn x=>match n with
  |0=>rfl
  |1=>rfl
  |2=>rfl
  |3=>rfl
  |4=>rfl
  |5=>rfl
  |6=>rfl
  |7=>rfl
  |8=>rfl
  |9=>rfl
  |10=>rfl
  |11=>rfl
  |12=>rfl
  |13=>rfl
  |14=>rfl
  |15=>rfl
  |_+16=>rfl
 one:=λn x=>match n with
  |0=>rfl
  |1=>rfl
  |2=>rfl
  |3=>rfl
  |4=>rfl
  |5=>rfl
  |6=>rfl
  |7=>rfl
  |8=>rfl
  |9=>rfl
  |10=>rfl
  |11=>rfl
  |12=>rfl
  |13=>rfl
  |14=>rfl
  |15=>rfl
  |_+16=>rfl
 refs:=λn x=>match n with
  |0=>rfl
  |1=>rfl
  |2=>rfl
  |3=>rfl
  |4=>rfl
  |5=>rfl
  |6=>rfl
  |7=>rfl
  |8=>rfl
  |9=>rfl
  |10=>rfl
  |11=>rfl
  |12=>rfl
  |13=>rfl
  |14=>rfl
  |15=>rfl
  |_+16=>rfl
 YT:=λi c x σ=>by cases c with
  |l t=>cases t<;>rfl
  |_=>rfl
 PO:=λi c x=>by cases c with
  |l t=>cases t<;>rfl
  |_=>rfl
 YR:=λi c x k=>by cases c with
  |l t=>cases t<;>rfl
  |_=>rfl
 DZ:=λ_ kc ec x=>by kernel_rfl
 Rk:=λi c x k=>by cases c with
  |l t=>cases t<;>rfl
  |_=>rfl
 adg:=λt i d cs h m Z w k hh=>zWe t i d cs h m Z w k hh
 kg:=λi g t l h=>by
  change Rl i=bc (g,t,l)at h;unfold Rl at h;split at h
  .cases h;exact⟨_,rfl⟩
  .cases h
def l0(t:Nat):Option TC:=bif bk t 3 then bc i6 else bif bk t 4 then bc .b else bif bk t 9 then bc .s else bif bk t 20 then bc (.a 3 9)else bif bk t 26 then bc bH else bif bk t 29 then bc (.st 0)else bif bk t 33 then bc (.st 7)else bif bk t 36 then bc (.st 12)else bif bk t 78 then bc vb else bif bk t 83 then bc (.st 11)else bif bk t 93 then bc (.st 1)else bif bk t 99 then bc (.st 2)else bif bk t 101 then bc (.st 5)else bif bk t 107 then bc (.st 4)else bif bk t 115 then bc (.st 8)else bif bk t 119 then bc (.st 9)else bif bk t 121 then bc (.st 10)else bif bk t 126 then bc (.st 3)else bif bk t 273 then bc (.st 14)else bif bk t 297 then bc (.st 13)else bh
def cdL(t:Nat):Option TC:=l0 (bif Nat.ble 1000000 t then Nat.sub t 1000000 else t)
def cdR(t:Nat):Option TC:=bif bk t 5000000 then bc .b else l0 t
def CD(t:Nat):Option TC:=bif bk t 3000150 then bc .b else  l0 t
def lI:NB:=λt=>bif bk t 29 then[(4,bd,29,.st 0)]else bif bk t 33 then[(1,bd,9,.s),(2,bd,9,.s),(12,bd,29,.st 0)]else bif bk t 36 then[(5,bd,9,.s),(6,bd,9,.s),(16,bd,29,.st 0),(28,bd,29,.st 0),(29,bd,93,.st 1)]else bif bk t 52 then[(0,bd,99,.st 2),(1,bd,107,.st 4),(2,bd,101,.st 5),(3,bd,33,.st 7),(4,bd,115,.st 8),(5,bd,121,.st 10),(6,bd,119,.st 9)]else bif bk t 99 then[(5,bd,29,.st 0)]else bif bk t 101 then[(2,bd,93,.st 1)]else bif bk t 107 then[(1,bd,126,.st 3)]else bif bk t 115 then[(3,bd,93,.st 1)]else bif bk t 121 then[(5,bd,119,.st 9)]else bif bk t 149 then[(0,bd,83,.st 11)]else bif bk t 153 then[(0,bd,83,.st 11),(2,bg,99,.st 2),(3,bg,107,.st 4),(4,bg,101,.st 5),(5,bg,33,.st 7),(6,bg,115,.st 8),(7,bg,121,.st 10),(8,bg,8000119,.st 9),(10,bg,7000000,bC),(11,bg,7000000,bC),(12,bg,7000000,bC),(13,bg,7000000,bC),(14,bg,7000000,bC),(15,bg,7000000,bC)]else[]
def znm:NB:=λt=>bif bk t 52 then[(0,bg,99,.st 2),(1,bg,107,.st 4),(2,bg,101,.st 5),(3,bg,33,.st 7),(4,bg,115,.st 8),(5,bg,121,.st 10),(6,bd,119,.st 9)]else  lI t
def aeX:NB:=λt=>bif bk t 52 then[(0,bg,99,.st 2),(1,bg,107,.st 4),(2,bg,101,.st 5),(3,bg,33,.st 7),(4,bg,115,.st 8),(5,bg,121,.st 10),(6,bd,119,.st 9)]else  lI t
def PC:List TC:=[i6,i6]
def PT:Tp:=.iG 252 (.ag [dI 0,dI 1])
def aaS:N5 TS:=λc _ s=>match c,s with
 |.s,s=>tI s
 |_,_=>bh
def aiZ(ct:TC)(i:Nat)(s s':ct.ty TS.T)(h:aaS ct i s=bc s')(k:Nat):P_ aR 26 [.ptr k 0 0,.str [32,41]] [(k,TS.go i ct s)] (.gu [.int .i64 2,.lJ]) [(k,TS.go i ct s')]:=by
 cases ct<;>first|(cases h;done)|skip
 obtain⟨_,h1,h2⟩:=bind_some (show tI s=bc s' from h);cases h2
 have hT:w_ (bif bk i 0 then 69 else 134):=by
  cases bk i 0
  .exact T6
  .exact NL
 exact zQn hT k s [32,41] (yD h1)
def EA:aR.follows .mixedOrders=bg:=by kernel_rfl
variable[Fuel]
def ajT:ze aR 72:=zg (by kernel_rfl)
def N9:ze aR 71:=zg (by kernel_rfl)
def zWf:ze aR 149:=zg (by kernel_rfl)
def zWg:ze aR 151:=zg (by kernel_rfl)
def zWh:ze aR 163:=zg (by kernel_rfl)
def zWi:ze aR 150:=zg (by kernel_rfl)
def ajK:ze aR 59:=zg (by kernel_rfl)
def zWj:ze aR 164:=zg (by kernel_rfl)
def zWk:ze aR 165:=zg (by kernel_rfl)
def ajU:ze aR 73:=zg (by kernel_rfl)
def ajh:ze aR 29:=zg (by kernel_rfl)
def zWl:ze aR 167:=zg (by kernel_rfl)
def zMu:ze aR 179:=zg (by kernel_rfl)
def zMv:ze aR 168:=zg (by kernel_rfl)
def ajL:ze aR 60:=zg (by kernel_rfl)
def ajc:ze aR 21:=zg (by kernel_rfl)
def zWm:ze aR 208:=zg (by kernel_rfl)
def zMw:ze aR 232:=zg (by kernel_rfl)
def YZ:ze aR 209:=zg (by kernel_rfl)
def Y0:ze aR 172:=zg (by kernel_rfl)
def zWn:ze aR 171:=zg (by kernel_rfl)
def zWo:ze aR 212:=zg (by kernel_rfl)
def zMx:ze aR 181:=zg (by kernel_rfl)
def zWp:ze aR 211:=zg (by kernel_rfl)
def zMy:ze aR 177:=zg (by kernel_rfl)
def zWq:ze aR 223:=zg (by kernel_rfl)
def Y1:ze aR 206:=zg (by kernel_rfl)
def L9:ze aR 231:=zg (by kernel_rfl)
def Tw:ze aR 207:=zg (by kernel_rfl)
def zMz:ze aR 174:=zg (by kernel_rfl)
def zM0:ze aR 169:=zg (by kernel_rfl)
def zM1:ze aR 173:=zg (by kernel_rfl)
def zWr:ze aR 192:=zg (by kernel_rfl)
def zWs:ze aR 193:=zg (by kernel_rfl)
def zWt:ze aR 194:=zg (by kernel_rfl)
def zWu:ze aR 234:=zg (by kernel_rfl)
def zWv:ze aR 218:=zg (by kernel_rfl)
def zWw:ze aR 217:=zg (by kernel_rfl)
def zWx:ze aR 195:=zg (by kernel_rfl)
def zWy:ze aR 196:=zg (by kernel_rfl)
def zWz:ze aR 148:=zg (by kernel_rfl)
def ajI:ze aR 57:=zg (by kernel_rfl)
def zM2:ze aR 213:=zg (by kernel_rfl)
def zW0:ze aR 233:=zg (by kernel_rfl)
def Un:ze aR 67:=zg (by kernel_rfl)
def zW1:ze aR 215:=zg (by kernel_rfl)
def zM3:ze aR 176:=zg (by kernel_rfl)
def zM4:ze aR 214:=zg (by kernel_rfl)
def zM5:ze aR 175:=zg (by kernel_rfl)
def zW2:ze aR 75:=zg (by kernel_rfl)
def zW3:ze aR 182:=zg (by kernel_rfl)
def zW4:ze aR 74:=zg (by kernel_rfl)
def aji:ze aR 30:=zg (by kernel_rfl)
def ajb:ze aR 20:=zg (by kernel_rfl)
def ajW:ze aR 77:=zg (by kernel_rfl)
def ajV:ze aR 76:=zg (by kernel_rfl)
def ajj:ze aR 31:=zg (by kernel_rfl)
def ahQ:ze aR 8:=zg (by kernel_rfl)
def ai':ze aR 18:=zg (by kernel_rfl)
def ajt:ze aR 42:=zg (by kernel_rfl)
def zW5:ze aR 146:=zg (by kernel_rfl)
def ajs:ze aR 41:=zg (by kernel_rfl)
def ajv:ze aR 44:=zg (by kernel_rfl)
def aju:ze aR 43:=zg (by kernel_rfl)
def ajx:ze aR 46:=zg (by kernel_rfl)
def ajw:ze aR 45:=zg (by kernel_rfl)
def ajz:ze aR 48:=zg (by kernel_rfl)
def ajy:ze aR 47:=zg (by kernel_rfl)
def ajB:ze aR 50:=zg (by kernel_rfl)
def ajA:ze aR 49:=zg (by kernel_rfl)
def ajD:ze aR 52:=zg (by kernel_rfl)
def ajC:ze aR 51:=zg (by kernel_rfl)
def Tx:ze aR 147:=zg (by kernel_rfl)
def ajE:ze aR 53:=zg (by kernel_rfl)
def ajG:ze aR 55:=zg (by kernel_rfl)
def ajF:ze aR 54:=zg (by kernel_rfl)
def ajH:ze aR 56:=zg (by kernel_rfl)
def zW6:ze aR 190:=zg (by kernel_rfl)
def Ty:ze aR 128:=zg (by kernel_rfl)
def zM6:ze aR 189:=zg (by kernel_rfl)
def zW7:ze aR 138:=zg (by kernel_rfl)
def ajJ:ze aR 58:=zg (by kernel_rfl)
def aja:ze aR 19:=zg (by kernel_rfl)
def ajr:ze aR 40:=zg (by kernel_rfl)
def zW8:ze aR 127:=zg (by kernel_rfl)
def zW9:ze aR 135:=zg (by kernel_rfl)
def zXa:ze aR 130:=zg (by kernel_rfl)
def zXb:ze aR 129:=zg (by kernel_rfl)
def zXc:ze aR 136:=zg (by kernel_rfl)
def zXd:ze aR 137:=zg (by kernel_rfl)
def zXe:ze aR 131:=zg (by kernel_rfl)
def zXf:ze aR 139:=zg (by kernel_rfl)
def zXg:ze aR 132:=zg (by kernel_rfl)
def zXh:ze aR 140:=zg (by kernel_rfl)
def zXi:ze aR 134:=zg (by kernel_rfl)
def zXj:ze aR 133:=zg (by kernel_rfl)
def zXk:ze aR 141:=zg (by kernel_rfl)
def ajo:ze aR 36:=zg (by kernel_rfl)
def ai9:ze aR 15:=zg (by kernel_rfl)
def ahO:ze aR 6:=zg (by kernel_rfl)
def aje:ze aR 23:=zg (by kernel_rfl)
def ajM:ze aR 61:=zg (by kernel_rfl)
def ajd:ze aR 22:=zg (by kernel_rfl)
def GA:ze aR 28:=zg (by kernel_rfl)
def zM7:ze aR 153:=zg (by kernel_rfl)
def JD:ze aR 26:=zg (by kernel_rfl)
def N3:ze aR 69:=zg (by kernel_rfl)
def ajN:ze aR 62:=zg (by kernel_rfl)
def zXl:ze aR 198:=zg (by kernel_rfl)
def zM8:ze aR 154:=zg (by kernel_rfl)
def ajP:ze aR 64:=zg (by kernel_rfl)
def ajO:ze aR 63:=zg (by kernel_rfl)
def ajQ:ze aR 65:=zg (by kernel_rfl)
def Tv:ze aR 155:=zg (by kernel_rfl)
def ajR:ze aR 66:=zg (by kernel_rfl)
def zXm:ze aR 27:=zg (by kernel_rfl)
def ajf:ze aR 24:=zg (by kernel_rfl)
def ajS:ze aR 68:=zg (by kernel_rfl)
def ajg:ze aR 25:=zg (by kernel_rfl)
def ahP:ze aR 7:=zg (by kernel_rfl)
def zXn:ze aR 104:=zg (by kernel_rfl)
def zM9:ze aR 183:=zg (by kernel_rfl)
def ajY:ze aR 89:=zg (by kernel_rfl)
def ajX:ze aR 87:=zg (by kernel_rfl)
def zXo:ze aR 188:=zg (by kernel_rfl)
def zXp:ze aR 186:=zg (by kernel_rfl)
def zXq:ze aR 101:=zg (by kernel_rfl)
def ajk:ze aR 32:=zg (by kernel_rfl)
def zXr:ze aR 105:=zg (by kernel_rfl)
def zXs:ze aR 106:=zg (by kernel_rfl)
def zXt:ze aR 107:=zg (by kernel_rfl)
def zXu:ze aR 108:=zg (by kernel_rfl)
def zXv:ze aR 109:=zg (by kernel_rfl)
def zXw:ze aR 110:=zg (by kernel_rfl)
def Tz:ze aR 111:=zg (by kernel_rfl)
def ajl:ze aR 33:=zg (by kernel_rfl)
def ai4:ze aR 10:=zg (by kernel_rfl)
def ai5:ze aR 11:=zg (by kernel_rfl)
def zXx:ze aR 115:=zg (by kernel_rfl)
def ajm:ze aR 34:=zg (by kernel_rfl)
def ajn:ze aR 35:=zg (by kernel_rfl)
def ai6:ze aR 12:=zg (by kernel_rfl)
def zXy:ze aR 142:=zg (by kernel_rfl)
def Uo:ze aR 38:=zg (by kernel_rfl)
def zXz:ze aR 143:=zg (by kernel_rfl)
def zX0:ze aR 144:=zg (by kernel_rfl)
def zX1:ze aR 191:=zg (by kernel_rfl)
def zX2:ze aR 145:=zg (by kernel_rfl)
def ajp:ze aR 37:=zg (by kernel_rfl)
def ai7:ze aR 13:=zg (by kernel_rfl)
def ajq:ze aR 39:=zg (by kernel_rfl)
def ai8:ze aR 14:=zg (by kernel_rfl)
def ahM:ze aR 4:=zg (by kernel_rfl)
def Up:ze aR 17:=zg (by kernel_rfl)
def ai_:ze aR 16:=zg (by kernel_rfl)
def ahN:ze aR 5:=zg (by kernel_rfl)
def ahR:ze aR 9:=zg (by kernel_rfl)
def ahL:ze aR 3:=zg (by kernel_rfl)
def nD{f:Nat}{fn:Func}{code:Code}{T:ke TS}{cd:Nat->Option TC}{nb:NB}{rc:List (Nat×Nat×Nat)}{c:Ct TS}{h:HT TS c.co}(hf:aR.funcs[f]?=bc fn)(hb:fn.body=bc code)(hB:ze aR f)(hT:ke.OK aR T)(hr:∀x,((mP aR fn code T cd KK nb c rc h x).run,(mP aR fn code T cd KK nb c rc h x).tr bg)=(c.fn x,(mP aR fn code T cd KK nb c rc h x).tr bd)):ze aR f/\c.OK aR f:=⟨hB,Ut (T:=T) (cd:=cd) (kk:=KK) (nb:=nb) (rc:=rc) (h:=h) Ez hf hb EA hT (λx=>aQ Prod.fst (hr x)) (λx=>aQ Prod.snd (hr x))⟩
def fB{f:Nat}{fn:Func}{code:Code}{T:ke TS}{c:Ct TS}{h:HT TS c.co}(hf:aR.funcs[f]?=bc fn)(hb:fn.body=bc code)(hB:ze aR f)(hT:ke.OK aR T)(hr:∀x,((mP aR fn code T l0 KK lI c [] h x).run,(mP aR fn code T l0 KK lI c [] h x).tr bg)=(c.fn x,(mP aR fn code T l0 KK lI c [] h x).tr bd)):ze aR f/\c.OK aR f:=⟨hB,Ut (T:=T) (cd:=l0) (kk:=KK) (nb:=lI) (rc:=[]) (h:=h) Ez hf hb EA hT (λx=>aQ Prod.fst (hr x)) (λx=>aQ Prod.snd (hr x))⟩
def NI{f:Nat}{fn:Func}{code:Code}{T:ke TS}{TP:o4 TS PC}{cd:Nat->Option TC}{nb:NB}{c:lC TS PC}{h:HT TS PC}(hf:aR.funcs[f]?=bc fn)(hb:fn.body=bc code)(hB:ze aR f)(hT:ke.OK aR T)(mo:o4.OK aR (nQ PT PC) TP)(hr:∀x,((tP aR fn code T cd KK nb PT TP c h x).run,(tP aR fn code T cd KK nb PT TP c h x).tr bg)=(c.fn x,(tP aR fn code T cd KK nb PT TP c h x).tr bd)):ze aR f/\c.OK aR (nQ PT PC) f:=⟨hB,zMl (T:=T) (TP:=TP) (pt:=PT) (cd:=cd) (kk:=KK) (nb:=nb) (h:=h) Ez hf hb EA hT mo (λx=>aQ Prod.fst (hr x)) (λx=>aQ Prod.snd (hr x))⟩
def n8{f:Nat}{fn:Func}{code:Code}{T:ke TS}{TP:o4 TS PC}{c:lC TS PC}{h:HT TS PC}(hf:aR.funcs[f]?=bc fn)(hb:fn.body=bc code)(hB:ze aR f)(hT:ke.OK aR T)(mo:o4.OK aR (nQ PT PC) TP)(hr:∀x,((tP aR fn code T l0 KK lI PT TP c h x).run,(tP aR fn code T l0 KK lI PT TP c h x).tr bg)=(c.fn x,(tP aR fn code T l0 KK lI PT TP c h x).tr bd)):ze aR f/\c.OK aR (nQ PT PC) f:=⟨hB,zMl (T:=T) (TP:=TP) (pt:=PT) (cd:=l0) (kk:=KK) (nb:=lI) (h:=h) Ez hf hb EA hT mo (λx=>aQ Prod.fst (hr x)) (λx=>aQ Prod.snd (hr x))⟩
def zno:Ct TS:=⟨[.d (.i .u8) 0],[],[.i .u8],.d .b 1,[],[.b],bd,λx=>JS x⟩
abbrev dL(n:Nat)(c:Ct TS):Prop:=ze aR n/\c.OK aR n
abbrev nC(n:Nat)(c:lC TS PC):Prop:=ze aR n/\c.OK aR (nQ PT PC) n
def zya:dL 72 zno:=fB (T:=[]) (h:=.n) Tryz.func72 rfl ajT trivial λx=>by kernel_rfl
def zup:Ct TS:=⟨[.d .s 0,.fn 72 [] []],[],[.s],dI 1,[],[i6],bd,λx=>Ok x⟩
def zDj:dL 71 zup:=fB (T:=[(72,zno)]) (h:=.s .n (.s .n (.s (.s (.l ⟨[(0,.d .s 0),(1,.fn 72 [] []),(5,dI 1)],[],[.s],[i6]⟩ [(5,dI 1)] [] [i6] 0 (λx K v=>Hx x K v) (.s (.s (.j ⟨[(0,.d .s 0),(1,.fn 72 [] []),(5,dI 1),(16,.d .b 2)],[],[.s,i6],[.b]⟩ bd .n) .n) .n)) .n) .n))) Tryz.func71 rfl N9 ⟨zya,trivial⟩ λx=>by kernel_rfl
def A8:Ct TS:=⟨[.d (.i .u8) 0],[],[.i .u8],.d .b 1,[],[.b],bd,λx=>kP x⟩
def HY:dL 149 A8:=fB (T:=[]) (h:=.n) Tryz.func149 rfl zWf trivial λx=>by kernel_rfl
def JZ:Ct TS:=⟨[.d (.i .u8) 0],[],[.i .u8],.d .b 1,[],[.b],bd,λx=>qF x⟩
def K7:dL 151 JZ:=fB (T:=[]) (h:=.n) Tryz.func151 rfl zWg trivial λx=>by kernel_rfl
def zgn:Ct TS:=⟨[.d (.i .u8) 0],[],[.i .u8],.d .b 1,[],[.b],bd,λx=>KQ x⟩
def zrr:dL 163 zgn:=fB (T:=[(149,A8),(151,JZ)]) (h:=.n) Tryz.func163 rfl zWh ⟨HY,K7,trivial⟩ λx=>by kernel_rfl
def zgo:Ct TS:=⟨[.d .s 0,.fn 163 [] []],[],[.s],dI 1,[],[i6],bd,λx=>KR x⟩
def zrs:dL 71 zgo:=fB (T:=[(163,zgn)]) (h:=.s .n (.s .n (.s (.s (.l ⟨[(0,.d .s 0),(1,.fn 163 [] []),(5,dI 1)],[],[.s],[i6]⟩ [(5,dI 1)] [] [i6] 0 (λx K v=>uz x K v) (.s (.s (.j ⟨[(0,.d .s 0),(1,.fn 163 [] []),(5,dI 1),(16,.d .b 2)],[],[.s,i6],[.b]⟩ bd .n) .n) .n)) .n) .n))) Tryz.func71 rfl N9 ⟨zrr,trivial⟩ λx=>by kernel_rfl
def zgp:Ct TS:=⟨[.d (.i .u8) 0],[],[.i .u8],.d .b 1,[],[.b],bd,λx=>uT x⟩
def zrt:dL 150 zgp:=fB (T:=[(149,A8),(151,JZ)]) (h:=.n) Tryz.func150 rfl zWi ⟨HY,K7,trivial⟩ λx=>by kernel_rfl
def zgq:Ct TS:=⟨[.d .s 0,.fn 150 [] []],[],[.s],dI 1,[],[i6],bd,λx=>KS x⟩
def zru:dL 71 zgq:=fB (T:=[(150,zgp)]) (h:=.s .n (.s .n (.s (.s (.l ⟨[(0,.d .s 0),(1,.fn 150 [] []),(5,dI 1)],[],[.s],[i6]⟩ [(5,dI 1)] [] [i6] 0 (λx K v=>uA x K v) (.s (.s (.j ⟨[(0,.d .s 0),(1,.fn 150 [] []),(5,dI 1),(16,.d .b 2)],[],[.s,i6],[.b]⟩ bd .n) .n) .n)) .n) .n))) Tryz.func71 rfl N9 ⟨zrt,trivial⟩ λx=>by kernel_rfl
def W4:Ct TS:=⟨[.d .s 0],[],[.s],.d .b 1,[],[.b],bd,λx=>Hy x⟩
def znp:dL 59 W4:=fB (T:=[(149,A8),(71,zgq)]) (h:=.s .n (.s (.s (.j ⟨[(0,.d .s 0),(15,.d .b 1)],[],[.s],[.b]⟩ bd .n) .n) .n)) Tryz.func59 rfl ajK ⟨HY,zru,trivial⟩ λx=>by kernel_rfl
def Yg:Ct TS:=⟨[.d .s 0,.fn 151 [] []],[],[.s],dI 1,[],[i6],bd,λx=>A0 x⟩
def zcm:dL 71 Yg:=fB (T:=[(151,JZ)]) (h:=.s .n (.s .n (.s (.s (.l ⟨[(0,.d .s 0),(1,.fn 151 [] []),(5,dI 1)],[],[.s],[i6]⟩ [(5,dI 1)] [] [i6] 0 (λx K v=>uB x K v) (.s (.s (.j ⟨[(0,.d .s 0),(1,.fn 151 [] []),(5,dI 1),(16,.d .b 2)],[],[.s,i6],[.b]⟩ bd .n) .n) .n)) .n) .n))) Tryz.func71 rfl N9 ⟨K7,trivial⟩ λx=>by kernel_rfl
def zgr:Ct TS:=⟨[.d .s 0],[],[.s],.gu [dI 1,.d .b 2],[],[i6,.b],bd,λx=>KT x⟩
def zrv:dL 164 zgr:=fB (T:=[(71,Yg)]) (h:=.s .n (.s (.s (.j ⟨[(0,.d .s 0),(28,.d .b 1)],[],[.s],[.b]⟩ bd .n) .n) (.s .n (.s (.s .n (.s (.l ⟨[(0,.d .s 0),(4,dI 2),(30,dI 1),(31,dI 3)],[],[.s,i6],[i6,i6]⟩ [(4,dI 2)] [] [i6] 0 (ir vH) .n) .n)) .n)))) Tryz.func164 rfl zWj ⟨zcm,trivial⟩ λx=>by kernel_rfl
def zcn:Ct TS:=⟨[.d .s 0,.d .s 1],[],[.s,.s],.d .b 2,[],[.b],bd,ir QU⟩
def znq:zcn.OK aR 165:=λx r h=>ni (by kernel_rfl) (zrn x.1 x.2 r h)
def zuq:Ct TS:=⟨[.d .s 0],h3,[.s],.gu [.ag [dI 2,.d .s 3,dI 4,dI 5],dI 1],(h4 7000001 2 3 4 5),[i6,i6,.s,i6,i6],bd,λx=>Ol x⟩
def zDk:dL 73 zuq:=nD (cd:=l0) (nb:=lI) (rc:=[(2,7000001,0)]) (T:=[(149,A8),(71,zgo),(59,W4),(151,JZ),(71,Yg),(164,zgr),(165,zcn)]) (h:=.s .n (.s .n (.s (.s .n (.s (.lr ⟨[(0,.d .s 0),(2,.ptr 1000002 0),(43,.ag [.d .s 1,.d .s 2,.d .s 3,.d .s 4,.d .s 5,.d .s 6,.d .s 7,.d .s 8,.d .s 9,.d .s 10,.d .s 11,.d .s 12,.d .s 13,.d .s 14]),(44,dI 17)],(h4 1000002 15 16 15 15),[.s,.s,.s,.s,.s,.s,.s,.s,.s,.s,.s,.s,.s,.s,.s,i6,.s],[i6]⟩ [(2,.ptr 1000002 0)] (h4 1000002 15 16 15 15) [] 1 (Ga kQ) .n) .n)) .n))) Tryz.func73 rfl ajU ⟨HY,zrs,znp,K7,zcm,zrv,⟨zWk,znq⟩,trivial⟩ λx=>by kernel_rfl
def XQ:Ct TS:=⟨[.d .s 0],h3,[.s],.gu [.d vb 1,dI 2,dI 3],h3,[vb,i6,i6],bd,λx=>Lw x⟩
def zur:dL 29 XQ:=fB (T:=[(71,zup),(73,zuq)]) (h:=.s .n (.s .n (.s .n (.s .n (.s (.lr ⟨[(0,.d .s 0),(5,.row 4 7000001),(6,dI 1)],[(900000000,.rw 1),(900000001,.rw 2),(900000002,.rw 3),(900000003,.rw 4),(7000001,.row 83 (.st 11) 2 bd)],[.s],[i6,vb]⟩ [] [] [] 999999999 (λx K v=>uU x K v) .n) .n))))) Tryz.func29 rfl ajh ⟨zDj,zDk,trivial⟩ λx=>by kernel_rfl
def yY:Ct TS:=⟨[.ptr 1 0],km,k6,.ag [dI 17,.d .s 18,dI 19,dI 20],(km++[(7000001,.box 83 [dI 17,.d .s 18,dI 19,dI 20])]),k1,bd,λx=>zA x.1 x.2.1⟩
def yu:dL 167 yY:=nD (cd:=l0) (nb:=lI) (rc:=[(2,7000001,0)]) (T:=[]) (h:=.n) Tryz.func167 rfl zWl trivial λx=>by kernel_rfl
def zY:Ct TS:=⟨[.ptr 1 0,.d .b 17,dI 18],km,k7,.gu [],km,[],bd,λx=>zn x.1 x.2.1 (o_ x).1 (um x)⟩
def zP:dL 179 zY:=fB (T:=[]) (h:=.n) Tryz.func179 rfl zMu trivial λx=>by kernel_rfl
def W5:Ct TS:=⟨[.ptr 1 0,dI 17,dI 18],km,k8,.gu [],J3,[i6],bd,λx=>yH (F_ x) (Bd x).1 (Bd x).2⟩
def znr:dL 168 W5:=fB (T:=[(179,zY)]) (h:=.n) Tryz.func168 rfl zMv ⟨zP,trivial⟩ λx=>by kernel_rfl
def zgs:Ct TS:=⟨[.d .s 0,.d .s 1],h3,[.s,.s],.d .b 2,h3,[.b],bd,ir KU⟩
def zrx:zgs.OK aR 60:=λx r h=>ni (by kernel_rfl) (zx2 x.1 x.2 r h)
def Gq:Ct TS:=⟨[.d .s 0],h3,[.s],.d .b 1,h3,[.b],bd,λx=>Qu x⟩
def LH:dL 21 Gq:=fB (T:=[(59,W4),(60,zgs)]) (h:=.n) Tryz.func21 rfl ajc ⟨znp,⟨ajL,zrx⟩,trivial⟩ λx=>by kernel_rfl
def xx:Ct TS:=⟨[.ptr 1 0],(km++h3),k6,.d .b 17,(km++h3),[.b],bd,λx=>yL x.1 x.2.1⟩
def xk:dL 208 xx:=fB (T:=[(167,yY),(21,Gq)]) (h:=.n) Tryz.func208 rfl zWm ⟨yu,LH,trivial⟩ λx=>by kernel_rfl
def vW:Ct TS:=⟨[.ptr 1 0],(km++h3),k6,.d .s 17,(GB++h3),[.s,i6],bd,λx=>zV x.1 x.2.1⟩
def wS:dL 232 vW:=fB (T:=[(208,xx),(179,zY)]) (h:=.n) Tryz.func232 rfl zMw ⟨xk,zP,trivial⟩ λx=>by kernel_rfl
def UU:Ct TS:=⟨[.ptr 1 0,.om 9],(km++h3),k6,.d .s 17,((h5 18 9 16 2 3 4 5 6 7 8 19 11 12 13 14 15)++h3),k9,bd,λx=>VT (jU x)⟩
def zgu:dL 209 UU:=fB (T:=[(208,xx),(179,zY),(167,yY),(232,vW)]) (h:=.n) Tryz.func209 rfl YZ ⟨xk,zP,yu,wS,trivial⟩ λx=>by kernel_rfl
def XR:Ct TS:=⟨[.ptr 1 0,.ci .i64 0],(km++h3),k6,.d .s 17,((p9 18 9 7001001 16 2 3 4 5 6 7 8)++h3++(p_ 7001001 19)),k9,bd,λx=>LF (jU x)⟩
def zus:dL 172 XR:=nD (cd:=CD) (nb:=lI) (rc:=[]) (T:=[(209,UU)]) (h:=.s .n (.s (.j ⟨[(0,.ptr 1 0),(1,dI 16)],((p9 1 2 7000001 3 4 5 6 7 8 9 10)++h3++(p_ 7000001 17)),Bb,[bC]⟩ bd .n) .n)) Tryz.func172 rfl Y0 ⟨zgu,trivial⟩ λx=>by kernel_rfl
def Y2:Ct TS:=⟨[.ptr 1 0,.d .s 17],km,FM,.d .b 18,km,[.b],bd,λx=>Ad x.1 x.2.1 (o_ x)⟩
def Q1:dL 171 Y2:=fB (T:=[(167,yY)]) (h:=.n) Tryz.func171 rfl zWn ⟨yu,trivial⟩ λx=>by kernel_rfl
def Q2:Ct TS:=⟨[.ptr 1 0,.d .s 17],km,FM,.d .b 18,J3,[.b,i6],bd,λx=>zL x.1 x.2.1 (o_ x)⟩
def K8:dL 212 Q2:=fB (T:=[(171,Y2)]) (h:=.n) Tryz.func212 rfl zWo ⟨Q1,trivial⟩ λx=>by kernel_rfl
def uK:Ct TS:=⟨[.ptr 1 0,.d .s 17],km,FM,.gu [],GB,[i6],bd,λx=>z6 x.1 x.2.1 (o_ x)⟩
def qH:dL 181 uK:=fB (T:=[(212,Q2),(179,zY)]) (h:=.n) Tryz.func181 rfl zMx ⟨K8,zP,trivial⟩ λx=>by kernel_rfl
def vA:Ct TS:=⟨[.ptr 1 0],km,k6,.d .b 17,km,[.b],bd,λx=>yM x.1 x.2.1⟩
def vX:dL 211 vA:=fB (T:=[(167,yY)]) (h:=.n) Tryz.func211 rfl zWp ⟨yu,trivial⟩ λx=>by kernel_rfl
def vY:Ct TS:=⟨[.ptr 1 0,dI 17,dI 18],km,k8,dI 19,(h5 20 9 16 2 3 4 5 6 7 8 10 11 12 13 14 15),[i6,i6],bd,λx=>zr x.1 x.2.1 (o_ x).1 (um x)⟩
def vB:dL 177 vY:=fB (T:=[(211,vA),(179,zY),(167,yY)]) (h:=.s .n (.s .n (.s .n (.s (.j ⟨[(0,.ptr 1 0),(7,dI 17)],rJ,FN,[]⟩ bd .n) .n)))) Tryz.func177 rfl zMy ⟨vX,zP,yu,trivial⟩ λx=>by kernel_rfl
def HZ:Ct TS:=⟨[],[],[],.d Bj 0,[],[Bj],bd,λ_=>jC⟩
def J0:dL 223 HZ:=fB (T:=[]) (h:=.n) Tryz.func223 rfl zWq trivial λx=>by kernel_rfl
def A9(RK:Nat):Ct TS:=⟨[.ptr 1 0,dI 17],(km++h3),IJ,.gu [.ag [dI 20,dI 21,.d .s 22,.d .s 23,.d bZ 24],dI 18],(J3++h3++(qB 7000001 20 21 22 23 24)),Nb,bd,λx=>uV RK x.1 x.2.1 (o_ x)⟩
def ko(RK:Nat):Ct TS:=⟨[.ptr 1 0,dI 17],(km++h3),IJ,.ag [dI 19,dI 20,.d .s 21,.d .s 22,.d bZ 23],(GB++h3++(qB 7000001 19 20 21 22 23)),Nc,bd,λx=>zS RK x.1 x.2.1 (o_ x)⟩
def qI:∀RK,(A9 RK).OK aR 231/\(ko RK).OK aR 206
 |0=>⟨(λx r h=>nomatch (show(bh:Option _)=bc r from h)),(λx r h=>nomatch (show(bh:Option _)=bc r from h))⟩
 |RK+1=>⟨(nD (c:=A9 (RK+1)) (cd:=l0) (nb:=lI) (rc:=[(4,7000001,0)]) (T:=[(212,Q2),(206,ko RK),(181,uK),(211,vA),(177,vY),(232,vW)]) (h:=.s .n (.s (.s (.s (.j ⟨[(0,.ptr 1 0),(1,dI 16),(4,.ptr 1000004 0),(10,.d .b 21)],N6,FO,[i6,.b]⟩ bd .n) (.s .n (.s (.j ⟨[(0,.ptr 1 0),(1,dI 16),(4,.ptr 1000004 0),(31,.d .b 21)],N6,FO,[i6,.b]⟩ bd .n) (.s .n (.s (.j ⟨[(0,.ptr 1 0),(4,.ptr 1000004 0),(42,.d .b 20)],zV4,acI,[i6,.b]⟩ bd .n) .n))))) .n) .n)) Tryz.func231 rfl L9 ⟨K8,⟨Y1,(qI RK).2⟩,qH,vX,vB,wS,trivial⟩ λx=>by kernel_rfl).2,(nD (c:=ko (RK+1)) (cd:=l0) (nb:=lI) (rc:=[(4,7000001,0)]) (T:=[(231,A9 RK),(223,HZ),(171,Y2),(206,ko RK)]) (h:=.s .n (.s .n (.s (.lr ⟨[(0,.ptr 1 0),(1,dI 16),(4,.ptr 1000004 0),(5,.ptr 1000005 0),(6,dI 21)],zV5,FO,Nb⟩ [] [] [] 999999999 (λx K v=>oD (zS RK) x.1 (Lj x).1 (o_ x).1 (um x).1 (Ev x) K v) (.s (.s .n (.s (.s .n (.s (.l ⟨[(0,.ptr 1 0),(1,dI 17),(4,.ptr 1000004 0),(5,.ptr 1000005 0),(6,dI 18),(7,.ptr 1000007 0),(16,.d Bj 19),(17,dI 20),(18,dI 29)],(rJ++h3++(CH 21 22 23 24 25 26 27 28 30 31 32)),acJ,k1⟩ [(0,.ptr 1 0),(1,dI 17),(4,.ptr 1000004 0),(5,.ptr 1000005 0),(6,dI 18),(7,.ptr 1000007 0)] (rJ++h3++(CH 21 22 23 24 25 26 27 28 29 30 31)) [.s,i6,i6] 2 (λx K v=>wD x.1 x.2.1 (o_ x).1 (um x).1 (Ev x).1 (Lk x).1 (Ll x).1 (Lm x).1 (Ln x).1 (Lo x).1 (Lp x).1 (Ld x).1 (Le x).1 (Lf x) K v) (.s .n (.s .n (.s (.j ⟨[(0,.ptr 1 0),(1,dI 17),(4,.ptr 1000004 0),(5,.ptr 1000005 0),(6,dI 18),(7,.ptr 1000007 0),(16,.d Bj 19),(17,dI 20),(18,dI 21)],(rJ++h3++(CH 22 23 24 25 26 27 28 29 30 31 32)),acK,[.s,i6,i6]⟩ bd .n) .n)))) .n)) (.s (.s (.j ⟨[(0,.ptr 1 0),(1,dI 17),(4,.ptr 1000004 0),(5,.ptr 1000005 0),(7,.ptr 1000007 0),(51,.d .b 29)],(rJ++h3++(CH 18 19 20 21 22 23 24 25 26 27 28)),acL,[.b]⟩ bd .n) .n) .n))) .n)) .n))) Tryz.func206 rfl Y1 ⟨⟨L9,(qI RK).1⟩,J0,Q1,⟨Y1,(qI RK).2⟩,trivial⟩ λx=>by kernel_rfl).2⟩
def zrz(RK:Nat):ze aR 231/\(A9 RK).OK aR 231:=⟨L9,(qI RK).1⟩
def Ha(RK:Nat):ze aR 206/\(ko RK).OK aR 206:=⟨Y1,(qI RK).2⟩
def Ai(RK:Nat):Ct TS:=⟨[.d (.st 0) 0],[],[.st 0],dI 1,[],[i6],bd,λx=>j5 RK x⟩
def zgv:∀RK,(Ai RK).OK aR 207
 |0=>(λx r h=>nomatch (show(bh:Option _)=bc r from h))
 |RK+1=>(fB (c:=Ai (RK+1)) (T:=[(207,Ai RK)]) (h:=.s .n (.s .n (.s (.s .n (.s (.l ⟨[(3,dI 2),(7,.d bZ 0),(8,dI 1),(9,dI 3)],[],[bZ,i6],[i6,i6]⟩ [(3,dI 2)] [] [i6] 0 (λx K v=>kS (j5 RK) x.1 x.2 K v) .n) .n)) .n))) Tryz.func207 rfl Tw ⟨⟨Tw,(zgv RK)⟩,trivial⟩ λx=>by kernel_rfl).2
def VZ(RK:Nat):ze aR 207/\(Ai RK).OK aR 207:=⟨Tw,(zgv RK)⟩
def Q3:Ct TS:=⟨[.ptr 1 0,.d .b 17,dI 18],km,k7,.gu [],J3,[i6],bd,λx=>jD (F_ x) (Bd x).1 (Bd x).2⟩
def K9:dL 174 Q3:=fB (T:=[(171,Y2),(179,zY)]) (h:=.n) Tryz.func174 rfl zMz ⟨Q1,zP,trivial⟩ λx=>by kernel_rfl
def Yh:Ct TS:=⟨[.ptr 1 0],(km++h3),k6,.gu [],((p9 17 9 7000001 16 18 3 4 5 6 7 8)++h3++(p_ 7000001 19)),[i6,eR,bC],bd,λx=>A1 (jU x)⟩
def zcq:dL 169 Yh:=fB (T:=[(172,XR),(181,uK),(206,ko KK),(207,Ai KK),(174,Q3)]) (h:=.n) Tryz.func169 rfl zM0 ⟨zus,qH,(Ha KK),(VZ KK),K9,trivial⟩ λx=>by kernel_rfl
def Q4:Ct TS:=⟨[.ptr 1 0,.om 11],(km++h3),k6,.d .s 17,((h5 18 9 16 2 3 4 5 6 7 8 10 11 19 13 14 15)++h3),k9,bd,λx=>Hz (jU x)⟩
def aav:dL 209 Q4:=fB (T:=[(208,xx),(179,zY),(167,yY),(232,vW)]) (h:=.n) Tryz.func209 rfl YZ ⟨xk,zP,yu,wS,trivial⟩ λx=>by kernel_rfl
def UW:Ct TS:=⟨[.ptr 1 0,.ci .i64 2],(km++h3),k6,.d .s 17,((acq 18 9 7001001 16 2 3 4 5 6 7 8 10 11)++h3++(p_ 7001001 19)),k9,bd,λx=>oE (jU x)⟩
def zgw:dL 172 UW:=nD (cd:=CD) (nb:=lI) (rc:=[]) (T:=[(209,Q4)]) (h:=.s .n (.s (.j ⟨[(0,.ptr 1 0),(1,dI 16)],zV6,Bb,[bC]⟩ bd .n) .n)) Tryz.func172 rfl Y0 ⟨aav,trivial⟩ λx=>by kernel_rfl
def Yi:Ct TS:=⟨[.ptr 1 0],km,k6,.d gE 17,GB,[gE,i6],bd,λx=>wb (jU x)⟩
def zcs:dL 173 Yi:=fB (T:=[(177,vY),(211,vA)]) (h:=.s .n (.s .n (.s (.lr ⟨[(0,.ptr 1 0),(3,.row 2 7000001)],(Dg++(sV 7000001 93 1 17)),FQ,[i6,gE]⟩ [] [] [] 999999999 (λx K v=>j6 (BB.mk x.1 0 x.2.2.2.1 x.2.2.2.2.1 (nE x).1 (oz x).1 (rX x).1 (sY x).1 (tB x).1 x.2.1 (ui x).1 (uj x).1 (uk x).1 (Ci x).1 (Cj x).1 (Ck x) x.2.2.1) K v) .n) .n))) Tryz.func173 rfl zM1 ⟨vB,vX,trivial⟩ λx=>by kernel_rfl
def zgx:Ct TS:=⟨[.d gE 0],[],[gE],.d nJ 1,[],[nJ],bd,λx=>KV x⟩
def zr0:dL 192 zgx:=fB (T:=[]) (h:=.s .n (.s .n (.s (.s .n (.s (.l ⟨[(0,.d gE 0),(3,.row 4 1000007),(9,dI 1),(10,dI 2)],(sV 1000007 273 14 3),[gE,i6],[i6,nJ]⟩ [(3,.row 4 1000007)] (sV 1000007 273 14 2) [nJ] 0 (ir wE) .n) .n)) .n))) Tryz.func192 rfl zWr trivial λx=>by kernel_rfl
def zgy:Ct TS:=⟨[.d (.st 1) 0],[],[.st 1],.d .b 1,[],[.b],bd,λx=>Yd x⟩
def zr1:dL 193 zgy:=fB (T:=[]) (h:=.n) Tryz.func193 rfl zWs trivial λx=>by kernel_rfl
def Jq:Ct TS:=⟨[.d (.st 14) 0],[],[.st 14],.d .b 1,[],[.b],bd,λx=>xj x⟩
def aeN:dL 194 Jq:=fB (T:=[]) (h:=.n) Tryz.func194 rfl zWt trivial λx=>by kernel_rfl
def zct:Ct TS:=⟨[dI 0],[],[i6],.d .b 1,[],[.b],bd,λx=>HA x⟩
def zns:dL 234 zct:=fB (T:=[]) (h:=.n) Tryz.func234 rfl zWu trivial λx=>by kernel_rfl
def aaj:Ct TS:=⟨[dI 0,dI 1],[],[i6,i6],dI 2,[],[i6],bd,ir j7⟩
def ze9:dL 218 aaj:=fB (T:=[(234,zct)]) (h:=.n) Tryz.func218 rfl zWv ⟨zns,trivial⟩ λx=>by kernel_rfl
def zut:Ct TS:=⟨[.d (.l i6) 0],[],[.l i6],dI 1,[],[i6],bd,λx=>Om x⟩
def zDl:dL 217 zut:=fB (T:=[]) (h:=.s .n (.s .n (.s (.s .n (.s (.lr ⟨[(3,dI 0),(6,.d (.l i6) 1),(7,dI 2),(8,dI 3)],[],[i6,.l i6,i6],[i6]⟩ [(3,dI 0)] [] [] 0 (mI kT) .n) .n)) .n))) Tryz.func217 rfl zWw trivial λx=>by kernel_rfl
def zcu:Ct TS:=⟨[.d (.st 1) 0,.d (.st 1) 1],[],[.st 1,.st 1],dI 2,[],[i6],bd,ir HB⟩
def znt:dL 195 zcu:=fB (T:=[(218,aaj),(217,zut)]) (h:=.n) Tryz.func195 rfl zWx ⟨ze9,zDl,trivial⟩ λx=>by kernel_rfl
def Jr:Ct TS:=⟨[.d (.st 14) 0,.d (.st 14) 1],[],[.st 14,.st 14],.d .b 2,[],[.b],bd,ir Jj⟩
def aeO:dL 196 Jr:=fB (T:=[]) (h:=.n) Tryz.func196 rfl zWy trivial λx=>by kernel_rfl
def znu:Ct TS:=⟨[.d gE 0],[],[gE],.d .b 1,[],[.b],bd,λx=>UO x⟩
def zyb:dL 148 znu:=fB (T:=[(192,zgx),(193,zgy),(194,Jq),(195,zcu),(196,Jr)]) (h:=.s .n (.s (.s (.j ⟨[(0,.d gE 0),(16,.d .b 1)],[],[gE],[.b]⟩ bd .n) .n) (.s .n (.s (.s .n (.s (.lr ⟨[(0,.d gE 0),(3,.d nJ 1),(19,.d nJ 1),(20,dI 2),(21,dI 3)],[],[gE,nJ,i6],[i6]⟩ [(3,.d nJ 1)] [] [] 0 (mI jM) (.s .n (.s .n (.s (.s (.s .n (.s .n (.s (.s (.j ⟨[(0,.d gE 0),(3,.d nJ 1),(4,dI 2),(19,.d nJ 1),(20,dI 3),(21,dI 2),(61,.d .b 4)],[],[gE,nJ,i6,i6],[.b]⟩ bd .n) .n) (.s (.j ⟨[(0,.d gE 0),(3,.d nJ 1),(19,.d nJ 1),(20,dI 2),(21,dI 3),(74,.d .b 4)],[],[gE,nJ,i6,i6],[.b]⟩ bd .n) .n)))) .n) .n)))) .n)) (.s (.s .n (.s (.lr ⟨[(3,.d nJ 0),(77,dI 1),(78,dI 2)],[],[nJ,i6],[i6]⟩ [(3,.d nJ 0)] [] [] 2 (ir jO) (.s .n (.s .n (.s (.s (.s .n (.s .n (.s (.lr ⟨[(3,.d nJ 0),(7,dI 1),(8,dI 3),(77,dI 2),(78,dI 1)],[],[nJ,i6,i6],[i6]⟩ [(3,.d nJ 0),(77,dI 2),(78,dI 1)] [] [] 4 (mI jN) (.s .n (.s (.s (.s (.j ⟨[(3,.d nJ 0),(7,dI 1),(8,dI 2),(77,dI 3),(78,dI 1),(106,.d .b 4)],[],[nJ,i6,i6,i6],[.b]⟩ bd .n) .n) .n) .n))) .n))) .n) .n)))) .n)) .n))))) Tryz.func148 rfl zWz ⟨zr0,zr1,aeN,znt,aeO,trivial⟩ λx=>by kernel_rfl
def Oz:Ct TS:=⟨[.d gE 0],[],[gE],.d .b 1,[],[.b],bd,λx=>wF x⟩
def UX:dL 57 Oz:=fB (T:=[(148,znu)]) (h:=.n) Tryz.func57 rfl ajI ⟨zyb,trivial⟩ λx=>by kernel_rfl
def Q5:Ct TS:=⟨[.ptr 1 0,.om 12],(km++h3),k6,.d .s 17,((h5 18 9 16 2 3 4 5 6 7 8 10 11 12 19 14 15)++h3),k9,bd,λx=>HC (jU x)⟩
def aaw:dL 209 Q5:=fB (T:=[(208,xx),(179,zY),(167,yY),(232,vW)]) (h:=.n) Tryz.func209 rfl YZ ⟨xk,zP,yu,wS,trivial⟩ λx=>by kernel_rfl
def UY:Ct TS:=⟨[.ptr 1 0,.ci .i64 3],(km++h3),k6,.d .s 17,((D0 18 9 7001001 16 2 3 4 5 6 7 8 10 11 12 14 15)++h3++(p_ 7001001 19)),k9,bd,λx=>JT (jU x)⟩
def zgz:dL 172 UY:=nD (cd:=CD) (nb:=lI) (rc:=[]) (T:=[(209,Q5)]) (h:=.s .n (.s (.j ⟨[(0,.ptr 1 0),(1,dI 16)],zV7,Bb,[bC]⟩ bd .n) .n)) Tryz.func172 rfl Y0 ⟨aaw,trivial⟩ λx=>by kernel_rfl
def W6:Ct TS:=⟨[.ptr 1 0],(km++h3),k6,.d bH 17,(GB++h3),[bH,i6],bd,λx=>uC (jU x)⟩
def znv:dL 213 W6:=fB (T:=[(232,vW),(208,xx)]) (h:=.s .n (.s .n (.s (.s (.l ⟨[(0,.ptr 1 0),(3,.row 1 1000008)],(Dg++h3++[(1000008,.row 9 .s 17 bd)]),FQ,[i6,bH]⟩ [(3,.row 1 1000008)] (Dg++h3++[(1000008,.row 9 .s 17 bd)]) [i6,bH] 0 (λx K v=>oF (BB.mk x.1 0 x.2.2.2.1 x.2.2.2.2.1 (nE x).1 (oz x).1 (rX x).1 (sY x).1 (tB x).1 x.2.1 (ui x).1 (uj x).1 (uk x).1 (Ci x).1 (Cj x).1 (Ck x) x.2.2.1) K v) .n) .n) .n))) Tryz.func213 rfl zM2 ⟨wS,xk,trivial⟩ λx=>by kernel_rfl
def OB:Ct TS:=⟨[.d .s 0],h3,[.s],.row 1 60,[(60,.row 9 .s 1 bd),(900000000,.rw 1),(900000001,.rw 2),(900000002,.rw 3),(900000003,.rw 4)],[bH],bd,λx=>jx x⟩
def UZ:OB.OK aR 67:=λx r h=>ni (by kernel_rfl) (zJc x r h)
def aah:Ct TS:=⟨[.d bH 0,.d .s 1],[],[bH,.s],dI 2,[],[i6],bd,ir AJ⟩
def zcy:dL 233 aah:=fB (T:=[]) (h:=.s .n (.s (.s .n (.s (.lr ⟨[(0,.d bH 0),(1,.d .s 1),(7,dI 2),(8,dI 3)],[],[bH,.s,i6],[i6]⟩ [] [] [] 0 (mI xv) .n) .n)) .n)) Tryz.func233 rfl zW0 trivial λx=>by kernel_rfl
def LI:Ct TS:=⟨[.d .s 0,.d .s 1],h3,[.s,.s],dI 2,h3,[i6],bd,ir QV⟩
def OC:dL 215 LI:=fB (T:=[(67,OB),(233,aah)]) (h:=.n) Tryz.func215 rfl zW1 ⟨⟨Un,UZ⟩,zcy,trivial⟩ λx=>by kernel_rfl
def qe:Ct TS:=⟨[.ptr 1 0,.d .s 17],(km++h3),FM,dI 18,(J3++h3),[i6,i6],bd,λx=>xe (F_ x) (Bd x)⟩
def qf:dL 176 qe:=fB (T:=[(167,yY),(215,LI),(179,zY)]) (h:=.s .n (.s .n (.s (.j ⟨[(0,.ptr 1 0),(5,dI 17)],(rJ++h3),FN,[]⟩ bd .n) .n))) Tryz.func176 rfl zM3 ⟨yu,OC,zP,trivial⟩ λx=>by kernel_rfl
def XF:Ct TS:=⟨[.ptr 1 0],(km++h3),k6,dI 17,(GB++h3),[i6,i6],bd,λx=>LG (jU x)⟩
def zuu:dL 214 XF:=fB (T:=[(167,yY),(215,LI),(179,zY),(176,qe)]) (h:=.s .n (.s .n (.s (.lr ⟨[(0,.ptr 1 0),(3,dI 17)],(Dg++h3),FQ,[i6,i6]⟩ [] [] [] 999999999 (λx K v=>A2 (BB.mk x.1 0 x.2.2.2.1 x.2.2.2.2.1 (nE x).1 (oz x).1 (rX x).1 (sY x).1 (tB x).1 x.2.1 (ui x).1 (uj x).1 (uk x).1 (Ci x).1 (Cj x).1 (Ck x) x.2.2.1) K v) (.s (.s .n (.s (.s (.j ⟨[(0,.ptr 1 0),(3,dI 17),(4,dI 18),(24,.d .b 19)],(rJ++h3),acM,[.b]⟩ bd .n) .n) (.s (.j ⟨[(0,.ptr 1 0),(3,dI 17)],(rJ++h3),FN,[]⟩ bd .n) .n))) .n)) .n))) Tryz.func214 rfl zM4 ⟨yu,OC,zP,qf,trivial⟩ λx=>by kernel_rfl
def W7:Ct TS:=⟨[.ptr 1 0],(km++h3),k6,.gu [],((D0 17 9 7000001 16 2 3 4 18 6 7 8 10 11 12 14 15)++h3++(p_ 7000001 19)),[i6,fR,bC],bd,λx=>HD (jU x)⟩
def znw:dL 175 W7:=fB (T:=[(172,UY),(212,Q2),(213,W6),(177,vY),(181,uK),(214,XF),(176,qe),(206,ko KK),(207,Ai KK),(174,Q3)]) (h:=.s .n (.s (.j ⟨[(0,.ptr 1 0),(2,.ptr 1000002 0)],(N7++h3++(zp 23 17 18 18 18 19 18 18 18 20 20 21 18 18 18 18 18 18 18)),Nd,[i6,bH]⟩ bd .n) (.s (.j ⟨[(0,.ptr 1 0),(2,.ptr 1000002 0)],(N7++h3++(zp 17 23 18 18 18 19 18 18 18 20 20 21 18 18 18 18 18 18 18)),Nd,[i6,bH]⟩ bd .n) (.s (.j ⟨[(0,.ptr 1 0),(2,.ptr 1000002 0)],(N8++h3++(zp 17 18 24 19 19 20 19 19 19 21 21 22 19 19 19 19 19 19 19)),acN,[i6,i6]⟩ bd .n) (.s (.j ⟨[(0,.ptr 1 0),(2,.ptr 1000002 0)],zV8,acO,[i6,i6]⟩ bd .n) (.s (.j ⟨[(0,.ptr 1 0),(2,.ptr 1000002 0)],zV9,acP,[i6,i6]⟩ bd .n) (.s .n (.s .n (.s (.j ⟨[(0,.ptr 1 0),(2,.ptr 1000002 0)],(N8++h3++(zp 17 18 19 20 21 22 24 25 26 27 28 29 30 31 32 33 34 35 36)),acQ,acR⟩ bd .n) .n))))))))) Tryz.func175 rfl zM5 ⟨zgz,K8,znv,vB,qH,zuu,qf,(Ha KK),(VZ KK),K9,trivial⟩ λx=>by kernel_rfl
def Q6:Ct TS:=⟨[.ptr 1 0,.om 13],(km++h3),k6,.d .s 17,((h5 18 9 16 2 3 4 5 6 7 8 10 11 12 13 19 15)++h3),k9,bd,λx=>QW (jU x)⟩
def aax:dL 209 Q6:=fB (T:=[(208,xx),(179,zY),(167,yY),(232,vW)]) (h:=.n) Tryz.func209 rfl YZ ⟨xk,zP,yu,wS,trivial⟩ λx=>by kernel_rfl
def UI:Ct TS:=⟨[.ptr 1 0,.ci .i64 4],(km++h3),k6,.d .s 17,((acr 18 9 7001001 16 2 3 4 5 6 7 8 10 11 12 13)++h3++(p_ 7001001 19)),k9,bd,λx=>JU (jU x)⟩
def zg0:dL 172 UI:=nD (cd:=CD) (nb:=lI) (rc:=[]) (T:=[(209,Q6)]) (h:=.s .n (.s (.j ⟨[(0,.ptr 1 0),(1,dI 16)],zWa,Bb,[bC]⟩ bd .n) .n)) Tryz.func172 rfl Y0 ⟨aax,trivial⟩ λx=>by kernel_rfl
def Qa:Ct TS:=⟨[.ptr 1 0],(km++h3),k6,.gu [],((Rp 17 18 7001001 7001002 7001003 7001004 19 20 3 21 22 23 7 8 11 15)++h3++(Rs 7001001 24 7001002 25 7001003 26 7001004 27)),IK,bd,λx=>W1 (jU x)⟩
set_option maxHeartbeats 4000000 in
theorem zDm:dL 75 Qa:=fB (T:=[(167,yY),(168,W5),(169,Yh),(171,Y2),(172,UW),(173,Yi),(57,Oz),(174,Q3),(175,W7),(172,UI),(176,qe),(177,vY),(179,zY),(181,uK)]) (h:=.s (.l ⟨[(0,.ptr 1 0)],NF,acS,IK⟩ [] NF IK 0 (λx K v=>yo (BB.mk x.1 0 [] x.2.1 [] [] [] x.2.2.1 x.2.2.2.1 0 [] x.2.2.2.2.1 [] [] [] (nE x) bd) K v) .n) .n) Tryz.func75 rfl zW2 ⟨yu,znr,zcq,Q1,zgw,zcs,UX,K9,znw,zg0,qf,vB,zP,qH,trivial⟩ λx=>(by  kernel_rfl)
def UJ:lC TS PC:=⟨[.ptr 1 0,dI 17],km,IJ,λx=>Ae x.1 x.2.1 (o_ x)⟩
def zg1:nC 182 UJ:=n8 (T:=[(167,yY)]) (TP:=[]) (h:=.n) Tryz.func182 rfl zW3 ⟨yu,trivial⟩ trivial λx=>by kernel_rfl
def xy:lC TS PC:=⟨[.ptr 1 0,.d .b 17,dI 18],km,k7,λx=>zI x.1 x.2.1 (o_ x).1 (um x)⟩
def xl:nC 179 xy:=n8 (T:=[]) (TP:=[(182,UJ)]) (h:=.n) Tryz.func179 rfl zMu trivial ⟨zg1,trivial⟩ λx=>by kernel_rfl
def znx:lC TS PC:=⟨[.ptr 1 0,dI 17,dI 18],km,k8,λx=>vI (F_ x) (Bd x).1 (Bd x).2⟩
def zyc:nC 168 znx:=n8 (T:=[(179,zY)]) (TP:=[(179,xy)]) (h:=.n) Tryz.func168 rfl zMv ⟨zP,trivial⟩ ⟨xl,trivial⟩ λx=>by kernel_rfl
def oL:lC TS PC:=⟨[.ptr 1 0],(km++h3),k6,λx=>xD x.1 x.2.1⟩
def u9:nC 232 oL:=n8 (T:=[(208,xx),(179,zY)]) (TP:=[(179,xy)]) (h:=.n) Tryz.func232 rfl zMw ⟨xk,zP,trivial⟩ ⟨xl,trivial⟩ λx=>by kernel_rfl
def zg2:lC TS PC:=⟨[.ptr 1 0,.om 9],(km++h3),k6,λx=>UP (jU x)⟩
def zr3:nC 209 zg2:=n8 (T:=[(208,xx),(179,zY),(167,yY),(232,vW)]) (TP:=[(179,xy),(232,oL)]) (h:=.n) Tryz.func209 rfl YZ ⟨xk,zP,yu,wS,trivial⟩ ⟨xl,u9,trivial⟩ λx=>by kernel_rfl
def zuv:lC TS PC:=⟨[.ptr 1 0,.ci .i64 0],(km++h3),k6,λx=>O8 (jU x)⟩
def zDn:nC 172 zuv:=NI (cd:=CD) (nb:=lI) (T:=[(209,UU)]) (TP:=[(209,zg2)]) (h:=.s .n (.s (.j ⟨[(0,.ptr 1 0),(1,dI 16)],((p9 1 2 7000001 3 4 5 6 7 8 9 10)++h3++(p_ 7000001 17)),Bb,[bC]⟩ bd .n) .n)) Tryz.func172 rfl Y0 ⟨zgu,trivial⟩ ⟨zr3,trivial⟩ λx=>by kernel_rfl
def J1:lC TS PC:=⟨[.ptr 1 0,.d .s 17],km,FM,λx=>xI x.1 x.2.1 (o_ x)⟩
def Qb:nC 181 J1:=n8 (T:=[(212,Q2),(179,zY)]) (TP:=[(179,xy)]) (h:=.n) Tryz.func181 rfl zMx ⟨K8,zP,trivial⟩ ⟨xl,trivial⟩ λx=>by kernel_rfl
def oM:lC TS PC:=⟨[.ptr 1 0,dI 17,dI 18],km,k8,λx=>zU x.1 x.2.1 (o_ x).1 (um x)⟩
def Aj:nC 177 oM:=n8 (T:=[(211,vA),(179,zY),(167,yY)]) (TP:=[(179,xy)]) (h:=.s .n (.s .n (.s .n (.s (.j ⟨[(0,.ptr 1 0),(7,dI 17)],rJ,FN,[]⟩ bg .n) .n)))) Tryz.func177 rfl zMy ⟨vX,zP,yu,trivial⟩ ⟨xl,trivial⟩ λx=>by kernel_rfl
def Q7(RK:Nat):lC TS PC:=⟨[.ptr 1 0,dI 17],(km++h3),IJ,λx=>KW RK x.1 x.2.1 (o_ x)⟩
def oN(RK:Nat):lC TS PC:=⟨[.ptr 1 0,dI 17],(km++h3),IJ,λx=>yQ RK x.1 x.2.1 (o_ x)⟩
def uL:∀RK,(Q7 RK).OK aR (nQ PT PC) 231/\(oN RK).OK aR (nQ PT PC) 206
 |0=>⟨(λx r h=>nomatch (show(bh:Option _)=bc r from h)),(λx r h=>nomatch (show(bh:Option _)=bc r from h))⟩
 |RK+1=>⟨(n8 (c:=Q7 (RK+1)) (T:=[(212,Q2),(206,ko KK),(181,uK),(211,vA),(177,vY),(232,vW)]) (TP:=[(206,oN RK),(181,J1),(177,oM),(232,oL)]) (h:=.s .n (.s (.s (.s (.j ⟨[(0,.ptr 1 0),(1,dI 16),(4,.ptr 1000004 0),(10,.d .b 21)],N6,FO,[i6,.b]⟩ bd .n) (.s .n (.s (.j ⟨[(0,.ptr 1 0),(1,dI 16),(4,.ptr 1000004 0),(31,.d .b 21)],N6,FO,[i6,.b]⟩ bd .n) (.s .n (.s (.j ⟨[(0,.ptr 1 0),(4,.ptr 1000004 0),(42,.d .b 20)],zV4,acI,[i6,.b]⟩ bd .n) .n))))) .n) .n)) Tryz.func231 rfl L9 ⟨K8,(Ha KK),qH,vX,vB,wS,trivial⟩ ⟨⟨Y1,(uL RK).2⟩,Qb,Aj,u9,trivial⟩ λx=>by kernel_rfl).2,(n8 (c:=oN (RK+1)) (T:=[(231,A9 KK),(223,HZ),(171,Y2),(206,ko KK)]) (TP:=[(231,Q7 RK),(206,oN RK)]) (h:=.s .n (.s .n (.s (.lr ⟨[(0,.ptr 1 0),(1,dI 16),(4,.ptr 1000004 0),(5,.ptr 1000005 0),(6,dI 21)],zV5,FO,Nb⟩ [] [] [] 999999999 (λx K v=>oG (yQ RK) x.1 (Lj x).1 (o_ x).1 (um x).1 (Ev x) K v) (.s (.s .n (.s (.s .n (.s (.l ⟨[(0,.ptr 1 0),(1,dI 17),(4,.ptr 1000004 0),(5,.ptr 1000005 0),(6,dI 18),(7,.ptr 1000007 0),(16,.d Bj 19),(17,dI 20),(18,dI 29)],(rJ++h3++(CH 21 22 23 24 25 26 27 28 30 31 32)),acJ,k1⟩ [(0,.ptr 1 0),(1,dI 17),(4,.ptr 1000004 0),(5,.ptr 1000005 0),(6,dI 18),(7,.ptr 1000007 0)] (rJ++h3++(CH 21 22 23 24 25 26 27 28 29 30 31)) [.s,i6,i6] 2 (λx K v=>kU x.1 x.2.1 (o_ x).1 (um x).1 (Ev x).1 (Lk x).1 (Ll x).1 (Lm x).1 (Ln x).1 (Lo x).1 (Lp x).1 (Ld x).1 (Le x).1 (Lf x) K v) (.s .n (.s .n (.s (.j ⟨[(0,.ptr 1 0),(1,dI 17),(4,.ptr 1000004 0),(5,.ptr 1000005 0),(6,dI 18),(7,.ptr 1000007 0),(16,.d Bj 19),(17,dI 20),(18,dI 21)],(rJ++h3++(CH 22 23 24 25 26 27 28 29 30 31 32)),acK,[.s,i6,i6]⟩ bd .n) .n)))) .n)) (.s (.s (.j ⟨[(0,.ptr 1 0),(1,dI 17),(4,.ptr 1000004 0),(5,.ptr 1000005 0),(7,.ptr 1000007 0),(51,.d .b 29)],(rJ++h3++(CH 18 19 20 21 22 23 24 25 26 27 28)),acL,[.b]⟩ bd .n) .n) .n))) .n)) .n))) Tryz.func206 rfl Y1 ⟨(zrz KK),J0,Q1,(Ha KK),trivial⟩ ⟨⟨L9,(uL RK).1⟩,⟨Y1,(uL RK).2⟩,trivial⟩ λx=>by kernel_rfl).2⟩
def zg3(RK:Nat):ze aR 206/\(oN RK).OK aR (nQ PT PC) 206:=⟨Y1,(uL RK).2⟩
def OD:lC TS PC:=⟨[.ptr 1 0,.d .b 17,dI 18],km,k7,λx=>HE (F_ x) (Bd x).1 (Bd x).2⟩
def UK:nC 174 OD:=n8 (T:=[(171,Y2),(179,zY)]) (TP:=[(179,xy)]) (h:=.n) Tryz.func174 rfl zMz ⟨Q1,zP,trivial⟩ ⟨xl,trivial⟩ λx=>by kernel_rfl
def zc3:lC TS PC:=⟨[.ptr 1 0],(km++h3),k6,λx=>KX (jU x)⟩
def zny:nC 169 zc3:=n8 (T:=[(172,XR),(181,uK),(206,ko KK),(207,Ai KK),(174,Q3)]) (TP:=[(172,zuv),(181,J1),(206,oN KK),(174,OD)]) (h:=.n) Tryz.func169 rfl zM0 ⟨zus,qH,(Ha KK),(VZ KK),K9,trivial⟩ ⟨zDn,Qb,(zg3 KK),UK,trivial⟩ λx=>by kernel_rfl
def aay:lC TS PC:=⟨[.ptr 1 0,.om 11],(km++h3),k6,λx=>QX (jU x)⟩
def zjv:nC 209 aay:=n8 (T:=[(208,xx),(179,zY),(167,yY),(232,vW)]) (TP:=[(179,xy),(232,oL)]) (h:=.n) Tryz.func209 rfl YZ ⟨xk,zP,yu,wS,trivial⟩ ⟨xl,u9,trivial⟩ λx=>by kernel_rfl
def zg4:lC TS PC:=⟨[.ptr 1 0,.ci .i64 2],(km++h3),k6,λx=>JV (jU x)⟩
def zr4:nC 172 zg4:=NI (cd:=CD) (nb:=lI) (T:=[(209,Q4)]) (TP:=[(209,aay)]) (h:=.s .n (.s (.j ⟨[(0,.ptr 1 0),(1,dI 16)],zV6,Bb,[bC]⟩ bd .n) .n)) Tryz.func172 rfl Y0 ⟨aav,trivial⟩ ⟨zjv,trivial⟩ λx=>by kernel_rfl
def zc4:lC TS PC:=⟨[.ptr 1 0],km,k6,λx=>kV (jU x)⟩
def znz:nC 173 zc4:=n8 (T:=[(177,vY),(211,vA)]) (TP:=[(177,oM)]) (h:=.s .n (.s .n (.s (.lr ⟨[(0,.ptr 1 0),(3,.row 2 7000001)],(Dg++(sV 7000001 93 1 17)),FQ,[i6,gE]⟩ [] [] [] 999999999 (λx K v=>j8 (BB.mk x.1 0 x.2.2.2.1 x.2.2.2.2.1 (nE x).1 (oz x).1 (rX x).1 (sY x).1 (tB x).1 x.2.1 (ui x).1 (uj x).1 (uk x).1 (Ci x).1 (Cj x).1 (Ck x) x.2.2.1) K v) .n) .n))) Tryz.func173 rfl zM1 ⟨vB,vX,trivial⟩ ⟨Aj,trivial⟩ λx=>by kernel_rfl
def aaz:lC TS PC:=⟨[.ptr 1 0,.om 12],(km++h3),k6,λx=>QY (jU x)⟩
def zjw:nC 209 aaz:=n8 (T:=[(208,xx),(179,zY),(167,yY),(232,vW)]) (TP:=[(179,xy),(232,oL)]) (h:=.n) Tryz.func209 rfl YZ ⟨xk,zP,yu,wS,trivial⟩ ⟨xl,u9,trivial⟩ λx=>by kernel_rfl
def zg5:lC TS PC:=⟨[.ptr 1 0,.ci .i64 3],(km++h3),k6,λx=>VU (jU x)⟩
def zr5:nC 172 zg5:=NI (cd:=CD) (nb:=lI) (T:=[(209,Q5)]) (TP:=[(209,aaz)]) (h:=.s .n (.s (.j ⟨[(0,.ptr 1 0),(1,dI 16)],zV7,Bb,[bC]⟩ bd .n) .n)) Tryz.func172 rfl Y0 ⟨aaw,trivial⟩ ⟨zjw,trivial⟩ λx=>by kernel_rfl
def zn0:lC TS PC:=⟨[.ptr 1 0],(km++h3),k6,λx=>HG (jU x)⟩
def zyd:nC 213 zn0:=n8 (T:=[(232,vW),(208,xx)]) (TP:=[(232,oL)]) (h:=.s .n (.s .n (.s (.s (.lr ⟨[(0,.ptr 1 0),(3,.row 1 1000008)],(Dg++h3++[(1000008,.row 9 .s 17 bd)]),FQ,[i6,bH]⟩ [(3,.row 1 1000008)] (Dg++h3++[(1000008,.row 9 .s 17 bd)]) [i6,bH] 0 (λx K v=>oH (BB.mk x.1 0 x.2.2.2.1 x.2.2.2.2.1 (nE x).1 (oz x).1 (rX x).1 (sY x).1 (tB x).1 x.2.1 (ui x).1 (uj x).1 (uk x).1 (Ci x).1 (Cj x).1 (Ck x) x.2.2.1) K v) .n) .n) .n))) Tryz.func213 rfl zM2 ⟨wS,xk,trivial⟩ ⟨u9,trivial⟩ λx=>by kernel_rfl
def H0:lC TS PC:=⟨[.ptr 1 0,.d .s 17],(km++h3),FM,λx=>vJ (F_ x) (Bd x)⟩
def J2:nC 176 H0:=n8 (T:=[(167,yY),(215,LI),(179,zY)]) (TP:=[(179,xy)]) (h:=.s .n (.s .n (.s (.j ⟨[(0,.ptr 1 0),(5,dI 17)],(rJ++h3),FN,[]⟩ bg .n) .n))) Tryz.func176 rfl zM3 ⟨yu,OC,zP,trivial⟩ ⟨xl,trivial⟩ λx=>by kernel_rfl
def zuw:lC TS PC:=⟨[.ptr 1 0],(km++h3),k6,λx=>O9 (jU x)⟩
def zDo:nC 214 zuw:=n8 (T:=[(167,yY),(215,LI),(179,zY),(176,qe)]) (TP:=[(179,xy),(176,H0)]) (h:=.s .n (.s .n (.s (.lr ⟨[(0,.ptr 1 0),(3,dI 17)],(Dg++h3),FQ,[i6,i6]⟩ [] [] [] 999999999 (λx K v=>A3 (BB.mk x.1 0 x.2.2.2.1 x.2.2.2.2.1 (nE x).1 (oz x).1 (rX x).1 (sY x).1 (tB x).1 x.2.1 (ui x).1 (uj x).1 (uk x).1 (Ci x).1 (Cj x).1 (Ck x) x.2.2.1) K v) (.s (.s .n (.s (.s (.j ⟨[(0,.ptr 1 0),(3,dI 17),(4,dI 18),(24,.d .b 19)],(rJ++h3),acM,[.b]⟩ bd .n) .n) (.s (.j ⟨[(0,.ptr 1 0),(3,dI 17)],(rJ++h3),FN,[]⟩ bg .n) .n))) .n)) .n))) Tryz.func214 rfl zM4 ⟨yu,OC,zP,qf,trivial⟩ ⟨xl,J2,trivial⟩ λx=>by kernel_rfl
def zn1:lC TS PC:=⟨[.ptr 1 0],(km++h3),k6,λx=>VV (jU x)⟩
def zye:nC 175 zn1:=n8 (T:=[(172,UY),(212,Q2),(213,W6),(177,vY),(181,uK),(214,XF),(176,qe),(206,ko KK),(207,Ai KK),(174,Q3)]) (TP:=[(172,zg5),(213,zn0),(177,oM),(181,J1),(214,zuw),(176,H0),(206,oN KK),(174,OD)]) (h:=.s .n (.s (.j ⟨[(0,.ptr 1 0),(2,.ptr 1000002 0)],(N7++h3++(zp 23 17 18 18 18 19 18 18 18 20 20 21 18 18 18 18 18 18 18)),Nd,[i6,bH]⟩ bg .n) (.s (.j ⟨[(0,.ptr 1 0),(2,.ptr 1000002 0)],(N7++h3++(zp 17 23 18 18 18 19 18 18 18 20 20 21 18 18 18 18 18 18 18)),Nd,[i6,bH]⟩ bg .n) (.s (.j ⟨[(0,.ptr 1 0),(2,.ptr 1000002 0)],(N8++h3++(zp 17 18 24 19 19 20 19 19 19 21 21 22 19 19 19 19 19 19 19)),acN,[i6,i6]⟩ bg .n) (.s (.j ⟨[(0,.ptr 1 0),(2,.ptr 1000002 0)],zV8,acO,[i6,i6]⟩ bg .n) (.s (.j ⟨[(0,.ptr 1 0),(2,.ptr 1000002 0)],zV9,acP,[i6,i6]⟩ bg .n) (.s .n (.s .n (.s (.j ⟨[(0,.ptr 1 0),(2,.ptr 1000002 0)],(N8++h3++(zp 17 18 19 20 21 22 24 25 26 27 28 29 30 31 32 33 34 35 36)),acQ,acR⟩ bg .n) .n))))))))) Tryz.func175 rfl zM5 ⟨zgz,K8,znv,vB,qH,zuu,qf,(Ha KK),(VZ KK),K9,trivial⟩ ⟨zr5,zyd,Aj,Qb,zDo,J2,(zg3 KK),UK,trivial⟩ λx=>by kernel_rfl
def aaA:lC TS PC:=⟨[.ptr 1 0,.om 13],(km++h3),k6,λx=>zce (jU x)⟩
def zjx:nC 209 aaA:=n8 (T:=[(208,xx),(179,zY),(167,yY),(232,vW)]) (TP:=[(179,xy),(232,oL)]) (h:=.n) Tryz.func209 rfl YZ ⟨xk,zP,yu,wS,trivial⟩ ⟨xl,u9,trivial⟩ λx=>by kernel_rfl
def zg6:lC TS PC:=⟨[.ptr 1 0,.ci .i64 4],(km++h3),k6,λx=>UQ (jU x)⟩
def zr6:nC 172 zg6:=NI (cd:=CD) (nb:=lI) (T:=[(209,Q6)]) (TP:=[(209,aaA)]) (h:=.s .n (.s (.j ⟨[(0,.ptr 1 0),(1,dI 16)],zWa,Bb,[bC]⟩ bd .n) .n)) Tryz.func172 rfl Y0 ⟨aax,trivial⟩ ⟨zjx,trivial⟩ λx=>by kernel_rfl
def UL:lC TS PC:=⟨[.ptr 1 0],(km++h3),k6,λx=>W2 (jU x)⟩
set_option maxHeartbeats 4000000 in
theorem zyf:nC 75 UL:=n8 (T:=[(167,yY),(168,W5),(169,Yh),(171,Y2),(172,UW),(173,Yi),(57,Oz),(174,Q3),(175,W7),(172,UI),(176,qe),(177,vY),(179,zY),(181,uK)]) (TP:=[(168,znx),(169,zc3),(172,zg4),(173,zc4),(174,OD),(175,zn1),(172,zg6),(176,H0),(177,oM),(179,xy),(181,J1),(182,UJ)]) (h:=.s (.lr ⟨[(0,.ptr 1 0)],NF,acS,IK⟩ [] NF IK 0 (λx K v=>yp (BB.mk x.1 0 [] x.2.1 [] [] [] x.2.2.1 x.2.2.2.1 0 [] x.2.2.2.2.1 [] [] [] (nE x) bd) K v) .n) .n) Tryz.func75 rfl zW2 ⟨yu,znr,zcq,Q1,zgw,zcs,UX,K9,znw,zg0,qf,vB,zP,qH,trivial⟩ ⟨zyc,zny,zr4,znz,UK,zye,zr6,J2,Aj,xl,Qb,zg1,trivial⟩ λx=>(by  kernel_rfl)
def aaB:Ct TS:=⟨[.ptr 1 0,.fn 75 [.ptr 1 0] []],(km++h3),k6,.gu [dI 17,dI 18],((Rp 19 20 7001001 7001002 7001003 7001004 21 22 3 23 24 25 7 8 11 15)++h3++(Rs 7001001 26 7001002 27 7001003 28 7001004 29)),[i6,i6,i6,i6,.b,eR,fO,fR,fH,bC,bC,bC,bC],bg,λx=>Af (jU x)⟩
def zjy:aaB.OK aR 74:=λx r h=>by obtain⟨q,h1,h2⟩:=bind_some h;cases h2;exact ni (by kernel_rfl) (zro (F:=hV (oY Qa.hin (yP (S:=TS) Qa.ci x))) (F':=hV (oY Qa.iB (yP (S:=TS) Qa.ci x++yP (S:=TS) Qa.co q))) (a:=.ptr 1 0 0) (pv:=.ptr 1 0 0) (ni (by kernel_rfl) (zDm.2 x q h1)))
def aak:Ct TS:=⟨[.ptr 1 0,.fn 75 [.ptr 1 0] []],(km++h3),k6,.gu [dI 17,dI 18],([(1,.rw 0),(2,.rw 0),(3,.rw 0),(4,.rw 0),(5,.rw 0),(6,.rw 0),(7,.rw 0),(8,.rw 0),(9,.rw 0),(10,.rw 0),(11,.rw 0),(12,.rw 0),(13,.rw 0),(14,.rw 0)]++h3),[i6,i6],bg,λx=>uD (jU x)⟩
def zfa:aak.OK aR 74:=λx r h=>ni (by kernel_rfl) (zm8 (F:=hV (oY UL.hin (yP (S:=TS) UL.ci x))) (a:=.ptr 1 0 0) (pv:=.ptr 1 0 0) (x:=r.1) (y:=r.2) (ni (by kernel_rfl) (zyf.2 x r h)))
def zDp:Ct TS:=⟨[.d .s 0],h3,[.s],.gu [.ag [.row 6 7000002,.row 3 7000003,.row 3 7000004,.row 20 7000005,.row 4 7000006,.row 6 7000007,.d fy 3,dI 4],dI 1,dI 2],[(900000000,.rw 1),(900000001,.rw 2),(900000002,.rw 3),(900000003,.rw 4),(7000001,.box 52 [.row 6 7000002,.row 3 7000003,.row 3 7000004,.row 20 7000005,.row 4 7000006,.row 6 7000007,.d fy 3,dI 4]),(7000002,.row 99 (.st 2) 5 bd),(7000003,.row 107 (.st 4) 6 bd),(7000004,.row 101 (.st 5) 7 bd),(7000005,.row 33 (.st 7) 8 bd),(7000006,.row 115 (.st 8) 9 bd),(7000007,.row 121 (.st 10) 10 bd)],[i6,i6,fy,i6,eR,fN,fO,fR,fH,yy],bd,λx=>JW x⟩
def zJ1:dL 30 zDp:=nD (cd:=l0) (nb:=aeX) (rc:=[(2,7000001,0)]) (T:=[(29,XQ),(74,aaB),(74,aak)]) (h:=.n) Tryz.func30 rfl aji ⟨zur,⟨zW4,zjy⟩,⟨zW4,zfa⟩,trivial⟩ λx=>by kernel_rfl
def W8:Ct TS:=⟨[.d (.st 15) 0],[],[.st 15],.ag [dI 1,.d .s 2,.d .s 3,dI 4,.d .s 5,.d bH 6,.d bH 7,dI 8,dI 9,dI 10,.d .b 11,dI 12,dI 13,dI 14,.d .s 15,.d .s 16,.d bZ 17,dI 18,dI 19,dI 20,dI 21,dI 22,dI 23,dI 24,dI 25,dI 26,.d .s 27,.d .s 28,.d bZ 29,.d gE 30],(Rt 7000001 1 2 3 4 5 6 7 8 9 10 11 12 13 14 15 16 17 18 19 20 21 22 23 24 25 26 27 28 29 30),Sv,bd,λx=>Ag x⟩
def zn2:dL 20 W8:=nD (cd:=l0) (nb:=lI) (rc:=[(2,7000001,0)]) (T:=[]) (h:=.s .n (.s .n (.s .n (.s .n (.s (.j ⟨[(2,.ptr 1000002 0),(4,.ptr 1000004 0)],(acs 1 0 1 2 2 0 0 0 3 0 0 0 1 1 4 0 0 0 0 0 0 0 0 0 1 1 4 5 1000004 6 7 1 9 1 2 2 0 0 0 3 0 0 0 1 1 4 0 0 0 0 0 0 0 0 0 1 1 4 8),[i6,.s,bH,.b,bZ,gE,i6,.s,gE],[i6]⟩ bd .n) .n))))) Tryz.func20 rfl ajb trivial λx=>by kernel_rfl
def QA:Ct TS:=⟨[.d vb 0],[],[vb],.row 4 7000001,(sV 7000001 83 11 1),[vb],bd,λx=>AK x⟩
def zc6:dL 77 QA:=fB (T:=[]) (h:=.n) Tryz.func77 rfl ajW trivial (λx=>match x with|[]=>by kernel_rfl|_::_=>by kernel_rfl)
def zux:Ct TS:=⟨[.row 4 1,dI 1,dI 2],(sV 1 83 11 0),[vb,i6,i6],.d vb 3,[(1,.row 83 (.st 11) 4 bg)],[vb,vb],bd,mI W3⟩
def zDq:zux.OK aR 76:=λx r h=>ni (by kernel_rfl) (zJv x.1 x.2.1 x.2.2 r h)
def zuy:Ct TS:=⟨[.d vb 0],h3,[vb],.gu [.ag [dI 2,.d .s 3,.d .s 4,dI 5,.d .s 6,.d bH 7,.d bH 8,dI 9,dI 10,dI 11,.d .b 12,dI 13,dI 14,dI 15,.d .s 16,.d .s 17,.d bZ 18,dI 19,dI 20,dI 21,dI 22,dI 23,dI 24,dI 25,dI 26,dI 27,.d .s 28,.d .s 29,.d bZ 30,.d gE 31],dI 1],(D1 7000001 2 3 4 5 6 7 8 9 10 11 12 13 14 15 16 17 18 19 20 21 22 23 24 25 26 27 28 29 30 31),acT,bd,λx=>On x⟩
def zDr:dL 31 zuy:=nD (cd:=l0) (nb:=lI) (rc:=[(2,7000001,0)]) (T:=[(77,QA),(76,zux),(21,Gq)]) (h:=.s .n (.s .n (.s .n (.s .n (.s .n (.s (.j ⟨[(0,.d vb 7),(2,.ptr 1000002 0),(5,dI 0),(7,dI 8),(8,dI 9)],(D1 1000002 1 2 2 1 2 3 3 1 1 1 4 1 1 1 2 2 5 1 1 1 1 1 1 1 1 1 2 2 5 6),[i6,i6,.s,bH,.b,bZ,gE],[vb,i6,i6]⟩ bd (.s .n (.s (.s .n (.s (.j ⟨[(0,.d vb 0),(2,.ptr 1000002 0),(5,dI 1),(7,dI 2),(8,dI 3),(37,.d .b 10)],zWc,acU,[.b]⟩ bd .n) .n)) .n))) (.s (.s (.j ⟨[(0,.d vb 0),(2,.ptr 1000002 0),(5,dI 1),(7,dI 2),(8,dI 3),(54,.d .b 10)],zWc,acU,[.b]⟩ bd .n) .n) (.s (.s .n (.s (.lr ⟨[(0,.d vb 0),(2,.ptr 1000002 0),(5,dI 1),(7,dI 2),(8,dI 3),(59,.d vb 4),(60,dI 5),(61,dI 11)],(D1 1000002 12 6 6 13 6 7 7 14 15 16 8 17 18 19 6 6 9 20 21 22 23 24 25 26 27 28 6 6 9 10),[vb,i6,i6,i6,vb,i6,.s,bH,.b,bZ,gE],[i6,i6,i6,i6,i6,i6,i6,i6,i6,i6,i6,i6,i6,i6,i6,i6,i6,i6]⟩ [(0,.d vb 0),(2,.ptr 1000002 0),(5,dI 1),(7,dI 2),(8,dI 3)] (D1 1000002 11 6 6 12 6 7 7 13 14 15 8 16 17 18 6 6 9 19 20 21 22 23 24 25 26 27 6 6 9 10) [i6,i6,i6,i6,i6,i6,i6,i6,i6,i6,i6,i6,i6,i6,i6,i6,i6] 0 (aiC xM) (.s .n (.s .n (.s (.s (.s .n (.s (.j ⟨[(0,.d vb 0),(2,.ptr 1000002 0),(5,dI 1),(7,dI 2),(8,dI 3),(59,.d vb 4),(60,dI 5),(61,dI 6),(73,.d .b 12)],(D1 1000002 13 7 7 14 7 8 8 15 16 17 9 18 19 20 7 7 10 21 22 23 24 25 26 27 28 29 7 7 10 11),[vb,i6,i6,i6,vb,i6,i6,.s,bH,.b,bZ,gE],[.b,i6,i6,i6,i6,i6,i6,i6,i6,i6,i6,i6,i6,i6,i6,i6,i6,i6]⟩ bd .n) .n)) .n) .n)))) .n)) (.s .n (.s (.j ⟨[(2,.ptr 1000002 0),(5,dI 0),(11,.ptr 1000011 0)],(acv 1 2 3 4 5 6 7 8 9 10 11 12 13 14 15 16 17 18 19 20 21 22 0 26 24 25),agC,[.s]⟩ bd .n) (.s (.s (.j ⟨[(2,.ptr 1000002 0),(11,.ptr 1000011 0),(108,.d .b 27)],(acv 0 1 2 3 4 5 6 7 8 9 10 11 12 13 14 15 16 17 18 19 20 21 22 24 25 26),agD,[.b]⟩ bd .n) .n) .n))))))))))) Tryz.func31 rfl ajj ⟨zc6,⟨ajV,zDq⟩,LH,trivial⟩ λx=>by kernel_rfl
def UM:Ct TS:=⟨[.d .s 0],h3,[.s],.gu [.d wZ 1,dI 2],h3,[wZ,i6],bd,λx=>wc x⟩
def zg7:dL 8 UM:=fB (T:=[(29,XQ),(30,zDp),(20,W8),(31,zuy)]) (h:=.s .n (.s .n (.s .n (.s .n (.s .n (.s (.s .n (.s (.l ⟨[(0,.d .s 0),(4,.d vb 1),(7,.row 1 7001001),(8,dI 3),(26,.d vb 1),(27,dI 2),(28,dI 4)],(MY 7001001 5),[.s,vb,i6],[i6,i6,.l vb]⟩ [(0,.d .s 0),(4,.d vb 1),(7,.row 1 7001001),(8,dI 3)] (MY 7001001 4) [i6,.l vb] 0 (mI vw) (.s .n (.s .n (.s (.j ⟨[(0,.d .s 0),(4,.d vb 1),(7,.row 1 7000001),(8,dI 3),(26,.d vb 1),(27,dI 2),(28,dI 4)],(MY 7000001 5),[.s,vb,i6],[i6,i6,.l vb]⟩ bd (.s (.s .n (.s (.j ⟨[(0,.d .s 0),(4,.d vb 1),(7,.row 1 7001001),(8,dI 2),(9,dI 5),(26,.d vb 1),(27,dI 3),(28,dI 6),(40,.d .b 7)],(MY 7001001 4),[.s,vb,i6,i6,.l vb],[i6,i6,.b]⟩ bd .n) .n)) .n)) .n)))) .n)) (.s .n (.s .n (.s (.s .n (.s (.lr ⟨[(0,.d .s 0),(11,.row 30 7002001),(62,.row 1 7001001),(63,dI 1),(64,dI 3)],[(900000000,.rw 1),(900000001,.rw 2),(900000002,.rw 3),(900000003,.rw 4),(7002001,.row 36 (.st 12) 4 bd),(7001001,.row 78 vb 2 bd)],[.s,i6,.l vb],[i6,wZ]⟩ [(11,.row 30 7002001)] [(900000000,.rw 1),(900000001,.rw 2),(900000002,.rw 3),(900000003,.rw 4),(7002001,.row 36 (.st 12) 3 bd)] [wZ] 3 (mI xJ) (.s .n (.s .n (.s (.s (.s .n (.s .n (.s (.j ⟨[(0,.d .s 0),(11,.row 30 7002001),(14,.ptr 1000014 0),(15,dI 5),(62,.row 1 7001001),(63,dI 1),(64,dI 2)],(acw 3 6 7 8 9 10 11 12 13 14 15 16 17 18 19 20 21 22 23 24 25 26 27 28 29 30 31 32 33 34 35 4),[.s,i6,i6,wZ,.l vb],acT⟩ bd (.s .n (.s (.s (.j ⟨[(0,.d .s 0),(11,.row 30 7002001),(13,.d vb 1),(14,.ptr 1000014 0),(62,.row 1 7001001),(63,dI 2),(64,dI 3),(78,.d .b 12)],(acw 4 5 6 6 5 6 7 7 5 5 5 8 5 5 5 6 6 9 5 5 5 5 5 5 5 5 5 6 6 9 10 11),[.s,vb,i6,i6,wZ,i6,.s,bH,.b,bZ,gE,.l vb],[.b]⟩ bd .n) .n) .n))) .n))) .n) .n)))) .n)) .n))))))))) Tryz.func8 rfl ahQ ⟨zur,zJ1,zn2,zDr,trivial⟩ λx=>by kernel_rfl
def UN:Ct TS:=⟨[.d (.st 12) 0],[],[.st 12],.gu [.ag [.d eR 2,.d fN 3,.d fO 4,.d fR 5,.d fH 6,.d yy 7,.d fy 8,dI 9],.d .b 1],[(7000001,.box 52 [.d eR 2,.d fN 3,.d fO 4,.d fR 5,.d fH 6,.d yy 7,.d fy 8,dI 9])],[.b,eR,fN,fO,fR,fH,yy,fy,i6],bd,λx=>jo x⟩
def zg8:dL 18 UN:=nD (cd:=l0) (nb:=lI) (rc:=[(2,7000001,0)]) (T:=[]) (h:=.n) Tryz.func18 rfl ai' trivial λx=>by kernel_rfl
def zn3:Ct TS:=⟨[.d (.st 2) 0],[],[.st 2],.d .s 1,[],[.s],bd,λx=>zna x⟩
def zyg:dL 42 zn3:=fB (T:=[]) (h:=.n) Tryz.func42 rfl ajt trivial λx=>by kernel_rfl
def H5:Ct TS:=⟨[.d bH 0,.d .b 1],h3,[bH,.b],.d .b 2,h3,[.b],bd,ir kW⟩
def Ak:dL 146 H5:=fB (T:=[(21,Gq)]) (h:=.s .n (.s .n (.s (.s .n (.s (.lr ⟨[(1,.d .b 0),(5,.mp 1000008),(9,.d bH 1),(10,dI 2),(11,dI 3)],[(900000000,.rw 1),(900000001,.rw 2),(900000002,.rw 3),(900000003,.rw 4),(1000008,.map .s .b 4)],[.b,bH,i6],[i6,.m .s .b]⟩ [] h3 [] 0 (mI uW) (.s .n (.s .n (.s (.s (.s .n (.s (.s (.j ⟨[(1,.d .b 0),(5,.mp 1000008),(7,.d .s 1),(9,.d bH 2),(10,dI 3),(11,dI 4),(25,.d .b 6)],[(900000000,.rw 1),(900000001,.rw 2),(900000002,.rw 3),(900000003,.rw 4),(1000008,.map .s .b 5)],[.b,.s,bH,i6,i6,.m .s .b],[.b]⟩ bd .n) .n) .n)) .n) .n)))) .n)) .n))) Tryz.func146 rfl zW5 ⟨LH,trivial⟩ λx=>by kernel_rfl
def zuz:Ct TS:=⟨[.d eR 0,dI 1,.fn 42 [] []],h3,[eR,i6],.d .b 2,h3,[.b],bd,ir Oo⟩
def zDs:dL 41 zuz:=fB (T:=[(42,zn3),(146,H5)]) (h:=.s .n (.s .n (.s (.s .n (.s (.l ⟨[(0,.d eR 0),(1,dI 1),(2,.fn 42 [] []),(7,.row 1 7000001),(10,.d eR 0),(11,dI 2),(12,dI 3)],(sB 4),[eR,i6,i6],[i6,bH]⟩ [(0,.d eR 0),(1,dI 1),(7,.row 1 7000001)] (sB 3) [bH] 0 (mI HH) .n) .n)) .n))) Tryz.func41 rfl ajs ⟨zyg,Ak,trivial⟩ λx=>by kernel_rfl
def zn4:Ct TS:=⟨[.d (.st 4) 0],[],[.st 4],.d .s 1,[],[.s],bd,λx=>znb x⟩
def zyh:dL 44 zn4:=fB (T:=[]) (h:=.n) Tryz.func44 rfl ajv trivial λx=>by kernel_rfl
def zg9:Ct TS:=⟨[.d fN 0,dI 1,.fn 44 [] []],h3,[fN,i6],.d .b 2,h3,[.b],bd,ir KY⟩
def zr7:dL 43 zg9:=fB (T:=[(44,zn4),(146,H5)]) (h:=.s .n (.s .n (.s (.s .n (.s (.l ⟨[(0,.d fN 0),(1,dI 1),(2,.fn 44 [] []),(7,.row 1 7000001),(10,.d fN 0),(11,dI 2),(12,dI 3)],(sB 4),[fN,i6,i6],[i6,bH]⟩ [(0,.d fN 0),(1,dI 1),(7,.row 1 7000001)] (sB 3) [bH] 0 (mI uE) .n) .n)) .n))) Tryz.func43 rfl aju ⟨zyh,Ak,trivial⟩ λx=>by kernel_rfl
def zn5:Ct TS:=⟨[.d (.st 5) 0],[],[.st 5],.d .s 1,[],[.s],bd,λx=>znc x⟩
def zyi:dL 46 zn5:=fB (T:=[]) (h:=.n) Tryz.func46 rfl ajx trivial λx=>by kernel_rfl
def zha:Ct TS:=⟨[.d fO 0,dI 1,.fn 46 [] []],h3,[fO,i6],.d .b 2,h3,[.b],bd,ir KZ⟩
def zr8:dL 45 zha:=fB (T:=[(46,zn5),(146,H5)]) (h:=.s .n (.s .n (.s (.s .n (.s (.l ⟨[(0,.d fO 0),(1,dI 1),(2,.fn 46 [] []),(7,.row 1 7000001),(10,.d fO 0),(11,dI 2),(12,dI 3)],(sB 4),[fO,i6,i6],[i6,bH]⟩ [(0,.d fO 0),(1,dI 1),(7,.row 1 7000001)] (sB 3) [bH] 0 (mI uF) .n) .n)) .n))) Tryz.func45 rfl ajw ⟨zyi,Ak,trivial⟩ λx=>by kernel_rfl
def zn6:Ct TS:=⟨[.d (.st 7) 0],[],[.st 7],.d .s 1,[],[.s],bd,λx=>znd x⟩
def zyj:dL 48 zn6:=fB (T:=[]) (h:=.n) Tryz.func48 rfl ajz trivial λx=>by kernel_rfl
def zhb:Ct TS:=⟨[.d fR 0,dI 1,.fn 48 [] []],h3,[fR,i6],.d .b 2,h3,[.b],bd,ir K1⟩
def zr9:dL 47 zhb:=fB (T:=[(48,zn6),(146,H5)]) (h:=.s .n (.s .n (.s (.s .n (.s (.l ⟨[(0,.d fR 0),(1,dI 1),(2,.fn 48 [] []),(7,.row 1 7000001),(10,.d fR 0),(11,dI 2),(12,dI 3)],(sB 4),[fR,i6,i6],[i6,bH]⟩ [(0,.d fR 0),(1,dI 1),(7,.row 1 7000001)] (sB 3) [bH] 0 (mI uG) .n) .n)) .n))) Tryz.func47 rfl ajy ⟨zyj,Ak,trivial⟩ λx=>by kernel_rfl
def zn7:Ct TS:=⟨[.d (.st 8) 0],[],[.st 8],.d .s 1,[],[.s],bd,λx=>zne x⟩
def zyk:dL 50 zn7:=fB (T:=[]) (h:=.n) Tryz.func50 rfl ajB trivial λx=>by kernel_rfl
def zhc:Ct TS:=⟨[.d fH 0,dI 1,.fn 50 [] []],h3,[fH,i6],.d .b 2,h3,[.b],bd,ir K2⟩
def zsa:dL 49 zhc:=fB (T:=[(50,zn7),(146,H5)]) (h:=.s .n (.s .n (.s (.s .n (.s (.l ⟨[(0,.d fH 0),(1,dI 1),(2,.fn 50 [] []),(7,.row 1 7000001),(10,.d fH 0),(11,dI 2),(12,dI 3)],(sB 4),[fH,i6,i6],[i6,bH]⟩ [(0,.d fH 0),(1,dI 1),(7,.row 1 7000001)] (sB 3) [bH] 0 (mI uH) .n) .n)) .n))) Tryz.func49 rfl ajA ⟨zyk,Ak,trivial⟩ λx=>by kernel_rfl
def zn8:Ct TS:=⟨[.d (.st 10) 0],[],[.st 10],.d .s 1,[],[.s],bd,λx=>znf x⟩
def zyl:dL 52 zn8:=fB (T:=[]) (h:=.n) Tryz.func52 rfl ajD trivial λx=>by kernel_rfl
def zhd:Ct TS:=⟨[.d yy 0,dI 1,.fn 52 [] []],h3,[yy,i6],.d .b 2,h3,[.b],bd,ir K3⟩
def zsb:dL 51 zhd:=fB (T:=[(52,zn8),(146,H5)]) (h:=.s .n (.s .n (.s (.s .n (.s (.l ⟨[(0,.d yy 0),(1,dI 1),(2,.fn 52 [] []),(7,.row 1 7000001),(10,.d yy 0),(11,dI 2),(12,dI 3)],(sB 4),[yy,i6,i6],[i6,bH]⟩ [(0,.d yy 0),(1,dI 1),(7,.row 1 7000001)] (sB 3) [bH] 0 (mI uI) .n) .n)) .n))) Tryz.func51 rfl ajC ⟨zyl,Ak,trivial⟩ λx=>by kernel_rfl
def LD(RK:Nat):Ct TS:=⟨[.d (.st 0) 0,dI 1],h3,[.st 0,i6],.d .b 2,h3,[.b],bd,λx=>yb RK x.1 x.2⟩
def zn9:∀RK,(LD RK).OK aR 147
 |0=>(λx r h=>nomatch (show(bh:Option _)=bc r from h))
 |RK+1=>(fB (c:=LD (RK+1)) (T:=[(21,Gq),(147,LD RK)]) (h:=.s .n (.s (.s (.j ⟨[(1,dI 0),(2,.ptr 1000002 0),(20,.d .b 6)],acx,Nc,[.b]⟩ bd .n) .n) (.s .n (.s .n (.s (.j ⟨[(1,dI 0),(2,.ptr 1000002 0),(5,.ptr 1000005 0),(6,dI 6)],(Ru 1 2 3 4 5 9),Nc,[i6,i6,.s,.s]⟩ bg (.s .n (.s (.s .n (.s .n (.s (.j ⟨[(1,dI 0),(2,.ptr 1000002 0),(5,.ptr 1000005 0),(6,dI 1),(27,dI 2),(35,.d .b 9)],(Ru 2 3 4 5 6 8),[i6,i6,i6,i6,.s,.s,bZ,i6,.s],[.b]⟩ bd .n) (.s .n (.s .n (.s .n (.s (.j ⟨[(1,dI 0),(2,.ptr 1000002 0),(5,.ptr 1000005 0),(6,dI 1),(27,dI 2),(53,.d .b 9)],(Ru 2 3 4 5 6 8),[i6,i6,i6,i6,.s,.s,bZ,i6,.s],[.b]⟩ bd .n) .n))))))) .n))) (.s (.s (.j ⟨[(1,dI 0),(2,.ptr 1000002 0),(98,.d .b 6)],acx,Nc,[.b]⟩ bd .n) .n) (.s (.s .n (.s (.lr ⟨[(1,dI 0),(100,.d bZ 1),(101,dI 2),(102,dI 3)],h3,[i6,bZ,i6],[i6]⟩ [] h3 [] 1 (λx K v=>xw (yb RK) x.1 x.2.1 x.2.2 K v) .n) .n)) .n))))))) Tryz.func147 rfl Tx ⟨LH,⟨Tx,(zn9 RK)⟩,trivial⟩ λx=>by kernel_rfl).2
def zJ2(RK:Nat):ze aR 147/\(LD RK).OK aR 147:=⟨Tx,(zn9 RK)⟩
def Q8:Ct TS:=⟨[.d (.st 0) 0],h3,[.st 0],.d .b 1,h3,[.b],bd,λx=>kX x⟩
def aaJ:dL 53 Q8:=fB (T:=[(147,LD KK)]) (h:=.n) Tryz.func53 rfl ajE ⟨(zJ2 KK),trivial⟩ λx=>by kernel_rfl
def zoa:Ct TS:=⟨[.d (.st 3) 0],[],[.st 3],.d .s 1,[],[.s],bd,λx=>zng x⟩
def zym:dL 55 zoa:=fB (T:=[]) (h:=.n) Tryz.func55 rfl ajG trivial λx=>by kernel_rfl
def zhe:Ct TS:=⟨[.d mg 0,dI 1,.fn 55 [] []],h3,[mg,i6],.d .b 2,h3,[.b],bd,ir K4⟩
def zsc:dL 54 zhe:=fB (T:=[(55,zoa),(146,H5)]) (h:=.s .n (.s .n (.s (.s .n (.s (.l ⟨[(0,.d mg 0),(1,dI 1),(2,.fn 55 [] []),(7,.row 1 7000001),(10,.d mg 0),(11,dI 2),(12,dI 3)],(sB 4),[mg,i6,i6],[i6,bH]⟩ [(0,.d mg 0),(1,dI 1),(7,.row 1 7000001)] (sB 3) [bH] 0 (mI uJ) .n) .n)) .n))) Tryz.func54 rfl ajF ⟨zym,Ak,trivial⟩ λx=>by kernel_rfl
def WR:Ct TS:=⟨[dI 0,dI 1,.d (.l i6) 2],[],[i6,i6,.l i6],.d .b 3,[],[.b],bd,mI zX⟩
def zob:dL 56 WR:=fB (T:=[]) (h:=.s .n (.s (.s .n (.s (.lr ⟨[(0,dI 0),(1,dI 1),(9,.d (.l i6) 2),(10,dI 3),(11,dI 4)],[],[i6,i6,.l i6,i6],[i6]⟩ [] [] [] 0 (ac5 oI) (.s .n (.s .n (.s (.s (.s .n (.s (.j ⟨[(0,dI 0),(1,dI 1),(9,.d (.l i6) 2),(10,dI 3),(11,dI 4),(22,.d .b 5)],[],[i6,i6,.l i6,i6,i6],[.b]⟩ bd .n) .n)) .n) .n)))) .n)) .n)) Tryz.func56 rfl ajH trivial λx=>by kernel_rfl
def QB:Ct TS:=⟨[.d bH 0,.d bH 1],[],[bH,bH],.d .b 2,[],[.b],bd,ir js⟩
def zda:dL 190 QB:=fB (T:=[]) (h:=.s .n (.s .n (.s (.s .n (.s (.lr ⟨[(0,.d bH 0),(1,.d bH 1),(12,dI 2),(13,dI 3)],[],[bH,bH,i6],[i6]⟩ [] [] [] 0 (mI kY) .n) .n)) .n))) Tryz.func190 rfl zW6 trivial λx=>by kernel_rfl
def kp(RK:Nat):Ct TS:=⟨[.d bZ 0,.d bZ 1,.fn 128 [] []],[],[bZ,bZ],.d .b 2,[],[.b],bd,λx=>vh RK x.1 x.2⟩
def oa(RK:Nat):Ct TS:=⟨[.d (.st 0) 0,.d (.st 0) 1],[],[.st 0,.st 0],.d .b 2,[],[.b],bd,λx=>vK RK x.1 x.2⟩
def ji:∀RK,(kp RK).OK aR 189/\(oa RK).OK aR 128
 |0=>⟨(λx r h=>nomatch (show(bh:Option _)=bc r from h)),(λx r h=>nomatch (show(bh:Option _)=bc r from h))⟩
 |RK+1=>⟨(fB (c:=kp (RK+1)) (T:=[(128,oa RK)]) (h:=.s .n (.s .n (.s (.s .n (.s (.lr ⟨[(1,.d bZ 0),(2,.fn 128 [] []),(15,.d bZ 1),(16,dI 2),(17,dI 3)],[],[bZ,bZ,i6],[i6]⟩ [] [] [] 0 (λx K v=>vx (vK RK) x.1 x.2.1 x.2.2 K v) .n) .n)) .n))) Tryz.func189 rfl zM6 ⟨⟨Ty,(ji RK).2⟩,trivial⟩ λx=>by kernel_rfl).2,(fB (c:=oa (RK+1)) (T:=[(189,kp RK)]) (h:=.n) Tryz.func128 rfl Ty ⟨⟨zM6,(ji RK).1⟩,trivial⟩ λx=>by kernel_rfl).2⟩
def zdb(RK:Nat):ze aR 128/\(oa RK).OK aR 128:=⟨Ty,(ji RK).2⟩
def Yl:Ct TS:=⟨[.d (.st 7) 0,.d (.st 7) 1],[],[.st 7,.st 7],.d .b 2,[],[.b],bd,ir kZ⟩
def zdc:dL 138 Yl:=fB (T:=[(190,QB),(128,oa KK)]) (h:=.s .n (.s (.s (.j ⟨[(2,.ptr 1000002 0),(3,.ptr 1000003 0),(27,.d .b 40)],Um,Sw,[.b]⟩ bd .n) .n) (.s (.j ⟨[(2,.ptr 1000002 0),(3,.ptr 1000003 0),(5,.d .b 40)],Um,Sw,[.b]⟩ bd .n) .n))) Tryz.func138 rfl zW7 ⟨zda,(zdb KK),trivial⟩ λx=>by kernel_rfl
def zdd:Ct TS:=⟨[.d (.st 7) 0],h3,[.st 7],.d .b 1,h3,[.b],bd,λx=>oJ x⟩
def zoc:dL 58 zdd:=fB (T:=[(146,H5),(56,WR),(53,Q8),(138,Yl)]) (h:=.s .n (.s (.s (.j ⟨[(1,.ptr 1000001 0),(37,.d .b 20)],[(900000000,.rw 1),(900000001,.rw 2),(900000002,.rw 3),(900000003,.rw 4),(1000001,.box 33 [.d .s 0,.d bH 1,.d bH 2,dI 3,dI 4,dI 5,.d .b 6,dI 7,dI 8,dI 9,.d .s 10,.d .s 11,.d bZ 12,dI 13,dI 14,dI 15,dI 16,dI 17,dI 18,dI 19])],Sx,[.b]⟩ bd .n) .n) (.s .n (.s .n (.s (.j ⟨[(1,.ptr 1000001 0),(3,.ptr 1000003 0),(4,.d .b 20)],[(900000000,.rw 1),(900000001,.rw 2),(900000002,.rw 3),(900000003,.rw 4),(1000001,.box 33 [.d .s 0,.d bH 1,.d bH 2,dI 3,dI 4,dI 5,.d .b 6,dI 7,dI 8,dI 9,.d .s 10,.d .s 11,.d bZ 12,dI 13,dI 14,dI 15,dI 16,dI 17,dI 18,dI 19]),(1000003,.box 33 [.d .s 0,.d bH 1,.d bH 2,dI 3,dI 4,dI 5,.d .b 6,dI 7,dI 21,dI 22,.d .s 23,.d .s 24,.d bZ 25,dI 26,dI 27,dI 28,dI 29,dI 30,dI 31,dI 32])],Sx,[.b,i6,i6,.s,.s,bZ,i6,i6,i6,i6,i6,i6,i6]⟩ bd .n) .n))))) Tryz.func58 rfl ajJ ⟨Ak,zob,aaJ,zdc,trivial⟩ λx=>by kernel_rfl
def Ym:Ct TS:=⟨[.d (.st 15) 0],h3,[.st 15],.d .b 1,h3,[.b],bd,λx=>HI x⟩
def V3:dL 19 Ym:=fB (T:=[(41,zuz),(43,zg9),(45,zha),(47,zhb),(49,zhc),(51,zhd),(53,Q8),(54,zhe),(56,WR),(57,Oz),(58,zdd)]) (h:=.s .n (.s (.s (.j ⟨[(1,.ptr 1000001 0),(54,.d .b 8)],(mU 1000001 0 1 2 3 4 5 6 7),k2,[.b]⟩ bd .n) .n) (.s (.s .n (.s (.lr ⟨[(1,.ptr 1000001 0),(56,.d eR 0),(57,dI 1),(58,dI 9)],(mU 1000001 0 2 3 4 5 6 7 8),acV,[i6]⟩ [(1,.ptr 1000001 0)] (mU 1000001 0 2 3 4 5 6 7 8) [] 0 (rY uX) .n) .n)) (.s (.s .n (.s (.lr ⟨[(1,.ptr 1000001 0),(68,.d fN 0),(69,dI 1),(70,dI 9)],(mU 1000001 2 0 3 4 5 6 7 8),acW,[i6]⟩ [(1,.ptr 1000001 0)] (mU 1000001 2 0 3 4 5 6 7 8) [] 2 (rY qa) (.s .n (.s .n (.s (.s (.s .n (.s (.s (.j ⟨[(1,.ptr 1000001 0),(6,.ptr 1000006 0),(68,.d fN 0),(69,dI 1),(70,dI 2),(84,.d .b 13)],[(900000000,.rw 1),(900000001,.rw 2),(900000002,.rw 3),(900000003,.rw 4),(1000001,.box 52 [.d eR 3,.d fN 0,.d fO 4,.d fR 5,.d fH 6,.d yy 7,.d fy 8,dI 9]),(1000006,.box 107 [.d .s 10,.d mg 11,dI 12])],[fN,i6,i6,eR,fO,fR,fH,yy,fy,i6,.s,mg,i6],[.b]⟩ bd .n) .n) (.s .n (.s (.lr ⟨[(1,.ptr 1000001 0),(68,.d fN 0),(69,dI 1),(70,dI 2),(86,.d mg 3),(87,dI 4),(88,dI 12)],(mU 1000001 5 0 6 7 8 9 10 11),[fN,i6,i6,mg,i6,eR,fO,fR,fH,yy,fy,i6],[i6]⟩ [(1,.ptr 1000001 0),(68,.d fN 0),(69,dI 1),(70,dI 2)] (mU 1000001 5 0 6 7 8 9 10 11) [] 4 (ND A4) .n) .n)))) .n) .n)))) .n)) (.s (.s .n (.s (.lr ⟨[(1,.ptr 1000001 0),(100,.d fO 0),(101,dI 1),(102,dI 9)],(mU 1000001 2 3 0 4 5 6 7 8),acX,[i6]⟩ [(1,.ptr 1000001 0)] (mU 1000001 2 3 0 4 5 6 7 8) [] 6 (rY uY) .n) .n)) (.s (.s .n (.s (.lr ⟨[(1,.ptr 1000001 0),(112,.d fR 0),(113,dI 1),(114,dI 9)],(mU 1000001 2 3 4 0 5 6 7 8),acY,[i6]⟩ [(1,.ptr 1000001 0)] (mU 1000001 2 3 4 0 5 6 7 8) [] 8 (rY uZ) .n) .n)) (.s (.s .n (.s (.lr ⟨[(1,.ptr 1000001 0),(123,.d fH 0),(124,dI 1),(125,dI 9)],(mU 1000001 2 3 4 5 0 6 7 8),acZ,[i6]⟩ [(1,.ptr 1000001 0)] (mU 1000001 2 3 4 5 0 6 7 8) [] 10 (rY u0) (.s .n (.s .n (.s (.s (.s .n (.s (.j ⟨[(1,.ptr 1000001 0),(123,.d fH 0),(124,dI 1),(125,dI 2),(146,.d .b 10)],(mU 1000001 3 4 5 6 0 7 8 9),[fH,i6,i6,eR,fN,fO,fR,yy,fy,i6],[.b]⟩ bd .n) .n)) .n) .n)))) .n)) (.s (.s .n (.s (.lr ⟨[(1,.ptr 1000001 0),(149,.d yy 0),(150,dI 1),(151,dI 9)],(mU 1000001 2 3 4 5 6 0 7 8),ac0,[i6]⟩ [(1,.ptr 1000001 0)] (mU 1000001 2 3 4 5 6 0 7 8) [] 12 (rY qb) (.s .n (.s .n (.s (.s (.s .n (.s (.s (.j ⟨[(1,.ptr 1000001 0),(16,.ptr 1000016 0),(149,.d yy 0),(150,dI 1),(151,dI 2),(167,.d .b 16)],[(900000000,.rw 1),(900000001,.rw 2),(900000002,.rw 3),(900000003,.rw 4),(1000001,.box 52 [.d eR 3,.d fN 4,.d fO 5,.d fR 6,.d fH 7,.d yy 0,.d fy 8,dI 9]),(1000016,.box 121 [.d .s 10,dI 11,dI 12,dI 13,dI 14,.d fy 15])],[yy,i6,i6,eR,fN,fO,fR,fH,fy,i6,.s,i6,i6,i6,i6,fy],[.b]⟩ bd .n) .n) (.s .n (.s (.lr ⟨[(1,.ptr 1000001 0),(149,.d yy 0),(150,dI 1),(151,dI 2),(173,.row 3 1000170),(174,dI 3),(175,dI 12)],(acz 4 5 6 7 8 9 10 11),[yy,i6,i6,i6,eR,fN,fO,fR,fH,fy,i6,fy],[i6]⟩ [(1,.ptr 1000001 0),(149,.d yy 0),(150,dI 1),(151,dI 2)] (mU 1000001 4 5 6 7 8 0 9 10) [] 14 (ND A5) (.s .n (.s .n (.s (.s (.s .n (.s (.j ⟨[(1,.ptr 1000001 0),(149,.d yy 0),(150,dI 1),(151,dI 2),(173,.row 3 1000170),(174,dI 3),(175,dI 4),(192,.d .b 13)],(acz 5 6 7 8 9 10 11 12),[yy,i6,i6,i6,i6,eR,fN,fO,fR,fH,fy,i6,fy],[.b]⟩ bd .n) .n)) .n) .n)))) .n)))) .n) .n)))) .n)) (.s (.s .n (.s (.lr ⟨[(1,.ptr 1000001 0),(196,.d fy 0),(197,dI 1),(198,dI 9)],(mU 1000001 2 3 4 5 6 7 0 8),ac1,[i6]⟩ [(1,.ptr 1000001 0)] (mU 1000001 2 3 4 5 6 7 0 8) [] 16 (rY u5) (.s .n (.s .n (.s (.s (.s .n (.s (.j ⟨[(1,.ptr 1000001 0),(196,.d fy 0),(197,dI 1),(198,dI 2),(215,.d .b 10)],(mU 1000001 3 4 5 6 7 8 0 9),[fy,i6,i6,eR,fN,fO,fR,fH,yy,i6],[.b]⟩ bd .n) .n)) .n) .n)))) .n)) .n))))))))) Tryz.func19 rfl aja ⟨zDs,zr7,zr8,zr9,zsa,zsb,aaJ,zsc,zob,UX,zoc,trivial⟩ λx=>by kernel_rfl
def jA:Ct TS:=⟨[.d gE 0,.d gE 1],[],[gE,gE],.d .b 2,[],[.b],bd,ir xG⟩
def qg:dL 40 jA:=fB (T:=[]) (h:=.s .n (.s .n (.s (.s .n (.s (.lr ⟨[(0,.d gE 0),(1,.d gE 1),(12,dI 2),(13,dI 3)],[],[gE,gE,i6],[i6]⟩ [] [] [] 0 (mI jE) .n) .n)) .n))) Tryz.func40 rfl ajr trivial λx=>by kernel_rfl
def zu0:Ct TS:=⟨[.d (.st 2) 0,.d (.st 2) 1],[],[.st 2,.st 2],.d .b 2,[],[.b],bd,ir Oq⟩
def zDt:dL 127 zu0:=fB (T:=[(128,oa KK)]) (h:=.n) Tryz.func127 rfl zW8 ⟨(zdb KK),trivial⟩ λx=>by kernel_rfl
def ab8:Ct TS:=⟨[.d eR 0,.d eR 1,.fn 127 [] []],[],[eR,eR],.d .b 2,[],[.b],bd,ir xS⟩
def ad_:dL 135 ab8:=fB (T:=[(127,zu0)]) (h:=.s .n (.s .n (.s (.s .n (.s (.lr ⟨[(1,.d eR 0),(2,.fn 127 [] []),(15,.d eR 1),(16,dI 2),(17,dI 3)],[],[eR,eR,i6],[i6]⟩ [] [] [] 0 (mI wG) .n) .n)) .n))) Tryz.func135 rfl zW9 ⟨zDt,trivial⟩ λx=>by kernel_rfl
def Js:Ct TS:=⟨[.d mg 0,.d mg 1],[],[mg,mg],.d .b 2,[],[.b],bd,ir jy⟩
def aeP:dL 130 Js:=fB (T:=[]) (h:=.s .n (.s .n (.s (.s .n (.s (.lr ⟨[(0,.d mg 0),(1,.d mg 1),(12,dI 2),(13,dI 3)],[],[mg,mg,i6],[i6]⟩ [] [] [] 0 (mI jF) .n) .n)) .n))) Tryz.func130 rfl zXa trivial λx=>by kernel_rfl
def zu1:Ct TS:=⟨[.d (.st 4) 0,.d (.st 4) 1],[],[.st 4,.st 4],.d .b 2,[],[.b],bd,ir Ot⟩
def zDu:dL 129 zu1:=fB (T:=[(130,Js)]) (h:=.n) Tryz.func129 rfl zXb ⟨aeP,trivial⟩ λx=>by kernel_rfl
def ab9:Ct TS:=⟨[.d fN 0,.d fN 1,.fn 129 [] []],[],[fN,fN],.d .b 2,[],[.b],bd,ir xT⟩
def ad':dL 136 ab9:=fB (T:=[(129,zu1)]) (h:=.s .n (.s .n (.s (.s .n (.s (.lr ⟨[(1,.d fN 0),(2,.fn 129 [] []),(15,.d fN 1),(16,dI 2),(17,dI 3)],[],[fN,fN,i6],[i6]⟩ [] [] [] 0 (mI wH) .n) .n)) .n))) Tryz.func136 rfl zXc ⟨zDu,trivial⟩ λx=>by kernel_rfl
def ab_:Ct TS:=⟨[.d fR 0,.d fR 1,.fn 138 [] []],[],[fR,fR],.d .b 2,[],[.b],bd,ir xU⟩
def aea:dL 137 ab_:=fB (T:=[(138,Yl)]) (h:=.s .n (.s .n (.s (.s .n (.s (.lr ⟨[(1,.d fR 0),(2,.fn 138 [] []),(15,.d fR 1),(16,dI 2),(17,dI 3)],[],[fR,fR,i6],[i6]⟩ [] [] [] 0 (mI wI) .n) .n)) .n))) Tryz.func137 rfl zXd ⟨zdc,trivial⟩ λx=>by kernel_rfl
def zu2:Ct TS:=⟨[.d (.st 5) 0,.d (.st 5) 1],[],[.st 5,.st 5],.d .b 2,[],[.b],bd,ir Ou⟩
def zDv:dL 131 zu2:=fB (T:=[(40,jA)]) (h:=.n) Tryz.func131 rfl zXe ⟨qg,trivial⟩ λx=>by kernel_rfl
def ab':Ct TS:=⟨[.d fO 0,.d fO 1,.fn 131 [] []],[],[fO,fO],.d .b 2,[],[.b],bd,ir xV⟩
def aeb:dL 139 ab':=fB (T:=[(131,zu2)]) (h:=.s .n (.s .n (.s (.s .n (.s (.lr ⟨[(1,.d fO 0),(2,.fn 131 [] []),(15,.d fO 1),(16,dI 2),(17,dI 3)],[],[fO,fO,i6],[i6]⟩ [] [] [] 0 (mI wJ) .n) .n)) .n))) Tryz.func139 rfl zXf ⟨zDv,trivial⟩ λx=>by kernel_rfl
def zu3:Ct TS:=⟨[.d (.st 8) 0,.d (.st 8) 1],[],[.st 8,.st 8],.d .b 2,[],[.b],bd,ir Ov⟩
def zDw:dL 132 zu3:=fB (T:=[(40,jA)]) (h:=.n) Tryz.func132 rfl zXg ⟨qg,trivial⟩ λx=>by kernel_rfl
def aca:Ct TS:=⟨[.d fH 0,.d fH 1,.fn 132 [] []],[],[fH,fH],.d .b 2,[],[.b],bd,ir xW⟩
def aec:dL 140 aca:=fB (T:=[(132,zu3)]) (h:=.s .n (.s .n (.s (.s .n (.s (.lr ⟨[(1,.d fH 0),(2,.fn 132 [] []),(15,.d fH 1),(16,dI 2),(17,dI 3)],[],[fH,fH,i6],[i6]⟩ [] [] [] 0 (mI wK) .n) .n)) .n))) Tryz.func140 rfl zXh ⟨zDw,trivial⟩ λx=>by kernel_rfl
def qS:Ct TS:=⟨[.d fy 0,.d fy 1],[],[fy,fy],.d .b 2,[],[.b],bd,ir wR⟩
def Hb:dL 134 qS:=fB (T:=[]) (h:=.s .n (.s .n (.s (.s .n (.s (.lr ⟨[(0,.d fy 0),(1,.d fy 1),(12,dI 2),(13,dI 3)],[],[fy,fy,i6],[i6]⟩ [] [] [] 0 (mI jG) .n) .n)) .n))) Tryz.func134 rfl zXi trivial λx=>by kernel_rfl
def zu4:Ct TS:=⟨[.d (.st 10) 0,.d (.st 10) 1],[],[.st 10,.st 10],.d .b 2,[],[.b],bd,ir Ow⟩
def zDx:dL 133 zu4:=fB (T:=[(134,qS)]) (h:=.n) Tryz.func133 rfl zXj ⟨Hb,trivial⟩ λx=>by kernel_rfl
def acb:Ct TS:=⟨[.d yy 0,.d yy 1,.fn 133 [] []],[],[yy,yy],.d .b 2,[],[.b],bd,ir xX⟩
def aed:dL 141 acb:=fB (T:=[(133,zu4)]) (h:=.s .n (.s .n (.s (.s .n (.s (.lr ⟨[(1,.d yy 0),(2,.fn 133 [] []),(15,.d yy 1),(16,dI 2),(17,dI 3)],[],[yy,yy,i6],[i6]⟩ [] [] [] 0 (mI wL) .n) .n)) .n))) Tryz.func141 rfl zXk ⟨zDx,trivial⟩ λx=>by kernel_rfl
def TA:Ct TS:=⟨[.d (.st 15) 0,.d (.st 15) 1],[],[.st 15,.st 15],.d .b 2,[],[.b],bd,ir L7⟩
def zDz:dL 36 TA:=fB (T:=[(135,ab8),(136,ab9),(137,ab_),(139,ab'),(140,aca),(141,acb),(134,qS)]) (h:=.s .n (.s .n (.s .n (.s .n (.s .n (.s .n (.s (.j ⟨[(2,.ptr 1000002 0),(3,.ptr 1000003 0),(7,.fn 131 [] []),(8,.fn 132 [] []),(9,.fn 133 [] []),(10,.d .b 16)],tb,B9,[.b]⟩ bd .n) (.s (.j ⟨[(2,.ptr 1000002 0),(3,.ptr 1000003 0),(10,.d .b 0),(11,.d .b 17)],Gb,[.b,eR,fN,fO,fR,fH,yy,fy,i6,eR,fN,fO,fR,fH,yy,fy,i6],[.b]⟩ bd .n) .n)))))))) Tryz.func36 rfl ajo ⟨ad_,ad',aea,aeb,aec,aed,Hb,trivial⟩ λx=>by kernel_rfl
def OE:Ct TS:=⟨[.d (.st 12) 0,.d (.st 12) 1],[],[.st 12,.st 12],.d .b 2,[],[.b],bd,ir qt⟩
def U3:dL 15 OE:=fB (T:=[(40,jA),(36,TA)]) (h:=.s .n (.s (.j ⟨[(2,.ptr 1000002 0),(3,.ptr 1000003 0),(5,.d .b 60)],NG,Sy,[.b]⟩ bd .n) .n)) Tryz.func15 rfl ai9 ⟨qg,zDz,trivial⟩ λx=>by kernel_rfl
def oO:Ct TS:=⟨[.d (.st 12) 0],h3,[.st 12],.d .b 1,h3,[.b],bd,λx=>vy x⟩
def oc:dL 6 oO:=fB (T:=[(18,UN),(19,Ym),(20,W8),(15,OE),(21,Gq)]) (h:=.s .n (.s .n (.s (.s (.j ⟨[(1,.ptr 1000001 0),(36,.d .b 30)],(D1 1000001 0 1 2 3 4 5 6 7 8 9 10 11 12 13 14 15 16 17 18 19 20 21 22 23 24 25 26 27 28 29),Sv,[.b]⟩ bd .n) .n) .n))) Tryz.func6 rfl ahO ⟨zg8,V3,zn2,U3,LH,trivial⟩ λx=>by kernel_rfl
def zdf:Ct TS:=⟨[.d (.st 12) 0],h3,[.st 12],.d .b 1,h3,[.b],bd,λx=>HJ x⟩
def zod:dL 23 zdf:=fB (T:=[(6,oO)]) (h:=.n) Tryz.func23 rfl aje ⟨oc,trivial⟩ λx=>by kernel_rfl
def Al:Ct TS:=⟨[.d wZ 0,.fn 23 [] []],h3,[wZ],dI 1,h3,[i6],bd,λx=>j9 x⟩
def aek:dL 61 Al:=fB (T:=[(23,zdf)]) (h:=.s .n (.s (.s .n (.s (.lr ⟨[(0,.d wZ 0),(1,.fn 23 [] []),(7,dI 1),(8,dI 2)],h3,[wZ,i6],[i6]⟩ [] h3 [] 0 (ir yt) .n) .n)) .n)) Tryz.func61 rfl ajM ⟨zod,trivial⟩ λx=>by kernel_rfl
def ab1:Ct TS:=⟨[.d wZ 0,.fn 23 [] []],h3,[wZ],.d .b 1,h3,[.b],bd,λx=>xK x⟩
def aef:dL 22 ab1:=fB (T:=[(61,Al)]) (h:=.n) Tryz.func22 rfl ajd ⟨aek,trivial⟩ λx=>by kernel_rfl
def Yo:Ct TS:=⟨[.ptr 1 0],[(1,.gn 1 .s 0)],[.s],.d .s 1,[(1,.gn 1 .s 0)],[.s],bd,λx=>A6 x⟩
def zdg:Yo.OK aR 28:=λx r h=>by
 cases h;exact ni (by kernel_rfl) (WJ (T:=134) 1 x)
def WS:Ct TS:=⟨[.ptr 1 0,.d (.i .u8) 1],[(1,.gn 1 .s 0)],[.s,.i .u8],.lJ,[(1,.gn 1 .s 2)],[.s],bd,ir HK⟩
def zoe:WS.OK aR 153:=λx r h=>ni (by kernel_rfl) (zV3 T6 x.1 x.2 r h)
def zD0:Ct TS:=⟨[.ptr 1 0,.d .s 1],[(1,.gn 1 .s 0)],[.s,.s],.gu [dI 2,.lJ],[(1,.gn 1 .s 3)],[i6,.s],bd,ir oK⟩
def zJ3:zD0.OK aR 26:=λx r h=>by obtain⟨_,h1,h2⟩:=bind_some h;cases h2;exact ni (by kernel_rfl) (XM T6 1 x.1 x.2 (yD h1))
def Ma:Ct TS:=⟨[dI 0],h3,[i6],.d .s 1,h3,[.s],bd,λx=>Jk x⟩
def O2:Ma.OK aR 69:=λx r h=>ni (by kernel_rfl) (zVf x r h)
def Yp:Ct TS:=⟨[.ptr 1 0,.d (.l (.a 3 9)) 1],(nc 1 0),[.s,.l (.a 3 9)],.gu [],(nc 1 2),[.s],bd,ir yc⟩
def V4:dL 62 Yp:=fB (T:=[(28,Yo),(153,WS),(26,zD0),(69,Ma)]) (h:=.s .n (.s (.l ⟨[(0,.ptr 1 0),(9,.d (.l (.a 3 9)) 0),(10,dI 1),(11,dI 3)],(nc 1 2),[.l (.a 3 9),i6],[.s,i6]⟩ [] (nc 1 2) [.s] 0 (ir u6) (.s .n (.s .n (.s (.j ⟨[(0,.ptr 1 0),(9,.d (.l (.a 3 9)) 0),(10,dI 1),(11,dI 2)],(nc 1 3),[.l (.a 3 9),i6,i6],[.s]⟩ bd (.s (.s .n (.s (.j ⟨[(0,.ptr 1 0),(5,.d (.a 3 9) 0),(9,.d (.l (.a 3 9)) 1),(10,dI 2),(11,dI 3)],(nc 1 4),[.a 3 9,.l (.a 3 9),i6,i6],[.s]⟩ bd (.s .n (.s (.j ⟨[(0,.ptr 1 0),(5,.d (.a 3 9) 1),(9,.d (.l (.a 3 9)) 2),(10,dI 3),(11,dI 4),(28,.d .b 5)],(nc 1 0),[.s,.a 3 9,.l (.a 3 9),i6,i6],[.b]⟩ bd .n) .n))) (.s .n (.s (.s .n (.s .n (.s .n (.s (.s .n (.s (.j ⟨[(0,.ptr 1 0),(8,dI 4),(9,.d (.l (.a 3 9)) 0),(10,dI 1),(11,dI 2)],(nc 1 3),[.l (.a 3 9),i6,i6],[.s,i6]⟩ bd .n) .n)) .n)))) .n)))) .n)) .n)))) .n)) Tryz.func62 rfl ajN ⟨⟨GA,zdg⟩,⟨zM7,zoe⟩,⟨JD,zJ3⟩,⟨N3,O2⟩,trivial⟩ λx=>by kernel_rfl
def zu5:Ct TS:=⟨[.d (.st 0) 0],[],[.st 0],.gu [dI 1,.d .s 2],[],[i6,.s],bd,λx=>Ox x⟩
def zD1:dL 198 zu5:=fB (T:=[(223,HZ)]) (h:=.s .n (.s (.s .n (.s (.lr ⟨[(1,.ptr 1000001 0),(6,.d Bj 0),(7,dI 1),(8,dI 7)],(qB 1000001 2 3 4 5 6),[Bj,i6,i6,i6,.s,.s,bZ],[i6]⟩ [(1,.ptr 1000001 0)] (qB 1000001 2 3 4 5 6) [] 0 (SO HM) .n) .n)) .n)) Tryz.func198 rfl zXl ⟨J0,trivial⟩ λx=>by kernel_rfl
def Yb:Ct TS:=⟨[.ptr 1 0,.d .s 1],[(1,.gn 0 .s 0)],[.s,.s],.gu [dI 2,.lJ],[(1,.gn 0 .s 3)],[i6,.s],bd,ir yz⟩
def Z7:Yb.OK aR 26:=λx r h=>by obtain⟨_,h1,h2⟩:=bind_some h;cases h2;exact ni (by kernel_rfl) (XM NL 1 x.1 x.2 (yD h1))
def O3(RK:Nat):Ct TS:=⟨[.ptr 1 0,.d (.st 0) 1,dI 2],(nc 0 0),[.s,.st 0,i6],.gu [],(nc 0 3),[.s],bd,λx=>xN RK x.1 x.2.1 x.2.2⟩
def zog:∀RK,(O3 RK).OK aR 154
 |0=>(λx r h=>nomatch (show(bh:Option _)=bc r from h))
 |RK+1=>zJk (T:=[(198,zu5),(26,Yb),(69,Ma),(154,O3 RK)]) (cd:=l0) (kk:=KK) (nb:=lI) (rs:=[]) (D:=aaS) (k0:=1) (hB:=.s (.s .n (.s .n (.s .n (.s .n (.s .n (.s .n (.s .n (.s .n (.s .n (.s (.s .n (.s (.l ⟨[(0,.ptr 1 0),(4,.ptr 1000004 0),(90,.row 1 1000090),(91,dI 0),(92,dI 8)],acA,[i6,i6,i6,.s,.s,bZ,bH],[.s,i6]⟩ [] (nc 0 7) [.s] 1 (λx K v=>jP (xN RK) x.1 x.2.1 x.2.2.1 x.2.2.2.1 x.2.2.2.2.1 (nE x).1 (oz x) K v) .n) .n)) (.s .n (.s .n (.s .n (.s .n (.s .n (.s (.j ⟨[(0,.ptr 1 0),(4,.ptr 1000004 0),(6,dI 1),(7,.d .s 2),(10,dI 8)],acB,[.s,i6,.s,i6,i6,.s,.s,bZ],[i6]⟩ bd .n) .n)))))))))))))))) .n) (hB':=.s (.s .n (.s .n (.s .n (.s .n (.s .n (.s .n (.s .n (.s .n (.s .n (.s (.s .n (.s (.l ⟨[(0,.ptr 1 0),(4,.ptr 1000004 0),(90,.row 1 1000090),(91,dI 0),(92,dI 8)],acA,[i6,i6,i6,.s,.s,bZ,bH],[.s,i6]⟩ [] (nc 0 7) [.s] 1 (λx K v=>jQ (xN RK) x.1 x.2.1 x.2.2.1 x.2.2.2.1 x.2.2.2.2.1 (nE x).1 (oz x) K v) .n) .n)) (.s .n (.s .n (.s .n (.s .n (.s .n (.s (.j ⟨[(0,.ptr 1 0),(4,.ptr 1000004 0),(6,dI 1),(7,.d .s 2),(10,dI 8)],acB,[.s,i6,.s,i6,i6,.s,.s,bZ],[i6]⟩ bd .n) .n)))))))))))))))) .n) Ez Tryz.func154 rfl EA ⟨zD1,⟨JD,Z7⟩,⟨N3,O2⟩,⟨zM8,(zog RK)⟩,trivial⟩ rfl (by kernel_rfl) rfl aiZ zJl (λx=>by kernel_rfl) (λx=>by kernel_rfl)
def zJ4(RK:Nat):ze aR 154/\(O3 RK).OK aR 154:=⟨zM8,(zog RK)⟩
def uR:Ct TS:=⟨[.ptr 1 0],[(1,.gn 0 .s 0)],[.s],.d .s 1,[(1,.gn 0 .s 0)],[.s],bd,λx=>kN x⟩
def Hu:uR.OK aR 28:=λx r h=>by
 cases h;exact ni (by kernel_rfl) (WJ (T:=69) 1 x)
def LQ:Ct TS:=⟨[.ptr 1 0],(nc 1 0),[.s],.gu [],(nc 1 1),[.s],bd,λx=>qc x⟩
def OF:dL 64 LQ:=fB (T:=[(62,Yp),(153,WS)]) (h:=.n) Tryz.func64 rfl ajP ⟨V4,⟨zM7,zoe⟩,trivial⟩ λx=>by kernel_rfl
def WT:Ct TS:=⟨[.ptr 1 0,.d (.st 0) 1],(nc 1 0),[.s,.st 0],.gu [],(nc 1 2),[.s],bd,ir K5⟩
def zoh:dL 63 WT:=fB (T:=[(154,O3 KK),(28,uR),(62,Yp),(64,LQ)]) (h:=.n) Tryz.func63 rfl ajO ⟨(zJ4 KK),⟨GA,Hu⟩,V4,OF,trivial⟩ λx=>by kernel_rfl
def zhf:Ct TS:=⟨[.ptr 1 0,.d gE 1],(nc 1 0),[.s,gE],.gu [],(nc 1 2),[.s],bd,ir A7⟩
def zsd:dL 65 zhf:=fB (T:=[(62,Yp),(64,LQ)]) (h:=.s (.s .n (.s (.l ⟨[(0,.ptr 1 0),(6,.d gE 0),(7,dI 1),(8,dI 3)],(nc 1 2),[gE,i6],[.s,i6]⟩ [(0,.ptr 1 0)] (nc 1 2) [.s] 0 (ir xL) .n) .n)) .n) Tryz.func65 rfl ajQ ⟨V4,OF,trivial⟩ λx=>by kernel_rfl
def zNa:Ct TS:=⟨[.d bH 0,.d .s 1],[],[bH,.s],.d .s 2,[],[.s],bd,ir L8⟩
def zQ8:zNa.OK aR 155:=λx r h=>ni (by kernel_rfl) (J.zVo x.1 x.2 r h)
def zu6:Ct TS:=⟨[.ptr 1 0,.d (.st 7) 1],(nc 1 0),[.s,.st 7],.gu [],(nc 1 2),[.s],bd,ir Oy⟩
def zD2:dL 66 zu6:=fB (T:=[(62,Yp),(155,zNa),(67,OB),(63,WT),(64,LQ)]) (h:=.s .n (.s .n (.s (.s .n (.s (.l ⟨[(0,.ptr 1 0),(3,.ptr 1000003 0),(22,.row 1 1000022),(23,dI 0),(24,dI 23)],(acC 22 1 2 3 4 5 6 7 8 9 10 11 12 13 14 15 16 17 18 19 20 21),[i6,.s,bH,bH,i6,i6,i6,.b,i6,i6,i6,.s,.s,bZ,i6,i6,i6,i6,i6,i6,i6,.l bH],[.s,i6]⟩ [(0,.ptr 1 0),(3,.ptr 1000003 0)] (Ry 22 1 2 3 4 5 6 7 8 9 10 11 12 13 14 15 16 17 18 19 20) [.s] 0 (ZH jH) (.s .n (.s .n (.s (.j ⟨[(0,.ptr 1 0),(3,.ptr 1000003 0),(22,.row 1 1000022),(23,dI 0),(24,dI 1)],(acC 23 2 3 4 5 6 7 8 9 10 11 12 13 14 15 16 17 18 19 20 21 22),[i6,i6,.s,bH,bH,i6,i6,i6,.b,i6,i6,i6,.s,.s,bZ,i6,i6,i6,i6,i6,i6,i6,.l bH],[.s]⟩ bd .n) .n)))) .n)) (.s (.s .n (.s (.l ⟨[(0,.ptr 1 0),(3,.ptr 1000003 0),(50,.row 1 1000050),(51,dI 0),(52,dI 23)],(acD 22 1 2 3 4 5 6 7 8 9 10 11 12 13 14 15 16 17 18 19 20 21),[i6,.s,bH,bH,i6,i6,i6,.b,i6,i6,i6,.s,.s,bZ,i6,i6,i6,i6,i6,i6,i6,.l i6],[.s,i6]⟩ [(0,.ptr 1 0),(3,.ptr 1000003 0)] (Ry 22 1 2 3 4 5 6 7 8 9 10 11 12 13 14 15 16 17 18 19 20) [.s] 2 (ZH vz) (.s .n (.s .n (.s (.j ⟨[(0,.ptr 1 0),(3,.ptr 1000003 0),(50,.row 1 1000050),(51,dI 0),(52,dI 1)],(acD 23 2 3 4 5 6 7 8 9 10 11 12 13 14 15 16 17 18 19 20 21 22),[i6,i6,.s,bH,bH,i6,i6,i6,.b,i6,i6,i6,.s,.s,bZ,i6,i6,i6,i6,i6,i6,i6,.l i6],[.s]⟩ bd .n) .n)))) .n)) (.s (.j ⟨[(0,.ptr 1 0),(3,.ptr 1000003 0)],(Ry 20 0 1 2 3 4 5 6 7 8 9 10 11 12 13 14 15 16 17 18 19),Sx,[.s]⟩ bd .n) (.s .n (.s .n (.s (.j ⟨[(0,.ptr 1 0)],(nc 1 0),[],[.s]⟩ bg (.s .n (.s (.s .n (.s .n (.s .n (.s .n (.s .n (.s .n (.s .n (.s (.s .n (.s .n (.s (.l ⟨[(0,.ptr 1 0),(3,.ptr 1000003 0),(140,.row 1 103008000),(141,dI 0),(142,dI 23)],(acE 22 1 2 3 4 5 6 7 8 9 10 11 12 13 14 15 16 17 18 19 20 21),[i6,.s,bH,bH,i6,i6,i6,.b,i6,i6,i6,.s,.s,bZ,i6,i6,i6,i6,i6,i6,i6,bH],[.s,i6]⟩ [(0,.ptr 1 0)] (nc 1 22) [.s] 5 (ZH xO) (.s .n (.s .n (.s (.j ⟨[(0,.ptr 1 0),(3,.ptr 1000003 0),(140,.row 1 103008000),(141,dI 0),(142,dI 1)],(acE 23 2 3 4 5 6 7 8 9 10 11 12 13 14 15 16 17 18 19 20 21 22),[i6,i6,.s,bH,bH,i6,i6,i6,.b,i6,i6,i6,.s,.s,bZ,i6,i6,i6,i6,i6,i6,i6,bH],[.s]⟩ bd .n) .n)))) .n))) .n)))))))) .n))) .n)))))))) Tryz.func66 rfl ajR ⟨V4,⟨Tv,zQ8⟩,⟨Un,UZ⟩,zoh,OF,trivial⟩ λx=>by kernel_rfl
def zD3:Ct TS:=⟨[.ptr 1 0],[(1,.gn 1 .s 0)],[.s],dI 1,[(1,.gn 1 .s 0)],[i6],bd,λx=>XO x⟩
def zJ5:zD3.OK aR 27:=λx r h=>by
 cases h;exact ni (by kernel_rfl) (zCp (T:=134) 1 x)
def zD4:Ct TS:=⟨[.d (.st 15) 0],h3,[.st 15],.gu [.d .s 1,dI 2],h3,[.s,i6],bd,λx=>QZ x⟩
def zJ6:dL 24 zD4:=fB (T:=[(19,Ym),(62,Yp),(63,WT),(64,LQ),(65,zhf),(66,zu6),(67,OB),(27,zD3),(28,Yo)]) (h:=.s .n (.s .n (.s .n (.s (.s .n (.s (.l ⟨[(1,.ptr 1000001 0),(4,.ptr 1000028 0),(30,.d eR 0),(31,dI 1),(32,dI 9)],(qJ 0 2 3 4 5 6 7 8 10),acV,[i6,.s]⟩ [(1,.ptr 1000001 0),(4,.ptr 1000028 0)] (qJ 0 2 3 4 5 6 7 8 9) [.s] 0 (rY vL) .n) .n)) (.s (.s .n (.s (.l ⟨[(1,.ptr 1000001 0),(4,.ptr 1000028 0),(50,.d fN 0),(51,dI 1),(52,dI 9)],(qJ 2 0 3 4 5 6 7 8 10),acW,[i6,.s]⟩ [(1,.ptr 1000001 0),(4,.ptr 1000028 0)] (qJ 2 0 3 4 5 6 7 8 9) [.s] 2 (rY vN) (.s .n (.s .n (.s (.s (.s .n (.s .n (.s (.s .n (.s (.l ⟨[(1,.ptr 1000001 0),(4,.ptr 1000028 0),(8,.ptr 1000008 0),(50,.d fN 0),(51,dI 1),(52,dI 2),(64,.d mg 3),(65,dI 4),(66,dI 14)],(acF 15),[fN,i6,i6,mg,i6,eR,fO,fR,fH,yy,fy,i6,.s,i6],[i6,.s]⟩ [(1,.ptr 1000001 0),(4,.ptr 1000028 0),(8,.ptr 1000008 0),(50,.d fN 0),(51,dI 1),(52,dI 2)] (acF 14) [.s] 4 (aiD vM) .n) .n)) .n))) .n) .n)))) .n)) (.s (.s .n (.s (.l ⟨[(1,.ptr 1000001 0),(4,.ptr 1000028 0),(91,.d fO 0),(92,dI 1),(93,dI 9)],(qJ 2 3 0 4 5 6 7 8 10),acX,[i6,.s]⟩ [(1,.ptr 1000001 0),(4,.ptr 1000028 0)] (qJ 2 3 0 4 5 6 7 8 9) [.s] 6 (rY vO) (.s .n (.s .n (.s (.s (.s .n (.s .n (.s (.j ⟨[(1,.ptr 1000001 0),(4,.ptr 1000028 0),(12,.ptr 1000012 0),(13,.d .s 14),(91,.d fO 0),(92,dI 1),(93,dI 2)],[(900000000,.rw 1),(900000001,.rw 2),(900000002,.rw 3),(900000003,.rw 4),(1000001,.box 52 [.d eR 3,.d fN 4,.d fO 0,.d fR 5,.d fH 6,.d yy 7,.d fy 8,dI 9]),(1000028,.gn 1 .s 10),(1000012,.box 101 [.d .s 11,.d .b 12,.d gE 13])],[fO,i6,i6,eR,fN,fR,fH,yy,fy,i6,.s,.s,.b,gE],[.s]⟩ bd .n) .n))) .n) .n)))) .n)) (.s (.s .n (.s (.l ⟨[(1,.ptr 1000001 0),(4,.ptr 1000028 0),(113,.d fR 0),(114,dI 1),(115,dI 9)],(qJ 2 3 4 0 5 6 7 8 10),acY,[i6,.s]⟩ [(1,.ptr 1000001 0),(4,.ptr 1000028 0)] (qJ 2 3 4 0 5 6 7 8 9) [.s] 8 (rY vP) .n) .n)) (.s (.s .n (.s (.l ⟨[(1,.ptr 1000001 0),(4,.ptr 1000028 0),(124,.d fH 0),(125,dI 1),(126,dI 9)],(qJ 2 3 4 5 0 6 7 8 10),acZ,[i6,.s]⟩ [(1,.ptr 1000001 0),(4,.ptr 1000028 0)] (qJ 2 3 4 5 0 6 7 8 9) [.s] 10 (rY vQ) .n) .n)) (.s (.s .n (.s (.l ⟨[(1,.ptr 1000001 0),(4,.ptr 1000028 0),(152,.d yy 0),(153,dI 1),(154,dI 9)],(qJ 2 3 4 5 6 0 7 8 10),ac0,[i6,.s]⟩ [(1,.ptr 1000001 0),(4,.ptr 1000028 0)] (qJ 2 3 4 5 6 0 7 8 9) [.s] 12 (rY vS) (.s .n (.s .n (.s (.s (.s .n (.s .n (.s (.s .n (.s (.l ⟨[(1,.ptr 1000001 0),(4,.ptr 1000028 0),(152,.d yy 0),(153,dI 1),(154,dI 2),(183,.d fy 3),(184,dI 4),(185,dI 12)],(qJ 5 6 7 8 9 0 10 11 13),[yy,i6,i6,fy,i6,eR,fN,fO,fR,fH,fy,i6],[i6,.s]⟩ [(1,.ptr 1000001 0),(4,.ptr 1000028 0),(152,.d yy 0),(153,dI 1),(154,dI 2)] (qJ 5 6 7 8 9 0 10 11 12) [.s] 14 (ND vR) .n) .n)) .n))) .n) .n)))) .n)) (.s (.s .n (.s (.l ⟨[(1,.ptr 1000001 0),(4,.ptr 1000028 0),(206,.d fy 0),(207,dI 1),(208,dI 9)],(qJ 2 3 4 5 6 7 0 8 10),ac1,[i6,.s]⟩ [(1,.ptr 1000001 0),(4,.ptr 1000028 0)] (qJ 2 3 4 5 6 7 0 8 9) [.s] 16 (rY vT) .n) .n)) (.s (.j ⟨[(1,.ptr 1000001 0),(4,.ptr 1000028 0)],(qJ 0 1 2 3 4 5 6 7 8),k2,[.s]⟩ bd .n) (.s (.j ⟨[(4,.ptr 1000028 0)],(Ih 1000028 1 0),[],[.s]⟩ bd .n) .n)))))))))))) Tryz.func24 rfl ajf ⟨V3,V4,zoh,OF,zsd,zD2,⟨Un,UZ⟩,⟨zXm,zJ5⟩,⟨GA,zdg⟩,trivial⟩ λx=>by kernel_rfl
def zoi:Ct TS:=⟨[.d .s 0,.d .s 1,.d .s 2,dI 3],h3,[.s,.s,.s,i6],.d .s 4,h3,[.s],bd,ac5 VW⟩
def zyn:zoi.OK aR 68:=λx r h=>ni (by kernel_rfl) (zCu x.1 x.2.1 x.2.2.1 x.2.2.2 r h)
def zu7:Ct TS:=⟨[.d (.st 12) 0],h3,[.st 12],.d .s 1,h3,[.s],bd,λx=>ka x⟩
def zD5:dL 25 zu7:=fB (T:=[(69,Ma),(68,zoi)]) (h:=.n) Tryz.func25 rfl ajg ⟨⟨N3,O2⟩,⟨ajS,zyn⟩,trivial⟩ λx=>by kernel_rfl
def zD6:Ct TS:=⟨[.ptr 1 0],[(1,.gn 0 .s 0)],[.s],dI 1,[(1,.gn 0 .s 0)],[i6],bd,λx=>O_ x⟩
def zJ7:zD6.OK aR 27:=λx r h=>by
 cases h;exact ni (by kernel_rfl) (zCp (T:=69) 1 x)
def U4:Ct TS:=⟨[.d wZ 0],h3,[wZ],.gu [.d .s 1,dI 2],h3,[.s,i6],bd,λx=>jt x⟩
def zhg:dL 7 U4:=fB (T:=[(22,ab1),(6,oO),(18,UN),(24,zD4),(25,zu7),(26,Yb),(27,zD6),(28,uR)]) (h:=.s .n (.s (.s (.j ⟨[(0,.d wZ 0),(19,.d .b 1)],h3,[wZ],[.b]⟩ bd .n) .n) (.s .n (.s .n (.s (.s .n (.s (.lr ⟨[(4,.ptr 1000004 0),(5,dI 2),(20,.d wZ 0),(21,dI 1),(22,dI 3)],(Ih 1000004 0 4),[wZ,i6],[i6,i6,.s]⟩ [(4,.ptr 1000004 0),(5,dI 2)] (Ih 1000004 0 3) [i6,.s] 0 (ir yN) (.s .n (.s .n (.s (.s (.s .n (.s .n (.s .n (.s (.j ⟨[(4,.ptr 1000004 0),(5,dI 4),(8,.d .s 5),(20,.d wZ 0),(21,dI 1),(22,dI 2)],(Ih 1000004 0 3),[wZ,i6,i6,.s],[i6,.s]⟩ bd .n) .n)))) .n) .n)))) .n)) (.s (.s (.j ⟨[(4,.ptr 1000004 0),(52,.d .b 1)],(Ih 1000004 0 0),[.s],[.b]⟩ bd .n) .n) .n)))))) Tryz.func7 rfl ahP ⟨aef,oc,zg8,zJ6,zD5,⟨JD,Z7⟩,⟨zXm,zJ7⟩,⟨GA,Hu⟩,trivial⟩ λx=>by kernel_rfl
def qT:Ct TS:=⟨[.d eR 0],[],[eR],.row 6 7000001,(sV 7000001 99 2 1),[eR],bd,λx=>qP x⟩
def Hc:dL 104 qT:=fB (T:=[]) (h:=.n) Tryz.func104 rfl zXn trivial (λx=>match x with|[]=>by kernel_rfl|_::_=>by kernel_rfl)
def acd:Ct TS:=⟨[.row 6 1,.fn 88 [] [.ptr 2 0]],NH,agE,dI 31,NH,[i6],bd,λx=>ab5 x.1 (I6 x.2)⟩
def aee:dL 183 acd:=fB (T:=[]) (h:=.s .n (.s (.s .n (.s (.l ⟨[(0,.row 6 1),(1,.fn 88 [] [.ptr 2 0]),(7,dI 31),(8,dI 32)],NH,agF,[]⟩ [] NH [] 0 (λx K v=>abJ (EB.mk x.2.1 x.2.2.1 x.2.2.2.1 x.2.2.2.2.1 (nE x).1 (oz x).1 (rX x).1 (sY x).1 (tB x).1 (ui x).1 (uj x).1 (uk x).1 (Ci x).1 (Cj x).1 (Ck x).1 (Lj x).1 (o_ x).1 (um x).1 (Ev x).1 (Lk x).1 (Ll x).1 (Lm x).1 (Ln x).1 (Lo x).1 (Lp x).1 (Ld x).1 (Le x).1 (Lf x).1 (Zq x).1 (Zr x).1) x.1 (Zs x).1 (Zt x) K v) .n) .n)) .n)) Tryz.func183 rfl zM9 trivial λx=>by kernel_rfl
def zdj:Ct TS:=⟨[.rp 6 1 1 0,.ptr 2 0],(Rz 0 2 3 4 5 6 7 8 9 10 11 12 13 14 15 16 17 18 19 20 21 22 23 24 25 26 27 28 29 30 31),agG,.gu [],(Rz 32 2 3 4 5 6 7 8 9 10 11 12 13 14 15 16 17 18 19 20 21 22 23 24 25 26 27 28 29 30 31),[eR],bd,λx=>zcg x.1 x.2.1 (I6 x.2.2)⟩
def zoj:dL 89 zdj:=fB (T:=[]) (h:=.n) Tryz.func89 rfl ajY trivial λx=>by kernel_rfl
def zD7:Ct TS:=⟨[.d eR 0,.fn 88 [] [.ptr 1 0],.fn 89 [] [.ptr 1 0],dI 31],Dh,agH,.gu [.d eR 32,dI 33],Dh,[eR,i6],bd,λx=>zC4 x.1 (toEB x.2) (rEB x.2)⟩
def zJ8:dL 87 zD7:=nD (cd:=cdR) (nb:=lI) (rc:=[]) (T:=[(104,qT),(183,acd),(89,zdj)]) (h:=.s .n (.s .n (.s .n (.s (.j ⟨[(0,.row 6 103001300),(2,.fn 89 [] [.ptr 1 0]),(10,dI 30)],[(1,.box 36 [dI 0,.d .s 1,.d .s 2,dI 3,.d .s 4,.d bH 5,.d bH 6,dI 7,dI 8,dI 9,.d .b 10,dI 11,dI 12,dI 13,.d .s 14,.d .s 15,.d bZ 16,dI 17,dI 18,dI 19,dI 20,dI 21,dI 22,dI 23,dI 24,dI 25,.d .s 26,.d .s 27,.d bZ 28,.d gE 29]),(103001300,.row 99 (.st 2) 31 bd)],Sv,[i6,eR]⟩ bg .n) .n)))) Tryz.func87 rfl ajX ⟨Hc,aee,zoj,trivial⟩ λx=>by kernel_rfl
def ace:Ct TS:=⟨[.d fH 0,.fn 102 [] [.ptr 1 0]],Dh,Sz,dI 31,Dh,[i6],bd,λx=>ab6 x.1 (I6 x.2)⟩
def aeg:dL 188 ace:=fB (T:=[]) (h:=.s .n (.s (.s .n (.s (.l ⟨[(0,.d fH 30),(1,.fn 102 [] [.ptr 1 0]),(7,dI 31),(8,dI 32)],zWb,agI,[]⟩ [] zWb [] 0 (λx K v=>abK (EB.mk x.1 x.2.1 x.2.2.1 x.2.2.2.1 x.2.2.2.2.1 (nE x).1 (oz x).1 (rX x).1 (sY x).1 (tB x).1 (ui x).1 (uj x).1 (uk x).1 (Ci x).1 (Cj x).1 (Ck x).1 (Lj x).1 (o_ x).1 (um x).1 (Ev x).1 (Lk x).1 (Ll x).1 (Lm x).1 (Ln x).1 (Lo x).1 (Lp x).1 (Ld x).1 (Le x).1 (Lf x).1 (Zq x).1) (Zr x).1 (Zs x).1 (Zt x) K v) .n) .n)) .n)) Tryz.func188 rfl zXo trivial λx=>by kernel_rfl
def abN:Ct TS:=⟨[.d fH 0,.fn 102 [] [.ptr 1 0]],Dh,Sz,.d .b 31,Dh,[.b],bd,λx=>abL x.1 (I6 x.2)⟩
def ad9:dL 186 abN:=fB (T:=[(188,ace)]) (h:=.n) Tryz.func186 rfl zXp ⟨aeg,trivial⟩ λx=>by kernel_rfl
def aaK:Ct TS:=⟨[.d fH 0,.fn 102 [] [.ptr 1 0],.fn 103 [] [.ptr 1 0]],Dh,Sz,.gu [.d fH 31,dI 32],Dh,[fH,i6],bd,λx=>aaH x.1 (I6 x.2)⟩
def zj5:dL 101 aaK:=fB (T:=[(186,abN)]) (h:=.n) Tryz.func101 rfl zXq ⟨ad9,trivial⟩ λx=>by kernel_rfl
def zok:Ct TS:=⟨[.d (.st 15) 0,.d (.st 12) 1],[],[.st 15,.st 12],.gu [.ag [.d eR 3,.d fN 4,.d fO 5,.d fR 6,.d fH 7,.d yy 8,.d fy 9,dI 10],dI 2],[(7000001,.box 52 [.d eR 3,.d fN 4,.d fO 5,.d fR 6,.d fH 7,.d yy 8,.d fy 9,dI 10])],Nf,bd,ir znj⟩
def zyo:dL 32 zok:=nD (cd:=l0) (nb:=lI) (rc:=[(4,7000001,0)]) (T:=[(87,zD7),(101,aaK)]) (h:=.s .n (.s .n (.s .n (.s (.j ⟨[(2,.ptr 1000002 0),(4,.ptr 1000004 0),(6,dI 14)],(Rw 15 0 1 2 16 3 4 5 1000004 6 7 8 9 10 11 12 13),[fN,fO,fR,yy,fy,i6,eR,fN,fO,fR,fH,yy,fy,i6],[i6,eR,fH]⟩ bd .n) .n)))) Tryz.func32 rfl ajk ⟨zJ8,zj5,trivial⟩ λx=>by kernel_rfl
def Jt:Ct TS:=⟨[.d fN 0],[],[fN],.row 3 7000001,(sV 7000001 107 4 1),[fN],bd,λx=>Jl x⟩
def aeQ:dL 105 Jt:=fB (T:=[]) (h:=.n) Tryz.func105 rfl zXr trivial (λx=>match x with|[]=>by kernel_rfl|_::_=>by kernel_rfl)
def Ju:Ct TS:=⟨[.d fO 0],[],[fO],.row 3 7000001,(sV 7000001 101 5 1),[fO],bd,λx=>Jm x⟩
def aeR:dL 106 Ju:=fB (T:=[]) (h:=.n) Tryz.func106 rfl zXs trivial (λx=>match x with|[]=>by kernel_rfl|_::_=>by kernel_rfl)
def Jv:Ct TS:=⟨[.d fR 0],[],[fR],.row 20 7000001,(sV 7000001 33 7 1),[fR],bd,λx=>Jn x⟩
def aeS:dL 107 Jv:=fB (T:=[]) (h:=.n) Tryz.func107 rfl zXt trivial (λx=>match x with|[]=>by kernel_rfl|_::_=>by kernel_rfl)
def Jw:Ct TS:=⟨[.d fH 0],[],[fH],.row 4 7000001,(sV 7000001 115 8 1),[fH],bd,λx=>Jo x⟩
def aeT:dL 108 Jw:=fB (T:=[]) (h:=.n) Tryz.func108 rfl zXu trivial (λx=>match x with|[]=>by kernel_rfl|_::_=>by kernel_rfl)
def Jx:Ct TS:=⟨[.d yy 0],[],[yy],.row 6 7000001,(sV 7000001 121 10 1),[yy],bd,λx=>Jp x⟩
def aeU:dL 109 Jx:=fB (T:=[]) (h:=.n) Tryz.func109 rfl zXv trivial (λx=>match x with|[]=>by kernel_rfl|_::_=>by kernel_rfl)
def Jy:Ct TS:=⟨[.d fy 0],[],[fy],.d fy 1,[],[fy],bd,λx=>qQ x⟩
def aeV:dL 110 Jy:=fB (T:=[]) (h:=.n) Tryz.func110 rfl zXw trivial (λx=>match x with|[]=>by kernel_rfl|_::_=>by kernel_rfl)
def oP(RK:Nat):Ct TS:=⟨[.d (.st 0) 0],[],[.st 0],.ag [dI 1,dI 2,.d .s 3,.d .s 4,.d bZ 5],(qB 7000001 1 2 3 4 5),[i6,i6,.s,.s,bZ],bd,λx=>HN RK x⟩
def aal:∀RK,(oP RK).OK aR 111
 |0=>(λx r h=>nomatch (show(bh:Option _)=bc r from h))
 |RK+1=>(nD (c:=oP (RK+1)) (cd:=l0) (nb:=lI) (rc:=[(2,7000001,0)]) (T:=[(111,oP RK)]) (h:=.s .n (.s .n (.s (.s .n (.s (.l ⟨[(1,.ptr 1000001 0),(2,.ptr 1000002 0),(3,.row 5 7001001),(7,.d bZ 0),(8,dI 1),(9,dI 9)],(acG 10),[bZ,i6,i6,i6,.s,.s,i6,.s,bZ],[i6,bZ]⟩ [(1,.ptr 1000001 0),(2,.ptr 1000002 0),(3,.row 5 7001001)] (acG 9) [bZ] 0 (λx K v=>AL (HN RK) x.1 x.2.1 x.2.2.1 x.2.2.2.1 x.2.2.2.2.1 (nE x).1 (oz x).1 (rX x).1 (sY x) K v) .n) .n)) .n))) Tryz.func111 rfl Tz ⟨⟨Tz,(aal RK)⟩,trivial⟩ λx=>by kernel_rfl).2
def zol(RK:Nat):ze aR 111/\(oP RK).OK aR 111:=⟨Tz,(aal RK)⟩
def O4:Ct TS:=⟨[.d (.st 15) 0],[],[.st 15],.ag [.row 6 7000002,.row 3 7000003,.row 3 7000004,.row 20 7000005,.row 4 7000006,.row 6 7000007,.d fy 1,dI 2],[(7000001,.box 52 [.row 6 7000002,.row 3 7000003,.row 3 7000004,.row 20 7000005,.row 4 7000006,.row 6 7000007,.d fy 1,dI 2]),(7000002,.row 99 (.st 2) 3 bd),(7000003,.row 107 (.st 4) 4 bd),(7000004,.row 101 (.st 5) 5 bd),(7000005,.row 33 (.st 7) 6 bd),(7000006,.row 115 (.st 8) 7 bd),(7000007,.row 121 (.st 10) 8 bd)],[fy,i6,eR,fN,fO,fR,fH,yy],bd,λx=>O' x⟩
def WU:dL 33 O4:=nD (cd:=l0) (nb:=znm) (rc:=[(2,7000001,0)]) (T:=[(104,qT),(105,Jt),(106,Ju),(107,Jv),(108,Jw),(109,Jx),(110,Jy),(111,oP KK)]) (h:=.s .n (.s .n (.s .n (.s (.s .n (.s (.l ⟨[(1,.ptr 1000001 0),(2,.ptr 1000002 0),(40,dI 0),(41,dI 16)],(D2 1 2 3 4 103001200 99 2 17 103001500 107 4 5 103001800 101 5 6 103002100 33 7 7 8 9 10 11 12 13 14 15),[i6,fy,i6,fy,i6,fN,fO,fR,fH,yy,eR,fN,fO,fR,fH,yy],[i6,eR]⟩ [(1,.ptr 1000001 0),(2,.ptr 1000002 0)] (D2 1 2 3 4 103001200 99 2 16 103001500 107 4 5 103001800 101 5 6 103002100 33 7 7 8 9 10 11 12 13 14 15) [eR] 0 (Df Ye) .n) .n)) (.s (.s .n (.s (.l ⟨[(1,.ptr 1000001 0),(2,.ptr 1000002 0),(59,dI 0),(60,dI 1)],Gc,SB,[]⟩ [(1,.ptr 1000001 0),(2,.ptr 1000002 0)] Gc [] 2 (Ga zgi) .n) .n)) (.s (.s .n (.s (.l ⟨[(1,.ptr 1000001 0),(2,.ptr 1000002 0),(78,dI 0),(79,dI 1)],Gc,SB,[]⟩ [(1,.ptr 1000001 0),(2,.ptr 1000002 0)] Gc [] 4 (Ga zgj) .n) .n)) (.s (.s .n (.s (.l ⟨[(1,.ptr 1000001 0),(2,.ptr 1000002 0),(96,.row 20 103002100),(97,dI 0),(98,dI 1)],(D2 2 3 4 1 103002100 33 7 5 103001200 99 2 6 103001500 107 4 7 103001800 101 5 8 9 10 11 12 13 14 15 16),[i6,i6,fy,i6,fy,fR,eR,fN,fO,fH,yy,eR,fN,fO,fR,fH,yy],[]⟩ [(1,.ptr 1000001 0),(2,.ptr 1000002 0)] (D2 2 3 4 1 103001200 99 2 6 103001500 107 4 7 103001800 101 5 8 103002100 33 7 5 9 10 11 12 13 14 15 16) [] 6 (Ga zgk) .n) .n)) (.s (.s .n (.s (.l ⟨[(1,.ptr 1000001 0),(2,.ptr 1000002 0),(130,dI 0),(131,dI 1)],Gc,SB,[]⟩ [(1,.ptr 1000001 0),(2,.ptr 1000002 0)] Gc [] 8 (Ga zgl) .n) .n)) (.s (.s .n (.s (.l ⟨[(1,.ptr 1000001 0),(2,.ptr 1000002 0),(149,dI 0),(150,dI 16)],(D2 1 2 3 4 103001200 99 2 5 103001500 107 4 6 103001800 101 5 7 103002100 33 7 8 9 17 10 11 12 13 14 15),[i6,fy,i6,fy,i6,eR,fN,fO,fR,fH,eR,fN,fO,fR,fH,yy],[i6,yy]⟩ [(1,.ptr 1000001 0),(2,.ptr 1000002 0)] (D2 1 2 3 4 103001200 99 2 5 103001500 107 4 6 103001800 101 5 7 103002100 33 7 8 9 16 10 11 12 13 14 15) [yy] 10 (Df Yf) .n) .n)) .n))))))))) Tryz.func33 rfl ajl ⟨Hc,aeQ,aeR,aeS,aeT,aeU,aeV,(zol KK),trivial⟩ λx=>by kernel_rfl
def XZ:Ct TS:=⟨[.d (.st 15) 0,.d (.st 12) 1],h3,[.st 15,.st 12],.gu [.ag [.d eR 3,.d fN 4,.d fO 5,.d fR 6,.d fH 7,.d yy 8,.d fy 9,dI 10],dI 2],(mU 7000001 3 4 5 6 7 8 9 10),Nf,bd,ir Pa⟩
def zu8:dL 10 XZ:=nD (cd:=l0) (nb:=lI) (rc:=[(4,7000001,0)]) (T:=[(19,Ym),(6,oO),(32,zok),(33,O4)]) (h:=.s .n (.s (.s (.j ⟨[(2,.ptr 1000002 0),(3,.ptr 1000003 0),(4,.ptr 1000004 0),(15,.d .b 46)],[(900000000,.rw 1),(900000001,.rw 2),(900000002,.rw 3),(900000003,.rw 4),(1000002,.box 52 [.d eR 0,.d fN 1,.d fO 2,.d fR 3,.d fH 4,.d yy 5,.d fy 6,dI 7]),(1000003,.box 36 [dI 8,.d .s 9,.d .s 10,dI 11,.d .s 12,.d bH 13,.d bH 14,dI 15,dI 16,dI 17,.d .b 18,dI 19,dI 20,dI 21,.d .s 22,.d .s 23,.d bZ 24,dI 25,dI 26,dI 27,dI 28,dI 29,dI 30,dI 31,dI 32,dI 33,.d .s 34,.d .s 35,.d bZ 36,.d gE 37]),(1000004,.box 52 [.d eR 38,.d fN 39,.d fO 40,.d fR 41,.d fH 42,.d yy 43,.d fy 44,dI 45])],agJ,[.b]⟩ bd .n) .n) .n)) Tryz.func10 rfl ai4 ⟨V3,oc,zyo,WU,trivial⟩ λx=>by kernel_rfl
def zom:Ct TS:=⟨[dI 0],[],[i6],.ag [dI 1,dI 2,.d .s 3,.d .s 4,.d bZ 5],(qB 7000001 1 2 3 4 5),[i6,i6,.s,.s,bZ],bd,λx=>UR x⟩
def zyp:dL 11 zom:=nD (cd:=l0) (nb:=lI) (rc:=[(2,7000001,0)]) (T:=[]) (h:=.n) Tryz.func11 rfl ai5 trivial λx=>by kernel_rfl
def acf:Ct TS:=⟨[.d eR 0,.fn 116 [] [.ptr 1 0]],(Ii 1 2 3 4 5 6),[eR,.s,i6,i6,.s,.s,bZ],dI 7,(Ii 1 2 3 4 5 6),[i6],bd,SO ab7⟩
def aeh:dL 183 acf:=fB (T:=[]) (h:=.s .n (.s (.s .n (.s (.l ⟨[(0,.d eR 6),(1,.fn 116 [] [.ptr 1 0]),(7,dI 7),(8,dI 8)],(Ii 0 1 2 3 4 5),[.s,i6,i6,.s,.s,bZ,eR,i6,i6],[]⟩ [] (Ii 0 1 2 3 4 5) [] 0 (rY abM) .n) .n)) .n)) Tryz.func183 rfl zM9 trivial λx=>by kernel_rfl
def zu9:Ct TS:=⟨[.d eR 0,.fn 116 [] [.ptr 1 0]],(Ii 1 2 3 4 5 6),[eR,.s,i6,i6,.s,.s,bZ],.gu [.ag [.d .s 8,dI 9,dI 10,.d .s 11,.d .s 12,.d bZ 13],.d .b 7],[(1,.box 99 [.d .s 1,dI 2,dI 3,.d .s 4,.d .s 5,.d bZ 6]),(7000001,.box 99 [.d .s 8,dI 9,dI 10,.d .s 11,.d .s 12,.d bZ 13])],[.b,.s,i6,i6,.s,.s,bZ],bd,SO zum⟩
def zD8:dL 115 zu9:=nD (cd:=l0) (nb:=lI) (rc:=[(4,7000001,0)]) (T:=[(183,acf)]) (h:=.n) Tryz.func115 rfl zXx ⟨aeh,trivial⟩ λx=>by kernel_rfl
def zdk:Ct TS:=⟨[.d (.st 15) 0,.d (.st 15) 1],[],[.st 15,.st 15],.d wZ 2,[],[wZ],bd,ir zci⟩
def zon:dL 34 zdk:=fB (T:=[(115,zu9),(15,OE)]) (h:=.s .n (.s .n (.s (.s .n (.s (.l ⟨[(2,.ptr 1000002 0),(3,.ptr 1000003 0),(5,.row 30 7001001),(32,.d eR 0),(33,dI 1),(34,dI 17)],(BQ 2 3 4 5 6 7 8 9 0 10 11 12 13 14 15 16 7001001 18),[eR,i6,eR,fN,fO,fR,fH,yy,fy,i6,fN,fO,fR,fH,yy,fy,i6],[i6,wZ]⟩ [(2,.ptr 1000002 0),(3,.ptr 1000003 0),(5,.row 30 7001001)] (BQ 2 3 4 5 6 7 8 9 0 10 11 12 13 14 15 16 7001001 17) [wZ] 0 (Ga AM) (.s .n (.s .n (.s (.j ⟨[(2,.ptr 1000002 0),(3,.ptr 1000003 0),(5,.row 30 7000001),(32,.d eR 0),(33,dI 1),(34,dI 2)],(BQ 3 4 5 6 7 8 9 10 0 11 12 13 14 15 16 17 7000001 18),[eR,i6,i6,eR,fN,fO,fR,fH,yy,fy,i6,fN,fO,fR,fH,yy,fy,i6],[wZ]⟩ bd (.s (.s .n (.s .n (.s .n (.s (.j ⟨[(2,.ptr 1000002 0),(3,.ptr 1000003 0),(5,.row 30 7001001),(10,.ptr 1000010 0),(32,.d eR 0),(33,dI 1),(34,dI 2),(61,.d .b 32)],[(1000002,.box 52 [.d eR 3,.d fN 4,.d fO 5,.d fR 6,.d fH 7,.d yy 8,.d fy 9,dI 10]),(1000003,.box 52 [.d eR 0,.d fN 11,.d fO 12,.d fR 13,.d fH 14,.d yy 15,.d fy 16,dI 17]),(7001001,.row 36 (.st 12) 18 bd),(1000010,.box 36 [dI 19,.d .s 20,.d .s 21,dI 22,.d .s 21,.d bH 23,.d bH 23,dI 22,dI 22,dI 22,.d .b 24,dI 22,dI 22,dI 22,.d .s 21,.d .s 21,.d bZ 25,dI 22,dI 22,dI 22,dI 22,dI 22,dI 22,dI 22,dI 26,dI 27,.d .s 28,.d .s 29,.d bZ 30,.d gE 31])],agK,[.b]⟩ bd .n) .n)))) .n)) .n)))) .n)) (.s (.s .n (.s (.l ⟨[(2,.ptr 1000002 0),(3,.ptr 1000003 0),(5,.row 30 7001001),(68,.d fN 0),(69,dI 1),(70,dI 2)],(BQ 3 4 5 6 7 8 9 10 11 0 12 13 14 15 16 17 7001001 18),[fN,i6,i6,eR,fN,fO,fR,fH,yy,fy,i6,eR,fO,fR,fH,yy,fy,i6,wZ],[]⟩ [(2,.ptr 1000002 0),(3,.ptr 1000003 0),(5,.row 30 7001001)] (BQ 3 4 5 6 7 8 9 10 11 0 12 13 14 15 16 17 7001001 18) [] 2 (ZC aad) .n) .n)) (.s (.s .n (.s (.l ⟨[(2,.ptr 1000002 0),(3,.ptr 1000003 0),(5,.row 30 7001001),(117,.d fO 0),(118,dI 1),(119,dI 2)],(BQ 3 4 5 6 7 8 9 10 11 12 0 13 14 15 16 17 7001001 18),[fO,i6,i6,eR,fN,fO,fR,fH,yy,fy,i6,eR,fN,fR,fH,yy,fy,i6,wZ],[]⟩ [(2,.ptr 1000002 0),(3,.ptr 1000003 0),(5,.row 30 7001001)] (BQ 3 4 5 6 7 8 9 10 11 12 0 13 14 15 16 17 7001001 18) [] 6 (ZC aae) .n) .n)) (.s (.s .n (.s (.l ⟨[(2,.ptr 1000002 0),(3,.ptr 1000003 0),(5,.row 30 7001001),(149,.d fR 0),(150,dI 1),(151,dI 2)],(BQ 3 4 5 6 7 8 9 10 11 12 13 0 14 15 16 17 7001001 18),[fR,i6,i6,eR,fN,fO,fR,fH,yy,fy,i6,eR,fN,fO,fH,yy,fy,i6,wZ],[]⟩ [(2,.ptr 1000002 0),(3,.ptr 1000003 0),(5,.row 30 7001001)] (BQ 3 4 5 6 7 8 9 10 11 12 13 0 14 15 16 17 7001001 18) [] 8 (ZC aaf) .n) .n)) (.s (.s .n (.s (.l ⟨[(2,.ptr 1000002 0),(5,.row 30 7001001),(186,.d fH 0),(187,dI 1),(188,dI 2)],[(1000002,.box 52 [.d eR 3,.d fN 4,.d fO 5,.d fR 6,.d fH 7,.d yy 8,.d fy 9,dI 10]),(7001001,.row 36 (.st 12) 11 bd)],[fH,i6,i6,eR,fN,fO,fR,fH,yy,fy,i6,wZ],[]⟩ [(5,.row 30 7001001)] (sV 7001001 36 12 11) [] 11 (ND aag) .n) .n)) .n))))))) Tryz.func34 rfl ajm ⟨zD8,U3,trivial⟩ λx=>by kernel_rfl
def zoo:Ct TS:=⟨[.d (.st 15) 0,.d wZ 1],h3,[.st 15,wZ],.gu [.ag [.d eR 3,.d fN 4,.d fO 5,.d fR 6,.d fH 7,.d yy 8,.d fy 9,dI 10],dI 2],(mU 7000001 3 4 5 6 7 8 9 10),Nf,bd,ir znk⟩
def zyq:dL 35 zoo:=nD (cd:=l0) (nb:=lI) (rc:=[(4,7000001,0)]) (T:=[(19,Ym),(10,XZ),(33,O4)]) (h:=.s .n (.s .n (.s .n (.s (.s .n (.s (.lr ⟨[(2,.ptr 1000002 0),(4,.ptr 1000004 0),(13,.d wZ 0),(14,dI 1),(15,dI 10)],(RA 11 12 13 14 15 16 17 18 1000004 2 3 4 5 6 7 8 9),[wZ,i6,eR,fN,fO,fR,fH,yy,fy,i6],Nf⟩ [(2,.ptr 1000002 0),(4,.ptr 1000004 0)] (RA 10 11 12 13 14 15 16 17 1000004 2 3 4 5 6 7 8 9) k2 0 (aiB JX) .n) .n)) .n)))) Tryz.func35 rfl ajn ⟨V3,zu8,WU,trivial⟩ λx=>by kernel_rfl
def zva:Ct TS:=⟨[.d (.st 15) 0,.d (.st 15) 1],h3,[.st 15,.st 15],.gu [.d wZ 2,dI 3],h3,[wZ,i6],bd,ir zun⟩
def zD9:dL 12 zva:=fB (T:=[(19,Ym),(33,O4),(34,zdk),(35,zoo),(36,TA)]) (h:=.s .n (.s (.s (.j ⟨[(2,.ptr 1000002 0),(3,.ptr 1000003 0),(16,.d .b 16)],(RA 0 1 2 3 4 5 6 7 1000003 8 9 10 11 12 13 14 15),B9,[.b]⟩ bd .n) .n) (.s .n (.s (.s .n (.s (.j ⟨[(6,.d wZ 0),(34,.d .b 1)],h3,[wZ],[.b]⟩ bd .n) .n)) .n)))) Tryz.func12 rfl ai6 ⟨V3,WU,zon,zyq,zDz,trivial⟩ λx=>by kernel_rfl
def QC:Ct TS:=⟨[.d fy 0,.d fy 1],[],[fy,fy],.d .b 2,[],[.b],bd,ir qu⟩
def zdl:dL 142 QC:=fB (T:=[]) (h:=.s .n (.s .n (.s (.s .n (.s (.lr ⟨[(0,.d fy 0),(1,.d fy 1),(5,dI 2)],[],[fy,fy],[i6]⟩ [] [] [] 0 (ir vU) .n) .n)) .n))) Tryz.func142 rfl zXy trivial λx=>by kernel_rfl
def vC(RK:Nat):Ct TS:=⟨[.d (.st 0) 0,.d (.st 0) 1],[],[.st 0,.st 0],.d .b 2,[],[.b],bd,λx=>xb RK x.1 x.2⟩
def QD:∀RK,(vC RK).OK aR 38
 |0=>(λx r h=>nomatch (show(bh:Option _)=bc r from h))
 |RK+1=>(fB (c:=vC (RK+1)) (T:=[(38,vC RK)]) (h:=.s .n (.s (.s (.j ⟨[(2,.ptr 1000002 0),(3,.ptr 1000003 0),(40,.d .b 10)],(Ro 1000002 0 1 2 3 4 1000003 5 6 7 8 9),ac2,[.b]⟩ bd .n) .n) (.s (.s .n (.s (.lr ⟨[(2,.ptr 1000002 0),(3,.ptr 1000003 0),(5,dI 10)],(Ro 1000002 0 1 2 3 4 1000003 5 6 7 8 9),ac2,[i6]⟩ [] [] [] 0 (λx K v=>kh (xb RK) x.1 x.2.1 x.2.2.1 x.2.2.2.1 x.2.2.2.2.1 (nE x).1 (oz x).1 (rX x).1 (sY x).1 (tB x) K v) .n) .n)) .n))) Tryz.func38 rfl Uo ⟨⟨Uo,(QD RK)⟩,trivial⟩ λx=>by kernel_rfl).2
def H7(RK:Nat):ze aR 38/\(vC RK).OK aR 38:=⟨Uo,(QD RK)⟩
def Kc:Ct TS:=⟨[.d mg 0,.d mg 1],[],[mg,mg],.d .b 2,[],[.b],bd,ir JY⟩
def aeY:dL 143 Kc:=fB (T:=[]) (h:=.s .n (.s .n (.s (.s .n (.s (.lr ⟨[(0,.d mg 0),(1,.d mg 1),(5,dI 2)],[],[mg,mg],[i6]⟩ [] [] [] 0 (ir kj) .n) .n)) .n))) Tryz.func143 rfl zXz trivial λx=>by kernel_rfl
def QE:Ct TS:=⟨[.d gE 0,.d gE 1],[],[gE,gE],.d .b 2,[],[.b],bd,ir AN⟩
def zdm:dL 144 QE:=fB (T:=[]) (h:=.s .n (.s .n (.s (.s .n (.s (.lr ⟨[(0,.d gE 0),(1,.d gE 1),(5,dI 2)],[],[gE,gE],[i6]⟩ [] [] [] 0 (ir qd) .n) .n)) .n))) Tryz.func144 rfl zX0 trivial λx=>by kernel_rfl
def aam:Ct TS:=⟨[.d bH 0,.d bH 1],[],[bH,bH],.d .b 2,[],[.b],bd,ir kl⟩
def zfb:dL 191 aam:=fB (T:=[]) (h:=.s .n (.s .n (.s (.s .n (.s (.lr ⟨[(0,.d bH 0),(1,.d bH 1),(5,dI 2)],[],[bH,bH],[i6]⟩ [] [] [] 0 (ir qR) .n) .n)) .n))) Tryz.func191 rfl zX1 trivial λx=>by kernel_rfl
def aaL:Ct TS:=⟨[.d (.st 7) 0,.d (.st 7) 1],[],[.st 7,.st 7],.d .b 2,[],[.b],bd,ir Ah⟩
def zj8:dL 145 aaL:=fB (T:=[(191,aam),(38,vC KK)]) (h:=.s .n (.s (.j ⟨[(2,.ptr 1000002 0),(3,.ptr 1000003 0),(5,.d .b 40)],Um,Sw,[.b]⟩ bd .n) (.s (.j ⟨[(2,.ptr 1000002 0),(3,.ptr 1000003 0),(5,.d .b 0),(6,.d .b 41)],(acy 1 2 3 4 5 6 7 8 9 10 11 12 13 14 15 16 17 18 19 20 21 22 23 24 25 26 27 28 29 30 31 32 33 34 35 36 37 38 39 40),agL,[.b]⟩ bd .n) .n))) Tryz.func145 rfl zX2 ⟨zfb,(H7 KK),trivial⟩ λx=>by kernel_rfl
def zvb:Ct TS:=⟨[.d (.st 15) 0,.d (.st 15) 1],[],[.st 15,.st 15],.d .b 2,[],[.b],bd,ir VX⟩
def zEa:dL 37 zvb:=fB (T:=[(142,QC),(38,vC KK),(143,Kc),(144,QE),(145,aaL)]) (h:=.s .n (.s (.s (.j ⟨[(2,.ptr 1000002 0),(3,.ptr 1000003 0),(77,.d .b 16)],tb,B9,[.b]⟩ bd .n) .n) (.s (.s .n (.s (.lr ⟨[(2,.ptr 1000002 0),(3,.ptr 1000003 0),(5,dI 16)],tb,B9,[i6]⟩ [(2,.ptr 1000002 0),(3,.ptr 1000003 0)] tb [] 0 (Df HO) (.s .n (.s (.s (.s (.j ⟨[(2,.ptr 1000002 0),(3,.ptr 1000003 0),(5,dI 0),(113,.d .b 17)],Gb,Lq,[.b]⟩ bd .n) .n) .n) .n))) .n)) (.s (.s .n (.s (.lr ⟨[(2,.ptr 1000002 0),(3,.ptr 1000003 0),(6,dI 16)],tb,B9,[i6]⟩ [(2,.ptr 1000002 0),(3,.ptr 1000003 0)] tb [] 2 (Df HP) (.s .n (.s (.s (.s (.j ⟨[(2,.ptr 1000002 0),(3,.ptr 1000003 0),(6,dI 0),(164,.d .b 17)],Gb,Lq,[.b]⟩ bd .n) .n) .n) .n))) .n)) (.s (.s .n (.s (.lr ⟨[(2,.ptr 1000002 0),(3,.ptr 1000003 0),(7,dI 16)],tb,B9,[i6]⟩ [(2,.ptr 1000002 0),(3,.ptr 1000003 0)] tb [] 4 (Df HQ) (.s .n (.s (.s (.s (.j ⟨[(2,.ptr 1000002 0),(3,.ptr 1000003 0),(7,dI 0),(215,.d .b 17)],Gb,Lq,[.b]⟩ bd .n) .n) .n) .n))) .n)) (.s (.s .n (.s (.lr ⟨[(2,.ptr 1000002 0),(3,.ptr 1000003 0),(8,dI 16)],tb,B9,[i6]⟩ [(2,.ptr 1000002 0),(3,.ptr 1000003 0)] tb [] 6 (Df HR) .n) .n)) (.s (.s .n (.s (.lr ⟨[(2,.ptr 1000002 0),(3,.ptr 1000003 0),(9,dI 16)],tb,B9,[i6]⟩ [(2,.ptr 1000002 0),(3,.ptr 1000003 0)] tb [] 8 (Df HU) (.s .n (.s (.s (.s (.j ⟨[(2,.ptr 1000002 0),(3,.ptr 1000003 0),(9,dI 0),(300,.d .b 17)],Gb,Lq,[.b]⟩ bd .n) .n) .n) .n))) .n)) (.s (.s .n (.s (.lr ⟨[(2,.ptr 1000002 0),(3,.ptr 1000003 0),(10,dI 16)],tb,B9,[i6]⟩ [] [] [] 10 (Df HV) (.s .n (.s (.s (.s (.j ⟨[(2,.ptr 1000002 0),(3,.ptr 1000003 0),(10,dI 0),(366,.d .b 17)],Gb,Lq,[.b]⟩ bd .n) .n) .n) .n))) .n)) .n)))))))) Tryz.func37 rfl ajp ⟨zdl,(H7 KK),aeY,zdm,zj8,trivial⟩ λx=>by kernel_rfl
def WV:Ct TS:=⟨[.d (.st 12) 0,.d (.st 12) 1],[],[.st 12,.st 12],.d .b 2,[],[.b],bd,ir HW⟩
def zop:dL 13 WV:=fB (T:=[(37,zvb),(38,vC KK)]) (h:=.s .n (.s (.s (.j ⟨[(2,.ptr 1000002 0),(3,.ptr 1000003 0),(42,.d .b 60)],NG,Sy,[.b]⟩ bd .n) .n) (.s (.s .n (.s (.lr ⟨[(2,.ptr 1000002 0),(3,.ptr 1000003 0),(5,dI 60)],NG,Sy,[i6]⟩ [(2,.ptr 1000002 0),(3,.ptr 1000003 0)] NG [] 0 (λx K v=>Q0 x.1 x.2.1 x.2.2.1 x.2.2.2.1 x.2.2.2.2.1 (nE x).1 (oz x).1 (rX x).1 (sY x).1 (tB x).1 (ui x).1 (uj x).1 (uk x).1 (Ci x).1 (Cj x).1 (Ck x).1 (Lj x).1 (o_ x).1 (um x).1 (Ev x).1 (Lk x).1 (Ll x).1 (Lm x).1 (Ln x).1 (Lo x).1 (Lp x).1 (Ld x).1 (Le x).1 (Lf x).1 (Zq x).1 (Zr x).1 (Zs x).1 (Zt x).1 (ah7 x).1 (ah8 x).1 (ah9 x).1 (ah_ x).1 (ah' x).1 (aia x).1 (aib x).1 (aic x).1 (aid x).1 (aie x).1 (aif x).1 (aih x).1 (aii x).1 (aij x).1 (aik x).1 (ail x).1 (aim x).1 (ain x).1 (aio x).1 (aip x).1 (aiq x).1 (air x).1 (ais x).1 (ait x).1 (aiu x).1 (aiv x).1 (aiw x) K v) .n) .n)) .n))) Tryz.func13 rfl ai7 ⟨zEa,(H7 KK),trivial⟩ λx=>by kernel_rfl
def zoq:Ct TS:=⟨[.d (.st 12) 0],h3,[.st 12],.ag [.d .s 1,.d .s 2,.d .s 3],[(900000000,.rw 1),(900000001,.rw 2),(900000002,.rw 3),(900000003,.rw 4),(7000001,.box 95 [.d .s 1,.d .s 2,.d .s 3])],[.s,.s,.s],bd,λx=>US x⟩
def zyr:dL 39 zoq:=nD (cd:=l0) (nb:=lI) (rc:=[(2,7000001,0)]) (T:=[(69,Ma)]) (h:=.n) Tryz.func39 rfl ajq ⟨⟨N3,O2⟩,trivial⟩ λx=>by kernel_rfl
def zor:Ct TS:=⟨[.d (.st 12) 0,.d (.st 12) 1],h3,[.st 12,.st 12],.d .b 2,h3,[.b],bd,ir UT⟩
def zys:dL 14 zor:=fB (T:=[(6,oO),(39,zoq)]) (h:=.n) Tryz.func14 rfl ai8 ⟨oc,zyr,trivial⟩ λx=>by kernel_rfl
def zdn:Ct TS:=⟨[],h3,[],.d .b 0,h3,[.b],bd,λ_=>HX⟩
def zos:dL 4 zdn:=nD (cd:=cdL) (nb:=lI) (rc:=[]) (T:=[(8,UM),(7,U4),(10,XZ),(11,zom),(12,zva),(13,WV),(6,oO),(14,zor),(15,OE)]) (h:=.s .n (.s .n (.s .n (.s .n (.s .n (.s .n (.s (.s (.j ⟨[(1,.d wZ 0),(2,dI 1),(3,.d .s 2),(4,dI 3),(6,dI 4),(8,dI 5),(9,.d wZ 6),(10,dI 7),(55,.d .b 8)],h3,[wZ,i6,.s,i6,i6,i6,wZ,i6],[.b]⟩ bd .n) .n) (.s (.j ⟨[(1,.d wZ 0),(9,.d wZ 1),(11,.d .b 2)],h3,[wZ,wZ],[.b]⟩ bd .n) (.s (.j ⟨[(1,.d wZ 0),(9,.d wZ 1),(11,.d .b 2),(12,.d .b 3)],h3,[wZ,wZ,.b],[.b]⟩ bd .n) .n))))))))) Tryz.func4 rfl ahM ⟨zg7,zhg,zu8,zyp,zD9,zop,oc,zys,U3,trivial⟩ λx=>by kernel_rfl
def qh(RK:Nat):Ct TS:=⟨[.d (.st 0) 0,dI 1,dI 2],[],[.st 0,i6,i6],dI 3,[],[i6],bd,λx=>yT RK x.1 x.2.1 x.2.2⟩
def aan:∀RK,(qh RK).OK aR 17
 |0=>(λx r h=>nomatch (show(bh:Option _)=bc r from h))
 |RK+1=>(fB (c:=qh (RK+1)) (T:=[(17,qh RK)]) (h:=.s .n (.s .n (.s .n (.s (.s .n (.s (.l ⟨[(1,dI 0),(2,dI 1),(3,.ptr 1000003 0),(7,dI 7),(8,dI 8)],(qB 1000003 2 3 4 5 6),Nb,[i6,i6]⟩ [(7,dI 7)] [] [i6] 0 (λx K v=>wY (yT RK) x.1 x.2.1 x.2.2.1 x.2.2.2.1 x.2.2.2.2.1 (nE x).1 (oz x) K v) (.s (.s (.j ⟨[(1,dI 0),(2,dI 1),(3,.ptr 1000003 0),(7,dI 2),(8,dI 3),(22,.d .b 9)],(qB 1000003 4 5 6 7 8),[i6,i6,i6,i6,i6,i6,.s,.s,bZ],[.b]⟩ bd .n) .n) .n)) .n)) .n)))) Tryz.func17 rfl Up ⟨⟨Up,(aan RK)⟩,trivial⟩ λx=>by kernel_rfl).2
def aaM(RK:Nat):ze aR 17/\(qh RK).OK aR 17:=⟨Up,(aan RK)⟩
def zhh:Ct TS:=⟨[.d (.st 7) 0],[],[.st 7],.d .b 1,[],[.b],bd,λx=>K6 x⟩
def zsf:dL 16 zhh:=fB (T:=[(17,qh KK)]) (h:=.n) Tryz.func16 rfl ai_ ⟨(aaM KK),trivial⟩ λx=>by kernel_rfl
def zot:Ct TS:=⟨[.d wZ 0],[],[wZ],.d .b 1,[],[.b],bd,λx=>VY x⟩
def zyt:dL 5 zot:=fB (T:=[(16,zhh),(17,qh KK)]) (h:=.s .n (.s (.s .n (.s (.lr ⟨[(0,.d wZ 0),(3,dI 1)],[],[wZ],[i6]⟩ [(0,.d wZ 0)] [] [] 0 (λx K v=>jR x K v) (.s (.s (.j ⟨[(0,.d wZ 0),(3,dI 1),(11,.d .b 2)],[],[wZ,i6],[.b]⟩ bd .n) .n) (.s (.s (.s (.j ⟨[(0,.d wZ 0),(3,dI 1),(38,.d .b 2)],[],[wZ,i6],[.b]⟩ bd .n) .n) .n) .n))) .n)) .n)) Tryz.func5 rfl ahN ⟨zsf,(aaM KK),trivial⟩ λx=>by kernel_rfl
def zhi:Ct TS:=⟨[.d wZ 0,.d wZ 1],[],[wZ,wZ],.d .b 2,[],[.b],bd,ir u7⟩
def zsg:dL 9 zhi:=fB (T:=[(13,WV)]) (h:=.s .n (.s .n (.s (.s .n (.s (.lr ⟨[(0,.d wZ 0),(1,.d wZ 1),(5,dI 2)],[],[wZ,wZ],[i6]⟩ [] [] [] 0 (ir vV) .n) .n)) .n))) Tryz.func9 rfl ahR ⟨zop,trivial⟩ λx=>by kernel_rfl
def aeZ:Ct TS:=⟨[.d wZ 0,.d .s 1],h3,[wZ,.s],.d .b 2,h3,[.b],bd,ir jz⟩
def aeW:dL 3 aeZ:=fB (T:=[(4,zdn),(5,zot),(6,oO),(7,U4),(8,UM),(9,zhi)]) (h:=.s .n (.s .n (.s (.s (.j ⟨[(0,.d wZ 0),(1,.d .s 1),(5,.d .b 2),(28,.d .b 3)],h3,[wZ,.s,.b],[.b]⟩ bd .n) .n) (.s .n (.s (.s .n (.s (.l ⟨[(0,.d wZ 0),(1,.d .s 1),(5,.d .b 2),(6,.d .b 3),(7,dI 4)],h3,[wZ,.s,.b],[.b,i6]⟩ [(0,.d wZ 0),(1,.d .s 1),(5,.d .b 2),(6,.d .b 3)] h3 [.b] 0 (mI yU) (.s .n (.s (.j ⟨[(0,.d wZ 0),(1,.d .s 1),(5,.d .b 2),(6,.d .b 4),(7,dI 3)],h3,[wZ,.s,.b,i6],[.b]⟩ bd .n) .n))) .n)) (.s .n (.s .n (.s (.j ⟨[(1,.d .s 0),(5,.d .b 1)],h3,[.s,.b],[]⟩ bg (.s .n (.s (.s .n (.s (.j ⟨[(1,.d .s 0),(5,.d .b 1),(67,.d .b 2)],h3,[.s,.b],[.b]⟩ bd .n) .n)) .n))) .n)))))))) Tryz.func3 rfl ahL ⟨zos,zyt,oc,zhg,zg7,zsg,trivial⟩ λx=>by kernel_rfl
end Go.Proofs.YtmjfiffpolkdeaaGreatDoor
