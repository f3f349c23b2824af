/- texts that the proof reaches, part 8 -/
import Derived.Test.YtffencjoddkghaaGreatDoorKg
set_option linter.all false
open BitVec renaming ofInt->cM
open Bool renaming false->bd,true->bf
open Int renaming toNat->cg,fdiv->gC,tmod->iV
open List renaming length->bg,map->cX,isEmpty->dm
open Option renaming bind->aN,some->bc,none->bh
open Sum renaming inl->bo,inr->br
set_option maxRecDepth 100000
namespace Go.Proofs.YtffencjoddkghaaGreatDoor
open Go Go.RowKit Go.Eng Go.EV Go.EQ
abbrev Bs8:=ak
abbrev Mb8:=List (Bs8×Bool)
structure Expr where
 Op:Int
 N:Int
 S:Bs8
 Key:Bs8
 Args:(List Expr)
instance:Inhabited Expr:=⟨⟨0,0,[],[],[]⟩⟩
mutual
def oQ:Expr->List V
 |⟨a0,a1,a2,a3,a4⟩=>[.int .i64 a0,.int .i64 a1,.str a2,.str a3,.vs 5 (xl a4)]
def xl:List Expr->List (List V)
 |[]=>[]
 |x::r=>oQ x::xl r
end
def jM(x:Expr):List V:=[.int .i64 x.Op,.int .i64 x.N,.str x.S,.str x.Key,.vs 5 (xl x.Args)]
def KW(x:Expr):oQ x=jM x:=by cases x;rw[oQ];rfl
def qQ:∀l:List Expr,xl l=l.map jM
 |[]=>by rw[xl];rfl
 |x::r=>by rw[xl,KW,qQ r];rfl
structure Def where
 aL:Bs8
 Body:Expr
 deriving Inhabited
def zcq(x:Def):List V:=[.str x.aL,.int .i64 x.Body.Op,.int .i64 x.Body.N,.str x.Body.S,.str x.Body.Key,.vs 5 (xl x.Body.Args)]
structure aw where
 aL:Bs8
 N:Int
 deriving Inhabited,DecidableEq
def Hj(x:aw):List V:=[.str x.aL,.int .i64 x.N]
structure au where
 aL:Bs8
 Rows:(List aw)
 Else:Int
 deriving Inhabited,DecidableEq
def KX(x:au):List V:=[.str x.aL,.vs 2 (cX Hj x.Rows),.int .i64 x.Else]
structure zU where
 X:Int
 Y:Int
 deriving Inhabited,DecidableEq
def qR(x:zU):List V:=[.int .i64 x.X,.int .i64 x.Y]
structure yD where
 aL:Bs8
 Overlay:Bool
 aA:(List zU)
 deriving Inhabited,DecidableEq
def WJ(x:yD):List V:=[.str x.aL,.bool x.Overlay,.vs 2 (cX qR x.aA)]
structure zx where
 Side:Int
 Base:Int
 Num:Int
 Den:Int
 deriving Inhabited,DecidableEq
def WK(x:zx):List V:=[.int .i64 x.Side,.int .i64 x.Base,.int .i64 x.Num,.int .i64 x.Den]
structure zX where
 aL:Bs8
 aB:List Bs8
 Except:List Bs8
 From:Int
 Until:Int
 Grace:Int
 Vary:Bool
 aM:Int
 Test:Expr
 zx:zx
 Uses:Int
 Other:Int
 N:Int
 deriving Inhabited
def WL(x:zX):List V:=[.str x.aL,.vs 1 (cX EV.zTq x.aB),.vs 1 (cX EV.zTq x.Except),.int .i64 x.From,.int .i64 x.Until,.int .i64 x.Grace,.bool x.Vary,.int .i64 x.aM,.int .i64 x.Test.Op,.int .i64 x.Test.N,.str x.Test.S,.str x.Test.Key,.vs 5 (xl x.Test.Args),.int .i64 x.zx.Side,.int .i64 x.zx.Base,.int .i64 x.zx.Num,.int .i64 x.zx.Den,.int .i64 x.Uses,.int .i64 x.Other,.int .i64 x.N]
structure Cap where
 aL:Bs8
 Load:Int
 Limit:Int
 aA:(List zU)
 deriving Inhabited,DecidableEq
def zcr(x:Cap):List V:=[.str x.aL,.int .i64 x.Load,.int .i64 x.Limit,.vs 2 (cX qR x.aA)]
structure zg where
 X:Int
 Y:Int
 Z_:Int
 deriving Inhabited,DecidableEq
def qc(x:zg):List V:=[.int .i64 x.X,.int .i64 x.Y,.int .i64 x.Z_]
structure av where
 aL:Bs8
 Eye:zg
 Least:Int
 Targets:(List zg)
 deriving Inhabited,DecidableEq
def WM(x:av):List V:=[.str x.aL,.int .i64 x.Eye.X,.int .i64 x.Eye.Y,.int .i64 x.Eye.Z_,.int .i64 x.Least,.vs 3 (cX qc x.Targets)]
structure ar where
 aM:Int
 Text:Bs8
 N:Int
 Pos:Int
 deriving Inhabited,DecidableEq
def WN(x:ar):List V:=[.int .i64 x.aM,.str x.Text,.int .i64 x.N,.int .i64 x.Pos]
structure zd where
 text:Bs8
 op:Int
 form:Int
 deriving Inhabited,DecidableEq
def oR(x:zd):List V:=[.str x.text,.int .i64 x.op,.int .i64 x.form]
structure zI where
 a:zU
 b:zU
 deriving Inhabited,DecidableEq
def JU(x:zI):List V:=[.int .i64 x.a.X,.int .i64 x.a.Y,.int .i64 x.b.X,.int .i64 x.b.Y]
structure yJ where
 aF:(List Def)
 Tables:(List au)
 aB:(List yD)
 aE:(List zX)
 aJ:(List Cap)
 aG:(List av)
 aK:(List zg)
 aI:Int
 deriving Inhabited
def zul(x:yJ):List V:=[.vs 6 (cX zcq x.aF),.vs 3 (cX KX x.Tables),.vs 3 (cX WJ x.aB),.vs 20 (cX WL x.aE),.vs 4 (cX zcr x.aJ),.vs 6 (cX WM x.aG),.vs 3 (cX qc x.aK),.int .i64 x.aI]
instance:Inhabited (Int⊕Bs8):=⟨.inl 0⟩
def zum(s:Bs8)(n:Int):Option Bs8:=aN (grd (0<=n/\n<256/\bg s+1<=140737488355328)) λ_=>bc (s++[UInt8.ofNat (cg n)])
structure BB where
 l:(List ar)
 i:Int
 D:(List Def)
 T:(List au)
 Z:(List yD)
 R:(List zX)
 C:(List Cap)
 V:(List av)
 S:(List zg)
 H:Int
 n0:(List Mb8)
 n1:(List Mb8)
 n2:(List Mb8)
 n3:(List Mb8)
 n4:(List Mb8)
 n5:(List Mb8)
 h:Bool
def xy(x:(List ar)×Int×(List Def)×(List au)×(List yD)×(List zX)×(List Cap)×(List av)×(List zg)×Int×(List Mb8)×(List Mb8)×(List Mb8)×(List Mb8)×(List Mb8)×(List Mb8)×Bool):BB:=⟨x.1,x.2.1,x.2.2.1,x.2.2.2.1,x.2.2.2.2.1,x.2.2.2.2.2.1,x.2.2.2.2.2.2.1,x.2.2.2.2.2.2.2.1,x.2.2.2.2.2.2.2.2.1,x.2.2.2.2.2.2.2.2.2.1,x.2.2.2.2.2.2.2.2.2.2.1,x.2.2.2.2.2.2.2.2.2.2.2.1,x.2.2.2.2.2.2.2.2.2.2.2.2.1,x.2.2.2.2.2.2.2.2.2.2.2.2.2.1,x.2.2.2.2.2.2.2.2.2.2.2.2.2.2.1,x.2.2.2.2.2.2.2.2.2.2.2.2.2.2.2.1,x.2.2.2.2.2.2.2.2.2.2.2.2.2.2.2.2⟩
def zcu{R:Type}(x:(List ar)×Int×(List Def)×(List au)×(List yD)×(List zX)×(List Cap)×(List av)×(List zg)×Int×(List Mb8)×(List Mb8)×(List Mb8)×(List Mb8)×(List Mb8)×(List Mb8)×Bool×R):BB:=⟨x.1,x.2.1,x.2.2.1,x.2.2.2.1,x.2.2.2.2.1,x.2.2.2.2.2.1,x.2.2.2.2.2.2.1,x.2.2.2.2.2.2.2.1,x.2.2.2.2.2.2.2.2.1,x.2.2.2.2.2.2.2.2.2.1,x.2.2.2.2.2.2.2.2.2.2.1,x.2.2.2.2.2.2.2.2.2.2.2.1,x.2.2.2.2.2.2.2.2.2.2.2.2.1,x.2.2.2.2.2.2.2.2.2.2.2.2.2.1,x.2.2.2.2.2.2.2.2.2.2.2.2.2.2.1,x.2.2.2.2.2.2.2.2.2.2.2.2.2.2.2.1,x.2.2.2.2.2.2.2.2.2.2.2.2.2.2.2.2.1⟩
def rBB{R:Type}(x:(List ar)×Int×(List Def)×(List au)×(List yD)×(List zX)×(List Cap)×(List av)×(List zg)×Int×(List Mb8)×(List Mb8)×(List Mb8)×(List Mb8)×(List Mb8)×(List Mb8)×Bool×R):R:=x.2.2.2.2.2.2.2.2.2.2.2.2.2.2.2.2.2
def t_0:Bs8:=[48]
def Je:Bs8:=[50,32,42,32,40,32,97,32,43,32,98,32,41]
def t__:Bs8:=[32]
def zh:Bs8:=[32,97,110,100,32,97,112,97,114,116,32,98,97,115,101,32,99,97,112,32,100,101,102,105,110,101,32,101,108,115,101,32,101,120,99,101,112,116,32,102,114,111,109,32,103,114,97,99,101,32,104,111,117,114,115,32,105,102,32,105,110,32,108,101,97,115,116,32,110,111,116,32,111,114,32,111,118,101,114,108,97,121,32,112,108,97,110,101,32,114,117,108,101,32,115,108,111,112,101,32,115,117,110,32,116,97,98,108,101,32,116,104,101,110,32,117,110,116,105,108,32,117,115,101,115,32,118,97,114,121,32,118,105,101,119,32,122,111,110,101,32]
def yM:Bs8:=[32,101,108,115,101,32]
def yN:Bs8:=[32,116,104,101,110,32]
def zgx:Bs8:=[32,41]
def t_a:Bs8:=[97]
def t_a1:Bs8:=[97,49]
def KY:Bs8:=[97,32,43,32,98,32,42,32,50,32,60,32,99]
def zCv:Bs8:=[97,110,100]
def qe:Bs8:=[97,112,97,114,116]
def zcv:Bs8:=[97,43,98,42,50,60,99]
def t_b:Bs8:=[98]
def AB:Bs8:=[98,97,115,101]
def WQ:Bs8:=[99,97,112]
def wZ:Bs8:=[100,101,102,105,110,101]
def WR:Bs8:=[100,101,102,105,110,101,32,97,32,61,32,59]
def Va:Bs8:=[100,101,102,105,110,101,32,105,102,32,61,32,49,59]
def xe:Bs8:=[101,108,115,101]
def yZ:Bs8:=[101,120,99,101,112,116]
def vD:Bs8:=[102,114,111,109]
def xR:Bs8:=[103,114,97,99,101]
def zVv:Bs8:=[104,97,108,108]
def zVw:Bs8:=[104,111,109,101]
def zi:Bs8:=[104,111,109,101,32,115,104,111,112,32,119,111,114,107,32,112,97,114,107,32,112,108,97,110,116,32,104,97,108,108]
def zQ4:Bs8:=[104,111,109,101,115]
def zV:Bs8:=[104,111,109,101,115,32,116,114,97,102,102,105,99,32,114,117,110,111,102,102]
def kD:Bs8:=[104,111,117,114,115]
def zjv:Bs8:=[104,111,117,114,115,32,50,53,59]
def WS:Bs8:=[105,102]
def oS:Bs8:=[105,102,32]
def ze5:Bs8:=[105,110]
def vM:Bs8:=[108,101,97,115,116]
def qS:Bs8:=[110,111,116]
def WT:Bs8:=[110,111,116,32]
def zVx:Bs8:=[111,114]
def yH:Bs8:=[111,118,101,114,108,97,121]
def zVy:Bs8:=[112,97,114,107]
def qf:Bs8:=[112,108,97,110,101]
def zQ5:Bs8:=[112,108,97,110,116]
def qU:Bs8:=[114,117,108,101]
def uk:Bs8:=[114,117,108,101,32,114,58,32,117,115,101,115,32,104,111,109,101,32,104,111,109,101,59]
def zJh:Bs8:=[114,117,110,111,102,102]
def zVz:Bs8:=[115,104,111,112]
def jA:Bs8:=[115,108,111,112,101]
def Jf:Bs8:=[115,117,110]
def yy:Bs8:=[116,97,98,108,101]
def vb:Bs8:=[116,97,98,108,101,32]
def uA:Bs8:=[116,104,101,110]
def zCw:Bs8:=[116,114,97,102,102,105,99]
def xF:Bs8:=[117,110,116,105,108]
def oT:Bs8:=[117,115,101,115]
def wc:Bs8:=[118,97,114,121]
def AD:Bs8:=[118,105,101,119]
def zV0:Bs8:=[119,111,114,107]
def zfm:Bs8:=[37]
def Au:Bs8:=[40]
def zgy:Bs8:=[40,32]
def qg:Bs8:=[41]
def zfn:Bs8:=[42]
def zfo:Bs8:=[43]
def kW:Bs8:=[44]
def yU:Bs8:=[45]
def JV:Bs8:=[45,32]
def zfp:Bs8:=[47]
def xM:Bs8:=[58]
def yf:Bs8:=[59]
def xp:Bs8:=[59,44,58,61,60,43,45,42,47,37,40,41]
def zfq:Bs8:=[60]
def qF:Bs8:=[60,61]
def Av:Bs8:=[61]
def qG:Bs8:=[61,61]
def xm:Bs8:=[122,111,110,101]
def oU:Bs8:=[122,111,110,101,32]
def Jg:Bs8:=[122,111,110,101,32,97,32,48,32,48,32,52,32,48,32,52,32,52,59]
def kr:Bs8:=[122,111,110,101,32,99,111,114,101,32,48,32,48,32,52,32,48,32,52,32,52,32,48,32,52,32,59,10]
def qV:Bs8:=[122,111,110,101,32,99,111,114,101,32,48,32,48,32,52,32,48,32,52,32,52,32,48,32,52,59]
variable[Fuel]
def KZ(c_:Int):Option (Bool) :=
 (bif (decide (c_=32))then bc bf else(bif (decide (c_=9))then bc bf else bc (decide (c_=10))))
def Jh(c0:Bs8):Nat->(Int)->Option (Int)
 |0,_=>bh
 |K+1,q=>aN ((bif (decide (q<(c0.length:Int)))then(idx c0 q).bind λx2=>aN (KZ ((x2.toNat:Nat):Int)) λx3=>bc x3 else bc bd)) λx1=>(bif x1 then Jh c0 K (w64 (q+1))else bc q)
def zay(s:Bs8):Option (Int) :=
 aN (Jh s KK 0) λx1=>bc x1
def qh(c_:Int):Option (Bool) :=
 (bif (decide (c_>=97))then bc (decide (c_<=122))else bc bd)
def qW(c_:Int):Option (Bool) :=
 (bif (decide (c_>=48))then bc (decide (c_<=57))else bc bd)
def QN(c_:Int):Option (Bool) :=
 aN (qh c_) λx1=>(bif x1 then bc bf else(qW c_).bind λx2=>bc x2)
def uK(c0:Bs8):Nat->(Int)->Option (Int)
 |0,_=>bh
 |K+1,q=>aN ((bif (decide (q<(c0.length:Int)))then(idx c0 q).bind λx2=>aN (QN ((x2.toNat:Nat):Int)) λx3=>bc x3 else bc bd)) λx1=>(bif x1 then uK c0 K (w64 (q+1))else bc q)
def QO(s:Bs8):Option (Int) :=
 aN (uK s KK 0) λx1=>bc x1
def og(c_:Int):Option (Bool) :=
 aN (qh c_) λx1=>(bif x1 then bc bf else(qW c_).bind λx2=>bc x2)
def uL(c0:Bs8):Nat->(Int)->Option (Int)
 |0,_=>bh
 |K+1,q=>aN ((bif (decide (q<(c0.length:Int)))then(idx c0 q).bind λx2=>aN (og ((x2.toNat:Nat):Int)) λx3=>bc x3 else bc bd)) λx1=>(bif x1 then uL c0 K (w64 (q+1))else bc q)
def QP(s:Bs8):Option (Int) :=
 aN (uL s KK 0) λx1=>bc x1
def WU(s:Bs8):Option (Bool) :=
 aN ((bif (decide (s=([]:Bs8)))then bc bf else(idx s 0).bind λx2=>aN (qh ((x2.toNat:Nat):Int)) λx3=>(bif (!x3)then bc bf else bc (decide ((s.length:Int)>20))))) λx1=>(bif x1 then bc bd else(QP s).bind λx4=>bc (decide (x4=(s.length:Int))))
def uM(c0:Bs8):Nat->(Int)->Option (Int)
 |0,_=>bh
 |K+1,q=>aN ((bif (decide (q<(c0.length:Int)))then(idx c0 q).bind λx2=>aN (qW ((x2.toNat:Nat):Int)) λx3=>bc x3 else bc bd)) λx1=>(bif x1 then uM c0 K (w64 (q+1))else bc q)
def Hk(s:Bs8):Option (Int) :=
 aN (uM s KK 0) λx1=>bc x1
def jc(c0:Bs8)(c1:Int):Nat->(Int×Int)->Option (Int)
 |0,_=>bh
 |K+1,q=>(bif (decide (q.2<c1))then(idx c0 q.2).bind λx1=>jc c0 c1 K ((w64 ((w64 (10*q.1))+(w64 ((IntKind.u8.wrap (((x1.toNat:Nat):Int)-48)))))),(w64 (q.2+1)))else bc q.1)
def QQ(s:Bs8):Option (Int×Bool) :=
 aN ((bif (decide (s=([]:Bs8)))then bc bf else(Hk s).bind λx2=>(bif (!(decide (x2=(s.length:Int))))then bc bf else(idx s 0).bind λx3=>(bif (decide (((x3.toNat:Nat):Int)=48))then(bif (!(decide (s=t_0)))then bc bf else bc (decide ((s.length:Int)>13)))else bc (decide ((s.length:Int)>13)))))) λx1=>(bif x1 then bc (0,bd)else(jc s (s.length:Int) KK (0,0)).bind λx4=>(bif (decide (x4>1099511627776))then bc (0,bd)else bc (x4,bf)))
def VD(a0:Bs8)(a1:Bs8):Option (Bool):=zco a0 a1
def qi(c0:Bs8)(c1:Bs8)(c2:Bs8)(c3:Bs8)(c4:Bs8)(c5:Bs8)(c6:Bs8)(c7:Bs8)(c8:Bs8)(c9:Bs8)(c10:Bs8)(c11:Bs8)(c12:Bs8)(c13:Bs8)(c14:Bs8)(c15:Int)(c16:Bs8):Nat->(Int)->Option ((Int×Int×Bs8×Int×Int)⊕(Unit))
 |0,_=>bh
 |K+1,q=>(bif (decide (q<14))then(idx (α:=Bs8) ([c1,c2,c3,c4,c5,c6,c7,c8,c9,c10,c11,c12,c13,c14]:List Bs8) q).bind λx1=>aN (VD c0 x1) λx2=>(bif x2 then bc (bo (0,2,x1,0,0))else qi c0 c1 c2 c3 c4 c5 c6 c7 c8 c9 c10 c11 c12 c13 c14 c15 c16 K (w64 (q+1)))else bc (br ()))
def zaz(s:Bs8):Option (Int×Int×Bs8×Int×Int) :=
 aN (idx s 0) λx1=>aN (qh ((x1.toNat:Nat):Int)) λx2=>(bif x2 then(QO s).bind λx3=>aN (cut s 0 x3) λx4=>aN (WU x4) λx5=>(bif (!x5)then bc (15,0,([]:Bs8),0,0)else bc (0,0,x4,0,0))else(idx s 0).bind λx6=>aN (qW ((x6.toNat:Nat):Int)) λx7=>(bif x7 then(Hk s).bind λx8=>aN (cut s 0 x8) λx9=>aN (QQ x9) λx10=>(bif (!x10.2)then bc (3,0,([]:Bs8),0,0)else bc (0,1,x9,x10.1,0))else(qi s qF qG yf kW xM Av zfq zfo yU zfn zfp zfm Au qg 0 ([]:Bs8) KK 0).bind (wq bc λ_=>bc (13,0,([]:Bs8),0,0))))
def oi(c0:Bs8):Nat->(Int×(List ar))->Option (((List ar)×Int×Int)⊕(Unit))
 |0,_=>bh
 |K+1,q=>aN (cut c0 q.1 (c0.length:Int)) λx1=>aN (zay x1) λx2=>(bif (decide ((w64 (q.1+x2))=(c0.length:Int)))then(grd (bg (q.2++([(ar.mk 3 ([]:Bs8) 0 (w64 (q.1+x2)))]:List ar))*40<=140737488355328)).bind λ_=>bc (bo ((q.2++([(ar.mk 3 ([]:Bs8) 0 (w64 (q.1+x2)))]:List ar)),0,0))else(cut c0 (w64 (q.1+x2)) (c0.length:Int)).bind λx4=>aN (zaz x4) λx5=>(bif (!(decide (x5.1=0)))then bc (bo ([],(w64 (q.1+x2)),x5.1))else(grd (bg (q.2++([(ar.mk x5.2.1 x5.2.2.1 x5.2.2.2.1 (w64 (q.1+x2)))]:List ar))*40<=140737488355328)).bind λ_=>oi c0 K ((w64 ((w64 (q.1+x2))+(x5.2.2.1.length:Int))),(q.2++([(ar.mk x5.2.1 x5.2.2.1 x5.2.2.2.1 (w64 (q.1+x2)))]:List ar)))))
def VE(s:Bs8):Option ((List ar)×Int×Int) :=
 (bif (decide ((s.length:Int)>8000))then bc ([],0,6)else(oi s KK (0,[])).bind (wq bc λ_=>bh))
def vE(p_l:List ar)(p_at_:Int):Option (Int×Bs8×Int×Int) :=
 aN (idx p_l p_at_) λx1=>bc (x1.aM,x1.Text,x1.N,x1.Pos)
def zcw(p_l:List ar)(p_at_:Int)(s:Bs8):Option (Bool) :=
 aN (vE p_l p_at_) λx1=>(bif (!(decide (x1.1=3)))then(vE p_l p_at_).bind λx2=>bc (decide (x2.2.1=s))else bc bd)
def xz(p_l:List ar)(p_at_:Int)(s:Bs8):Option (Bool×Int) :=
 aN (zcw p_l p_at_ s) λx1=>(bif (!x1)then bc (bd,p_at_)else bc (bf,(w64 (p_at_+1))))
def xK(p_l:List ar)(p_at_:Int):Option (Bool) :=
 aN (vE p_l p_at_) λx1=>bc (decide (x1.1=1))
def yA(p_l:List ar)(p_at_:Int)(is:Bool)(err:Int):Option (Unit) :=
 (bif (!is)then bh else bc ())
def j9(p_l:List ar)(p_at_:Int)(from_:Int)(to_:Int):Option (Int×Int) :=
 aN (xK p_l p_at_) λx1=>aN (yA p_l p_at_ x1 14) λ_=>aN (vE p_l p_at_) λx3=>aN ((bif (decide (x3.2.2.1>=from_))then(yA p_l p_at_ (decide (x3.2.2.1<=to_)) 3).bind λ_=>bc ()else(yA p_l p_at_ bd 3).bind λ_=>bc ())) λ_=>bc (x3.2.2.1,(w64 (p_at_+1)))
def QR(a0:Bs8)(a1:Bs8):Option (Bool):=QM a0 a1
def Vm(s:Bs8):Option (Bool) :=
 aN (WU s) λx1=>(bif x1 then(grd (bg t__+bg s<=9223372036854775807)).bind λ_=>aN (grd (bg (t__++s)+bg t__<=9223372036854775807)) λ_=>aN (QR zh ((t__++s)++t__)) λx4=>bc (!x4)else bc bd)
def oj(p_l:List ar)(p_at_:Int):Option (Bool) :=
 aN (vE p_l p_at_) λx1=>(bif (decide (x1.1=0))then(vE p_l p_at_).bind λx2=>aN (Vm x2.2.1) λx3=>bc x3 else bc bd)
def xq(p_l:List ar)(p_at_:Int):Option (Bs8×Int) :=
 aN (oj p_l p_at_) λx1=>aN (yA p_l p_at_ x1 14) λ_=>aN (idx p_l (w64 ((w64 (p_at_+1))-1))) λx3=>bc (x3.Text,(w64 (p_at_+1)))
def vc:Option ((List zd)) :=
 bc ([(zd.mk zVx 14 1),(zd.mk zCv 13 2),(zd.mk qG 10 4),(zd.mk zfq 11 4),(zd.mk qF 12 4),(zd.mk zfo 4 5),(zd.mk yU 5 5),(zd.mk zfn 6 6),(zd.mk zfp 7 6),(zd.mk zfm 8 6)]:List zd)
def jN(p_l:List ar)(p_at_:Int)(s:Bs8):Option (Int) :=
 aN (xz p_l p_at_ s) λx1=>aN (yA p_l x1.2 x1.1 14) λ_=>bc x1.2
def xS(c0:List ar)(c1:Int)(c2:Int)(c3:Int)(c4:List zd)(c5:Int)(c6:Int)(c7:Bs8)(c8:List Expr)(c9:Int)(c10:Int)(c11:Bs8)(c12:Bs8)(c13:List Expr):Nat->(Int×Bs8×Int×Int)->Option (Bs8×Int×Int)
 |0,_=>bh
 |K+1,q=>(bif (decide (q.1<c5))then(aN (idx c4 q.1) λx2=>aN (zcw c0 c1 x2.text) λx3=>(bif x3 then bc (x2.text,x2.op,x2.form)else bc (q.2.1,q.2.2.1,q.2.2.2))).bind λx1=>xS c0 c1 c2 c3 c4 c5 c6 c7 c8 c9 c10 c11 c12 c13 K ((w64 (q.1+1)),x1.1,x1.2.1,x1.2.2)else bc (q.2.1,q.2.2.1,q.2.2.2))
def jT(r_q_expr:(List ar)->Int->Int->Option (Int×Int×Int×Bs8×Bs8×(List Expr)))(c0:List ar)(c1:Int)(c2:Int)(c3:Bs8)(c4:List Expr):Nat->(Int×Int×Int×Int×Bs8×Bs8×(List Expr))->Option ((Int×Int×Int×Bs8×Bs8×(List Expr))⊕(Unit))
 |0,_=>bh
 |K+1,q=>aN vc λx1=>aN (xS c0 q.1 c1 q.2.1 x1 (x1.length:Int) c2 c3 c4 q.2.2.1 q.2.2.2.1 q.2.2.2.2.1 q.2.2.2.2.2.1 q.2.2.2.2.2.2 KK (0,([]:Bs8),0,0)) λx2=>aN ((bif (decide (x2.1=([]:Bs8)))then bc bf else(bif (decide (x2.2.2<c1))then bc bf else(bif (decide (q.2.1<x2.2.2))then bc bf else(bif (decide (q.2.1=4))then bc (decide (x2.2.2=4))else bc bd))))) λx3=>(bif x3 then bc (bo (q.1,q.2.2.1,q.2.2.2.1,q.2.2.2.2.1,q.2.2.2.2.2.1,q.2.2.2.2.2.2))else(r_q_expr c0 (w64 (q.1+1)) (w64 (x2.2.2+1))).bind λx4=>jT r_q_expr c0 c1 c2 c3 c4 K (x4.1,x2.2.2,x2.2.1,0,([]:Bs8),([]:Bs8),([(Expr.mk q.2.2.1 q.2.2.2.1 q.2.2.2.2.1 q.2.2.2.2.2.1 q.2.2.2.2.2.2),(Expr.mk x4.2.1 x4.2.2.1 x4.2.2.2.1 x4.2.2.2.2.1 x4.2.2.2.2.2)]:List Expr)))
mutual
def ka:Nat->(List ar)->Int->Int->Option (Int×Int×Int×Int×Bs8×Bs8×(List Expr))
 |0,_,_,_=>bh
 |RK+1,p_l,p_at_,form=>aN ((bif (decide (form<=0))then(xz p_l p_at_ WS).bind λx2=>bc (x2.2,x2.1)else bc (p_at_,bd))) λx1=>(bif x1.2 then(ya RK p_l x1.1 0).bind λx3=>aN (jN p_l x3.1 uA) λx4=>aN (ya RK p_l x4 0) λx5=>aN (jN p_l x5.1 xe) λx6=>aN (ya RK p_l x6 0) λx7=>bc (0,x7.1,16,0,([]:Bs8),([]:Bs8),([(Expr.mk x3.2.1 x3.2.2.1 x3.2.2.2.1 x3.2.2.2.2.1 x3.2.2.2.2.2),(Expr.mk x5.2.1 x5.2.2.1 x5.2.2.2.1 x5.2.2.2.2.1 x5.2.2.2.2.2),(Expr.mk x7.2.1 x7.2.2.1 x7.2.2.2.1 x7.2.2.2.2.1 x7.2.2.2.2.2)]:List Expr))else((bif (decide (form<=3))then(xz p_l x1.1 qS).bind λx9=>bc (x9.2,x9.1)else bc (x1.1,bd))).bind λx8=>(bif x8.2 then(ya RK p_l x8.1 3).bind λx10=>bc (3,x10.1,15,0,([]:Bs8),([]:Bs8),([(Expr.mk x10.2.1 x10.2.2.1 x10.2.2.2.1 x10.2.2.2.2.1 x10.2.2.2.2.2)]:List Expr))else((bif (decide (form<=7))then(xz p_l x8.1 yU).bind λx12=>bc (x12.2,x12.1)else bc (x8.1,bd))).bind λx11=>(bif x11.2 then(ya RK p_l x11.1 7).bind λx13=>bc (7,x13.1,9,0,([]:Bs8),([]:Bs8),([(Expr.mk x13.2.1 x13.2.2.1 x13.2.2.2.1 x13.2.2.2.2.1 x13.2.2.2.2.2)]:List Expr))else(xK p_l x11.1).bind λx14=>(bif x14 then(j9 p_l x11.1 0 1099511627776).bind λx15=>bc (8,x15.2,0,x15.1,([]:Bs8),([]:Bs8),[])else(xz p_l x11.1 yy).bind λx16=>(bif x16.1 then(xq p_l x16.2).bind λx17=>aN (xq p_l x17.2) λx18=>bc (8,x18.2,2,0,x17.1,x18.1,[])else(xz p_l x16.2 xm).bind λx19=>(bif x19.1 then(xq p_l x19.2).bind λx20=>bc (8,x20.2,3,0,x20.1,([]:Bs8),[])else(xz p_l x19.2 Au).bind λx21=>(bif x21.1 then(ya RK p_l x21.2 0).bind λx22=>aN (jN p_l x22.1 qg) λx23=>bc (8,x23,x22.2.1,x22.2.2.1,x22.2.2.2.1,x22.2.2.2.2.1,x22.2.2.2.2.2)else(xq p_l x21.2).bind λx24=>bc (8,x24.2,1,0,x24.1,([]:Bs8),[]))))))))
def ya:Nat->(List ar)->Int->Int->Option (Int×Int×Int×Bs8×Bs8×(List Expr))
 |0,_,_,_=>bh
 |RK+1,p_l,p_at_,form=>aN (ka RK p_l p_at_ form) λx1=>(jT (ya RK) p_l form 0 ([]:Bs8) [] KK (x1.2.1,x1.1,x1.2.2.1,x1.2.2.2.1,x1.2.2.2.2.1,x1.2.2.2.2.2.1,x1.2.2.2.2.2.2)).bind (wq bc λ_=>bh)
end
def qj(r_levels:Expr->Option (Int))(c0:List Expr)(c1:Int):Nat->(Int×Int)->Option (Int)
 |0,_=>bh
 |K+1,q=>(bif (decide (q.2<c1))then(idx c0 q.2).bind λx1=>aN (r_levels (Expr.mk x1.Op x1.N x1.S x1.Key x1.Args)) λx2=>qj r_levels c0 c1 K ((max q.1 x2),(w64 (q.2+1)))else bc q.1)
def jd:Nat->Expr->Option (Int)
 |0,_=>bh
 |RK+1,e=>aN (qj (jd RK) e.Args (e.Args.length:Int) KK (0,0)) λx1=>bc (w64 (x1+1))
def WV(p_l:List ar)(p_at_:Int)(c_1_Op:Int)(c_1_N:Int)(c_1_S:Bs8)(c_1_Key:Bs8)(c_1_Args:List Expr):Option (Int×Int×Int×Bs8×Bs8×(List Expr)) :=
 aN (ya KK p_l p_at_ 0) λx1=>aN (vE p_l x1.1) λx2=>aN (yA p_l x1.1 (decide (x2.1=3)) 14) λ_=>aN (jd KK (Expr.mk x1.2.1 x1.2.2.1 x1.2.2.2.1 x1.2.2.2.2.1 x1.2.2.2.2.2)) λx4=>aN (yA p_l x1.1 (decide (x4<=12)) 6) λ_=>bc (x1.1,x1.2.1,x1.2.2.1,x1.2.2.2.1,x1.2.2.2.2.1,x1.2.2.2.2.2)
def QT(p_l:List ar)(p_at_:Int)(err:Int):Option (Int×Int) :=
 aN (vE p_l p_at_) λx1=>bc (x1.2.2.2,err)
def we(p_l:List ar)(p_at_:Int)(is:Bool)(err:Int):Option (Int×Int) :=
 (bif (!is)then(orC (QT p_l p_at_ err) (λx1=>bc x1) bh)else bh)
def AF(p_l:List ar)(p_at_:Int)(s:Bs8):Option (Int×Int) :=
 aN (xz p_l p_at_ s) λx1=>(orC (we p_l x1.2 x1.1 14) (λx2=>bc x2) (aN (yA p_l x1.2 x1.1 14) λ_=>bh))
def oo(p_l:List ar)(p_at_:Int)(from_:Int)(to_:Int):Option (Int×Int) :=
 aN (xK p_l p_at_) λx1=>(orC (we p_l p_at_ x1 14) (λx2=>bc x2) (aN (yA p_l p_at_ x1 14) λ_=>aN (vE p_l p_at_) λx4=>((bif (decide (x4.2.2.1>=from_))then(orC (we p_l p_at_ (decide (x4.2.2.1<=to_)) 3) (λx6=>bc (bo x6)) (aN (yA p_l p_at_ (decide (x4.2.2.1<=to_)) 3) λ_=>bc (br ())))else(orC (we p_l p_at_ bd 3) (λx8=>bc (bo x8)) (aN (yA p_l p_at_ bd 3) λ_=>bc (br ()))))).bind (wq bc λ_=>bh)))
def jO(p_l:List ar)(p_at_:Int):Option (Int×Int) :=
 aN (oj p_l p_at_) λx1=>(orC (we p_l p_at_ x1 14) (λx2=>bc x2) (aN (yA p_l p_at_ x1 14) λ_=>aN (idx p_l (w64 ((w64 (p_at_+1))-1))) λ_=>bh))
def vN(c0:List ar)(c1:Int)(c2:Int)(c3:Int)(c4:List zd)(c5:Int)(c6:Int)(c7:Bs8)(c8:List Expr)(c9:Int)(c10:Int)(c11:Bs8)(c12:Bs8)(c13:List Expr):Nat->(Int×Bs8×Int×Int)->Option (Bs8×Int×Int)
 |0,_=>bh
 |K+1,q=>(bif (decide (q.1<c5))then(aN (idx c4 q.1) λx2=>aN (zcw c0 c1 x2.text) λx3=>(bif x3 then bc (x2.text,x2.op,x2.form)else bc (q.2.1,q.2.2.1,q.2.2.2))).bind λx1=>vN c0 c1 c2 c3 c4 c5 c6 c7 c8 c9 c10 c11 c12 c13 K ((w64 (q.1+1)),x1.1,x1.2.1,x1.2.2)else bc (q.2.1,q.2.2.1,q.2.2.2))
def jU(r_p_q_expr:(List ar)->Int->Int->Option (Int×Int))(c0:List ar)(c1:Int)(c2:Int)(c3:Bs8)(c4:List Expr):Nat->(Int×Int×Int×Int×Bs8×Bs8×(List Expr))->Option ((Int×Int)⊕(Unit))
 |0,_=>bh
 |K+1,q=>aN vc λx1=>aN (vN c0 q.1 c1 q.2.1 x1 (x1.length:Int) c2 c3 c4 q.2.2.1 q.2.2.2.1 q.2.2.2.2.1 q.2.2.2.2.2.1 q.2.2.2.2.2.2 KK (0,([]:Bs8),0,0)) λx2=>aN ((bif (decide (x2.1=([]:Bs8)))then bc bf else(bif (decide (x2.2.2<c1))then bc bf else(bif (decide (q.2.1<x2.2.2))then bc bf else(bif (decide (q.2.1=4))then bc (decide (x2.2.2=4))else bc bd))))) λx3=>(bif x3 then bh else(orC (r_p_q_expr c0 (w64 (q.1+1)) (w64 (x2.2.2+1))) (λx4=>bc (bo x4)) (aN (ya KK c0 (w64 (q.1+1)) (w64 (x2.2.2+1))) λx5=>jU r_p_q_expr c0 c1 c2 c3 c4 K (x5.1,x2.2.2,x2.2.1,0,([]:Bs8),([]:Bs8),([(Expr.mk q.2.2.1 q.2.2.2.1 q.2.2.2.2.1 q.2.2.2.2.2.1 q.2.2.2.2.2.2),(Expr.mk x5.2.1 x5.2.2.1 x5.2.2.2.1 x5.2.2.2.2.1 x5.2.2.2.2.2)]:List Expr)))))
mutual
def oq:Nat->(List ar)->Int->Int->Option (Int×Int)
 |0,_,_,_=>bh
 |RK+1,p_l,p_at_,form=>aN ((bif (decide (form<=0))then(xz p_l p_at_ WS).bind λx2=>bc (x2.2,x2.1)else bc (p_at_,bd))) λx1=>(bif x1.2 then(orC (xa RK p_l x1.1 0) (λx3=>bc x3) (aN (ya KK p_l x1.1 0) λx4=>(orC (AF p_l x4.1 uA) (λx5=>bc x5) (aN (jN p_l x4.1 uA) λx6=>(orC (xa RK p_l x6 0) (λx7=>bc x7) (aN (ya KK p_l x6 0) λx8=>(orC (AF p_l x8.1 xe) (λx9=>bc x9) (aN (jN p_l x8.1 xe) λx10=>(orC (xa RK p_l x10 0) (λx11=>bc x11) (aN (ya KK p_l x10 0) λ_=>bh))))))))))else((bif (decide (form<=3))then(xz p_l x1.1 qS).bind λx14=>bc (x14.2,x14.1)else bc (x1.1,bd))).bind λx13=>(bif x13.2 then(orC (xa RK p_l x13.1 3) (λx15=>bc x15) (aN (ya KK p_l x13.1 3) λ_=>bh))else((bif (decide (form<=7))then(xz p_l x13.1 yU).bind λx18=>bc (x18.2,x18.1)else bc (x13.1,bd))).bind λx17=>(bif x17.2 then(orC (xa RK p_l x17.1 7) (λx19=>bc x19) (aN (ya KK p_l x17.1 7) λ_=>bh))else(xK p_l x17.1).bind λx21=>(bif x21 then(orC (oo p_l x17.1 0 1099511627776) (λx22=>bc x22) (aN (j9 p_l x17.1 0 1099511627776) λ_=>bh))else(xz p_l x17.1 yy).bind λx24=>(bif x24.1 then(orC (jO p_l x24.2) (λx25=>bc x25) (aN (xq p_l x24.2) λx26=>(orC (jO p_l x26.2) (λx27=>bc x27) (aN (xq p_l x26.2) λ_=>bh))))else(xz p_l x24.2 xm).bind λx29=>(bif x29.1 then(orC (jO p_l x29.2) (λx30=>bc x30) (aN (xq p_l x29.2) λ_=>bh))else(xz p_l x29.2 Au).bind λx32=>(bif x32.1 then(orC (xa RK p_l x32.2 0) (λx33=>bc x33) (aN (ya KK p_l x32.2 0) λx34=>(orC (AF p_l x34.1 qg) (λx35=>bc x35) (aN (jN p_l x34.1 qg) λ_=>bh))))else(orC (jO p_l x32.2) (λx37=>bc x37) (aN (xq p_l x32.2) λ_=>bh)))))))))
def xa:Nat->(List ar)->Int->Int->Option (Int×Int)
 |0,_,_,_=>bh
 |RK+1,p_l,p_at_,form=>(orC (oq RK p_l p_at_ form) (λx1=>bc x1) (aN (ka KK p_l p_at_ form) λx2=>(jU (xa RK) p_l form 0 ([]:Bs8) [] KK (x2.2.1,x2.1,x2.2.2.1,x2.2.2.2.1,x2.2.2.2.2.1,x2.2.2.2.2.2.1,x2.2.2.2.2.2.2)).bind (wq bc λ_=>bh)))
end
def WW(p_l:List ar)(p_at_:Int)(c_1_Op:Int)(c_1_N:Int)(c_1_S:Bs8)(c_1_Key:Bs8)(c_1_Args:List Expr):Option (Int×Int) :=
 (orC (xa KK p_l p_at_ 0) (λx1=>bc x1) (aN (ya KK p_l p_at_ 0) λx2=>aN (vE p_l x2.1) λx3=>(orC (we p_l x2.1 (decide (x3.1=3)) 14) (λx4=>bc x4) (aN (yA p_l x2.1 (decide (x3.1=3)) 14) λ_=>aN (jd KK (Expr.mk x2.2.1 x2.2.2.1 x2.2.2.2.1 x2.2.2.2.2.1 x2.2.2.2.2.2)) λx6=>(orC (we p_l x2.1 (decide (x6<=12)) 6) (λx7=>bc x7) (aN (yA p_l x2.1 (decide (x6<=12)) 6) λ_=>bh))))))
def Hl(a0:List ar)(a1:Int)(a2:Int)(a3:Int)(a4:Bs8)(a5:Bs8)(a6:List Expr):Option (Int×Int×Int×Int×Int×Bs8×Bs8×(List Expr)):=aN (WV a0 a1 a2 a3 a4 a5 a6) λq=>bc ((0:Int),(0:Int),q)
def AG(a0:List ar)(a1:Int)(a2:Int)(a3:Int)(a4:Bs8)(a5:Bs8)(a6:List Expr):Option (Int×Int):=WW a0 a1 a2 a3 a4 a5 a6
def zcx(s:Bs8):Option (Int×Int×Int×Int×Bs8×Bs8×(List Expr)) :=
 aN (VE s) λx1=>(bif (!(decide (x1.2.2=0)))then bc (x1.2.1,x1.2.2,0,0,([]:Bs8),([]:Bs8),[])else(orC (Hl x1.1 0 0 0 ([]:Bs8) ([]:Bs8) []) (λx3=>(bif (!(decide (x3.2.1=0)))then bc (x3.1,x3.2.1,0,0,([]:Bs8),([]:Bs8),[])else bc (0,0,x3.2.2.2.1,x3.2.2.2.2.1,x3.2.2.2.2.2.1,x3.2.2.2.2.2.2.1,x3.2.2.2.2.2.2.2))) (orC (AG x1.1 0 0 0 ([]:Bs8) ([]:Bs8) []) (λx2=>(bif (!(decide (x2.2=0)))then bc (x2.1,x2.2,0,0,([]:Bs8),([]:Bs8),[])else bh)) bh)))
def xN(r_right:Expr->Int->Option (Bool))(c0:Int)(c1:List Expr)(c2:Int):Nat->(Int)->Option ((Bool)⊕(Unit))
 |0,_=>bh
 |K+1,q=>(bif (decide (q<c2))then(idx c1 q).bind λx1=>aN (r_right (Expr.mk x1.Op x1.N x1.S x1.Key x1.Args) (w64 (c0-1))) λx2=>(bif (!x2)then bc (bo bd)else xN r_right c0 c1 c2 K (w64 (q+1)))else bc (br ()))
def yp:Nat->Expr->Int->Option (Bool)
 |0,_,_=>bh
 |RK+1,e,depth=>aN ((bif (decide (depth=0))then bc bf else(bif (decide (e.Op<0))then bc bf else bc (decide (e.Op>=17))))) λx1=>(bif x1 then bc bd else((bif (decide (e.Op=0))then bc (br (0,(min (max e.N 0) 1099511627776),([]:Bs8),([]:Bs8)))else((bif (decide (e.Op=1))then bc (decide (e.Op=1))else bc (decide (e.Op=3)))).bind λx3=>(bif x3 then bc (br (0,0,e.S,([]:Bs8)))else(bif (decide (e.Op=2))then(Vm e.Key).bind λx4=>(bif (!x4)then bc (bo bd)else bc (br (0,0,e.S,e.Key)))else((bif (decide (e.Op=9))then bc (decide (e.Op=9))else bc (decide (e.Op=15)))).bind λx5=>(bif x5 then bc (br (1,0,([]:Bs8),([]:Bs8)))else(bif (decide (e.Op=16))then bc (br (3,0,([]:Bs8),([]:Bs8)))else bc (br (2,0,([]:Bs8),([]:Bs8))))))))).bind (wq bc λx2=>aN ((bif (!(decide ((e.Args.length:Int)=x2.1)))then bc bf else(bif (!(decide (x2.2.1=e.N)))then bc bf else(bif (!(decide (x2.2.2.1=e.S)))then bc bf else(bif (!(decide (x2.2.2.2=e.Key)))then bc bf else(bif (decide (x2.1=0))then(bif (!(decide (e.Op=0)))then(Vm e.S).bind λx7=>bc (!x7)else bc bd)else bc bd)))))) λx6=>(bif x6 then bc bd else(xN (yp RK) depth e.Args (e.Args.length:Int) KK 0).bind (wq bc λ_=>bc bf))))
def jV(e:Expr):Option (Bool) :=
 aN (yp KK (Expr.mk e.Op e.N e.S e.Key e.Args) 12) λx1=>bc x1
def Ji(c0:List zd)(c1:Int)(c2:Int)(c3:Int)(c4:Bs8)(c5:Bs8)(c6:List Expr):Nat->(Int)->Option ((Int×Bs8)⊕(Unit))
 |0,_=>bh
 |K+1,q=>(bif (decide (q<c1))then(idx c0 q).bind λx1=>(bif (decide (x1.op=c2))then bc (bo (x1.form,x1.text))else Ji c0 c1 c2 c3 c4 c5 c6 K (w64 (q+1)))else bc (br ()))
def za0(e:Expr):Option (Int×Bs8) :=
 aN vc λx1=>(Ji x1 (x1.length:Int) e.Op e.N e.S e.Key e.Args KK 0).bind (wq bc λ_=>(bif (decide (e.Op=16))then bc (0,([]:Bs8))else(bif (decide (e.Op=15))then bc (3,([]:Bs8))else(bif (decide (e.Op=9))then bc (7,([]:Bs8))else bc (8,([]:Bs8))))))
def yX(a0:Bs8)(a1:Bs8):Option (Int×Bs8):=aN (grd (bg a0+bg a1<=140737488355328)) λ_=>bc ((a1.length:Int),a0++a1)
def ZD(a0:Int):Option (Bs8):=zuh a0
def kd(r_write:Bs8->Expr->Int->Option (Bs8))(c0:Int)(c1:Int)(c2:Int)(c3:Bs8)(c4:Bs8)(c5:List Expr)(c6:List Bs8):Nat->(Bs8×Int)->Option (Bs8)
 |0,_=>bh
 |K+1,q=>(bif (decide (q.2<c0))then(grd (0<=q.2/\q.2<(((bg c6):Nat):Int))).bind λ_=>aN ((c6)[(cg q.2)]?) λx2=>aN (yX q.1 x2) λx3=>aN (idx c5 q.2) λx4=>aN (r_write x3.2 x4 0) λx5=>kd r_write c0 c1 c2 c3 c4 c5 c6 K (x5,(w64 (q.2+1)))else bc q.1)
def ke(r_write:Bs8->Expr->Int->Option (Bs8))(c0:Int)(c1:Int)(c2:Int)(c3:Bs8)(c4:Bs8)(c5:List Expr)(c6:List Bs8):Nat->(Bs8×Int)->Option (Bs8)
 |0,_=>bh
 |K+1,q=>(bif (decide (q.2<c0))then(grd (0<=q.2/\q.2<(((bg c6):Nat):Int))).bind λ_=>aN ((c6)[(cg q.2)]?) λx2=>aN (yX q.1 x2) λx3=>aN (idx c5 q.2) λx4=>aN (r_write x3.2 x4 0) λx5=>ke r_write c0 c1 c2 c3 c4 c5 c6 K (x5,(w64 (q.2+1)))else bc q.1)
def wa:Nat->Bs8->Expr->Int->Option (Bs8)
 |0,_,_,_=>bh
 |RK+1,b,e,form=>aN (za0 (Expr.mk e.Op e.N e.S e.Key e.Args)) λx1=>(bif (decide (x1.1<form))then(yX b zgy).bind λx2=>(bif (decide (e.Op=0))then(ZD e.N).bind λx3=>aN (yX x2.2 x3) λx4=>aN (zzp x4.2) λx5=>bc x5 else(bif (decide (e.Op=1))then(yX x2.2 e.S).bind λx6=>aN (zzp x6.2) λx7=>bc x7 else(bif (decide (e.Op=2))then(grd (bg vb+bg e.S<=9223372036854775807)).bind λ_=>aN (grd (bg (vb++e.S)+bg t__<=9223372036854775807)) λ_=>aN (grd (bg ((vb++e.S)++t__)+bg e.Key<=9223372036854775807)) λ_=>aN (yX x2.2 (((vb++e.S)++t__)++e.Key)) λx11=>aN (zzp x11.2) λx12=>bc x12 else(bif (decide (e.Op=3))then(grd (bg oU+bg e.S<=9223372036854775807)).bind λ_=>aN (yX x2.2 (oU++e.S)) λx14=>aN (zzp x14.2) λx15=>bc x15 else(bif (decide (e.Op=16))then(kd (wa RK) ((3:Nat):Int) e.Op e.N e.S e.Key e.Args ([oS,yN,yM]:List Bs8) KK (x2.2,0)).bind λx16=>aN (zzp x16) λx17=>bc x17 else(bif (decide (e.Op=15))then(yX x2.2 WT).bind λx18=>aN (idx e.Args 0) λx19=>aN (wa RK x18.2 x19 x1.1) λx20=>aN (zzp x20) λx21=>bc x21 else(bif (decide (e.Op=9))then(yX x2.2 JV).bind λx22=>aN (idx e.Args 0) λx23=>aN (wa RK x22.2 x23 x1.1) λx24=>aN (zzp x24) λx25=>bc x25 else((bif (decide (x1.1=4))then bc (w64 (x1.1+1))else bc x1.1)).bind λx26=>aN (idx e.Args 0) λx27=>aN (wa RK x2.2 x27 x26) λx28=>aN (grd (bg t__+bg x1.2<=9223372036854775807)) λ_=>aN (grd (bg (t__++x1.2)+bg t__<=9223372036854775807)) λ_=>aN (yX x28 ((t__++x1.2)++t__)) λx31=>aN (idx e.Args 1) λx32=>aN (wa RK x31.2 x32 (w64 (x1.1+1))) λx33=>aN (zzp x33) λx34=>bc x34)))))))else(bif (decide (e.Op=0))then(ZD e.N).bind λx35=>aN (yX b x35) λx36=>bc x36.2 else(bif (decide (e.Op=1))then(yX b e.S).bind λx37=>bc x37.2 else(bif (decide (e.Op=2))then(grd (bg vb+bg e.S<=9223372036854775807)).bind λ_=>aN (grd (bg (vb++e.S)+bg t__<=9223372036854775807)) λ_=>aN (grd (bg ((vb++e.S)++t__)+bg e.Key<=9223372036854775807)) λ_=>aN (yX b (((vb++e.S)++t__)++e.Key)) λx41=>bc x41.2 else(bif (decide (e.Op=3))then(grd (bg oU+bg e.S<=9223372036854775807)).bind λ_=>aN (yX b (oU++e.S)) λx43=>bc x43.2 else(bif (decide (e.Op=16))then(ke (wa RK) ((3:Nat):Int) e.Op e.N e.S e.Key e.Args ([oS,yN,yM]:List Bs8) KK (b,0)).bind λx44=>bc x44 else(bif (decide (e.Op=15))then(yX b WT).bind λx45=>aN (idx e.Args 0) λx46=>aN (wa RK x45.2 x46 x1.1) λx47=>bc x47 else(bif (decide (e.Op=9))then(yX b JV).bind λx48=>aN (idx e.Args 0) λx49=>aN (wa RK x48.2 x49 x1.1) λx50=>bc x50 else((bif (decide (x1.1=4))then bc (w64 (x1.1+1))else bc x1.1)).bind λx51=>aN (idx e.Args 0) λx52=>aN (wa RK b x52 x51) λx53=>aN (grd (bg t__+bg x1.2<=9223372036854775807)) λ_=>aN (grd (bg (t__++x1.2)+bg t__<=9223372036854775807)) λ_=>aN (yX x53 ((t__++x1.2)++t__)) λx56=>aN (idx e.Args 1) λx57=>aN (wa RK x56.2 x57 (w64 (x1.1+1))) λx58=>bc x58))))))))
def zCx(a0:Bs8):Option (Int):=bc (a0.length:Int)
def qd(a0:Bs8):Option (Bs8):=bc a0
def VF(e:Expr):Option (Bs8×Int) :=
 aN (jV (Expr.mk e.Op e.N e.S e.Key e.Args)) λx1=>(bif (!x1)then bc (([]:Bs8),1)else(wa KK ([]:Bs8) (Expr.mk e.Op e.N e.S e.Key e.Args) 0).bind λx2=>aN (zCx x2) λx3=>(bif (decide (x3>8000))then bc (([]:Bs8),6)else(qd x2).bind λx4=>bc (x4,0)))
def zn(b:BB):Option (Int×Bs8×Int×Int) :=
 aN (idx b.l b.i) λx1=>bc (x1.aM,x1.Text,x1.N,x1.Pos)
def zf(b:BB)(is:Bool)(err:Int):Option (Unit) :=
 (bif (!is)then bh else bc ())
def yO(b:BB)(have_:Int)(most:Int):Option (Int) :=
 aN (zf b (decide (have_<most)) 6) λ_=>bc (w64 (b.i+1))
def zJ(b:BB):Option (Bool) :=
 aN (zn b) λx1=>(bif (decide (x1.1=0))then(zn b).bind λx2=>aN (Vm x2.2.1) λx3=>bc x3 else bc bd)
def zL(b:BB):Option (Bs8×Int) :=
 aN (zJ b) λx1=>aN (zf b x1 14) λ_=>aN (idx b.l (w64 ((w64 (b.i+1))-1))) λx3=>bc (x3.Text,(w64 (b.i+1)))
def K1(b:BB):Option (Bs8×Int×(List Mb8)) :=
 aN (zJ b) λx1=>aN (zf b x1 14) λ_=>aN (zn b) λx3=>aN (HV b.n0) λx4=>aN (zf { b with n0:=[x4] } (!((xj x3.2.1 x4).getD bd)) 5) λ_=>aN (zn { b with n0:=[x4] }) λx6=>aN (HV [x4]) λx7=>aN (zL { b with n0:=[u9 x6.2.1 bf x7] }) λx8=>bc (x8.1,x8.2,[u9 x6.2.1 bf x7])
def zcy(b:BB):Option (Bs8×Int×(List Mb8)) :=
 aN ((bif (dm b.n0)then bc ([([]:List (Bs8×Bool))]:List Mb8)else bc b.n0)) λx1=>aN (K1 { b with n0:=x1 }) λx2=>bc (x2.1,x2.2.1,x2.2.2)
def vF(b:BB)(s:Bs8):Option (Bool) :=
 aN (zn b) λx1=>(bif (!(decide (x1.1=3)))then(zn b).bind λx2=>bc (decide (x2.2.1=s))else bc bd)
def zC(b:BB)(s:Bs8):Option (Bool×Int) :=
 aN (vF b s) λx1=>(bif (!x1)then bc (bd,b.i)else bc (bf,(w64 (b.i+1))))
def zy(b:BB)(s:Bs8):Option (Int) :=
 aN (zC b s) λx1=>aN (zf { b with i:=x1.2 } x1.1 14) λ_=>bc x1.2
def yg(b:BB):Option (Bool) :=
 aN (zn b) λx1=>bc (decide (x1.1=1))
def zk(b:BB)(from_:Int)(to_:Int):Option (Int×Int) :=
 aN (yg b) λx1=>aN (zf b x1 14) λ_=>aN (zn b) λx3=>aN ((bif (decide (x3.2.2.1>=from_))then(zf b (decide (x3.2.2.1<=to_)) 3).bind λ_=>bc ()else(zf b bd 3).bind λ_=>bc ())) λ_=>bc (x3.2.2.1,(w64 (b.i+1)))
def kE(b:BB)(c1:Int)(c17:Int)(c18:Int)(c19:List zd)(c20:Int)(c21:Int)(c22:Bs8)(c23:List Expr)(c24:Int)(c25:Int)(c26:Bs8)(c27:Bs8)(c28:List Expr):Nat->(Int×Bs8×Int×Int)->Option (Bs8×Int×Int)
 |0,_=>bh
 |K+1,q=>(bif (decide (q.1<c20))then(aN (idx c19 q.1) λx2=>aN (vF { b with i:=c1 } x2.text) λx3=>(bif x3 then bc (x2.text,x2.op,x2.form)else bc (q.2.1,q.2.2.1,q.2.2.2))).bind λx1=>kE b c1 c17 c18 c19 c20 c21 c22 c23 c24 c25 c26 c27 c28 K ((w64 (q.1+1)),x1.1,x1.2.1,x1.2.2)else bc (q.2.1,q.2.2.1,q.2.2.2))
def kG(r_q_expr_2:BB->Int->Option (Int×Int×Int×Bs8×Bs8×(List Expr)))(b:BB)(c16:Int)(c17:Int)(c18:Bs8)(c19:List Expr):Nat->(Int×Int×Int×Int×Bs8×Bs8×(List Expr))->Option ((Int×Int×Int×Bs8×Bs8×(List Expr))⊕(Unit))
 |0,_=>bh
 |K+1,q=>aN vc λx1=>aN (kE { b with i:=0 } q.1 c16 q.2.1 x1 (x1.length:Int) c17 c18 c19 q.2.2.1 q.2.2.2.1 q.2.2.2.2.1 q.2.2.2.2.2.1 q.2.2.2.2.2.2 KK (0,([]:Bs8),0,0)) λx2=>aN ((bif (decide (x2.1=([]:Bs8)))then bc bf else(bif (decide (x2.2.2<c16))then bc bf else(bif (decide (q.2.1<x2.2.2))then bc bf else(bif (decide (q.2.1=4))then bc (decide (x2.2.2=4))else bc bd))))) λx3=>(bif x3 then bc (bo (q.1,q.2.2.1,q.2.2.2.1,q.2.2.2.2.1,q.2.2.2.2.2.1,q.2.2.2.2.2.2))else(r_q_expr_2 { b with i:=(w64 (q.1+1)) } (w64 (x2.2.2+1))).bind λx4=>kG r_q_expr_2 b c16 c17 c18 c19 K (x4.1,x2.2.2,x2.2.1,0,([]:Bs8),([]:Bs8),([(Expr.mk q.2.2.1 q.2.2.2.1 q.2.2.2.2.1 q.2.2.2.2.2.1 q.2.2.2.2.2.2),(Expr.mk x4.2.1 x4.2.2.1 x4.2.2.2.1 x4.2.2.2.2.1 x4.2.2.2.2.2)]:List Expr)))
mutual
def qX:Nat->BB->Int->Option (Int×Int×Int×Int×Bs8×Bs8×(List Expr))
 |0,_,_=>bh
 |RK+1,b,form=>aN ((bif (decide (form<=0))then(zC b WS).bind λx2=>bc (x2.2,x2.1)else bc (b.i,bd))) λx1=>(bif x1.2 then(z7 RK { b with i:=x1.1 } 0).bind λx3=>aN (zy { b with i:=x3.1 } uA) λx4=>aN (z7 RK { b with i:=x4 } 0) λx5=>aN (zy { b with i:=x5.1 } xe) λx6=>aN (z7 RK { b with i:=x6 } 0) λx7=>bc (0,x7.1,16,0,([]:Bs8),([]:Bs8),([(Expr.mk x3.2.1 x3.2.2.1 x3.2.2.2.1 x3.2.2.2.2.1 x3.2.2.2.2.2),(Expr.mk x5.2.1 x5.2.2.1 x5.2.2.2.1 x5.2.2.2.2.1 x5.2.2.2.2.2),(Expr.mk x7.2.1 x7.2.2.1 x7.2.2.2.1 x7.2.2.2.2.1 x7.2.2.2.2.2)]:List Expr))else((bif (decide (form<=3))then(zC { b with i:=x1.1 } qS).bind λx9=>bc (x9.2,x9.1)else bc (x1.1,bd))).bind λx8=>(bif x8.2 then(z7 RK { b with i:=x8.1 } 3).bind λx10=>bc (3,x10.1,15,0,([]:Bs8),([]:Bs8),([(Expr.mk x10.2.1 x10.2.2.1 x10.2.2.2.1 x10.2.2.2.2.1 x10.2.2.2.2.2)]:List Expr))else((bif (decide (form<=7))then(zC { b with i:=x8.1 } yU).bind λx12=>bc (x12.2,x12.1)else bc (x8.1,bd))).bind λx11=>(bif x11.2 then(z7 RK { b with i:=x11.1 } 7).bind λx13=>bc (7,x13.1,9,0,([]:Bs8),([]:Bs8),([(Expr.mk x13.2.1 x13.2.2.1 x13.2.2.2.1 x13.2.2.2.2.1 x13.2.2.2.2.2)]:List Expr))else(yg { b with i:=x11.1 }).bind λx14=>(bif x14 then(zk { b with i:=x11.1 } 0 1099511627776).bind λx15=>bc (8,x15.2,0,x15.1,([]:Bs8),([]:Bs8),[])else(zC { b with i:=x11.1 } yy).bind λx16=>(bif x16.1 then(zL { b with i:=x16.2 }).bind λx17=>aN (zL { b with i:=x17.2 }) λx18=>bc (8,x18.2,2,0,x17.1,x18.1,[])else(zC { b with i:=x16.2 } xm).bind λx19=>(bif x19.1 then(zL { b with i:=x19.2 }).bind λx20=>bc (8,x20.2,3,0,x20.1,([]:Bs8),[])else(zC { b with i:=x19.2 } Au).bind λx21=>(bif x21.1 then(z7 RK { b with i:=x21.2 } 0).bind λx22=>aN (zy { b with i:=x22.1 } qg) λx23=>bc (8,x23,x22.2.1,x22.2.2.1,x22.2.2.2.1,x22.2.2.2.2.1,x22.2.2.2.2.2)else(zL { b with i:=x21.2 }).bind λx24=>bc (8,x24.2,1,0,x24.1,([]:Bs8),[]))))))))
def z7:Nat->BB->Int->Option (Int×Int×Int×Bs8×Bs8×(List Expr))
 |0,_,_=>bh
 |RK+1,b,form=>aN (qX RK b form) λx1=>(kG (z7 RK) { b with i:=0 } form 0 ([]:Bs8) [] KK (x1.2.1,x1.1,x1.2.2.1,x1.2.2.2.1,x1.2.2.2.2.1,x1.2.2.2.2.2.1,x1.2.2.2.2.2.2)).bind (wq bc λ_=>bh)
end
def jW(b:BB)(is:Bool)(err:Int):Option (Int) :=
 aN (vF b yf) λx1=>aN (zf b x1 14) λ_=>aN (zf b is err) λ_=>bc (w64 (b.i+1))
def Hm(b:BB):Option (Int×(List Def)×(List Mb8)) :=
 aN (zcy b) λx1=>aN (zy { b with i:=x1.2.1,n0:=x1.2.2 } Av) λx2=>aN (z7 KK { b with i:=x2,n0:=x1.2.2 } 0) λx3=>aN (jd KK (Expr.mk x3.2.1 x3.2.2.1 x3.2.2.2.1 x3.2.2.2.2.1 x3.2.2.2.2.2)) λx4=>aN (jW { b with i:=x3.1,n0:=x1.2.2 } (decide (x4<=12)) 6) λx5=>aN (grd (bg (b.D++([(Def.mk x1.1 (Expr.mk x3.2.1 x3.2.2.1 x3.2.2.2.1 x3.2.2.2.2.1 x3.2.2.2.2.2))]:List Def))*88<=140737488355328)) λ_=>bc (x5,(b.D++([(Def.mk x1.1 (Expr.mk x3.2.1 x3.2.2.1 x3.2.2.2.1 x3.2.2.2.2.1 x3.2.2.2.2.2))]:List Def)),x1.2.2)
def oV(b:BB):Option (Bs8×Int×(List Mb8)) :=
 aN (zJ b) λx1=>aN (zf b x1 14) λ_=>aN (zn b) λx3=>aN (HV b.n1) λx4=>aN (zf { b with n1:=[x4] } (!((xj x3.2.1 x4).getD bd)) 5) λ_=>aN (zn { b with n1:=[x4] }) λx6=>aN (HV [x4]) λx7=>aN (zL { b with n1:=[u9 x6.2.1 bf x7] }) λx8=>bc (x8.1,x8.2,[u9 x6.2.1 bf x7])
def K2(b:BB):Option (Bs8×Int×(List Mb8)) :=
 aN ((bif (dm b.n1)then bc ([([]:List (Bs8×Bool))]:List Mb8)else bc b.n1)) λx1=>aN (oV { b with n1:=x1 }) λx2=>bc (x2.1,x2.2.1,x2.2.2)
def yc(b:BB)(known:Mb8):Option (Bs8×Int×Mb8) :=
 aN (zJ b) λx1=>aN (zf b x1 14) λ_=>aN (zn b) λx3=>aN (zf b (!((xj x3.2.1 known).getD bd)) 5) λ_=>aN (zn b) λx5=>aN (zL b) λx6=>bc (x6.1,x6.2,(u9 x5.2.1 bf known))
def wI(b:BB)(most:Int):Option (Int×Int) :=
 aN (zC b yU) λx1=>(bif x1.1 then(zk { b with i:=x1.2 } 0 most).bind λx2=>bc ((w64 (0-x2.1)),x2.2)else(zk { b with i:=x1.2 } 0 most).bind λx3=>bc (x3.1,x3.2))
def qY(b:BB)(c15:(List Mb8))(c16:Bs8)(c17:Int):Nat->(Int×Mb8×(List aw))->Option (Int×(List aw))
 |0,_=>bh
 |K+1,q=>aN (zJ { b with i:=q.1,n1:=c15 }) λx1=>(bif x1 then(zf { b with i:=q.1,n1:=c15 } (decide ((((bg q.2.2):Nat):Int)<60)) 6).bind λ_=>aN (yc { b with i:=q.1,n1:=c15 } q.2.1) λx3=>aN (wI { b with i:=x3.2.1,n1:=c15 } 1099511627776) λx4=>aN (grd (bg (q.2.2++([(aw.mk x3.1 x4.1)]:List aw))*24<=140737488355328)) λ_=>qY b c15 c16 c17 K (x4.2,x3.2.2,(q.2.2++([(aw.mk x3.1 x4.1)]:List aw)))else bc (q.1,q.2.2))
def K3(b:BB):Option (Int×(List au)×(List Mb8)) :=
 aN (K2 b) λx1=>aN (qY { b with i:=0,n1:=[] } x1.2.2 x1.1 0 KK (x1.2.1,([]:List (Bs8×Bool)),([]:List aw))) λx2=>aN (zy { b with i:=x2.1,n1:=x1.2.2 } xe) λx3=>aN (wI { b with i:=x3,n1:=x1.2.2 } 1099511627776) λx4=>aN (zy { b with i:=x4.2,n1:=x1.2.2 } yf) λx5=>aN (grd (bg (b.T++([(au.mk x1.1 x2.2 x4.1)]:List au))*48<=140737488355328)) λ_=>bc (x5,(b.T++([(au.mk x1.1 x2.2 x4.1)]:List au)),x1.2.2)
def oW(b:BB):Option (Bs8×Int×(List Mb8)) :=
 aN (zJ b) λx1=>aN (zf b x1 14) λ_=>aN (zn b) λx3=>aN (HV b.n2) λx4=>aN (zf { b with n2:=[x4] } (!((xj x3.2.1 x4).getD bd)) 5) λ_=>aN (zn { b with n2:=[x4] }) λx6=>aN (HV [x4]) λx7=>aN (zL { b with n2:=[u9 x6.2.1 bf x7] }) λx8=>bc (x8.1,x8.2,[u9 x6.2.1 bf x7])
def oX(b:BB):Option (Bs8×Int×(List Mb8)) :=
 aN ((bif (dm b.n2)then bc ([([]:List (Bs8×Bool))]:List Mb8)else bc b.n2)) λx1=>aN (oW { b with n2:=x1 }) λx2=>bc (x2.1,x2.2.1,x2.2.2)
def kH(b:BB):Nat->(Int×(List zU))->Option (((List zU)×Int)⊕(Unit))
 |0,_=>bh
 |K+1,q=>aN (zk { b with i:=q.1 } 0 1048576) λx1=>aN (zk { b with i:=x1.2 } 0 1048576) λx2=>aN (grd (bg (q.2++([(zU.mk x1.1 x2.1)]:List zU))*16<=140737488355328)) λ_=>aN (yg { b with i:=x2.2 }) λx4=>(bif (!x4)then bc (bo ((q.2++([(zU.mk x1.1 x2.1)]:List zU)),x2.2))else kH b K (x2.2,(q.2++([(zU.mk x1.1 x2.1)]:List zU))))
def wJ(b:BB):Option ((List zU)×Int) :=
 (kH { b with i:=0 } KK (b.i,[])).bind (wq bc λ_=>bh)
def vd(c0:List zU)(c1:Int):Nat->(Int×(List zI))->Option ((List zI))
 |0,_=>bh
 |K+1,q=>(bif (decide (q.1<c1))then(idx c0 q.1).bind λx1=>aN (grd ((c0.length:Int)≠0)) λ_=>aN (idx c0 (iV (w64 (q.1+1)) (c0.length:Int))) λx3=>aN (grd (0<=q.1/\q.1<(((bg q.2):Nat):Int))) λ_=>aN ((q.2)[(cg q.1)]?) λ_=>vd c0 c1 K ((w64 (q.1+1)),(List.set q.2 (cg q.1) (zI.mk x1 x3)))else bc q.2)
def QU(p:List zU):Option ((List zI)) :=
 aN (grd (0<=(p.length:Int)/\(p.length:Int)*((32:Nat):Int)<=281474976710656/\(p.length:Int)<=9223372036854775807)) λ_=>aN (vd p (p.length:Int) KK (0,(List.replicate (cg (p.length:Int)) (zI.mk (zU.mk 0 0) (zU.mk 0 0))))) λx2=>bc x2
def YZ(p:zU):Option (Bool) :=
 (bif (decide (0<=p.X))then(bif (decide (p.X<=1048576))then(bif (decide (0<=p.Y))then bc (decide (p.Y<=1048576))else bc bd)else bc bd)else bc bd)
def xA(s:zI):Option (Bool) :=
 bc (decide (s.a.X=s.b.X))
def Jj(x_:Int):Option (Bool) :=
 bc (!(decide (x_=x_)))
def kI(x_:Int)(y:Int):Option (Int) :=
 aN (Jj x_) λx1=>aN (Jj y) λx2=>(bif x1 then(bif x2 then bc 0 else bc (-1))else(bif x2 then bc 1 else(bif (decide (x_<y))then bc (-1)else(bif (decide (x_>y))then bc 1 else bc 0))))
def qk(c0:Int)(c1:List Int)(c2:Int):Nat->(Int)->Option ((Int)⊕(Unit))
 |0,_=>bh
 |K+1,q=>(bif (decide (q<c2))then(idx c1 q).bind λx1=>(bif (!(decide (x1=c0)))then bc (bo x1)else qk c0 c1 c2 K (w64 (q+1)))else bc (br ()))
def za1(vals:List Int):Option (Int) :=
 (qk 0 vals (vals.length:Int) KK 0).bind (wq bc λ_=>bc 0)
def Jk(a:zU)(b:zU):Option (Int) :=
 aN (kI a.X b.X) λx1=>aN (kI a.Y b.Y) λx2=>aN (za1 ([x1,x2]:List Int)) λx3=>bc x3
def JW(s:zI)(t:zI):Option (Bool) :=
 (bif (decide ((max (min s.a.X s.b.X) (min t.a.X t.b.X))<=(min (max s.a.X s.b.X) (max t.a.X t.b.X))))then bc (decide ((max (min s.a.Y s.b.Y) (min t.a.Y t.b.Y))<=(min (max s.a.Y s.b.Y) (max t.a.Y t.b.Y))))else bc bd)
def kf(c0:List zU)(c1:List zI)(c2:Int):Nat->(Int)->Option ((Bool)⊕(Unit))
 |0,_=>bh
 |K+1,q=>(bif (decide (q<c2))then(idx c1 q).bind λx1=>aN (grd ((c1.length:Int)≠0)) λ_=>aN (idx c1 (iV (w64 (q+1)) (c1.length:Int))) λx3=>aN (aN (YZ x1.a) λx5=>(bif (!x5)then bc bf else(bif ((decide (x1.a.X=x1.b.X))==(decide (x1.a.Y=x1.b.Y)))then bc bf else(xA x1).bind λx6=>aN (xA x3) λx7=>bc (x6==x7)))) λx4=>(bif x4 then bc (bo bd)else((bif (decide (q>0))then(idx c0 0).bind λx9=>aN (idx c0 q) λx10=>aN (Jk x9 x10) λx11=>bc (decide (x11>=0))else bc bd)).bind λx8=>(bif x8 then bc (bo bd)else kf c0 c1 c2 K (w64 (q+1))))else bc (br ()))
def kg(c0:List zI)(c1:Int)(c2:Int):Nat->(Int)->Option ((Bool)⊕(Unit))
 |0,_=>bh
 |K+1,q=>(bif (decide (q<(c0.length:Int)))then((bif (decide ((w64 ((w64 (c1+(c0.length:Int)))-q))>1))then(idx c0 c1).bind λx2=>aN (idx c0 q) λx3=>aN (JW x2 x3) λx4=>bc x4 else bc bd)).bind λx1=>(bif x1 then bc (bo bd)else kg c0 c1 c2 K (w64 (q+1)))else bc (br ()))
def kh(c0:List zI)(c1:Int):Nat->(Int)->Option ((Bool)⊕(Unit))
 |0,_=>bh
 |K+1,q=>(bif (decide (q<c1))then(kg c0 q c1 KK (w64 (q+2))).bind (wq (λq=>bc (bo q)) λ_=>kh c0 c1 K (w64 (q+1)))else bc (br ()))
def zcz(p:List zU):Option (Bool) :=
 aN ((bif (decide ((p.length:Int)<4))then bc bf else bc (decide ((p.length:Int)>60)))) λx1=>(bif x1 then bc bd else(QU p).bind λx2=>(kf p x2 (x2.length:Int) KK 0).bind (wq bc λ_=>(kh x2 (x2.length:Int) KK 0).bind (wq bc λ_=>aN (idx x2 0) λx5=>aN (xA x5) λx6=>bc (!x6))))
def ve(l:List zU):Option (Bool) :=
 aN (zcz l) λx1=>bc x1
def oY(b:BB):Option (Bs8×Int×(List Mb8)) :=
 aN (zJ b) λx1=>aN (zf b x1 14) λ_=>aN (zn b) λx3=>aN (HV b.n3) λx4=>aN (zf { b with n3:=[x4] } (!((xj x3.2.1 x4).getD bd)) 5) λ_=>aN (zn { b with n3:=[x4] }) λx6=>aN (HV [x4]) λx7=>aN (zL { b with n3:=[u9 x6.2.1 bf x7] }) λx8=>bc (x8.1,x8.2,[u9 x6.2.1 bf x7])
def K4(b:BB):Option (Bs8×Int×(List Mb8)) :=
 aN ((bif (dm b.n3)then bc ([([]:List (Bs8×Bool))]:List Mb8)else bc b.n3)) λx1=>aN (oY { b with n3:=x1 }) λx2=>bc (x2.1,x2.2.1,x2.2.2)
def oZ(b:BB):Nat->(Int×(List Bs8))->Option (Int×(List Bs8))
 |0,_=>bh
 |K+1,q=>aN (zJ { b with i:=q.1 }) λx1=>(bif x1 then(zL { b with i:=q.1 }).bind λx2=>aN (grd (bg (q.2++([x2.1]:List Bs8))*16<=140737488355328)) λ_=>oZ b K (x2.2,(q.2++([x2.1]:List Bs8)))else bc (q.1,q.2))
def uN(b:BB):Option ((List Bs8)×Int) :=
 aN (zL b) λx1=>aN (oZ { b with i:=0 } KK (x1.2,([x1.1]:List Bs8))) λx2=>bc (x2.2,x2.1)
def vG(a0:Bs8):Option ((List Bs8)):=Jb a0
def xO(c0:List Bs8)(c1:Bs8)(c2:Int):Nat->(Int)->Option ((Int)⊕(Unit))
 |0,_=>bh
 |K+1,q=>(bif (decide (q<c2))then(idx c0 q).bind λx1=>(bif (decide (c1=x1))then bc (bo q)else xO c0 c1 c2 K (w64 (q+1)))else bc (br ()))
def A1(s:List Bs8)(v:Bs8):Option (Int) :=
 (xO s v (s.length:Int) KK 0).bind (wq bc λ_=>bc (-1))
def VG(list:Bs8)(s:Bs8):Option (Int) :=
 aN (vG list) λx1=>aN (A1 x1 s) λx2=>bc x2
def xr(b:BB)(list:Bs8):Option (Int×Int) :=
 aN (zn b) λx1=>aN (VG list x1.2.1) λx2=>aN (aN (zn b) λx4=>(bif (decide (x4.1=0))then(zf b (decide (x2>=0)) 14).bind λ_=>bc ()else(zf b bd 14).bind λ_=>bc ())) λ_=>bc (x2,(w64 (b.i+1)))
def Hn(b:BB):Nat->(Int×Int)->Option ((Int×Int)⊕(Unit))
 |0,_=>bh
 | K+1,q=>aN (zn { b with i:=q.1 }) λx1=>aN (VG zi x1.2.1) λx2=>aN ((bif (decide (q.2>0))then(bif (decide (x2<0))then bc bf else(zn { b with i:=q.1 }).bind λx4=>bc (!(decide (x4.1=0))))else bc bd)) λx3=>(bif x3 then bc (bo (q.2,q.1))else((bif (decide (x2<0))then(zf { b with i:=q.1 } bf 5).bind λ_=>bc ()else(grd (0<=x2)).bind λ_=>aN (zf { b with i:=q.1 } (decide ((IntKind.i64.wrap ((cM IntKind.i64.bits (gC q.2 (2 ^ (min (cg x2) IntKind.i64.bits))) &&& cM IntKind.i64.bits 1).toNat:Int))=0)) 5) λ_=>bc ())).bind λ_=>aN (xr { b with i:=q.1 } zi) λx9=>aN (grd (0<=x9.1)) λ_=>Hn b K (x9.2,(IntKind.i64.wrap ((cM IntKind.i64.bits q.2 ||| cM IntKind.i64.bits (w64 (1*2 ^ (min (cg x9.1) IntKind.i64.bits)))).toNat:Int))))
def zc0(b:BB):Option (Int×Int) :=
 (Hn { b with i:=0 } KK (b.i,0)).bind (wq bc λ_=>bh)
def Jl(b:BB):Option (Int×(List zX)×(List Mb8)) :=
 aN (K4 b) λx1=>aN (aN (zC { b with i:=x1.2.1,n3:=x1.2.2 } ze5) λx3=>(bif x3.1 then(uN { b with i:=x3.2,n3:=x1.2.2 }).bind λx4=>bc (x4.2,x4.1)else bc (x3.2,[]))) λx2=>aN (aN (zC { b with i:=x2.1,n3:=x1.2.2 } yZ) λx6=>(bif x6.1 then(uN { b with i:=x6.2,n3:=x1.2.2 }).bind λx7=>bc (x7.2,x7.1)else bc (x6.2,[]))) λx5=>aN (aN (zC { b with i:=x5.1,n3:=x1.2.2 } vD) λx9=>(bif x9.1 then(zk { b with i:=x9.2,n3:=x1.2.2 } 0 1073741824).bind λx10=>bc (x10.2,x10.1)else bc (x9.2,0))) λx8=>aN (aN (zC { b with i:=x8.1,n3:=x1.2.2 } xF) λx12=>(bif x12.1 then(zk { b with i:=x12.2,n3:=x1.2.2 } (w64 (x8.2+1)) 1073741824).bind λx13=>bc (x13.2,x13.1)else bc (x12.2,0))) λx11=>aN (aN (zC { b with i:=x11.1,n3:=x1.2.2 } xR) λx15=>(bif x15.1 then(zk { b with i:=x15.2,n3:=x1.2.2 } 0 1073741824).bind λx16=>bc (x16.2,x16.1)else bc (x15.2,0))) λx14=>aN (zC { b with i:=x14.1,n3:=x1.2.2 } wc) λx17=>aN (zy { b with i:=x17.2,n3:=x1.2.2 } xM) λx18=>aN (aN (zC { b with i:=x18,n3:=x1.2.2 } qf) λx20=>(bif x20.1 then(zk { b with i:=x20.2,n3:=x1.2.2 } 0 3).bind λx21=>aN (zy { b with i:=x21.2,n3:=x1.2.2 } AB) λx22=>aN (zk { b with i:=x22,n3:=x1.2.2 } 0 4096) λx23=>aN (zy { b with i:=x23.2,n3:=x1.2.2 } jA) λx24=>aN (zk { b with i:=x24,n3:=x1.2.2 } 0 4096) λx25=>aN (zk { b with i:=x25.2,n3:=x1.2.2 } 1 4096) λx26=>aN (zy { b with i:=x26.2,n3:=x1.2.2 } yf) λx27=>bc (x27,1,0,0,([]:Bs8),([]:Bs8),[],x21.1,x23.1,x25.1,x26.1,0,0,0)else(zC { b with i:=x20.2,n3:=x1.2.2 } oT).bind λx28=>(bif x28.1 then(zc0 { b with i:=x28.2,n3:=x1.2.2 }).bind λx29=>aN (zy { b with i:=x29.2,n3:=x1.2.2 } yf) λx30=>bc (x30,2,0,0,([]:Bs8),([]:Bs8),[],0,0,0,0,x29.1,0,0)else(zC { b with i:=x28.2,n3:=x1.2.2 } qe).bind λx31=>(bif x31.1 then(xr { b with i:=x31.2,n3:=x1.2.2 } zi).bind λx32=>aN (xr { b with i:=x32.2,n3:=x1.2.2 } zi) λx33=>aN (zk { b with i:=x33.2,n3:=x1.2.2 } 0 1048576) λx34=>aN (zy { b with i:=x34.2,n3:=x1.2.2 } yf) λx35=>bc (x35,3,0,0,([]:Bs8),([]:Bs8),[],0,0,0,0,x32.1,x33.1,x34.1)else(z7 KK { b with i:=x31.2,n3:=x1.2.2 } 0).bind λx36=>aN (jd KK (Expr.mk x36.2.1 x36.2.2.1 x36.2.2.2.1 x36.2.2.2.2.1 x36.2.2.2.2.2)) λx37=>aN (jW { b with i:=x36.1,n3:=x1.2.2 } (decide (x37<=12)) 6) λx38=>bc (x38,0,x36.2.1,x36.2.2.1,x36.2.2.2.1,x36.2.2.2.2.1,x36.2.2.2.2.2,0,0,0,0,0,0,0))))) λx19=>aN (grd (bg (b.R++([(zX.mk x1.1 x2.2 x5.2 x8.2 x11.2 x14.2 x17.1 x19.2.1 (Expr.mk x19.2.2.1 x19.2.2.2.1 x19.2.2.2.2.1 x19.2.2.2.2.2.1 x19.2.2.2.2.2.2.1) (zx.mk x19.2.2.2.2.2.2.2.1 x19.2.2.2.2.2.2.2.2.1 x19.2.2.2.2.2.2.2.2.2.1 x19.2.2.2.2.2.2.2.2.2.2.1) x19.2.2.2.2.2.2.2.2.2.2.2.1 x19.2.2.2.2.2.2.2.2.2.2.2.2.1 x19.2.2.2.2.2.2.2.2.2.2.2.2.2)]:List zX))*232<=140737488355328)) λ_=>bc (x19.1,(b.R++([(zX.mk x1.1 x2.2 x5.2 x8.2 x11.2 x14.2 x17.1 x19.2.1 (Expr.mk x19.2.2.1 x19.2.2.2.1 x19.2.2.2.2.1 x19.2.2.2.2.2.1 x19.2.2.2.2.2.2.1) (zx.mk x19.2.2.2.2.2.2.2.1 x19.2.2.2.2.2.2.2.2.1 x19.2.2.2.2.2.2.2.2.2.1 x19.2.2.2.2.2.2.2.2.2.2.1) x19.2.2.2.2.2.2.2.2.2.2.2.1 x19.2.2.2.2.2.2.2.2.2.2.2.2.1 x19.2.2.2.2.2.2.2.2.2.2.2.2.2)]:List zX)),x1.2.2)
def o4(b:BB):Option (Bs8×Int×(List Mb8)) :=
 aN (zJ b) λx1=>aN (zf b x1 14) λ_=>aN (zn b) λx3=>aN (HV b.n4) λx4=>aN (zf { b with n4:=[x4] } (!((xj x3.2.1 x4).getD bd)) 5) λ_=>aN (zn { b with n4:=[x4] }) λx6=>aN (HV [x4]) λx7=>aN (zL { b with n4:=[u9 x6.2.1 bf x7] }) λx8=>bc (x8.1,x8.2,[u9 x6.2.1 bf x7])
def o5(b:BB):Option (Bs8×Int×(List Mb8)) :=
 aN ((bif (dm b.n4)then bc ([([]:List (Bs8×Bool))]:List Mb8)else bc b.n4)) λx1=>aN (o4 { b with n4:=x1 }) λx2=>bc (x2.1,x2.2.1,x2.2.2)
def o6(b:BB):Option (Bs8×Int×(List Mb8)) :=
 aN (zJ b) λx1=>aN (zf b x1 14) λ_=>aN (zn b) λx3=>aN (HV b.n5) λx4=>aN (zf { b with n5:=[x4] } (!((xj x3.2.1 x4).getD bd)) 5) λ_=>aN (zn { b with n5:=[x4] }) λx6=>aN (HV [x4]) λx7=>aN (zL { b with n5:=[u9 x6.2.1 bf x7] }) λx8=>bc (x8.1,x8.2,[u9 x6.2.1 bf x7])
def K5(b:BB):Option (Bs8×Int×(List Mb8)) :=
 aN ((bif (dm b.n5)then bc ([([]:List (Bs8×Bool))]:List Mb8)else bc b.n5)) λx1=>aN (o6 { b with n5:=x1 }) λx2=>bc (x2.1,x2.2.1,x2.2.2)
def kJ(b:BB):Option (Int×Int×Int×Int) :=
 aN (zk b 0 1048576) λx1=>aN (zk { b with i:=x1.2 } 0 1048576) λx2=>aN (zk { b with i:=x2.2 } 0 4096) λx3=>bc (x3.2,x1.1,x2.1,x3.1)
def o7(b:BB)(c15:(List Mb8))(c16:Bs8)(c17:Int)(c18:Int)(c19:Int)(c20:Int):Nat->(Int×(List zg))->Option (Int×(List zg))
 |0,_=>bh
 |K+1,q=>aN (yg { b with i:=q.1,n5:=c15 }) λx1=>(bif x1 then(zf { b with i:=q.1,n5:=c15 } (decide ((((bg q.2):Nat):Int)<20)) 6).bind λ_=>aN (kJ { b with i:=q.1,n5:=c15 }) λx3=>aN (grd (bg (q.2++([(zg.mk x3.2.1 x3.2.2.1 x3.2.2.2)]:List zg))*24<=140737488355328)) λ_=>o7 b c15 c16 c17 c18 c19 c20 K (x3.1,(q.2++([(zg.mk x3.2.1 x3.2.2.1 x3.2.2.2)]:List zg)))else bc (q.1,q.2))
def Jm(b:BB):Option (Int×(List av)×(List Mb8)) :=
 aN (K5 b) λx1=>aN (kJ { b with i:=x1.2.1,n5:=x1.2.2 }) λx2=>aN (zy { b with i:=x2.1,n5:=x1.2.2 } vM) λx3=>aN (zk { b with i:=x3,n5:=x1.2.2 } 0 20) λx4=>aN (zy { b with i:=x4.2,n5:=x1.2.2 } xM) λx5=>aN (kJ { b with i:=x5,n5:=x1.2.2 }) λx6=>aN (grd (bg (([]:List zg)++([(zg.mk x6.2.1 x6.2.2.1 x6.2.2.2)]:List zg))*24<=140737488355328)) λ_=>aN (o7 { b with i:=0,n5:=[] } x1.2.2 x1.1 x2.2.1 x2.2.2.1 x2.2.2.2 x4.1 KK (x6.1,(([]:List zg)++([(zg.mk x6.2.1 x6.2.2.1 x6.2.2.2)]:List zg)))) λx8=>aN (zy { b with i:=x8.1,n5:=x1.2.2 } yf) λx9=>aN (grd (bg (b.V++([(av.mk x1.1 (zg.mk x2.2.1 x2.2.2.1 x2.2.2.2) x4.1 x8.2)]:List av))*72<=140737488355328)) λ_=>bc (x9,(b.V++([(av.mk x1.1 (zg.mk x2.2.1 x2.2.2.1 x2.2.2.2) x4.1 x8.2)]:List av)),x1.2.2)
def ou(b:BB):Nat->(Int×(List zg)×Bool)->Option (Int×(List zg))
 |0,_=>bh
 |K+1,q=>(bif q.2.2 then(aN (vF { b with i:=q.1,S:=q.2.1 } yU) λx2=>(bif x2 then(zf { b with i:=q.1,S:=q.2.1 } bf 14).bind λ_=>bc ()else(yg { b with i:=q.1,S:=q.2.1 }).bind λx4=>aN (zf { b with i:=q.1,S:=q.2.1 } x4 14) λ_=>bc ())).bind λ_=>aN (zf { b with i:=q.1,S:=q.2.1 } (decide ((((bg q.2.1):Nat):Int)<24)) 6) λ_=>aN (wI { b with i:=q.1,S:=q.2.1 } 4096) λx7=>aN (wI { b with i:=x7.2,S:=q.2.1 } 4096) λx8=>aN (zk { b with i:=x8.2,S:=q.2.1 } 1 4096) λx9=>aN (grd (bg (q.2.1++([(zg.mk x7.1 x8.1 x9.1)]:List zg))*24<=140737488355328)) λ_=>aN (zC { b with i:=x9.2,S:=(q.2.1++([(zg.mk x7.1 x8.1 x9.1)]:List zg)) } kW) λx11=>ou b K (x11.2,(q.2.1++([(zg.mk x7.1 x8.1 x9.1)]:List zg)),x11.1)else bc (q.1,q.2.1))
def VH(b:BB):Option (Int×(List zg)) :=
 aN (ou { b with i:=0,S:=[] } KK (b.i,b.S,bf)) λx1=>aN (zy { b with i:=x1.1,S:=x1.2 } yf) λx2=>bc (x2,x1.2)
def zb(b:BB)(q:Int×Int×Bool×(List Def)×(List au)×(List yD)×(List zX)×(List Cap)×(List av)×(List zg)×(List Mb8)×(List Mb8)×(List Mb8)×(List Mb8)×(List Mb8)×(List Mb8)):BB:={ b with i:=q.1,H:=q.2.1,h:=q.2.2.1,D:=q.2.2.2.1,T:=q.2.2.2.2.1,Z:=q.2.2.2.2.2.1,R:=q.2.2.2.2.2.2.1,C:=q.2.2.2.2.2.2.2.1,V:=q.2.2.2.2.2.2.2.2.1,S:=q.2.2.2.2.2.2.2.2.2.1,n0:=q.2.2.2.2.2.2.2.2.2.2.1,n1:=q.2.2.2.2.2.2.2.2.2.2.2.1,n2:=q.2.2.2.2.2.2.2.2.2.2.2.2.1,n3:=q.2.2.2.2.2.2.2.2.2.2.2.2.2.1,n4:=q.2.2.2.2.2.2.2.2.2.2.2.2.2.2.1,n5:=q.2.2.2.2.2.2.2.2.2.2.2.2.2.2.2 }
def yi(b:BB):Nat->(Int×Int×Bool×(List Def)×(List au)×(List yD)×(List zX)×(List Cap)×(List av)×(List zg)×(List Mb8)×(List Mb8)×(List Mb8)×(List Mb8)×(List Mb8)×(List Mb8))->Option (Int×Int×Bool×(List Def)×(List au)×(List yD)×(List zX)×(List Cap)×(List av)×(List zg)×(List Mb8)×(List Mb8)×(List Mb8)×(List Mb8)×(List Mb8)×(List Mb8))
 |0,_=>bh
 |K+1,q=>aN (zn { (zb b q)with l:=b.l }) λx1=>(bif (!(decide (x1.1=3)))then(zn { (zb b q)with l:=b.l }).bind λx2=>(bif (decide (x2.2.1=wZ))then(yO { (zb b q)with l:=b.l } (((bg ((zb b q).D)):Nat):Int) 60).bind λx3=>aN (Hm { (zb b q)with l:=b.l,i:=x3 }) λx4=>yi b K (x4.1,(zb b q).H,(zb b q).h,x4.2.1,(zb b q).T,(zb b q).Z,(zb b q).R,(zb b q).C,(zb b q).V,(zb b q).S,x4.2.2,(zb b q).n1,(zb b q).n2,(zb b q).n3,(zb b q).n4,(zb b q).n5)else(bif (decide (x2.2.1=yy))then(yO { (zb b q)with l:=b.l } (((bg ((zb b q).T)):Nat):Int) 60).bind λx5=>aN (K3 { (zb b q)with l:=b.l,i:=x5 }) λx6=>yi b K (x6.1,(zb b q).H,(zb b q).h,(zb b q).D,x6.2.1,(zb b q).Z,(zb b q).R,(zb b q).C,(zb b q).V,(zb b q).S,(zb b q).n0,x6.2.2,(zb b q).n2,(zb b q).n3,(zb b q).n4,(zb b q).n5)else(bif (decide (x2.2.1=xm))then(bif (decide (x2.2.1=xm))then(vF { (zb b q)with l:=b.l } yH).bind λx7=>aN (yO { (zb b q)with l:=b.l } (((bg ((zb b q).Z)):Nat):Int) 60) λx8=>aN (oX { (zb b q)with l:=b.l,i:=x8 }) λx9=>aN (wJ { (zb b q)with l:=b.l,i:=x9.2.1,n2:=x9.2.2 }) λx10=>aN (ve x10.1) λx11=>aN (jW { (zb b q)with l:=b.l,i:=x10.2,n2:=x9.2.2 } x11 10) λx12=>aN (grd (bg ((zb b q).Z++([(yD.mk x9.1 x7 x10.1)]:List yD))*48<=140737488355328)) λ_=>yi b K (x12,(zb b q).H,(zb b q).h,(zb b q).D,(zb b q).T,((zb b q).Z++([(yD.mk x9.1 x7 x10.1)]:List yD)),(zb b q).R,(zb b q).C,(zb b q).V,(zb b q).S,(zb b q).n0,(zb b q).n1,x9.2.2,(zb b q).n3,(zb b q).n4,(zb b q).n5)else(bif (decide (x2.2.1=qU))then(yO { (zb b q)with l:=b.l } (((bg ((zb b q).R)):Nat):Int) 200).bind λx14=>aN (Jl { (zb b q)with l:=b.l,i:=x14 }) λx15=>yi b K (x15.1,(zb b q).H,(zb b q).h,(zb b q).D,(zb b q).T,(zb b q).Z,x15.2.1,(zb b q).C,(zb b q).V,(zb b q).S,(zb b q).n0,(zb b q).n1,(zb b q).n2,x15.2.2,(zb b q).n4,(zb b q).n5)else(bif (decide (x2.2.1=WQ))then(yO { (zb b q)with l:=b.l } (((bg ((zb b q).C)):Nat):Int) 30).bind λx16=>aN (o5 { (zb b q)with l:=b.l,i:=x16 }) λx17=>aN (xr { (zb b q)with l:=b.l,i:=x17.2.1,n4:=x17.2.2 } zV) λx18=>aN (zk { (zb b q)with l:=b.l,i:=x18.2,n4:=x17.2.2 } 0 1099511627776) λx19=>aN (wJ { (zb b q)with l:=b.l,i:=x19.2,n4:=x17.2.2 }) λx20=>aN (ve x20.1) λx21=>aN (jW { (zb b q)with l:=b.l,i:=x20.2,n4:=x17.2.2 } x21 10) λx22=>aN (grd (bg ((zb b q).C++([(Cap.mk x17.1 x18.1 x19.1 x20.1)]:List Cap))*56<=140737488355328)) λ_=>yi b K (x22,(zb b q).H,(zb b q).h,(zb b q).D,(zb b q).T,(zb b q).Z,(zb b q).R,((zb b q).C++([(Cap.mk x17.1 x18.1 x19.1 x20.1)]:List Cap)),(zb b q).V,(zb b q).S,(zb b q).n0,(zb b q).n1,(zb b q).n2,(zb b q).n3,x17.2.2,(zb b q).n5)else(bif (decide (x2.2.1=AD))then(yO { (zb b q)with l:=b.l } (((bg ((zb b q).V)):Nat):Int) 60).bind λx24=>aN (Jm { (zb b q)with l:=b.l,i:=x24 }) λx25=>yi b K (x25.1,(zb b q).H,(zb b q).h,(zb b q).D,(zb b q).T,(zb b q).Z,(zb b q).R,(zb b q).C,x25.2.1,(zb b q).S,(zb b q).n0,(zb b q).n1,(zb b q).n2,(zb b q).n3,(zb b q).n4,x25.2.2)else(bif (decide (x2.2.1=Jf))then(zf { (zb b q)with l:=b.l } (decide (((bg ((zb b q).S)):Nat)=0)) 5).bind λ_=>aN (VH { (zb b q)with l:=b.l,i:=(w64 ((zb b q).i+1)) }) λx27=>yi b K (x27.1,(zb b q).H,(zb b q).h,(zb b q).D,(zb b q).T,(zb b q).Z,(zb b q).R,(zb b q).C,(zb b q).V,x27.2,(zb b q).n0,(zb b q).n1,(zb b q).n2,(zb b q).n3,(zb b q).n4,(zb b q).n5)else(bif (decide (x2.2.1=kD))then(zf { (zb b q)with l:=b.l } (!(zb b q).h) 5).bind λ_=>aN (zk { (zb b q)with l:=b.l,i:=(w64 ((zb b q).i+1)) } 0 24) λx29=>aN (zy { (zb b q)with l:=b.l,i:=x29.2,H:=x29.1,h:=bf } yf) λx30=>yi b K (x30,x29.1,bf,(zb b q).D,(zb b q).T,(zb b q).Z,(zb b q).R,(zb b q).C,(zb b q).V,(zb b q).S,(zb b q).n0,(zb b q).n1,(zb b q).n2,(zb b q).n3,(zb b q).n4,(zb b q).n5)else bh))))))else(bif (decide (x2.2.1=yH))then(vF { (zb b q)with l:=b.l } yH).bind λx31=>aN (yO { (zb b q)with l:=b.l } (((bg ((zb b q).Z)):Nat):Int) 60) λx32=>aN (oX { (zb b q)with l:=b.l,i:=x32 }) λx33=>aN (wJ { (zb b q)with l:=b.l,i:=x33.2.1,n2:=x33.2.2 }) λx34=>aN (ve x34.1) λx35=>aN (jW { (zb b q)with l:=b.l,i:=x34.2,n2:=x33.2.2 } x35 10) λx36=>aN (grd (bg ((zb b q).Z++([(yD.mk x33.1 x31 x34.1)]:List yD))*48<=140737488355328)) λ_=>yi b K (x36,(zb b q).H,(zb b q).h,(zb b q).D,(zb b q).T,((zb b q).Z++([(yD.mk x33.1 x31 x34.1)]:List yD)),(zb b q).R,(zb b q).C,(zb b q).V,(zb b q).S,(zb b q).n0,(zb b q).n1,x33.2.2,(zb b q).n3,(zb b q).n4,(zb b q).n5)else(bif (decide (x2.2.1=qU))then(yO { (zb b q)with l:=b.l } (((bg ((zb b q).R)):Nat):Int) 200).bind λx38=>aN (Jl { (zb b q)with l:=b.l,i:=x38 }) λx39=>yi b K (x39.1,(zb b q).H,(zb b q).h,(zb b q).D,(zb b q).T,(zb b q).Z,x39.2.1,(zb b q).C,(zb b q).V,(zb b q).S,(zb b q).n0,(zb b q).n1,(zb b q).n2,x39.2.2,(zb b q).n4,(zb b q).n5)else(bif (decide (x2.2.1=WQ))then(yO { (zb b q)with l:=b.l } (((bg ((zb b q).C)):Nat):Int) 30).bind λx40=>aN (o5 { (zb b q)with l:=b.l,i:=x40 }) λx41=>aN (xr { (zb b q)with l:=b.l,i:=x41.2.1,n4:=x41.2.2 } zV) λx42=>aN (zk { (zb b q)with l:=b.l,i:=x42.2,n4:=x41.2.2 } 0 1099511627776) λx43=>aN (wJ { (zb b q)with l:=b.l,i:=x43.2,n4:=x41.2.2 }) λx44=>aN (ve x44.1) λx45=>aN (jW { (zb b q)with l:=b.l,i:=x44.2,n4:=x41.2.2 } x45 10) λx46=>aN (grd (bg ((zb b q).C++([(Cap.mk x41.1 x42.1 x43.1 x44.1)]:List Cap))*56<=140737488355328)) λ_=>yi b K (x46,(zb b q).H,(zb b q).h,(zb b q).D,(zb b q).T,(zb b q).Z,(zb b q).R,((zb b q).C++([(Cap.mk x41.1 x42.1 x43.1 x44.1)]:List Cap)),(zb b q).V,(zb b q).S,(zb b q).n0,(zb b q).n1,(zb b q).n2,(zb b q).n3,x41.2.2,(zb b q).n5)else(bif (decide (x2.2.1=AD))then(yO { (zb b q)with l:=b.l } (((bg ((zb b q).V)):Nat):Int) 60).bind λx48=>aN (Jm { (zb b q)with l:=b.l,i:=x48 }) λx49=>yi b K (x49.1,(zb b q).H,(zb b q).h,(zb b q).D,(zb b q).T,(zb b q).Z,(zb b q).R,(zb b q).C,x49.2.1,(zb b q).S,(zb b q).n0,(zb b q).n1,(zb b q).n2,(zb b q).n3,(zb b q).n4,x49.2.2)else(bif (decide (x2.2.1=Jf))then(zf { (zb b q)with l:=b.l } (decide (((bg ((zb b q).S)):Nat)=0)) 5).bind λ_=>aN (VH { (zb b q)with l:=b.l,i:=(w64 ((zb b q).i+1)) }) λx51=>yi b K (x51.1,(zb b q).H,(zb b q).h,(zb b q).D,(zb b q).T,(zb b q).Z,(zb b q).R,(zb b q).C,(zb b q).V,x51.2,(zb b q).n0,(zb b q).n1,(zb b q).n2,(zb b q).n3,(zb b q).n4,(zb b q).n5)else(bif (decide (x2.2.1=kD))then(zf { (zb b q)with l:=b.l } (!(zb b q).h) 5).bind λ_=>aN (zk { (zb b q)with l:=b.l,i:=(w64 ((zb b q).i+1)) } 0 24) λx53=>aN (zy { (zb b q)with l:=b.l,i:=x53.2,H:=x53.1,h:=bf } yf) λx54=>yi b K (x54,x53.1,bf,(zb b q).D,(zb b q).T,(zb b q).Z,(zb b q).R,(zb b q).C,(zb b q).V,(zb b q).S,(zb b q).n0,(zb b q).n1,(zb b q).n2,(zb b q).n3,(zb b q).n4,(zb b q).n5)else bh)))))))))else bc ((zb b q).i,(zb b q).H,(zb b q).h,(zb b q).D,(zb b q).T,(zb b q).Z,(zb b q).R,(zb b q).C,(zb b q).V,(zb b q).S,(zb b q).n0,(zb b q).n1,(zb b q).n2,(zb b q).n3,(zb b q).n4,(zb b q).n5))
def zjw(b:BB):Option (Int×Int×Bool×(List Def)×(List au)×(List yD)×(List zX)×(List Cap)×(List av)×(List zg)×(List Mb8)×(List Mb8)×(List Mb8)×(List Mb8)×(List Mb8)×(List Mb8)) :=
 aN (yi { b with i:=0,D:=[],T:=[],Z:=[],R:=[],C:=[],V:=[],S:=[],H:=0,n0:=[],n1:=[],n2:=[],n3:=[],n4:=[],n5:=[],h:=bd } KK (b.i,b.H,b.h,b.D,b.T,b.Z,b.R,b.C,b.V,b.S,b.n0,b.n1,b.n2,b.n3,b.n4,b.n5)) λx1=>bc (x1.1,x1.2.1,x1.2.2.1,x1.2.2.2.1,x1.2.2.2.2.1,x1.2.2.2.2.2.1,x1.2.2.2.2.2.2.1,x1.2.2.2.2.2.2.2.1,x1.2.2.2.2.2.2.2.2.1,x1.2.2.2.2.2.2.2.2.2.1,x1.2.2.2.2.2.2.2.2.2.2.1,x1.2.2.2.2.2.2.2.2.2.2.2.1,x1.2.2.2.2.2.2.2.2.2.2.2.2.1,x1.2.2.2.2.2.2.2.2.2.2.2.2.2.1,x1.2.2.2.2.2.2.2.2.2.2.2.2.2.2.1,x1.2.2.2.2.2.2.2.2.2.2.2.2.2.2.2)
def Ho(b:BB)(err:Int):Option (Int×Int) :=
 aN (zn b) λx1=>bc (x1.2.2.2,err)
def zt(b:BB)(is:Bool)(err:Int):Option (Int×Int) :=
 (bif (!is)then(orC (Ho b err) (λx1=>bc x1) bh)else bh)
def je(b:BB)(have_:Int)(most:Int):Option (Int×Int) :=
 (orC (zt b (decide (have_<most)) 6) (λx1=>bc x1) (aN (zf b (decide (have_<most)) 6) λ_=>bh))
def yS(b:BB):Option (Int×Int) :=
 aN (zJ b) λx1=>(orC (zt b x1 14) (λx2=>bc x2) (aN (zf b x1 14) λ_=>aN (idx b.l (w64 ((w64 (b.i+1))-1))) λ_=>bh))
def WX(b:BB):Option (Int×Int) :=
 aN (zJ b) λx1=>(orC (zt b x1 14) (λx2=>bc x2) (aN (zf b x1 14) λ_=>aN (zn b) λx4=>aN (HV b.n0) λx5=>(orC (zt { b with n0:=[x5] } (!((xj x4.2.1 x5).getD bd)) 5) (λx6=>bc x6) (aN (zf { b with n0:=[x5] } (!((xj x4.2.1 x5).getD bd)) 5) λ_=>aN (zn { b with n0:=[x5] }) λx8=>aN (HV [x5]) λx9=>(orC (yS { b with n0:=[u9 x8.2.1 bf x9] }) (λx10=>bc x10) (aN (zL { b with n0:=[u9 x8.2.1 bf x9] }) λ_=>bh))))))
def zjx(b:BB):Option (Int×Int) :=
 aN ((bif (dm b.n0)then bc ([([]:List (Bs8×Bool))]:List Mb8)else bc b.n0)) λx1=>(orC (WX { b with n0:=x1 }) (λx2=>bc x2) (aN (K1 { b with n0:=x1 }) λ_=>bh))
def yh(b:BB)(s:Bs8):Option (Int×Int) :=
 aN (zC b s) λx1=>(orC (zt { b with i:=x1.2 } x1.1 14) (λx2=>bc x2) (aN (zf { b with i:=x1.2 } x1.1 14) λ_=>bh))
def zA(b:BB)(from_:Int)(to_:Int):Option (Int×Int) :=
 aN (yg b) λx1=>(orC (zt b x1 14) (λx2=>bc x2) (aN (zf b x1 14) λ_=>aN (zn b) λx4=>((bif (decide (x4.2.2.1>=from_))then(orC (zt b (decide (x4.2.2.1<=to_)) 3) (λx6=>bc (bo x6)) (aN (zf b (decide (x4.2.2.1<=to_)) 3) λ_=>bc (br ())))else(orC (zt b bd 3) (λx8=>bc (bo x8)) (aN (zf b bd 3) λ_=>bc (br ()))))).bind (wq bc λ_=>bh)))
def kK(b:BB)(c1:Int)(c17:Int)(c18:Int)(c19:List zd)(c20:Int)(c21:Int)(c22:Bs8)(c23:List Expr)(c24:Int)(c25:Int)(c26:Bs8)(c27:Bs8)(c28:List Expr):Nat->(Int×Bs8×Int×Int)->Option (Bs8×Int×Int)
 |0,_=>bh
 |K+1,q=>(bif (decide (q.1<c20))then(aN (idx c19 q.1) λx2=>aN (vF { b with i:=c1 } x2.text) λx3=>(bif x3 then bc (x2.text,x2.op,x2.form)else bc (q.2.1,q.2.2.1,q.2.2.2))).bind λx1=>kK b c1 c17 c18 c19 c20 c21 c22 c23 c24 c25 c26 c27 c28 K ((w64 (q.1+1)),x1.1,x1.2.1,x1.2.2)else bc (q.2.1,q.2.2.1,q.2.2.2))
def kL(r_p_q_expr_2:BB->Int->Option (Int×Int))(b:BB)(c16:Int)(c17:Int)(c18:Bs8)(c19:List Expr):Nat->(Int×Int×Int×Int×Bs8×Bs8×(List Expr))->Option ((Int×Int)⊕(Unit))
 |0,_=>bh
 |K+1,q=>aN vc λx1=>aN (kK { b with i:=0 } q.1 c16 q.2.1 x1 (x1.length:Int) c17 c18 c19 q.2.2.1 q.2.2.2.1 q.2.2.2.2.1 q.2.2.2.2.2.1 q.2.2.2.2.2.2 KK (0,([]:Bs8),0,0)) λx2=>aN ((bif (decide (x2.1=([]:Bs8)))then bc bf else(bif (decide (x2.2.2<c16))then bc bf else(bif (decide (q.2.1<x2.2.2))then bc bf else(bif (decide (q.2.1=4))then bc (decide (x2.2.2=4))else bc bd))))) λx3=>(bif x3 then bh else(orC (r_p_q_expr_2 { b with i:=(w64 (q.1+1)) } (w64 (x2.2.2+1))) (λx4=>bc (bo x4)) (aN (z7 KK { b with i:=(w64 (q.1+1)) } (w64 (x2.2.2+1))) λx5=>kL r_p_q_expr_2 b c16 c17 c18 c19 K (x5.1,x2.2.2,x2.2.1,0,([]:Bs8),([]:Bs8),([(Expr.mk q.2.2.1 q.2.2.2.1 q.2.2.2.2.1 q.2.2.2.2.2.1 q.2.2.2.2.2.2),(Expr.mk x5.2.1 x5.2.2.1 x5.2.2.2.1 x5.2.2.2.2.1 x5.2.2.2.2.2)]:List Expr)))))
mutual
def AI:Nat->BB->Int->Option (Int×Int)
 |0,_,_=>bh
 |RK+1,b,form=>aN ((bif (decide (form<=0))then(zC b WS).bind λx2=>bc (x2.2,x2.1)else bc (b.i,bd))) λx1=>(bif x1.2 then(orC (xu RK { b with i:=x1.1 } 0) (λx3=>bc x3) (aN (z7 KK { b with i:=x1.1 } 0) λx4=>(orC (yh { b with i:=x4.1 } uA) (λx5=>bc x5) (aN (zy { b with i:=x4.1 } uA) λx6=>(orC (xu RK { b with i:=x6 } 0) (λx7=>bc x7) (aN (z7 KK { b with i:=x6 } 0) λx8=>(orC (yh { b with i:=x8.1 } xe) (λx9=>bc x9) (aN (zy { b with i:=x8.1 } xe) λx10=>(orC (xu RK { b with i:=x10 } 0) (λx11=>bc x11) (aN (z7 KK { b with i:=x10 } 0) λ_=>bh))))))))))else((bif (decide (form<=3))then(zC { b with i:=x1.1 } qS).bind λx14=>bc (x14.2,x14.1)else bc (x1.1,bd))).bind λx13=>(bif x13.2 then(orC (xu RK { b with i:=x13.1 } 3) (λx15=>bc x15) (aN (z7 KK { b with i:=x13.1 } 3) λ_=>bh))else((bif (decide (form<=7))then(zC { b with i:=x13.1 } yU).bind λx18=>bc (x18.2,x18.1)else bc (x13.1,bd))).bind λx17=>(bif x17.2 then(orC (xu RK { b with i:=x17.1 } 7) (λx19=>bc x19) (aN (z7 KK { b with i:=x17.1 } 7) λ_=>bh))else(yg { b with i:=x17.1 }).bind λx21=>(bif x21 then(orC (zA { b with i:=x17.1 } 0 1099511627776) (λx22=>bc x22) (aN (zk { b with i:=x17.1 } 0 1099511627776) λ_=>bh))else(zC { b with i:=x17.1 } yy).bind λx24=>(bif x24.1 then(orC (yS { b with i:=x24.2 }) (λx25=>bc x25) (aN (zL { b with i:=x24.2 }) λx26=>(orC (yS { b with i:=x26.2 }) (λx27=>bc x27) (aN (zL { b with i:=x26.2 }) λ_=>bh))))else(zC { b with i:=x24.2 } xm).bind λx29=>(bif x29.1 then(orC (yS { b with i:=x29.2 }) (λx30=>bc x30) (aN (zL { b with i:=x29.2 }) λ_=>bh))else(zC { b with i:=x29.2 } Au).bind λx32=>(bif x32.1 then(orC (xu RK { b with i:=x32.2 } 0) (λx33=>bc x33) (aN (z7 KK { b with i:=x32.2 } 0) λx34=>(orC (yh { b with i:=x34.1 } qg) (λx35=>bc x35) (aN (zy { b with i:=x34.1 } qg) λ_=>bh))))else(orC (yS { b with i:=x32.2 }) (λx37=>bc x37) (aN (zL { b with i:=x32.2 }) λ_=>bh)))))))))
def xu:Nat->BB->Int->Option (Int×Int)
 |0,_,_=>bh
 |RK+1,b,form=>(orC (AI RK b form) (λx1=>bc x1) (aN (qX KK b form) λx2=>(kL (xu RK) { b with i:=0 } form 0 ([]:Bs8) [] KK (x2.2.1,x2.1,x2.2.2.1,x2.2.2.2.1,x2.2.2.2.2.1,x2.2.2.2.2.2.1,x2.2.2.2.2.2.2)).bind (wq bc λ_=>bh)))
end
def Jn(b:BB)(is:Bool)(err:Int):Option (Int×Int) :=
 aN (vF b yf) λx1=>(orC (zt b x1 14) (λx2=>bc x2) (aN (zf b x1 14) λ_=>(orC (zt b is err) (λx4=>bc x4) (aN (zf b is err) λ_=>bh))))
def QV(b:BB):Option (Int×Int) :=
 (orC (zjx b) (λx1=>bc x1) (aN (zcy b) λx2=>(orC (yh { b with i:=x2.2.1,n0:=x2.2.2 } Av) (λx3=>bc x3) (aN (zy { b with i:=x2.2.1,n0:=x2.2.2 } Av) λx4=>(orC (xu KK { b with i:=x4,n0:=x2.2.2 } 0) (λx5=>bc x5) (aN (z7 KK { b with i:=x4,n0:=x2.2.2 } 0) λx6=>aN (jd KK (Expr.mk x6.2.1 x6.2.2.1 x6.2.2.2.1 x6.2.2.2.2.1 x6.2.2.2.2.2)) λx7=>(orC (Jn { b with i:=x6.1,n0:=x2.2.2 } (decide (x7<=12)) 6) (λx8=>bc x8) (aN (jW { b with i:=x6.1,n0:=x2.2.2 } (decide (x7<=12)) 6) λ_=>aN (grd (bg (b.D++([(Def.mk x2.1 (Expr.mk x6.2.1 x6.2.2.1 x6.2.2.2.1 x6.2.2.2.2.1 x6.2.2.2.2.2))]:List Def))*88<=140737488355328)) λ_=>bh))))))))
def Jo(b:BB):Option (Int×Int) :=
 aN (zJ b) λx1=>(orC (zt b x1 14) (λx2=>bc x2) (aN (zf b x1 14) λ_=>aN (zn b) λx4=>aN (HV b.n1) λx5=>(orC (zt { b with n1:=[x5] } (!((xj x4.2.1 x5).getD bd)) 5) (λx6=>bc x6) (aN (zf { b with n1:=[x5] } (!((xj x4.2.1 x5).getD bd)) 5) λ_=>aN (zn { b with n1:=[x5] }) λx8=>aN (HV [x5]) λx9=>(orC (yS { b with n1:=[u9 x8.2.1 bf x9] }) (λx10=>bc x10) (aN (zL { b with n1:=[u9 x8.2.1 bf x9] }) λ_=>bh))))))
def WY(b:BB):Option (Int×Int) :=
 aN ((bif (dm b.n1)then bc ([([]:List (Bs8×Bool))]:List Mb8)else bc b.n1)) λx1=>(orC (Jo { b with n1:=x1 }) (λx2=>bc x2) (aN (oV { b with n1:=x1 }) λ_=>bh))
def yq(b:BB)(known:Mb8):Option (Int×Int) :=
 aN (zJ b) λx1=>(orC (zt b x1 14) (λx2=>bc x2) (aN (zf b x1 14) λ_=>aN (zn b) λx4=>(orC (zt b (!((xj x4.2.1 known).getD bd)) 5) (λx5=>bc x5) (aN (zf b (!((xj x4.2.1 known).getD bd)) 5) λ_=>aN (zn b) λ_=>(orC (yS b) (λx8=>bc x8) (aN (zL b) λ_=>bh))))))
def ql(b:BB)(most:Int):Option (Int×Int) :=
 aN (zC b yU) λx1=>(bif x1.1 then(orC (zA { b with i:=x1.2 } 0 most) (λx2=>bc x2) (aN (zk { b with i:=x1.2 } 0 most) λ_=>bh))else(orC (zA { b with i:=x1.2 } 0 most) (λx4=>bc x4) (aN (zk { b with i:=x1.2 } 0 most) λ_=>bh)))
def qZ(b:BB)(c15:(List Mb8))(c16:Bs8)(c17:Int):Nat->(Int×Mb8×(List aw))->Option ((Int×Int)⊕(Int×(List aw)))
 |0,_=>bh
 |K+1,q=>aN (zJ { b with i:=q.1,n1:=c15 }) λx1=>(bif x1 then(orC (zt { b with i:=q.1,n1:=c15 } (decide ((((bg q.2.2):Nat):Int)<60)) 6) (λx2=>bc (bo x2)) (aN (zf { b with i:=q.1,n1:=c15 } (decide ((((bg q.2.2):Nat):Int)<60)) 6) λ_=>(orC (yq { b with i:=q.1,n1:=c15 } q.2.1) (λx4=>bc (bo x4)) (aN (yc { b with i:=q.1,n1:=c15 } q.2.1) λx5=>(orC (ql { b with i:=x5.2.1,n1:=c15 } 1099511627776) (λx6=>bc (bo x6)) (aN (wI { b with i:=x5.2.1,n1:=c15 } 1099511627776) λx7=>aN (grd (bg (q.2.2++([(aw.mk x5.1 x7.1)]:List aw))*24<=140737488355328)) λ_=>qZ b c15 c16 c17 K (x7.2,x5.2.2,(q.2.2++([(aw.mk x5.1 x7.1)]:List aw)))))))))else bc (br (q.1,q.2.2)))
def WZ(b:BB):Option (Int×Int) :=
 (orC (WY b) (λx1=>bc x1) (aN (K2 b) λx2=>(qZ { b with i:=0,n1:=[] } x2.2.2 x2.1 0 KK (x2.2.1,([]:List (Bs8×Bool)),([]:List aw))).bind (wq bc λx3=>(orC (yh { b with i:=x3.1,n1:=x2.2.2 } xe) (λx4=>bc x4) (aN (zy { b with i:=x3.1,n1:=x2.2.2 } xe) λx5=>(orC (ql { b with i:=x5,n1:=x2.2.2 } 1099511627776) (λx6=>bc x6) (aN (wI { b with i:=x5,n1:=x2.2.2 } 1099511627776) λx7=>(orC (yh { b with i:=x7.2,n1:=x2.2.2 } yf) (λx8=>bc x8) (aN (zy { b with i:=x7.2,n1:=x2.2.2 } yf) λ_=>aN (grd (bg (b.T++([(au.mk x2.1 x3.2 x7.1)]:List au))*48<=140737488355328)) λ_=>bh)))))))))
def Jp(b:BB):Option (Int×Int) :=
 aN (zJ b) λx1=>(orC (zt b x1 14) (λx2=>bc x2) (aN (zf b x1 14) λ_=>aN (zn b) λx4=>aN (HV b.n2) λx5=>(orC (zt { b with n2:=[x5] } (!((xj x4.2.1 x5).getD bd)) 5) (λx6=>bc x6) (aN (zf { b with n2:=[x5] } (!((xj x4.2.1 x5).getD bd)) 5) λ_=>aN (zn { b with n2:=[x5] }) λx8=>aN (HV [x5]) λx9=>(orC (yS { b with n2:=[u9 x8.2.1 bf x9] }) (λx10=>bc x10) (aN (zL { b with n2:=[u9 x8.2.1 bf x9] }) λ_=>bh))))))
def K6(b:BB):Option (Int×Int) :=
 aN ((bif (dm b.n2)then bc ([([]:List (Bs8×Bool))]:List Mb8)else bc b.n2)) λx1=>(orC (Jp { b with n2:=x1 }) (λx2=>bc x2) (aN (oW { b with n2:=x1 }) λ_=>bh))
def kM(b:BB):Nat->(Int×(List zU))->Option ((Int×Int)⊕(Unit))
 |0,_=>bh
 |K+1,q=>(orC (zA { b with i:=q.1 } 0 1048576) (λx1=>bc (bo x1)) (aN (zk { b with i:=q.1 } 0 1048576) λx2=>(orC (zA { b with i:=x2.2 } 0 1048576) (λx3=>bc (bo x3)) (aN (zk { b with i:=x2.2 } 0 1048576) λx4=>aN (grd (bg (q.2++([(zU.mk x2.1 x4.1)]:List zU))*16<=140737488355328)) λ_=>aN (yg { b with i:=x4.2 }) λx6=>(bif (!x6)then bh else kM b K (x4.2,(q.2++([(zU.mk x2.1 x4.1)]:List zU))))))))
def qm(b:BB):Option (Int×Int) :=
 (kM { b with i:=0 } KK (b.i,[])).bind (wq bc λ_=>bh)
def Jq(b:BB):Option (Int×Int) :=
 aN (zJ b) λx1=>(orC (zt b x1 14) (λx2=>bc x2) (aN (zf b x1 14) λ_=>aN (zn b) λx4=>aN (HV b.n3) λx5=>(orC (zt { b with n3:=[x5] } (!((xj x4.2.1 x5).getD bd)) 5) (λx6=>bc x6) (aN (zf { b with n3:=[x5] } (!((xj x4.2.1 x5).getD bd)) 5) λ_=>aN (zn { b with n3:=[x5] }) λx8=>aN (HV [x5]) λx9=>(orC (yS { b with n3:=[u9 x8.2.1 bf x9] }) (λx10=>bc x10) (aN (zL { b with n3:=[u9 x8.2.1 bf x9] }) λ_=>bh))))))
def W1(b:BB):Option (Int×Int) :=
 aN ((bif (dm b.n3)then bc ([([]:List (Bs8×Bool))]:List Mb8)else bc b.n3)) λx1=>(orC (Jq { b with n3:=x1 }) (λx2=>bc x2) (aN (oY { b with n3:=x1 }) λ_=>bh))
def o8(b:BB):Nat->(Int×(List Bs8))->Option ((Int×Int)⊕(Int×(List Bs8)))
 |0,_=>bh
 |K+1,q=>aN (zJ { b with i:=q.1 }) λx1=>(bif x1 then(orC (yS { b with i:=q.1 }) (λx2=>bc (bo x2)) (aN (zL { b with i:=q.1 }) λx3=>aN (grd (bg (q.2++([x3.1]:List Bs8))*16<=140737488355328)) λ_=>o8 b K (x3.2,(q.2++([x3.1]:List Bs8)))))else bc (br (q.1,q.2)))
def Jr(b:BB):Option (Int×Int) :=
 (orC (yS b) (λx1=>bc x1) (aN (zL b) λx2=>(o8 { b with i:=0 } KK (x2.2,([x2.1]:List Bs8))).bind (wq bc λx3=>bh)))
def jf(b:BB)(list:Bs8):Option (Int×Int) :=
 aN (zn b) λx1=>aN (VG list x1.2.1) λx2=>(aN (zn b) λx4=>(bif (decide (x4.1=0))then(orC (zt b (decide (x2>=0)) 14) (λx5=>bc (bo x5)) (aN (zf b (decide (x2>=0)) 14) λ_=>bc (br ())))else(orC (zt b bd 14) (λx7=>bc (bo x7)) (aN (zf b bd 14) λ_=>bc (br ()))))).bind (wq bc λ_=>bh)
def Hp(b:BB):Nat->(Int×Int)->Option ((Int×Int)⊕(Unit))
 |0,_=>bh
 | K+1,q=>aN (zn { b with i:=q.1 }) λx1=>aN (VG zi x1.2.1) λx2=>aN ((bif (decide (q.2>0))then(bif (decide (x2<0))then bc bf else(zn { b with i:=q.1 }).bind λx4=>bc (!(decide (x4.1=0))))else bc bd)) λx3=>(bif x3 then bh else((bif (decide (x2<0))then(orC (zt { b with i:=q.1 } bf 5) (λx6=>bc (bo x6)) (aN (zf { b with i:=q.1 } bf 5) λ_=>bc (br ())))else(grd (0<=x2)).bind λ_=>(orC (zt { b with i:=q.1 } (decide ((IntKind.i64.wrap ((cM IntKind.i64.bits (gC q.2 (2 ^ (min (cg x2) IntKind.i64.bits))) &&& cM IntKind.i64.bits 1).toNat:Int))=0)) 5) (λx9=>bc (bo x9)) (aN (zf { b with i:=q.1 } (decide ((IntKind.i64.wrap ((cM IntKind.i64.bits (gC q.2 (2 ^ (min (cg x2) IntKind.i64.bits))) &&& cM IntKind.i64.bits 1).toNat:Int))=0)) 5) λ_=>bc (br ()))))).bind (wq (λq=>bc (bo q)) λ_=>(orC (jf { b with i:=q.1 } zi) (λx11=>bc (bo x11)) (aN (xr { b with i:=q.1 } zi) λx12=>aN (grd (0<=x12.1)) λ_=>Hp b K (x12.2,(IntKind.i64.wrap ((cM IntKind.i64.bits q.2 ||| cM IntKind.i64.bits (w64 (1*2 ^ (min (cg x12.1) IntKind.i64.bits)))).toNat:Int)))))))
def zjy(b:BB):Option (Int×Int) :=
 (Hp { b with i:=0 } KK (b.i,0)).bind (wq bc λ_=>bh)
def W2(b:BB):Option (Int×Int) :=
 (orC (W1 b) (λx1=>bc x1) (aN (K4 b) λx2=>(aN (zC { b with i:=x2.2.1,n3:=x2.2.2 } ze5) λx4=>(bif x4.1 then(orC (Jr { b with i:=x4.2,n3:=x2.2.2 }) (λx5=>bc (bo x5)) (aN (uN { b with i:=x4.2,n3:=x2.2.2 }) λx6=>bc (br (x6.2,x6.1))))else bc (br (x4.2,[])))).bind (wq bc λx3=>(aN (zC { b with i:=x3.1,n3:=x2.2.2 } yZ) λx8=>(bif x8.1 then(orC (Jr { b with i:=x8.2,n3:=x2.2.2 }) (λx9=>bc (bo x9)) (aN (uN { b with i:=x8.2,n3:=x2.2.2 }) λx10=>bc (br (x10.2,x10.1))))else bc (br (x8.2,[])))).bind (wq bc λx7=>(aN (zC { b with i:=x7.1,n3:=x2.2.2 } vD) λx12=>(bif x12.1 then(orC (zA { b with i:=x12.2,n3:=x2.2.2 } 0 1073741824) (λx13=>bc (bo x13)) (aN (zk { b with i:=x12.2,n3:=x2.2.2 } 0 1073741824) λx14=>bc (br (x14.2,x14.1))))else bc (br (x12.2,0)))).bind (wq bc λx11=>(aN (zC { b with i:=x11.1,n3:=x2.2.2 } xF) λx16=>(bif x16.1 then(orC (zA { b with i:=x16.2,n3:=x2.2.2 } (w64 (x11.2+1)) 1073741824) (λx17=>bc (bo x17)) (aN (zk { b with i:=x16.2,n3:=x2.2.2 } (w64 (x11.2+1)) 1073741824) λx18=>bc (br (x18.2,x18.1))))else bc (br (x16.2,0)))).bind (wq bc λx15=>(aN (zC { b with i:=x15.1,n3:=x2.2.2 } xR) λx20=>(bif x20.1 then(orC (zA { b with i:=x20.2,n3:=x2.2.2 } 0 1073741824) (λx21=>bc (bo x21)) (aN (zk { b with i:=x20.2,n3:=x2.2.2 } 0 1073741824) λx22=>bc (br (x22.2,x22.1))))else bc (br (x20.2,0)))).bind (wq bc λx19=>aN (zC { b with i:=x19.1,n3:=x2.2.2 } wc) λx23=>(orC (yh { b with i:=x23.2,n3:=x2.2.2 } xM) (λx24=>bc x24) (aN (zy { b with i:=x23.2,n3:=x2.2.2 } xM) λx25=>(aN (zC { b with i:=x25,n3:=x2.2.2 } qf) λx27=>(bif x27.1 then(orC (zA { b with i:=x27.2,n3:=x2.2.2 } 0 3) (λx28=>bc (bo x28)) (aN (zk { b with i:=x27.2,n3:=x2.2.2 } 0 3) λx29=>(orC (yh { b with i:=x29.2,n3:=x2.2.2 } AB) (λx30=>bc (bo x30)) (aN (zy { b with i:=x29.2,n3:=x2.2.2 } AB) λx31=>(orC (zA { b with i:=x31,n3:=x2.2.2 } 0 4096) (λx32=>bc (bo x32)) (aN (zk { b with i:=x31,n3:=x2.2.2 } 0 4096) λx33=>(orC (yh { b with i:=x33.2,n3:=x2.2.2 } jA) (λx34=>bc (bo x34)) (aN (zy { b with i:=x33.2,n3:=x2.2.2 } jA) λx35=>(orC (zA { b with i:=x35,n3:=x2.2.2 } 0 4096) (λx36=>bc (bo x36)) (aN (zk { b with i:=x35,n3:=x2.2.2 } 0 4096) λx37=>(orC (zA { b with i:=x37.2,n3:=x2.2.2 } 1 4096) (λx38=>bc (bo x38)) (aN (zk { b with i:=x37.2,n3:=x2.2.2 } 1 4096) λx39=>(orC (yh { b with i:=x39.2,n3:=x2.2.2 } yf) (λx40=>bc (bo x40)) (aN (zy { b with i:=x39.2,n3:=x2.2.2 } yf) λx41=>bc (br (x41,1,0,0,([]:Bs8),([]:Bs8),[],x29.1,x33.1,x37.1,x39.1,0,0,0))))))))))))))))else(zC { b with i:=x27.2,n3:=x2.2.2 } oT).bind λx42=>(bif x42.1 then(orC (zjy { b with i:=x42.2,n3:=x2.2.2 }) (λx43=>bc (bo x43)) (aN (zc0 { b with i:=x42.2,n3:=x2.2.2 }) λx44=>(orC (yh { b with i:=x44.2,n3:=x2.2.2 } yf) (λx45=>bc (bo x45)) (aN (zy { b with i:=x44.2,n3:=x2.2.2 } yf) λx46=>bc (br (x46,2,0,0,([]:Bs8),([]:Bs8),[],0,0,0,0,x44.1,0,0))))))else(zC { b with i:=x42.2,n3:=x2.2.2 } qe).bind λx47=>(bif x47.1 then(orC (jf { b with i:=x47.2,n3:=x2.2.2 } zi) (λx48=>bc (bo x48)) (aN (xr { b with i:=x47.2,n3:=x2.2.2 } zi) λx49=>(orC (jf { b with i:=x49.2,n3:=x2.2.2 } zi) (λx50=>bc (bo x50)) (aN (xr { b with i:=x49.2,n3:=x2.2.2 } zi) λx51=>(orC (zA { b with i:=x51.2,n3:=x2.2.2 } 0 1048576) (λx52=>bc (bo x52)) (aN (zk { b with i:=x51.2,n3:=x2.2.2 } 0 1048576) λx53=>(orC (yh { b with i:=x53.2,n3:=x2.2.2 } yf) (λx54=>bc (bo x54)) (aN (zy { b with i:=x53.2,n3:=x2.2.2 } yf) λx55=>bc (br (x55,3,0,0,([]:Bs8),([]:Bs8),[],0,0,0,0,x49.1,x51.1,x53.1))))))))))else(orC (xu KK { b with i:=x47.2,n3:=x2.2.2 } 0) (λx56=>bc (bo x56)) (aN (z7 KK { b with i:=x47.2,n3:=x2.2.2 } 0) λx57=>aN (jd KK (Expr.mk x57.2.1 x57.2.2.1 x57.2.2.2.1 x57.2.2.2.2.1 x57.2.2.2.2.2)) λx58=>(orC (Jn { b with i:=x57.1,n3:=x2.2.2 } (decide (x58<=12)) 6) (λx59=>bc (bo x59)) (aN (jW { b with i:=x57.1,n3:=x2.2.2 } (decide (x58<=12)) 6) λx60=>bc (br (x60,0,x57.2.1,x57.2.2.1,x57.2.2.2.1,x57.2.2.2.2.1,x57.2.2.2.2.2,0,0,0,0,0,0,0)))))))))).bind (wq bc λx26=>aN (grd (bg (b.R++([(zX.mk x2.1 x3.2 x7.2 x11.2 x15.2 x19.2 x23.1 x26.2.1 (Expr.mk x26.2.2.1 x26.2.2.2.1 x26.2.2.2.2.1 x26.2.2.2.2.2.1 x26.2.2.2.2.2.2.1) (zx.mk x26.2.2.2.2.2.2.2.1 x26.2.2.2.2.2.2.2.2.1 x26.2.2.2.2.2.2.2.2.2.1 x26.2.2.2.2.2.2.2.2.2.2.1) x26.2.2.2.2.2.2.2.2.2.2.2.1 x26.2.2.2.2.2.2.2.2.2.2.2.2.1 x26.2.2.2.2.2.2.2.2.2.2.2.2.2)]:List zX))*232<=140737488355328)) λ_=>bh))))))))))
def Js(b:BB):Option (Int×Int) :=
 aN (zJ b) λx1=>(orC (zt b x1 14) (λx2=>bc x2) (aN (zf b x1 14) λ_=>aN (zn b) λx4=>aN (HV b.n4) λx5=>(orC (zt { b with n4:=[x5] } (!((xj x4.2.1 x5).getD bd)) 5) (λx6=>bc x6) (aN (zf { b with n4:=[x5] } (!((xj x4.2.1 x5).getD bd)) 5) λ_=>aN (zn { b with n4:=[x5] }) λx8=>aN (HV [x5]) λx9=>(orC (yS { b with n4:=[u9 x8.2.1 bf x9] }) (λx10=>bc x10) (aN (zL { b with n4:=[u9 x8.2.1 bf x9] }) λ_=>bh))))))
def K7(b:BB):Option (Int×Int) :=
 aN ((bif (dm b.n4)then bc ([([]:List (Bs8×Bool))]:List Mb8)else bc b.n4)) λx1=>(orC (Js { b with n4:=x1 }) (λx2=>bc x2) (aN (o4 { b with n4:=x1 }) λ_=>bh))
def Jt(b:BB):Option (Int×Int) :=
 aN (zJ b) λx1=>(orC (zt b x1 14) (λx2=>bc x2) (aN (zf b x1 14) λ_=>aN (zn b) λx4=>aN (HV b.n5) λx5=>(orC (zt { b with n5:=[x5] } (!((xj x4.2.1 x5).getD bd)) 5) (λx6=>bc x6) (aN (zf { b with n5:=[x5] } (!((xj x4.2.1 x5).getD bd)) 5) λ_=>aN (zn { b with n5:=[x5] }) λx8=>aN (HV [x5]) λx9=>(orC (yS { b with n5:=[u9 x8.2.1 bf x9] }) (λx10=>bc x10) (aN (zL { b with n5:=[u9 x8.2.1 bf x9] }) λ_=>bh))))))
def W3(b:BB):Option (Int×Int) :=
 aN ((bif (dm b.n5)then bc ([([]:List (Bs8×Bool))]:List Mb8)else bc b.n5)) λx1=>(orC (Jt { b with n5:=x1 }) (λx2=>bc x2) (aN (o6 { b with n5:=x1 }) λ_=>bh))
def Hq(b:BB):Option (Int×Int) :=
 (orC (zA b 0 1048576) (λx1=>bc x1) (aN (zk b 0 1048576) λx2=>(orC (zA { b with i:=x2.2 } 0 1048576) (λx3=>bc x3) (aN (zk { b with i:=x2.2 } 0 1048576) λx4=>(orC (zA { b with i:=x4.2 } 0 4096) (λx5=>bc x5) (aN (zk { b with i:=x4.2 } 0 4096) λ_=>bh))))))
def Aa(b:BB)(c15:(List Mb8))(c16:Bs8)(c17:Int)(c18:Int)(c19:Int)(c20:Int):Nat->(Int×(List zg))->Option ((Int×Int)⊕(Int×(List zg)))
 |0,_=>bh
 |K+1,q=>aN (yg { b with i:=q.1,n5:=c15 }) λx1=>(bif x1 then(orC (zt { b with i:=q.1,n5:=c15 } (decide ((((bg q.2):Nat):Int)<20)) 6) (λx2=>bc (bo x2)) (aN (zf { b with i:=q.1,n5:=c15 } (decide ((((bg q.2):Nat):Int)<20)) 6) λ_=>(orC (Hq { b with i:=q.1,n5:=c15 }) (λx4=>bc (bo x4)) (aN (kJ { b with i:=q.1,n5:=c15 }) λx5=>aN (grd (bg (q.2++([(zg.mk x5.2.1 x5.2.2.1 x5.2.2.2)]:List zg))*24<=140737488355328)) λ_=>Aa b c15 c16 c17 c18 c19 c20 K (x5.1,(q.2++([(zg.mk x5.2.1 x5.2.2.1 x5.2.2.2)]:List zg)))))))else bc (br (q.1,q.2)))
def W4(b:BB):Option (Int×Int) :=
 (orC (W3 b) (λx1=>bc x1) (aN (K5 b) λx2=>(orC (Hq { b with i:=x2.2.1,n5:=x2.2.2 }) (λx3=>bc x3) (aN (kJ { b with i:=x2.2.1,n5:=x2.2.2 }) λx4=>(orC (yh { b with i:=x4.1,n5:=x2.2.2 } vM) (λx5=>bc x5) (aN (zy { b with i:=x4.1,n5:=x2.2.2 } vM) λx6=>(orC (zA { b with i:=x6,n5:=x2.2.2 } 0 20) (λx7=>bc x7) (aN (zk { b with i:=x6,n5:=x2.2.2 } 0 20) λx8=>(orC (yh { b with i:=x8.2,n5:=x2.2.2 } xM) (λx9=>bc x9) (aN (zy { b with i:=x8.2,n5:=x2.2.2 } xM) λx10=>(orC (Hq { b with i:=x10,n5:=x2.2.2 }) (λx11=>bc x11) (aN (kJ { b with i:=x10,n5:=x2.2.2 }) λx12=>aN (grd (bg (([]:List zg)++([(zg.mk x12.2.1 x12.2.2.1 x12.2.2.2)]:List zg))*24<=140737488355328)) λ_=>(Aa { b with i:=0,n5:=[] } x2.2.2 x2.1 x4.2.1 x4.2.2.1 x4.2.2.2 x8.1 KK (x12.1,(([]:List zg)++([(zg.mk x12.2.1 x12.2.2.1 x12.2.2.2)]:List zg)))).bind (wq bc λx14=>(orC (yh { b with i:=x14.1,n5:=x2.2.2 } yf) (λx15=>bc x15) (aN (zy { b with i:=x14.1,n5:=x2.2.2 } yf) λ_=>aN (grd (bg (b.V++([(av.mk x2.1 (zg.mk x4.2.1 x4.2.2.1 x4.2.2.2) x8.1 x14.2)]:List av))*72<=140737488355328)) λ_=>bh)))))))))))))))
def ow(b:BB):Nat->(Int×(List zg)×Bool)->Option ((Int×Int)⊕(Int×(List zg)))
 |0,_=>bh
 |K+1,q=>(bif q.2.2 then(aN (vF { b with i:=q.1,S:=q.2.1 } yU) λx2=>(bif x2 then(orC (zt { b with i:=q.1,S:=q.2.1 } bf 14) (λx3=>bc (bo x3)) (aN (zf { b with i:=q.1,S:=q.2.1 } bf 14) λ_=>bc (br ())))else(yg { b with i:=q.1,S:=q.2.1 }).bind λx5=>(orC (zt { b with i:=q.1,S:=q.2.1 } x5 14) (λx6=>bc (bo x6)) (aN (zf { b with i:=q.1,S:=q.2.1 } x5 14) λ_=>bc (br ()))))).bind (wq (λq=>bc (bo q)) λ_=>(orC (zt { b with i:=q.1,S:=q.2.1 } (decide ((((bg q.2.1):Nat):Int)<24)) 6) (λx8=>bc (bo x8)) (aN (zf { b with i:=q.1,S:=q.2.1 } (decide ((((bg q.2.1):Nat):Int)<24)) 6) λ_=>(orC (ql { b with i:=q.1,S:=q.2.1 } 4096) (λx10=>bc (bo x10)) (aN (wI { b with i:=q.1,S:=q.2.1 } 4096) λx11=>(orC (ql { b with i:=x11.2,S:=q.2.1 } 4096) (λx12=>bc (bo x12)) (aN (wI { b with i:=x11.2,S:=q.2.1 } 4096) λx13=>(orC (zA { b with i:=x13.2,S:=q.2.1 } 1 4096) (λx14=>bc (bo x14)) (aN (zk { b with i:=x13.2,S:=q.2.1 } 1 4096) λx15=>aN (grd (bg (q.2.1++([(zg.mk x11.1 x13.1 x15.1)]:List zg))*24<=140737488355328)) λ_=>aN (zC { b with i:=x15.2,S:=(q.2.1++([(zg.mk x11.1 x13.1 x15.1)]:List zg)) } kW) λx17=>ow b K (x17.2,(q.2.1++([(zg.mk x11.1 x13.1 x15.1)]:List zg)),x17.1))))))))))else bc (br (q.1,q.2.1)))
def zc1(b:BB):Option (Int×Int) :=
 (ow { b with i:=0,S:=[] } KK (b.i,b.S,bf)).bind (wq bc λx1=>(orC (yh { b with i:=x1.1,S:=x1.2 } yf) (λx2=>bc x2) (aN (zy { b with i:=x1.1,S:=x1.2 } yf) λ_=>bh)))
def za(b:BB)(q:Int×Int×Bool×(List Def)×(List au)×(List yD)×(List zX)×(List Cap)×(List av)×(List zg)×(List Mb8)×(List Mb8)×(List Mb8)×(List Mb8)×(List Mb8)×(List Mb8)):BB:={ b with i:=q.1,H:=q.2.1,h:=q.2.2.1,D:=q.2.2.2.1,T:=q.2.2.2.2.1,Z:=q.2.2.2.2.2.1,R:=q.2.2.2.2.2.2.1,C:=q.2.2.2.2.2.2.2.1,V:=q.2.2.2.2.2.2.2.2.1,S:=q.2.2.2.2.2.2.2.2.2.1,n0:=q.2.2.2.2.2.2.2.2.2.2.1,n1:=q.2.2.2.2.2.2.2.2.2.2.2.1,n2:=q.2.2.2.2.2.2.2.2.2.2.2.2.1,n3:=q.2.2.2.2.2.2.2.2.2.2.2.2.2.1,n4:=q.2.2.2.2.2.2.2.2.2.2.2.2.2.2.1,n5:=q.2.2.2.2.2.2.2.2.2.2.2.2.2.2.2 }
def yj(b:BB):Nat->(Int×Int×Bool×(List Def)×(List au)×(List yD)×(List zX)×(List Cap)×(List av)×(List zg)×(List Mb8)×(List Mb8)×(List Mb8)×(List Mb8)×(List Mb8)×(List Mb8))->Option ((Int×Int)⊕(Int×Int×Bool×(List Def)×(List au)×(List yD)×(List zX)×(List Cap)×(List av)×(List zg)×(List Mb8)×(List Mb8)×(List Mb8)×(List Mb8)×(List Mb8)×(List Mb8)))
 |0,_=>bh
 |K+1,q=>aN (zn { (za b q)with l:=b.l }) λx1=>(bif (!(decide (x1.1=3)))then(zn { (za b q)with l:=b.l }).bind λx2=>(bif (decide (x2.2.1=wZ))then(orC (je { (za b q)with l:=b.l } (((bg ((za b q).D)):Nat):Int) 60) (λx3=>bc (bo x3)) (aN (yO { (za b q)with l:=b.l } (((bg ((za b q).D)):Nat):Int) 60) λx4=>(orC (QV { (za b q)with l:=b.l,i:=x4 }) (λx5=>bc (bo x5)) (aN (Hm { (za b q)with l:=b.l,i:=x4 }) λx6=>yj b K (x6.1,(za b q).H,(za b q).h,x6.2.1,(za b q).T,(za b q).Z,(za b q).R,(za b q).C,(za b q).V,(za b q).S,x6.2.2,(za b q).n1,(za b q).n2,(za b q).n3,(za b q).n4,(za b q).n5)))))else(bif (decide (x2.2.1=yy))then(orC (je { (za b q)with l:=b.l } (((bg ((za b q).T)):Nat):Int) 60) (λx7=>bc (bo x7)) (aN (yO { (za b q)with l:=b.l } (((bg ((za b q).T)):Nat):Int) 60) λx8=>(orC (WZ { (za b q)with l:=b.l,i:=x8 }) (λx9=>bc (bo x9)) (aN (K3 { (za b q)with l:=b.l,i:=x8 }) λx10=>yj b K (x10.1,(za b q).H,(za b q).h,(za b q).D,x10.2.1,(za b q).Z,(za b q).R,(za b q).C,(za b q).V,(za b q).S,(za b q).n0,x10.2.2,(za b q).n2,(za b q).n3,(za b q).n4,(za b q).n5)))))else(bif (decide (x2.2.1=xm))then(bif (decide (x2.2.1=xm))then(vF { (za b q)with l:=b.l } yH).bind λx11=>(orC (je { (za b q)with l:=b.l } (((bg ((za b q).Z)):Nat):Int) 60) (λx12=>bc (bo x12)) (aN (yO { (za b q)with l:=b.l } (((bg ((za b q).Z)):Nat):Int) 60) λx13=>(orC (K6 { (za b q)with l:=b.l,i:=x13 }) (λx14=>bc (bo x14)) (aN (oX { (za b q)with l:=b.l,i:=x13 }) λx15=>(orC (qm { (za b q)with l:=b.l,i:=x15.2.1,n2:=x15.2.2 }) (λx16=>bc (bo x16)) (aN (wJ { (za b q)with l:=b.l,i:=x15.2.1,n2:=x15.2.2 }) λx17=>aN (ve x17.1) λx18=>(orC (Jn { (za b q)with l:=b.l,i:=x17.2,n2:=x15.2.2 } x18 10) (λx19=>bc (bo x19)) (aN (jW { (za b q)with l:=b.l,i:=x17.2,n2:=x15.2.2 } x18 10) λx20=>aN (grd (bg ((za b q).Z++([(yD.mk x15.1 x11 x17.1)]:List yD))*48<=140737488355328)) λ_=>yj b K (x20,(za b q).H,(za b q).h,(za b q).D,(za b q).T,((za b q).Z++([(yD.mk x15.1 x11 x17.1)]:List yD)),(za b q).R,(za b q).C,(za b q).V,(za b q).S,(za b q).n0,(za b q).n1,x15.2.2,(za b q).n3,(za b q).n4,(za b q).n5)))))))))else(bif (decide (x2.2.1=qU))then(orC (je { (za b q)with l:=b.l } (((bg ((za b q).R)):Nat):Int) 200) (λx22=>bc (bo x22)) (aN (yO { (za b q)with l:=b.l } (((bg ((za b q).R)):Nat):Int) 200) λx23=>(orC (W2 { (za b q)with l:=b.l,i:=x23 }) (λx24=>bc (bo x24)) (aN (Jl { (za b q)with l:=b.l,i:=x23 }) λx25=>yj b K (x25.1,(za b q).H,(za b q).h,(za b q).D,(za b q).T,(za b q).Z,x25.2.1,(za b q).C,(za b q).V,(za b q).S,(za b q).n0,(za b q).n1,(za b q).n2,x25.2.2,(za b q).n4,(za b q).n5)))))else(bif (decide (x2.2.1=WQ))then(orC (je { (za b q)with l:=b.l } (((bg ((za b q).C)):Nat):Int) 30) (λx26=>bc (bo x26)) (aN (yO { (za b q)with l:=b.l } (((bg ((za b q).C)):Nat):Int) 30) λx27=>(orC (K7 { (za b q)with l:=b.l,i:=x27 }) (λx28=>bc (bo x28)) (aN (o5 { (za b q)with l:=b.l,i:=x27 }) λx29=>(orC (jf { (za b q)with l:=b.l,i:=x29.2.1,n4:=x29.2.2 } zV) (λx30=>bc (bo x30)) (aN (xr { (za b q)with l:=b.l,i:=x29.2.1,n4:=x29.2.2 } zV) λx31=>(orC (zA { (za b q)with l:=b.l,i:=x31.2,n4:=x29.2.2 } 0 1099511627776) (λx32=>bc (bo x32)) (aN (zk { (za b q)with l:=b.l,i:=x31.2,n4:=x29.2.2 } 0 1099511627776) λx33=>(orC (qm { (za b q)with l:=b.l,i:=x33.2,n4:=x29.2.2 }) (λx34=>bc (bo x34)) (aN (wJ { (za b q)with l:=b.l,i:=x33.2,n4:=x29.2.2 }) λx35=>aN (ve x35.1) λx36=>(orC (Jn { (za b q)with l:=b.l,i:=x35.2,n4:=x29.2.2 } x36 10) (λx37=>bc (bo x37)) (aN (jW { (za b q)with l:=b.l,i:=x35.2,n4:=x29.2.2 } x36 10) λx38=>aN (grd (bg ((za b q).C++([(Cap.mk x29.1 x31.1 x33.1 x35.1)]:List Cap))*56<=140737488355328)) λ_=>yj b K (x38,(za b q).H,(za b q).h,(za b q).D,(za b q).T,(za b q).Z,(za b q).R,((za b q).C++([(Cap.mk x29.1 x31.1 x33.1 x35.1)]:List Cap)),(za b q).V,(za b q).S,(za b q).n0,(za b q).n1,(za b q).n2,(za b q).n3,x29.2.2,(za b q).n5)))))))))))))else(bif (decide (x2.2.1=AD))then(orC (je { (za b q)with l:=b.l } (((bg ((za b q).V)):Nat):Int) 60) (λx40=>bc (bo x40)) (aN (yO { (za b q)with l:=b.l } (((bg ((za b q).V)):Nat):Int) 60) λx41=>(orC (W4 { (za b q)with l:=b.l,i:=x41 }) (λx42=>bc (bo x42)) (aN (Jm { (za b q)with l:=b.l,i:=x41 }) λx43=>yj b K (x43.1,(za b q).H,(za b q).h,(za b q).D,(za b q).T,(za b q).Z,(za b q).R,(za b q).C,x43.2.1,(za b q).S,(za b q).n0,(za b q).n1,(za b q).n2,(za b q).n3,(za b q).n4,x43.2.2)))))else(bif (decide (x2.2.1=Jf))then(orC (zt { (za b q)with l:=b.l } (decide (((bg ((za b q).S)):Nat)=0)) 5) (λx44=>bc (bo x44)) (aN (zf { (za b q)with l:=b.l } (decide (((bg ((za b q).S)):Nat)=0)) 5) λ_=>(orC (zc1 { (za b q)with l:=b.l,i:=(w64 ((za b q).i+1)) }) (λx46=>bc (bo x46)) (aN (VH { (za b q)with l:=b.l,i:=(w64 ((za b q).i+1)) }) λx47=>yj b K (x47.1,(za b q).H,(za b q).h,(za b q).D,(za b q).T,(za b q).Z,(za b q).R,(za b q).C,(za b q).V,x47.2,(za b q).n0,(za b q).n1,(za b q).n2,(za b q).n3,(za b q).n4,(za b q).n5)))))else(bif (decide (x2.2.1=kD))then(orC (zt { (za b q)with l:=b.l } (!(za b q).h) 5) (λx48=>bc (bo x48)) (aN (zf { (za b q)with l:=b.l } (!(za b q).h) 5) λ_=>(orC (zA { (za b q)with l:=b.l,i:=(w64 ((za b q).i+1)) } 0 24) (λx50=>bc (bo x50)) (aN (zk { (za b q)with l:=b.l,i:=(w64 ((za b q).i+1)) } 0 24) λx51=>(orC (yh { (za b q)with l:=b.l,i:=x51.2,H:=x51.1,h:=bf } yf) (λx52=>bc (bo x52)) (aN (zy { (za b q)with l:=b.l,i:=x51.2,H:=x51.1,h:=bf } yf) λx53=>yj b K (x53,x51.1,bf,(za b q).D,(za b q).T,(za b q).Z,(za b q).R,(za b q).C,(za b q).V,(za b q).S,(za b q).n0,(za b q).n1,(za b q).n2,(za b q).n3,(za b q).n4,(za b q).n5)))))))else(orC (Ho { (za b q)with l:=b.l } 14) (λx54=>bc (bo x54)) bh)))))))else(bif (decide (x2.2.1=yH))then(vF { (za b q)with l:=b.l } yH).bind λx55=>(orC (je { (za b q)with l:=b.l } (((bg ((za b q).Z)):Nat):Int) 60) (λx56=>bc (bo x56)) (aN (yO { (za b q)with l:=b.l } (((bg ((za b q).Z)):Nat):Int) 60) λx57=>(orC (K6 { (za b q)with l:=b.l,i:=x57 }) (λx58=>bc (bo x58)) (aN (oX { (za b q)with l:=b.l,i:=x57 }) λx59=>(orC (qm { (za b q)with l:=b.l,i:=x59.2.1,n2:=x59.2.2 }) (λx60=>bc (bo x60)) (aN (wJ { (za b q)with l:=b.l,i:=x59.2.1,n2:=x59.2.2 }) λx61=>aN (ve x61.1) λx62=>(orC (Jn { (za b q)with l:=b.l,i:=x61.2,n2:=x59.2.2 } x62 10) (λx63=>bc (bo x63)) (aN (jW { (za b q)with l:=b.l,i:=x61.2,n2:=x59.2.2 } x62 10) λx64=>aN (grd (bg ((za b q).Z++([(yD.mk x59.1 x55 x61.1)]:List yD))*48<=140737488355328)) λ_=>yj b K (x64,(za b q).H,(za b q).h,(za b q).D,(za b q).T,((za b q).Z++([(yD.mk x59.1 x55 x61.1)]:List yD)),(za b q).R,(za b q).C,(za b q).V,(za b q).S,(za b q).n0,(za b q).n1,x59.2.2,(za b q).n3,(za b q).n4,(za b q).n5)))))))))else(bif (decide (x2.2.1=qU))then(orC (je { (za b q)with l:=b.l } (((bg ((za b q).R)):Nat):Int) 200) (λx66=>bc (bo x66)) (aN (yO { (za b q)with l:=b.l } (((bg ((za b q).R)):Nat):Int) 200) λx67=>(orC (W2 { (za b q)with l:=b.l,i:=x67 }) (λx68=>bc (bo x68)) (aN (Jl { (za b q)with l:=b.l,i:=x67 }) λx69=>yj b K (x69.1,(za b q).H,(za b q).h,(za b q).D,(za b q).T,(za b q).Z,x69.2.1,(za b q).C,(za b q).V,(za b q).S,(za b q).n0,(za b q).n1,(za b q).n2,x69.2.2,(za b q).n4,(za b q).n5)))))else(bif (decide (x2.2.1=WQ))then(orC (je { (za b q)with l:=b.l } (((bg ((za b q).C)):Nat):Int) 30) (λx70=>bc (bo x70)) (aN (yO { (za b q)with l:=b.l } (((bg ((za b q).C)):Nat):Int) 30) λx71=>(orC (K7 { (za b q)with l:=b.l,i:=x71 }) (λx72=>bc (bo x72)) (aN (o5 { (za b q)with l:=b.l,i:=x71 }) λx73=>(orC (jf { (za b q)with l:=b.l,i:=x73.2.1,n4:=x73.2.2 } zV) (λx74=>bc (bo x74)) (aN (xr { (za b q)with l:=b.l,i:=x73.2.1,n4:=x73.2.2 } zV) λx75=>(orC (zA { (za b q)with l:=b.l,i:=x75.2,n4:=x73.2.2 } 0 1099511627776) (λx76=>bc (bo x76)) (aN (zk { (za b q)with l:=b.l,i:=x75.2,n4:=x73.2.2 } 0 1099511627776) λx77=>(orC (qm { (za b q)with l:=b.l,i:=x77.2,n4:=x73.2.2 }) (λx78=>bc (bo x78)) (aN (wJ { (za b q)with l:=b.l,i:=x77.2,n4:=x73.2.2 }) λx79=>aN (ve x79.1) λx80=>(orC (Jn { (za b q)with l:=b.l,i:=x79.2,n4:=x73.2.2 } x80 10) (λx81=>bc (bo x81)) (aN (jW { (za b q)with l:=b.l,i:=x79.2,n4:=x73.2.2 } x80 10) λx82=>aN (grd (bg ((za b q).C++([(Cap.mk x73.1 x75.1 x77.1 x79.1)]:List Cap))*56<=140737488355328)) λ_=>yj b K (x82,(za b q).H,(za b q).h,(za b q).D,(za b q).T,(za b q).Z,(za b q).R,((za b q).C++([(Cap.mk x73.1 x75.1 x77.1 x79.1)]:List Cap)),(za b q).V,(za b q).S,(za b q).n0,(za b q).n1,(za b q).n2,(za b q).n3,x73.2.2,(za b q).n5)))))))))))))else(bif (decide (x2.2.1=AD))then(orC (je { (za b q)with l:=b.l } (((bg ((za b q).V)):Nat):Int) 60) (λx84=>bc (bo x84)) (aN (yO { (za b q)with l:=b.l } (((bg ((za b q).V)):Nat):Int) 60) λx85=>(orC (W4 { (za b q)with l:=b.l,i:=x85 }) (λx86=>bc (bo x86)) (aN (Jm { (za b q)with l:=b.l,i:=x85 }) λx87=>yj b K (x87.1,(za b q).H,(za b q).h,(za b q).D,(za b q).T,(za b q).Z,(za b q).R,(za b q).C,x87.2.1,(za b q).S,(za b q).n0,(za b q).n1,(za b q).n2,(za b q).n3,(za b q).n4,x87.2.2)))))else(bif (decide (x2.2.1=Jf))then(orC (zt { (za b q)with l:=b.l } (decide (((bg ((za b q).S)):Nat)=0)) 5) (λx88=>bc (bo x88)) (aN (zf { (za b q)with l:=b.l } (decide (((bg ((za b q).S)):Nat)=0)) 5) λ_=>(orC (zc1 { (za b q)with l:=b.l,i:=(w64 ((za b q).i+1)) }) (λx90=>bc (bo x90)) (aN (VH { (za b q)with l:=b.l,i:=(w64 ((za b q).i+1)) }) λx91=>yj b K (x91.1,(za b q).H,(za b q).h,(za b q).D,(za b q).T,(za b q).Z,(za b q).R,(za b q).C,(za b q).V,x91.2,(za b q).n0,(za b q).n1,(za b q).n2,(za b q).n3,(za b q).n4,(za b q).n5)))))else(bif (decide (x2.2.1=kD))then(orC (zt { (za b q)with l:=b.l } (!(za b q).h) 5) (λx92=>bc (bo x92)) (aN (zf { (za b q)with l:=b.l } (!(za b q).h) 5) λ_=>(orC (zA { (za b q)with l:=b.l,i:=(w64 ((za b q).i+1)) } 0 24) (λx94=>bc (bo x94)) (aN (zk { (za b q)with l:=b.l,i:=(w64 ((za b q).i+1)) } 0 24) λx95=>(orC (yh { (za b q)with l:=b.l,i:=x95.2,H:=x95.1,h:=bf } yf) (λx96=>bc (bo x96)) (aN (zy { (za b q)with l:=b.l,i:=x95.2,H:=x95.1,h:=bf } yf) λx97=>yj b K (x97,x95.1,bf,(za b q).D,(za b q).T,(za b q).Z,(za b q).R,(za b q).C,(za b q).V,(za b q).S,(za b q).n0,(za b q).n1,(za b q).n2,(za b q).n3,(za b q).n4,(za b q).n5)))))))else(orC (Ho { (za b q)with l:=b.l } 14) (λx98=>bc (bo x98)) bh))))))))))else bc (br ((za b q).i,(za b q).H,(za b q).h,(za b q).D,(za b q).T,(za b q).Z,(za b q).R,(za b q).C,(za b q).V,(za b q).S,(za b q).n0,(za b q).n1,(za b q).n2,(za b q).n3,(za b q).n4,(za b q).n5)))
def zjz(b:BB):Option (Int×Int) :=
 (yj { b with i:=0,D:=[],T:=[],Z:=[],R:=[],C:=[],V:=[],S:=[],H:=0,n0:=[],n1:=[],n2:=[],n3:=[],n4:=[],n5:=[],h:=bd } KK (b.i,b.H,b.h,b.D,b.T,b.Z,b.R,b.C,b.V,b.S,b.n0,b.n1,b.n2,b.n3,b.n4,b.n5)).bind (wq bc λx1=>bh)
def K8(b:BB):Option (Int×Int×Int×Int×Bool×(List Def)×(List au)×(List yD)×(List zX)×(List Cap)×(List av)×(List zg)×(List Mb8)×(List Mb8)×(List Mb8)×(List Mb8)×(List Mb8)×(List Mb8)):=aN (zjw b) λq=>bc ((0:Int),(0:Int),q)
def Ju(b:BB):Option (Int×Int):=zjz b
def um(s:Bs8):Option (Int×Int×(List zg)×Int×(List Def)×(List au)×(List yD)×(List zX)×(List Cap)×(List av)) :=
 aN (VE s) λx1=>(bif (!(decide (x1.2.2=0)))then bc (x1.2.1,x1.2.2,[],0,([]:List Def),([]:List au),([]:List yD),([]:List zX),([]:List Cap),([]:List av))else(orC (K8 (BB.mk x1.1 0 ([]:List Def) ([]:List au) ([]:List yD) ([]:List zX) ([]:List Cap) ([]:List av) ([]:List zg) 0 ([]:List Mb8) ([]:List Mb8) ([]:List Mb8) ([]:List Mb8) ([]:List Mb8) ([]:List Mb8) bd)) (λx3=>(bif (!(decide (x3.2.1=0)))then bc (x3.1,x3.2.1,[],0,([]:List Def),([]:List au),([]:List yD),([]:List zX),([]:List Cap),([]:List av))else bc (0,0,x3.2.2.2.2.2.2.2.2.2.2.2.1,x3.2.2.2.1,x3.2.2.2.2.2.1,x3.2.2.2.2.2.2.1,x3.2.2.2.2.2.2.2.1,x3.2.2.2.2.2.2.2.2.1,x3.2.2.2.2.2.2.2.2.2.1,x3.2.2.2.2.2.2.2.2.2.2.1))) (orC (Ju (BB.mk x1.1 0 ([]:List Def) ([]:List au) ([]:List yD) ([]:List zX) ([]:List Cap) ([]:List av) ([]:List zg) 0 ([]:List Mb8) ([]:List Mb8) ([]:List Mb8) ([]:List Mb8) ([]:List Mb8) ([]:List Mb8) bd)) (λx2=>(bif (!(decide (x2.2=0)))then bc (x2.1,x2.2,[],0,([]:List Def),([]:List au),([]:List yD),([]:List zX),([]:List Cap),([]:List av))else bh)) bh)))
def znq(x_:Def):Option (Bs8) :=
 bc x_.aL
def oy(c0:Bool)(c1:List Bs8)(c2:Int):Nat->(Int×Mb8)->Option ((Bool)⊕(Unit))
 |0,_=>bh
 |K+1,q=>(bif (decide (q.1<c2))then(idx c1 q.1).bind λx1=>aN (aN (Vm x1) λx3=>(bif (!x3)then bc bf else(bif c0 then bc ((xj x1 q.2).getD bd)else bc bd))) λx2=>(bif x2 then bc (bo bd)else oy c0 c1 c2 K ((w64 (q.1+1)),(u9 x1 bf q.2)))else bc (br ()))
def qn(l:List Bs8)(unique:Bool):Option (Bool) :=
 (oy unique l (l.length:Int) KK (0,([]:List (Bs8×Bool)))).bind (wq bc λ_=>bc bf)
def Jv(c0:List Def)(c1:Int)(c2:Int):Nat->(Int×(List Bs8))->Option ((List Bs8))
 |0,_=>bh
 |K+1,q=>(bif (decide (q.1<c2))then(idx c0 q.1).bind λx1=>aN (znq (Def.mk x1.aL (Expr.mk x1.Body.Op x1.Body.N x1.Body.S x1.Body.Key x1.Body.Args))) λx2=>aN (grd (bg (q.2++([x2]:List Bs8))*16<=140737488355328)) λ_=>Jv c0 c1 c2 K ((w64 (q.1+1)),(q.2++([x2]:List Bs8)))else bc q.2)
def za2(l:List Def)(most:Int):Option (Bool) :=
 aN (Jv l most (l.length:Int) KK (0,[])) λx1=>(bif (decide ((l.length:Int)<=most))then(qn x1 bf).bind λx2=>bc x2 else bc bd)
def znr(x_:au):Option (Bs8) :=
 bc x_.aL
def uO(c0:List au)(c1:Int)(c2:Int):Nat->(Int×(List Bs8))->Option ((List Bs8))
 |0,_=>bh
 |K+1,q=>(bif (decide (q.1<c2))then(idx c0 q.1).bind λx1=>aN (znr x1) λx2=>aN (grd (bg (q.2++([x2]:List Bs8))*16<=140737488355328)) λ_=>uO c0 c1 c2 K ((w64 (q.1+1)),(q.2++([x2]:List Bs8)))else bc q.2)
def QW(l:List au)(most:Int):Option (Bool) :=
 aN (uO l most (l.length:Int) KK (0,[])) λx1=>(bif (decide ((l.length:Int)<=most))then(qn x1 bf).bind λx2=>bc x2 else bc bd)
def zns(x_:yD):Option (Bs8) :=
 bc x_.aL
def uP(c0:List yD)(c1:Int)(c2:Int):Nat->(Int×(List Bs8))->Option ((List Bs8))
 |0,_=>bh
 |K+1,q=>(bif (decide (q.1<c2))then(idx c0 q.1).bind λx1=>aN (zns x1) λx2=>aN (grd (bg (q.2++([x2]:List Bs8))*16<=140737488355328)) λ_=>uP c0 c1 c2 K ((w64 (q.1+1)),(q.2++([x2]:List Bs8)))else bc q.2)
def QX(l:List yD)(most:Int):Option (Bool) :=
 aN (uP l most (l.length:Int) KK (0,[])) λx1=>(bif (decide ((l.length:Int)<=most))then(qn x1 bf).bind λx2=>bc x2 else bc bd)
def znt(x_:zX):Option (Bs8) :=
 bc x_.aL
def uQ(c0:List zX)(c1:Int)(c2:Int):Nat->(Int×(List Bs8))->Option ((List Bs8))
 |0,_=>bh
 |K+1,q=>(bif (decide (q.1<c2))then(idx c0 q.1).bind λx1=>aN (znt (zX.mk x1.aL x1.aB x1.Except x1.From x1.Until x1.Grace x1.Vary x1.aM (Expr.mk x1.Test.Op x1.Test.N x1.Test.S x1.Test.Key x1.Test.Args) x1.zx x1.Uses x1.Other x1.N)) λx2=>aN (grd (bg (q.2++([x2]:List Bs8))*16<=140737488355328)) λ_=>uQ c0 c1 c2 K ((w64 (q.1+1)),(q.2++([x2]:List Bs8)))else bc q.2)
def QY(l:List zX)(most:Int):Option (Bool) :=
 aN (uQ l most (l.length:Int) KK (0,[])) λx1=>(bif (decide ((l.length:Int)<=most))then(qn x1 bf).bind λx2=>bc x2 else bc bd)
def znu(x_:Cap):Option (Bs8) :=
 bc x_.aL
def uR(c0:List Cap)(c1:Int)(c2:Int):Nat->(Int×(List Bs8))->Option ((List Bs8))
 |0,_=>bh
 |K+1,q=>(bif (decide (q.1<c2))then(idx c0 q.1).bind λx1=>aN (znu x1) λx2=>aN (grd (bg (q.2++([x2]:List Bs8))*16<=140737488355328)) λ_=>uR c0 c1 c2 K ((w64 (q.1+1)),(q.2++([x2]:List Bs8)))else bc q.2)
def QZ(l:List Cap)(most:Int):Option (Bool) :=
 aN (uR l most (l.length:Int) KK (0,[])) λx1=>(bif (decide ((l.length:Int)<=most))then(qn x1 bf).bind λx2=>bc x2 else bc bd)
def znv(x_:av):Option (Bs8) :=
 bc x_.aL
def uS(c0:List av)(c1:Int)(c2:Int):Nat->(Int×(List Bs8))->Option ((List Bs8))
 |0,_=>bh
 |K+1,q=>(bif (decide (q.1<c2))then(idx c0 q.1).bind λx1=>aN (znv x1) λx2=>aN (grd (bg (q.2++([x2]:List Bs8))*16<=140737488355328)) λ_=>uS c0 c1 c2 K ((w64 (q.1+1)),(q.2++([x2]:List Bs8)))else bc q.2)
def Q0(l:List av)(most:Int):Option (Bool) :=
 aN (uS l most (l.length:Int) KK (0,[])) λx1=>(bif (decide ((l.length:Int)<=most))then(qn x1 bf).bind λx2=>bc x2 else bc bd)
def znw(x_:aw):Option (Bs8) :=
 bc x_.aL
def uT(c0:List aw)(c1:Int)(c2:Int):Nat->(Int×(List Bs8))->Option ((List Bs8))
 |0,_=>bh
 |K+1,q=>(bif (decide (q.1<c2))then(idx c0 q.1).bind λx1=>aN (znw x1) λx2=>aN (grd (bg (q.2++([x2]:List Bs8))*16<=140737488355328)) λ_=>uT c0 c1 c2 K ((w64 (q.1+1)),(q.2++([x2]:List Bs8)))else bc q.2)
def Q1(l:List aw)(most:Int):Option (Bool) :=
 aN (uT l most (l.length:Int) KK (0,[])) λx1=>(bif (decide ((l.length:Int)<=most))then(qn x1 bf).bind λx2=>bc x2 else bc bd)
def Ab(c0:Int)(c1:Int)(c2:List Int)(c3:Int):Nat->(Int)->Option ((Bool)⊕(Unit))
 |0,_=>bh
 |K+1,q=>(bif (decide (q<c3))then(idx c2 q).bind λx1=>aN ((bif (decide (x1<c0))then bc bf else bc (decide (x1>c1)))) λx2=>(bif x2 then bc (bo bd)else Ab c0 c1 c2 c3 K (w64 (q+1)))else bc (br ()))
def yd(from_:Int)(to_:Int)(l:List Int):Option (Bool) :=
 (Ab from_ to_ l (l.length:Int) KK 0).bind (wq bc λ_=>bc bf)
def qo(c0:List Bs8)(c1:List Bs8)(c2:Int):Nat->(Int)->Option ((Bool)⊕(Unit))
 |0,_=>bh
 |K+1,q=>(bif (decide (q<c2))then(idx c0 q).bind λx1=>aN (idx c1 q) λx2=>(bif (!(decide (x1=x2)))then bc (bo bd)else qo c0 c1 c2 K (w64 (q+1)))else bc (br ()))
def jG(s1:List Bs8)(s2:List Bs8):Option (Bool) :=
 (bif (!(decide ((s1.length:Int)=(s2.length:Int))))then bc bd else(qo s1 s2 (s1.length:Int) KK 0).bind (wq bc λ_=>bc bf))
def vO(r_sameExpr:Expr->Expr->Option (Bool))(c0:List Expr)(c1:List Expr)(c2:Int):Nat->(Int)->Option ((Bool)⊕(Unit))
 |0,_=>bh
 |K+1,q=>(bif (decide (q<c2))then(idx c1 q).bind λx1=>aN (idx c0 q) λx2=>aN (r_sameExpr (Expr.mk x1.Op x1.N x1.S x1.Key x1.Args) (Expr.mk x2.Op x2.N x2.S x2.Key x2.Args)) λx3=>(bif (!x3)then bc (bo bd)else vO r_sameExpr c0 c1 c2 K (w64 (q+1)))else bc (br ()))
mutual
def vH:Nat->(List Expr)->(List Expr)->Option (Bool)
 |0,_,_=>bh
 |RK+1,s1,s2=>(bif (!(decide ((s1.length:Int)=(s2.length:Int))))then bc bd else(vO (jg RK) s2 s1 (s1.length:Int) KK 0).bind (wq bc λ_=>bc bf))
def jg:Nat->Expr->Expr->Option (Bool)
 |0,_,_=>bh
 |RK+1,a,b=>(bif (decide (a.Op=b.Op))then(bif (decide (a.N=b.N))then(bif (decide (a.S=b.S))then(bif (decide (a.Key=b.Key))then(vH RK a.Args b.Args).bind λx1=>bc x1 else bc bd)else bc bd)else bc bd)else bc bd)
end
def qp(a:zX)(b:zX):Option (Bool) :=
 aN (aN (jG a.aB b.aB) λx2=>(bif (!x2)then bc bf else(jG a.Except b.Except).bind λx3=>(bif (!x3)then bc bf else(jg KK (Expr.mk a.Test.Op a.Test.N a.Test.S a.Test.Key a.Test.Args) (Expr.mk b.Test.Op b.Test.N b.Test.S b.Test.Key b.Test.Args)).bind λx4=>bc (!x4)))) λx1=>(bif x1 then bc bd else((bif (decide (a.aL=b.aL))then(bif (decide (a.From=b.From))then(bif (decide (a.Until=b.Until))then(bif (decide (a.Grace=b.Grace))then bc (a.Vary==b.Vary)else bc bd)else bc bd)else bc bd)else bc bd)).bind λx5=>(bif x5 then(bif (decide (a.aM=b.aM))then(bif (decide (a.zx.Side=b.zx.Side)&&(decide (a.zx.Base=b.zx.Base)&&(decide (a.zx.Num=b.zx.Num)&&(decide (a.zx.Den=b.zx.Den)))))then(bif (decide (a.Uses=b.Uses))then(bif (decide (a.Other=b.Other))then bc (decide (a.N=b.N))else bc bd)else bc bd)else bc bd)else bc bd)else bc bd))
def Ac(r_:zX):Option (Bool) :=
 aN (aN (qn r_.aB bd) λx2=>(bif (!x2)then bc bf else(qn r_.Except bd).bind λx3=>(bif (!x3)then bc bf else(yd 0 1073741824 ([r_.From,r_.Grace,r_.Until]:List Int)).bind λx4=>(bif (!x4)then bc bf else(bif (!(decide (r_.Until=0)))then bc (decide (r_.Until<=r_.From))else bc bd))))) λx1=>(bif x1 then bc bd else((bif (decide (r_.aM=0))then(jV (Expr.mk r_.Test.Op r_.Test.N r_.Test.S r_.Test.Key r_.Test.Args)).bind λx6=>bc (x6,r_.Test.Op,r_.Test.N,r_.Test.S,r_.Test.Key,r_.Test.Args,0,0,0,0,0,0,0)else(bif (decide (r_.aM=1))then(yd 0 3 ([r_.zx.Side]:List Int)).bind λx7=>(bif x7 then(yd 0 4096 ([r_.zx.Base,r_.zx.Num]:List Int)).bind λx8=>(bif x8 then(yd 1 4096 ([r_.zx.Den]:List Int)).bind λx9=>bc (x9,0,0,([]:Bs8),([]:Bs8),[],r_.zx.Side,r_.zx.Base,r_.zx.Num,r_.zx.Den,0,0,0)else bc (bd,0,0,([]:Bs8),([]:Bs8),[],r_.zx.Side,r_.zx.Base,r_.zx.Num,r_.zx.Den,0,0,0))else bc (bd,0,0,([]:Bs8),([]:Bs8),[],r_.zx.Side,r_.zx.Base,r_.zx.Num,r_.zx.Den,0,0,0))else(bif (decide (r_.aM=2))then(yd 1 63 ([r_.Uses]:List Int)).bind λx10=>bc (x10,0,0,([]:Bs8),([]:Bs8),[],0,0,0,0,r_.Uses,0,0)else(bif (decide (r_.aM=3))then(yd 0 5 ([r_.Uses,r_.Other]:List Int)).bind λx11=>(bif x11 then(yd 0 1048576 ([r_.N]:List Int)).bind λx12=>bc (x12,0,0,([]:Bs8),([]:Bs8),[],0,0,0,0,r_.Uses,r_.Other,r_.N)else bc (bd,0,0,([]:Bs8),([]:Bs8),[],0,0,0,0,r_.Uses,r_.Other,r_.N))else bc (bd,0,0,([]:Bs8),([]:Bs8),[],0,0,0,0,0,0,0)))))).bind λx5=>(bif x5.1 then(qp (zX.mk r_.aL r_.aB r_.Except r_.From r_.Until r_.Grace r_.Vary r_.aM (Expr.mk r_.Test.Op r_.Test.N r_.Test.S r_.Test.Key r_.Test.Args) r_.zx r_.Uses r_.Other r_.N) (zX.mk r_.aL r_.aB r_.Except r_.From r_.Until r_.Grace r_.Vary r_.aM (Expr.mk x5.2.1 x5.2.2.1 x5.2.2.2.1 x5.2.2.2.2.1 x5.2.2.2.2.2.1) (zx.mk x5.2.2.2.2.2.2.1 x5.2.2.2.2.2.2.2.1 x5.2.2.2.2.2.2.2.2.1 x5.2.2.2.2.2.2.2.2.2.1) x5.2.2.2.2.2.2.2.2.2.2.1 x5.2.2.2.2.2.2.2.2.2.2.2.1 x5.2.2.2.2.2.2.2.2.2.2.2.2)).bind λx13=>bc x13 else bc bd))
def oz(c0:List Def)(c1:Int)(c2:List au)(c3:List yD)(c4:List zX)(c5:List Cap)(c6:List av)(c7:List zg)(c8:Int):Nat->(Int)->Option ((Bool)⊕(Unit))
 |0,_=>bh
 |K+1,q=>(bif (decide (q<c1))then(idx c0 q).bind λx1=>aN (jV (Expr.mk x1.Body.Op x1.Body.N x1.Body.S x1.Body.Key x1.Body.Args)) λx2=>(bif (!x2)then bc (bo bd)else oz c0 c1 c2 c3 c4 c5 c6 c7 c8 K (w64 (q+1)))else bc (br ()))
def Hr(c0:List au)(c1:Int)(c2:Int)(c3:List aw)(c4:Int)(c5:List Def)(c6:List yD)(c7:List zX)(c8:List Cap)(c9:List av)(c10:List zg)(c11:Int):Nat->(Int)->Option ((Bool)⊕(Unit))
 |0,_=>bh
 |K+1,q=>(bif (decide (q<c4))then(idx c3 q).bind λx1=>aN (yd (-1099511627776) 1099511627776 ([x1.N]:List Int)) λx2=>(bif (!x2)then bc (bo bd)else Hr c0 c1 c2 c3 c4 c5 c6 c7 c8 c9 c10 c11 K (w64 (q+1)))else bc (br ()))
def qq(c0:List au)(c1:Int)(c2:List Def)(c3:List yD)(c4:List zX)(c5:List Cap)(c6:List av)(c7:List zg)(c8:Int):Nat->(Int)->Option ((Bool)⊕(Unit))
 |0,_=>bh
 |K+1,q=>(bif (decide (q<c1))then(idx c0 q).bind λx1=>aN (aN (Q1 x1.Rows 60) λx3=>(bif (!x3)then bc bf else(yd (-1099511627776) 1099511627776 ([x1.Else]:List Int)).bind λx4=>bc (!x4))) λx2=>(bif x2 then bc (bo bd)else(Hr c0 c1 q x1.Rows (x1.Rows.length:Int) c2 c3 c4 c5 c6 c7 c8 KK 0).bind (wq (λq=>bc (bo q)) λ_=>qq c0 c1 c2 c3 c4 c5 c6 c7 c8 K (w64 (q+1))))else bc (br ()))
def oA(c0:List yD)(c1:Int)(c2:List Def)(c3:List au)(c4:List zX)(c5:List Cap)(c6:List av)(c7:List zg)(c8:Int):Nat->(Int)->Option ((Bool)⊕(Unit))
 |0,_=>bh
 |K+1,q=>(bif (decide (q<c1))then(idx c0 q).bind λx1=>aN (ve x1.aA) λx2=>(bif (!x2)then bc (bo bd)else oA c0 c1 c2 c3 c4 c5 c6 c7 c8 K (w64 (q+1)))else bc (br ()))
def oB(c0:List zX)(c1:Int)(c2:List Def)(c3:List au)(c4:List yD)(c5:List Cap)(c6:List av)(c7:List zg)(c8:Int):Nat->(Int)->Option ((Bool)⊕(Unit))
 |0,_=>bh
 |K+1,q=>(bif (decide (q<c1))then(idx c0 q).bind λx1=>aN (Ac (zX.mk x1.aL x1.aB x1.Except x1.From x1.Until x1.Grace x1.Vary x1.aM (Expr.mk x1.Test.Op x1.Test.N x1.Test.S x1.Test.Key x1.Test.Args) x1.zx x1.Uses x1.Other x1.N)) λx2=>(bif (!x2)then bc (bo bd)else oB c0 c1 c2 c3 c4 c5 c6 c7 c8 K (w64 (q+1)))else bc (br ()))
def oC(c0:List Cap)(c1:Int)(c2:List Def)(c3:List au)(c4:List yD)(c5:List zX)(c6:List av)(c7:List zg)(c8:Int):Nat->(Int)->Option ((Bool)⊕(Unit))
 |0,_=>bh
 |K+1,q=>(bif (decide (q<c1))then(idx c0 q).bind λx1=>aN (aN (yd 0 2 ([x1.Load]:List Int)) λx3=>(bif (!x3)then bc bf else(yd 0 1099511627776 ([x1.Limit]:List Int)).bind λx4=>(bif (!x4)then bc bf else(ve x1.aA).bind λx5=>bc (!x5)))) λx2=>(bif x2 then bc (bo bd)else oC c0 c1 c2 c3 c4 c5 c6 c7 c8 K (w64 (q+1)))else bc (br ()))
def Hs(c0:List av)(c1:Int)(c2:Int)(c3:Int)(c4:List Def)(c5:List au)(c6:List yD)(c7:List zX)(c8:List Cap)(c9:List zg)(c10:Int)(c11:List zg):Nat->(Int)->Option ((Bool)⊕(Unit))
 |0,_=>bh
 |K+1,q=>(bif (decide (q<c3))then(grd (0<=q/\q<(((bg c11):Nat):Int))).bind λ_=>aN ((c11)[(cg q)]?) λx2=>aN (aN (yd 0 1048576 ([x2.X,x2.Y]:List Int)) λx4=>(bif (!x4)then bc bf else(yd 0 4096 ([x2.Z_]:List Int)).bind λx5=>bc (!x5))) λx3=>(bif x3 then bc (bo bd)else Hs c0 c1 c2 c3 c4 c5 c6 c7 c8 c9 c10 c11 K (w64 (q+1)))else bc (br ()))
def qs(c0:List av)(c1:Int)(c2:List Def)(c3:List au)(c4:List yD)(c5:List zX)(c6:List Cap)(c7:List zg)(c8:Int):Nat->(Int)->Option ((Bool)⊕(Unit))
 |0,_=>bh
 |K+1,q=>(bif (decide (q<c1))then(idx c0 q).bind λx1=>aN (aN (yd 0 20 ([x1.Least]:List Int)) λx3=>(bif (!x3)then bc bf else(yd 1 20 ([(x1.Targets.length:Int)]:List Int)).bind λx4=>bc (!x4))) λx2=>(bif x2 then bc (bo bd)else(grd (bg (([x1.Eye]:List zg)++x1.Targets)*24<=140737488355328)).bind λ_=>(Hs c0 c1 q (((bg (([x1.Eye]:List zg)++x1.Targets)):Nat):Int) c2 c3 c4 c5 c6 c7 c8 (([x1.Eye]:List zg)++x1.Targets) KK 0).bind (wq (λq=>bc (bo q)) λ_=>qs c0 c1 c2 c3 c4 c5 c6 c7 c8 K (w64 (q+1))))else bc (br ()))
def oD(c0:List zg)(c1:Int)(c2:List Def)(c3:List au)(c4:List yD)(c5:List zX)(c6:List Cap)(c7:List av)(c8:Int):Nat->(Int)->Option ((Bool)⊕(Unit))
 |0,_=>bh
 |K+1,q=>(bif (decide (q<c1))then(idx c0 q).bind λx1=>aN (aN (yd (-4096) 4096 ([x1.X,x1.Y]:List Int)) λx3=>(bif (!x3)then bc bf else(yd 1 4096 ([x1.Z_]:List Int)).bind λx4=>bc (!x4))) λx2=>(bif x2 then bc (bo bd)else oD c0 c1 c2 c3 c4 c5 c6 c7 c8 K (w64 (q+1)))else bc (br ()))
def VI(p:yJ):Option (Bool) :=
 aN (aN (za2 p.aF 60) λx2=>(bif (!x2)then bc bf else(QW p.Tables 60).bind λx3=>(bif (!x3)then bc bf else(QX p.aB 60).bind λx4=>(bif (!x4)then bc bf else(QY p.aE 200).bind λx5=>(bif (!x5)then bc bf else(QZ p.aJ 30).bind λx6=>(bif (!x6)then bc bf else(Q0 p.aG 60).bind λx7=>bc (!x7))))))) λx1=>(bif x1 then bc bd else(oz p.aF (p.aF.length:Int) p.Tables p.aB p.aE p.aJ p.aG p.aK p.aI KK 0).bind (wq bc λ_=>(qq p.Tables (p.Tables.length:Int) p.aF p.aB p.aE p.aJ p.aG p.aK p.aI KK 0).bind (wq bc λ_=>(oA p.aB (p.aB.length:Int) p.aF p.Tables p.aE p.aJ p.aG p.aK p.aI KK 0).bind (wq bc λ_=>(oB p.aE (p.aE.length:Int) p.aF p.Tables p.aB p.aJ p.aG p.aK p.aI KK 0).bind (wq bc λ_=>(oC p.aJ (p.aJ.length:Int) p.aF p.Tables p.aB p.aE p.aG p.aK p.aI KK 0).bind (wq bc λ_=>(qs p.aG (p.aG.length:Int) p.aF p.Tables p.aB p.aE p.aJ p.aK p.aI KK 0).bind (wq bc λ_=>(oD p.aK (p.aK.length:Int) p.aF p.Tables p.aB p.aE p.aJ p.aG p.aI KK 0).bind (wq bc λ_=>aN (yd 0 24 ([p.aI,(p.aK.length:Int)]:List Int)) λx15=>bc x15))))))))
def Ht(a0:Bs8):Option (Bs8):=bc a0
def Jw(a0:Bs8)(a1:Int):Option (Bs8):=zum a0 a1
def Ad(a0:Bs8)(a1:Bs8):Option (Int×Bs8):=aN (grd (bg a0+bg a1<=140737488355328)) λ_=>bc ((a1.length:Int),a0++a1)
def oE(c0:List (Int⊕Bs8))(c1:Int):Nat->(Bs8×Int)->Option (Bs8)
 |0,_=>bh
 |K+1,q=>(bif (decide (q.2<c1))then(aN (idx c0 q.2) λx2=>aN (aN (Ht q.1) λx4=>aN ((bif (!(decide (x4=([]:Bs8))))then(idx x4 (w64 ((x4.length:Int)-1))).bind λx6=>bc (!(decide (((x6.toNat:Nat):Int)=10)))else bc bd)) λx5=>(bif x5 then(Jw q.1 32).bind λx7=>bc x7 else bc q.1)) λx3=>(bif (zP5 x2)then(Ad x3 (anyS x2)).bind λx8=>bc x8.2 else(bif (!(zP5 x2))then((bif (decide ((anyI x2)<0))then(Ad x3 JV).bind λx10=>bc (x10.2,(w64 (0-(anyI x2))))else bc (x3,(anyI x2)))).bind λx9=>aN (ZD x9.2) λx11=>aN (Ad x9.1 x11) λx12=>bc x12.2 else bc x3))).bind λx1=>oE c0 c1 K (x1,(w64 (q.2+1)))else bc q.1)
def yu(b:Bs8)(l:List (Int⊕Bs8)):Option (Bs8) :=
 aN (oE l (l.length:Int) KK (b,0)) λx1=>bc x1
def qt(b:Bs8):Option (Bs8) :=
 aN (yu b ([(br yf)]:List (Int⊕Bs8))) λx1=>aN (Jw x1 10) λx2=>bc x2
def Q2(b:Bs8)(e:Expr):Option (Bs8) :=
 aN (wa KK ([]:Bs8) (Expr.mk e.Op e.N e.S e.Key e.Args) 0) λx1=>aN (qd x1) λx2=>aN (yu b ([(br x2)]:List (Int⊕Bs8))) λx3=>aN (qt x3) λx4=>bc x4
def wg(c0:List zU)(c1:Int):Nat->(Bs8×Int)->Option (Bs8)
 |0,_=>bh
 |K+1,q=>(bif (decide (q.2<c1))then(idx c0 q.2).bind λx1=>aN (yu q.1 ([(bo x1.X),(bo x1.Y)]:List (Int⊕Bs8))) λx2=>wg c0 c1 K (x2,(w64 (q.2+1)))else bc q.1)
def Hu(b:Bs8)(l:List zU):Option (Bs8) :=
 aN (wg l (l.length:Int) KK (b,0)) λx1=>aN (qt x1) λx2=>bc x2
def ZE(a0:List Bs8)(a1:Bs8):Option (Bs8):=J.jF a0 a1
def jX(c0:Int)(c1:Bs8)(c2:List Bs8)(c3:List Bs8)(c4:Int)(c5:Int)(c6:Int)(c7:Bool)(c8:Int)(c9:Int)(c10:Int)(c11:Bs8)(c12:Bs8)(c13:List Expr)(c14:Int)(c15:Int)(c16:Int)(c17:Int)(c18:Int)(c19:Int)(c20:Int)(c21:(List (List Bs8))):Nat->(Bs8×Int)->Option (Bs8)
 |0,_=>bh
 |K+1,q=>(bif (decide (q.2<c0))then(aN (grd (0<=q.2/\q.2<(((bg c21):Nat):Int))) λ_=>aN ((c21)[(cg q.2)]?) λx3=>(bif (decide ((x3.length:Int)>0))then(grd (0<=q.2/\q.2<((2:Nat):Int))).bind λ_=>aN ((([ze5,yZ]:List Bs8))[(cg q.2)]?) λx5=>aN (ZE x3 t__) λx6=>aN (yu q.1 ([(br x5),(br x6)]:List (Int⊕Bs8))) λx7=>bc x7 else bc q.1)).bind λx1=>jX c0 c1 c2 c3 c4 c5 c6 c7 c8 c9 c10 c11 c12 c13 c14 c15 c16 c17 c18 c19 c20 c21 K (x1,(w64 (q.2+1)))else bc q.1)
def vP(c0:Int)(c1:Bs8)(c2:List Bs8)(c3:List Bs8)(c4:Int)(c5:Int)(c6:Int)(c7:Bool)(c8:Int)(c9:Int)(c10:Int)(c11:Bs8)(c12:Bs8)(c13:List Expr)(c14:Int)(c15:Int)(c16:Int)(c17:Int)(c18:Int)(c19:Int)(c20:Int)(c21:List Int):Nat->(Bs8×Int)->Option (Bs8)
 |0,_=>bh
 |K+1,q=>(bif (decide (q.2<c0))then(aN (grd (0<=q.2/\q.2<(((bg c21):Nat):Int))) λ_=>aN ((c21)[(cg q.2)]?) λx3=>(bif (!(decide (x3=0)))then(grd (0<=q.2/\q.2<((3:Nat):Int))).bind λ_=>aN ((([vD,xF,xR]:List Bs8))[(cg q.2)]?) λx5=>aN (yu q.1 ([(br x5),(bo x3)]:List (Int⊕Bs8))) λx6=>bc x6 else bc q.1)).bind λx1=>vP c0 c1 c2 c3 c4 c5 c6 c7 c8 c9 c10 c11 c12 c13 c14 c15 c16 c17 c18 c19 c20 c21 K (x1,(w64 (q.2+1)))else bc q.1)
def wk(c0:Int)(c1:Bs8)(c2:List Bs8)(c3:List Bs8)(c4:Int)(c5:Int)(c6:Int)(c7:Bool)(c8:Int)(c9:Int)(c10:Int)(c11:Bs8)(c12:Bs8)(c13:List Expr)(c14:Int)(c15:Int)(c16:Int)(c17:Int)(c18:Int)(c19:Int)(c20:Int)(c21:List Bs8):Nat->(Bs8×Int)->Option (Bs8)
 |0,_=>bh
 |K+1,q=>(bif (decide (q.2<c0))then(aN (grd (0<=q.2/\q.2<(((bg c21):Nat):Int))) λ_=>aN ((c21)[(cg q.2)]?) λx3=>aN (grd (0<=q.2)) λ_=>(bif (decide ((IntKind.i64.wrap ((cM IntKind.i64.bits (gC c18 (2 ^ (min (cg q.2) IntKind.i64.bits))) &&& cM IntKind.i64.bits 1).toNat:Int))=1))then(yu q.1 ([(br x3)]:List (Int⊕Bs8))).bind λx5=>bc x5 else bc q.1)).bind λx1=>wk c0 c1 c2 c3 c4 c5 c6 c7 c8 c9 c10 c11 c12 c13 c14 c15 c16 c17 c18 c19 c20 c21 K (x1,(w64 (q.2+1)))else bc q.1)
def za3(b:Bs8)(r_:zX):Option (Bs8) :=
 aN (yu b ([(br qU),(br r_.aL)]:List (Int⊕Bs8))) λx1=>aN (jX ((2:Nat):Int) r_.aL r_.aB r_.Except r_.From r_.Until r_.Grace r_.Vary r_.aM r_.Test.Op r_.Test.N r_.Test.S r_.Test.Key r_.Test.Args r_.zx.Side r_.zx.Base r_.zx.Num r_.zx.Den r_.Uses r_.Other r_.N ([r_.aB,r_.Except]:List (List Bs8)) KK (x1,0)) λx2=>aN (vP ((3:Nat):Int) r_.aL r_.aB r_.Except r_.From r_.Until r_.Grace r_.Vary r_.aM r_.Test.Op r_.Test.N r_.Test.S r_.Test.Key r_.Test.Args r_.zx.Side r_.zx.Base r_.zx.Num r_.zx.Den r_.Uses r_.Other r_.N ([r_.From,r_.Until,r_.Grace]:List Int) KK (x2,0)) λx3=>aN ((bif r_.Vary then(yu x3 ([(br wc)]:List (Int⊕Bs8))).bind λx5=>bc x5 else bc x3)) λx4=>aN (yu x4 ([(br xM)]:List (Int⊕Bs8))) λx6=>aN (vG zi) λx7=>((bif (decide (r_.aM=0))then(Q2 x6 (Expr.mk r_.Test.Op r_.Test.N r_.Test.S r_.Test.Key r_.Test.Args)).bind λx9=>bc (bo x9)else(bif (decide (r_.aM=1))then(yu x6 ([(br qf),(bo r_.zx.Side),(br AB),(bo r_.zx.Base),(br jA),(bo r_.zx.Num),(bo r_.zx.Den)]:List (Int⊕Bs8))).bind λx10=>bc (br x10)else(bif (decide (r_.aM=3))then(grd (0<=r_.Uses/\r_.Uses<(((bg x7):Nat):Int))).bind λ_=>aN ((x7)[(cg r_.Uses)]?) λx12=>aN (grd (0<=r_.Other/\r_.Other<(((bg x7):Nat):Int))) λ_=>aN ((x7)[(cg r_.Other)]?) λx14=>aN (yu x6 ([(br qe),(br x12),(br x14),(bo r_.N)]:List (Int⊕Bs8))) λx15=>bc (br x15)else(bif (decide (r_.aM=2))then(yu x6 ([(br oT)]:List (Int⊕Bs8))).bind λx16=>aN (wk (((bg x7):Nat):Int) r_.aL r_.aB r_.Except r_.From r_.Until r_.Grace r_.Vary r_.aM r_.Test.Op r_.Test.N r_.Test.S r_.Test.Key r_.Test.Args r_.zx.Side r_.zx.Base r_.zx.Num r_.zx.Den r_.Uses r_.Other r_.N x7 KK (x16,0)) λx17=>bc (br x17)else bc (br x6)))))).bind (wq bc λx8=>aN (qt x8) λx18=>bc x18)
def zri(a0:Bs8):Option (Int):=bc (a0.length:Int)
def jh(c0:List Def)(c1:Int)(c2:List au)(c3:List yD)(c4:List zX)(c5:List Cap)(c6:List av)(c7:List zg)(c8:Int):Nat->(Int×Bs8)->Option (Bs8)
 |0,_=>bh
 |K+1,q=>(bif (decide (q.1<c1))then(idx c0 q.1).bind λx1=>aN (yu q.2 ([(br wZ),(br x1.aL),(br Av)]:List (Int⊕Bs8))) λx2=>aN (Q2 x2 (Expr.mk x1.Body.Op x1.Body.N x1.Body.S x1.Body.Key x1.Body.Args)) λx3=>jh c0 c1 c2 c3 c4 c5 c6 c7 c8 K ((w64 (q.1+1)),x3)else bc q.2)
def ji(c0:List au)(c1:Int)(c2:Int)(c3:List aw)(c4:Int)(c5:List Def)(c6:List yD)(c7:List zX)(c8:List Cap)(c9:List av)(c10:List zg)(c11:Int)(c12:Bs8)(c13:Int):Nat->(Int×Bs8)->Option (Bs8)
 |0,_=>bh
 |K+1,q=>(bif (decide (q.1<c4))then(idx c3 q.1).bind λx1=>aN (yu q.2 ([(br x1.aL),(bo x1.N)]:List (Int⊕Bs8))) λx2=>ji c0 c1 c2 c3 c4 c5 c6 c7 c8 c9 c10 c11 c12 c13 K ((w64 (q.1+1)),x2)else bc q.2)
def jj(c0:List au)(c1:Int)(c2:List Def)(c3:List yD)(c4:List zX)(c5:List Cap)(c6:List av)(c7:List zg)(c8:Int):Nat->(Int×Bs8)->Option (Bs8)
 |0,_=>bh
 |K+1,q=>(bif (decide (q.1<c1))then(idx c0 q.1).bind λx1=>aN (yu q.2 ([(br yy),(br x1.aL)]:List (Int⊕Bs8))) λx2=>aN (ji c0 c1 q.1 x1.Rows (x1.Rows.length:Int) c2 c3 c4 c5 c6 c7 c8 x1.aL x1.Else KK (0,x2)) λx3=>aN (yu x3 ([(br xe),(bo x1.Else)]:List (Int⊕Bs8))) λx4=>aN (qt x4) λx5=>jj c0 c1 c2 c3 c4 c5 c6 c7 c8 K ((w64 (q.1+1)),x5)else bc q.2)
def jk(c0:List yD)(c1:Int)(c2:List Def)(c3:List au)(c4:List zX)(c5:List Cap)(c6:List av)(c7:List zg)(c8:Int):Nat->(Int×Bs8)->Option (Bs8)
 |0,_=>bh
 |K+1,q=>(bif (decide (q.1<c1))then(idx c0 q.1).bind λx1=>aN ((bif x1.Overlay then bc yH else bc xm)) λx2=>aN (yu q.2 ([(br x2),(br x1.aL)]:List (Int⊕Bs8))) λx3=>aN (Hu x3 x1.aA) λx4=>jk c0 c1 c2 c3 c4 c5 c6 c7 c8 K ((w64 (q.1+1)),x4)else bc q.2)
def jm(c0:List zX)(c1:Int)(c2:List Def)(c3:List au)(c4:List yD)(c5:List Cap)(c6:List av)(c7:List zg)(c8:Int):Nat->(Int×Bs8)->Option (Bs8)
 |0,_=>bh
 |K+1,q=>(bif (decide (q.1<c1))then(idx c0 q.1).bind λx1=>aN (za3 q.2 (zX.mk x1.aL x1.aB x1.Except x1.From x1.Until x1.Grace x1.Vary x1.aM (Expr.mk x1.Test.Op x1.Test.N x1.Test.S x1.Test.Key x1.Test.Args) x1.zx x1.Uses x1.Other x1.N)) λx2=>jm c0 c1 c2 c3 c4 c5 c6 c7 c8 K ((w64 (q.1+1)),x2)else bc q.2)
def jo(c0:List Cap)(c1:Int)(c2:List Def)(c3:List au)(c4:List yD)(c5:List zX)(c6:List av)(c7:List zg)(c8:Int):Nat->(Int×Bs8)->Option (Bs8)
 |0,_=>bh
 |K+1,q=>(bif (decide (q.1<c1))then(idx c0 q.1).bind λx1=>aN (vG zV) λx2=>aN (grd (0<=x1.Load/\x1.Load<(((bg x2):Nat):Int))) λ_=>aN ((x2)[(cg x1.Load)]?) λx4=>aN (yu q.2 ([(br WQ),(br x1.aL),(br x4),(bo x1.Limit)]:List (Int⊕Bs8))) λx5=>aN (Hu x5 x1.aA) λx6=>jo c0 c1 c2 c3 c4 c5 c6 c7 c8 K ((w64 (q.1+1)),x6)else bc q.2)
def jt(c0:List av)(c1:Int)(c2:Int)(c3:List zg)(c4:Int)(c5:List Def)(c6:List au)(c7:List yD)(c8:List zX)(c9:List Cap)(c10:List zg)(c11:Int):Nat->(Int×Bs8)->Option (Bs8)
 |0,_=>bh
 |K+1,q=>(bif (decide (q.1<c4))then(idx c3 q.1).bind λx1=>aN (yu q.2 ([(bo x1.X),(bo x1.Y),(bo x1.Z_)]:List (Int⊕Bs8))) λx2=>jt c0 c1 c2 c3 c4 c5 c6 c7 c8 c9 c10 c11 K ((w64 (q.1+1)),x2)else bc q.2)
def ju(c0:List av)(c1:Int)(c2:List Def)(c3:List au)(c4:List yD)(c5:List zX)(c6:List Cap)(c7:List zg)(c8:Int):Nat->(Int×Bs8)->Option (Bs8)
 |0,_=>bh
 |K+1,q=>(bif (decide (q.1<c1))then(idx c0 q.1).bind λx1=>aN (yu q.2 ([(br AD),(br x1.aL),(bo x1.Eye.X),(bo x1.Eye.Y),(bo x1.Eye.Z_),(br vM),(bo x1.Least),(br xM)]:List (Int⊕Bs8))) λx2=>aN (jt c0 c1 q.1 x1.Targets (x1.Targets.length:Int) c2 c3 c4 c5 c6 c7 c8 KK (0,x2)) λx3=>aN (qt x3) λx4=>ju c0 c1 c2 c3 c4 c5 c6 c7 c8 K ((w64 (q.1+1)),x4)else bc q.2)
def jv(c0:List zg)(c1:Int)(c2:List Def)(c3:List au)(c4:List yD)(c5:List zX)(c6:List Cap)(c7:List av)(c8:Int):Nat->(Int×Bs8)->Option (Bs8)
 |0,_=>bh
 |K+1,q=>(bif (decide (q.1<c1))then(idx c0 q.1).bind λx1=>aN (grd (0<=(min q.1 1)/\(min q.1 1)<((2:Nat):Int))) λ_=>aN ((([Jf,kW]:List Bs8))[(cg (min q.1 1))]?) λx3=>aN (yu q.2 ([(br x3),(bo x1.X),(bo x1.Y),(bo x1.Z_)]:List (Int⊕Bs8))) λx4=>jv c0 c1 c2 c3 c4 c5 c6 c7 c8 K ((w64 (q.1+1)),x4)else bc q.2)
def zc2(p:yJ):Option (Bs8×Int) :=
 aN (VI p) λx1=>(bif (!x1)then bc (([]:Bs8),1)else(jh p.aF (p.aF.length:Int) p.Tables p.aB p.aE p.aJ p.aG p.aK p.aI KK (0,([]:Bs8))).bind λx2=>aN (jj p.Tables (p.Tables.length:Int) p.aF p.aB p.aE p.aJ p.aG p.aK p.aI KK (0,x2)) λx3=>aN (jk p.aB (p.aB.length:Int) p.aF p.Tables p.aE p.aJ p.aG p.aK p.aI KK (0,x3)) λx4=>aN (jm p.aE (p.aE.length:Int) p.aF p.Tables p.aB p.aJ p.aG p.aK p.aI KK (0,x4)) λx5=>aN (jo p.aJ (p.aJ.length:Int) p.aF p.Tables p.aB p.aE p.aG p.aK p.aI KK (0,x5)) λx6=>aN (ju p.aG (p.aG.length:Int) p.aF p.Tables p.aB p.aE p.aJ p.aK p.aI KK (0,x6)) λx7=>aN (jv p.aK (p.aK.length:Int) p.aF p.Tables p.aB p.aE p.aJ p.aG p.aI KK (0,x7)) λx8=>aN ((bif (decide ((p.aK.length:Int)>0))then(qt x8).bind λx10=>bc x10 else bc x8)) λx9=>aN ((bif (!(decide (p.aI=0)))then(yu x9 ([(br kD),(bo p.aI)]:List (Int⊕Bs8))).bind λx12=>aN (qt x12) λx13=>bc x13 else bc x9)) λx11=>aN (zri x11) λx14=>(bif (decide (x14>8000))then bc (([]:Bs8),6)else(Ht x11).bind λx15=>bc (x15,0)))
def Jx:Option (Bool) :=
 aN (zcx zcv) λx1=>aN (VF (Expr.mk x1.2.2.1 x1.2.2.2.1 x1.2.2.2.2.1 x1.2.2.2.2.2.1 x1.2.2.2.2.2.2)) λx2=>aN (VF (Expr.mk 6 0 ([]:Bs8) ([]:Bs8) ([(Expr.mk 0 2 ([]:Bs8) ([]:Bs8) []),(Expr.mk 4 0 ([]:Bs8) ([]:Bs8) ([(Expr.mk 1 0 t_a ([]:Bs8) []),(Expr.mk 1 0 t_b ([]:Bs8) [])]:List Expr))]:List Expr))) λx3=>aN (um qV) λx4=>aN (um zjv) λx5=>aN (um Va) λx6=>aN (um WR) λx7=>aN (um Jg) λx8=>aN (um uk) λx9=>aN ((bif (decide (x1.2.1=0))then(bif (decide (x2.2=0))then(bif (decide (x2.1=KY))then(bif (decide (x3.2=0))then(bif (decide (x3.1=Je))then(bif (decide (x4.2.1=0))then(bif (decide ((((bg x4.2.2.2.2.2.2.1):Nat):Int)=1))then(grd ((0:Int)<=0/\0<(((bg x4.2.2.2.2.2.2.1):Nat):Int))).bind λ_=>aN ((x4.2.2.2.2.2.2.1)[(cg 0)]?) λx12=>bc (decide ((x12.aA.length:Int)=4))else bc bd)else bc bd)else bc bd)else bc bd)else bc bd)else bc bd)else bc bd)) λx10=>aN ((bif (decide (x5.1=6))then(bif (decide (x5.2.1=3))then(bif (decide (x6.1=7))then(bif (decide (x6.2.1=14))then(bif (decide (x7.1=11))then(bif (decide (x7.2.1=14))then(bif (decide (x8.1=18))then(bif (decide (x8.2.1=10))then(bif (decide (x9.1=18))then bc (decide (x9.2.1=5))else bc bd)else bc bd)else bc bd)else bc bd)else bc bd)else bc bd)else bc bd)else bc bd)else bc bd)) λx13=>aN (zc2 (yJ.mk x4.2.2.2.2.1 x4.2.2.2.2.2.1 x4.2.2.2.2.2.2.1 x4.2.2.2.2.2.2.2.1 x4.2.2.2.2.2.2.2.2.1 x4.2.2.2.2.2.2.2.2.2 x4.2.2.1 x4.2.2.2.1)) λx14=>(bif x10 then(bif x13 then(bif (decide (x14.2=0))then(bif (decide (x14.1=kr))then(VI (yJ.mk x4.2.2.2.2.1 x4.2.2.2.2.2.1 x4.2.2.2.2.2.2.1 x4.2.2.2.2.2.2.2.1 x4.2.2.2.2.2.2.2.2.1 x4.2.2.2.2.2.2.2.2.2 x4.2.2.1 x4.2.2.2.1)).bind λx15=>(bif x15 then(VI (yJ.mk [] [] [] [] [] [] [] 25)).bind λx16=>(bif (!x16)then(Vm t_a1).bind λx17=>(bif x17 then(Vm qU).bind λx18=>bc (!x18)else bc bd)else bc bd)else bc bd)else bc bd)else bc bd)else bc bd)else bc bd)
def za4(x_:Def)(y:Def):Option (Bool) :=
 (bif (decide (x_.aL=y.aL))then(jg KK (Expr.mk x_.Body.Op x_.Body.N x_.Body.S x_.Body.Key x_.Body.Args) (Expr.mk y.Body.Op y.Body.N y.Body.S y.Body.Key y.Body.Args)).bind λx1=>bc x1 else bc bd)
def vf(c0:List Def)(c1:List Def)(c2:Int):Nat->(Int)->Option ((Bool)⊕(Unit))
 |0,_=>bh
 |K+1,q=>(bif (decide (q<c2))then(idx c1 q).bind λx1=>aN (idx c0 q) λx2=>aN (za4 (Def.mk x1.aL (Expr.mk x1.Body.Op x1.Body.N x1.Body.S x1.Body.Key x1.Body.Args)) (Def.mk x2.aL (Expr.mk x2.Body.Op x2.Body.N x2.Body.S x2.Body.Key x2.Body.Args))) λx3=>(bif (!x3)then bc (bo bd)else vf c0 c1 c2 K (w64 (q+1)))else bc (br ()))
def wz(s1:List Def)(s2:List Def):Option (Bool) :=
 (bif (!(decide ((s1.length:Int)=(s2.length:Int))))then bc bd else(vf s2 s1 (s1.length:Int) KK 0).bind (wq bc λ_=>bc bf))
def jY(c0:List aw)(c1:List aw)(c2:Int):Nat->(Int)->Option ((Bool)⊕(Unit))
 |0,_=>bh
 |K+1,q=>(bif (decide (q<c2))then(idx c0 q).bind λx1=>aN (idx c1 q) λx2=>(bif (!(decide (x1.aL=x2.aL)&&(decide (x1.N=x2.N))))then bc (bo bd)else jY c0 c1 c2 K (w64 (q+1)))else bc (br ()))
def jP(s1:List aw)(s2:List aw):Option (Bool) :=
 (bif (!(decide ((s1.length:Int)=(s2.length:Int))))then bc bd else(jY s1 s2 (s1.length:Int) KK 0).bind (wq bc λ_=>bc bf))
def za5(x_:au)(y:au):Option (Bool) :=
 (bif (decide (x_.aL=y.aL))then(bif (decide (x_.Else=y.Else))then(jP x_.Rows y.Rows).bind λx1=>bc x1 else bc bd)else bc bd)
def vg(c0:List au)(c1:List au)(c2:Int):Nat->(Int)->Option ((Bool)⊕(Unit))
 |0,_=>bh
 |K+1,q=>(bif (decide (q<c2))then(idx c1 q).bind λx1=>aN (idx c0 q) λx2=>aN (za5 x1 x2) λx3=>(bif (!x3)then bc (bo bd)else vg c0 c1 c2 K (w64 (q+1)))else bc (br ()))
def wA(s1:List au)(s2:List au):Option (Bool) :=
 (bif (!(decide ((s1.length:Int)=(s2.length:Int))))then bc bd else(vg s2 s1 (s1.length:Int) KK 0).bind (wq bc λ_=>bc bf))
def vh(c0:List zX)(c1:List zX)(c2:Int):Nat->(Int)->Option ((Bool)⊕(Unit))
 |0,_=>bh
 |K+1,q=>(bif (decide (q<c2))then(idx c1 q).bind λx1=>aN (idx c0 q) λx2=>aN (qp (zX.mk x1.aL x1.aB x1.Except x1.From x1.Until x1.Grace x1.Vary x1.aM (Expr.mk x1.Test.Op x1.Test.N x1.Test.S x1.Test.Key x1.Test.Args) x1.zx x1.Uses x1.Other x1.N) (zX.mk x2.aL x2.aB x2.Except x2.From x2.Until x2.Grace x2.Vary x2.aM (Expr.mk x2.Test.Op x2.Test.N x2.Test.S x2.Test.Key x2.Test.Args) x2.zx x2.Uses x2.Other x2.N)) λx3=>(bif (!x3)then bc (bo bd)else vh c0 c1 c2 K (w64 (q+1)))else bc (br ()))
def wB(s1:List zX)(s2:List zX):Option (Bool) :=
 (bif (!(decide ((s1.length:Int)=(s2.length:Int))))then bc bd else(vh s2 s1 (s1.length:Int) KK 0).bind (wq bc λ_=>bc bf))
def jZ(c0:List zU)(c1:List zU)(c2:Int):Nat->(Int)->Option ((Bool)⊕(Unit))
 |0,_=>bh
 |K+1,q=>(bif (decide (q<c2))then(idx c0 q).bind λx1=>aN (idx c1 q) λx2=>(bif (!(decide (x1.X=x2.X)&&(decide (x1.Y=x2.Y))))then bc (bo bd)else jZ c0 c1 c2 K (w64 (q+1)))else bc (br ()))
def vt(s1:List zU)(s2:List zU):Option (Bool) :=
 (bif (!(decide ((s1.length:Int)=(s2.length:Int))))then bc bd else(jZ s1 s2 (s1.length:Int) KK 0).bind (wq bc λ_=>bc bf))
def za6(x_:yD)(y:yD):Option (Bool) :=
 (bif (decide (x_.aL=y.aL))then(bif (x_.Overlay==y.Overlay)then(vt x_.aA y.aA).bind λx1=>bc x1 else bc bd)else bc bd)
def vi(c0:List yD)(c1:List yD)(c2:Int):Nat->(Int)->Option ((Bool)⊕(Unit))
 |0,_=>bh
 |K+1,q=>(bif (decide (q<c2))then(idx c1 q).bind λx1=>aN (idx c0 q) λx2=>aN (za6 x1 x2) λx3=>(bif (!x3)then bc (bo bd)else vi c0 c1 c2 K (w64 (q+1)))else bc (br ()))
def wC(s1:List yD)(s2:List yD):Option (Bool) :=
 (bif (!(decide ((s1.length:Int)=(s2.length:Int))))then bc bd else(vi s2 s1 (s1.length:Int) KK 0).bind (wq bc λ_=>bc bf))
def za7(x_:Cap)(y:Cap):Option (Bool) :=
 (bif (decide (x_.aL=y.aL))then(bif (decide (x_.Load=y.Load))then(bif (decide (x_.Limit=y.Limit))then(vt x_.aA y.aA).bind λx1=>bc x1 else bc bd)else bc bd)else bc bd)
def vj(c0:List Cap)(c1:List Cap)(c2:Int):Nat->(Int)->Option ((Bool)⊕(Unit))
 |0,_=>bh
 |K+1,q=>(bif (decide (q<c2))then(idx c1 q).bind λx1=>aN (idx c0 q) λx2=>aN (za7 x1 x2) λx3=>(bif (!x3)then bc (bo bd)else vj c0 c1 c2 K (w64 (q+1)))else bc (br ()))
def wD(s1:List Cap)(s2:List Cap):Option (Bool) :=
 (bif (!(decide ((s1.length:Int)=(s2.length:Int))))then bc bd else(vj s2 s1 (s1.length:Int) KK 0).bind (wq bc λ_=>bc bf))
def j3(c0:List zg)(c1:List zg)(c2:Int):Nat->(Int)->Option ((Bool)⊕(Unit))
 |0,_=>bh
 |K+1,q=>(bif (decide (q<c2))then(idx c0 q).bind λx1=>aN (idx c1 q) λx2=>(bif (!(decide (x1.X=x2.X)&&(decide (x1.Y=x2.Y)&&(decide (x1.Z_=x2.Z_)))))then bc (bo bd)else j3 c0 c1 c2 K (w64 (q+1)))else bc (br ()))
def vu(s1:List zg)(s2:List zg):Option (Bool) :=
 (bif (!(decide ((s1.length:Int)=(s2.length:Int))))then bc bd else(j3 s1 s2 (s1.length:Int) KK 0).bind (wq bc λ_=>bc bf))
def za8(x_:av)(y:av):Option (Bool) :=
 (bif (decide (x_.aL=y.aL))then(bif (decide (x_.Eye.X=y.Eye.X)&&(decide (x_.Eye.Y=y.Eye.Y)&&(decide (x_.Eye.Z_=y.Eye.Z_))))then(bif (decide (x_.Least=y.Least))then(vu x_.Targets y.Targets).bind λx1=>bc x1 else bc bd)else bc bd)else bc bd)
def vk(c0:List av)(c1:List av)(c2:Int):Nat->(Int)->Option ((Bool)⊕(Unit))
 |0,_=>bh
 |K+1,q=>(bif (decide (q<c2))then(idx c1 q).bind λx1=>aN (idx c0 q) λx2=>aN (za8 x1 x2) λx3=>(bif (!x3)then bc (bo bd)else vk c0 c1 c2 K (w64 (q+1)))else bc (br ()))
def wE(s1:List av)(s2:List av):Option (Bool) :=
 (bif (!(decide ((s1.length:Int)=(s2.length:Int))))then bc bd else(vk s2 s1 (s1.length:Int) KK 0).bind (wq bc λ_=>bc bf))
def ZF(a:yJ)(b:yJ):Option (Bool) :=
 aN (aN (wz a.aF b.aF) λx2=>(bif x2 then(wA a.Tables b.Tables).bind λx3=>(bif x3 then(wB a.aE b.aE).bind λx4=>bc x4 else bc bd)else bc bd)) λx1=>aN (aN (wC a.aB b.aB) λx6=>(bif x6 then(wD a.aJ b.aJ).bind λx7=>(bif x7 then(wE a.aG b.aG).bind λx8=>bc x8 else bc bd)else bc bd)) λx5=>(bif x1 then(bif x5 then(vu a.aK b.aK).bind λx9=>(bif x9 then bc (decide (a.aI=b.aI))else bc bd)else bc bd)else bc bd)
def vQ(c0:List ar)(c1:Int):Nat->(Int×(List Bs8))->Option ((List Bs8))
 |0,_=>bh
 |K+1,q=>(bif (decide (q.1<c1))then(aN (idx c0 q.1) λx2=>(bif (!(decide (x2.aM=3)))then(grd (bg (q.2++([x2.Text]:List Bs8))*16<=140737488355328)).bind λ_=>bc (q.2++([x2.Text]:List Bs8))else bc q.2)).bind λx1=>vQ c0 c1 K ((w64 (q.1+1)),x1)else bc q.2)
def za9(l:List ar):Option (Bs8) :=
 aN (vQ l (l.length:Int) KK (0,[])) λx1=>aN (ZE x1 t__) λx2=>bc x2
def z8(c0:Bool)(c1:Int)(c2:List ar)(c3:Int)(c4:List ar):Nat->(Bool×Int)->Option (Bool)
 |0,_=>bh
 |K+1,q=>(bif (decide (q.2<(c2.length:Int)))then((bif q.1 then bc bf else(idx c2 q.2).bind λx2=>(bif (decide (x2.Pos=c1))then(idx c4 q.2).bind λx3=>bc (decide (x3.Pos=c3))else bc bd))).bind λx1=>z8 c0 c1 c2 c3 c4 K (x1,(w64 (q.2+1)))else bc q.1)
def wh(s:Bs8):Option (Bool) :=
 aN Jx λx1=>(bif (decide ((s.length:Int)>2000))then bc x1 else(um s).bind λx2=>aN (VE s) λx3=>(bif (!(decide (x3.2.2=0)))then(bif x1 then(bif (decide (x2.2.1=x3.2.2))then(ZF (yJ.mk x2.2.2.2.2.1 x2.2.2.2.2.2.1 x2.2.2.2.2.2.2.1 x2.2.2.2.2.2.2.2.1 x2.2.2.2.2.2.2.2.2.1 x2.2.2.2.2.2.2.2.2.2 x2.2.2.1 x2.2.2.2.1) (yJ.mk [] [] [] [] [] [] [] 0)).bind λx4=>bc x4 else bc bd)else bc bd)else(za9 x3.1).bind λx5=>aN (um x5) λx6=>aN (VE x5) λx7=>aN ((bif (decide ((x5.length:Int)>8000))then bc bf else bc (!(decide ((x7.1.length:Int)=(x3.1.length:Int)))))) λx8=>(bif x8 then bc x1 else((bif (!(decide (x2.2.1=x6.2.1)))then bc bf else(ZF (yJ.mk x2.2.2.2.2.1 x2.2.2.2.2.2.1 x2.2.2.2.2.2.2.1 x2.2.2.2.2.2.2.2.1 x2.2.2.2.2.2.2.2.2.1 x2.2.2.2.2.2.2.2.2.2 x2.2.2.1 x2.2.2.2.1) (yJ.mk x6.2.2.2.2.1 x6.2.2.2.2.2.1 x6.2.2.2.2.2.2.1 x6.2.2.2.2.2.2.2.1 x6.2.2.2.2.2.2.2.2.1 x6.2.2.2.2.2.2.2.2.2 x6.2.2.1 x6.2.2.2.1)).bind λx10=>bc (!x10))).bind λx9=>(bif x9 then bc bd else(bif (!(decide (x2.2.1=0)))then(z8 x1 x2.1 x3.1 x6.1 x7.1 KK (bd,0)).bind λx11=>(bif x1 then bc x11 else bc bd)else(zc2 (yJ.mk x2.2.2.2.2.1 x2.2.2.2.2.2.1 x2.2.2.2.2.2.2.1 x2.2.2.2.2.2.2.2.1 x2.2.2.2.2.2.2.2.2.1 x2.2.2.2.2.2.2.2.2.2 x2.2.2.1 x2.2.2.2.1)).bind λx12=>(bif (!(decide (x12.2=0)))then(bif x1 then(bif (decide (x12.2=6))then bc (decide (x2.1=0))else bc bd)else bc bd)else(um x12.1).bind λx13=>(bif x1 then(bif (decide (x2.1=0))then(VI (yJ.mk x2.2.2.2.2.1 x2.2.2.2.2.2.1 x2.2.2.2.2.2.2.1 x2.2.2.2.2.2.2.2.1 x2.2.2.2.2.2.2.2.2.1 x2.2.2.2.2.2.2.2.2.2 x2.2.2.1 x2.2.2.2.1)).bind λx14=>(bif x14 then(bif (decide (x13.2.1=0))then(ZF (yJ.mk x2.2.2.2.2.1 x2.2.2.2.2.2.1 x2.2.2.2.2.2.2.1 x2.2.2.2.2.2.2.2.1 x2.2.2.2.2.2.2.2.2.1 x2.2.2.2.2.2.2.2.2.2 x2.2.2.1 x2.2.2.2.1) (yJ.mk x13.2.2.2.2.1 x13.2.2.2.2.2.1 x13.2.2.2.2.2.2.1 x13.2.2.2.2.2.2.2.1 x13.2.2.2.2.2.2.2.2.1 x13.2.2.2.2.2.2.2.2.2 x13.2.2.1 x13.2.2.2.1)).bind λx15=>bc x15 else bc bd)else bc bd)else bc bd)else bc bd)))))))
end Go.Proofs.YtffencjoddkghaaGreatDoor
