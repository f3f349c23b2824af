/- texts that the proof reaches, part 8 -/
import Derived.Test.YtffencjoddkghaaGreatDoorKg
set_option linter.all false
open BitVec renaming ofInt->cv
open Bool renaming false->bd,true->bg
open Int renaming toNat->bX,fdiv->gX,tmod->ll
open List renaming length->bf,map->cX,isEmpty->dk
open Option renaming bind->aN,some->bc,none->bh
open Sum renaming inl->bp,inr->br
set_option maxRecDepth 100000
namespace Go.Proofs.YtffencjoddkghaaGreatDoor
open Go Go.RowKit Go.Eng Go.EV Go.EQ
abbrev Bs8:=ak
abbrev Mb8:=List (Bs8×Bool)
structure Expr where
 Op:Int
 N:Int
 S:Bs8
 Key:Bs8
 Args:(List Expr)
instance:Inhabited Expr:=⟨⟨0,0,[],[],[]⟩⟩
mutual
def Ab:Expr->List V
 |⟨a0,a1,a2,a3,a4⟩=>[.int .i64 a0,.int .i64 a1,.str a2,.str a3,.vs 5 (yO a4)]
def yO:List Expr->List (List V)
 |[]=>[]
 |x::r=>Ab x::yO r
end
def vD(x:Expr):List V:=[.int .i64 x.Op,.int .i64 x.N,.str x.S,.str x.Key,.vs 5 (yO x.Args)]
def KB(x:Expr):Ab x=vD x:=by cases x;rw[Ab];rfl
def kp:∀l:List Expr,yO l=l.map vD
 |[]=>by rw[yO];rfl
 |x::r=>by rw[yO,KB,kp r];rfl
structure Def where
 aL:Bs8
 Body:Expr
 deriving Inhabited
def Vl(x:Def):List V:=[.str x.aL,.int .i64 x.Body.Op,.int .i64 x.Body.N,.str x.Body.S,.str x.Body.Key,.vs 5 (yO x.Body.Args)]
structure aw where
 aL:Bs8
 N:Int
 deriving Inhabited,DecidableEq
def uk(x:aw):List V:=[.str x.aL,.int .i64 x.N]
structure au where
 aL:Bs8
 Rows:(List aw)
 Else:Int
 deriving Inhabited,DecidableEq
def Ac(x:au):List V:=[.str x.aL,.vs 2 (cX uk x.Rows),.int .i64 x.Else]
structure zV where
 X:Int
 Y:Int
 deriving Inhabited,DecidableEq
def jM(x:zV):List V:=[.int .i64 x.X,.int .i64 x.Y]
structure yt where
 aL:Bs8
 Overlay:Bool
 aA:(List zV)
 deriving Inhabited,DecidableEq
def Jq(x:yt):List V:=[.str x.aL,.bool x.Overlay,.vs 2 (cX jM x.aA)]
structure zy where
 Side:Int
 Base:Int
 Num:Int
 Den:Int
 deriving Inhabited,DecidableEq
def KC(x:zy):List V:=[.int .i64 x.Side,.int .i64 x.Base,.int .i64 x.Num,.int .i64 x.Den]
structure zO where
 aL:Bs8
 aB:List Bs8
 Except:List Bs8
 From:Int
 Until:Int
 Grace:Int
 Vary:Bool
 aM:Int
 Test:Expr
 zy:zy
 Uses:Int
 Other:Int
 N:Int
 deriving Inhabited
def Jr(x:zO):List V:=[.str x.aL,.vs 1 (cX EV.zQo x.aB),.vs 1 (cX EV.zQo x.Except),.int .i64 x.From,.int .i64 x.Until,.int .i64 x.Grace,.bool x.Vary,.int .i64 x.aM,.int .i64 x.Test.Op,.int .i64 x.Test.N,.str x.Test.S,.str x.Test.Key,.vs 5 (yO x.Test.Args),.int .i64 x.zy.Side,.int .i64 x.zy.Base,.int .i64 x.zy.Num,.int .i64 x.zy.Den,.int .i64 x.Uses,.int .i64 x.Other,.int .i64 x.N]
structure Cap where
 aL:Bs8
 Load:Int
 Limit:Int
 aA:(List zV)
 deriving Inhabited,DecidableEq
def Vm(x:Cap):List V:=[.str x.aL,.int .i64 x.Load,.int .i64 x.Limit,.vs 2 (cX jM x.aA)]
structure zg where
 X:Int
 Y:Int
 Z_:Int
 deriving Inhabited,DecidableEq
def je(x:zg):List V:=[.int .i64 x.X,.int .i64 x.Y,.int .i64 x.Z_]
structure av where
 aL:Bs8
 Eye:zg
 Least:Int
 Targets:(List zg)
 deriving Inhabited,DecidableEq
def Js(x:av):List V:=[.str x.aL,.int .i64 x.Eye.X,.int .i64 x.Eye.Y,.int .i64 x.Eye.Z_,.int .i64 x.Least,.vs 3 (cX je x.Targets)]
structure ar where
 aM:Int
 Text:Bs8
 N:Int
 Pos:Int
 deriving Inhabited,DecidableEq
def WI(x:ar):List V:=[.int .i64 x.aM,.str x.Text,.int .i64 x.N,.int .i64 x.Pos]
structure zd where
 text:Bs8
 op:Int
 form:Int
 deriving Inhabited,DecidableEq
def Ad(x:zd):List V:=[.str x.text,.int .i64 x.op,.int .i64 x.form]
structure zI where
 a:zV
 b:zV
 deriving Inhabited,DecidableEq
def Kb(x:zI):List V:=[.int .i64 x.a.X,.int .i64 x.a.Y,.int .i64 x.b.X,.int .i64 x.b.Y]
structure yZ where
 aF:(List Def)
 Tables:(List au)
 aB:(List yt)
 aE:(List zO)
 aJ:(List Cap)
 aG:(List av)
 aK:(List zg)
 aI:Int
 deriving Inhabited
def Qq(x:yZ):List V:=[.vs 6 (cX Vl x.aF),.vs 3 (cX Ac x.Tables),.vs 3 (cX Jq x.aB),.vs 20 (cX Jr x.aE),.vs 4 (cX Vm x.aJ),.vs 6 (cX Js x.aG),.vs 3 (cX je x.aK),.int .i64 x.aI]
instance:Inhabited (Int⊕Bs8):=⟨.inl 0⟩
def zvc(s:Bs8)(n:Int):Option Bs8:=aN (grd (0<=n/\n<256/\bf s+1<=140737488355328)) λ_=>bc (s++[UInt8.ofNat (bX n)])
structure BB where
 l:(List ar)
 i:Int
 D:(List Def)
 T:(List au)
 Z:(List yt)
 R:(List zO)
 C:(List Cap)
 V:(List av)
 S:(List zg)
 H:Int
 n0:(List Mb8)
 n1:(List Mb8)
 n2:(List Mb8)
 n3:(List Mb8)
 n4:(List Mb8)
 n5:(List Mb8)
 h:Bool
def xE(x:(List ar)×Int×(List Def)×(List au)×(List yt)×(List zO)×(List Cap)×(List av)×(List zg)×Int×(List Mb8)×(List Mb8)×(List Mb8)×(List Mb8)×(List Mb8)×(List Mb8)×Bool):BB:=⟨x.1,x.2.1,x.2.2.1,x.2.2.2.1,x.2.2.2.2.1,x.2.2.2.2.2.1,x.2.2.2.2.2.2.1,x.2.2.2.2.2.2.2.1,x.2.2.2.2.2.2.2.2.1,x.2.2.2.2.2.2.2.2.2.1,x.2.2.2.2.2.2.2.2.2.2.1,x.2.2.2.2.2.2.2.2.2.2.2.1,x.2.2.2.2.2.2.2.2.2.2.2.2.1,x.2.2.2.2.2.2.2.2.2.2.2.2.2.1,x.2.2.2.2.2.2.2.2.2.2.2.2.2.2.1,x.2.2.2.2.2.2.2.2.2.2.2.2.2.2.2.1,x.2.2.2.2.2.2.2.2.2.2.2.2.2.2.2.2⟩
def zde{R:Type}(x:(List ar)×Int×(List Def)×(List au)×(List yt)×(List zO)×(List Cap)×(List av)×(List zg)×Int×(List Mb8)×(List Mb8)×(List Mb8)×(List Mb8)×(List Mb8)×(List Mb8)×Bool×R):BB:=⟨x.1,x.2.1,x.2.2.1,x.2.2.2.1,x.2.2.2.2.1,x.2.2.2.2.2.1,x.2.2.2.2.2.2.1,x.2.2.2.2.2.2.2.1,x.2.2.2.2.2.2.2.2.1,x.2.2.2.2.2.2.2.2.2.1,x.2.2.2.2.2.2.2.2.2.2.1,x.2.2.2.2.2.2.2.2.2.2.2.1,x.2.2.2.2.2.2.2.2.2.2.2.2.1,x.2.2.2.2.2.2.2.2.2.2.2.2.2.1,x.2.2.2.2.2.2.2.2.2.2.2.2.2.2.1,x.2.2.2.2.2.2.2.2.2.2.2.2.2.2.2.1,x.2.2.2.2.2.2.2.2.2.2.2.2.2.2.2.2.1⟩
def rBB{R:Type}(x:(List ar)×Int×(List Def)×(List au)×(List yt)×(List zO)×(List Cap)×(List av)×(List zg)×Int×(List Mb8)×(List Mb8)×(List Mb8)×(List Mb8)×(List Mb8)×(List Mb8)×Bool×R):R:=x.2.2.2.2.2.2.2.2.2.2.2.2.2.2.2.2.2
def t_0:Bs8:=[48]
def Jv:Bs8:=[50,32,42,32,40,32,97,32,43,32,98,32,41]
def t__:Bs8:=[32]
def zh:Bs8:=[32,97,110,100,32,97,112,97,114,116,32,98,97,115,101,32,99,97,112,32,100,101,102,105,110,101,32,101,108,115,101,32,101,120,99,101,112,116,32,102,114,111,109,32,103,114,97,99,101,32,104,111,117,114,115,32,105,102,32,105,110,32,108,101,97,115,116,32,110,111,116,32,111,114,32,111,118,101,114,108,97,121,32,112,108,97,110,101,32,114,117,108,101,32,115,108,111,112,101,32,115,117,110,32,116,97,98,108,101,32,116,104,101,110,32,117,110,116,105,108,32,117,115,101,115,32,118,97,114,121,32,118,105,101,119,32,122,111,110,101,32]
def yP:Bs8:=[32,101,108,115,101,32]
def yQ:Bs8:=[32,116,104,101,110,32]
def zhj:Bs8:=[32,41]
def t_a:Bs8:=[97]
def t_a1:Bs8:=[97,49]
def KD:Bs8:=[97,32,43,32,98,32,42,32,50,32,60,32,99]
def zDf:Bs8:=[97,110,100]
def qs:Bs8:=[97,112,97,114,116]
def zdf:Bs8:=[97,43,98,42,50,60,99]
def t_b:Bs8:=[98]
def AX:Bs8:=[98,97,115,101]
def Ko:Bs8:=[99,97,112]
def zNz:Bs8:=[99,97,112,32]
def xJ:Bs8:=[100,101,102,105,110,101]
def zog:Bs8:=[100,101,102,105,110,101,32]
def WK:Bs8:=[100,101,102,105,110,101,32,97,32,61,32,59]
def QO:Bs8:=[100,101,102,105,110,101,32,105,102,32,61,32,49,59]
def xh:Bs8:=[101,108,115,101]
def xe:Bs8:=[101,120,99,101,112,116]
def vE:Bs8:=[102,114,111,109]
def xW:Bs8:=[103,114,97,99,101]
def zXc:Bs8:=[104,97,108,108]
def zXd:Bs8:=[104,111,109,101]
def zj:Bs8:=[104,111,109,101,32,115,104,111,112,32,119,111,114,107,32,112,97,114,107,32,112,108,97,110,116,32,104,97,108,108]
def zSe:Bs8:=[104,111,109,101,115]
def zX:Bs8:=[104,111,109,101,115,32,116,114,97,102,102,105,99,32,114,117,110,111,102,102]
def vA:Bs8:=[104,111,117,114,115]
def zvd:Bs8:=[104,111,117,114,115,32]
def zkp:Bs8:=[104,111,117,114,115,32,50,53,59]
def WL:Bs8:=[105,102]
def Ae:Bs8:=[105,102,32]
def zft:Bs8:=[105,110]
def vO:Bs8:=[108,101,97,115,116]
def um:Bs8:=[110,111,116]
def WM:Bs8:=[110,111,116,32]
def zXe:Bs8:=[111,114]
def yr:Bs8:=[111,118,101,114,108,97,121]
def zhk:Bs8:=[111,118,101,114,108,97,121,32]
def zXf:Bs8:=[112,97,114,107]
def qt:Bs8:=[112,108,97,110,101]
def zSf:Bs8:=[112,108,97,110,116]
def jN:Bs8:=[114,117,108,101]
def zDg:Bs8:=[114,117,108,101,32]
def uH:Bs8:=[114,117,108,101,32,114,58,32,117,115,101,115,32,104,111,109,101,32,104,111,109,101,59]
def zKa:Bs8:=[114,117,110,111,102,102]
def zXg:Bs8:=[115,104,111,112]
def jH:Bs8:=[115,108,111,112,101]
def Af:Bs8:=[115,117,110]
def zN0:Bs8:=[115,117,110,32]
def ym:Bs8:=[116,97,98,108,101]
def wk:Bs8:=[116,97,98,108,101,32]
def uR:Bs8:=[116,104,101,110]
def zDh:Bs8:=[116,114,97,102,102,105,99]
def xK:Bs8:=[117,110,116,105,108]
def Ag:Bs8:=[117,115,101,115]
def wB:Bs8:=[118,97,114,121]
def ql:Bs8:=[118,105,101,119]
def zDi:Bs8:=[118,105,101,119,32]
def zXh:Bs8:=[119,111,114,107]
def zf9:Bs8:=[37]
def AP:Bs8:=[40]
def zhl:Bs8:=[40,32]
def qu:Bs8:=[41]
def zga:Bs8:=[42]
def zgb:Bs8:=[43]
def kP:Bs8:=[44]
def xa:Bs8:=[45]
def Kc:Bs8:=[45,32]
def zgc:Bs8:=[47]
def xQ:Bs8:=[58]
def yc:Bs8:=[59]
def xw:Bs8:=[59,44,58,61,60,43,45,42,47,37,40,41]
def zgd:Bs8:=[60]
def qX:Bs8:=[60,61]
def AQ:Bs8:=[61]
def qY:Bs8:=[61,61]
def yR:Bs8:=[122,111,110,101]
def qv:Bs8:=[122,111,110,101,32]
def Jw:Bs8:=[122,111,110,101,32,97,32,48,32,48,32,52,32,48,32,52,32,52,59]
def kI:Bs8:=[122,111,110,101,32,99,111,114,101,32,48,32,48,32,52,32,48,32,52,32,52,32,48,32,52,32,59,10]
def uo:Bs8:=[122,111,110,101,32,99,111,114,101,32,48,32,48,32,52,32,48,32,52,32,52,32,48,32,52,59]
variable[Fuel]
def KE(c_:Int):Option (Bool) :=
 (bif (decide (c_=32))then bc bg else(bif (decide (c_=9))then bc bg else bc (decide (c_=10))))
def Jx(c0:Bs8):Nat->(Int)->Option (Int)
 |0,_=>bh
 |K+1,q=>aN ((bif (decide (q<(c0.length:Int)))then(idx c0 q).bind λx2=>aN (KE ((x2.toNat:Nat):Int)) λx3=>bc x3 else bc bd)) λx1=>(bif x1 then Jx c0 K (w64 (q+1))else bc q)
def zbg(s:Bs8):Option (Int) :=
 aN (Jx s KK 0) λx1=>bc x1
def qw(c_:Int):Option (Bool) :=
 (bif (decide (c_>=97))then bc (decide (c_<=122))else bc bd)
def uq(c_:Int):Option (Bool) :=
 (bif (decide (c_>=48))then bc (decide (c_<=57))else bc bd)
def Qr(c_:Int):Option (Bool) :=
 aN (qw c_) λx1=>(bif x1 then bc bg else(uq c_).bind λx2=>bc x2)
def uZ(c0:Bs8):Nat->(Int)->Option (Int)
 |0,_=>bh
 |K+1,q=>aN ((bif (decide (q<(c0.length:Int)))then(idx c0 q).bind λx2=>aN (Qr ((x2.toNat:Nat):Int)) λx3=>bc x3 else bc bd)) λx1=>(bif x1 then uZ c0 K (w64 (q+1))else bc q)
def Qs(s:Bs8):Option (Int) :=
 aN (uZ s KK 0) λx1=>bc x1
def oG(c_:Int):Option (Bool) :=
 aN (qw c_) λx1=>(bif x1 then bc bg else(uq c_).bind λx2=>bc x2)
def u0(c0:Bs8):Nat->(Int)->Option (Int)
 |0,_=>bh
 |K+1,q=>aN ((bif (decide (q<(c0.length:Int)))then(idx c0 q).bind λx2=>aN (oG ((x2.toNat:Nat):Int)) λx3=>bc x3 else bc bd)) λx1=>(bif x1 then u0 c0 K (w64 (q+1))else bc q)
def Qt(s:Bs8):Option (Int) :=
 aN (u0 s KK 0) λx1=>bc x1
def WN(s:Bs8):Option (Bool) :=
 aN ((bif (decide (s=([]:Bs8)))then bc bg else(idx s 0).bind λx2=>aN (qw ((x2.toNat:Nat):Int)) λx3=>(bif (!x3)then bc bg else bc (decide ((s.length:Int)>20))))) λx1=>(bif x1 then bc bd else(Qt s).bind λx4=>bc (decide (x4=(s.length:Int))))
def u5(c0:Bs8):Nat->(Int)->Option (Int)
 |0,_=>bh
 |K+1,q=>aN ((bif (decide (q<(c0.length:Int)))then(idx c0 q).bind λx2=>aN (uq ((x2.toNat:Nat):Int)) λx3=>bc x3 else bc bd)) λx1=>(bif x1 then u5 c0 K (w64 (q+1))else bc q)
def HE(s:Bs8):Option (Int) :=
 aN (u5 s KK 0) λx1=>bc x1
def jf(c0:Bs8)(c1:Int):Nat->(Int×Int)->Option (Int)
 |0,_=>bh
 |K+1,q=>(bif (decide (q.2<c1))then(idx c0 q.2).bind λx1=>jf c0 c1 K ((w64 ((w64 (10*q.1))+(w64 ((IntKind.u8.wrap (((x1.toNat:Nat):Int)-48)))))),(w64 (q.2+1)))else bc q.1)
def Qu(s:Bs8):Option (Int×Bool) :=
 aN ((bif (decide (s=([]:Bs8)))then bc bg else(HE s).bind λx2=>(bif (!(decide (x2=(s.length:Int))))then bc bg else(idx s 0).bind λx3=>(bif (decide (((x3.toNat:Nat):Int)=48))then(bif (!(decide (s=t_0)))then bc bg else bc (decide ((s.length:Int)>13)))else bc (decide ((s.length:Int)>13)))))) λx1=>(bif x1 then bc (0,bd)else(jf s (s.length:Int) KK (0,0)).bind λx4=>(bif (decide (x4>1099511627776))then bc (0,bd)else bc (x4,bg)))
def Vn(a0:Bs8)(a1:Bs8):Option (Bool):=zc9 a0 a1
def qx(c0:Bs8)(c1:Bs8)(c2:Bs8)(c3:Bs8)(c4:Bs8)(c5:Bs8)(c6:Bs8)(c7:Bs8)(c8:Bs8)(c9:Bs8)(c10:Bs8)(c11:Bs8)(c12:Bs8)(c13:Bs8)(c14:Bs8)(c15:Int)(c16:Bs8):Nat->(Int)->Option ((Int×Int×Bs8×Int×Int)⊕(Unit))
 |0,_=>bh
 |K+1,q=>(bif (decide (q<14))then(idx (α:=Bs8) ([c1,c2,c3,c4,c5,c6,c7,c8,c9,c10,c11,c12,c13,c14]:List Bs8) q).bind λx1=>aN (Vn c0 x1) λx2=>(bif x2 then bc (bp (0,2,x1,0,0))else qx c0 c1 c2 c3 c4 c5 c6 c7 c8 c9 c10 c11 c12 c13 c14 c15 c16 K (w64 (q+1)))else bc (br ()))
def zbh(s:Bs8):Option (Int×Int×Bs8×Int×Int) :=
 aN (idx s 0) λx1=>aN (qw ((x1.toNat:Nat):Int)) λx2=>(bif x2 then(Qs s).bind λx3=>aN (cut s 0 x3) λx4=>aN (WN x4) λx5=>(bif (!x5)then bc (15,0,([]:Bs8),0,0)else bc (0,0,x4,0,0))else(idx s 0).bind λx6=>aN (uq ((x6.toNat:Nat):Int)) λx7=>(bif x7 then(HE s).bind λx8=>aN (cut s 0 x8) λx9=>aN (Qu x9) λx10=>(bif (!x10.2)then bc (3,0,([]:Bs8),0,0)else bc (0,1,x9,x10.1,0))else(qx s qX qY yc kP xQ AQ zgd zgb xa zga zgc zf9 AP qu 0 ([]:Bs8) KK 0).bind (xT bc λ_=>bc (13,0,([]:Bs8),0,0))))
def oH(c0:Bs8):Nat->(Int×(List ar))->Option (((List ar)×Int×Int)⊕(Unit))
 |0,_=>bh
 |K+1,q=>aN (cut c0 q.1 (c0.length:Int)) λx1=>aN (zbg x1) λx2=>(bif (decide ((w64 (q.1+x2))=(c0.length:Int)))then(grd (bf (q.2++([(ar.mk 3 ([]:Bs8) 0 (w64 (q.1+x2)))]:List ar))*40<=140737488355328)).bind λ_=>bc (bp ((q.2++([(ar.mk 3 ([]:Bs8) 0 (w64 (q.1+x2)))]:List ar)),0,0))else(cut c0 (w64 (q.1+x2)) (c0.length:Int)).bind λx4=>aN (zbh x4) λx5=>(bif (!(decide (x5.1=0)))then bc (bp ([],(w64 (q.1+x2)),x5.1))else(grd (bf (q.2++([(ar.mk x5.2.1 x5.2.2.1 x5.2.2.2.1 (w64 (q.1+x2)))]:List ar))*40<=140737488355328)).bind λ_=>oH c0 K ((w64 ((w64 (q.1+x2))+(x5.2.2.1.length:Int))),(q.2++([(ar.mk x5.2.1 x5.2.2.1 x5.2.2.2.1 (w64 (q.1+x2)))]:List ar)))))
def zdg(s:Bs8):Option ((List ar)×Int×Int) :=
 (bif (decide ((s.length:Int)>8000))then bc ([],0,6)else(oH s KK (0,[])).bind (xT bc λ_=>bh))
def vF(p_l:List ar)(p_at_:Int):Option (Int×Bs8×Int×Int) :=
 aN (idx p_l p_at_) λx1=>bc (x1.aM,x1.Text,x1.N,x1.Pos)
def zdh(p_l:List ar)(p_at_:Int)(s:Bs8):Option (Bool) :=
 aN (vF p_l p_at_) λx1=>(bif (!(decide (x1.1=3)))then(vF p_l p_at_).bind λx2=>bc (decide (x2.2.1=s))else bc bd)
def xF(p_l:List ar)(p_at_:Int)(s:Bs8):Option (Bool×Int) :=
 aN (zdh p_l p_at_ s) λx1=>(bif (!x1)then bc (bd,p_at_)else bc (bg,(w64 (p_at_+1))))
def xO(p_l:List ar)(p_at_:Int):Option (Bool) :=
 aN (vF p_l p_at_) λx1=>bc (decide (x1.1=1))
def yH(p_l:List ar)(p_at_:Int)(is:Bool)(err:Int):Option (Unit) :=
 (bif (!is)then bh else bc ())
def kr(p_l:List ar)(p_at_:Int)(from_:Int)(to_:Int):Option (Int×Int) :=
 aN (xO p_l p_at_) λx1=>aN (yH p_l p_at_ x1 14) λ_=>aN (vF p_l p_at_) λx3=>aN ((bif (decide (x3.2.2.1>=from_))then(yH p_l p_at_ (decide (x3.2.2.1<=to_)) 3).bind λ_=>bc ()else(yH p_l p_at_ bd 3).bind λ_=>bc ())) λ_=>bc (x3.2.2.1,(w64 (p_at_+1)))
def Qv(a0:Bs8)(a1:Bs8):Option (Bool):=Qp a0 a1
def Q0(s:Bs8):Option (Bool) :=
 aN (WN s) λx1=>(bif x1 then(grd (bf t__+bf s<=9223372036854775807)).bind λ_=>aN (grd (bf (t__++s)+bf t__<=9223372036854775807)) λ_=>aN (Qv zh ((t__++s)++t__)) λx4=>bc (!x4)else bc bd)
def oI(p_l:List ar)(p_at_:Int):Option (Bool) :=
 aN (vF p_l p_at_) λx1=>(bif (decide (x1.1=0))then(vF p_l p_at_).bind λx2=>aN (Q0 x2.2.1) λx3=>bc x3 else bc bd)
def xx(p_l:List ar)(p_at_:Int):Option (Bs8×Int) :=
 aN (oI p_l p_at_) λx1=>aN (yH p_l p_at_ x1 14) λ_=>aN (idx p_l (w64 ((w64 (p_at_+1))-1))) λx3=>bc (x3.Text,(w64 (p_at_+1)))
def wZ:Option ((List zd)) :=
 bc ([(zd.mk zXe 14 1),(zd.mk zDf 13 2),(zd.mk qY 10 4),(zd.mk zgd 11 4),(zd.mk qX 12 4),(zd.mk zgb 4 5),(zd.mk xa 5 5),(zd.mk zga 6 6),(zd.mk zgc 7 6),(zd.mk zf9 8 6)]:List zd)
def jV(p_l:List ar)(p_at_:Int)(s:Bs8):Option (Int) :=
 aN (xF p_l p_at_ s) λx1=>aN (yH p_l x1.2 x1.1 14) λ_=>bc x1.2
def xX(c0:List ar)(c1:Int)(c2:Int)(c3:Int)(c4:List zd)(c5:Int)(c6:Int)(c7:Bs8)(c8:List Expr)(c9:Int)(c10:Int)(c11:Bs8)(c12:Bs8)(c13:List Expr):Nat->(Int×Bs8×Int×Int)->Option (Bs8×Int×Int)
 |0,_=>bh
 |K+1,q=>(bif (decide (q.1<c5))then(aN (idx c4 q.1) λx2=>aN (zdh c0 c1 x2.text) λx3=>(bif x3 then bc (x2.text,x2.op,x2.form)else bc (q.2.1,q.2.2.1,q.2.2.2))).bind λx1=>xX c0 c1 c2 c3 c4 c5 c6 c7 c8 c9 c10 c11 c12 c13 K ((w64 (q.1+1)),x1.1,x1.2.1,x1.2.2)else bc (q.2.1,q.2.2.1,q.2.2.2))
def j3(r_q_expr:(List ar)->Int->Int->Option (Int×Int×Int×Bs8×Bs8×(List Expr)))(c0:List ar)(c1:Int)(c2:Int)(c3:Bs8)(c4:List Expr):Nat->(Int×Int×Int×Int×Bs8×Bs8×(List Expr))->Option ((Int×Int×Int×Bs8×Bs8×(List Expr))⊕(Unit))
 |0,_=>bh
 |K+1,q=>aN wZ λx1=>aN (xX c0 q.1 c1 q.2.1 x1 (x1.length:Int) c2 c3 c4 q.2.2.1 q.2.2.2.1 q.2.2.2.2.1 q.2.2.2.2.2.1 q.2.2.2.2.2.2 KK (0,([]:Bs8),0,0)) λx2=>aN ((bif (decide (x2.1=([]:Bs8)))then bc bg else(bif (decide (x2.2.2<c1))then bc bg else(bif (decide (q.2.1<x2.2.2))then bc bg else(bif (decide (q.2.1=4))then bc (decide (x2.2.2=4))else bc bd))))) λx3=>(bif x3 then bc (bp (q.1,q.2.2.1,q.2.2.2.1,q.2.2.2.2.1,q.2.2.2.2.2.1,q.2.2.2.2.2.2))else(r_q_expr c0 (w64 (q.1+1)) (w64 (x2.2.2+1))).bind λx4=>j3 r_q_expr c0 c1 c2 c3 c4 K (x4.1,x2.2.2,x2.2.1,0,([]:Bs8),([]:Bs8),([(Expr.mk q.2.2.1 q.2.2.2.1 q.2.2.2.2.1 q.2.2.2.2.2.1 q.2.2.2.2.2.2),(Expr.mk x4.2.1 x4.2.2.1 x4.2.2.2.1 x4.2.2.2.2.1 x4.2.2.2.2.2)]:List Expr)))
mutual
def ku:Nat->(List ar)->Int->Int->Option (Int×Int×Int×Int×Bs8×Bs8×(List Expr))
 |0,_,_,_=>bh
 |RK+1,p_l,p_at_,form=>aN ((bif (decide (form<=0))then(xF p_l p_at_ WL).bind λx2=>bc (x2.2,x2.1)else bc (p_at_,bd))) λx1=>(bif x1.2 then(yd RK p_l x1.1 0).bind λx3=>aN (jV p_l x3.1 uR) λx4=>aN (yd RK p_l x4 0) λx5=>aN (jV p_l x5.1 xh) λx6=>aN (yd RK p_l x6 0) λx7=>bc (0,x7.1,16,0,([]:Bs8),([]:Bs8),([(Expr.mk x3.2.1 x3.2.2.1 x3.2.2.2.1 x3.2.2.2.2.1 x3.2.2.2.2.2),(Expr.mk x5.2.1 x5.2.2.1 x5.2.2.2.1 x5.2.2.2.2.1 x5.2.2.2.2.2),(Expr.mk x7.2.1 x7.2.2.1 x7.2.2.2.1 x7.2.2.2.2.1 x7.2.2.2.2.2)]:List Expr))else((bif (decide (form<=3))then(xF p_l x1.1 um).bind λx9=>bc (x9.2,x9.1)else bc (x1.1,bd))).bind λx8=>(bif x8.2 then(yd RK p_l x8.1 3).bind λx10=>bc (3,x10.1,15,0,([]:Bs8),([]:Bs8),([(Expr.mk x10.2.1 x10.2.2.1 x10.2.2.2.1 x10.2.2.2.2.1 x10.2.2.2.2.2)]:List Expr))else((bif (decide (form<=7))then(xF p_l x8.1 xa).bind λx12=>bc (x12.2,x12.1)else bc (x8.1,bd))).bind λx11=>(bif x11.2 then(yd RK p_l x11.1 7).bind λx13=>bc (7,x13.1,9,0,([]:Bs8),([]:Bs8),([(Expr.mk x13.2.1 x13.2.2.1 x13.2.2.2.1 x13.2.2.2.2.1 x13.2.2.2.2.2)]:List Expr))else(xO p_l x11.1).bind λx14=>(bif x14 then(kr p_l x11.1 0 1099511627776).bind λx15=>bc (8,x15.2,0,x15.1,([]:Bs8),([]:Bs8),[])else(xF p_l x11.1 ym).bind λx16=>(bif x16.1 then(xx p_l x16.2).bind λx17=>aN (xx p_l x17.2) λx18=>bc (8,x18.2,2,0,x17.1,x18.1,[])else(xF p_l x16.2 yR).bind λx19=>(bif x19.1 then(xx p_l x19.2).bind λx20=>bc (8,x20.2,3,0,x20.1,([]:Bs8),[])else(xF p_l x19.2 AP).bind λx21=>(bif x21.1 then(yd RK p_l x21.2 0).bind λx22=>aN (jV p_l x22.1 qu) λx23=>bc (8,x23,x22.2.1,x22.2.2.1,x22.2.2.2.1,x22.2.2.2.2.1,x22.2.2.2.2.2)else(xx p_l x21.2).bind λx24=>bc (8,x24.2,1,0,x24.1,([]:Bs8),[]))))))))
def yd:Nat->(List ar)->Int->Int->Option (Int×Int×Int×Bs8×Bs8×(List Expr))
 |0,_,_,_=>bh
 |RK+1,p_l,p_at_,form=>aN (ku RK p_l p_at_ form) λx1=>(j3 (yd RK) p_l form 0 ([]:Bs8) [] KK (x1.2.1,x1.1,x1.2.2.1,x1.2.2.2.1,x1.2.2.2.2.1,x1.2.2.2.2.2.1,x1.2.2.2.2.2.2)).bind (xT bc λ_=>bh)
end
def qy(r_levels:Expr->Option (Int))(c0:List Expr)(c1:Int):Nat->(Int×Int)->Option (Int)
 |0,_=>bh
 |K+1,q=>(bif (decide (q.2<c1))then(idx c0 q.2).bind λx1=>aN (r_levels (Expr.mk x1.Op x1.N x1.S x1.Key x1.Args)) λx2=>qy r_levels c0 c1 K ((max q.1 x2),(w64 (q.2+1)))else bc q.1)
def jg:Nat->Expr->Option (Int)
 |0,_=>bh
 |RK+1,e=>aN (qy (jg RK) e.Args (e.Args.length:Int) KK (0,0)) λx1=>bc (w64 (x1+1))
def WO(p_l:List ar)(p_at_:Int)(c_1_Op:Int)(c_1_N:Int)(c_1_S:Bs8)(c_1_Key:Bs8)(c_1_Args:List Expr):Option (Int×Int×Int×Bs8×Bs8×(List Expr)) :=
 aN (yd KK p_l p_at_ 0) λx1=>aN (vF p_l x1.1) λx2=>aN (yH p_l x1.1 (decide (x2.1=3)) 14) λ_=>aN (jg KK (Expr.mk x1.2.1 x1.2.2.1 x1.2.2.2.1 x1.2.2.2.2.1 x1.2.2.2.2.2)) λx4=>aN (yH p_l x1.1 (decide (x4<=12)) 6) λ_=>bc (x1.1,x1.2.1,x1.2.2.1,x1.2.2.2.1,x1.2.2.2.2.1,x1.2.2.2.2.2)
def Qw(p_l:List ar)(p_at_:Int)(err:Int):Option (Int×Int) :=
 aN (vF p_l p_at_) λx1=>bc (x1.2.2.2,err)
def wm(p_l:List ar)(p_at_:Int)(is:Bool)(err:Int):Option (Int×Int) :=
 (bif (!is)then(orC (Qw p_l p_at_ err) (λx1=>bc x1) bh)else bh)
def AY(p_l:List ar)(p_at_:Int)(s:Bs8):Option (Int×Int) :=
 aN (xF p_l p_at_ s) λx1=>(orC (wm p_l x1.2 x1.1 14) (λx2=>bc x2) (aN (yH p_l x1.2 x1.1 14) λ_=>bh))
def oJ(p_l:List ar)(p_at_:Int)(from_:Int)(to_:Int):Option (Int×Int) :=
 aN (xO p_l p_at_) λx1=>(orC (wm p_l p_at_ x1 14) (λx2=>bc x2) (aN (yH p_l p_at_ x1 14) λ_=>aN (vF p_l p_at_) λx4=>((bif (decide (x4.2.2.1>=from_))then(orC (wm p_l p_at_ (decide (x4.2.2.1<=to_)) 3) (λx6=>bc (bp x6)) (aN (yH p_l p_at_ (decide (x4.2.2.1<=to_)) 3) λ_=>bc (br ())))else(orC (wm p_l p_at_ bd 3) (λx8=>bc (bp x8)) (aN (yH p_l p_at_ bd 3) λ_=>bc (br ()))))).bind (xT bc λ_=>bh)))
def jW(p_l:List ar)(p_at_:Int):Option (Int×Int) :=
 aN (oI p_l p_at_) λx1=>(orC (wm p_l p_at_ x1 14) (λx2=>bc x2) (aN (yH p_l p_at_ x1 14) λ_=>aN (idx p_l (w64 ((w64 (p_at_+1))-1))) λ_=>bh))
def vP(c0:List ar)(c1:Int)(c2:Int)(c3:Int)(c4:List zd)(c5:Int)(c6:Int)(c7:Bs8)(c8:List Expr)(c9:Int)(c10:Int)(c11:Bs8)(c12:Bs8)(c13:List Expr):Nat->(Int×Bs8×Int×Int)->Option (Bs8×Int×Int)
 |0,_=>bh
 |K+1,q=>(bif (decide (q.1<c5))then(aN (idx c4 q.1) λx2=>aN (zdh c0 c1 x2.text) λx3=>(bif x3 then bc (x2.text,x2.op,x2.form)else bc (q.2.1,q.2.2.1,q.2.2.2))).bind λx1=>vP c0 c1 c2 c3 c4 c5 c6 c7 c8 c9 c10 c11 c12 c13 K ((w64 (q.1+1)),x1.1,x1.2.1,x1.2.2)else bc (q.2.1,q.2.2.1,q.2.2.2))
def j4(r_p_q_expr:(List ar)->Int->Int->Option (Int×Int))(c0:List ar)(c1:Int)(c2:Int)(c3:Bs8)(c4:List Expr):Nat->(Int×Int×Int×Int×Bs8×Bs8×(List Expr))->Option ((Int×Int)⊕(Unit))
 |0,_=>bh
 |K+1,q=>aN wZ λx1=>aN (vP c0 q.1 c1 q.2.1 x1 (x1.length:Int) c2 c3 c4 q.2.2.1 q.2.2.2.1 q.2.2.2.2.1 q.2.2.2.2.2.1 q.2.2.2.2.2.2 KK (0,([]:Bs8),0,0)) λx2=>aN ((bif (decide (x2.1=([]:Bs8)))then bc bg else(bif (decide (x2.2.2<c1))then bc bg else(bif (decide (q.2.1<x2.2.2))then bc bg else(bif (decide (q.2.1=4))then bc (decide (x2.2.2=4))else bc bd))))) λx3=>(bif x3 then bh else(orC (r_p_q_expr c0 (w64 (q.1+1)) (w64 (x2.2.2+1))) (λx4=>bc (bp x4)) (aN (yd KK c0 (w64 (q.1+1)) (w64 (x2.2.2+1))) λx5=>j4 r_p_q_expr c0 c1 c2 c3 c4 K (x5.1,x2.2.2,x2.2.1,0,([]:Bs8),([]:Bs8),([(Expr.mk q.2.2.1 q.2.2.2.1 q.2.2.2.2.1 q.2.2.2.2.2.1 q.2.2.2.2.2.2),(Expr.mk x5.2.1 x5.2.2.1 x5.2.2.2.1 x5.2.2.2.2.1 x5.2.2.2.2.2)]:List Expr)))))
mutual
def oK:Nat->(List ar)->Int->Int->Option (Int×Int)
 |0,_,_,_=>bh
 |RK+1,p_l,p_at_,form=>aN ((bif (decide (form<=0))then(xF p_l p_at_ WL).bind λx2=>bc (x2.2,x2.1)else bc (p_at_,bd))) λx1=>(bif x1.2 then(orC (xf RK p_l x1.1 0) (λx3=>bc x3) (aN (yd KK p_l x1.1 0) λx4=>(orC (AY p_l x4.1 uR) (λx5=>bc x5) (aN (jV p_l x4.1 uR) λx6=>(orC (xf RK p_l x6 0) (λx7=>bc x7) (aN (yd KK p_l x6 0) λx8=>(orC (AY p_l x8.1 xh) (λx9=>bc x9) (aN (jV p_l x8.1 xh) λx10=>(orC (xf RK p_l x10 0) (λx11=>bc x11) (aN (yd KK p_l x10 0) λ_=>bh))))))))))else((bif (decide (form<=3))then(xF p_l x1.1 um).bind λx14=>bc (x14.2,x14.1)else bc (x1.1,bd))).bind λx13=>(bif x13.2 then(orC (xf RK p_l x13.1 3) (λx15=>bc x15) (aN (yd KK p_l x13.1 3) λ_=>bh))else((bif (decide (form<=7))then(xF p_l x13.1 xa).bind λx18=>bc (x18.2,x18.1)else bc (x13.1,bd))).bind λx17=>(bif x17.2 then(orC (xf RK p_l x17.1 7) (λx19=>bc x19) (aN (yd KK p_l x17.1 7) λ_=>bh))else(xO p_l x17.1).bind λx21=>(bif x21 then(orC (oJ p_l x17.1 0 1099511627776) (λx22=>bc x22) (aN (kr p_l x17.1 0 1099511627776) λ_=>bh))else(xF p_l x17.1 ym).bind λx24=>(bif x24.1 then(orC (jW p_l x24.2) (λx25=>bc x25) (aN (xx p_l x24.2) λx26=>(orC (jW p_l x26.2) (λx27=>bc x27) (aN (xx p_l x26.2) λ_=>bh))))else(xF p_l x24.2 yR).bind λx29=>(bif x29.1 then(orC (jW p_l x29.2) (λx30=>bc x30) (aN (xx p_l x29.2) λ_=>bh))else(xF p_l x29.2 AP).bind λx32=>(bif x32.1 then(orC (xf RK p_l x32.2 0) (λx33=>bc x33) (aN (yd KK p_l x32.2 0) λx34=>(orC (AY p_l x34.1 qu) (λx35=>bc x35) (aN (jV p_l x34.1 qu) λ_=>bh))))else(orC (jW p_l x32.2) (λx37=>bc x37) (aN (xx p_l x32.2) λ_=>bh)))))))))
def xf:Nat->(List ar)->Int->Int->Option (Int×Int)
 |0,_,_,_=>bh
 |RK+1,p_l,p_at_,form=>(orC (oK RK p_l p_at_ form) (λx1=>bc x1) (aN (ku KK p_l p_at_ form) λx2=>(j4 (xf RK) p_l form 0 ([]:Bs8) [] KK (x2.2.1,x2.1,x2.2.2.1,x2.2.2.2.1,x2.2.2.2.2.1,x2.2.2.2.2.2.1,x2.2.2.2.2.2.2)).bind (xT bc λ_=>bh)))
end
def WQ(p_l:List ar)(p_at_:Int)(c_1_Op:Int)(c_1_N:Int)(c_1_S:Bs8)(c_1_Key:Bs8)(c_1_Args:List Expr):Option (Int×Int) :=
 (orC (xf KK p_l p_at_ 0) (λx1=>bc x1) (aN (yd KK p_l p_at_ 0) λx2=>aN (vF p_l x2.1) λx3=>(orC (wm p_l x2.1 (decide (x3.1=3)) 14) (λx4=>bc x4) (aN (yH p_l x2.1 (decide (x3.1=3)) 14) λ_=>aN (jg KK (Expr.mk x2.2.1 x2.2.2.1 x2.2.2.2.1 x2.2.2.2.2.1 x2.2.2.2.2.2)) λx6=>(orC (wm p_l x2.1 (decide (x6<=12)) 6) (λx7=>bc x7) (aN (yH p_l x2.1 (decide (x6<=12)) 6) λ_=>bh))))))
def HG(a0:List ar)(a1:Int)(a2:Int)(a3:Int)(a4:Bs8)(a5:Bs8)(a6:List Expr):Option (Int×Int×Int×Int×Int×Bs8×Bs8×(List Expr)):=aN (WO a0 a1 a2 a3 a4 a5 a6) λq=>bc ((0:Int),(0:Int),q)
def AZ(a0:List ar)(a1:Int)(a2:Int)(a3:Int)(a4:Bs8)(a5:Bs8)(a6:List Expr):Option (Int×Int):=WQ a0 a1 a2 a3 a4 a5 a6
def zdi(s:Bs8):Option (Int×Int×Int×Int×Bs8×Bs8×(List Expr)) :=
 aN (zdg s) λx1=>(bif (!(decide (x1.2.2=0)))then bc (x1.2.1,x1.2.2,0,0,([]:Bs8),([]:Bs8),[])else(orC (HG x1.1 0 0 0 ([]:Bs8) ([]:Bs8) []) (λx3=>(bif (!(decide (x3.2.1=0)))then bc (x3.1,x3.2.1,0,0,([]:Bs8),([]:Bs8),[])else bc (0,0,x3.2.2.2.1,x3.2.2.2.2.1,x3.2.2.2.2.2.1,x3.2.2.2.2.2.2.1,x3.2.2.2.2.2.2.2))) (orC (AZ x1.1 0 0 0 ([]:Bs8) ([]:Bs8) []) (λx2=>(bif (!(decide (x2.2=0)))then bc (x2.1,x2.2,0,0,([]:Bs8),([]:Bs8),[])else bh)) bh)))
def xR(r_right:Expr->Int->Option (Bool))(c0:Int)(c1:List Expr)(c2:Int):Nat->(Int)->Option ((Bool)⊕(Unit))
 |0,_=>bh
 |K+1,q=>(bif (decide (q<c2))then(idx c1 q).bind λx1=>aN (r_right (Expr.mk x1.Op x1.N x1.S x1.Key x1.Args) (w64 (c0-1))) λx2=>(bif (!x2)then bc (bp bd)else xR r_right c0 c1 c2 K (w64 (q+1)))else bc (br ()))
def yx:Nat->Expr->Int->Option (Bool)
 |0,_,_=>bh
 |RK+1,e,depth=>aN ((bif (decide (depth=0))then bc bg else(bif (decide (e.Op<0))then bc bg else bc (decide (e.Op>=17))))) λx1=>(bif x1 then bc bd else((bif (decide (e.Op=0))then bc (br (0,(min (max e.N 0) 1099511627776),([]:Bs8),([]:Bs8)))else((bif (decide (e.Op=1))then bc (decide (e.Op=1))else bc (decide (e.Op=3)))).bind λx3=>(bif x3 then bc (br (0,0,e.S,([]:Bs8)))else(bif (decide (e.Op=2))then(Q0 e.Key).bind λx4=>(bif (!x4)then bc (bp bd)else bc (br (0,0,e.S,e.Key)))else((bif (decide (e.Op=9))then bc (decide (e.Op=9))else bc (decide (e.Op=15)))).bind λx5=>(bif x5 then bc (br (1,0,([]:Bs8),([]:Bs8)))else(bif (decide (e.Op=16))then bc (br (3,0,([]:Bs8),([]:Bs8)))else bc (br (2,0,([]:Bs8),([]:Bs8))))))))).bind (xT bc λx2=>aN ((bif (!(decide ((e.Args.length:Int)=x2.1)))then bc bg else(bif (!(decide (x2.2.1=e.N)))then bc bg else(bif (!(decide (x2.2.2.1=e.S)))then bc bg else(bif (!(decide (x2.2.2.2=e.Key)))then bc bg else(bif (decide (x2.1=0))then(bif (!(decide (e.Op=0)))then(Q0 e.S).bind λx7=>bc (!x7)else bc bd)else bc bd)))))) λx6=>(bif x6 then bc bd else(xR (yx RK) depth e.Args (e.Args.length:Int) KK 0).bind (xT bc λ_=>bc bg))))
def j5(e:Expr):Option (Bool) :=
 aN (yx KK (Expr.mk e.Op e.N e.S e.Key e.Args) 12) λx1=>bc x1
def Jy(c0:List zd)(c1:Int)(c2:Int)(c3:Int)(c4:Bs8)(c5:Bs8)(c6:List Expr):Nat->(Int)->Option ((Int×Bs8)⊕(Unit))
 |0,_=>bh
 |K+1,q=>(bif (decide (q<c1))then(idx c0 q).bind λx1=>(bif (decide (x1.op=c2))then bc (bp (x1.form,x1.text))else Jy c0 c1 c2 c3 c4 c5 c6 K (w64 (q+1)))else bc (br ()))
def zbi(e:Expr):Option (Int×Bs8) :=
 aN wZ λx1=>(Jy x1 (x1.length:Int) e.Op e.N e.S e.Key e.Args KK 0).bind (xT bc λ_=>(bif (decide (e.Op=16))then bc (0,([]:Bs8))else(bif (decide (e.Op=15))then bc (3,([]:Bs8))else(bif (decide (e.Op=9))then bc (7,([]:Bs8))else bc (8,([]:Bs8))))))
def xd(a0:Bs8)(a1:Bs8):Option (Int×Bs8):=aN (grd (bf a0+bf a1<=140737488355328)) λ_=>bc ((a1.length:Int),a0++a1)
def ZX(a0:Int):Option (Bs8):=zu8 a0
def kv(r_write:Bs8->Expr->Int->Option (Bs8))(c0:Int)(c1:Int)(c2:Int)(c3:Bs8)(c4:Bs8)(c5:List Expr)(c6:List Bs8):Nat->(Bs8×Int)->Option (Bs8)
 |0,_=>bh
 |K+1,q=>(bif (decide (q.2<c0))then(grd (0<=q.2/\q.2<(((bf c6):Nat):Int))).bind λ_=>aN ((c6)[(bX q.2)]?) λx2=>aN (xd q.1 x2) λx3=>aN (idx c5 q.2) λx4=>aN (r_write x3.2 x4 0) λx5=>kv r_write c0 c1 c2 c3 c4 c5 c6 K (x5,(w64 (q.2+1)))else bc q.1)
def kz(r_write:Bs8->Expr->Int->Option (Bs8))(c0:Int)(c1:Int)(c2:Int)(c3:Bs8)(c4:Bs8)(c5:List Expr)(c6:List Bs8):Nat->(Bs8×Int)->Option (Bs8)
 |0,_=>bh
 |K+1,q=>(bif (decide (q.2<c0))then(grd (0<=q.2/\q.2<(((bf c6):Nat):Int))).bind λ_=>aN ((c6)[(bX q.2)]?) λx2=>aN (xd q.1 x2) λx3=>aN (idx c5 q.2) λx4=>aN (r_write x3.2 x4 0) λx5=>kz r_write c0 c1 c2 c3 c4 c5 c6 K (x5,(w64 (q.2+1)))else bc q.1)
def wg:Nat->Bs8->Expr->Int->Option (Bs8)
 |0,_,_,_=>bh
 |RK+1,b,e,form=>aN (zbi (Expr.mk e.Op e.N e.S e.Key e.Args)) λx1=>(bif (decide (x1.1<form))then(xd b zhl).bind λx2=>(bif (decide (e.Op=0))then(ZX e.N).bind λx3=>aN (xd x2.2 x3) λx4=>aN (zz4 x4.2) λx5=>bc x5 else(bif (decide (e.Op=1))then(xd x2.2 e.S).bind λx6=>aN (zz4 x6.2) λx7=>bc x7 else(bif (decide (e.Op=2))then(grd (bf wk+bf e.S<=9223372036854775807)).bind λ_=>aN (grd (bf (wk++e.S)+bf t__<=9223372036854775807)) λ_=>aN (grd (bf ((wk++e.S)++t__)+bf e.Key<=9223372036854775807)) λ_=>aN (xd x2.2 (((wk++e.S)++t__)++e.Key)) λx11=>aN (zz4 x11.2) λx12=>bc x12 else(bif (decide (e.Op=3))then(grd (bf qv+bf e.S<=9223372036854775807)).bind λ_=>aN (xd x2.2 (qv++e.S)) λx14=>aN (zz4 x14.2) λx15=>bc x15 else(bif (decide (e.Op=16))then(kv (wg RK) ((3:Nat):Int) e.Op e.N e.S e.Key e.Args ([Ae,yQ,yP]:List Bs8) KK (x2.2,0)).bind λx16=>aN (zz4 x16) λx17=>bc x17 else(bif (decide (e.Op=15))then(xd x2.2 WM).bind λx18=>aN (idx e.Args 0) λx19=>aN (wg RK x18.2 x19 x1.1) λx20=>aN (zz4 x20) λx21=>bc x21 else(bif (decide (e.Op=9))then(xd x2.2 Kc).bind λx22=>aN (idx e.Args 0) λx23=>aN (wg RK x22.2 x23 x1.1) λx24=>aN (zz4 x24) λx25=>bc x25 else((bif (decide (x1.1=4))then bc (w64 (x1.1+1))else bc x1.1)).bind λx26=>aN (idx e.Args 0) λx27=>aN (wg RK x2.2 x27 x26) λx28=>aN (grd (bf t__+bf x1.2<=9223372036854775807)) λ_=>aN (grd (bf (t__++x1.2)+bf t__<=9223372036854775807)) λ_=>aN (xd x28 ((t__++x1.2)++t__)) λx31=>aN (idx e.Args 1) λx32=>aN (wg RK x31.2 x32 (w64 (x1.1+1))) λx33=>aN (zz4 x33) λx34=>bc x34)))))))else(bif (decide (e.Op=0))then(ZX e.N).bind λx35=>aN (xd b x35) λx36=>bc x36.2 else(bif (decide (e.Op=1))then(xd b e.S).bind λx37=>bc x37.2 else(bif (decide (e.Op=2))then(grd (bf wk+bf e.S<=9223372036854775807)).bind λ_=>aN (grd (bf (wk++e.S)+bf t__<=9223372036854775807)) λ_=>aN (grd (bf ((wk++e.S)++t__)+bf e.Key<=9223372036854775807)) λ_=>aN (xd b (((wk++e.S)++t__)++e.Key)) λx41=>bc x41.2 else(bif (decide (e.Op=3))then(grd (bf qv+bf e.S<=9223372036854775807)).bind λ_=>aN (xd b (qv++e.S)) λx43=>bc x43.2 else(bif (decide (e.Op=16))then(kz (wg RK) ((3:Nat):Int) e.Op e.N e.S e.Key e.Args ([Ae,yQ,yP]:List Bs8) KK (b,0)).bind λx44=>bc x44 else(bif (decide (e.Op=15))then(xd b WM).bind λx45=>aN (idx e.Args 0) λx46=>aN (wg RK x45.2 x46 x1.1) λx47=>bc x47 else(bif (decide (e.Op=9))then(xd b Kc).bind λx48=>aN (idx e.Args 0) λx49=>aN (wg RK x48.2 x49 x1.1) λx50=>bc x50 else((bif (decide (x1.1=4))then bc (w64 (x1.1+1))else bc x1.1)).bind λx51=>aN (idx e.Args 0) λx52=>aN (wg RK b x52 x51) λx53=>aN (grd (bf t__+bf x1.2<=9223372036854775807)) λ_=>aN (grd (bf (t__++x1.2)+bf t__<=9223372036854775807)) λ_=>aN (xd x53 ((t__++x1.2)++t__)) λx56=>aN (idx e.Args 1) λx57=>aN (wg RK x56.2 x57 (w64 (x1.1+1))) λx58=>bc x58))))))))
def zDj(a0:Bs8):Option (Int):=bc (a0.length:Int)
def qq(a0:Bs8):Option (Bs8):=bc a0
def Vo(e:Expr):Option (Bs8×Int) :=
 aN (j5 (Expr.mk e.Op e.N e.S e.Key e.Args)) λx1=>(bif (!x1)then bc (([]:Bs8),1)else(wg KK ([]:Bs8) (Expr.mk e.Op e.N e.S e.Key e.Args) 0).bind λx2=>aN (zDj x2) λx3=>(bif (decide (x3>8000))then bc (([]:Bs8),6)else(qq x2).bind λx4=>bc (x4,0)))
def zo(b:BB):Option (Int×Bs8×Int×Int) :=
 aN (idx b.l b.i) λx1=>bc (x1.aM,x1.Text,x1.N,x1.Pos)
def zf(b:BB)(is:Bool)(err:Int):Option (Unit) :=
 (bif (!is)then bh else bc ())
def yS(b:BB)(have_:Int)(most:Int):Option (Int) :=
 aN (zf b (decide (have_<most)) 6) λ_=>bc (w64 (b.i+1))
def zJ(b:BB):Option (Bool) :=
 aN (zo b) λx1=>(bif (decide (x1.1=0))then(zo b).bind λx2=>aN (Q0 x2.2.1) λx3=>bc x3 else bc bd)
def zL(b:BB):Option (Bs8×Int) :=
 aN (zJ b) λx1=>aN (zf b x1 14) λ_=>aN (idx b.l (w64 ((w64 (b.i+1))-1))) λx3=>bc (x3.Text,(w64 (b.i+1)))
def KF(b:BB):Option (Bs8×Int×(List Mb8)) :=
 aN (zJ b) λx1=>aN (zf b x1 14) λ_=>aN (zo b) λx3=>aN (Je b.n0) λx4=>aN (zf { b with n0:=[x4] } (!((xn x3.2.1 x4).getD bd)) 5) λ_=>aN (zo { b with n0:=[x4] }) λx6=>aN (Je [x4]) λx7=>aN (zL { b with n0:=[oB x6.2.1 bg x7] }) λx8=>bc (x8.1,x8.2,[oB x6.2.1 bg x7])
def zdj(b:BB):Option (Bs8×Int×(List Mb8)) :=
 aN ((bif (dk b.n0)then bc ([([]:List (Bs8×Bool))]:List Mb8)else bc b.n0)) λx1=>aN (KF { b with n0:=x1 }) λx2=>bc (x2.1,x2.2.1,x2.2.2)
def vG(b:BB)(s:Bs8):Option (Bool) :=
 aN (zo b) λx1=>(bif (!(decide (x1.1=3)))then(zo b).bind λx2=>bc (decide (x2.2.1=s))else bc bd)
def zD(b:BB)(s:Bs8):Option (Bool×Int) :=
 aN (vG b s) λx1=>(bif (!x1)then bc (bd,b.i)else bc (bg,(w64 (b.i+1))))
def zA(b:BB)(s:Bs8):Option (Int) :=
 aN (zD b s) λx1=>aN (zf { b with i:=x1.2 } x1.1 14) λ_=>bc x1.2
def yj(b:BB):Option (Bool) :=
 aN (zo b) λx1=>bc (decide (x1.1=1))
def zk(b:BB)(from_:Int)(to_:Int):Option (Int×Int) :=
 aN (yj b) λx1=>aN (zf b x1 14) λ_=>aN (zo b) λx3=>aN ((bif (decide (x3.2.2.1>=from_))then(zf b (decide (x3.2.2.1<=to_)) 3).bind λ_=>bc ()else(zf b bd 3).bind λ_=>bc ())) λ_=>bc (x3.2.2.1,(w64 (b.i+1)))
def kQ(b:BB)(c1:Int)(c17:Int)(c18:Int)(c19:List zd)(c20:Int)(c21:Int)(c22:Bs8)(c23:List Expr)(c24:Int)(c25:Int)(c26:Bs8)(c27:Bs8)(c28:List Expr):Nat->(Int×Bs8×Int×Int)->Option (Bs8×Int×Int)
 |0,_=>bh
 |K+1,q=>(bif (decide (q.1<c20))then(aN (idx c19 q.1) λx2=>aN (vG { b with i:=c1 } x2.text) λx3=>(bif x3 then bc (x2.text,x2.op,x2.form)else bc (q.2.1,q.2.2.1,q.2.2.2))).bind λx1=>kQ b c1 c17 c18 c19 c20 c21 c22 c23 c24 c25 c26 c27 c28 K ((w64 (q.1+1)),x1.1,x1.2.1,x1.2.2)else bc (q.2.1,q.2.2.1,q.2.2.2))
def kS(r_q_expr_2:BB->Int->Option (Int×Int×Int×Bs8×Bs8×(List Expr)))(b:BB)(c16:Int)(c17:Int)(c18:Bs8)(c19:List Expr):Nat->(Int×Int×Int×Int×Bs8×Bs8×(List Expr))->Option ((Int×Int×Int×Bs8×Bs8×(List Expr))⊕(Unit))
 |0,_=>bh
 |K+1,q=>aN wZ λx1=>aN (kQ { b with i:=0 } q.1 c16 q.2.1 x1 (x1.length:Int) c17 c18 c19 q.2.2.1 q.2.2.2.1 q.2.2.2.2.1 q.2.2.2.2.2.1 q.2.2.2.2.2.2 KK (0,([]:Bs8),0,0)) λx2=>aN ((bif (decide (x2.1=([]:Bs8)))then bc bg else(bif (decide (x2.2.2<c16))then bc bg else(bif (decide (q.2.1<x2.2.2))then bc bg else(bif (decide (q.2.1=4))then bc (decide (x2.2.2=4))else bc bd))))) λx3=>(bif x3 then bc (bp (q.1,q.2.2.1,q.2.2.2.1,q.2.2.2.2.1,q.2.2.2.2.2.1,q.2.2.2.2.2.2))else(r_q_expr_2 { b with i:=(w64 (q.1+1)) } (w64 (x2.2.2+1))).bind λx4=>kS r_q_expr_2 b c16 c17 c18 c19 K (x4.1,x2.2.2,x2.2.1,0,([]:Bs8),([]:Bs8),([(Expr.mk q.2.2.1 q.2.2.2.1 q.2.2.2.2.1 q.2.2.2.2.2.1 q.2.2.2.2.2.2),(Expr.mk x4.2.1 x4.2.2.1 x4.2.2.2.1 x4.2.2.2.2.1 x4.2.2.2.2.2)]:List Expr)))
mutual
def ur:Nat->BB->Int->Option (Int×Int×Int×Int×Bs8×Bs8×(List Expr))
 |0,_,_=>bh
 |RK+1,b,form=>aN ((bif (decide (form<=0))then(zD b WL).bind λx2=>bc (x2.2,x2.1)else bc (b.i,bd))) λx1=>(bif x1.2 then(yb RK { b with i:=x1.1 } 0).bind λx3=>aN (zA { b with i:=x3.1 } uR) λx4=>aN (yb RK { b with i:=x4 } 0) λx5=>aN (zA { b with i:=x5.1 } xh) λx6=>aN (yb RK { b with i:=x6 } 0) λx7=>bc (0,x7.1,16,0,([]:Bs8),([]:Bs8),([(Expr.mk x3.2.1 x3.2.2.1 x3.2.2.2.1 x3.2.2.2.2.1 x3.2.2.2.2.2),(Expr.mk x5.2.1 x5.2.2.1 x5.2.2.2.1 x5.2.2.2.2.1 x5.2.2.2.2.2),(Expr.mk x7.2.1 x7.2.2.1 x7.2.2.2.1 x7.2.2.2.2.1 x7.2.2.2.2.2)]:List Expr))else((bif (decide (form<=3))then(zD { b with i:=x1.1 } um).bind λx9=>bc (x9.2,x9.1)else bc (x1.1,bd))).bind λx8=>(bif x8.2 then(yb RK { b with i:=x8.1 } 3).bind λx10=>bc (3,x10.1,15,0,([]:Bs8),([]:Bs8),([(Expr.mk x10.2.1 x10.2.2.1 x10.2.2.2.1 x10.2.2.2.2.1 x10.2.2.2.2.2)]:List Expr))else((bif (decide (form<=7))then(zD { b with i:=x8.1 } xa).bind λx12=>bc (x12.2,x12.1)else bc (x8.1,bd))).bind λx11=>(bif x11.2 then(yb RK { b with i:=x11.1 } 7).bind λx13=>bc (7,x13.1,9,0,([]:Bs8),([]:Bs8),([(Expr.mk x13.2.1 x13.2.2.1 x13.2.2.2.1 x13.2.2.2.2.1 x13.2.2.2.2.2)]:List Expr))else(yj { b with i:=x11.1 }).bind λx14=>(bif x14 then(zk { b with i:=x11.1 } 0 1099511627776).bind λx15=>bc (8,x15.2,0,x15.1,([]:Bs8),([]:Bs8),[])else(zD { b with i:=x11.1 } ym).bind λx16=>(bif x16.1 then(zL { b with i:=x16.2 }).bind λx17=>aN (zL { b with i:=x17.2 }) λx18=>bc (8,x18.2,2,0,x17.1,x18.1,[])else(zD { b with i:=x16.2 } yR).bind λx19=>(bif x19.1 then(zL { b with i:=x19.2 }).bind λx20=>bc (8,x20.2,3,0,x20.1,([]:Bs8),[])else(zD { b with i:=x19.2 } AP).bind λx21=>(bif x21.1 then(yb RK { b with i:=x21.2 } 0).bind λx22=>aN (zA { b with i:=x22.1 } qu) λx23=>bc (8,x23,x22.2.1,x22.2.2.1,x22.2.2.2.1,x22.2.2.2.2.1,x22.2.2.2.2.2)else(zL { b with i:=x21.2 }).bind λx24=>bc (8,x24.2,1,0,x24.1,([]:Bs8),[]))))))))
def yb:Nat->BB->Int->Option (Int×Int×Int×Bs8×Bs8×(List Expr))
 |0,_,_=>bh
 |RK+1,b,form=>aN (ur RK b form) λx1=>(kS (yb RK) { b with i:=0 } form 0 ([]:Bs8) [] KK (x1.2.1,x1.1,x1.2.2.1,x1.2.2.2.1,x1.2.2.2.2.1,x1.2.2.2.2.2.1,x1.2.2.2.2.2.2)).bind (xT bc λ_=>bh)
end
def j6(b:BB)(is:Bool)(err:Int):Option (Int) :=
 aN (vG b yc) λx1=>aN (zf b x1 14) λ_=>aN (zf b is err) λ_=>bc (w64 (b.i+1))
def HH(b:BB):Option (Int×(List Def)×(List Mb8)) :=
 aN (zdj b) λx1=>aN (zA { b with i:=x1.2.1,n0:=x1.2.2 } AQ) λx2=>aN (yb KK { b with i:=x2,n0:=x1.2.2 } 0) λx3=>aN (jg KK (Expr.mk x3.2.1 x3.2.2.1 x3.2.2.2.1 x3.2.2.2.2.1 x3.2.2.2.2.2)) λx4=>aN (j6 { b with i:=x3.1,n0:=x1.2.2 } (decide (x4<=12)) 6) λx5=>aN (grd (bf (b.D++([(Def.mk x1.1 (Expr.mk x3.2.1 x3.2.2.1 x3.2.2.2.1 x3.2.2.2.2.1 x3.2.2.2.2.2))]:List Def))*88<=140737488355328)) λ_=>bc (x5,(b.D++([(Def.mk x1.1 (Expr.mk x3.2.1 x3.2.2.1 x3.2.2.2.1 x3.2.2.2.2.1 x3.2.2.2.2.2))]:List Def)),x1.2.2)
def Ah(b:BB):Option (Bs8×Int×(List Mb8)) :=
 aN (zJ b) λx1=>aN (zf b x1 14) λ_=>aN (zo b) λx3=>aN (Je b.n1) λx4=>aN (zf { b with n1:=[x4] } (!((xn x3.2.1 x4).getD bd)) 5) λ_=>aN (zo { b with n1:=[x4] }) λx6=>aN (Je [x4]) λx7=>aN (zL { b with n1:=[oB x6.2.1 bg x7] }) λx8=>bc (x8.1,x8.2,[oB x6.2.1 bg x7])
def KH(b:BB):Option (Bs8×Int×(List Mb8)) :=
 aN ((bif (dk b.n1)then bc ([([]:List (Bs8×Bool))]:List Mb8)else bc b.n1)) λx1=>aN (Ah { b with n1:=x1 }) λx2=>bc (x2.1,x2.2.1,x2.2.2)
def yf(b:BB)(known:Mb8):Option (Bs8×Int×Mb8) :=
 aN (zJ b) λx1=>aN (zf b x1 14) λ_=>aN (zo b) λx3=>aN (zf b (!((xn x3.2.1 known).getD bd)) 5) λ_=>aN (zo b) λx5=>aN (zL b) λx6=>bc (x6.1,x6.2,(oB x5.2.1 bg known))
def wL(b:BB)(most:Int):Option (Int×Int) :=
 aN (zD b xa) λx1=>(bif x1.1 then(zk { b with i:=x1.2 } 0 most).bind λx2=>bc ((w64 (0-x2.1)),x2.2)else(zk { b with i:=x1.2 } 0 most).bind λx3=>bc (x3.1,x3.2))
def uu(b:BB)(c15:(List Mb8))(c16:Bs8)(c17:Int):Nat->(Int×Mb8×(List aw))->Option (Int×(List aw))
 |0,_=>bh
 |K+1,q=>aN (zJ { b with i:=q.1,n1:=c15 }) λx1=>(bif x1 then(zf { b with i:=q.1,n1:=c15 } (decide ((((bf q.2.2):Nat):Int)<60)) 6).bind λ_=>aN (yf { b with i:=q.1,n1:=c15 } q.2.1) λx3=>aN (wL { b with i:=x3.2.1,n1:=c15 } 1099511627776) λx4=>aN (grd (bf (q.2.2++([(aw.mk x3.1 x4.1)]:List aw))*24<=140737488355328)) λ_=>uu b c15 c16 c17 K (x4.2,x3.2.2,(q.2.2++([(aw.mk x3.1 x4.1)]:List aw)))else bc (q.1,q.2.2))
def KI(b:BB):Option (Int×(List au)×(List Mb8)) :=
 aN (KH b) λx1=>aN (uu { b with i:=0,n1:=[] } x1.2.2 x1.1 0 KK (x1.2.1,([]:List (Bs8×Bool)),([]:List aw))) λx2=>aN (zA { b with i:=x2.1,n1:=x1.2.2 } xh) λx3=>aN (wL { b with i:=x3,n1:=x1.2.2 } 1099511627776) λx4=>aN (zA { b with i:=x4.2,n1:=x1.2.2 } yc) λx5=>aN (grd (bf (b.T++([(au.mk x1.1 x2.2 x4.1)]:List au))*48<=140737488355328)) λ_=>bc (x5,(b.T++([(au.mk x1.1 x2.2 x4.1)]:List au)),x1.2.2)
def Ai(b:BB):Option (Bs8×Int×(List Mb8)) :=
 aN (zJ b) λx1=>aN (zf b x1 14) λ_=>aN (zo b) λx3=>aN (Je b.n2) λx4=>aN (zf { b with n2:=[x4] } (!((xn x3.2.1 x4).getD bd)) 5) λ_=>aN (zo { b with n2:=[x4] }) λx6=>aN (Je [x4]) λx7=>aN (zL { b with n2:=[oB x6.2.1 bg x7] }) λx8=>bc (x8.1,x8.2,[oB x6.2.1 bg x7])
def Aj(b:BB):Option (Bs8×Int×(List Mb8)) :=
 aN ((bif (dk b.n2)then bc ([([]:List (Bs8×Bool))]:List Mb8)else bc b.n2)) λx1=>aN (Ai { b with n2:=x1 }) λx2=>bc (x2.1,x2.2.1,x2.2.2)
def kT(b:BB):Nat->(Int×(List zV))->Option (((List zV)×Int)⊕(Unit))
 |0,_=>bh
 |K+1,q=>aN (zk { b with i:=q.1 } 0 1048576) λx1=>aN (zk { b with i:=x1.2 } 0 1048576) λx2=>aN (grd (bf (q.2++([(zV.mk x1.1 x2.1)]:List zV))*16<=140737488355328)) λ_=>aN (yj { b with i:=x2.2 }) λx4=>(bif (!x4)then bc (bp ((q.2++([(zV.mk x1.1 x2.1)]:List zV)),x2.2))else kT b K (x2.2,(q.2++([(zV.mk x1.1 x2.1)]:List zV))))
def wM(b:BB):Option ((List zV)×Int) :=
 (kT { b with i:=0 } KK (b.i,[])).bind (xT bc λ_=>bh)
def vb(c0:List zV)(c1:Int):Nat->(Int×(List zI))->Option ((List zI))
 |0,_=>bh
 |K+1,q=>(bif (decide (q.1<c1))then(idx c0 q.1).bind λx1=>aN (grd ((c0.length:Int)≠0)) λ_=>aN (idx c0 (ll (w64 (q.1+1)) (c0.length:Int))) λx3=>aN (grd (0<=q.1/\q.1<(((bf q.2):Nat):Int))) λ_=>aN ((q.2)[(bX q.1)]?) λ_=>vb c0 c1 K ((w64 (q.1+1)),(List.set q.2 (bX q.1) (zI.mk x1 x3)))else bc q.2)
def Qx(p:List zV):Option ((List zI)) :=
 aN (grd (0<=(p.length:Int)/\(p.length:Int)*((32:Nat):Int)<=281474976710656/\(p.length:Int)<=9223372036854775807)) λ_=>aN (vb p (p.length:Int) KK (0,(List.replicate (bX (p.length:Int)) (zI.mk (zV.mk 0 0) (zV.mk 0 0))))) λx2=>bc x2
def Zd(p:zV):Option (Bool) :=
 (bif (decide (0<=p.X))then(bif (decide (p.X<=1048576))then(bif (decide (0<=p.Y))then bc (decide (p.Y<=1048576))else bc bd)else bc bd)else bc bd)
def xG(s:zI):Option (Bool) :=
 bc (decide (s.a.X=s.b.X))
def Jz(x_:Int):Option (Bool) :=
 bc (!(decide (x_=x_)))
def kU(x_:Int)(y:Int):Option (Int) :=
 aN (Jz x_) λx1=>aN (Jz y) λx2=>(bif x1 then(bif x2 then bc 0 else bc (-1))else(bif x2 then bc 1 else(bif (decide (x_<y))then bc (-1)else(bif (decide (x_>y))then bc 1 else bc 0))))
def qz(c0:Int)(c1:List Int)(c2:Int):Nat->(Int)->Option ((Int)⊕(Unit))
 |0,_=>bh
 |K+1,q=>(bif (decide (q<c2))then(idx c1 q).bind λx1=>(bif (!(decide (x1=c0)))then bc (bp x1)else qz c0 c1 c2 K (w64 (q+1)))else bc (br ()))
def zbj(vals:List Int):Option (Int) :=
 (qz 0 vals (vals.length:Int) KK 0).bind (xT bc λ_=>bc 0)
def JA(a:zV)(b:zV):Option (Int) :=
 aN (kU a.X b.X) λx1=>aN (kU a.Y b.Y) λx2=>aN (zbj ([x1,x2]:List Int)) λx3=>bc x3
def Kd(s:zI)(t:zI):Option (Bool) :=
 (bif (decide ((max (min s.a.X s.b.X) (min t.a.X t.b.X))<=(min (max s.a.X s.b.X) (max t.a.X t.b.X))))then bc (decide ((max (min s.a.Y s.b.Y) (min t.a.Y t.b.Y))<=(min (max s.a.Y s.b.Y) (max t.a.Y t.b.Y))))else bc bd)
def kA(c0:List zV)(c1:List zI)(c2:Int):Nat->(Int)->Option ((Bool)⊕(Unit))
 |0,_=>bh
 |K+1,q=>(bif (decide (q<c2))then(idx c1 q).bind λx1=>aN (grd ((c1.length:Int)≠0)) λ_=>aN (idx c1 (ll (w64 (q+1)) (c1.length:Int))) λx3=>aN (aN (Zd x1.a) λx5=>(bif (!x5)then bc bg else(bif ((decide (x1.a.X=x1.b.X))==(decide (x1.a.Y=x1.b.Y)))then bc bg else(xG x1).bind λx6=>aN (xG x3) λx7=>bc (x6==x7)))) λx4=>(bif x4 then bc (bp bd)else((bif (decide (q>0))then(idx c0 0).bind λx9=>aN (idx c0 q) λx10=>aN (JA x9 x10) λx11=>bc (decide (x11>=0))else bc bd)).bind λx8=>(bif x8 then bc (bp bd)else kA c0 c1 c2 K (w64 (q+1))))else bc (br ()))
def kB(c0:List zI)(c1:Int)(c2:Int):Nat->(Int)->Option ((Bool)⊕(Unit))
 |0,_=>bh
 |K+1,q=>(bif (decide (q<(c0.length:Int)))then((bif (decide ((w64 ((w64 (c1+(c0.length:Int)))-q))>1))then(idx c0 c1).bind λx2=>aN (idx c0 q) λx3=>aN (Kd x2 x3) λx4=>bc x4 else bc bd)).bind λx1=>(bif x1 then bc (bp bd)else kB c0 c1 c2 K (w64 (q+1)))else bc (br ()))
def kC(c0:List zI)(c1:Int):Nat->(Int)->Option ((Bool)⊕(Unit))
 |0,_=>bh
 |K+1,q=>(bif (decide (q<c1))then(kB c0 q c1 KK (w64 (q+2))).bind (xT (λq=>bc (bp q)) λ_=>kC c0 c1 K (w64 (q+1)))else bc (br ()))
def zdk(p:List zV):Option (Bool) :=
 aN ((bif (decide ((p.length:Int)<4))then bc bg else bc (decide ((p.length:Int)>60)))) λx1=>(bif x1 then bc bd else(Qx p).bind λx2=>(kA p x2 (x2.length:Int) KK 0).bind (xT bc λ_=>(kC x2 (x2.length:Int) KK 0).bind (xT bc λ_=>aN (idx x2 0) λx5=>aN (xG x5) λx6=>bc (!x6))))
def vc(l:List zV):Option (Bool) :=
 aN (zdk l) λx1=>bc x1
def Ak(b:BB):Option (Bs8×Int×(List Mb8)) :=
 aN (zJ b) λx1=>aN (zf b x1 14) λ_=>aN (zo b) λx3=>aN (Je b.n3) λx4=>aN (zf { b with n3:=[x4] } (!((xn x3.2.1 x4).getD bd)) 5) λ_=>aN (zo { b with n3:=[x4] }) λx6=>aN (Je [x4]) λx7=>aN (zL { b with n3:=[oB x6.2.1 bg x7] }) λx8=>bc (x8.1,x8.2,[oB x6.2.1 bg x7])
def KJ(b:BB):Option (Bs8×Int×(List Mb8)) :=
 aN ((bif (dk b.n3)then bc ([([]:List (Bs8×Bool))]:List Mb8)else bc b.n3)) λx1=>aN (Ak { b with n3:=x1 }) λx2=>bc (x2.1,x2.2.1,x2.2.2)
def Al(b:BB):Nat->(Int×(List Bs8))->Option (Int×(List Bs8))
 |0,_=>bh
 |K+1,q=>aN (zJ { b with i:=q.1 }) λx1=>(bif x1 then(zL { b with i:=q.1 }).bind λx2=>aN (grd (bf (q.2++([x2.1]:List Bs8))*16<=140737488355328)) λ_=>Al b K (x2.2,(q.2++([x2.1]:List Bs8)))else bc (q.1,q.2))
def u6(b:BB):Option ((List Bs8)×Int) :=
 aN (zL b) λx1=>aN (Al { b with i:=0 } KK (x1.2,([x1.1]:List Bs8))) λx2=>bc (x2.2,x2.1)
def vH(a0:Bs8):Option ((List Bs8)):=Jp a0
def xS(c0:List Bs8)(c1:Bs8)(c2:Int):Nat->(Int)->Option ((Int)⊕(Unit))
 |0,_=>bh
 |K+1,q=>(bif (decide (q<c2))then(idx c0 q).bind λx1=>(bif (decide (c1=x1))then bc (bp q)else xS c0 c1 c2 K (w64 (q+1)))else bc (br ()))
def Hp(s:List Bs8)(v:Bs8):Option (Int) :=
 (xS s v (s.length:Int) KK 0).bind (xT bc λ_=>bc (-1))
def Vp(list:Bs8)(s:Bs8):Option (Int) :=
 aN (vH list) λx1=>aN (Hp x1 s) λx2=>bc x2
def xy(b:BB)(list:Bs8):Option (Int×Int) :=
 aN (zo b) λx1=>aN (Vp list x1.2.1) λx2=>aN (aN (zo b) λx4=>(bif (decide (x4.1=0))then(zf b (decide (x2>=0)) 14).bind λ_=>bc ()else(zf b bd 14).bind λ_=>bc ())) λ_=>bc (x2,(w64 (b.i+1)))
def HI(b:BB):Nat->(Int×Int)->Option ((Int×Int)⊕(Unit))
 |0,_=>bh
 | K+1,q=>aN (zo { b with i:=q.1 }) λx1=>aN (Vp zj x1.2.1) λx2=>aN ((bif (decide (q.2>0))then(bif (decide (x2<0))then bc bg else(zo { b with i:=q.1 }).bind λx4=>bc (!(decide (x4.1=0))))else bc bd)) λx3=>(bif x3 then bc (bp (q.2,q.1))else((bif (decide (x2<0))then(zf { b with i:=q.1 } bg 5).bind λ_=>bc ()else(grd (0<=x2)).bind λ_=>aN (zf { b with i:=q.1 } (decide ((IntKind.i64.wrap ((cv IntKind.i64.bits (gX q.2 (2 ^ (min (bX x2) IntKind.i64.bits))) &&& cv IntKind.i64.bits 1).toNat:Int))=0)) 5) λ_=>bc ())).bind λ_=>aN (xy { b with i:=q.1 } zj) λx9=>aN (grd (0<=x9.1)) λ_=>HI b K (x9.2,(IntKind.i64.wrap ((cv IntKind.i64.bits q.2 ||| cv IntKind.i64.bits (w64 (1*2 ^ (min (bX x9.1) IntKind.i64.bits)))).toNat:Int))))
def zdl(b:BB):Option (Int×Int) :=
 (HI { b with i:=0 } KK (b.i,0)).bind (xT bc λ_=>bh)
def JB(b:BB):Option (Int×(List zO)×(List Mb8)) :=
 aN (KJ b) λx1=>aN (aN (zD { b with i:=x1.2.1,n3:=x1.2.2 } zft) λx3=>(bif x3.1 then(u6 { b with i:=x3.2,n3:=x1.2.2 }).bind λx4=>bc (x4.2,x4.1)else bc (x3.2,[]))) λx2=>aN (aN (zD { b with i:=x2.1,n3:=x1.2.2 } xe) λx6=>(bif x6.1 then(u6 { b with i:=x6.2,n3:=x1.2.2 }).bind λx7=>bc (x7.2,x7.1)else bc (x6.2,[]))) λx5=>aN (aN (zD { b with i:=x5.1,n3:=x1.2.2 } vE) λx9=>(bif x9.1 then(zk { b with i:=x9.2,n3:=x1.2.2 } 0 1073741824).bind λx10=>bc (x10.2,x10.1)else bc (x9.2,0))) λx8=>aN (aN (zD { b with i:=x8.1,n3:=x1.2.2 } xK) λx12=>(bif x12.1 then(zk { b with i:=x12.2,n3:=x1.2.2 } (w64 (x8.2+1)) 1073741824).bind λx13=>bc (x13.2,x13.1)else bc (x12.2,0))) λx11=>aN (aN (zD { b with i:=x11.1,n3:=x1.2.2 } xW) λx15=>(bif x15.1 then(zk { b with i:=x15.2,n3:=x1.2.2 } 0 1073741824).bind λx16=>bc (x16.2,x16.1)else bc (x15.2,0))) λx14=>aN (zD { b with i:=x14.1,n3:=x1.2.2 } wB) λx17=>aN (zA { b with i:=x17.2,n3:=x1.2.2 } xQ) λx18=>aN (aN (zD { b with i:=x18,n3:=x1.2.2 } qt) λx20=>(bif x20.1 then(zk { b with i:=x20.2,n3:=x1.2.2 } 0 3).bind λx21=>aN (zA { b with i:=x21.2,n3:=x1.2.2 } AX) λx22=>aN (zk { b with i:=x22,n3:=x1.2.2 } 0 4096) λx23=>aN (zA { b with i:=x23.2,n3:=x1.2.2 } jH) λx24=>aN (zk { b with i:=x24,n3:=x1.2.2 } 0 4096) λx25=>aN (zk { b with i:=x25.2,n3:=x1.2.2 } 1 4096) λx26=>aN (zA { b with i:=x26.2,n3:=x1.2.2 } yc) λx27=>bc (x27,1,0,0,([]:Bs8),([]:Bs8),[],x21.1,x23.1,x25.1,x26.1,0,0,0)else(zD { b with i:=x20.2,n3:=x1.2.2 } Ag).bind λx28=>(bif x28.1 then(zdl { b with i:=x28.2,n3:=x1.2.2 }).bind λx29=>aN (zA { b with i:=x29.2,n3:=x1.2.2 } yc) λx30=>bc (x30,2,0,0,([]:Bs8),([]:Bs8),[],0,0,0,0,x29.1,0,0)else(zD { b with i:=x28.2,n3:=x1.2.2 } qs).bind λx31=>(bif x31.1 then(xy { b with i:=x31.2,n3:=x1.2.2 } zj).bind λx32=>aN (xy { b with i:=x32.2,n3:=x1.2.2 } zj) λx33=>aN (zk { b with i:=x33.2,n3:=x1.2.2 } 0 1048576) λx34=>aN (zA { b with i:=x34.2,n3:=x1.2.2 } yc) λx35=>bc (x35,3,0,0,([]:Bs8),([]:Bs8),[],0,0,0,0,x32.1,x33.1,x34.1)else(yb KK { b with i:=x31.2,n3:=x1.2.2 } 0).bind λx36=>aN (jg KK (Expr.mk x36.2.1 x36.2.2.1 x36.2.2.2.1 x36.2.2.2.2.1 x36.2.2.2.2.2)) λx37=>aN (j6 { b with i:=x36.1,n3:=x1.2.2 } (decide (x37<=12)) 6) λx38=>bc (x38,0,x36.2.1,x36.2.2.1,x36.2.2.2.1,x36.2.2.2.2.1,x36.2.2.2.2.2,0,0,0,0,0,0,0))))) λx19=>aN (grd (bf (b.R++([(zO.mk x1.1 x2.2 x5.2 x8.2 x11.2 x14.2 x17.1 x19.2.1 (Expr.mk x19.2.2.1 x19.2.2.2.1 x19.2.2.2.2.1 x19.2.2.2.2.2.1 x19.2.2.2.2.2.2.1) (zy.mk x19.2.2.2.2.2.2.2.1 x19.2.2.2.2.2.2.2.2.1 x19.2.2.2.2.2.2.2.2.2.1 x19.2.2.2.2.2.2.2.2.2.2.1) x19.2.2.2.2.2.2.2.2.2.2.2.1 x19.2.2.2.2.2.2.2.2.2.2.2.2.1 x19.2.2.2.2.2.2.2.2.2.2.2.2.2)]:List zO))*232<=140737488355328)) λ_=>bc (x19.1,(b.R++([(zO.mk x1.1 x2.2 x5.2 x8.2 x11.2 x14.2 x17.1 x19.2.1 (Expr.mk x19.2.2.1 x19.2.2.2.1 x19.2.2.2.2.1 x19.2.2.2.2.2.1 x19.2.2.2.2.2.2.1) (zy.mk x19.2.2.2.2.2.2.2.1 x19.2.2.2.2.2.2.2.2.1 x19.2.2.2.2.2.2.2.2.2.1 x19.2.2.2.2.2.2.2.2.2.2.1) x19.2.2.2.2.2.2.2.2.2.2.2.1 x19.2.2.2.2.2.2.2.2.2.2.2.2.1 x19.2.2.2.2.2.2.2.2.2.2.2.2.2)]:List zO)),x1.2.2)
def Am(b:BB):Option (Bs8×Int×(List Mb8)) :=
 aN (zJ b) λx1=>aN (zf b x1 14) λ_=>aN (zo b) λx3=>aN (Je b.n4) λx4=>aN (zf { b with n4:=[x4] } (!((xn x3.2.1 x4).getD bd)) 5) λ_=>aN (zo { b with n4:=[x4] }) λx6=>aN (Je [x4]) λx7=>aN (zL { b with n4:=[oB x6.2.1 bg x7] }) λx8=>bc (x8.1,x8.2,[oB x6.2.1 bg x7])
def An(b:BB):Option (Bs8×Int×(List Mb8)) :=
 aN ((bif (dk b.n4)then bc ([([]:List (Bs8×Bool))]:List Mb8)else bc b.n4)) λx1=>aN (Am { b with n4:=x1 }) λx2=>bc (x2.1,x2.2.1,x2.2.2)
def Ao(b:BB):Option (Bs8×Int×(List Mb8)) :=
 aN (zJ b) λx1=>aN (zf b x1 14) λ_=>aN (zo b) λx3=>aN (Je b.n5) λx4=>aN (zf { b with n5:=[x4] } (!((xn x3.2.1 x4).getD bd)) 5) λ_=>aN (zo { b with n5:=[x4] }) λx6=>aN (Je [x4]) λx7=>aN (zL { b with n5:=[oB x6.2.1 bg x7] }) λx8=>bc (x8.1,x8.2,[oB x6.2.1 bg x7])
def KO(b:BB):Option (Bs8×Int×(List Mb8)) :=
 aN ((bif (dk b.n5)then bc ([([]:List (Bs8×Bool))]:List Mb8)else bc b.n5)) λx1=>aN (Ao { b with n5:=x1 }) λx2=>bc (x2.1,x2.2.1,x2.2.2)
def kV(b:BB):Option (Int×Int×Int×Int) :=
 aN (zk b 0 1048576) λx1=>aN (zk { b with i:=x1.2 } 0 1048576) λx2=>aN (zk { b with i:=x2.2 } 0 4096) λx3=>bc (x3.2,x1.1,x2.1,x3.1)
def Ap(b:BB)(c15:(List Mb8))(c16:Bs8)(c17:Int)(c18:Int)(c19:Int)(c20:Int):Nat->(Int×(List zg))->Option (Int×(List zg))
 |0,_=>bh
 |K+1,q=>aN (yj { b with i:=q.1,n5:=c15 }) λx1=>(bif x1 then(zf { b with i:=q.1,n5:=c15 } (decide ((((bf q.2):Nat):Int)<20)) 6).bind λ_=>aN (kV { b with i:=q.1,n5:=c15 }) λx3=>aN (grd (bf (q.2++([(zg.mk x3.2.1 x3.2.2.1 x3.2.2.2)]:List zg))*24<=140737488355328)) λ_=>Ap b c15 c16 c17 c18 c19 c20 K (x3.1,(q.2++([(zg.mk x3.2.1 x3.2.2.1 x3.2.2.2)]:List zg)))else bc (q.1,q.2))
def JC(b:BB):Option (Int×(List av)×(List Mb8)) :=
 aN (KO b) λx1=>aN (kV { b with i:=x1.2.1,n5:=x1.2.2 }) λx2=>aN (zA { b with i:=x2.1,n5:=x1.2.2 } vO) λx3=>aN (zk { b with i:=x3,n5:=x1.2.2 } 0 20) λx4=>aN (zA { b with i:=x4.2,n5:=x1.2.2 } xQ) λx5=>aN (kV { b with i:=x5,n5:=x1.2.2 }) λx6=>aN (grd (bf (([]:List zg)++([(zg.mk x6.2.1 x6.2.2.1 x6.2.2.2)]:List zg))*24<=140737488355328)) λ_=>aN (Ap { b with i:=0,n5:=[] } x1.2.2 x1.1 x2.2.1 x2.2.2.1 x2.2.2.2 x4.1 KK (x6.1,(([]:List zg)++([(zg.mk x6.2.1 x6.2.2.1 x6.2.2.2)]:List zg)))) λx8=>aN (zA { b with i:=x8.1,n5:=x1.2.2 } yc) λx9=>aN (grd (bf (b.V++([(av.mk x1.1 (zg.mk x2.2.1 x2.2.2.1 x2.2.2.2) x4.1 x8.2)]:List av))*72<=140737488355328)) λ_=>bc (x9,(b.V++([(av.mk x1.1 (zg.mk x2.2.1 x2.2.2.1 x2.2.2.2) x4.1 x8.2)]:List av)),x1.2.2)
def oL(b:BB):Nat->(Int×(List zg)×Bool)->Option (Int×(List zg))
 |0,_=>bh
 |K+1,q=>(bif q.2.2 then(aN (vG { b with i:=q.1,S:=q.2.1 } xa) λx2=>(bif x2 then(zf { b with i:=q.1,S:=q.2.1 } bg 14).bind λ_=>bc ()else(yj { b with i:=q.1,S:=q.2.1 }).bind λx4=>aN (zf { b with i:=q.1,S:=q.2.1 } x4 14) λ_=>bc ())).bind λ_=>aN (zf { b with i:=q.1,S:=q.2.1 } (decide ((((bf q.2.1):Nat):Int)<24)) 6) λ_=>aN (wL { b with i:=q.1,S:=q.2.1 } 4096) λx7=>aN (wL { b with i:=x7.2,S:=q.2.1 } 4096) λx8=>aN (zk { b with i:=x8.2,S:=q.2.1 } 1 4096) λx9=>aN (grd (bf (q.2.1++([(zg.mk x7.1 x8.1 x9.1)]:List zg))*24<=140737488355328)) λ_=>aN (zD { b with i:=x9.2,S:=(q.2.1++([(zg.mk x7.1 x8.1 x9.1)]:List zg)) } kP) λx11=>oL b K (x11.2,(q.2.1++([(zg.mk x7.1 x8.1 x9.1)]:List zg)),x11.1)else bc (q.1,q.2.1))
def Vq(b:BB):Option (Int×(List zg)) :=
 aN (oL { b with i:=0,S:=[] } KK (b.i,b.S,bg)) λx1=>aN (zA { b with i:=x1.1,S:=x1.2 } yc) λx2=>bc (x2,x1.2)
def zb(b:BB)(q:Int×Int×Bool×(List Def)×(List au)×(List yt)×(List zO)×(List Cap)×(List av)×(List zg)×(List Mb8)×(List Mb8)×(List Mb8)×(List Mb8)×(List Mb8)×(List Mb8)):BB:={ b with i:=q.1,H:=q.2.1,h:=q.2.2.1,D:=q.2.2.2.1,T:=q.2.2.2.2.1,Z:=q.2.2.2.2.2.1,R:=q.2.2.2.2.2.2.1,C:=q.2.2.2.2.2.2.2.1,V:=q.2.2.2.2.2.2.2.2.1,S:=q.2.2.2.2.2.2.2.2.2.1,n0:=q.2.2.2.2.2.2.2.2.2.2.1,n1:=q.2.2.2.2.2.2.2.2.2.2.2.1,n2:=q.2.2.2.2.2.2.2.2.2.2.2.2.1,n3:=q.2.2.2.2.2.2.2.2.2.2.2.2.2.1,n4:=q.2.2.2.2.2.2.2.2.2.2.2.2.2.2.1,n5:=q.2.2.2.2.2.2.2.2.2.2.2.2.2.2.2 }
def yn(b:BB):Nat->(Int×Int×Bool×(List Def)×(List au)×(List yt)×(List zO)×(List Cap)×(List av)×(List zg)×(List Mb8)×(List Mb8)×(List Mb8)×(List Mb8)×(List Mb8)×(List Mb8))->Option (Int×Int×Bool×(List Def)×(List au)×(List yt)×(List zO)×(List Cap)×(List av)×(List zg)×(List Mb8)×(List Mb8)×(List Mb8)×(List Mb8)×(List Mb8)×(List Mb8))
 |0,_=>bh
 |K+1,q=>aN (zo { (zb b q)with l:=b.l }) λx1=>(bif (!(decide (x1.1=3)))then(zo { (zb b q)with l:=b.l }).bind λx2=>(bif (decide (x2.2.1=xJ))then(yS { (zb b q)with l:=b.l } (((bf ((zb b q).D)):Nat):Int) 60).bind λx3=>aN (HH { (zb b q)with l:=b.l,i:=x3 }) λx4=>yn b K (x4.1,(zb b q).H,(zb b q).h,x4.2.1,(zb b q).T,(zb b q).Z,(zb b q).R,(zb b q).C,(zb b q).V,(zb b q).S,x4.2.2,(zb b q).n1,(zb b q).n2,(zb b q).n3,(zb b q).n4,(zb b q).n5)else(bif (decide (x2.2.1=ym))then(yS { (zb b q)with l:=b.l } (((bf ((zb b q).T)):Nat):Int) 60).bind λx5=>aN (KI { (zb b q)with l:=b.l,i:=x5 }) λx6=>yn b K (x6.1,(zb b q).H,(zb b q).h,(zb b q).D,x6.2.1,(zb b q).Z,(zb b q).R,(zb b q).C,(zb b q).V,(zb b q).S,(zb b q).n0,x6.2.2,(zb b q).n2,(zb b q).n3,(zb b q).n4,(zb b q).n5)else(bif (decide (x2.2.1=yR))then(bif (decide (x2.2.1=yR))then(vG { (zb b q)with l:=b.l } yr).bind λx7=>aN (yS { (zb b q)with l:=b.l } (((bf ((zb b q).Z)):Nat):Int) 60) λx8=>aN (Aj { (zb b q)with l:=b.l,i:=x8 }) λx9=>aN (wM { (zb b q)with l:=b.l,i:=x9.2.1,n2:=x9.2.2 }) λx10=>aN (vc x10.1) λx11=>aN (j6 { (zb b q)with l:=b.l,i:=x10.2,n2:=x9.2.2 } x11 10) λx12=>aN (grd (bf ((zb b q).Z++([(yt.mk x9.1 x7 x10.1)]:List yt))*48<=140737488355328)) λ_=>yn b K (x12,(zb b q).H,(zb b q).h,(zb b q).D,(zb b q).T,((zb b q).Z++([(yt.mk x9.1 x7 x10.1)]:List yt)),(zb b q).R,(zb b q).C,(zb b q).V,(zb b q).S,(zb b q).n0,(zb b q).n1,x9.2.2,(zb b q).n3,(zb b q).n4,(zb b q).n5)else(bif (decide (x2.2.1=jN))then(yS { (zb b q)with l:=b.l } (((bf ((zb b q).R)):Nat):Int) 200).bind λx14=>aN (JB { (zb b q)with l:=b.l,i:=x14 }) λx15=>yn b K (x15.1,(zb b q).H,(zb b q).h,(zb b q).D,(zb b q).T,(zb b q).Z,x15.2.1,(zb b q).C,(zb b q).V,(zb b q).S,(zb b q).n0,(zb b q).n1,(zb b q).n2,x15.2.2,(zb b q).n4,(zb b q).n5)else(bif (decide (x2.2.1=Ko))then(yS { (zb b q)with l:=b.l } (((bf ((zb b q).C)):Nat):Int) 30).bind λx16=>aN (An { (zb b q)with l:=b.l,i:=x16 }) λx17=>aN (xy { (zb b q)with l:=b.l,i:=x17.2.1,n4:=x17.2.2 } zX) λx18=>aN (zk { (zb b q)with l:=b.l,i:=x18.2,n4:=x17.2.2 } 0 1099511627776) λx19=>aN (wM { (zb b q)with l:=b.l,i:=x19.2,n4:=x17.2.2 }) λx20=>aN (vc x20.1) λx21=>aN (j6 { (zb b q)with l:=b.l,i:=x20.2,n4:=x17.2.2 } x21 10) λx22=>aN (grd (bf ((zb b q).C++([(Cap.mk x17.1 x18.1 x19.1 x20.1)]:List Cap))*56<=140737488355328)) λ_=>yn b K (x22,(zb b q).H,(zb b q).h,(zb b q).D,(zb b q).T,(zb b q).Z,(zb b q).R,((zb b q).C++([(Cap.mk x17.1 x18.1 x19.1 x20.1)]:List Cap)),(zb b q).V,(zb b q).S,(zb b q).n0,(zb b q).n1,(zb b q).n2,(zb b q).n3,x17.2.2,(zb b q).n5)else(bif (decide (x2.2.1=ql))then(yS { (zb b q)with l:=b.l } (((bf ((zb b q).V)):Nat):Int) 60).bind λx24=>aN (JC { (zb b q)with l:=b.l,i:=x24 }) λx25=>yn b K (x25.1,(zb b q).H,(zb b q).h,(zb b q).D,(zb b q).T,(zb b q).Z,(zb b q).R,(zb b q).C,x25.2.1,(zb b q).S,(zb b q).n0,(zb b q).n1,(zb b q).n2,(zb b q).n3,(zb b q).n4,x25.2.2)else(bif (decide (x2.2.1=Af))then(zf { (zb b q)with l:=b.l } (decide (((bf ((zb b q).S)):Nat)=0)) 5).bind λ_=>aN (Vq { (zb b q)with l:=b.l,i:=(w64 ((zb b q).i+1)) }) λx27=>yn b K (x27.1,(zb b q).H,(zb b q).h,(zb b q).D,(zb b q).T,(zb b q).Z,(zb b q).R,(zb b q).C,(zb b q).V,x27.2,(zb b q).n0,(zb b q).n1,(zb b q).n2,(zb b q).n3,(zb b q).n4,(zb b q).n5)else(bif (decide (x2.2.1=vA))then(zf { (zb b q)with l:=b.l } (!(zb b q).h) 5).bind λ_=>aN (zk { (zb b q)with l:=b.l,i:=(w64 ((zb b q).i+1)) } 0 24) λx29=>aN (zA { (zb b q)with l:=b.l,i:=x29.2,H:=x29.1,h:=bg } yc) λx30=>yn b K (x30,x29.1,bg,(zb b q).D,(zb b q).T,(zb b q).Z,(zb b q).R,(zb b q).C,(zb b q).V,(zb b q).S,(zb b q).n0,(zb b q).n1,(zb b q).n2,(zb b q).n3,(zb b q).n4,(zb b q).n5)else bh))))))else(bif (decide (x2.2.1=yr))then(vG { (zb b q)with l:=b.l } yr).bind λx31=>aN (yS { (zb b q)with l:=b.l } (((bf ((zb b q).Z)):Nat):Int) 60) λx32=>aN (Aj { (zb b q)with l:=b.l,i:=x32 }) λx33=>aN (wM { (zb b q)with l:=b.l,i:=x33.2.1,n2:=x33.2.2 }) λx34=>aN (vc x34.1) λx35=>aN (j6 { (zb b q)with l:=b.l,i:=x34.2,n2:=x33.2.2 } x35 10) λx36=>aN (grd (bf ((zb b q).Z++([(yt.mk x33.1 x31 x34.1)]:List yt))*48<=140737488355328)) λ_=>yn b K (x36,(zb b q).H,(zb b q).h,(zb b q).D,(zb b q).T,((zb b q).Z++([(yt.mk x33.1 x31 x34.1)]:List yt)),(zb b q).R,(zb b q).C,(zb b q).V,(zb b q).S,(zb b q).n0,(zb b q).n1,x33.2.2,(zb b q).n3,(zb b q).n4,(zb b q).n5)else(bif (decide (x2.2.1=jN))then(yS { (zb b q)with l:=b.l } (((bf ((zb b q).R)):Nat):Int) 200).bind λx38=>aN (JB { (zb b q)with l:=b.l,i:=x38 }) λx39=>yn b K (x39.1,(zb b q).H,(zb b q).h,(zb b q).D,(zb b q).T,(zb b q).Z,x39.2.1,(zb b q).C,(zb b q).V,(zb b q).S,(zb b q).n0,(zb b q).n1,(zb b q).n2,x39.2.2,(zb b q).n4,(zb b q).n5)else(bif (decide (x2.2.1=Ko))then(yS { (zb b q)with l:=b.l } (((bf ((zb b q).C)):Nat):Int) 30).bind λx40=>aN (An { (zb b q)with l:=b.l,i:=x40 }) λx41=>aN (xy { (zb b q)with l:=b.l,i:=x41.2.1,n4:=x41.2.2 } zX) λx42=>aN (zk { (zb b q)with l:=b.l,i:=x42.2,n4:=x41.2.2 } 0 1099511627776) λx43=>aN (wM { (zb b q)with l:=b.l,i:=x43.2,n4:=x41.2.2 }) λx44=>aN (vc x44.1) λx45=>aN (j6 { (zb b q)with l:=b.l,i:=x44.2,n4:=x41.2.2 } x45 10) λx46=>aN (grd (bf ((zb b q).C++([(Cap.mk x41.1 x42.1 x43.1 x44.1)]:List Cap))*56<=140737488355328)) λ_=>yn b K (x46,(zb b q).H,(zb b q).h,(zb b q).D,(zb b q).T,(zb b q).Z,(zb b q).R,((zb b q).C++([(Cap.mk x41.1 x42.1 x43.1 x44.1)]:List Cap)),(zb b q).V,(zb b q).S,(zb b q).n0,(zb b q).n1,(zb b q).n2,(zb b q).n3,x41.2.2,(zb b q).n5)else(bif (decide (x2.2.1=ql))then(yS { (zb b q)with l:=b.l } (((bf ((zb b q).V)):Nat):Int) 60).bind λx48=>aN (JC { (zb b q)with l:=b.l,i:=x48 }) λx49=>yn b K (x49.1,(zb b q).H,(zb b q).h,(zb b q).D,(zb b q).T,(zb b q).Z,(zb b q).R,(zb b q).C,x49.2.1,(zb b q).S,(zb b q).n0,(zb b q).n1,(zb b q).n2,(zb b q).n3,(zb b q).n4,x49.2.2)else(bif (decide (x2.2.1=Af))then(zf { (zb b q)with l:=b.l } (decide (((bf ((zb b q).S)):Nat)=0)) 5).bind λ_=>aN (Vq { (zb b q)with l:=b.l,i:=(w64 ((zb b q).i+1)) }) λx51=>yn b K (x51.1,(zb b q).H,(zb b q).h,(zb b q).D,(zb b q).T,(zb b q).Z,(zb b q).R,(zb b q).C,(zb b q).V,x51.2,(zb b q).n0,(zb b q).n1,(zb b q).n2,(zb b q).n3,(zb b q).n4,(zb b q).n5)else(bif (decide (x2.2.1=vA))then(zf { (zb b q)with l:=b.l } (!(zb b q).h) 5).bind λ_=>aN (zk { (zb b q)with l:=b.l,i:=(w64 ((zb b q).i+1)) } 0 24) λx53=>aN (zA { (zb b q)with l:=b.l,i:=x53.2,H:=x53.1,h:=bg } yc) λx54=>yn b K (x54,x53.1,bg,(zb b q).D,(zb b q).T,(zb b q).Z,(zb b q).R,(zb b q).C,(zb b q).V,(zb b q).S,(zb b q).n0,(zb b q).n1,(zb b q).n2,(zb b q).n3,(zb b q).n4,(zb b q).n5)else bh)))))))))else bc ((zb b q).i,(zb b q).H,(zb b q).h,(zb b q).D,(zb b q).T,(zb b q).Z,(zb b q).R,(zb b q).C,(zb b q).V,(zb b q).S,(zb b q).n0,(zb b q).n1,(zb b q).n2,(zb b q).n3,(zb b q).n4,(zb b q).n5))
def zkq(b:BB):Option (Int×Int×Bool×(List Def)×(List au)×(List yt)×(List zO)×(List Cap)×(List av)×(List zg)×(List Mb8)×(List Mb8)×(List Mb8)×(List Mb8)×(List Mb8)×(List Mb8)) :=
 aN (yn { b with i:=0,D:=[],T:=[],Z:=[],R:=[],C:=[],V:=[],S:=[],H:=0,n0:=[],n1:=[],n2:=[],n3:=[],n4:=[],n5:=[],h:=bd } KK (b.i,b.H,b.h,b.D,b.T,b.Z,b.R,b.C,b.V,b.S,b.n0,b.n1,b.n2,b.n3,b.n4,b.n5)) λx1=>bc (x1.1,x1.2.1,x1.2.2.1,x1.2.2.2.1,x1.2.2.2.2.1,x1.2.2.2.2.2.1,x1.2.2.2.2.2.2.1,x1.2.2.2.2.2.2.2.1,x1.2.2.2.2.2.2.2.2.1,x1.2.2.2.2.2.2.2.2.2.1,x1.2.2.2.2.2.2.2.2.2.2.1,x1.2.2.2.2.2.2.2.2.2.2.2.1,x1.2.2.2.2.2.2.2.2.2.2.2.2.1,x1.2.2.2.2.2.2.2.2.2.2.2.2.2.1,x1.2.2.2.2.2.2.2.2.2.2.2.2.2.2.1,x1.2.2.2.2.2.2.2.2.2.2.2.2.2.2.2)
def HJ(b:BB)(err:Int):Option (Int×Int) :=
 aN (zo b) λx1=>bc (x1.2.2.2,err)
def zt(b:BB)(is:Bool)(err:Int):Option (Int×Int) :=
 (bif (!is)then(orC (HJ b err) (λx1=>bc x1) bh)else bh)
def jh(b:BB)(have_:Int)(most:Int):Option (Int×Int) :=
 (orC (zt b (decide (have_<most)) 6) (λx1=>bc x1) (aN (zf b (decide (have_<most)) 6) λ_=>bh))
def yX(b:BB):Option (Int×Int) :=
 aN (zJ b) λx1=>(orC (zt b x1 14) (λx2=>bc x2) (aN (zf b x1 14) λ_=>aN (idx b.l (w64 ((w64 (b.i+1))-1))) λ_=>bh))
def WR(b:BB):Option (Int×Int) :=
 aN (zJ b) λx1=>(orC (zt b x1 14) (λx2=>bc x2) (aN (zf b x1 14) λ_=>aN (zo b) λx4=>aN (Je b.n0) λx5=>(orC (zt { b with n0:=[x5] } (!((xn x4.2.1 x5).getD bd)) 5) (λx6=>bc x6) (aN (zf { b with n0:=[x5] } (!((xn x4.2.1 x5).getD bd)) 5) λ_=>aN (zo { b with n0:=[x5] }) λx8=>aN (Je [x5]) λx9=>(orC (yX { b with n0:=[oB x8.2.1 bg x9] }) (λx10=>bc x10) (aN (zL { b with n0:=[oB x8.2.1 bg x9] }) λ_=>bh))))))
def zkr(b:BB):Option (Int×Int) :=
 aN ((bif (dk b.n0)then bc ([([]:List (Bs8×Bool))]:List Mb8)else bc b.n0)) λx1=>(orC (WR { b with n0:=x1 }) (λx2=>bc x2) (aN (KF { b with n0:=x1 }) λ_=>bh))
def yk(b:BB)(s:Bs8):Option (Int×Int) :=
 aN (zD b s) λx1=>(orC (zt { b with i:=x1.2 } x1.1 14) (λx2=>bc x2) (aN (zf { b with i:=x1.2 } x1.1 14) λ_=>bh))
def zC(b:BB)(from_:Int)(to_:Int):Option (Int×Int) :=
 aN (yj b) λx1=>(orC (zt b x1 14) (λx2=>bc x2) (aN (zf b x1 14) λ_=>aN (zo b) λx4=>((bif (decide (x4.2.2.1>=from_))then(orC (zt b (decide (x4.2.2.1<=to_)) 3) (λx6=>bc (bp x6)) (aN (zf b (decide (x4.2.2.1<=to_)) 3) λ_=>bc (br ())))else(orC (zt b bd 3) (λx8=>bc (bp x8)) (aN (zf b bd 3) λ_=>bc (br ()))))).bind (xT bc λ_=>bh)))
def kW(b:BB)(c1:Int)(c17:Int)(c18:Int)(c19:List zd)(c20:Int)(c21:Int)(c22:Bs8)(c23:List Expr)(c24:Int)(c25:Int)(c26:Bs8)(c27:Bs8)(c28:List Expr):Nat->(Int×Bs8×Int×Int)->Option (Bs8×Int×Int)
 |0,_=>bh
 |K+1,q=>(bif (decide (q.1<c20))then(aN (idx c19 q.1) λx2=>aN (vG { b with i:=c1 } x2.text) λx3=>(bif x3 then bc (x2.text,x2.op,x2.form)else bc (q.2.1,q.2.2.1,q.2.2.2))).bind λx1=>kW b c1 c17 c18 c19 c20 c21 c22 c23 c24 c25 c26 c27 c28 K ((w64 (q.1+1)),x1.1,x1.2.1,x1.2.2)else bc (q.2.1,q.2.2.1,q.2.2.2))
def kX(r_p_q_expr_2:BB->Int->Option (Int×Int))(b:BB)(c16:Int)(c17:Int)(c18:Bs8)(c19:List Expr):Nat->(Int×Int×Int×Int×Bs8×Bs8×(List Expr))->Option ((Int×Int)⊕(Unit))
 |0,_=>bh
 |K+1,q=>aN wZ λx1=>aN (kW { b with i:=0 } q.1 c16 q.2.1 x1 (x1.length:Int) c17 c18 c19 q.2.2.1 q.2.2.2.1 q.2.2.2.2.1 q.2.2.2.2.2.1 q.2.2.2.2.2.2 KK (0,([]:Bs8),0,0)) λx2=>aN ((bif (decide (x2.1=([]:Bs8)))then bc bg else(bif (decide (x2.2.2<c16))then bc bg else(bif (decide (q.2.1<x2.2.2))then bc bg else(bif (decide (q.2.1=4))then bc (decide (x2.2.2=4))else bc bd))))) λx3=>(bif x3 then bh else(orC (r_p_q_expr_2 { b with i:=(w64 (q.1+1)) } (w64 (x2.2.2+1))) (λx4=>bc (bp x4)) (aN (yb KK { b with i:=(w64 (q.1+1)) } (w64 (x2.2.2+1))) λx5=>kX r_p_q_expr_2 b c16 c17 c18 c19 K (x5.1,x2.2.2,x2.2.1,0,([]:Bs8),([]:Bs8),([(Expr.mk q.2.2.1 q.2.2.2.1 q.2.2.2.2.1 q.2.2.2.2.2.1 q.2.2.2.2.2.2),(Expr.mk x5.2.1 x5.2.2.1 x5.2.2.2.1 x5.2.2.2.2.1 x5.2.2.2.2.2)]:List Expr)))))
mutual
def A0:Nat->BB->Int->Option (Int×Int)
 |0,_,_=>bh
 |RK+1,b,form=>aN ((bif (decide (form<=0))then(zD b WL).bind λx2=>bc (x2.2,x2.1)else bc (b.i,bd))) λx1=>(bif x1.2 then(orC (xz RK { b with i:=x1.1 } 0) (λx3=>bc x3) (aN (yb KK { b with i:=x1.1 } 0) λx4=>(orC (yk { b with i:=x4.1 } uR) (λx5=>bc x5) (aN (zA { b with i:=x4.1 } uR) λx6=>(orC (xz RK { b with i:=x6 } 0) (λx7=>bc x7) (aN (yb KK { b with i:=x6 } 0) λx8=>(orC (yk { b with i:=x8.1 } xh) (λx9=>bc x9) (aN (zA { b with i:=x8.1 } xh) λx10=>(orC (xz RK { b with i:=x10 } 0) (λx11=>bc x11) (aN (yb KK { b with i:=x10 } 0) λ_=>bh))))))))))else((bif (decide (form<=3))then(zD { b with i:=x1.1 } um).bind λx14=>bc (x14.2,x14.1)else bc (x1.1,bd))).bind λx13=>(bif x13.2 then(orC (xz RK { b with i:=x13.1 } 3) (λx15=>bc x15) (aN (yb KK { b with i:=x13.1 } 3) λ_=>bh))else((bif (decide (form<=7))then(zD { b with i:=x13.1 } xa).bind λx18=>bc (x18.2,x18.1)else bc (x13.1,bd))).bind λx17=>(bif x17.2 then(orC (xz RK { b with i:=x17.1 } 7) (λx19=>bc x19) (aN (yb KK { b with i:=x17.1 } 7) λ_=>bh))else(yj { b with i:=x17.1 }).bind λx21=>(bif x21 then(orC (zC { b with i:=x17.1 } 0 1099511627776) (λx22=>bc x22) (aN (zk { b with i:=x17.1 } 0 1099511627776) λ_=>bh))else(zD { b with i:=x17.1 } ym).bind λx24=>(bif x24.1 then(orC (yX { b with i:=x24.2 }) (λx25=>bc x25) (aN (zL { b with i:=x24.2 }) λx26=>(orC (yX { b with i:=x26.2 }) (λx27=>bc x27) (aN (zL { b with i:=x26.2 }) λ_=>bh))))else(zD { b with i:=x24.2 } yR).bind λx29=>(bif x29.1 then(orC (yX { b with i:=x29.2 }) (λx30=>bc x30) (aN (zL { b with i:=x29.2 }) λ_=>bh))else(zD { b with i:=x29.2 } AP).bind λx32=>(bif x32.1 then(orC (xz RK { b with i:=x32.2 } 0) (λx33=>bc x33) (aN (yb KK { b with i:=x32.2 } 0) λx34=>(orC (yk { b with i:=x34.1 } qu) (λx35=>bc x35) (aN (zA { b with i:=x34.1 } qu) λ_=>bh))))else(orC (yX { b with i:=x32.2 }) (λx37=>bc x37) (aN (zL { b with i:=x32.2 }) λ_=>bh)))))))))
def xz:Nat->BB->Int->Option (Int×Int)
 |0,_,_=>bh
 |RK+1,b,form=>(orC (A0 RK b form) (λx1=>bc x1) (aN (ur KK b form) λx2=>(kX (xz RK) { b with i:=0 } form 0 ([]:Bs8) [] KK (x2.2.1,x2.1,x2.2.2.1,x2.2.2.2.1,x2.2.2.2.2.1,x2.2.2.2.2.2.1,x2.2.2.2.2.2.2)).bind (xT bc λ_=>bh)))
end
def JD(b:BB)(is:Bool)(err:Int):Option (Int×Int) :=
 aN (vG b yc) λx1=>(orC (zt b x1 14) (λx2=>bc x2) (aN (zf b x1 14) λ_=>(orC (zt b is err) (λx4=>bc x4) (aN (zf b is err) λ_=>bh))))
def Qy(b:BB):Option (Int×Int) :=
 (orC (zkr b) (λx1=>bc x1) (aN (zdj b) λx2=>(orC (yk { b with i:=x2.2.1,n0:=x2.2.2 } AQ) (λx3=>bc x3) (aN (zA { b with i:=x2.2.1,n0:=x2.2.2 } AQ) λx4=>(orC (xz KK { b with i:=x4,n0:=x2.2.2 } 0) (λx5=>bc x5) (aN (yb KK { b with i:=x4,n0:=x2.2.2 } 0) λx6=>aN (jg KK (Expr.mk x6.2.1 x6.2.2.1 x6.2.2.2.1 x6.2.2.2.2.1 x6.2.2.2.2.2)) λx7=>(orC (JD { b with i:=x6.1,n0:=x2.2.2 } (decide (x7<=12)) 6) (λx8=>bc x8) (aN (j6 { b with i:=x6.1,n0:=x2.2.2 } (decide (x7<=12)) 6) λ_=>aN (grd (bf (b.D++([(Def.mk x2.1 (Expr.mk x6.2.1 x6.2.2.1 x6.2.2.2.1 x6.2.2.2.2.1 x6.2.2.2.2.2))]:List Def))*88<=140737488355328)) λ_=>bh))))))))
def JE(b:BB):Option (Int×Int) :=
 aN (zJ b) λx1=>(orC (zt b x1 14) (λx2=>bc x2) (aN (zf b x1 14) λ_=>aN (zo b) λx4=>aN (Je b.n1) λx5=>(orC (zt { b with n1:=[x5] } (!((xn x4.2.1 x5).getD bd)) 5) (λx6=>bc x6) (aN (zf { b with n1:=[x5] } (!((xn x4.2.1 x5).getD bd)) 5) λ_=>aN (zo { b with n1:=[x5] }) λx8=>aN (Je [x5]) λx9=>(orC (yX { b with n1:=[oB x8.2.1 bg x9] }) (λx10=>bc x10) (aN (zL { b with n1:=[oB x8.2.1 bg x9] }) λ_=>bh))))))
def WS(b:BB):Option (Int×Int) :=
 aN ((bif (dk b.n1)then bc ([([]:List (Bs8×Bool))]:List Mb8)else bc b.n1)) λx1=>(orC (JE { b with n1:=x1 }) (λx2=>bc x2) (aN (Ah { b with n1:=x1 }) λ_=>bh))
def yy(b:BB)(known:Mb8):Option (Int×Int) :=
 aN (zJ b) λx1=>(orC (zt b x1 14) (λx2=>bc x2) (aN (zf b x1 14) λ_=>aN (zo b) λx4=>(orC (zt b (!((xn x4.2.1 known).getD bd)) 5) (λx5=>bc x5) (aN (zf b (!((xn x4.2.1 known).getD bd)) 5) λ_=>aN (zo b) λ_=>(orC (yX b) (λx8=>bc x8) (aN (zL b) λ_=>bh))))))
def qA(b:BB)(most:Int):Option (Int×Int) :=
 aN (zD b xa) λx1=>(bif x1.1 then(orC (zC { b with i:=x1.2 } 0 most) (λx2=>bc x2) (aN (zk { b with i:=x1.2 } 0 most) λ_=>bh))else(orC (zC { b with i:=x1.2 } 0 most) (λx4=>bc x4) (aN (zk { b with i:=x1.2 } 0 most) λ_=>bh)))
def uv(b:BB)(c15:(List Mb8))(c16:Bs8)(c17:Int):Nat->(Int×Mb8×(List aw))->Option ((Int×Int)⊕(Int×(List aw)))
 |0,_=>bh
 |K+1,q=>aN (zJ { b with i:=q.1,n1:=c15 }) λx1=>(bif x1 then(orC (zt { b with i:=q.1,n1:=c15 } (decide ((((bf q.2.2):Nat):Int)<60)) 6) (λx2=>bc (bp x2)) (aN (zf { b with i:=q.1,n1:=c15 } (decide ((((bf q.2.2):Nat):Int)<60)) 6) λ_=>(orC (yy { b with i:=q.1,n1:=c15 } q.2.1) (λx4=>bc (bp x4)) (aN (yf { b with i:=q.1,n1:=c15 } q.2.1) λx5=>(orC (qA { b with i:=x5.2.1,n1:=c15 } 1099511627776) (λx6=>bc (bp x6)) (aN (wL { b with i:=x5.2.1,n1:=c15 } 1099511627776) λx7=>aN (grd (bf (q.2.2++([(aw.mk x5.1 x7.1)]:List aw))*24<=140737488355328)) λ_=>uv b c15 c16 c17 K (x7.2,x5.2.2,(q.2.2++([(aw.mk x5.1 x7.1)]:List aw)))))))))else bc (br (q.1,q.2.2)))
def WT(b:BB):Option (Int×Int) :=
 (orC (WS b) (λx1=>bc x1) (aN (KH b) λx2=>(uv { b with i:=0,n1:=[] } x2.2.2 x2.1 0 KK (x2.2.1,([]:List (Bs8×Bool)),([]:List aw))).bind (xT bc λx3=>(orC (yk { b with i:=x3.1,n1:=x2.2.2 } xh) (λx4=>bc x4) (aN (zA { b with i:=x3.1,n1:=x2.2.2 } xh) λx5=>(orC (qA { b with i:=x5,n1:=x2.2.2 } 1099511627776) (λx6=>bc x6) (aN (wL { b with i:=x5,n1:=x2.2.2 } 1099511627776) λx7=>(orC (yk { b with i:=x7.2,n1:=x2.2.2 } yc) (λx8=>bc x8) (aN (zA { b with i:=x7.2,n1:=x2.2.2 } yc) λ_=>aN (grd (bf (b.T++([(au.mk x2.1 x3.2 x7.1)]:List au))*48<=140737488355328)) λ_=>bh)))))))))
def JF(b:BB):Option (Int×Int) :=
 aN (zJ b) λx1=>(orC (zt b x1 14) (λx2=>bc x2) (aN (zf b x1 14) λ_=>aN (zo b) λx4=>aN (Je b.n2) λx5=>(orC (zt { b with n2:=[x5] } (!((xn x4.2.1 x5).getD bd)) 5) (λx6=>bc x6) (aN (zf { b with n2:=[x5] } (!((xn x4.2.1 x5).getD bd)) 5) λ_=>aN (zo { b with n2:=[x5] }) λx8=>aN (Je [x5]) λx9=>(orC (yX { b with n2:=[oB x8.2.1 bg x9] }) (λx10=>bc x10) (aN (zL { b with n2:=[oB x8.2.1 bg x9] }) λ_=>bh))))))
def KP(b:BB):Option (Int×Int) :=
 aN ((bif (dk b.n2)then bc ([([]:List (Bs8×Bool))]:List Mb8)else bc b.n2)) λx1=>(orC (JF { b with n2:=x1 }) (λx2=>bc x2) (aN (Ai { b with n2:=x1 }) λ_=>bh))
def kY(b:BB):Nat->(Int×(List zV))->Option ((Int×Int)⊕(Unit))
 |0,_=>bh
 |K+1,q=>(orC (zC { b with i:=q.1 } 0 1048576) (λx1=>bc (bp x1)) (aN (zk { b with i:=q.1 } 0 1048576) λx2=>(orC (zC { b with i:=x2.2 } 0 1048576) (λx3=>bc (bp x3)) (aN (zk { b with i:=x2.2 } 0 1048576) λx4=>aN (grd (bf (q.2++([(zV.mk x2.1 x4.1)]:List zV))*16<=140737488355328)) λ_=>aN (yj { b with i:=x4.2 }) λx6=>(bif (!x6)then bh else kY b K (x4.2,(q.2++([(zV.mk x2.1 x4.1)]:List zV))))))))
def qB(b:BB):Option (Int×Int) :=
 (kY { b with i:=0 } KK (b.i,[])).bind (xT bc λ_=>bh)
def JG(b:BB):Option (Int×Int) :=
 aN (zJ b) λx1=>(orC (zt b x1 14) (λx2=>bc x2) (aN (zf b x1 14) λ_=>aN (zo b) λx4=>aN (Je b.n3) λx5=>(orC (zt { b with n3:=[x5] } (!((xn x4.2.1 x5).getD bd)) 5) (λx6=>bc x6) (aN (zf { b with n3:=[x5] } (!((xn x4.2.1 x5).getD bd)) 5) λ_=>aN (zo { b with n3:=[x5] }) λx8=>aN (Je [x5]) λx9=>(orC (yX { b with n3:=[oB x8.2.1 bg x9] }) (λx10=>bc x10) (aN (zL { b with n3:=[oB x8.2.1 bg x9] }) λ_=>bh))))))
def WU(b:BB):Option (Int×Int) :=
 aN ((bif (dk b.n3)then bc ([([]:List (Bs8×Bool))]:List Mb8)else bc b.n3)) λx1=>(orC (JG { b with n3:=x1 }) (λx2=>bc x2) (aN (Ak { b with n3:=x1 }) λ_=>bh))
def Aq(b:BB):Nat->(Int×(List Bs8))->Option ((Int×Int)⊕(Int×(List Bs8)))
 |0,_=>bh
 |K+1,q=>aN (zJ { b with i:=q.1 }) λx1=>(bif x1 then(orC (yX { b with i:=q.1 }) (λx2=>bc (bp x2)) (aN (zL { b with i:=q.1 }) λx3=>aN (grd (bf (q.2++([x3.1]:List Bs8))*16<=140737488355328)) λ_=>Aq b K (x3.2,(q.2++([x3.1]:List Bs8)))))else bc (br (q.1,q.2)))
def JH(b:BB):Option (Int×Int) :=
 (orC (yX b) (λx1=>bc x1) (aN (zL b) λx2=>(Aq { b with i:=0 } KK (x2.2,([x2.1]:List Bs8))).bind (xT bc λx3=>bh)))
def ji(b:BB)(list:Bs8):Option (Int×Int) :=
 aN (zo b) λx1=>aN (Vp list x1.2.1) λx2=>(aN (zo b) λx4=>(bif (decide (x4.1=0))then(orC (zt b (decide (x2>=0)) 14) (λx5=>bc (bp x5)) (aN (zf b (decide (x2>=0)) 14) λ_=>bc (br ())))else(orC (zt b bd 14) (λx7=>bc (bp x7)) (aN (zf b bd 14) λ_=>bc (br ()))))).bind (xT bc λ_=>bh)
def HK(b:BB):Nat->(Int×Int)->Option ((Int×Int)⊕(Unit))
 |0,_=>bh
 | K+1,q=>aN (zo { b with i:=q.1 }) λx1=>aN (Vp zj x1.2.1) λx2=>aN ((bif (decide (q.2>0))then(bif (decide (x2<0))then bc bg else(zo { b with i:=q.1 }).bind λx4=>bc (!(decide (x4.1=0))))else bc bd)) λx3=>(bif x3 then bh else((bif (decide (x2<0))then(orC (zt { b with i:=q.1 } bg 5) (λx6=>bc (bp x6)) (aN (zf { b with i:=q.1 } bg 5) λ_=>bc (br ())))else(grd (0<=x2)).bind λ_=>(orC (zt { b with i:=q.1 } (decide ((IntKind.i64.wrap ((cv IntKind.i64.bits (gX q.2 (2 ^ (min (bX x2) IntKind.i64.bits))) &&& cv IntKind.i64.bits 1).toNat:Int))=0)) 5) (λx9=>bc (bp x9)) (aN (zf { b with i:=q.1 } (decide ((IntKind.i64.wrap ((cv IntKind.i64.bits (gX q.2 (2 ^ (min (bX x2) IntKind.i64.bits))) &&& cv IntKind.i64.bits 1).toNat:Int))=0)) 5) λ_=>bc (br ()))))).bind (xT (λq=>bc (bp q)) λ_=>(orC (ji { b with i:=q.1 } zj) (λx11=>bc (bp x11)) (aN (xy { b with i:=q.1 } zj) λx12=>aN (grd (0<=x12.1)) λ_=>HK b K (x12.2,(IntKind.i64.wrap ((cv IntKind.i64.bits q.2 ||| cv IntKind.i64.bits (w64 (1*2 ^ (min (bX x12.1) IntKind.i64.bits)))).toNat:Int)))))))
def zks(b:BB):Option (Int×Int) :=
 (HK { b with i:=0 } KK (b.i,0)).bind (xT bc λ_=>bh)
def WV(b:BB):Option (Int×Int) :=
 (orC (WU b) (λx1=>bc x1) (aN (KJ b) λx2=>(aN (zD { b with i:=x2.2.1,n3:=x2.2.2 } zft) λx4=>(bif x4.1 then(orC (JH { b with i:=x4.2,n3:=x2.2.2 }) (λx5=>bc (bp x5)) (aN (u6 { b with i:=x4.2,n3:=x2.2.2 }) λx6=>bc (br (x6.2,x6.1))))else bc (br (x4.2,[])))).bind (xT bc λx3=>(aN (zD { b with i:=x3.1,n3:=x2.2.2 } xe) λx8=>(bif x8.1 then(orC (JH { b with i:=x8.2,n3:=x2.2.2 }) (λx9=>bc (bp x9)) (aN (u6 { b with i:=x8.2,n3:=x2.2.2 }) λx10=>bc (br (x10.2,x10.1))))else bc (br (x8.2,[])))).bind (xT bc λx7=>(aN (zD { b with i:=x7.1,n3:=x2.2.2 } vE) λx12=>(bif x12.1 then(orC (zC { b with i:=x12.2,n3:=x2.2.2 } 0 1073741824) (λx13=>bc (bp x13)) (aN (zk { b with i:=x12.2,n3:=x2.2.2 } 0 1073741824) λx14=>bc (br (x14.2,x14.1))))else bc (br (x12.2,0)))).bind (xT bc λx11=>(aN (zD { b with i:=x11.1,n3:=x2.2.2 } xK) λx16=>(bif x16.1 then(orC (zC { b with i:=x16.2,n3:=x2.2.2 } (w64 (x11.2+1)) 1073741824) (λx17=>bc (bp x17)) (aN (zk { b with i:=x16.2,n3:=x2.2.2 } (w64 (x11.2+1)) 1073741824) λx18=>bc (br (x18.2,x18.1))))else bc (br (x16.2,0)))).bind (xT bc λx15=>(aN (zD { b with i:=x15.1,n3:=x2.2.2 } xW) λx20=>(bif x20.1 then(orC (zC { b with i:=x20.2,n3:=x2.2.2 } 0 1073741824) (λx21=>bc (bp x21)) (aN (zk { b with i:=x20.2,n3:=x2.2.2 } 0 1073741824) λx22=>bc (br (x22.2,x22.1))))else bc (br (x20.2,0)))).bind (xT bc λx19=>aN (zD { b with i:=x19.1,n3:=x2.2.2 } wB) λx23=>(orC (yk { b with i:=x23.2,n3:=x2.2.2 } xQ) (λx24=>bc x24) (aN (zA { b with i:=x23.2,n3:=x2.2.2 } xQ) λx25=>(aN (zD { b with i:=x25,n3:=x2.2.2 } qt) λx27=>(bif x27.1 then(orC (zC { b with i:=x27.2,n3:=x2.2.2 } 0 3) (λx28=>bc (bp x28)) (aN (zk { b with i:=x27.2,n3:=x2.2.2 } 0 3) λx29=>(orC (yk { b with i:=x29.2,n3:=x2.2.2 } AX) (λx30=>bc (bp x30)) (aN (zA { b with i:=x29.2,n3:=x2.2.2 } AX) λx31=>(orC (zC { b with i:=x31,n3:=x2.2.2 } 0 4096) (λx32=>bc (bp x32)) (aN (zk { b with i:=x31,n3:=x2.2.2 } 0 4096) λx33=>(orC (yk { b with i:=x33.2,n3:=x2.2.2 } jH) (λx34=>bc (bp x34)) (aN (zA { b with i:=x33.2,n3:=x2.2.2 } jH) λx35=>(orC (zC { b with i:=x35,n3:=x2.2.2 } 0 4096) (λx36=>bc (bp x36)) (aN (zk { b with i:=x35,n3:=x2.2.2 } 0 4096) λx37=>(orC (zC { b with i:=x37.2,n3:=x2.2.2 } 1 4096) (λx38=>bc (bp x38)) (aN (zk { b with i:=x37.2,n3:=x2.2.2 } 1 4096) λx39=>(orC (yk { b with i:=x39.2,n3:=x2.2.2 } yc) (λx40=>bc (bp x40)) (aN (zA { b with i:=x39.2,n3:=x2.2.2 } yc) λx41=>bc (br (x41,1,0,0,([]:Bs8),([]:Bs8),[],x29.1,x33.1,x37.1,x39.1,0,0,0))))))))))))))))else(zD { b with i:=x27.2,n3:=x2.2.2 } Ag).bind λx42=>(bif x42.1 then(orC (zks { b with i:=x42.2,n3:=x2.2.2 }) (λx43=>bc (bp x43)) (aN (zdl { b with i:=x42.2,n3:=x2.2.2 }) λx44=>(orC (yk { b with i:=x44.2,n3:=x2.2.2 } yc) (λx45=>bc (bp x45)) (aN (zA { b with i:=x44.2,n3:=x2.2.2 } yc) λx46=>bc (br (x46,2,0,0,([]:Bs8),([]:Bs8),[],0,0,0,0,x44.1,0,0))))))else(zD { b with i:=x42.2,n3:=x2.2.2 } qs).bind λx47=>(bif x47.1 then(orC (ji { b with i:=x47.2,n3:=x2.2.2 } zj) (λx48=>bc (bp x48)) (aN (xy { b with i:=x47.2,n3:=x2.2.2 } zj) λx49=>(orC (ji { b with i:=x49.2,n3:=x2.2.2 } zj) (λx50=>bc (bp x50)) (aN (xy { b with i:=x49.2,n3:=x2.2.2 } zj) λx51=>(orC (zC { b with i:=x51.2,n3:=x2.2.2 } 0 1048576) (λx52=>bc (bp x52)) (aN (zk { b with i:=x51.2,n3:=x2.2.2 } 0 1048576) λx53=>(orC (yk { b with i:=x53.2,n3:=x2.2.2 } yc) (λx54=>bc (bp x54)) (aN (zA { b with i:=x53.2,n3:=x2.2.2 } yc) λx55=>bc (br (x55,3,0,0,([]:Bs8),([]:Bs8),[],0,0,0,0,x49.1,x51.1,x53.1))))))))))else(orC (xz KK { b with i:=x47.2,n3:=x2.2.2 } 0) (λx56=>bc (bp x56)) (aN (yb KK { b with i:=x47.2,n3:=x2.2.2 } 0) λx57=>aN (jg KK (Expr.mk x57.2.1 x57.2.2.1 x57.2.2.2.1 x57.2.2.2.2.1 x57.2.2.2.2.2)) λx58=>(orC (JD { b with i:=x57.1,n3:=x2.2.2 } (decide (x58<=12)) 6) (λx59=>bc (bp x59)) (aN (j6 { b with i:=x57.1,n3:=x2.2.2 } (decide (x58<=12)) 6) λx60=>bc (br (x60,0,x57.2.1,x57.2.2.1,x57.2.2.2.1,x57.2.2.2.2.1,x57.2.2.2.2.2,0,0,0,0,0,0,0)))))))))).bind (xT bc λx26=>aN (grd (bf (b.R++([(zO.mk x2.1 x3.2 x7.2 x11.2 x15.2 x19.2 x23.1 x26.2.1 (Expr.mk x26.2.2.1 x26.2.2.2.1 x26.2.2.2.2.1 x26.2.2.2.2.2.1 x26.2.2.2.2.2.2.1) (zy.mk x26.2.2.2.2.2.2.2.1 x26.2.2.2.2.2.2.2.2.1 x26.2.2.2.2.2.2.2.2.2.1 x26.2.2.2.2.2.2.2.2.2.2.1) x26.2.2.2.2.2.2.2.2.2.2.2.1 x26.2.2.2.2.2.2.2.2.2.2.2.2.1 x26.2.2.2.2.2.2.2.2.2.2.2.2.2)]:List zO))*232<=140737488355328)) λ_=>bh))))))))))
def JI(b:BB):Option (Int×Int) :=
 aN (zJ b) λx1=>(orC (zt b x1 14) (λx2=>bc x2) (aN (zf b x1 14) λ_=>aN (zo b) λx4=>aN (Je b.n4) λx5=>(orC (zt { b with n4:=[x5] } (!((xn x4.2.1 x5).getD bd)) 5) (λx6=>bc x6) (aN (zf { b with n4:=[x5] } (!((xn x4.2.1 x5).getD bd)) 5) λ_=>aN (zo { b with n4:=[x5] }) λx8=>aN (Je [x5]) λx9=>(orC (yX { b with n4:=[oB x8.2.1 bg x9] }) (λx10=>bc x10) (aN (zL { b with n4:=[oB x8.2.1 bg x9] }) λ_=>bh))))))
def KQ(b:BB):Option (Int×Int) :=
 aN ((bif (dk b.n4)then bc ([([]:List (Bs8×Bool))]:List Mb8)else bc b.n4)) λx1=>(orC (JI { b with n4:=x1 }) (λx2=>bc x2) (aN (Am { b with n4:=x1 }) λ_=>bh))
def JJ(b:BB):Option (Int×Int) :=
 aN (zJ b) λx1=>(orC (zt b x1 14) (λx2=>bc x2) (aN (zf b x1 14) λ_=>aN (zo b) λx4=>aN (Je b.n5) λx5=>(orC (zt { b with n5:=[x5] } (!((xn x4.2.1 x5).getD bd)) 5) (λx6=>bc x6) (aN (zf { b with n5:=[x5] } (!((xn x4.2.1 x5).getD bd)) 5) λ_=>aN (zo { b with n5:=[x5] }) λx8=>aN (Je [x5]) λx9=>(orC (yX { b with n5:=[oB x8.2.1 bg x9] }) (λx10=>bc x10) (aN (zL { b with n5:=[oB x8.2.1 bg x9] }) λ_=>bh))))))
def WW(b:BB):Option (Int×Int) :=
 aN ((bif (dk b.n5)then bc ([([]:List (Bs8×Bool))]:List Mb8)else bc b.n5)) λx1=>(orC (JJ { b with n5:=x1 }) (λx2=>bc x2) (aN (Ao { b with n5:=x1 }) λ_=>bh))
def HM(b:BB):Option (Int×Int) :=
 (orC (zC b 0 1048576) (λx1=>bc x1) (aN (zk b 0 1048576) λx2=>(orC (zC { b with i:=x2.2 } 0 1048576) (λx3=>bc x3) (aN (zk { b with i:=x2.2 } 0 1048576) λx4=>(orC (zC { b with i:=x4.2 } 0 4096) (λx5=>bc x5) (aN (zk { b with i:=x4.2 } 0 4096) λ_=>bh))))))
def Ar(b:BB)(c15:(List Mb8))(c16:Bs8)(c17:Int)(c18:Int)(c19:Int)(c20:Int):Nat->(Int×(List zg))->Option ((Int×Int)⊕(Int×(List zg)))
 |0,_=>bh
 |K+1,q=>aN (yj { b with i:=q.1,n5:=c15 }) λx1=>(bif x1 then(orC (zt { b with i:=q.1,n5:=c15 } (decide ((((bf q.2):Nat):Int)<20)) 6) (λx2=>bc (bp x2)) (aN (zf { b with i:=q.1,n5:=c15 } (decide ((((bf q.2):Nat):Int)<20)) 6) λ_=>(orC (HM { b with i:=q.1,n5:=c15 }) (λx4=>bc (bp x4)) (aN (kV { b with i:=q.1,n5:=c15 }) λx5=>aN (grd (bf (q.2++([(zg.mk x5.2.1 x5.2.2.1 x5.2.2.2)]:List zg))*24<=140737488355328)) λ_=>Ar b c15 c16 c17 c18 c19 c20 K (x5.1,(q.2++([(zg.mk x5.2.1 x5.2.2.1 x5.2.2.2)]:List zg)))))))else bc (br (q.1,q.2)))
def WX(b:BB):Option (Int×Int) :=
 (orC (WW b) (λx1=>bc x1) (aN (KO b) λx2=>(orC (HM { b with i:=x2.2.1,n5:=x2.2.2 }) (λx3=>bc x3) (aN (kV { b with i:=x2.2.1,n5:=x2.2.2 }) λx4=>(orC (yk { b with i:=x4.1,n5:=x2.2.2 } vO) (λx5=>bc x5) (aN (zA { b with i:=x4.1,n5:=x2.2.2 } vO) λx6=>(orC (zC { b with i:=x6,n5:=x2.2.2 } 0 20) (λx7=>bc x7) (aN (zk { b with i:=x6,n5:=x2.2.2 } 0 20) λx8=>(orC (yk { b with i:=x8.2,n5:=x2.2.2 } xQ) (λx9=>bc x9) (aN (zA { b with i:=x8.2,n5:=x2.2.2 } xQ) λx10=>(orC (HM { b with i:=x10,n5:=x2.2.2 }) (λx11=>bc x11) (aN (kV { b with i:=x10,n5:=x2.2.2 }) λx12=>aN (grd (bf (([]:List zg)++([(zg.mk x12.2.1 x12.2.2.1 x12.2.2.2)]:List zg))*24<=140737488355328)) λ_=>(Ar { b with i:=0,n5:=[] } x2.2.2 x2.1 x4.2.1 x4.2.2.1 x4.2.2.2 x8.1 KK (x12.1,(([]:List zg)++([(zg.mk x12.2.1 x12.2.2.1 x12.2.2.2)]:List zg)))).bind (xT bc λx14=>(orC (yk { b with i:=x14.1,n5:=x2.2.2 } yc) (λx15=>bc x15) (aN (zA { b with i:=x14.1,n5:=x2.2.2 } yc) λ_=>aN (grd (bf (b.V++([(av.mk x2.1 (zg.mk x4.2.1 x4.2.2.1 x4.2.2.2) x8.1 x14.2)]:List av))*72<=140737488355328)) λ_=>bh)))))))))))))))
def oM(b:BB):Nat->(Int×(List zg)×Bool)->Option ((Int×Int)⊕(Int×(List zg)))
 |0,_=>bh
 |K+1,q=>(bif q.2.2 then(aN (vG { b with i:=q.1,S:=q.2.1 } xa) λx2=>(bif x2 then(orC (zt { b with i:=q.1,S:=q.2.1 } bg 14) (λx3=>bc (bp x3)) (aN (zf { b with i:=q.1,S:=q.2.1 } bg 14) λ_=>bc (br ())))else(yj { b with i:=q.1,S:=q.2.1 }).bind λx5=>(orC (zt { b with i:=q.1,S:=q.2.1 } x5 14) (λx6=>bc (bp x6)) (aN (zf { b with i:=q.1,S:=q.2.1 } x5 14) λ_=>bc (br ()))))).bind (xT (λq=>bc (bp q)) λ_=>(orC (zt { b with i:=q.1,S:=q.2.1 } (decide ((((bf q.2.1):Nat):Int)<24)) 6) (λx8=>bc (bp x8)) (aN (zf { b with i:=q.1,S:=q.2.1 } (decide ((((bf q.2.1):Nat):Int)<24)) 6) λ_=>(orC (qA { b with i:=q.1,S:=q.2.1 } 4096) (λx10=>bc (bp x10)) (aN (wL { b with i:=q.1,S:=q.2.1 } 4096) λx11=>(orC (qA { b with i:=x11.2,S:=q.2.1 } 4096) (λx12=>bc (bp x12)) (aN (wL { b with i:=x11.2,S:=q.2.1 } 4096) λx13=>(orC (zC { b with i:=x13.2,S:=q.2.1 } 1 4096) (λx14=>bc (bp x14)) (aN (zk { b with i:=x13.2,S:=q.2.1 } 1 4096) λx15=>aN (grd (bf (q.2.1++([(zg.mk x11.1 x13.1 x15.1)]:List zg))*24<=140737488355328)) λ_=>aN (zD { b with i:=x15.2,S:=(q.2.1++([(zg.mk x11.1 x13.1 x15.1)]:List zg)) } kP) λx17=>oM b K (x17.2,(q.2.1++([(zg.mk x11.1 x13.1 x15.1)]:List zg)),x17.1))))))))))else bc (br (q.1,q.2.1)))
def zdm(b:BB):Option (Int×Int) :=
 (oM { b with i:=0,S:=[] } KK (b.i,b.S,bg)).bind (xT bc λx1=>(orC (yk { b with i:=x1.1,S:=x1.2 } yc) (λx2=>bc x2) (aN (zA { b with i:=x1.1,S:=x1.2 } yc) λ_=>bh)))
def za(b:BB)(q:Int×Int×Bool×(List Def)×(List au)×(List yt)×(List zO)×(List Cap)×(List av)×(List zg)×(List Mb8)×(List Mb8)×(List Mb8)×(List Mb8)×(List Mb8)×(List Mb8)):BB:={ b with i:=q.1,H:=q.2.1,h:=q.2.2.1,D:=q.2.2.2.1,T:=q.2.2.2.2.1,Z:=q.2.2.2.2.2.1,R:=q.2.2.2.2.2.2.1,C:=q.2.2.2.2.2.2.2.1,V:=q.2.2.2.2.2.2.2.2.1,S:=q.2.2.2.2.2.2.2.2.2.1,n0:=q.2.2.2.2.2.2.2.2.2.2.1,n1:=q.2.2.2.2.2.2.2.2.2.2.2.1,n2:=q.2.2.2.2.2.2.2.2.2.2.2.2.1,n3:=q.2.2.2.2.2.2.2.2.2.2.2.2.2.1,n4:=q.2.2.2.2.2.2.2.2.2.2.2.2.2.2.1,n5:=q.2.2.2.2.2.2.2.2.2.2.2.2.2.2.2 }
def yo(b:BB):Nat->(Int×Int×Bool×(List Def)×(List au)×(List yt)×(List zO)×(List Cap)×(List av)×(List zg)×(List Mb8)×(List Mb8)×(List Mb8)×(List Mb8)×(List Mb8)×(List Mb8))->Option ((Int×Int)⊕(Int×Int×Bool×(List Def)×(List au)×(List yt)×(List zO)×(List Cap)×(List av)×(List zg)×(List Mb8)×(List Mb8)×(List Mb8)×(List Mb8)×(List Mb8)×(List Mb8)))
 |0,_=>bh
 |K+1,q=>aN (zo { (za b q)with l:=b.l }) λx1=>(bif (!(decide (x1.1=3)))then(zo { (za b q)with l:=b.l }).bind λx2=>(bif (decide (x2.2.1=xJ))then(orC (jh { (za b q)with l:=b.l } (((bf ((za b q).D)):Nat):Int) 60) (λx3=>bc (bp x3)) (aN (yS { (za b q)with l:=b.l } (((bf ((za b q).D)):Nat):Int) 60) λx4=>(orC (Qy { (za b q)with l:=b.l,i:=x4 }) (λx5=>bc (bp x5)) (aN (HH { (za b q)with l:=b.l,i:=x4 }) λx6=>yo b K (x6.1,(za b q).H,(za b q).h,x6.2.1,(za b q).T,(za b q).Z,(za b q).R,(za b q).C,(za b q).V,(za b q).S,x6.2.2,(za b q).n1,(za b q).n2,(za b q).n3,(za b q).n4,(za b q).n5)))))else(bif (decide (x2.2.1=ym))then(orC (jh { (za b q)with l:=b.l } (((bf ((za b q).T)):Nat):Int) 60) (λx7=>bc (bp x7)) (aN (yS { (za b q)with l:=b.l } (((bf ((za b q).T)):Nat):Int) 60) λx8=>(orC (WT { (za b q)with l:=b.l,i:=x8 }) (λx9=>bc (bp x9)) (aN (KI { (za b q)with l:=b.l,i:=x8 }) λx10=>yo b K (x10.1,(za b q).H,(za b q).h,(za b q).D,x10.2.1,(za b q).Z,(za b q).R,(za b q).C,(za b q).V,(za b q).S,(za b q).n0,x10.2.2,(za b q).n2,(za b q).n3,(za b q).n4,(za b q).n5)))))else(bif (decide (x2.2.1=yR))then(bif (decide (x2.2.1=yR))then(vG { (za b q)with l:=b.l } yr).bind λx11=>(orC (jh { (za b q)with l:=b.l } (((bf ((za b q).Z)):Nat):Int) 60) (λx12=>bc (bp x12)) (aN (yS { (za b q)with l:=b.l } (((bf ((za b q).Z)):Nat):Int) 60) λx13=>(orC (KP { (za b q)with l:=b.l,i:=x13 }) (λx14=>bc (bp x14)) (aN (Aj { (za b q)with l:=b.l,i:=x13 }) λx15=>(orC (qB { (za b q)with l:=b.l,i:=x15.2.1,n2:=x15.2.2 }) (λx16=>bc (bp x16)) (aN (wM { (za b q)with l:=b.l,i:=x15.2.1,n2:=x15.2.2 }) λx17=>aN (vc x17.1) λx18=>(orC (JD { (za b q)with l:=b.l,i:=x17.2,n2:=x15.2.2 } x18 10) (λx19=>bc (bp x19)) (aN (j6 { (za b q)with l:=b.l,i:=x17.2,n2:=x15.2.2 } x18 10) λx20=>aN (grd (bf ((za b q).Z++([(yt.mk x15.1 x11 x17.1)]:List yt))*48<=140737488355328)) λ_=>yo b K (x20,(za b q).H,(za b q).h,(za b q).D,(za b q).T,((za b q).Z++([(yt.mk x15.1 x11 x17.1)]:List yt)),(za b q).R,(za b q).C,(za b q).V,(za b q).S,(za b q).n0,(za b q).n1,x15.2.2,(za b q).n3,(za b q).n4,(za b q).n5)))))))))else(bif (decide (x2.2.1=jN))then(orC (jh { (za b q)with l:=b.l } (((bf ((za b q).R)):Nat):Int) 200) (λx22=>bc (bp x22)) (aN (yS { (za b q)with l:=b.l } (((bf ((za b q).R)):Nat):Int) 200) λx23=>(orC (WV { (za b q)with l:=b.l,i:=x23 }) (λx24=>bc (bp x24)) (aN (JB { (za b q)with l:=b.l,i:=x23 }) λx25=>yo b K (x25.1,(za b q).H,(za b q).h,(za b q).D,(za b q).T,(za b q).Z,x25.2.1,(za b q).C,(za b q).V,(za b q).S,(za b q).n0,(za b q).n1,(za b q).n2,x25.2.2,(za b q).n4,(za b q).n5)))))else(bif (decide (x2.2.1=Ko))then(orC (jh { (za b q)with l:=b.l } (((bf ((za b q).C)):Nat):Int) 30) (λx26=>bc (bp x26)) (aN (yS { (za b q)with l:=b.l } (((bf ((za b q).C)):Nat):Int) 30) λx27=>(orC (KQ { (za b q)with l:=b.l,i:=x27 }) (λx28=>bc (bp x28)) (aN (An { (za b q)with l:=b.l,i:=x27 }) λx29=>(orC (ji { (za b q)with l:=b.l,i:=x29.2.1,n4:=x29.2.2 } zX) (λx30=>bc (bp x30)) (aN (xy { (za b q)with l:=b.l,i:=x29.2.1,n4:=x29.2.2 } zX) λx31=>(orC (zC { (za b q)with l:=b.l,i:=x31.2,n4:=x29.2.2 } 0 1099511627776) (λx32=>bc (bp x32)) (aN (zk { (za b q)with l:=b.l,i:=x31.2,n4:=x29.2.2 } 0 1099511627776) λx33=>(orC (qB { (za b q)with l:=b.l,i:=x33.2,n4:=x29.2.2 }) (λx34=>bc (bp x34)) (aN (wM { (za b q)with l:=b.l,i:=x33.2,n4:=x29.2.2 }) λx35=>aN (vc x35.1) λx36=>(orC (JD { (za b q)with l:=b.l,i:=x35.2,n4:=x29.2.2 } x36 10) (λx37=>bc (bp x37)) (aN (j6 { (za b q)with l:=b.l,i:=x35.2,n4:=x29.2.2 } x36 10) λx38=>aN (grd (bf ((za b q).C++([(Cap.mk x29.1 x31.1 x33.1 x35.1)]:List Cap))*56<=140737488355328)) λ_=>yo b K (x38,(za b q).H,(za b q).h,(za b q).D,(za b q).T,(za b q).Z,(za b q).R,((za b q).C++([(Cap.mk x29.1 x31.1 x33.1 x35.1)]:List Cap)),(za b q).V,(za b q).S,(za b q).n0,(za b q).n1,(za b q).n2,(za b q).n3,x29.2.2,(za b q).n5)))))))))))))else(bif (decide (x2.2.1=ql))then(orC (jh { (za b q)with l:=b.l } (((bf ((za b q).V)):Nat):Int) 60) (λx40=>bc (bp x40)) (aN (yS { (za b q)with l:=b.l } (((bf ((za b q).V)):Nat):Int) 60) λx41=>(orC (WX { (za b q)with l:=b.l,i:=x41 }) (λx42=>bc (bp x42)) (aN (JC { (za b q)with l:=b.l,i:=x41 }) λx43=>yo b K (x43.1,(za b q).H,(za b q).h,(za b q).D,(za b q).T,(za b q).Z,(za b q).R,(za b q).C,x43.2.1,(za b q).S,(za b q).n0,(za b q).n1,(za b q).n2,(za b q).n3,(za b q).n4,x43.2.2)))))else(bif (decide (x2.2.1=Af))then(orC (zt { (za b q)with l:=b.l } (decide (((bf ((za b q).S)):Nat)=0)) 5) (λx44=>bc (bp x44)) (aN (zf { (za b q)with l:=b.l } (decide (((bf ((za b q).S)):Nat)=0)) 5) λ_=>(orC (zdm { (za b q)with l:=b.l,i:=(w64 ((za b q).i+1)) }) (λx46=>bc (bp x46)) (aN (Vq { (za b q)with l:=b.l,i:=(w64 ((za b q).i+1)) }) λx47=>yo b K (x47.1,(za b q).H,(za b q).h,(za b q).D,(za b q).T,(za b q).Z,(za b q).R,(za b q).C,(za b q).V,x47.2,(za b q).n0,(za b q).n1,(za b q).n2,(za b q).n3,(za b q).n4,(za b q).n5)))))else(bif (decide (x2.2.1=vA))then(orC (zt { (za b q)with l:=b.l } (!(za b q).h) 5) (λx48=>bc (bp x48)) (aN (zf { (za b q)with l:=b.l } (!(za b q).h) 5) λ_=>(orC (zC { (za b q)with l:=b.l,i:=(w64 ((za b q).i+1)) } 0 24) (λx50=>bc (bp x50)) (aN (zk { (za b q)with l:=b.l,i:=(w64 ((za b q).i+1)) } 0 24) λx51=>(orC (yk { (za b q)with l:=b.l,i:=x51.2,H:=x51.1,h:=bg } yc) (λx52=>bc (bp x52)) (aN (zA { (za b q)with l:=b.l,i:=x51.2,H:=x51.1,h:=bg } yc) λx53=>yo b K (x53,x51.1,bg,(za b q).D,(za b q).T,(za b q).Z,(za b q).R,(za b q).C,(za b q).V,(za b q).S,(za b q).n0,(za b q).n1,(za b q).n2,(za b q).n3,(za b q).n4,(za b q).n5)))))))else(orC (HJ { (za b q)with l:=b.l } 14) (λx54=>bc (bp x54)) bh)))))))else(bif (decide (x2.2.1=yr))then(vG { (za b q)with l:=b.l } yr).bind λx55=>(orC (jh { (za b q)with l:=b.l } (((bf ((za b q).Z)):Nat):Int) 60) (λx56=>bc (bp x56)) (aN (yS { (za b q)with l:=b.l } (((bf ((za b q).Z)):Nat):Int) 60) λx57=>(orC (KP { (za b q)with l:=b.l,i:=x57 }) (λx58=>bc (bp x58)) (aN (Aj { (za b q)with l:=b.l,i:=x57 }) λx59=>(orC (qB { (za b q)with l:=b.l,i:=x59.2.1,n2:=x59.2.2 }) (λx60=>bc (bp x60)) (aN (wM { (za b q)with l:=b.l,i:=x59.2.1,n2:=x59.2.2 }) λx61=>aN (vc x61.1) λx62=>(orC (JD { (za b q)with l:=b.l,i:=x61.2,n2:=x59.2.2 } x62 10) (λx63=>bc (bp x63)) (aN (j6 { (za b q)with l:=b.l,i:=x61.2,n2:=x59.2.2 } x62 10) λx64=>aN (grd (bf ((za b q).Z++([(yt.mk x59.1 x55 x61.1)]:List yt))*48<=140737488355328)) λ_=>yo b K (x64,(za b q).H,(za b q).h,(za b q).D,(za b q).T,((za b q).Z++([(yt.mk x59.1 x55 x61.1)]:List yt)),(za b q).R,(za b q).C,(za b q).V,(za b q).S,(za b q).n0,(za b q).n1,x59.2.2,(za b q).n3,(za b q).n4,(za b q).n5)))))))))else(bif (decide (x2.2.1=jN))then(orC (jh { (za b q)with l:=b.l } (((bf ((za b q).R)):Nat):Int) 200) (λx66=>bc (bp x66)) (aN (yS { (za b q)with l:=b.l } (((bf ((za b q).R)):Nat):Int) 200) λx67=>(orC (WV { (za b q)with l:=b.l,i:=x67 }) (λx68=>bc (bp x68)) (aN (JB { (za b q)with l:=b.l,i:=x67 }) λx69=>yo b K (x69.1,(za b q).H,(za b q).h,(za b q).D,(za b q).T,(za b q).Z,x69.2.1,(za b q).C,(za b q).V,(za b q).S,(za b q).n0,(za b q).n1,(za b q).n2,x69.2.2,(za b q).n4,(za b q).n5)))))else(bif (decide (x2.2.1=Ko))then(orC (jh { (za b q)with l:=b.l } (((bf ((za b q).C)):Nat):Int) 30) (λx70=>bc (bp x70)) (aN (yS { (za b q)with l:=b.l } (((bf ((za b q).C)):Nat):Int) 30) λx71=>(orC (KQ { (za b q)with l:=b.l,i:=x71 }) (λx72=>bc (bp x72)) (aN (An { (za b q)with l:=b.l,i:=x71 }) λx73=>(orC (ji { (za b q)with l:=b.l,i:=x73.2.1,n4:=x73.2.2 } zX) (λx74=>bc (bp x74)) (aN (xy { (za b q)with l:=b.l,i:=x73.2.1,n4:=x73.2.2 } zX) λx75=>(orC (zC { (za b q)with l:=b.l,i:=x75.2,n4:=x73.2.2 } 0 1099511627776) (λx76=>bc (bp x76)) (aN (zk { (za b q)with l:=b.l,i:=x75.2,n4:=x73.2.2 } 0 1099511627776) λx77=>(orC (qB { (za b q)with l:=b.l,i:=x77.2,n4:=x73.2.2 }) (λx78=>bc (bp x78)) (aN (wM { (za b q)with l:=b.l,i:=x77.2,n4:=x73.2.2 }) λx79=>aN (vc x79.1) λx80=>(orC (JD { (za b q)with l:=b.l,i:=x79.2,n4:=x73.2.2 } x80 10) (λx81=>bc (bp x81)) (aN (j6 { (za b q)with l:=b.l,i:=x79.2,n4:=x73.2.2 } x80 10) λx82=>aN (grd (bf ((za b q).C++([(Cap.mk x73.1 x75.1 x77.1 x79.1)]:List Cap))*56<=140737488355328)) λ_=>yo b K (x82,(za b q).H,(za b q).h,(za b q).D,(za b q).T,(za b q).Z,(za b q).R,((za b q).C++([(Cap.mk x73.1 x75.1 x77.1 x79.1)]:List Cap)),(za b q).V,(za b q).S,(za b q).n0,(za b q).n1,(za b q).n2,(za b q).n3,x73.2.2,(za b q).n5)))))))))))))else(bif (decide (x2.2.1=ql))then(orC (jh { (za b q)with l:=b.l } (((bf ((za b q).V)):Nat):Int) 60) (λx84=>bc (bp x84)) (aN (yS { (za b q)with l:=b.l } (((bf ((za b q).V)):Nat):Int) 60) λx85=>(orC (WX { (za b q)with l:=b.l,i:=x85 }) (λx86=>bc (bp x86)) (aN (JC { (za b q)with l:=b.l,i:=x85 }) λx87=>yo b K (x87.1,(za b q).H,(za b q).h,(za b q).D,(za b q).T,(za b q).Z,(za b q).R,(za b q).C,x87.2.1,(za b q).S,(za b q).n0,(za b q).n1,(za b q).n2,(za b q).n3,(za b q).n4,x87.2.2)))))else(bif (decide (x2.2.1=Af))then(orC (zt { (za b q)with l:=b.l } (decide (((bf ((za b q).S)):Nat)=0)) 5) (λx88=>bc (bp x88)) (aN (zf { (za b q)with l:=b.l } (decide (((bf ((za b q).S)):Nat)=0)) 5) λ_=>(orC (zdm { (za b q)with l:=b.l,i:=(w64 ((za b q).i+1)) }) (λx90=>bc (bp x90)) (aN (Vq { (za b q)with l:=b.l,i:=(w64 ((za b q).i+1)) }) λx91=>yo b K (x91.1,(za b q).H,(za b q).h,(za b q).D,(za b q).T,(za b q).Z,(za b q).R,(za b q).C,(za b q).V,x91.2,(za b q).n0,(za b q).n1,(za b q).n2,(za b q).n3,(za b q).n4,(za b q).n5)))))else(bif (decide (x2.2.1=vA))then(orC (zt { (za b q)with l:=b.l } (!(za b q).h) 5) (λx92=>bc (bp x92)) (aN (zf { (za b q)with l:=b.l } (!(za b q).h) 5) λ_=>(orC (zC { (za b q)with l:=b.l,i:=(w64 ((za b q).i+1)) } 0 24) (λx94=>bc (bp x94)) (aN (zk { (za b q)with l:=b.l,i:=(w64 ((za b q).i+1)) } 0 24) λx95=>(orC (yk { (za b q)with l:=b.l,i:=x95.2,H:=x95.1,h:=bg } yc) (λx96=>bc (bp x96)) (aN (zA { (za b q)with l:=b.l,i:=x95.2,H:=x95.1,h:=bg } yc) λx97=>yo b K (x97,x95.1,bg,(za b q).D,(za b q).T,(za b q).Z,(za b q).R,(za b q).C,(za b q).V,(za b q).S,(za b q).n0,(za b q).n1,(za b q).n2,(za b q).n3,(za b q).n4,(za b q).n5)))))))else(orC (HJ { (za b q)with l:=b.l } 14) (λx98=>bc (bp x98)) bh))))))))))else bc (br ((za b q).i,(za b q).H,(za b q).h,(za b q).D,(za b q).T,(za b q).Z,(za b q).R,(za b q).C,(za b q).V,(za b q).S,(za b q).n0,(za b q).n1,(za b q).n2,(za b q).n3,(za b q).n4,(za b q).n5)))
def zkt(b:BB):Option (Int×Int) :=
 (yo { b with i:=0,D:=[],T:=[],Z:=[],R:=[],C:=[],V:=[],S:=[],H:=0,n0:=[],n1:=[],n2:=[],n3:=[],n4:=[],n5:=[],h:=bd } KK (b.i,b.H,b.h,b.D,b.T,b.Z,b.R,b.C,b.V,b.S,b.n0,b.n1,b.n2,b.n3,b.n4,b.n5)).bind (xT bc λx1=>bh)
def KR(b:BB):Option (Int×Int×Int×Int×Bool×(List Def)×(List au)×(List yt)×(List zO)×(List Cap)×(List av)×(List zg)×(List Mb8)×(List Mb8)×(List Mb8)×(List Mb8)×(List Mb8)×(List Mb8)):=aN (zkq b) λq=>bc ((0:Int),(0:Int),q)
def JK(b:BB):Option (Int×Int):=zkt b
def As(s:Bs8):Option (Int×Int×(List zg)×Int×(List Def)×(List au)×(List yt)×(List zO)×(List Cap)×(List av)) :=
 aN (zdg s) λx1=>(bif (!(decide (x1.2.2=0)))then bc (x1.2.1,x1.2.2,[],0,([]:List Def),([]:List au),([]:List yt),([]:List zO),([]:List Cap),([]:List av))else(orC (KR (BB.mk x1.1 0 ([]:List Def) ([]:List au) ([]:List yt) ([]:List zO) ([]:List Cap) ([]:List av) ([]:List zg) 0 ([]:List Mb8) ([]:List Mb8) ([]:List Mb8) ([]:List Mb8) ([]:List Mb8) ([]:List Mb8) bd)) (λx3=>(bif (!(decide (x3.2.1=0)))then bc (x3.1,x3.2.1,[],0,([]:List Def),([]:List au),([]:List yt),([]:List zO),([]:List Cap),([]:List av))else bc (0,0,x3.2.2.2.2.2.2.2.2.2.2.2.1,x3.2.2.2.1,x3.2.2.2.2.2.1,x3.2.2.2.2.2.2.1,x3.2.2.2.2.2.2.2.1,x3.2.2.2.2.2.2.2.2.1,x3.2.2.2.2.2.2.2.2.2.1,x3.2.2.2.2.2.2.2.2.2.2.1))) (orC (JK (BB.mk x1.1 0 ([]:List Def) ([]:List au) ([]:List yt) ([]:List zO) ([]:List Cap) ([]:List av) ([]:List zg) 0 ([]:List Mb8) ([]:List Mb8) ([]:List Mb8) ([]:List Mb8) ([]:List Mb8) ([]:List Mb8) bd)) (λx2=>(bif (!(decide (x2.2=0)))then bc (x2.1,x2.2,[],0,([]:List Def),([]:List au),([]:List yt),([]:List zO),([]:List Cap),([]:List av))else bh)) bh)))
def zoh(x_:Def):Option (Bs8) :=
 bc x_.aL
def oN(c0:Bool)(c1:List Bs8)(c2:Int):Nat->(Int×Mb8)->Option ((Bool)⊕(Unit))
 |0,_=>bh
 |K+1,q=>(bif (decide (q.1<c2))then(idx c1 q.1).bind λx1=>aN (aN (Q0 x1) λx3=>(bif (!x3)then bc bg else(bif c0 then bc ((xn x1 q.2).getD bd)else bc bd))) λx2=>(bif x2 then bc (bp bd)else oN c0 c1 c2 K ((w64 (q.1+1)),(oB x1 bg q.2)))else bc (br ()))
def qC(l:List Bs8)(unique:Bool):Option (Bool) :=
 (oN unique l (l.length:Int) KK (0,([]:List (Bs8×Bool)))).bind (xT bc λ_=>bc bg)
def JL(c0:List Def)(c1:Int)(c2:Int):Nat->(Int×(List Bs8))->Option ((List Bs8))
 |0,_=>bh
 |K+1,q=>(bif (decide (q.1<c2))then(idx c0 q.1).bind λx1=>aN (zoh (Def.mk x1.aL (Expr.mk x1.Body.Op x1.Body.N x1.Body.S x1.Body.Key x1.Body.Args))) λx2=>aN (grd (bf (q.2++([x2]:List Bs8))*16<=140737488355328)) λ_=>JL c0 c1 c2 K ((w64 (q.1+1)),(q.2++([x2]:List Bs8)))else bc q.2)
def zbk(l:List Def)(most:Int):Option (Bool) :=
 aN (JL l most (l.length:Int) KK (0,[])) λx1=>(bif (decide ((l.length:Int)<=most))then(qC x1 bg).bind λx2=>bc x2 else bc bd)
def zoi(x_:au):Option (Bs8) :=
 bc x_.aL
def u7(c0:List au)(c1:Int)(c2:Int):Nat->(Int×(List Bs8))->Option ((List Bs8))
 |0,_=>bh
 |K+1,q=>(bif (decide (q.1<c2))then(idx c0 q.1).bind λx1=>aN (zoi x1) λx2=>aN (grd (bf (q.2++([x2]:List Bs8))*16<=140737488355328)) λ_=>u7 c0 c1 c2 K ((w64 (q.1+1)),(q.2++([x2]:List Bs8)))else bc q.2)
def Qz(l:List au)(most:Int):Option (Bool) :=
 aN (u7 l most (l.length:Int) KK (0,[])) λx1=>(bif (decide ((l.length:Int)<=most))then(qC x1 bg).bind λx2=>bc x2 else bc bd)
def zoj(x_:yt):Option (Bs8) :=
 bc x_.aL
def u9(c0:List yt)(c1:Int)(c2:Int):Nat->(Int×(List Bs8))->Option ((List Bs8))
 |0,_=>bh
 |K+1,q=>(bif (decide (q.1<c2))then(idx c0 q.1).bind λx1=>aN (zoj x1) λx2=>aN (grd (bf (q.2++([x2]:List Bs8))*16<=140737488355328)) λ_=>u9 c0 c1 c2 K ((w64 (q.1+1)),(q.2++([x2]:List Bs8)))else bc q.2)
def QA(l:List yt)(most:Int):Option (Bool) :=
 aN (u9 l most (l.length:Int) KK (0,[])) λx1=>(bif (decide ((l.length:Int)<=most))then(qC x1 bg).bind λx2=>bc x2 else bc bd)
def zok(x_:zO):Option (Bs8) :=
 bc x_.aL
def oa(c0:List zO)(c1:Int)(c2:Int):Nat->(Int×(List Bs8))->Option ((List Bs8))
 |0,_=>bh
 |K+1,q=>(bif (decide (q.1<c2))then(idx c0 q.1).bind λx1=>aN (zok (zO.mk x1.aL x1.aB x1.Except x1.From x1.Until x1.Grace x1.Vary x1.aM (Expr.mk x1.Test.Op x1.Test.N x1.Test.S x1.Test.Key x1.Test.Args) x1.zy x1.Uses x1.Other x1.N)) λx2=>aN (grd (bf (q.2++([x2]:List Bs8))*16<=140737488355328)) λ_=>oa c0 c1 c2 K ((w64 (q.1+1)),(q.2++([x2]:List Bs8)))else bc q.2)
def QB(l:List zO)(most:Int):Option (Bool) :=
 aN (oa l most (l.length:Int) KK (0,[])) λx1=>(bif (decide ((l.length:Int)<=most))then(qC x1 bg).bind λx2=>bc x2 else bc bd)
def zol(x_:Cap):Option (Bs8) :=
 bc x_.aL
def oc(c0:List Cap)(c1:Int)(c2:Int):Nat->(Int×(List Bs8))->Option ((List Bs8))
 |0,_=>bh
 |K+1,q=>(bif (decide (q.1<c2))then(idx c0 q.1).bind λx1=>aN (zol x1) λx2=>aN (grd (bf (q.2++([x2]:List Bs8))*16<=140737488355328)) λ_=>oc c0 c1 c2 K ((w64 (q.1+1)),(q.2++([x2]:List Bs8)))else bc q.2)
def QC(l:List Cap)(most:Int):Option (Bool) :=
 aN (oc l most (l.length:Int) KK (0,[])) λx1=>(bif (decide ((l.length:Int)<=most))then(qC x1 bg).bind λx2=>bc x2 else bc bd)
def zom(x_:av):Option (Bs8) :=
 bc x_.aL
def od(c0:List av)(c1:Int)(c2:Int):Nat->(Int×(List Bs8))->Option ((List Bs8))
 |0,_=>bh
 |K+1,q=>(bif (decide (q.1<c2))then(idx c0 q.1).bind λx1=>aN (zom x1) λx2=>aN (grd (bf (q.2++([x2]:List Bs8))*16<=140737488355328)) λ_=>od c0 c1 c2 K ((w64 (q.1+1)),(q.2++([x2]:List Bs8)))else bc q.2)
def QD(l:List av)(most:Int):Option (Bool) :=
 aN (od l most (l.length:Int) KK (0,[])) λx1=>(bif (decide ((l.length:Int)<=most))then(qC x1 bg).bind λx2=>bc x2 else bc bd)
def zon(x_:aw):Option (Bs8) :=
 bc x_.aL
def oe(c0:List aw)(c1:Int)(c2:Int):Nat->(Int×(List Bs8))->Option ((List Bs8))
 |0,_=>bh
 |K+1,q=>(bif (decide (q.1<c2))then(idx c0 q.1).bind λx1=>aN (zon x1) λx2=>aN (grd (bf (q.2++([x2]:List Bs8))*16<=140737488355328)) λ_=>oe c0 c1 c2 K ((w64 (q.1+1)),(q.2++([x2]:List Bs8)))else bc q.2)
def QE(l:List aw)(most:Int):Option (Bool) :=
 aN (oe l most (l.length:Int) KK (0,[])) λx1=>(bif (decide ((l.length:Int)<=most))then(qC x1 bg).bind λx2=>bc x2 else bc bd)
def Au(c0:Int)(c1:Int)(c2:List Int)(c3:Int):Nat->(Int)->Option ((Bool)⊕(Unit))
 |0,_=>bh
 |K+1,q=>(bif (decide (q<c3))then(idx c2 q).bind λx1=>aN ((bif (decide (x1<c0))then bc bg else bc (decide (x1>c1)))) λx2=>(bif x2 then bc (bp bd)else Au c0 c1 c2 c3 K (w64 (q+1)))else bc (br ()))
def yg(from_:Int)(to_:Int)(l:List Int):Option (Bool) :=
 (Au from_ to_ l (l.length:Int) KK 0).bind (xT bc λ_=>bc bg)
def qD(c0:List Bs8)(c1:List Bs8)(c2:Int):Nat->(Int)->Option ((Bool)⊕(Unit))
 |0,_=>bh
 |K+1,q=>(bif (decide (q<c2))then(idx c0 q).bind λx1=>aN (idx c1 q) λx2=>(bif (!(decide (x1=x2)))then bc (bp bd)else qD c0 c1 c2 K (w64 (q+1)))else bc (br ()))
def jO(s1:List Bs8)(s2:List Bs8):Option (Bool) :=
 (bif (!(decide ((s1.length:Int)=(s2.length:Int))))then bc bd else(qD s1 s2 (s1.length:Int) KK 0).bind (xT bc λ_=>bc bg))
def vQ(r_sameExpr:Expr->Expr->Option (Bool))(c0:List Expr)(c1:List Expr)(c2:Int):Nat->(Int)->Option ((Bool)⊕(Unit))
 |0,_=>bh
 |K+1,q=>(bif (decide (q<c2))then(idx c1 q).bind λx1=>aN (idx c0 q) λx2=>aN (r_sameExpr (Expr.mk x1.Op x1.N x1.S x1.Key x1.Args) (Expr.mk x2.Op x2.N x2.S x2.Key x2.Args)) λx3=>(bif (!x3)then bc (bp bd)else vQ r_sameExpr c0 c1 c2 K (w64 (q+1)))else bc (br ()))
mutual
def vI:Nat->(List Expr)->(List Expr)->Option (Bool)
 |0,_,_=>bh
 |RK+1,s1,s2=>(bif (!(decide ((s1.length:Int)=(s2.length:Int))))then bc bd else(vQ (jj RK) s2 s1 (s1.length:Int) KK 0).bind (xT bc λ_=>bc bg))
def jj:Nat->Expr->Expr->Option (Bool)
 |0,_,_=>bh
 |RK+1,a,b=>(bif (decide (a.Op=b.Op))then(bif (decide (a.N=b.N))then(bif (decide (a.S=b.S))then(bif (decide (a.Key=b.Key))then(vI RK a.Args b.Args).bind λx1=>bc x1 else bc bd)else bc bd)else bc bd)else bc bd)
end
def qE(a:zO)(b:zO):Option (Bool) :=
 aN (aN (jO a.aB b.aB) λx2=>(bif (!x2)then bc bg else(jO a.Except b.Except).bind λx3=>(bif (!x3)then bc bg else(jj KK (Expr.mk a.Test.Op a.Test.N a.Test.S a.Test.Key a.Test.Args) (Expr.mk b.Test.Op b.Test.N b.Test.S b.Test.Key b.Test.Args)).bind λx4=>bc (!x4)))) λx1=>(bif x1 then bc bd else((bif (decide (a.aL=b.aL))then(bif (decide (a.From=b.From))then(bif (decide (a.Until=b.Until))then(bif (decide (a.Grace=b.Grace))then bc (a.Vary==b.Vary)else bc bd)else bc bd)else bc bd)else bc bd)).bind λx5=>(bif x5 then(bif (decide (a.aM=b.aM))then(bif (decide (a.zy.Side=b.zy.Side)&&(decide (a.zy.Base=b.zy.Base)&&(decide (a.zy.Num=b.zy.Num)&&(decide (a.zy.Den=b.zy.Den)))))then(bif (decide (a.Uses=b.Uses))then(bif (decide (a.Other=b.Other))then bc (decide (a.N=b.N))else bc bd)else bc bd)else bc bd)else bc bd)else bc bd))
def Av(r_:zO):Option (Bool) :=
 aN (aN (qC r_.aB bd) λx2=>(bif (!x2)then bc bg else(qC r_.Except bd).bind λx3=>(bif (!x3)then bc bg else(yg 0 1073741824 ([r_.From,r_.Grace,r_.Until]:List Int)).bind λx4=>(bif (!x4)then bc bg else(bif (!(decide (r_.Until=0)))then bc (decide (r_.Until<=r_.From))else bc bd))))) λx1=>(bif x1 then bc bd else((bif (decide (r_.aM=0))then(j5 (Expr.mk r_.Test.Op r_.Test.N r_.Test.S r_.Test.Key r_.Test.Args)).bind λx6=>bc (x6,r_.Test.Op,r_.Test.N,r_.Test.S,r_.Test.Key,r_.Test.Args,0,0,0,0,0,0,0)else(bif (decide (r_.aM=1))then(yg 0 3 ([r_.zy.Side]:List Int)).bind λx7=>(bif x7 then(yg 0 4096 ([r_.zy.Base,r_.zy.Num]:List Int)).bind λx8=>(bif x8 then(yg 1 4096 ([r_.zy.Den]:List Int)).bind λx9=>bc (x9,0,0,([]:Bs8),([]:Bs8),[],r_.zy.Side,r_.zy.Base,r_.zy.Num,r_.zy.Den,0,0,0)else bc (bd,0,0,([]:Bs8),([]:Bs8),[],r_.zy.Side,r_.zy.Base,r_.zy.Num,r_.zy.Den,0,0,0))else bc (bd,0,0,([]:Bs8),([]:Bs8),[],r_.zy.Side,r_.zy.Base,r_.zy.Num,r_.zy.Den,0,0,0))else(bif (decide (r_.aM=2))then(yg 1 63 ([r_.Uses]:List Int)).bind λx10=>bc (x10,0,0,([]:Bs8),([]:Bs8),[],0,0,0,0,r_.Uses,0,0)else(bif (decide (r_.aM=3))then(yg 0 5 ([r_.Uses,r_.Other]:List Int)).bind λx11=>(bif x11 then(yg 0 1048576 ([r_.N]:List Int)).bind λx12=>bc (x12,0,0,([]:Bs8),([]:Bs8),[],0,0,0,0,r_.Uses,r_.Other,r_.N)else bc (bd,0,0,([]:Bs8),([]:Bs8),[],0,0,0,0,r_.Uses,r_.Other,r_.N))else bc (bd,0,0,([]:Bs8),([]:Bs8),[],0,0,0,0,0,0,0)))))).bind λx5=>(bif x5.1 then(qE (zO.mk r_.aL r_.aB r_.Except r_.From r_.Until r_.Grace r_.Vary r_.aM (Expr.mk r_.Test.Op r_.Test.N r_.Test.S r_.Test.Key r_.Test.Args) r_.zy r_.Uses r_.Other r_.N) (zO.mk r_.aL r_.aB r_.Except r_.From r_.Until r_.Grace r_.Vary r_.aM (Expr.mk x5.2.1 x5.2.2.1 x5.2.2.2.1 x5.2.2.2.2.1 x5.2.2.2.2.2.1) (zy.mk x5.2.2.2.2.2.2.1 x5.2.2.2.2.2.2.2.1 x5.2.2.2.2.2.2.2.2.1 x5.2.2.2.2.2.2.2.2.2.1) x5.2.2.2.2.2.2.2.2.2.2.1 x5.2.2.2.2.2.2.2.2.2.2.2.1 x5.2.2.2.2.2.2.2.2.2.2.2.2)).bind λx13=>bc x13 else bc bd))
def oO(c0:List Def)(c1:Int)(c2:List au)(c3:List yt)(c4:List zO)(c5:List Cap)(c6:List av)(c7:List zg)(c8:Int):Nat->(Int)->Option ((Bool)⊕(Unit))
 |0,_=>bh
 |K+1,q=>(bif (decide (q<c1))then(idx c0 q).bind λx1=>aN (j5 (Expr.mk x1.Body.Op x1.Body.N x1.Body.S x1.Body.Key x1.Body.Args)) λx2=>(bif (!x2)then bc (bp bd)else oO c0 c1 c2 c3 c4 c5 c6 c7 c8 K (w64 (q+1)))else bc (br ()))
def HN(c0:List au)(c1:Int)(c2:Int)(c3:List aw)(c4:Int)(c5:List Def)(c6:List yt)(c7:List zO)(c8:List Cap)(c9:List av)(c10:List zg)(c11:Int):Nat->(Int)->Option ((Bool)⊕(Unit))
 |0,_=>bh
 |K+1,q=>(bif (decide (q<c4))then(idx c3 q).bind λx1=>aN (yg (-1099511627776) 1099511627776 ([x1.N]:List Int)) λx2=>(bif (!x2)then bc (bp bd)else HN c0 c1 c2 c3 c4 c5 c6 c7 c8 c9 c10 c11 K (w64 (q+1)))else bc (br ()))
def qF(c0:List au)(c1:Int)(c2:List Def)(c3:List yt)(c4:List zO)(c5:List Cap)(c6:List av)(c7:List zg)(c8:Int):Nat->(Int)->Option ((Bool)⊕(Unit))
 |0,_=>bh
 |K+1,q=>(bif (decide (q<c1))then(idx c0 q).bind λx1=>aN (aN (QE x1.Rows 60) λx3=>(bif (!x3)then bc bg else(yg (-1099511627776) 1099511627776 ([x1.Else]:List Int)).bind λx4=>bc (!x4))) λx2=>(bif x2 then bc (bp bd)else(HN c0 c1 q x1.Rows (x1.Rows.length:Int) c2 c3 c4 c5 c6 c7 c8 KK 0).bind (xT (λq=>bc (bp q)) λ_=>qF c0 c1 c2 c3 c4 c5 c6 c7 c8 K (w64 (q+1))))else bc (br ()))
def oP(c0:List yt)(c1:Int)(c2:List Def)(c3:List au)(c4:List zO)(c5:List Cap)(c6:List av)(c7:List zg)(c8:Int):Nat->(Int)->Option ((Bool)⊕(Unit))
 |0,_=>bh
 |K+1,q=>(bif (decide (q<c1))then(idx c0 q).bind λx1=>aN (vc x1.aA) λx2=>(bif (!x2)then bc (bp bd)else oP c0 c1 c2 c3 c4 c5 c6 c7 c8 K (w64 (q+1)))else bc (br ()))
def oQ(c0:List zO)(c1:Int)(c2:List Def)(c3:List au)(c4:List yt)(c5:List Cap)(c6:List av)(c7:List zg)(c8:Int):Nat->(Int)->Option ((Bool)⊕(Unit))
 |0,_=>bh
 |K+1,q=>(bif (decide (q<c1))then(idx c0 q).bind λx1=>aN (Av (zO.mk x1.aL x1.aB x1.Except x1.From x1.Until x1.Grace x1.Vary x1.aM (Expr.mk x1.Test.Op x1.Test.N x1.Test.S x1.Test.Key x1.Test.Args) x1.zy x1.Uses x1.Other x1.N)) λx2=>(bif (!x2)then bc (bp bd)else oQ c0 c1 c2 c3 c4 c5 c6 c7 c8 K (w64 (q+1)))else bc (br ()))
def oR(c0:List Cap)(c1:Int)(c2:List Def)(c3:List au)(c4:List yt)(c5:List zO)(c6:List av)(c7:List zg)(c8:Int):Nat->(Int)->Option ((Bool)⊕(Unit))
 |0,_=>bh
 |K+1,q=>(bif (decide (q<c1))then(idx c0 q).bind λx1=>aN (aN (yg 0 2 ([x1.Load]:List Int)) λx3=>(bif (!x3)then bc bg else(yg 0 1099511627776 ([x1.Limit]:List Int)).bind λx4=>(bif (!x4)then bc bg else(vc x1.aA).bind λx5=>bc (!x5)))) λx2=>(bif x2 then bc (bp bd)else oR c0 c1 c2 c3 c4 c5 c6 c7 c8 K (w64 (q+1)))else bc (br ()))
def HO(c0:List av)(c1:Int)(c2:Int)(c3:Int)(c4:List Def)(c5:List au)(c6:List yt)(c7:List zO)(c8:List Cap)(c9:List zg)(c10:Int)(c11:List zg):Nat->(Int)->Option ((Bool)⊕(Unit))
 |0,_=>bh
 |K+1,q=>(bif (decide (q<c3))then(grd (0<=q/\q<(((bf c11):Nat):Int))).bind λ_=>aN ((c11)[(bX q)]?) λx2=>aN (aN (yg 0 1048576 ([x2.X,x2.Y]:List Int)) λx4=>(bif (!x4)then bc bg else(yg 0 4096 ([x2.Z_]:List Int)).bind λx5=>bc (!x5))) λx3=>(bif x3 then bc (bp bd)else HO c0 c1 c2 c3 c4 c5 c6 c7 c8 c9 c10 c11 K (w64 (q+1)))else bc (br ()))
def qG(c0:List av)(c1:Int)(c2:List Def)(c3:List au)(c4:List yt)(c5:List zO)(c6:List Cap)(c7:List zg)(c8:Int):Nat->(Int)->Option ((Bool)⊕(Unit))
 |0,_=>bh
 |K+1,q=>(bif (decide (q<c1))then(idx c0 q).bind λx1=>aN (aN (yg 0 20 ([x1.Least]:List Int)) λx3=>(bif (!x3)then bc bg else(yg 1 20 ([(x1.Targets.length:Int)]:List Int)).bind λx4=>bc (!x4))) λx2=>(bif x2 then bc (bp bd)else(grd (bf (([x1.Eye]:List zg)++x1.Targets)*24<=140737488355328)).bind λ_=>(HO c0 c1 q (((bf (([x1.Eye]:List zg)++x1.Targets)):Nat):Int) c2 c3 c4 c5 c6 c7 c8 (([x1.Eye]:List zg)++x1.Targets) KK 0).bind (xT (λq=>bc (bp q)) λ_=>qG c0 c1 c2 c3 c4 c5 c6 c7 c8 K (w64 (q+1))))else bc (br ()))
def oS(c0:List zg)(c1:Int)(c2:List Def)(c3:List au)(c4:List yt)(c5:List zO)(c6:List Cap)(c7:List av)(c8:Int):Nat->(Int)->Option ((Bool)⊕(Unit))
 |0,_=>bh
 |K+1,q=>(bif (decide (q<c1))then(idx c0 q).bind λx1=>aN (aN (yg (-4096) 4096 ([x1.X,x1.Y]:List Int)) λx3=>(bif (!x3)then bc bg else(yg 1 4096 ([x1.Z_]:List Int)).bind λx4=>bc (!x4))) λx2=>(bif x2 then bc (bp bd)else oS c0 c1 c2 c3 c4 c5 c6 c7 c8 K (w64 (q+1)))else bc (br ()))
def Ze(p:yZ):Option (Bool) :=
 aN (aN (zbk p.aF 60) λx2=>(bif (!x2)then bc bg else(Qz p.Tables 60).bind λx3=>(bif (!x3)then bc bg else(QA p.aB 60).bind λx4=>(bif (!x4)then bc bg else(QB p.aE 200).bind λx5=>(bif (!x5)then bc bg else(QC p.aJ 30).bind λx6=>(bif (!x6)then bc bg else(QD p.aG 60).bind λx7=>bc (!x7))))))) λx1=>(bif x1 then bc bd else(oO p.aF (p.aF.length:Int) p.Tables p.aB p.aE p.aJ p.aG p.aK p.aI KK 0).bind (xT bc λ_=>(qF p.Tables (p.Tables.length:Int) p.aF p.aB p.aE p.aJ p.aG p.aK p.aI KK 0).bind (xT bc λ_=>(oP p.aB (p.aB.length:Int) p.aF p.Tables p.aE p.aJ p.aG p.aK p.aI KK 0).bind (xT bc λ_=>(oQ p.aE (p.aE.length:Int) p.aF p.Tables p.aB p.aJ p.aG p.aK p.aI KK 0).bind (xT bc λ_=>(oR p.aJ (p.aJ.length:Int) p.aF p.Tables p.aB p.aE p.aG p.aK p.aI KK 0).bind (xT bc λ_=>(qG p.aG (p.aG.length:Int) p.aF p.Tables p.aB p.aE p.aJ p.aK p.aI KK 0).bind (xT bc λ_=>(oS p.aK (p.aK.length:Int) p.aF p.Tables p.aB p.aE p.aJ p.aG p.aI KK 0).bind (xT bc λ_=>aN (yg 0 24 ([p.aI,(p.aK.length:Int)]:List Int)) λx15=>bc x15))))))))
def HP(a0:Bs8):Option (Bs8):=bc a0
def JM(a0:Bs8)(a1:Int):Option (Bs8):=zvc a0 a1
def Aw(a0:Bs8)(a1:Bs8):Option (Int×Bs8):=aN (grd (bf a0+bf a1<=140737488355328)) λ_=>bc ((a1.length:Int),a0++a1)
def oT(c0:List (Int⊕Bs8))(c1:Int):Nat->(Bs8×Int)->Option (Bs8)
 |0,_=>bh
 |K+1,q=>(bif (decide (q.2<c1))then(aN (idx c0 q.2) λx2=>aN (aN (HP q.1) λx4=>aN ((bif (!(decide (x4=([]:Bs8))))then(idx x4 (w64 ((x4.length:Int)-1))).bind λx6=>bc (!(decide (((x6.toNat:Nat):Int)=10)))else bc bd)) λx5=>(bif x5 then(JM q.1 32).bind λx7=>bc x7 else bc q.1)) λx3=>(bif (zRe x2)then(Aw x3 (anyS x2)).bind λx8=>bc x8.2 else(bif (!(zRe x2))then((bif (decide ((anyI x2)<0))then(Aw x3 Kc).bind λx10=>bc (x10.2,(w64 (0-(anyI x2))))else bc (x3,(anyI x2)))).bind λx9=>aN (ZX x9.2) λx11=>aN (Aw x9.1 x11) λx12=>bc x12.2 else bc x3))).bind λx1=>oT c0 c1 K (x1,(w64 (q.2+1)))else bc q.1)
def yB(b:Bs8)(l:List (Int⊕Bs8)):Option (Bs8) :=
 aN (oT l (l.length:Int) KK (b,0)) λx1=>bc x1
def qH(b:Bs8):Option (Bs8) :=
 aN (yB b ([(br yc)]:List (Int⊕Bs8))) λx1=>aN (JM x1 10) λx2=>bc x2
def QF(b:Bs8)(e:Expr):Option (Bs8) :=
 aN (wg KK ([]:Bs8) (Expr.mk e.Op e.N e.S e.Key e.Args) 0) λx1=>aN (qq x1) λx2=>aN (yB b ([(br x2)]:List (Int⊕Bs8))) λx3=>aN (qH x3) λx4=>bc x4
def wo(c0:List zV)(c1:Int):Nat->(Bs8×Int)->Option (Bs8)
 |0,_=>bh
 |K+1,q=>(bif (decide (q.2<c1))then(idx c0 q.2).bind λx1=>aN (yB q.1 ([(bp x1.X),(bp x1.Y)]:List (Int⊕Bs8))) λx2=>wo c0 c1 K (x2,(w64 (q.2+1)))else bc q.1)
def HQ(b:Bs8)(l:List zV):Option (Bs8) :=
 aN (wo l (l.length:Int) KK (b,0)) λx1=>aN (qH x1) λx2=>bc x2
def zoo(a0:List Bs8)(a1:Bs8):Option (Bs8):=J.qW a0 a1
def j7(c0:Int)(c1:Bs8)(c2:List Bs8)(c3:List Bs8)(c4:Int)(c5:Int)(c6:Int)(c7:Bool)(c8:Int)(c9:Int)(c10:Int)(c11:Bs8)(c12:Bs8)(c13:List Expr)(c14:Int)(c15:Int)(c16:Int)(c17:Int)(c18:Int)(c19:Int)(c20:Int)(c21:(List (List Bs8))):Nat->(Bs8×Int)->Option (Bs8)
 |0,_=>bh
 |K+1,q=>(bif (decide (q.2<c0))then(aN (grd (0<=q.2/\q.2<(((bf c21):Nat):Int))) λ_=>aN ((c21)[(bX q.2)]?) λx3=>(bif (decide ((x3.length:Int)>0))then(grd (0<=q.2/\q.2<((2:Nat):Int))).bind λ_=>aN ((([zft,xe]:List Bs8))[(bX q.2)]?) λx5=>aN (zoo x3 t__) λx6=>aN (yB q.1 ([(br x5),(br x6)]:List (Int⊕Bs8))) λx7=>bc x7 else bc q.1)).bind λx1=>j7 c0 c1 c2 c3 c4 c5 c6 c7 c8 c9 c10 c11 c12 c13 c14 c15 c16 c17 c18 c19 c20 c21 K (x1,(w64 (q.2+1)))else bc q.1)
def vR(c0:Int)(c1:Bs8)(c2:List Bs8)(c3:List Bs8)(c4:Int)(c5:Int)(c6:Int)(c7:Bool)(c8:Int)(c9:Int)(c10:Int)(c11:Bs8)(c12:Bs8)(c13:List Expr)(c14:Int)(c15:Int)(c16:Int)(c17:Int)(c18:Int)(c19:Int)(c20:Int)(c21:List Int):Nat->(Bs8×Int)->Option (Bs8)
 |0,_=>bh
 |K+1,q=>(bif (decide (q.2<c0))then(aN (grd (0<=q.2/\q.2<(((bf c21):Nat):Int))) λ_=>aN ((c21)[(bX q.2)]?) λx3=>(bif (!(decide (x3=0)))then(grd (0<=q.2/\q.2<((3:Nat):Int))).bind λ_=>aN ((([vE,xK,xW]:List Bs8))[(bX q.2)]?) λx5=>aN (yB q.1 ([(br x5),(bp x3)]:List (Int⊕Bs8))) λx6=>bc x6 else bc q.1)).bind λx1=>vR c0 c1 c2 c3 c4 c5 c6 c7 c8 c9 c10 c11 c12 c13 c14 c15 c16 c17 c18 c19 c20 c21 K (x1,(w64 (q.2+1)))else bc q.1)
def wx(c0:Int)(c1:Bs8)(c2:List Bs8)(c3:List Bs8)(c4:Int)(c5:Int)(c6:Int)(c7:Bool)(c8:Int)(c9:Int)(c10:Int)(c11:Bs8)(c12:Bs8)(c13:List Expr)(c14:Int)(c15:Int)(c16:Int)(c17:Int)(c18:Int)(c19:Int)(c20:Int)(c21:List Bs8):Nat->(Bs8×Int)->Option (Bs8)
 |0,_=>bh
 |K+1,q=>(bif (decide (q.2<c0))then(aN (grd (0<=q.2/\q.2<(((bf c21):Nat):Int))) λ_=>aN ((c21)[(bX q.2)]?) λx3=>aN (grd (0<=q.2)) λ_=>(bif (decide ((IntKind.i64.wrap ((cv IntKind.i64.bits (gX c18 (2 ^ (min (bX q.2) IntKind.i64.bits))) &&& cv IntKind.i64.bits 1).toNat:Int))=1))then(yB q.1 ([(br x3)]:List (Int⊕Bs8))).bind λx5=>bc x5 else bc q.1)).bind λx1=>wx c0 c1 c2 c3 c4 c5 c6 c7 c8 c9 c10 c11 c12 c13 c14 c15 c16 c17 c18 c19 c20 c21 K (x1,(w64 (q.2+1)))else bc q.1)
def zbl(b:Bs8)(r_:zO):Option (Bs8) :=
 aN (yB b ([(br jN),(br r_.aL)]:List (Int⊕Bs8))) λx1=>aN (j7 ((2:Nat):Int) r_.aL r_.aB r_.Except r_.From r_.Until r_.Grace r_.Vary r_.aM r_.Test.Op r_.Test.N r_.Test.S r_.Test.Key r_.Test.Args r_.zy.Side r_.zy.Base r_.zy.Num r_.zy.Den r_.Uses r_.Other r_.N ([r_.aB,r_.Except]:List (List Bs8)) KK (x1,0)) λx2=>aN (vR ((3:Nat):Int) r_.aL r_.aB r_.Except r_.From r_.Until r_.Grace r_.Vary r_.aM r_.Test.Op r_.Test.N r_.Test.S r_.Test.Key r_.Test.Args r_.zy.Side r_.zy.Base r_.zy.Num r_.zy.Den r_.Uses r_.Other r_.N ([r_.From,r_.Until,r_.Grace]:List Int) KK (x2,0)) λx3=>aN ((bif r_.Vary then(yB x3 ([(br wB)]:List (Int⊕Bs8))).bind λx5=>bc x5 else bc x3)) λx4=>aN (yB x4 ([(br xQ)]:List (Int⊕Bs8))) λx6=>aN (vH zj) λx7=>((bif (decide (r_.aM=0))then(QF x6 (Expr.mk r_.Test.Op r_.Test.N r_.Test.S r_.Test.Key r_.Test.Args)).bind λx9=>bc (bp x9)else(bif (decide (r_.aM=1))then(yB x6 ([(br qt),(bp r_.zy.Side),(br AX),(bp r_.zy.Base),(br jH),(bp r_.zy.Num),(bp r_.zy.Den)]:List (Int⊕Bs8))).bind λx10=>bc (br x10)else(bif (decide (r_.aM=3))then(grd (0<=r_.Uses/\r_.Uses<(((bf x7):Nat):Int))).bind λ_=>aN ((x7)[(bX r_.Uses)]?) λx12=>aN (grd (0<=r_.Other/\r_.Other<(((bf x7):Nat):Int))) λ_=>aN ((x7)[(bX r_.Other)]?) λx14=>aN (yB x6 ([(br qs),(br x12),(br x14),(bp r_.N)]:List (Int⊕Bs8))) λx15=>bc (br x15)else(bif (decide (r_.aM=2))then(yB x6 ([(br Ag)]:List (Int⊕Bs8))).bind λx16=>aN (wx (((bf x7):Nat):Int) r_.aL r_.aB r_.Except r_.From r_.Until r_.Grace r_.Vary r_.aM r_.Test.Op r_.Test.N r_.Test.S r_.Test.Key r_.Test.Args r_.zy.Side r_.zy.Base r_.zy.Num r_.zy.Den r_.Uses r_.Other r_.N x7 KK (x16,0)) λx17=>bc (br x17)else bc (br x6)))))).bind (xT bc λx8=>aN (qH x8) λx18=>bc x18)
def zsd(a0:Bs8):Option (Int):=bc (a0.length:Int)
def jk(c0:List Def)(c1:Int)(c2:List au)(c3:List yt)(c4:List zO)(c5:List Cap)(c6:List av)(c7:List zg)(c8:Int):Nat->(Int×Bs8)->Option (Bs8)
 |0,_=>bh
 |K+1,q=>(bif (decide (q.1<c1))then(idx c0 q.1).bind λx1=>aN (yB q.2 ([(br xJ),(br x1.aL),(br AQ)]:List (Int⊕Bs8))) λx2=>aN (QF x2 (Expr.mk x1.Body.Op x1.Body.N x1.Body.S x1.Body.Key x1.Body.Args)) λx3=>jk c0 c1 c2 c3 c4 c5 c6 c7 c8 K ((w64 (q.1+1)),x3)else bc q.2)
def jm(c0:List au)(c1:Int)(c2:Int)(c3:List aw)(c4:Int)(c5:List Def)(c6:List yt)(c7:List zO)(c8:List Cap)(c9:List av)(c10:List zg)(c11:Int)(c12:Bs8)(c13:Int):Nat->(Int×Bs8)->Option (Bs8)
 |0,_=>bh
 |K+1,q=>(bif (decide (q.1<c4))then(idx c3 q.1).bind λx1=>aN (yB q.2 ([(br x1.aL),(bp x1.N)]:List (Int⊕Bs8))) λx2=>jm c0 c1 c2 c3 c4 c5 c6 c7 c8 c9 c10 c11 c12 c13 K ((w64 (q.1+1)),x2)else bc q.2)
def jo(c0:List au)(c1:Int)(c2:List Def)(c3:List yt)(c4:List zO)(c5:List Cap)(c6:List av)(c7:List zg)(c8:Int):Nat->(Int×Bs8)->Option (Bs8)
 |0,_=>bh
 |K+1,q=>(bif (decide (q.1<c1))then(idx c0 q.1).bind λx1=>aN (yB q.2 ([(br ym),(br x1.aL)]:List (Int⊕Bs8))) λx2=>aN (jm c0 c1 q.1 x1.Rows (x1.Rows.length:Int) c2 c3 c4 c5 c6 c7 c8 x1.aL x1.Else KK (0,x2)) λx3=>aN (yB x3 ([(br xh),(bp x1.Else)]:List (Int⊕Bs8))) λx4=>aN (qH x4) λx5=>jo c0 c1 c2 c3 c4 c5 c6 c7 c8 K ((w64 (q.1+1)),x5)else bc q.2)
def jt(c0:List yt)(c1:Int)(c2:List Def)(c3:List au)(c4:List zO)(c5:List Cap)(c6:List av)(c7:List zg)(c8:Int):Nat->(Int×Bs8)->Option (Bs8)
 |0,_=>bh
 |K+1,q=>(bif (decide (q.1<c1))then(idx c0 q.1).bind λx1=>aN ((bif x1.Overlay then bc yr else bc yR)) λx2=>aN (yB q.2 ([(br x2),(br x1.aL)]:List (Int⊕Bs8))) λx3=>aN (HQ x3 x1.aA) λx4=>jt c0 c1 c2 c3 c4 c5 c6 c7 c8 K ((w64 (q.1+1)),x4)else bc q.2)
def ju(c0:List zO)(c1:Int)(c2:List Def)(c3:List au)(c4:List yt)(c5:List Cap)(c6:List av)(c7:List zg)(c8:Int):Nat->(Int×Bs8)->Option (Bs8)
 |0,_=>bh
 |K+1,q=>(bif (decide (q.1<c1))then(idx c0 q.1).bind λx1=>aN (zbl q.2 (zO.mk x1.aL x1.aB x1.Except x1.From x1.Until x1.Grace x1.Vary x1.aM (Expr.mk x1.Test.Op x1.Test.N x1.Test.S x1.Test.Key x1.Test.Args) x1.zy x1.Uses x1.Other x1.N)) λx2=>ju c0 c1 c2 c3 c4 c5 c6 c7 c8 K ((w64 (q.1+1)),x2)else bc q.2)
def jv(c0:List Cap)(c1:Int)(c2:List Def)(c3:List au)(c4:List yt)(c5:List zO)(c6:List av)(c7:List zg)(c8:Int):Nat->(Int×Bs8)->Option (Bs8)
 |0,_=>bh
 |K+1,q=>(bif (decide (q.1<c1))then(idx c0 q.1).bind λx1=>aN (vH zX) λx2=>aN (grd (0<=x1.Load/\x1.Load<(((bf x2):Nat):Int))) λ_=>aN ((x2)[(bX x1.Load)]?) λx4=>aN (yB q.2 ([(br Ko),(br x1.aL),(br x4),(bp x1.Limit)]:List (Int⊕Bs8))) λx5=>aN (HQ x5 x1.aA) λx6=>jv c0 c1 c2 c3 c4 c5 c6 c7 c8 K ((w64 (q.1+1)),x6)else bc q.2)
def jw(c0:List av)(c1:Int)(c2:Int)(c3:List zg)(c4:Int)(c5:List Def)(c6:List au)(c7:List yt)(c8:List zO)(c9:List Cap)(c10:List zg)(c11:Int):Nat->(Int×Bs8)->Option (Bs8)
 |0,_=>bh
 |K+1,q=>(bif (decide (q.1<c4))then(idx c3 q.1).bind λx1=>aN (yB q.2 ([(bp x1.X),(bp x1.Y),(bp x1.Z_)]:List (Int⊕Bs8))) λx2=>jw c0 c1 c2 c3 c4 c5 c6 c7 c8 c9 c10 c11 K ((w64 (q.1+1)),x2)else bc q.2)
def jx(c0:List av)(c1:Int)(c2:List Def)(c3:List au)(c4:List yt)(c5:List zO)(c6:List Cap)(c7:List zg)(c8:Int):Nat->(Int×Bs8)->Option (Bs8)
 |0,_=>bh
 |K+1,q=>(bif (decide (q.1<c1))then(idx c0 q.1).bind λx1=>aN (yB q.2 ([(br ql),(br x1.aL),(bp x1.Eye.X),(bp x1.Eye.Y),(bp x1.Eye.Z_),(br vO),(bp x1.Least),(br xQ)]:List (Int⊕Bs8))) λx2=>aN (jw c0 c1 q.1 x1.Targets (x1.Targets.length:Int) c2 c3 c4 c5 c6 c7 c8 KK (0,x2)) λx3=>aN (qH x3) λx4=>jx c0 c1 c2 c3 c4 c5 c6 c7 c8 K ((w64 (q.1+1)),x4)else bc q.2)
def jy(c0:List zg)(c1:Int)(c2:List Def)(c3:List au)(c4:List yt)(c5:List zO)(c6:List Cap)(c7:List av)(c8:Int):Nat->(Int×Bs8)->Option (Bs8)
 |0,_=>bh
 |K+1,q=>(bif (decide (q.1<c1))then(idx c0 q.1).bind λx1=>aN (grd (0<=(min q.1 1)/\(min q.1 1)<((2:Nat):Int))) λ_=>aN ((([Af,kP]:List Bs8))[(bX (min q.1 1))]?) λx3=>aN (yB q.2 ([(br x3),(bp x1.X),(bp x1.Y),(bp x1.Z_)]:List (Int⊕Bs8))) λx4=>jy c0 c1 c2 c3 c4 c5 c6 c7 c8 K ((w64 (q.1+1)),x4)else bc q.2)
def zdn(p:yZ):Option (Bs8×Int) :=
 aN (Ze p) λx1=>(bif (!x1)then bc (([]:Bs8),1)else(jk p.aF (p.aF.length:Int) p.Tables p.aB p.aE p.aJ p.aG p.aK p.aI KK (0,([]:Bs8))).bind λx2=>aN (jo p.Tables (p.Tables.length:Int) p.aF p.aB p.aE p.aJ p.aG p.aK p.aI KK (0,x2)) λx3=>aN (jt p.aB (p.aB.length:Int) p.aF p.Tables p.aE p.aJ p.aG p.aK p.aI KK (0,x3)) λx4=>aN (ju p.aE (p.aE.length:Int) p.aF p.Tables p.aB p.aJ p.aG p.aK p.aI KK (0,x4)) λx5=>aN (jv p.aJ (p.aJ.length:Int) p.aF p.Tables p.aB p.aE p.aG p.aK p.aI KK (0,x5)) λx6=>aN (jx p.aG (p.aG.length:Int) p.aF p.Tables p.aB p.aE p.aJ p.aK p.aI KK (0,x6)) λx7=>aN (jy p.aK (p.aK.length:Int) p.aF p.Tables p.aB p.aE p.aJ p.aG p.aI KK (0,x7)) λx8=>aN ((bif (decide ((p.aK.length:Int)>0))then(qH x8).bind λx10=>bc x10 else bc x8)) λx9=>aN ((bif (!(decide (p.aI=0)))then(yB x9 ([(br vA),(bp p.aI)]:List (Int⊕Bs8))).bind λx12=>aN (qH x12) λx13=>bc x13 else bc x9)) λx11=>aN (zsd x11) λx14=>(bif (decide (x14>8000))then bc (([]:Bs8),6)else(HP x11).bind λx15=>bc (x15,0)))
def JN:Option (Bool) :=
 aN (zdi zdf) λx1=>aN (Vo (Expr.mk x1.2.2.1 x1.2.2.2.1 x1.2.2.2.2.1 x1.2.2.2.2.2.1 x1.2.2.2.2.2.2)) λx2=>aN (Vo (Expr.mk 6 0 ([]:Bs8) ([]:Bs8) ([(Expr.mk 0 2 ([]:Bs8) ([]:Bs8) []),(Expr.mk 4 0 ([]:Bs8) ([]:Bs8) ([(Expr.mk 1 0 t_a ([]:Bs8) []),(Expr.mk 1 0 t_b ([]:Bs8) [])]:List Expr))]:List Expr))) λx3=>aN (As uo) λx4=>aN (As zkp) λx5=>aN (As QO) λx6=>aN (As WK) λx7=>aN (As Jw) λx8=>aN (As uH) λx9=>aN ((bif (decide (x1.2.1=0))then(bif (decide (x2.2=0))then(bif (decide (x2.1=KD))then(bif (decide (x3.2=0))then(bif (decide (x3.1=Jv))then(bif (decide (x4.2.1=0))then(bif (decide ((((bf x4.2.2.2.2.2.2.1):Nat):Int)=1))then(grd ((0:Int)<=0/\0<(((bf x4.2.2.2.2.2.2.1):Nat):Int))).bind λ_=>aN ((x4.2.2.2.2.2.2.1)[(bX 0)]?) λx12=>bc (decide ((x12.aA.length:Int)=4))else bc bd)else bc bd)else bc bd)else bc bd)else bc bd)else bc bd)else bc bd)) λx10=>aN ((bif (decide (x5.1=6))then(bif (decide (x5.2.1=3))then(bif (decide (x6.1=7))then(bif (decide (x6.2.1=14))then(bif (decide (x7.1=11))then(bif (decide (x7.2.1=14))then(bif (decide (x8.1=18))then(bif (decide (x8.2.1=10))then(bif (decide (x9.1=18))then bc (decide (x9.2.1=5))else bc bd)else bc bd)else bc bd)else bc bd)else bc bd)else bc bd)else bc bd)else bc bd)else bc bd)) λx13=>aN (zdn (yZ.mk x4.2.2.2.2.1 x4.2.2.2.2.2.1 x4.2.2.2.2.2.2.1 x4.2.2.2.2.2.2.2.1 x4.2.2.2.2.2.2.2.2.1 x4.2.2.2.2.2.2.2.2.2 x4.2.2.1 x4.2.2.2.1)) λx14=>(bif x10 then(bif x13 then(bif (decide (x14.2=0))then(bif (decide (x14.1=kI))then(Ze (yZ.mk x4.2.2.2.2.1 x4.2.2.2.2.2.1 x4.2.2.2.2.2.2.1 x4.2.2.2.2.2.2.2.1 x4.2.2.2.2.2.2.2.2.1 x4.2.2.2.2.2.2.2.2.2 x4.2.2.1 x4.2.2.2.1)).bind λx15=>(bif x15 then(Ze (yZ.mk [] [] [] [] [] [] [] 25)).bind λx16=>(bif (!x16)then(Q0 t_a1).bind λx17=>(bif x17 then(Q0 jN).bind λx18=>bc (!x18)else bc bd)else bc bd)else bc bd)else bc bd)else bc bd)else bc bd)else bc bd)
def vx(r_law_nodes:Expr->Int->Option (Int))(c0:Int)(c1:Int)(c2:Int)(c3:Bs8)(c4:Bs8)(c5:List Expr):Nat->(Int×Int)->Option (Int)
 |0,_=>bh
 |K+1,q=>aN ((bif (decide (q.2<(c5.length:Int)))then bc (decide (q.1<=c0))else bc bd)) λx1=>(bif x1 then(idx c5 q.2).bind λx2=>aN (r_law_nodes x2 (w64 (c0-q.1))) λx3=>vx r_law_nodes c0 c1 c2 c3 c4 c5 K ((w64 (q.1+x3)),(w64 (q.2+1)))else bc q.1)
def vS:Nat->Expr->Int->Option (Int)
 |0,_,_=>bh
 |RK+1,e,most=>aN (vx (vS RK) most e.Op e.N e.S e.Key e.Args KK (1,0)) λx1=>bc x1
def qZ(r_law_short:Expr->Option (Bool))(c0:Int)(c1:Int)(c2:Bs8)(c3:Bs8)(c4:List Expr):Nat->(Int)->Option ((Bool)⊕(Unit))
 |0,_=>bh
 |K+1,q=>(bif (decide (q<(c4.length:Int)))then(idx c4 q).bind λx1=>aN (r_law_short x1) λx2=>(bif (!x2)then bc (bp bd)else qZ r_law_short c0 c1 c2 c3 c4 K (w64 (q+1)))else bc (br ()))
def j8:Nat->Expr->Option (Bool)
 |0,_=>bh
 |RK+1,e=>(qZ (j8 RK) e.Op e.N e.S e.Key e.Args KK 0).bind (xT bc λ_=>(bif (decide ((e.S.length:Int)<=30))then bc (decide ((e.Key.length:Int)<=30))else bc bd))
def jz(e:Expr):Option (Bool) :=
 aN (vS KK (Expr.mk e.Op e.N e.S e.Key e.Args) 200) λx1=>(bif (decide (x1<=200))then(j8 KK (Expr.mk e.Op e.N e.S e.Key e.Args)).bind λx2=>bc x2 else bc bd)
def jA(c0:List Bs8):Nat->(Int)->Option ((Bool)⊕(Unit))
 |0,_=>bh
 |K+1,q=>(bif (decide (q<(c0.length:Int)))then(idx c0 q).bind λx1=>(bif (decide ((x1.length:Int)>30))then bc (bp bd)else jA c0 K (w64 (q+1)))else bc (br ()))
def wy(l:List Bs8):Option (Bool) :=
 (jA l KK 0).bind (xT bc λ_=>bc (decide ((l.length:Int)<=10)))
def A1(c0:List Def)(c1:List au)(c2:List yt)(c3:List zO)(c4:List Cap)(c5:List av)(c6:List zg)(c7:Int):Nat->(Int)->Option ((Bool)⊕(Unit))
 |0,_=>bh
 |K+1,q=>(bif (decide (q<(c0.length:Int)))then(aN (idx c0 q) λx2=>(bif (decide ((x2.aL.length:Int)>30))then bc bg else(idx c0 q).bind λx3=>aN (jz x3.Body) λx4=>bc (!x4))).bind λx1=>(bif x1 then bc (bp bd)else A1 c0 c1 c2 c3 c4 c5 c6 c7 K (w64 (q+1)))else bc (br ()))
def uw(c0:Int)(c1:List Def)(c2:List au)(c3:List yt)(c4:List zO)(c5:List Cap)(c6:List av)(c7:List zg)(c8:Int)(c9:Bs8)(c10:List aw)(c11:Int):Nat->(Int)->Option ((Bool)⊕(Unit))
 |0,_=>bh
 |K+1,q=>(bif (decide (q<(c10.length:Int)))then(idx c10 q).bind λx1=>(bif (decide ((x1.aL.length:Int)>30))then bc (bp bd)else uw c0 c1 c2 c3 c4 c5 c6 c7 c8 c9 c10 c11 K (w64 (q+1)))else bc (br ()))
def vT(c0:List Def)(c1:List au)(c2:List yt)(c3:List zO)(c4:List Cap)(c5:List av)(c6:List zg)(c7:Int):Nat->(Int)->Option ((Bool)⊕(Unit))
 |0,_=>bh
 |K+1,q=>(bif (decide (q<(c1.length:Int)))then(idx c1 q).bind λx1=>aN ((bif (decide ((x1.aL.length:Int)>30))then bc bg else bc (decide ((x1.Rows.length:Int)>64)))) λx2=>(bif x2 then bc (bp bd)else(uw q c0 c1 c2 c3 c4 c5 c6 c7 x1.aL x1.Rows x1.Else KK 0).bind (xT (λq=>bc (bp q)) λ_=>vT c0 c1 c2 c3 c4 c5 c6 c7 K (w64 (q+1))))else bc (br ()))
def A2(c0:List Def)(c1:List au)(c2:List yt)(c3:List zO)(c4:List Cap)(c5:List av)(c6:List zg)(c7:Int):Nat->(Int)->Option ((Bool)⊕(Unit))
 |0,_=>bh
 |K+1,q=>(bif (decide (q<(c2.length:Int)))then(aN (idx c2 q) λx2=>(bif (decide ((x2.aL.length:Int)>30))then bc bg else(idx c2 q).bind λx3=>bc (decide ((x3.aA.length:Int)>64)))).bind λx1=>(bif x1 then bc (bp bd)else A2 c0 c1 c2 c3 c4 c5 c6 c7 K (w64 (q+1)))else bc (br ()))
def kD(c0:List Def)(c1:List au)(c2:List yt)(c3:List zO)(c4:List Cap)(c5:List av)(c6:List zg)(c7:Int):Nat->(Int)->Option ((Bool)⊕(Unit))
 |0,_=>bh
 |K+1,q=>(bif (decide (q<(c3.length:Int)))then(idx c3 q).bind λx1=>aN ((bif (decide ((x1.aL.length:Int)>30))then bc bg else(wy x1.aB).bind λx3=>(bif (!x3)then bc bg else(wy x1.Except).bind λx4=>(bif (!x4)then bc bg else(jz (Expr.mk x1.Test.Op x1.Test.N x1.Test.S x1.Test.Key x1.Test.Args)).bind λx5=>bc (!x5))))) λx2=>(bif x2 then bc (bp bd)else kD c0 c1 c2 c3 c4 c5 c6 c7 K (w64 (q+1)))else bc (br ()))
def A3(c0:List Def)(c1:List au)(c2:List yt)(c3:List zO)(c4:List Cap)(c5:List av)(c6:List zg)(c7:Int):Nat->(Int)->Option ((Bool)⊕(Unit))
 |0,_=>bh
 |K+1,q=>(bif (decide (q<(c4.length:Int)))then(aN (idx c4 q) λx2=>(bif (decide ((x2.aL.length:Int)>30))then bc bg else(idx c4 q).bind λx3=>bc (decide ((x3.aA.length:Int)>64)))).bind λx1=>(bif x1 then bc (bp bd)else A3 c0 c1 c2 c3 c4 c5 c6 c7 K (w64 (q+1)))else bc (br ()))
def A4(c0:List Def)(c1:List au)(c2:List yt)(c3:List zO)(c4:List Cap)(c5:List av)(c6:List zg)(c7:Int):Nat->(Int)->Option ((Bool)⊕(Unit))
 |0,_=>bh
 |K+1,q=>(bif (decide (q<(c5.length:Int)))then(aN (idx c5 q) λx2=>(bif (decide ((x2.aL.length:Int)>30))then bc bg else(idx c5 q).bind λx3=>bc (decide ((x3.Targets.length:Int)>64)))).bind λx1=>(bif x1 then bc (bp bd)else A4 c0 c1 c2 c3 c4 c5 c6 c7 K (w64 (q+1)))else bc (br ()))
def WY(p:yZ):Option (Bool) :=
 aN ((bif (decide ((p.aF.length:Int)>8))then bc bg else(bif (decide ((p.Tables.length:Int)>8))then bc bg else(bif (decide ((p.aB.length:Int)>8))then bc bg else(bif (decide ((p.aE.length:Int)>8))then bc bg else(bif (decide ((p.aJ.length:Int)>8))then bc bg else(bif (decide ((p.aG.length:Int)>8))then bc bg else bc (decide ((p.aK.length:Int)>64))))))))) λx1=>(bif x1 then bc bd else(A1 p.aF p.Tables p.aB p.aE p.aJ p.aG p.aK p.aI KK 0).bind (xT bc λ_=>(vT p.aF p.Tables p.aB p.aE p.aJ p.aG p.aK p.aI KK 0).bind (xT bc λ_=>(A2 p.aF p.Tables p.aB p.aE p.aJ p.aG p.aK p.aI KK 0).bind (xT bc λ_=>(kD p.aF p.Tables p.aB p.aE p.aJ p.aG p.aK p.aI KK 0).bind (xT bc λ_=>(A3 p.aF p.Tables p.aB p.aE p.aJ p.aG p.aK p.aI KK 0).bind (xT bc λ_=>(A4 p.aF p.Tables p.aB p.aE p.aJ p.aG p.aK p.aI KK 0).bind (xT bc λ_=>bc bg)))))))
def zbm(x_:Def)(y:Def):Option (Bool) :=
 (bif (decide (x_.aL=y.aL))then(jj KK (Expr.mk x_.Body.Op x_.Body.N x_.Body.S x_.Body.Key x_.Body.Args) (Expr.mk y.Body.Op y.Body.N y.Body.S y.Body.Key y.Body.Args)).bind λx1=>bc x1 else bc bd)
def vd(c0:List Def)(c1:List Def)(c2:Int):Nat->(Int)->Option ((Bool)⊕(Unit))
 |0,_=>bh
 |K+1,q=>(bif (decide (q<c2))then(idx c1 q).bind λx1=>aN (idx c0 q) λx2=>aN (zbm (Def.mk x1.aL (Expr.mk x1.Body.Op x1.Body.N x1.Body.S x1.Body.Key x1.Body.Args)) (Def.mk x2.aL (Expr.mk x2.Body.Op x2.Body.N x2.Body.S x2.Body.Key x2.Body.Args))) λx3=>(bif (!x3)then bc (bp bd)else vd c0 c1 c2 K (w64 (q+1)))else bc (br ()))
def wD(s1:List Def)(s2:List Def):Option (Bool) :=
 (bif (!(decide ((s1.length:Int)=(s2.length:Int))))then bc bd else(vd s2 s1 (s1.length:Int) KK 0).bind (xT bc λ_=>bc bg))
def j9(c0:List aw)(c1:List aw)(c2:Int):Nat->(Int)->Option ((Bool)⊕(Unit))
 |0,_=>bh
 |K+1,q=>(bif (decide (q<c2))then(idx c0 q).bind λx1=>aN (idx c1 q) λx2=>(bif (!(decide (x1.aL=x2.aL)&&(decide (x1.N=x2.N))))then bc (bp bd)else j9 c0 c1 c2 K (w64 (q+1)))else bc (br ()))
def jX(s1:List aw)(s2:List aw):Option (Bool) :=
 (bif (!(decide ((s1.length:Int)=(s2.length:Int))))then bc bd else(j9 s1 s2 (s1.length:Int) KK 0).bind (xT bc λ_=>bc bg))
def zbn(x_:au)(y:au):Option (Bool) :=
 (bif (decide (x_.aL=y.aL))then(bif (decide (x_.Else=y.Else))then(jX x_.Rows y.Rows).bind λx1=>bc x1 else bc bd)else bc bd)
def ve(c0:List au)(c1:List au)(c2:Int):Nat->(Int)->Option ((Bool)⊕(Unit))
 |0,_=>bh
 |K+1,q=>(bif (decide (q<c2))then(idx c1 q).bind λx1=>aN (idx c0 q) λx2=>aN (zbn x1 x2) λx3=>(bif (!x3)then bc (bp bd)else ve c0 c1 c2 K (w64 (q+1)))else bc (br ()))
def wE(s1:List au)(s2:List au):Option (Bool) :=
 (bif (!(decide ((s1.length:Int)=(s2.length:Int))))then bc bd else(ve s2 s1 (s1.length:Int) KK 0).bind (xT bc λ_=>bc bg))
def vf(c0:List zO)(c1:List zO)(c2:Int):Nat->(Int)->Option ((Bool)⊕(Unit))
 |0,_=>bh
 |K+1,q=>(bif (decide (q<c2))then(idx c1 q).bind λx1=>aN (idx c0 q) λx2=>aN (qE (zO.mk x1.aL x1.aB x1.Except x1.From x1.Until x1.Grace x1.Vary x1.aM (Expr.mk x1.Test.Op x1.Test.N x1.Test.S x1.Test.Key x1.Test.Args) x1.zy x1.Uses x1.Other x1.N) (zO.mk x2.aL x2.aB x2.Except x2.From x2.Until x2.Grace x2.Vary x2.aM (Expr.mk x2.Test.Op x2.Test.N x2.Test.S x2.Test.Key x2.Test.Args) x2.zy x2.Uses x2.Other x2.N)) λx3=>(bif (!x3)then bc (bp bd)else vf c0 c1 c2 K (w64 (q+1)))else bc (br ()))
def wF(s1:List zO)(s2:List zO):Option (Bool) :=
 (bif (!(decide ((s1.length:Int)=(s2.length:Int))))then bc bd else(vf s2 s1 (s1.length:Int) KK 0).bind (xT bc λ_=>bc bg))
def ka(c0:List zV)(c1:List zV)(c2:Int):Nat->(Int)->Option ((Bool)⊕(Unit))
 |0,_=>bh
 |K+1,q=>(bif (decide (q<c2))then(idx c0 q).bind λx1=>aN (idx c1 q) λx2=>(bif (!(decide (x1.X=x2.X)&&(decide (x1.Y=x2.Y))))then bc (bp bd)else ka c0 c1 c2 K (w64 (q+1)))else bc (br ()))
def vn(s1:List zV)(s2:List zV):Option (Bool) :=
 (bif (!(decide ((s1.length:Int)=(s2.length:Int))))then bc bd else(ka s1 s2 (s1.length:Int) KK 0).bind (xT bc λ_=>bc bg))
def zbo(x_:yt)(y:yt):Option (Bool) :=
 (bif (decide (x_.aL=y.aL))then(bif (x_.Overlay==y.Overlay)then(vn x_.aA y.aA).bind λx1=>bc x1 else bc bd)else bc bd)
def vg(c0:List yt)(c1:List yt)(c2:Int):Nat->(Int)->Option ((Bool)⊕(Unit))
 |0,_=>bh
 |K+1,q=>(bif (decide (q<c2))then(idx c1 q).bind λx1=>aN (idx c0 q) λx2=>aN (zbo x1 x2) λx3=>(bif (!x3)then bc (bp bd)else vg c0 c1 c2 K (w64 (q+1)))else bc (br ()))
def wG(s1:List yt)(s2:List yt):Option (Bool) :=
 (bif (!(decide ((s1.length:Int)=(s2.length:Int))))then bc bd else(vg s2 s1 (s1.length:Int) KK 0).bind (xT bc λ_=>bc bg))
def zbp(x_:Cap)(y:Cap):Option (Bool) :=
 (bif (decide (x_.aL=y.aL))then(bif (decide (x_.Load=y.Load))then(bif (decide (x_.Limit=y.Limit))then(vn x_.aA y.aA).bind λx1=>bc x1 else bc bd)else bc bd)else bc bd)
def vh(c0:List Cap)(c1:List Cap)(c2:Int):Nat->(Int)->Option ((Bool)⊕(Unit))
 |0,_=>bh
 |K+1,q=>(bif (decide (q<c2))then(idx c1 q).bind λx1=>aN (idx c0 q) λx2=>aN (zbp x1 x2) λx3=>(bif (!x3)then bc (bp bd)else vh c0 c1 c2 K (w64 (q+1)))else bc (br ()))
def wH(s1:List Cap)(s2:List Cap):Option (Bool) :=
 (bif (!(decide ((s1.length:Int)=(s2.length:Int))))then bc bd else(vh s2 s1 (s1.length:Int) KK 0).bind (xT bc λ_=>bc bg))
def kd(c0:List zg)(c1:List zg)(c2:Int):Nat->(Int)->Option ((Bool)⊕(Unit))
 |0,_=>bh
 |K+1,q=>(bif (decide (q<c2))then(idx c0 q).bind λx1=>aN (idx c1 q) λx2=>(bif (!(decide (x1.X=x2.X)&&(decide (x1.Y=x2.Y)&&(decide (x1.Z_=x2.Z_)))))then bc (bp bd)else kd c0 c1 c2 K (w64 (q+1)))else bc (br ()))
def vq(s1:List zg)(s2:List zg):Option (Bool) :=
 (bif (!(decide ((s1.length:Int)=(s2.length:Int))))then bc bd else(kd s1 s2 (s1.length:Int) KK 0).bind (xT bc λ_=>bc bg))
def zbq(x_:av)(y:av):Option (Bool) :=
 (bif (decide (x_.aL=y.aL))then(bif (decide (x_.Eye.X=y.Eye.X)&&(decide (x_.Eye.Y=y.Eye.Y)&&(decide (x_.Eye.Z_=y.Eye.Z_))))then(bif (decide (x_.Least=y.Least))then(vq x_.Targets y.Targets).bind λx1=>bc x1 else bc bd)else bc bd)else bc bd)
def vi(c0:List av)(c1:List av)(c2:Int):Nat->(Int)->Option ((Bool)⊕(Unit))
 |0,_=>bh
 |K+1,q=>(bif (decide (q<c2))then(idx c1 q).bind λx1=>aN (idx c0 q) λx2=>aN (zbq x1 x2) λx3=>(bif (!x3)then bc (bp bd)else vi c0 c1 c2 K (w64 (q+1)))else bc (br ()))
def wI(s1:List av)(s2:List av):Option (Bool) :=
 (bif (!(decide ((s1.length:Int)=(s2.length:Int))))then bc bd else(vi s2 s1 (s1.length:Int) KK 0).bind (xT bc λ_=>bc bg))
def zop(a:yZ)(b:yZ):Option (Bool) :=
 aN (aN (wD a.aF b.aF) λx2=>(bif x2 then(wE a.Tables b.Tables).bind λx3=>(bif x3 then(wF a.aE b.aE).bind λx4=>bc x4 else bc bd)else bc bd)) λx1=>aN (aN (wG a.aB b.aB) λx6=>(bif x6 then(wH a.aJ b.aJ).bind λx7=>(bif x7 then(wI a.aG b.aG).bind λx8=>bc x8 else bc bd)else bc bd)) λx5=>(bif x1 then(bif x5 then(vq a.aK b.aK).bind λx9=>(bif x9 then bc (decide (a.aI=b.aI))else bc bd)else bc bd)else bc bd)
def xo(c0:Bs8):Nat->(Int×Int×(List Bs8))->Option ((List Bs8))
 |0,_=>bh
 |K+1,q=>(bif (decide (q.2.1<(c0.length:Int)))then(aN (idx c0 q.2.1) λx2=>(bif (decide (((x2.toNat:Nat):Int)=10))then(cut c0 q.1 (w64 (q.2.1+1))).bind λx3=>aN (grd (bf (q.2.2++([x3]:List Bs8))*16<=140737488355328)) λ_=>bc ((w64 (q.2.1+1)),(q.2.2++([x3]:List Bs8)))else bc (q.1,q.2.2))).bind λx1=>xo c0 K (x1.1,(w64 (q.2.1+1)),x1.2)else bc q.2.2)
def JO(s:Bs8):Option ((List Bs8)) :=
 aN (xo s KK (0,0,[])) λx1=>bc x1
def yT(c0:Bs8)(c1:List Bs8)(c2:List Int):Nat->(Int)->Option ((Int)⊕(Unit))
 |0,_=>bh
 |K+1,q=>(bif (decide (q<(((bf c1):Nat):Int)))then(aN (grd (0<=q/\q<(((bf c1):Nat):Int))) λ_=>aN ((c1)[(bX q)]?) λx3=>(bif (decide ((c0.length:Int)>=(x3.length:Int)))then(grd (0<=q/\q<(((bf c1):Nat):Int))).bind λ_=>aN ((c1)[(bX q)]?) λx5=>aN (cut c0 0 (x5.length:Int)) λx6=>aN (grd (0<=q/\q<(((bf c1):Nat):Int))) λ_=>aN ((c1)[(bX q)]?) λx8=>bc (decide (x6=x8))else bc bd)).bind λx1=>(bif x1 then(grd (0<=q/\q<(((bf c2):Nat):Int))).bind λ_=>aN ((c2)[(bX q)]?) λx10=>bc (bp x10)else yT c0 c1 c2 K (w64 (q+1)))else bc (br ()))
def qI(s:Bs8):Option (Int) :=
 (yT s ([zog,wk,qv,zhk,zDg,zNz,zDi,zN0,zvd]:List Bs8) ([0,1,2,2,3,4,5,6,7]:List Int) KK 0).bind (xT bc λ_=>bc 8)
def z8(c0:Int)(c1:Int)(c2:Bool)(c3:Bs8)(c4:List Bs8)(c5:Int)(c6:List Def)(c7:List au)(c8:List yt)(c9:List zO)(c10:List Cap)(c11:List av)(c12:List zg)(c13:Int):Nat->(Bs8×Int)->Option (Bs8)
 |0,_=>bh
 |K+1,q=>(bif (decide (q.2<(c4.length:Int)))then(aN (idx c4 q.2) λx2=>aN (qI x2) λx3=>(bif (decide (x3=(IntKind.i64.wrap ((cv IntKind.i64.bits (w64 (c0+(w64 (5*c5)))) &&& cv IntKind.i64.bits 7).toNat:Int))))then(idx c4 q.2).bind λx4=>aN (grd (bf q.1+bf x4<=9223372036854775807)) λ_=>bc (q.1++x4)else bc q.1)).bind λx1=>z8 c0 c1 c2 c3 c4 c5 c6 c7 c8 c9 c10 c11 c12 c13 K (x1,(w64 (q.2+1)))else bc q.1)
def yl(c0:Int)(c1:Int)(c2:Bool)(c3:Bs8)(c4:List Bs8)(c5:List Def)(c6:List au)(c7:List yt)(c8:List zO)(c9:List Cap)(c10:List av)(c11:List zg)(c12:Int):Nat->(Bs8×Int)->Option (Bs8)
 |0,_=>bh
 |K+1,q=>(bif (decide (q.2<8))then(z8 c0 c1 c2 c3 c4 q.2 c5 c6 c7 c8 c9 c10 c11 c12 KK (q.1,0)).bind λx1=>yl c0 c1 c2 c3 c4 c5 c6 c7 c8 c9 c10 c11 c12 K (x1,(w64 (q.2+1)))else bc q.1)
def yF(c0:Bool)(c1:List Bs8)(c2:Int):Nat->(Bs8×Int)->Option (Bs8)
 |0,_=>bh
 |K+1,q=>(bif (decide (q.2<(c1.length:Int)))then((bif (!(decide (q.2=c2)))then(idx c1 q.2).bind λx2=>aN (grd (bf q.1+bf x2<=9223372036854775807)) λ_=>bc (q.1++x2)else(idx c1 q.2).bind λx4=>aN (idx c1 q.2) λx5=>aN (cut x4 0 (max 0 (w64 ((x5.length:Int)-2)))) λx6=>aN (grd (bf q.1+bf x6<=9223372036854775807)) λ_=>bc (q.1++x6))).bind λx1=>yF c0 c1 c2 K (x1,(w64 (q.2+1)))else bc q.1)
def jB(p:yZ)(turn:Int)(cut_:Int):Option (Bool) :=
 aN JN λx1=>aN (WY p) λx2=>(bif (!x2)then bc x1 else(zdn p).bind λx3=>(bif (!(decide (x3.2=0)))then bc x1 else(JO x3.1).bind λx4=>aN (yl turn cut_ x1 x3.1 x4 p.aF p.Tables p.aB p.aE p.aJ p.aG p.aK p.aI KK (([]:Bs8),0)) λx5=>aN (As x5) λx6=>aN ((bif (!(decide (x6.2.1=0)))then bc bg else(bif (!(decide (x6.1=0)))then bc bg else(bif (!(decide ((x5.length:Int)=(x3.1.length:Int))))then bc bg else(zop p (yZ.mk x6.2.2.2.2.1 x6.2.2.2.2.2.1 x6.2.2.2.2.2.2.1 x6.2.2.2.2.2.2.2.1 x6.2.2.2.2.2.2.2.2.1 x6.2.2.2.2.2.2.2.2.2 x6.2.2.1 x6.2.2.2.1)).bind λx8=>bc (!x8))))) λx7=>(bif x7 then bc bd else(bif (decide ((x4.length:Int)=0))then(bif x1 then bc (decide (x3.1=([]:Bs8)))else bc bd)else(grd ((x4.length:Int)≠0)).bind λ_=>aN (yF x1 x4 (ll (IntKind.i64.wrap ((cv IntKind.i64.bits cut_ &&& cv IntKind.i64.bits 4611686018427387903).toNat:Int)) (x4.length:Int)) KK (([]:Bs8),0)) λx10=>aN (As x10) λx11=>(bif x1 then(bif (decide (x11.2.1=14))then(zop (yZ.mk x11.2.2.2.2.1 x11.2.2.2.2.2.1 x11.2.2.2.2.2.2.1 x11.2.2.2.2.2.2.2.1 x11.2.2.2.2.2.2.2.2.1 x11.2.2.2.2.2.2.2.2.2 x11.2.2.1 x11.2.2.2.1) (yZ.mk [] [] [] [] [] [] [] 0)).bind λx12=>bc x12 else bc bd)else bc bd)))))
end Go.Proofs.YtffencjoddkghaaGreatDoor
