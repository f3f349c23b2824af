/- texts that the proof reaches, part 8 -/
import Derived.Test.YtkmjhipiiifekaaGreatDoorKg
set_option linter.all false
open Bool renaming false->bf,true->bg
open Int renaming toNat->bB,tmod->gS
open List renaming length->ba,map->cN,set->cY
open Option renaming some->aY,bind->aM,none->bh
open Sum renaming inr->bp,inl->bA
set_option maxRecDepth 100000
namespace Go.Proofs.YtkmjhipiiifekaaGreatDoor
open Go Go.RowKit Go.lA Go.EV Go.EQ
abbrev ai:=aj
abbrev aay:=List (ai×Bool)
structure Expr where
 Op:Int
 N:Int
 S:ai
 Key:ai
 fu:(List Expr)
instance:Inhabited Expr:=⟨⟨0,0,[],[],[]⟩⟩
mutual
def VS:Expr->List V
 |⟨a0,a1,a2,a3,a4⟩=>[.int .i64 a0,.int .i64 a1,.str a2,.str a3,.vs 5 (xq a4)]
def xq:List Expr->List (List V)
 |[]=>[]
 |x::r=>VS x::xq r
end
def qx(x:Expr):List V:=[.int .i64 x.Op,.int .i64 x.N,.str x.S,.str x.Key,.vs 5 (xq x.fu)]
def zcs(x:Expr):VS x=qx x:=by cases x;rw[VS];rfl
def o9:∀l:List Expr,xq l=l.map qx
 |[]=>by rw[xq];rfl
 |x::r=>by rw[xq,zcs,o9 r];rfl
structure Def where
 aK:ai
 Body:Expr
 deriving Inhabited
def VT(x:Def):List V:=[.str x.aK,.int .i64 x.Body.Op,.int .i64 x.Body.N,.str x.Body.S,.str x.Body.Key,.vs 5 (xq x.Body.fu)]
structure av where
 aK:ai
 N:Int
 deriving Inhabited,DecidableEq
def Aa(x:av):List V:=[.str x.aK,.int .i64 x.N]
structure ar where
 aK:ai
 Rows:(List av)
 mD:Int
 deriving Inhabited,DecidableEq
def Ab(x:ar):List V:=[.str x.aK,.vs 2 (cN Aa x.Rows),.int .i64 x.mD]
structure zt where
 X:Int
 Y:Int
 deriving Inhabited,DecidableEq
def kY(x:zt):List V:=[.int .i64 x.X,.int .i64 x.Y]
structure zq where
 aK:ai
 lQ:Bool
 ay:(List zt)
 deriving Inhabited,DecidableEq
def JD(x:zq):List V:=[.str x.aK,.bool x.lQ,.vs 2 (cN kY x.ay)]
structure zg where
 me:Int
 mb:Int
 l8:Int
 Den:Int
 deriving Inhabited,DecidableEq
def VU(x:zg):List V:=[.int .i64 x.me,.int .i64 x.mb,.int .i64 x.l8,.int .i64 x.Den]
structure za where
 aK:ai
 aA:List ai
 Except:List ai
 il:Int
 hJ:Int
 iI:Int
 iN:Bool
 aL:Int
 Test:Expr
 zg:zg
 Uses:Int
 iD:Int
 N:Int
 deriving Inhabited
def JE(x:za):List V:=[.str x.aK,.vs 1 (cN EV.encS x.aA),.vs 1 (cN EV.encS x.Except),.int .i64 x.il,.int .i64 x.hJ,.int .i64 x.iI,.bool x.iN,.int .i64 x.aL,.int .i64 x.Test.Op,.int .i64 x.Test.N,.str x.Test.S,.str x.Test.Key,.vs 5 (xq x.Test.fu),.int .i64 x.zg.me,.int .i64 x.zg.mb,.int .i64 x.zg.l8,.int .i64 x.zg.Den,.int .i64 x.Uses,.int .i64 x.iD,.int .i64 x.N]
structure eC where
 aK:ai
 oS:Int
 mM:Int
 ay:(List zt)
 deriving Inhabited,DecidableEq
def VV(x:eC):List V:=[.str x.aK,.int .i64 x.oS,.int .i64 x.mM,.vs 2 (cN kY x.ay)]
structure zh where
 X:Int
 Y:Int
 Z_:Int
 deriving Inhabited,DecidableEq
def kz(x:zh):List V:=[.int .i64 x.X,.int .i64 x.Y,.int .i64 x.Z_]
structure au where
 aK:ai
 l3:zh
 oU:Int
 lL:(List zh)
 deriving Inhabited,DecidableEq
def JF(x:au):List V:=[.str x.aK,.int .i64 x.l3.X,.int .i64 x.l3.Y,.int .i64 x.l3.Z_,.int .i64 x.oU,.vs 3 (cN kz x.lL)]
structure aq where
 aL:Int
 Text:ai
 N:Int
 Pos:Int
 deriving Inhabited,DecidableEq
def Rz(x:aq):List V:=[.int .i64 x.aL,.str x.Text,.int .i64 x.N,.int .i64 x.Pos]
structure yf where
 aE:(List Def)
 Tables:(List ar)
 aA:(List zq)
 aB:(List za)
 aI:(List eC)
 aF:(List au)
 aJ:(List zh)
 aG:Int
 deriving Inhabited
def A6(x:yf):List V:=[.vs 6 (cN VT x.aE),.vs 3 (cN Ab x.Tables),.vs 3 (cN JD x.aA),.vs 20 (cN JE x.aB),.vs 4 (cN VV x.aI),.vs 6 (cN JF x.aF),.vs 3 (cN kz x.aJ),.int .i64 x.aG]
structure zA where
 aL:Int
 aK:ai
 Key:ai
 N:Int
 za:za
 Body:Expr
 ay:(List zt)
 deriving Inhabited
def A7(x:zA):List V:=[.int .i64 x.aL,.str x.aK,.str x.Key,.int .i64 x.N,.str x.za.aK,.vs 1 (cN EV.encS x.za.aA),.vs 1 (cN EV.encS x.za.Except),.int .i64 x.za.il,.int .i64 x.za.hJ,.int .i64 x.za.iI,.bool x.za.iN,.int .i64 x.za.aL,.int .i64 x.za.Test.Op,.int .i64 x.za.Test.N,.str x.za.Test.S,.str x.za.Test.Key,.vs 5 (xq x.za.Test.fu),.int .i64 x.za.zg.me,.int .i64 x.za.zg.mb,.int .i64 x.za.zg.l8,.int .i64 x.za.zg.Den,.int .i64 x.za.Uses,.int .i64 x.za.iD,.int .i64 x.za.N,.int .i64 x.Body.Op,.int .i64 x.Body.N,.str x.Body.S,.str x.Body.Key,.vs 5 (xq x.Body.fu),.vs 2 (cN kY x.ay)]
structure yl where
 X0:Int
 Y0:Int
 X1:Int
 Y1:Int
 deriving Inhabited,DecidableEq
def A8(x:yl):List V:=[.int .i64 x.X0,.int .i64 x.Y0,.int .i64 x.X1,.int .i64 x.Y1]
structure zk where
 a:zt
 b:zt
 deriving Inhabited,DecidableEq
def ox(x:zk):List V:=[.int .i64 x.a.X,.int .i64 x.a.Y,.int .i64 x.b.X,.int .i64 x.b.Y]
structure zj where
 from_:Int
 q_:Int
 deriving Inhabited,DecidableEq
def kZ(x:zj):List V:=[.int .i64 x.from_,.int .i64 x.q_]
structure zo where
 x0:Int
 x1:Int
 column:(List zj)
 deriving Inhabited,DecidableEq
def oy(x:zo):List V:=[.int .i64 x.x0,.int .i64 x.x1,.vs 2 (cN kZ x.column)]
structure EB where
 k:Int
 n:ai
 y:ai
 m:Int
 r0:ai
 r1:List ai
 r2:List ai
 r3:Int
 r4:Int
 r5:Int
 r6:Bool
 r7:Int
 r8:Int
 r9:Int
 E6:ai
 E7:ai
 E8:(List Expr)
 E9:Int
 E_:Int
 Fb:Int
 r16:Int
 Fc:Int
 Fe:Int
 Ff:Int
 b0:Int
 b1:Int
 b2:ai
 b3:ai
 b4:(List Expr)
 c:(List zt)
def qo(x:Int×ai×ai×Int×ai×(List ai)×(List ai)×Int×Int×Int×Bool×Int×Int×Int×ai×ai×(List Expr)×Int×Int×Int×Int×Int×Int×Int×Int×Int×ai×ai×(List Expr)×(List zt)):EB:=⟨x.1,x.2.1,x.2.2.1,x.2.2.2.1,x.2.2.2.2.1,x.2.2.2.2.2.1,x.2.2.2.2.2.2.1,x.2.2.2.2.2.2.2.1,x.2.2.2.2.2.2.2.2.1,x.2.2.2.2.2.2.2.2.2.1,x.2.2.2.2.2.2.2.2.2.2.1,x.2.2.2.2.2.2.2.2.2.2.2.1,x.2.2.2.2.2.2.2.2.2.2.2.2.1,x.2.2.2.2.2.2.2.2.2.2.2.2.2.1,x.2.2.2.2.2.2.2.2.2.2.2.2.2.2.1,x.2.2.2.2.2.2.2.2.2.2.2.2.2.2.2.1,x.2.2.2.2.2.2.2.2.2.2.2.2.2.2.2.2.1,x.2.2.2.2.2.2.2.2.2.2.2.2.2.2.2.2.2.1,x.2.2.2.2.2.2.2.2.2.2.2.2.2.2.2.2.2.2.1,x.2.2.2.2.2.2.2.2.2.2.2.2.2.2.2.2.2.2.2.1,x.2.2.2.2.2.2.2.2.2.2.2.2.2.2.2.2.2.2.2.2.1,x.2.2.2.2.2.2.2.2.2.2.2.2.2.2.2.2.2.2.2.2.2.1,x.2.2.2.2.2.2.2.2.2.2.2.2.2.2.2.2.2.2.2.2.2.2.1,x.2.2.2.2.2.2.2.2.2.2.2.2.2.2.2.2.2.2.2.2.2.2.2.1,x.2.2.2.2.2.2.2.2.2.2.2.2.2.2.2.2.2.2.2.2.2.2.2.2.1,x.2.2.2.2.2.2.2.2.2.2.2.2.2.2.2.2.2.2.2.2.2.2.2.2.2.1,x.2.2.2.2.2.2.2.2.2.2.2.2.2.2.2.2.2.2.2.2.2.2.2.2.2.2.1,x.2.2.2.2.2.2.2.2.2.2.2.2.2.2.2.2.2.2.2.2.2.2.2.2.2.2.2.1,x.2.2.2.2.2.2.2.2.2.2.2.2.2.2.2.2.2.2.2.2.2.2.2.2.2.2.2.2.1,x.2.2.2.2.2.2.2.2.2.2.2.2.2.2.2.2.2.2.2.2.2.2.2.2.2.2.2.2.2⟩
def tP{R:Type}(x:Int×ai×ai×Int×ai×(List ai)×(List ai)×Int×Int×Int×Bool×Int×Int×Int×ai×ai×(List Expr)×Int×Int×Int×Int×Int×Int×Int×Int×Int×ai×ai×(List Expr)×(List zt)×R):EB:=⟨x.1,x.2.1,x.2.2.1,x.2.2.2.1,x.2.2.2.2.1,x.2.2.2.2.2.1,x.2.2.2.2.2.2.1,x.2.2.2.2.2.2.2.1,x.2.2.2.2.2.2.2.2.1,x.2.2.2.2.2.2.2.2.2.1,x.2.2.2.2.2.2.2.2.2.2.1,x.2.2.2.2.2.2.2.2.2.2.2.1,x.2.2.2.2.2.2.2.2.2.2.2.2.1,x.2.2.2.2.2.2.2.2.2.2.2.2.2.1,x.2.2.2.2.2.2.2.2.2.2.2.2.2.2.1,x.2.2.2.2.2.2.2.2.2.2.2.2.2.2.2.1,x.2.2.2.2.2.2.2.2.2.2.2.2.2.2.2.2.1,x.2.2.2.2.2.2.2.2.2.2.2.2.2.2.2.2.2.1,x.2.2.2.2.2.2.2.2.2.2.2.2.2.2.2.2.2.2.1,x.2.2.2.2.2.2.2.2.2.2.2.2.2.2.2.2.2.2.2.1,x.2.2.2.2.2.2.2.2.2.2.2.2.2.2.2.2.2.2.2.2.1,x.2.2.2.2.2.2.2.2.2.2.2.2.2.2.2.2.2.2.2.2.2.1,x.2.2.2.2.2.2.2.2.2.2.2.2.2.2.2.2.2.2.2.2.2.2.1,x.2.2.2.2.2.2.2.2.2.2.2.2.2.2.2.2.2.2.2.2.2.2.2.1,x.2.2.2.2.2.2.2.2.2.2.2.2.2.2.2.2.2.2.2.2.2.2.2.2.1,x.2.2.2.2.2.2.2.2.2.2.2.2.2.2.2.2.2.2.2.2.2.2.2.2.2.1,x.2.2.2.2.2.2.2.2.2.2.2.2.2.2.2.2.2.2.2.2.2.2.2.2.2.2.1,x.2.2.2.2.2.2.2.2.2.2.2.2.2.2.2.2.2.2.2.2.2.2.2.2.2.2.2.1,x.2.2.2.2.2.2.2.2.2.2.2.2.2.2.2.2.2.2.2.2.2.2.2.2.2.2.2.2.1,x.2.2.2.2.2.2.2.2.2.2.2.2.2.2.2.2.2.2.2.2.2.2.2.2.2.2.2.2.2.1⟩
def sT{R:Type}(x:Int×ai×ai×Int×ai×(List ai)×(List ai)×Int×Int×Int×Bool×Int×Int×Int×ai×ai×(List Expr)×Int×Int×Int×Int×Int×Int×Int×Int×Int×ai×ai×(List Expr)×(List zt)×R):R:=x.2.2.2.2.2.2.2.2.2.2.2.2.2.2.2.2.2.2.2.2.2.2.2.2.2.2.2.2.2.2
structure RB where
 r0:ai
 r1:List ai
 r2:List ai
 r3:Int
 r4:Int
 r5:Int
 r6:Bool
 r7:Int
 r8:Int
 r9:Int
 E6:ai
 E7:ai
 E8:(List Expr)
 E9:Int
 E_:Int
 Fb:Int
 r16:Int
 Fc:Int
 Fe:Int
 Ff:Int
def MF(x:ai×(List ai)×(List ai)×Int×Int×Int×Bool×Int×Int×Int×ai×ai×(List Expr)×Int×Int×Int×Int×Int×Int×Int):RB:=⟨x.1,x.2.1,x.2.2.1,x.2.2.2.1,x.2.2.2.2.1,x.2.2.2.2.2.1,x.2.2.2.2.2.2.1,x.2.2.2.2.2.2.2.1,x.2.2.2.2.2.2.2.2.1,x.2.2.2.2.2.2.2.2.2.1,x.2.2.2.2.2.2.2.2.2.2.1,x.2.2.2.2.2.2.2.2.2.2.2.1,x.2.2.2.2.2.2.2.2.2.2.2.2.1,x.2.2.2.2.2.2.2.2.2.2.2.2.2.1,x.2.2.2.2.2.2.2.2.2.2.2.2.2.2.1,x.2.2.2.2.2.2.2.2.2.2.2.2.2.2.2.1,x.2.2.2.2.2.2.2.2.2.2.2.2.2.2.2.2.1,x.2.2.2.2.2.2.2.2.2.2.2.2.2.2.2.2.2.1,x.2.2.2.2.2.2.2.2.2.2.2.2.2.2.2.2.2.2.1,x.2.2.2.2.2.2.2.2.2.2.2.2.2.2.2.2.2.2.2⟩
def abq:ai:=[48]
def mw:ai:=[32]
def ze:ai:=[32,97,110,100,32,97,112,97,114,116,32,98,97,115,101,32,99,97,112,32,100,101,102,105,110,101,32,101,108,115,101,32,101,120,99,101,112,116,32,102,114,111,109,32,103,114,97,99,101,32,104,111,117,114,115,32,105,102,32,105,110,32,108,101,97,115,116,32,110,111,116,32,111,114,32,111,118,101,114,108,97,121,32,112,108,97,110,101,32,114,117,108,101,32,115,108,111,112,101,32,115,117,110,32,116,97,98,108,101,32,116,104,101,110,32,117,110,116,105,108,32,117,115,101,115,32,118,97,114,121,32,118,105,101,119,32,122,111,110,101,32]
def uk:ai:=[32,59,10]
def I':ai:=[97]
def Lo:ai:=[100,101,102,105,110,101]
def Cz:ai:=[101,110,100]
def DS:ai:=[101,110,100,32]
def zBx:ai:=[104,111,109,101]
def Kt:ai:=[108,105,109,105,116]
def JG:ai:=[108,105,109,105,116,32]
def aau:ai:=[108,105,109,105,116,32,114,111,97,100,115,32,54,48,59,32,101,110,100,32,97,32,57,48,59]
def RA:ai:=[111,118,101,114,108,97,121]
def TU:ai:=[114,111,97,100,115]
def CA:ai:=[114,111,119]
def VW:ai:=[114,111,119,32]
def aap:ai:=[114,111,119,32,116,114,97,102,102,105,99,32,104,111,109,101,32,53,32,59,10]
def DT:ai:=[114,117,108,101]
def zo1:ai:=[116,114,97,102,102,105,99]
def aeJ:ai:=[37]
def aeK:ai:=[40]
def aeL:ai:=[41]
def aeM:ai:=[42]
def aeN:ai:=[43]
def aeO:ai:=[44]
def MG:ai:=[45]
def zBy:ai:=[45,32]
def aeP:ai:=[47]
def aeQ:ai:=[58]
def PQ:ai:=[59]
def aeR:ai:=[60]
def ztq:ai:=[60,61]
def aeS:ai:=[61]
def ztr:ai:=[61,61]
def L':ai:=[122,111,110,101]
variable[Fuel]
def RC(c_:Int):Option (Bool):=(bif (decide (c_=32))then aY bg else(bif (decide (c_=9))then aY bg else aY (decide (c_=10))))
def HW(c0:ai):Nat->(Int)->Option (Int)
 |0,_=>bh
 |K+1,q=>aM ((bif (decide (q<(c0.length:Int)))then(idx c0 q).bind λx2=>aM (RC ((x2.toNat:Nat):Int)) λx3=>aY x3 else aY bf)) λx1=>(bif x1 then HW c0 K (b_ (q+1))else aY q)
def S8(s:ai):Option (Int):=aM (HW s KK 0) λx1=>aY x1
def vF(c_:Int):Option (Bool):=(bif (decide (c_>=97))then aY (decide (c_<=122))else aY bf)
def qb(c_:Int):Option (Bool):=(bif (decide (c_>=48))then aY (decide (c_<=57))else aY bf)
def YU(c_:Int):Option (Bool):=aM (vF c_) λx1=>(bif x1 then aY bg else(qb c_).bind λx2=>aY x2)
def uV(c0:ai):Nat->(Int)->Option (Int)
 |0,_=>bh
 |K+1,q=>aM ((bif (decide (q<(c0.length:Int)))then(idx c0 q).bind λx2=>aM (YU ((x2.toNat:Nat):Int)) λx3=>aY x3 else aY bf)) λx1=>(bif x1 then uV c0 K (b_ (q+1))else aY q)
def YV(s:ai):Option (Int):=aM (uV s KK 0) λx1=>aY x1
def um(c_:Int):Option (Bool):=aM (vF c_) λx1=>(bif x1 then aY bg else(qb c_).bind λx2=>aY x2)
def kd(c0:ai):Nat->(Int)->Option (Int)
 |0,_=>bh
 |K+1,q=>aM ((bif (decide (q<(c0.length:Int)))then(idx c0 q).bind λx2=>aM (um ((x2.toNat:Nat):Int)) λx3=>aY x3 else aY bf)) λx1=>(bif x1 then kd c0 K (b_ (q+1))else aY q)
def A9(s:ai):Option (Int):=aM (kd s KK 0) λx1=>aY x1
def uW(s:ai):Option (Bool):=aM ((bif (decide (s=([]:ai)))then aY bg else(idx s 0).bind λx2=>aM (vF ((x2.toNat:Nat):Int)) λx3=>(bif (!x3)then aY bg else aY (decide ((s.length:Int)>20))))) λx1=>(bif x1 then aY bf else(A9 s).bind λx4=>aY (decide (x4=(s.length:Int))))
def uX(c0:ai):Nat->(Int)->Option (Int)
 |0,_=>bh
 |K+1,q=>aM ((bif (decide (q<(c0.length:Int)))then(idx c0 q).bind λx2=>aM (qb ((x2.toNat:Nat):Int)) λx3=>aY x3 else aY bf)) λx1=>(bif x1 then uX c0 K (b_ (q+1))else aY q)
def Ku(s:ai):Option (Int):=aM (uX s KK 0) λx1=>aY x1
def uY(c0:ai)(c1:Int):Nat->(Int×Int)->Option (Int)
 |0,_=>bh
 |K+1,q=>(bif (decide (q.2<c1))then(idx c0 q.2).bind λx1=>uY c0 c1 K ((b_ ((b_ (10*q.1))+(b_ ((IntKind.u8.wrap (((x1.toNat:Nat):Int)-48)))))),(b_ (q.2+1)))else aY q.1)
def YW(s:ai):Option (Int×Bool):=aM ((bif (decide (s=([]:ai)))then aY bg else(Ku s).bind λx2=>(bif (!(decide (x2=(s.length:Int))))then aY bg else(idx s 0).bind λx3=>(bif (decide (((x3.toNat:Nat):Int)=48))then(bif (!(decide (s=abq)))then aY bg else aY (decide ((s.length:Int)>13)))else aY (decide ((s.length:Int)>13)))))) λx1=>(bif x1 then aY (0,bf)else(uY s (s.length:Int) KK (0,0)).bind λx4=>(bif (decide (x4>1099511627776))then aY (0,bf)else aY (x4,bg)))
def VX(a0:ai)(a1:ai):Option (Bool):=VD a0 a1
def HX(c0:ai)(c1:ai)(c2:ai)(c3:ai)(c4:ai)(c5:ai)(c6:ai)(c7:ai)(c8:ai)(c9:ai)(iE:ai)(iK:ai)(iQ:ai)(iF:ai)(iL:ai)(iX:Int)(lV:ai):Nat->(Int)->Option ((Int×Int×ai×Int×Int)⊕(Unit))
 |0,_=>bh
 |K+1,q=>(bif (decide (q<14))then(idx (α:=ai) ([c1,c2,c3,c4,c5,c6,c7,c8,c9,iE,iK,iQ,iF,iL]:List ai) q).bind λx1=>aM (VX c0 x1) λx2=>(bif x2 then aY (bA (0,2,x1,0,0))else HX c0 c1 c2 c3 c4 c5 c6 c7 c8 c9 iE iK iQ iF iL iX lV K (b_ (q+1)))else aY (bp ()))
def S9(s:ai):Option (Int×Int×ai×Int×Int):=aM (idx s 0) λx1=>aM (vF ((x1.toNat:Nat):Int)) λx2=>(bif x2 then(YV s).bind λx3=>aM (cut s 0 x3) λx4=>aM (uW x4) λx5=>(bif (!x5)then aY (15,0,([]:ai),0,0)else aY (0,0,x4,0,0))else(idx s 0).bind λx6=>aM (qb ((x6.toNat:Nat):Int)) λx7=>(bif x7 then(Ku s).bind λx8=>aM (cut s 0 x8) λx9=>aM (YW x9) λmu=>(bif (!mu.2)then aY (3,0,([]:ai),0,0)else aY (0,1,x9,mu.1,0))else(HX s ztq ztr PQ aeO aeQ aeS aeR aeN MG aeM aeP aeJ aeK aeL 0 ([]:ai) KK 0).bind (yg aY λ_=>aY (13,0,([]:ai),0,0))))
def Kv(c0:ai):Nat->(Int×(List aq))->Option (((List aq)×Int×Int)⊕(Unit))
 |0,_=>bh
 |K+1,q=>aM (cut c0 q.1 (c0.length:Int)) λx1=>aM (S8 x1) λx2=>(bif (decide ((b_ (q.1+x2))=(c0.length:Int)))then(fN (ba (q.2++([(aq.mk 3 ([]:ai) 0 (b_ (q.1+x2)))]:List aq))*40<=140737488355328)).bind λ_=>aY (bA ((q.2++([(aq.mk 3 ([]:ai) 0 (b_ (q.1+x2)))]:List aq)),0,0))else(cut c0 (b_ (q.1+x2)) (c0.length:Int)).bind λx4=>aM (S9 x4) λx5=>(bif (!(decide (x5.1=0)))then aY (bA ([],(b_ (q.1+x2)),x5.1))else(fN (ba (q.2++([(aq.mk x5.2.1 x5.2.2.1 x5.2.2.2.1 (b_ (q.1+x2)))]:List aq))*40<=140737488355328)).bind λ_=>Kv c0 K ((b_ ((b_ (q.1+x2))+(x5.2.2.1.length:Int))),(q.2++([(aq.mk x5.2.1 x5.2.2.1 x5.2.2.2.1 (b_ (q.1+x2)))]:List aq)))))
def TV(s:ai):Option ((List aq)×Int×Int):=(bif (decide ((s.length:Int)>8000))then aY ([],0,6)else(Kv s KK (0,[])).bind (yg aY λ_=>bh))
def HA(s:List aq):Option ((List aq)):=aM (fN (ba (([]:List aq)++s)*40<=140737488355328)) λ_=>aY (([]:List aq)++s)
def Ha(a0:ai)(a1:ai):Option (Bool):=A5 a0 a1
def JH(s:ai):Option (Bool):=aM (uW s) λx1=>(bif x1 then(fN (ba mw+ba s<=9223372036854775807)).bind λ_=>aM (fN (ba (mw++s)+ba mw<=9223372036854775807)) λ_=>aM (Ha ze ((mw++s)++mw)) λx4=>aY (!x4)else aY bf)
def HY(c0:List aq)(c1:Int)(c2:Int)(c3:Int)(c4:List aq)(c5:Int)(c6:ai)(c7:List ai)(c8:Bool)(c9:List Expr)(iE:List zt):Nat->(Int×Int×Int×Int×Int×Int×Int×Int×Int×Int×Int×Int×Int×Int×Int×Int×Int×Int)->Option ((Int×Int×ai×ai×Int×ai×(List ai)×(List ai)×Int×Int×Int×Bool×Int×Int×Int×ai×ai×(List Expr)×Int×Int×Int×Int×Int×Int×Int×Int×Int×ai×ai×(List Expr)×(List zt))⊕(Int×Int×Int×Int×Int×Int×Int×Int×Int×Int×Int×Int×Int×Int×Int×Int×Int))
 |0,_=>bh
 |K+1,q=>(bif (decide (q.1<c5))then(idx c4 q.1).bind λx1=>aM ((bif (!(decide (x1.aL=0)))then aY (bg,q.2.1,q.2.2.1,q.2.2.2.1,q.2.2.2.2.1,q.2.2.2.2.2.1,q.2.2.2.2.2.2.1,q.2.2.2.2.2.2.2.1,q.2.2.2.2.2.2.2.2.1,q.2.2.2.2.2.2.2.2.2.1,q.2.2.2.2.2.2.2.2.2.2.1,q.2.2.2.2.2.2.2.2.2.2.2.1,q.2.2.2.2.2.2.2.2.2.2.2.2.1,q.2.2.2.2.2.2.2.2.2.2.2.2.2.1,q.2.2.2.2.2.2.2.2.2.2.2.2.2.2.1,q.2.2.2.2.2.2.2.2.2.2.2.2.2.2.2.1,q.2.2.2.2.2.2.2.2.2.2.2.2.2.2.2.2.1,q.2.2.2.2.2.2.2.2.2.2.2.2.2.2.2.2.2)else(JH x1.Text).bind λx3=>aY ((!x3),q.2.1,q.2.2.1,q.2.2.2.1,q.2.2.2.2.1,q.2.2.2.2.2.1,q.2.2.2.2.2.2.1,q.2.2.2.2.2.2.2.1,q.2.2.2.2.2.2.2.2.1,q.2.2.2.2.2.2.2.2.2.1,q.2.2.2.2.2.2.2.2.2.2.1,q.2.2.2.2.2.2.2.2.2.2.2.1,q.2.2.2.2.2.2.2.2.2.2.2.2.1,q.2.2.2.2.2.2.2.2.2.2.2.2.2.1,q.2.2.2.2.2.2.2.2.2.2.2.2.2.2.1,q.2.2.2.2.2.2.2.2.2.2.2.2.2.2.2.1,q.2.2.2.2.2.2.2.2.2.2.2.2.2.2.2.2.1,q.2.2.2.2.2.2.2.2.2.2.2.2.2.2.2.2.2))) λx2=>(bif x2.1 then aY (bA (14,0,([]:ai),([]:ai),0,([]:ai),[],[],0,0,0,bf,0,0,0,([]:ai),([]:ai),[],0,0,0,0,0,0,0,0,0,([]:ai),([]:ai),[],[]))else HY c0 c1 c2 c3 c4 c5 c6 c7 c8 c9 iE K ((b_ (q.1+1)),x2.2.1,x2.2.2.1,x2.2.2.2.1,x2.2.2.2.2.1,x2.2.2.2.2.2.1,x2.2.2.2.2.2.2.1,x2.2.2.2.2.2.2.2.1,x2.2.2.2.2.2.2.2.2.1,x2.2.2.2.2.2.2.2.2.2.1,x2.2.2.2.2.2.2.2.2.2.2.1,x2.2.2.2.2.2.2.2.2.2.2.2.1,x2.2.2.2.2.2.2.2.2.2.2.2.2.1,x2.2.2.2.2.2.2.2.2.2.2.2.2.2.1,x2.2.2.2.2.2.2.2.2.2.2.2.2.2.2.1,x2.2.2.2.2.2.2.2.2.2.2.2.2.2.2.2.1,x2.2.2.2.2.2.2.2.2.2.2.2.2.2.2.2.2.1,x2.2.2.2.2.2.2.2.2.2.2.2.2.2.2.2.2.2))else aY (bp (q.2.1,q.2.2.1,q.2.2.2.1,q.2.2.2.2.1,q.2.2.2.2.2.1,q.2.2.2.2.2.2.1,q.2.2.2.2.2.2.2.1,q.2.2.2.2.2.2.2.2.1,q.2.2.2.2.2.2.2.2.2.1,q.2.2.2.2.2.2.2.2.2.2.1,q.2.2.2.2.2.2.2.2.2.2.2.1,q.2.2.2.2.2.2.2.2.2.2.2.2.1,q.2.2.2.2.2.2.2.2.2.2.2.2.2.1,q.2.2.2.2.2.2.2.2.2.2.2.2.2.2.1,q.2.2.2.2.2.2.2.2.2.2.2.2.2.2.2.1,q.2.2.2.2.2.2.2.2.2.2.2.2.2.2.2.2.1,q.2.2.2.2.2.2.2.2.2.2.2.2.2.2.2.2.2)))
def S_(l:List aq):Option (Int×Int×ai×ai×Int×ai×(List ai)×(List ai)×Int×Int×Int×Bool×Int×Int×Int×ai×ai×(List Expr)×Int×Int×Int×Int×Int×Int×Int×Int×Int×ai×ai×(List Expr)×(List zt)):=aM (idx l 0) λx1=>(bif (!(vC x1.Text (Hx Kt 5 (Hx CA 3 (Hx Cz 1 ([]:List (ai×Int)))))).isSome)then aY (14,0,([]:ai),([]:ai),0,([]:ai),[],[],0,0,0,bf,0,0,0,([]:ai),([]:ai),[],0,0,0,0,0,0,0,0,0,([]:ai),([]:ai),[],[])else((bif (decide (((vC x1.Text (Hx Kt 5 (Hx CA 3 (Hx Cz 1 ([]:List (ai×Int)))))).getD 0)=3))then((bif (decide ((l.length:Int)>3))then(idx l 3).bind λx4=>aY (decide (x4.Text=MG))else aY bf)).bind λx3=>(bif x3 then(HA l).bind λ_=>bh else aY 2)else aY 1)).bind λx2=>aM ((bif (!(decide ((l.length:Int)=(b_ (x2+3)))))then aY bg else(idx l (b_ (x2+1))).bind λx7=>aY (!(decide (x7.aL=1))))) λx6=>(bif x6 then aY (14,0,([]:ai),([]:ai),0,([]:ai),[],[],0,0,0,bf,0,0,0,([]:ai),([]:ai),[],0,0,0,0,0,0,0,0,0,([]:ai),([]:ai),[],[])else(cut l 1 (b_ (x2+1))).bind λx8=>(HY l ((vC x1.Text (Hx Kt 5 (Hx CA 3 (Hx Cz 1 ([]:List (ai×Int)))))).getD 0) x2 1 x8 (x8.length:Int) ([]:ai) [] bf [] [] KK (0,0,0,0,0,0,0,0,0,0,0,0,0,0,0,0,0,0)).bind (yg aY λx9=>aM (idx l 1) λmu=>aM (idx l (b_ (x2+1))) λlT=>aM ((bif (decide (((vC x1.Text (Hx Kt 5 (Hx CA 3 (Hx Cz 1 ([]:List (ai×Int)))))).getD 0)=3))then(idx l 2).bind λnA=>aY nA.Text else aY ([]:ai))) λnz=>aM ((bif (decide (((vC x1.Text (Hx Kt 5 (Hx CA 3 (Hx Cz 1 ([]:List (ai×Int)))))).getD 0)=1))then(bif (decide ((b_ (1*lT.N))<1))then aY bg else aY (decide ((b_ (1*lT.N))>1073741824)))else aY bf)) λpL=>(bif pL then aY (3,0,([]:ai),([]:ai),0,([]:ai),[],[],0,0,0,bf,0,0,0,([]:ai),([]:ai),[],0,0,0,0,0,0,0,0,0,([]:ai),([]:ai),[],[])else aY (0,((vC x1.Text (Hx Kt 5 (Hx CA 3 (Hx Cz 1 ([]:List (ai×Int)))))).getD 0),mu.Text,nz,(b_ (1*lT.N)),([]:ai),[],[],0,0,0,bf,0,0,0,([]:ai),([]:ai),[],0,0,0,0,0,0,0,0,0,([]:ai),([]:ai),[],[])))))
def Ac(c0:ai)(c1:List aq)(c2:Int):Nat->(Int×Int×(List (List aq)))->Option (Int×(List (List aq)))
 |0,_=>bh
 |K+1,q=>(bif (decide (q.2.1<c2))then(aM (idx c1 q.2.1) λx2=>aM ((bif (decide (x2.aL=2))then aY (q.2.1,q.2.1,(decide (x2.Text=PQ)))else aY (q.2.1,q.2.1,bf))) λx3=>(bif x3.2.2 then(cut c1 q.1 (b_ (x3.1+1))).bind λx4=>aM (fN (ba (q.2.2++([x4]:List (List aq)))*24<=140737488355328)) λ_=>aY ((b_ (x3.1+1)),x3.2.1,(q.2.2++([x4]:List (List aq))))else aY (q.1,x3.2.1,q.2.2))).bind λx1=>Ac c0 c1 c2 K (x1.1,(b_ (x1.2.1+1)),x1.2.2)else aY (q.1,q.2.2))
def Ad(c0:ai)(c1:Int)(c2:List (List aq)):Nat->(Int×(List zA))->Option (((List zA)×Int)⊕((List zA)))
 |0,_=>bh
 |K+1,q=>(bif (decide (q.1<c1))then(fN (0<=q.1/\q.1<(((ba c2):Nat):Int))).bind λ_=>aM ((c2)[(bB q.1)]?) λx2=>aM (idx x2 0) λx3=>aM ((bif (decide (x3.Text=DT))then aY (decide (x3.Text=DT))else(bif (decide (x3.Text=Lo))then aY (decide (x3.Text=Lo))else(bif (decide (x3.Text=L'))then aY (decide (x3.Text=L'))else aY (decide (x3.Text=RA)))))) λx4=>(bif x4 then(idx x2 0).bind λx5=>aM (idx x2 (b_ ((x2.length:Int)-1))) λx6=>aM (cut c0 x5.Pos (b_ (x6.Pos+1))) λ_=>bh else(S_ x2).bind λx8=>(bif (!(decide (x8.1=0)))then aY (bA ([],x8.1))else(fN (ba (q.2++([(zA.mk x8.2.1 x8.2.2.1 x8.2.2.2.1 x8.2.2.2.2.1 (za.mk x8.2.2.2.2.2.1 x8.2.2.2.2.2.2.1 x8.2.2.2.2.2.2.2.1 x8.2.2.2.2.2.2.2.2.1 x8.2.2.2.2.2.2.2.2.2.1 x8.2.2.2.2.2.2.2.2.2.2.1 x8.2.2.2.2.2.2.2.2.2.2.2.1 x8.2.2.2.2.2.2.2.2.2.2.2.2.1 (Expr.mk x8.2.2.2.2.2.2.2.2.2.2.2.2.2.1 x8.2.2.2.2.2.2.2.2.2.2.2.2.2.2.1 x8.2.2.2.2.2.2.2.2.2.2.2.2.2.2.2.1 x8.2.2.2.2.2.2.2.2.2.2.2.2.2.2.2.2.1 x8.2.2.2.2.2.2.2.2.2.2.2.2.2.2.2.2.2.1) (zg.mk x8.2.2.2.2.2.2.2.2.2.2.2.2.2.2.2.2.2.2.1 x8.2.2.2.2.2.2.2.2.2.2.2.2.2.2.2.2.2.2.2.1 x8.2.2.2.2.2.2.2.2.2.2.2.2.2.2.2.2.2.2.2.2.1 x8.2.2.2.2.2.2.2.2.2.2.2.2.2.2.2.2.2.2.2.2.2.1) x8.2.2.2.2.2.2.2.2.2.2.2.2.2.2.2.2.2.2.2.2.2.2.1 x8.2.2.2.2.2.2.2.2.2.2.2.2.2.2.2.2.2.2.2.2.2.2.2.1 x8.2.2.2.2.2.2.2.2.2.2.2.2.2.2.2.2.2.2.2.2.2.2.2.2.1) (Expr.mk x8.2.2.2.2.2.2.2.2.2.2.2.2.2.2.2.2.2.2.2.2.2.2.2.2.2.1 x8.2.2.2.2.2.2.2.2.2.2.2.2.2.2.2.2.2.2.2.2.2.2.2.2.2.2.1 x8.2.2.2.2.2.2.2.2.2.2.2.2.2.2.2.2.2.2.2.2.2.2.2.2.2.2.2.1 x8.2.2.2.2.2.2.2.2.2.2.2.2.2.2.2.2.2.2.2.2.2.2.2.2.2.2.2.2.1 x8.2.2.2.2.2.2.2.2.2.2.2.2.2.2.2.2.2.2.2.2.2.2.2.2.2.2.2.2.2.1) x8.2.2.2.2.2.2.2.2.2.2.2.2.2.2.2.2.2.2.2.2.2.2.2.2.2.2.2.2.2.2)]:List zA))*376<=140737488355328)).bind λ_=>Ad c0 c1 c2 K ((b_ (q.1+1)),(q.2++([(zA.mk x8.2.1 x8.2.2.1 x8.2.2.2.1 x8.2.2.2.2.1 (za.mk x8.2.2.2.2.2.1 x8.2.2.2.2.2.2.1 x8.2.2.2.2.2.2.2.1 x8.2.2.2.2.2.2.2.2.1 x8.2.2.2.2.2.2.2.2.2.1 x8.2.2.2.2.2.2.2.2.2.2.1 x8.2.2.2.2.2.2.2.2.2.2.2.1 x8.2.2.2.2.2.2.2.2.2.2.2.2.1 (Expr.mk x8.2.2.2.2.2.2.2.2.2.2.2.2.2.1 x8.2.2.2.2.2.2.2.2.2.2.2.2.2.2.1 x8.2.2.2.2.2.2.2.2.2.2.2.2.2.2.2.1 x8.2.2.2.2.2.2.2.2.2.2.2.2.2.2.2.2.1 x8.2.2.2.2.2.2.2.2.2.2.2.2.2.2.2.2.2.1) (zg.mk x8.2.2.2.2.2.2.2.2.2.2.2.2.2.2.2.2.2.2.1 x8.2.2.2.2.2.2.2.2.2.2.2.2.2.2.2.2.2.2.2.1 x8.2.2.2.2.2.2.2.2.2.2.2.2.2.2.2.2.2.2.2.2.1 x8.2.2.2.2.2.2.2.2.2.2.2.2.2.2.2.2.2.2.2.2.2.1) x8.2.2.2.2.2.2.2.2.2.2.2.2.2.2.2.2.2.2.2.2.2.2.1 x8.2.2.2.2.2.2.2.2.2.2.2.2.2.2.2.2.2.2.2.2.2.2.2.1 x8.2.2.2.2.2.2.2.2.2.2.2.2.2.2.2.2.2.2.2.2.2.2.2.2.1) (Expr.mk x8.2.2.2.2.2.2.2.2.2.2.2.2.2.2.2.2.2.2.2.2.2.2.2.2.2.1 x8.2.2.2.2.2.2.2.2.2.2.2.2.2.2.2.2.2.2.2.2.2.2.2.2.2.2.1 x8.2.2.2.2.2.2.2.2.2.2.2.2.2.2.2.2.2.2.2.2.2.2.2.2.2.2.2.1 x8.2.2.2.2.2.2.2.2.2.2.2.2.2.2.2.2.2.2.2.2.2.2.2.2.2.2.2.2.1 x8.2.2.2.2.2.2.2.2.2.2.2.2.2.2.2.2.2.2.2.2.2.2.2.2.2.2.2.2.2.1) x8.2.2.2.2.2.2.2.2.2.2.2.2.2.2.2.2.2.2.2.2.2.2.2.2.2.2.2.2.2.2)]:List zA)))))else aY (bp q.2))
def RD(s:ai):Option ((List zA)×Int):=aM (TV s) λx1=>(bif (!(decide (x1.2.2=0)))then aY ([],x1.2.2)else(Ac s x1.1 (x1.1.length:Int) KK (0,0,[])).bind λx2=>(bif (decide ((((ba x2.2):Nat):Int)>200))then aY ([],6)else(bif (!(decide (x2.1=(b_ ((x1.1.length:Int)-1)))))then aY ([],14)else(Ad s (((ba x2.2):Nat):Int) x2.2 KK (0,[])).bind (yg aY λx3=>aY (x3,0)))))
def JI(e:zA):Option (Bool×(List Def)×(List ar)×(List zq)×(List za)×(List eC)×(List au)×(List zh)×Int):=(bif (decide (e.aL=0))then aY (bg,[],[],[],([(za.mk e.za.aK e.za.aA e.za.Except e.za.il e.za.hJ e.za.iI e.za.iN e.za.aL (Expr.mk e.za.Test.Op e.za.Test.N e.za.Test.S e.za.Test.Key e.za.Test.fu) e.za.zg e.za.Uses e.za.iD e.za.N)]:List za),[],[],[],0)else(bif (decide (e.aL=2))then aY (bg,([(Def.mk e.aK (Expr.mk e.Body.Op e.Body.N e.Body.S e.Body.Key e.Body.fu))]:List Def),[],[],[],[],[],[],0)else(bif (decide (e.aL=4))then aY (bg,[],[],([(zq.mk e.aK (decide (e.N=1)) e.ay)]:List zq),[],[],[],[],0)else aY (bf,[],[],[],[],[],[],[],0))))
def RE(x_:Def):Option (ai):=aY x_.aK
def kA(c0:Bool)(c1:List ai)(c2:Int):Nat->(Int×aay)->Option ((Bool)⊕(Unit))
 |0,_=>bh
 |K+1,q=>(bif (decide (q.1<c2))then(idx c1 q.1).bind λx1=>aM (aM (JH x1) λx3=>(bif (!x3)then aY bg else(bif c0 then aY ((vC x1 q.2).getD bf)else aY bf))) λx2=>(bif x2 then aY (bA bf)else kA c0 c1 c2 K ((b_ (q.1+1)),(Hx x1 bg q.2)))else aY (bp ()))
def vG(l:List ai)(unique:Bool):Option (Bool):=(kA unique l (l.length:Int) KK (0,([]:List (ai×Bool)))).bind (yg aY λ_=>aY bg)
def uZ(c0:List Def)(c1:Int)(c2:Int):Nat->(Int×(List ai))->Option ((List ai))
 |0,_=>bh
 |K+1,q=>(bif (decide (q.1<c2))then(idx c0 q.1).bind λx1=>aM (RE (Def.mk x1.aK (Expr.mk x1.Body.Op x1.Body.N x1.Body.S x1.Body.Key x1.Body.fu))) λx2=>aM (fN (ba (q.2++([x2]:List ai))*16<=140737488355328)) λ_=>uZ c0 c1 c2 K ((b_ (q.1+1)),(q.2++([x2]:List ai)))else aY q.2)
def Q2(l:List Def)(most:Int):Option (Bool):=aM (uZ l most (l.length:Int) KK (0,[])) λx1=>(bif (decide ((l.length:Int)<=most))then(vG x1 bg).bind λx2=>aY x2 else aY bf)
def Re(x_:ar):Option (ai):=aY x_.aK
def ke(c0:List ar)(c1:Int)(c2:Int):Nat->(Int×(List ai))->Option ((List ai))
 |0,_=>bh
 |K+1,q=>(bif (decide (q.1<c2))then(idx c0 q.1).bind λx1=>aM (Re x1) λx2=>aM (fN (ba (q.2++([x2]:List ai))*16<=140737488355328)) λ_=>ke c0 c1 c2 K ((b_ (q.1+1)),(q.2++([x2]:List ai)))else aY q.2)
def Hb(l:List ar)(most:Int):Option (Bool):=aM (ke l most (l.length:Int) KK (0,[])) λx1=>(bif (decide ((l.length:Int)<=most))then(vG x1 bg).bind λx2=>aY x2 else aY bf)
def Rf(x_:zq):Option (ai):=aY x_.aK
def kf(c0:List zq)(c1:Int)(c2:Int):Nat->(Int×(List ai))->Option ((List ai))
 |0,_=>bh
 |K+1,q=>(bif (decide (q.1<c2))then(idx c0 q.1).bind λx1=>aM (Rf x1) λx2=>aM (fN (ba (q.2++([x2]:List ai))*16<=140737488355328)) λ_=>kf c0 c1 c2 K ((b_ (q.1+1)),(q.2++([x2]:List ai)))else aY q.2)
def Hc(l:List zq)(most:Int):Option (Bool):=aM (kf l most (l.length:Int) KK (0,[])) λx1=>(bif (decide ((l.length:Int)<=most))then(vG x1 bg).bind λx2=>aY x2 else aY bf)
def Rh(x_:za):Option (ai):=aY x_.aK
def kg(c0:List za)(c1:Int)(c2:Int):Nat->(Int×(List ai))->Option ((List ai))
 |0,_=>bh
 |K+1,q=>(bif (decide (q.1<c2))then(idx c0 q.1).bind λx1=>aM (Rh (za.mk x1.aK x1.aA x1.Except x1.il x1.hJ x1.iI x1.iN x1.aL (Expr.mk x1.Test.Op x1.Test.N x1.Test.S x1.Test.Key x1.Test.fu) x1.zg x1.Uses x1.iD x1.N)) λx2=>aM (fN (ba (q.2++([x2]:List ai))*16<=140737488355328)) λ_=>kg c0 c1 c2 K ((b_ (q.1+1)),(q.2++([x2]:List ai)))else aY q.2)
def Hd(l:List za)(most:Int):Option (Bool):=aM (kg l most (l.length:Int) KK (0,[])) λx1=>(bif (decide ((l.length:Int)<=most))then(vG x1 bg).bind λx2=>aY x2 else aY bf)
def Ri(x_:eC):Option (ai):=aY x_.aK
def kh(c0:List eC)(c1:Int)(c2:Int):Nat->(Int×(List ai))->Option ((List ai))
 |0,_=>bh
 |K+1,q=>(bif (decide (q.1<c2))then(idx c0 q.1).bind λx1=>aM (Ri x1) λx2=>aM (fN (ba (q.2++([x2]:List ai))*16<=140737488355328)) λ_=>kh c0 c1 c2 K ((b_ (q.1+1)),(q.2++([x2]:List ai)))else aY q.2)
def He(l:List eC)(most:Int):Option (Bool):=aM (kh l most (l.length:Int) KK (0,[])) λx1=>(bif (decide ((l.length:Int)<=most))then(vG x1 bg).bind λx2=>aY x2 else aY bf)
def Rj(x_:au):Option (ai):=aY x_.aK
def kj(c0:List au)(c1:Int)(c2:Int):Nat->(Int×(List ai))->Option ((List ai))
 |0,_=>bh
 |K+1,q=>(bif (decide (q.1<c2))then(idx c0 q.1).bind λx1=>aM (Rj x1) λx2=>aM (fN (ba (q.2++([x2]:List ai))*16<=140737488355328)) λ_=>kj c0 c1 c2 K ((b_ (q.1+1)),(q.2++([x2]:List ai)))else aY q.2)
def Hf(l:List au)(most:Int):Option (Bool):=aM (kj l most (l.length:Int) KK (0,[])) λx1=>(bif (decide ((l.length:Int)<=most))then(vG x1 bg).bind λx2=>aY x2 else aY bf)
def yq(ι:Expr->Int->Option (Bool))(c0:Int)(c1:List Expr)(c2:Int):Nat->(Int)->Option ((Bool)⊕(Unit))
 |0,_=>bh
 |K+1,q=>(bif (decide (q<c2))then(idx c1 q).bind λx1=>aM (ι (Expr.mk x1.Op x1.N x1.S x1.Key x1.fu) (b_ (c0-1))) λx2=>(bif (!x2)then aY (bA bf)else yq ι c0 c1 c2 K (b_ (q+1)))else aY (bp ()))
def zJ:Nat->Expr->Int->Option (Bool)
 |0,_,_=>bh
 |RK+1,e,depth=>aM ((bif (decide (depth=0))then aY bg else(bif (decide (e.Op<0))then aY bg else aY (decide (e.Op>=17))))) λx1=>(bif x1 then aY bf else((bif (decide (e.Op=0))then aY (bp (0,(min (max e.N 0) 1099511627776),([]:ai),([]:ai)))else((bif (decide (e.Op=1))then aY (decide (e.Op=1))else aY (decide (e.Op=3)))).bind λx3=>(bif x3 then aY (bp (0,0,e.S,([]:ai)))else(bif (decide (e.Op=2))then(JH e.Key).bind λx4=>(bif (!x4)then aY (bA bf)else aY (bp (0,0,e.S,e.Key)))else((bif (decide (e.Op=9))then aY (decide (e.Op=9))else aY (decide (e.Op=15)))).bind λx5=>(bif x5 then aY (bp (1,0,([]:ai),([]:ai)))else(bif (decide (e.Op=16))then aY (bp (3,0,([]:ai),([]:ai)))else aY (bp (2,0,([]:ai),([]:ai))))))))).bind (yg aY λx2=>aM ((bif (!(decide ((e.fu.length:Int)=x2.1)))then aY bg else(bif (!(decide (x2.2.1=e.N)))then aY bg else(bif (!(decide (x2.2.2.1=e.S)))then aY bg else(bif (!(decide (x2.2.2.2=e.Key)))then aY bg else(bif (decide (x2.1=0))then(bif (!(decide (e.Op=0)))then(JH e.S).bind λx7=>aY (!x7)else aY bf)else aY bf)))))) λx6=>(bif x6 then aY bf else(yq (zJ RK) depth e.fu (e.fu.length:Int) KK 0).bind (yg aY λ_=>aY bg))))
def vH(e:Expr):Option (Bool):=aM (zJ KK (Expr.mk e.Op e.N e.S e.Key e.fu) 12) λx1=>aY x1
def Rk(x_:av):Option (ai):=aY x_.aK
def kl(c0:List av)(c1:Int)(c2:Int):Nat->(Int×(List ai))->Option ((List ai))
 |0,_=>bh
 |K+1,q=>(bif (decide (q.1<c2))then(idx c0 q.1).bind λx1=>aM (Rk x1) λx2=>aM (fN (ba (q.2++([x2]:List ai))*16<=140737488355328)) λ_=>kl c0 c1 c2 K ((b_ (q.1+1)),(q.2++([x2]:List ai)))else aY q.2)
def Hg(l:List av)(most:Int):Option (Bool):=aM (kl l most (l.length:Int) KK (0,[])) λx1=>(bif (decide ((l.length:Int)<=most))then(vG x1 bg).bind λx2=>aY x2 else aY bf)
def qc(c0:Int)(c1:Int)(c2:List Int)(c3:Int):Nat->(Int)->Option ((Bool)⊕(Unit))
 |0,_=>bh
 |K+1,q=>(bif (decide (q<c3))then(idx c2 q).bind λx1=>aM ((bif (decide (x1<c0))then aY bg else aY (decide (x1>c1)))) λx2=>(bif x2 then aY (bA bf)else qc c0 c1 c2 c3 K (b_ (q+1)))else aY (bp ()))
def zB(from_:Int)(q_:Int)(l:List Int):Option (Bool):=(qc from_ q_ l (l.length:Int) KK 0).bind (yg aY λ_=>aY bg)
def y9(c0:List zt)(c1:Int):Nat->(Int×(List zk))->Option ((List zk))
 |0,_=>bh
 |K+1,q=>(bif (decide (q.1<c1))then(idx c0 q.1).bind λx1=>aM (fN ((c0.length:Int)≠0)) λ_=>aM (idx c0 (gS (b_ (q.1+1)) (c0.length:Int))) λx3=>aM (fN (0<=q.1/\q.1<(((ba q.2):Nat):Int))) λ_=>aM ((q.2)[(bB q.1)]?) λ_=>y9 c0 c1 K ((b_ (q.1+1)),(cY q.2 (bB q.1) (zk.mk x1 x3)))else aY q.2)
def uo(p:List zt):Option ((List zk)):=
 aM (fN (0<=(p.length:Int)/\(p.length:Int)*((32:Nat):Int)<=281474976710656/\(p.length:Int)<=9223372036854775807)) λ_=>aM (y9 p (p.length:Int) KK (0,(List.replicate (bB (p.length:Int)) (zk.mk (zt.mk 0 0) (zt.mk 0 0))))) λx2=>aY x2
def Kw(p:zt):Option (Bool):=(bif (decide (0<=p.X))then(bif (decide (p.X<=1048576))then(bif (decide (0<=p.Y))then aY (decide (p.Y<=1048576))else aY bf)else aY bf)else aY bf)
def yd(s:zk):Option (Bool):=aY (decide (s.a.X=s.b.X))
def u0(x_:Int):Option (Bool):=aY (!(decide (x_=x_)))
def yC(x_:Int)(y:Int):Option (Int):=aM (u0 x_) λx1=>aM (u0 y) λx2=>(bif x1 then(bif x2 then aY 0 else aY (-1))else(bif x2 then aY 1 else(bif (decide (x_<y))then aY (-1)else(bif (decide (x_>y))then aY 1 else aY 0))))
def xT(c0:Int)(c1:List Int)(c2:Int):Nat->(Int)->Option ((Int)⊕(Unit))
 |0,_=>bh
 |K+1,q=>(bif (decide (q<c2))then(idx c1 q).bind λx1=>(bif (!(decide (x1=c0)))then aY (bA x1)else xT c0 c1 c2 K (b_ (q+1)))else aY (bp ()))
def Hh(vals:List Int):Option (Int):=(xT 0 vals (vals.length:Int) KK 0).bind (yg aY λ_=>aY 0)
def u5(a:zt)(b:zt):Option (Int):=aM (yC a.X b.X) λx1=>aM (yC a.Y b.Y) λx2=>aM (Hh ([x1,x2]:List Int)) λx3=>aY x3
def oz(s:zk)(t:zk):Option (Bool):=(bif (decide ((max (min s.a.X s.b.X) (min t.a.X t.b.X))<=(min (max s.a.X s.b.X) (max t.a.X t.b.X))))then aY (decide ((max (min s.a.Y s.b.Y) (min t.a.Y t.b.Y))<=(min (max s.a.Y s.b.Y) (max t.a.Y t.b.Y))))else aY bf)
def w6(c0:List zt)(c1:List zk)(c2:Int):Nat->(Int)->Option ((Bool)⊕(Unit))
 |0,_=>bh
 |K+1,q=>(bif (decide (q<c2))then(idx c1 q).bind λx1=>aM (fN ((c1.length:Int)≠0)) λ_=>aM (idx c1 (gS (b_ (q+1)) (c1.length:Int))) λx3=>aM (aM (Kw x1.a) λx5=>(bif (!x5)then aY bg else(bif ((decide (x1.a.X=x1.b.X))==(decide (x1.a.Y=x1.b.Y)))then aY bg else(yd x1).bind λx6=>aM (yd x3) λx7=>aY (x6==x7)))) λx4=>(bif x4 then aY (bA bf)else((bif (decide (q>0))then(idx c0 0).bind λx9=>aM (idx c0 q) λmu=>aM (u5 x9 mu) λlT=>aY (decide (lT>=0))else aY bf)).bind λx8=>(bif x8 then aY (bA bf)else w6 c0 c1 c2 K (b_ (q+1))))else aY (bp ()))
def w7(c0:List zk)(c1:Int)(c2:Int):Nat->(Int)->Option ((Bool)⊕(Unit))
 |0,_=>bh
 |K+1,q=>(bif (decide (q<(c0.length:Int)))then((bif (decide ((b_ ((b_ (c1+(c0.length:Int)))-q))>1))then(idx c0 c1).bind λx2=>aM (idx c0 q) λx3=>aM (oz x2 x3) λx4=>aY x4 else aY bf)).bind λx1=>(bif x1 then aY (bA bf)else w7 c0 c1 c2 K (b_ (q+1)))else aY (bp ()))
def w8(c0:List zk)(c1:Int):Nat->(Int)->Option ((Bool)⊕(Unit))
 |0,_=>bh
 |K+1,q=>(bif (decide (q<c1))then(w7 c0 q c1 KK (b_ (q+2))).bind (yg (λq=>aY (bA q)) λ_=>w8 c0 c1 K (b_ (q+1)))else aY (bp ()))
def Ae(p:List zt):Option (Bool):=aM ((bif (decide ((p.length:Int)<4))then aY bg else aY (decide ((p.length:Int)>60)))) λx1=>(bif x1 then aY bf else(uo p).bind λx2=>(w6 p x2 (x2.length:Int) KK 0).bind (yg aY λ_=>(w8 x2 (x2.length:Int) KK 0).bind (yg aY λ_=>aM (idx x2 0) λx5=>aM (yd x5) λx6=>aY (!x6))))
def qy(l:List zt):Option (Bool):=aM (Ae l) λx1=>aY x1
def vI(c0:List ai)(c1:List ai)(c2:Int):Nat->(Int)->Option ((Bool)⊕(Unit))
 |0,_=>bh
 |K+1,q=>(bif (decide (q<c2))then(idx c0 q).bind λx1=>aM (idx c1 q) λx2=>(bif (!(decide (x1=x2)))then aY (bA bf)else vI c0 c1 c2 K (b_ (q+1)))else aY (bp ()))
def wM(s1:List ai)(s2:List ai):Option (Bool):=(bif (!(decide ((s1.length:Int)=(s2.length:Int))))then aY bf else(vI s1 s2 (s1.length:Int) KK 0).bind (yg aY λ_=>aY bg))
def xU(ο:Expr->Expr->Option (Bool))(c0:List Expr)(c1:List Expr)(c2:Int):Nat->(Int)->Option ((Bool)⊕(Unit))
 |0,_=>bh
 |K+1,q=>(bif (decide (q<c2))then(idx c1 q).bind λx1=>aM (idx c0 q) λx2=>aM (ο (Expr.mk x1.Op x1.N x1.S x1.Key x1.fu) (Expr.mk x2.Op x2.N x2.S x2.Key x2.fu)) λx3=>(bif (!x3)then aY (bA bf)else xU ο c0 c1 c2 K (b_ (q+1)))else aY (bp ()))
mutual
def xI:Nat->(List Expr)->(List Expr)->Option (Bool)
 |0,_,_=>bh
 |RK+1,s1,s2=>(bif (!(decide ((s1.length:Int)=(s2.length:Int))))then aY bf else(xU (wj RK) s2 s1 (s1.length:Int) KK 0).bind (yg aY λ_=>aY bg))
def wj:Nat->Expr->Expr->Option (Bool)
 |0,_,_=>bh
 |RK+1,a,b=>(bif (decide (a.Op=b.Op))then(bif (decide (a.N=b.N))then(bif (decide (a.S=b.S))then(bif (decide (a.Key=b.Key))then(xI RK a.fu b.fu).bind λx1=>aY x1 else aY bf)else aY bf)else aY bf)else aY bf)
end
def vJ(a:za)(b:za):Option (Bool):=aM (aM (wM a.aA b.aA) λx2=>(bif (!x2)then aY bg else(wM a.Except b.Except).bind λx3=>(bif (!x3)then aY bg else(wj KK (Expr.mk a.Test.Op a.Test.N a.Test.S a.Test.Key a.Test.fu) (Expr.mk b.Test.Op b.Test.N b.Test.S b.Test.Key b.Test.fu)).bind λx4=>aY (!x4)))) λx1=>(bif x1 then aY bf else((bif (decide (a.aK=b.aK))then(bif (decide (a.il=b.il))then(bif (decide (a.hJ=b.hJ))then(bif (decide (a.iI=b.iI))then aY (a.iN==b.iN)else aY bf)else aY bf)else aY bf)else aY bf)).bind λx5=>(bif x5 then(bif (decide (a.aL=b.aL))then(bif (decide (a.zg.me=b.zg.me)&&(decide (a.zg.mb=b.zg.mb)&&(decide (a.zg.l8=b.zg.l8)&&(decide (a.zg.Den=b.zg.Den)))))then(bif (decide (a.Uses=b.Uses))then(bif (decide (a.iD=b.iD))then aY (decide (a.N=b.N))else aY bf)else aY bf)else aY bf)else aY bf)else aY bf))
def qd(r_:za):Option (Bool):=aM (aM (vG r_.aA bf) λx2=>(bif (!x2)then aY bg else(vG r_.Except bf).bind λx3=>(bif (!x3)then aY bg else(zB 0 1073741824 ([r_.il,r_.iI,r_.hJ]:List Int)).bind λx4=>(bif (!x4)then aY bg else(bif (!(decide (r_.hJ=0)))then aY (decide (r_.hJ<=r_.il))else aY bf))))) λx1=>(bif x1 then aY bf else((bif (decide (r_.aL=0))then(vH (Expr.mk r_.Test.Op r_.Test.N r_.Test.S r_.Test.Key r_.Test.fu)).bind λx6=>aY (x6,r_.Test.Op,r_.Test.N,r_.Test.S,r_.Test.Key,r_.Test.fu,0,0,0,0,0,0,0)else(bif (decide (r_.aL=1))then(zB 0 3 ([r_.zg.me]:List Int)).bind λx7=>(bif x7 then(zB 0 4096 ([r_.zg.mb,r_.zg.l8]:List Int)).bind λx8=>(bif x8 then(zB 1 4096 ([r_.zg.Den]:List Int)).bind λx9=>aY (x9,0,0,([]:ai),([]:ai),[],r_.zg.me,r_.zg.mb,r_.zg.l8,r_.zg.Den,0,0,0)else aY (bf,0,0,([]:ai),([]:ai),[],r_.zg.me,r_.zg.mb,r_.zg.l8,r_.zg.Den,0,0,0))else aY (bf,0,0,([]:ai),([]:ai),[],r_.zg.me,r_.zg.mb,r_.zg.l8,r_.zg.Den,0,0,0))else(bif (decide (r_.aL=2))then(zB 1 63 ([r_.Uses]:List Int)).bind λmu=>aY (mu,0,0,([]:ai),([]:ai),[],0,0,0,0,r_.Uses,0,0)else(bif (decide (r_.aL=3))then(zB 0 5 ([r_.Uses,r_.iD]:List Int)).bind λlT=>(bif lT then(zB 0 1048576 ([r_.N]:List Int)).bind λnz=>aY (nz,0,0,([]:ai),([]:ai),[],0,0,0,0,r_.Uses,r_.iD,r_.N)else aY (bf,0,0,([]:ai),([]:ai),[],0,0,0,0,r_.Uses,r_.iD,r_.N))else aY (bf,0,0,([]:ai),([]:ai),[],0,0,0,0,0,0,0)))))).bind λx5=>(bif x5.1 then(vJ (za.mk r_.aK r_.aA r_.Except r_.il r_.hJ r_.iI r_.iN r_.aL (Expr.mk r_.Test.Op r_.Test.N r_.Test.S r_.Test.Key r_.Test.fu) r_.zg r_.Uses r_.iD r_.N) (za.mk r_.aK r_.aA r_.Except r_.il r_.hJ r_.iI r_.iN r_.aL (Expr.mk x5.2.1 x5.2.2.1 x5.2.2.2.1 x5.2.2.2.2.1 x5.2.2.2.2.2.1) (zg.mk x5.2.2.2.2.2.2.1 x5.2.2.2.2.2.2.2.1 x5.2.2.2.2.2.2.2.2.1 x5.2.2.2.2.2.2.2.2.2.1) x5.2.2.2.2.2.2.2.2.2.2.1 x5.2.2.2.2.2.2.2.2.2.2.2.1 x5.2.2.2.2.2.2.2.2.2.2.2.2)).bind λnA=>aY nA else aY bf))
def kB(c0:List Def)(c1:Int)(c2:List ar)(c3:List zq)(c4:List za)(c5:List eC)(c6:List au)(c7:List zh)(c8:Int):Nat->(Int)->Option ((Bool)⊕(Unit))
 |0,_=>bh
 |K+1,q=>(bif (decide (q<c1))then(idx c0 q).bind λx1=>aM (vH (Expr.mk x1.Body.Op x1.Body.N x1.Body.S x1.Body.Key x1.Body.fu)) λx2=>(bif (!x2)then aY (bA bf)else kB c0 c1 c2 c3 c4 c5 c6 c7 c8 K (b_ (q+1)))else aY (bp ()))
def uq(c0:List ar)(c1:Int)(c2:Int)(c3:List av)(c4:Int)(c5:List Def)(c6:List zq)(c7:List za)(c8:List eC)(c9:List au)(iE:List zh)(iK:Int):Nat->(Int)->Option ((Bool)⊕(Unit))
 |0,_=>bh
 |K+1,q=>(bif (decide (q<c4))then(idx c3 q).bind λx1=>aM (zB (-1099511627776) 1099511627776 ([x1.N]:List Int)) λx2=>(bif (!x2)then aY (bA bf)else uq c0 c1 c2 c3 c4 c5 c6 c7 c8 c9 iE iK K (b_ (q+1)))else aY (bp ()))
def vK(c0:List ar)(c1:Int)(c2:List Def)(c3:List zq)(c4:List za)(c5:List eC)(c6:List au)(c7:List zh)(c8:Int):Nat->(Int)->Option ((Bool)⊕(Unit))
 |0,_=>bh
 |K+1,q=>(bif (decide (q<c1))then(idx c0 q).bind λx1=>aM (aM (Hg x1.Rows 60) λx3=>(bif (!x3)then aY bg else(zB (-1099511627776) 1099511627776 ([x1.mD]:List Int)).bind λx4=>aY (!x4))) λx2=>(bif x2 then aY (bA bf)else(uq c0 c1 q x1.Rows (x1.Rows.length:Int) c2 c3 c4 c5 c6 c7 c8 KK 0).bind (yg (λq=>aY (bA q)) λ_=>vK c0 c1 c2 c3 c4 c5 c6 c7 c8 K (b_ (q+1))))else aY (bp ()))
def kC(c0:List zq)(c1:Int)(c2:List Def)(c3:List ar)(c4:List za)(c5:List eC)(c6:List au)(c7:List zh)(c8:Int):Nat->(Int)->Option ((Bool)⊕(Unit))
 |0,_=>bh
 |K+1,q=>(bif (decide (q<c1))then(idx c0 q).bind λx1=>aM (qy x1.ay) λx2=>(bif (!x2)then aY (bA bf)else kC c0 c1 c2 c3 c4 c5 c6 c7 c8 K (b_ (q+1)))else aY (bp ()))
def kD(c0:List za)(c1:Int)(c2:List Def)(c3:List ar)(c4:List zq)(c5:List eC)(c6:List au)(c7:List zh)(c8:Int):Nat->(Int)->Option ((Bool)⊕(Unit))
 |0,_=>bh
 |K+1,q=>(bif (decide (q<c1))then(idx c0 q).bind λx1=>aM (qd (za.mk x1.aK x1.aA x1.Except x1.il x1.hJ x1.iI x1.iN x1.aL (Expr.mk x1.Test.Op x1.Test.N x1.Test.S x1.Test.Key x1.Test.fu) x1.zg x1.Uses x1.iD x1.N)) λx2=>(bif (!x2)then aY (bA bf)else kD c0 c1 c2 c3 c4 c5 c6 c7 c8 K (b_ (q+1)))else aY (bp ()))
def kE(c0:List eC)(c1:Int)(c2:List Def)(c3:List ar)(c4:List zq)(c5:List za)(c6:List au)(c7:List zh)(c8:Int):Nat->(Int)->Option ((Bool)⊕(Unit))
 |0,_=>bh
 |K+1,q=>(bif (decide (q<c1))then(idx c0 q).bind λx1=>aM (aM (zB 0 2 ([x1.oS]:List Int)) λx3=>(bif (!x3)then aY bg else(zB 0 1099511627776 ([x1.mM]:List Int)).bind λx4=>(bif (!x4)then aY bg else(qy x1.ay).bind λx5=>aY (!x5)))) λx2=>(bif x2 then aY (bA bf)else kE c0 c1 c2 c3 c4 c5 c6 c7 c8 K (b_ (q+1)))else aY (bp ()))
def ur(c0:List au)(c1:Int)(c2:Int)(c3:Int)(c4:List Def)(c5:List ar)(c6:List zq)(c7:List za)(c8:List eC)(c9:List zh)(iE:Int)(iK:List zh):Nat->(Int)->Option ((Bool)⊕(Unit))
 |0,_=>bh
 |K+1,q=>(bif (decide (q<c3))then(fN (0<=q/\q<(((ba iK):Nat):Int))).bind λ_=>aM ((iK)[(bB q)]?) λx2=>aM (aM (zB 0 1048576 ([x2.X,x2.Y]:List Int)) λx4=>(bif (!x4)then aY bg else(zB 0 4096 ([x2.Z_]:List Int)).bind λx5=>aY (!x5))) λx3=>(bif x3 then aY (bA bf)else ur c0 c1 c2 c3 c4 c5 c6 c7 c8 c9 iE iK K (b_ (q+1)))else aY (bp ()))
def vL(c0:List au)(c1:Int)(c2:List Def)(c3:List ar)(c4:List zq)(c5:List za)(c6:List eC)(c7:List zh)(c8:Int):Nat->(Int)->Option ((Bool)⊕(Unit))
 |0,_=>bh
 |K+1,q=>(bif (decide (q<c1))then(idx c0 q).bind λx1=>aM (aM (zB 0 20 ([x1.oU]:List Int)) λx3=>(bif (!x3)then aY bg else(zB 1 20 ([(x1.lL.length:Int)]:List Int)).bind λx4=>aY (!x4))) λx2=>(bif x2 then aY (bA bf)else(fN (ba (([x1.l3]:List zh)++x1.lL)*24<=140737488355328)).bind λ_=>(ur c0 c1 q (((ba (([x1.l3]:List zh)++x1.lL)):Nat):Int) c2 c3 c4 c5 c6 c7 c8 (([x1.l3]:List zh)++x1.lL) KK 0).bind (yg (λq=>aY (bA q)) λ_=>vL c0 c1 c2 c3 c4 c5 c6 c7 c8 K (b_ (q+1))))else aY (bp ()))
def kG(c0:List zh)(c1:Int)(c2:List Def)(c3:List ar)(c4:List zq)(c5:List za)(c6:List eC)(c7:List au)(c8:Int):Nat->(Int)->Option ((Bool)⊕(Unit))
 |0,_=>bh
 |K+1,q=>(bif (decide (q<c1))then(idx c0 q).bind λx1=>aM (aM (zB (-4096) 4096 ([x1.X,x1.Y]:List Int)) λx3=>(bif (!x3)then aY bg else(zB 1 4096 ([x1.Z_]:List Int)).bind λx4=>aY (!x4))) λx2=>(bif x2 then aY (bA bf)else kG c0 c1 c2 c3 c4 c5 c6 c7 c8 K (b_ (q+1)))else aY (bp ()))
def Af(p:yf):Option (Bool):=aM (aM (Q2 p.aE 60) λx2=>(bif (!x2)then aY bg else(Hb p.Tables 60).bind λx3=>(bif (!x3)then aY bg else(Hc p.aA 60).bind λx4=>(bif (!x4)then aY bg else(Hd p.aB 200).bind λx5=>(bif (!x5)then aY bg else(He p.aI 30).bind λx6=>(bif (!x6)then aY bg else(Hf p.aF 60).bind λx7=>aY (!x7))))))) λx1=>(bif x1 then aY bf else(kB p.aE (p.aE.length:Int) p.Tables p.aA p.aB p.aI p.aF p.aJ p.aG KK 0).bind (yg aY λ_=>(vK p.Tables (p.Tables.length:Int) p.aE p.aA p.aB p.aI p.aF p.aJ p.aG KK 0).bind (yg aY λ_=>(kC p.aA (p.aA.length:Int) p.aE p.Tables p.aB p.aI p.aF p.aJ p.aG KK 0).bind (yg aY λ_=>(kD p.aB (p.aB.length:Int) p.aE p.Tables p.aA p.aI p.aF p.aJ p.aG KK 0).bind (yg aY λ_=>(kE p.aI (p.aI.length:Int) p.aE p.Tables p.aA p.aB p.aF p.aJ p.aG KK 0).bind (yg aY λ_=>(vL p.aF (p.aF.length:Int) p.aE p.Tables p.aA p.aB p.aI p.aJ p.aG KK 0).bind (yg aY λ_=>(kG p.aJ (p.aJ.length:Int) p.aE p.Tables p.aA p.aB p.aI p.aF p.aG KK 0).bind (yg aY λ_=>aM (zB 0 24 ([p.aG,(p.aJ.length:Int)]:List Int)) λrG=>aY rG))))))))
def Hi(p:yf):Option (Int×ai×ai×Int×ai×(List ai)×(List ai)×Int×Int×Int×Bool×Int×Int×Int×ai×ai×(List Expr)×Int×Int×Int×Int×Int×Int×Int×Int×Int×ai×ai×(List Expr)×(List zt)):=(bif (decide ((p.aB.length:Int)=1))then(idx p.aB 0).bind λx1=>aY (0,([]:ai),([]:ai),0,x1.aK,x1.aA,x1.Except,x1.il,x1.hJ,x1.iI,x1.iN,x1.aL,x1.Test.Op,x1.Test.N,x1.Test.S,x1.Test.Key,x1.Test.fu,x1.zg.me,x1.zg.mb,x1.zg.l8,x1.zg.Den,x1.Uses,x1.iD,x1.N,0,0,([]:ai),([]:ai),[],[])else(bif (decide ((p.aE.length:Int)=1))then(idx p.aE 0).bind λx2=>aM (idx p.aE 0) λx3=>aY (2,x2.aK,([]:ai),0,([]:ai),[],[],0,0,0,bf,0,0,0,([]:ai),([]:ai),[],0,0,0,0,0,0,0,x3.Body.Op,x3.Body.N,x3.Body.S,x3.Body.Key,x3.Body.fu,[])else(idx p.aA 0).bind λx4=>aM ((bif x4.lQ then aY 1 else aY 0)) λx5=>aY (4,x4.aK,([]:ai),x5,([]:ai),[],[],0,0,0,bf,0,0,0,([]:ai),([]:ai),[],0,0,0,0,0,0,0,0,0,([]:ai),([]:ai),[],x4.ay)))
def wU(c0:List zt)(c1:List zt)(c2:Int):Nat->(Int)->Option ((Bool)⊕(Unit))
 |0,_=>bh
 |K+1,q=>(bif (decide (q<c2))then(idx c0 q).bind λx1=>aM (idx c1 q) λx2=>(bif (!(decide (x1.X=x2.X)&&(decide (x1.Y=x2.Y))))then aY (bA bf)else wU c0 c1 c2 K (b_ (q+1)))else aY (bp ()))
def ym(s1:List zt)(s2:List zt):Option (Bool):=(bif (!(decide ((s1.length:Int)=(s2.length:Int))))then aY bf else(wU s1 s2 (s1.length:Int) KK 0).bind (yg aY λ_=>aY bg))
def Q3(x_:Def)(y:Def):Option (Bool):=(bif (decide (x_.aK=y.aK))then(wj KK (Expr.mk x_.Body.Op x_.Body.N x_.Body.S x_.Body.Key x_.Body.fu) (Expr.mk y.Body.Op y.Body.N y.Body.S y.Body.Key y.Body.fu)).bind λx1=>aY x1 else aY bf)
def xa(c0:List Def)(c1:List Def)(c2:Int):Nat->(Int)->Option ((Bool)⊕(Unit))
 |0,_=>bh
 |K+1,q=>(bif (decide (q<c2))then(idx c1 q).bind λx1=>aM (idx c0 q) λx2=>aM (Q3 (Def.mk x1.aK (Expr.mk x1.Body.Op x1.Body.N x1.Body.S x1.Body.Key x1.Body.fu)) (Def.mk x2.aK (Expr.mk x2.Body.Op x2.Body.N x2.Body.S x2.Body.Key x2.Body.fu))) λx3=>(bif (!x3)then aY (bA bf)else xa c0 c1 c2 K (b_ (q+1)))else aY (bp ()))
def yM(s1:List Def)(s2:List Def):Option (Bool):=(bif (!(decide ((s1.length:Int)=(s2.length:Int))))then aY bf else(xa s2 s1 (s1.length:Int) KK 0).bind (yg aY λ_=>aY bg))
def wV(c0:List av)(c1:List av)(c2:Int):Nat->(Int)->Option ((Bool)⊕(Unit))
 |0,_=>bh
 |K+1,q=>(bif (decide (q<c2))then(idx c0 q).bind λx1=>aM (idx c1 q) λx2=>(bif (!(decide (x1.aK=x2.aK)&&(decide (x1.N=x2.N))))then aY (bA bf)else wV c0 c1 c2 K (b_ (q+1)))else aY (bp ()))
def wO(s1:List av)(s2:List av):Option (Bool):=(bif (!(decide ((s1.length:Int)=(s2.length:Int))))then aY bf else(wV s1 s2 (s1.length:Int) KK 0).bind (yg aY λ_=>aY bg))
def Q4(x_:ar)(y:ar):Option (Bool):=(bif (decide (x_.aK=y.aK))then(bif (decide (x_.mD=y.mD))then(wO x_.Rows y.Rows).bind λx1=>aY x1 else aY bf)else aY bf)
def xb(c0:List ar)(c1:List ar)(c2:Int):Nat->(Int)->Option ((Bool)⊕(Unit))
 |0,_=>bh
 |K+1,q=>(bif (decide (q<c2))then(idx c1 q).bind λx1=>aM (idx c0 q) λx2=>aM (Q4 x1 x2) λx3=>(bif (!x3)then aY (bA bf)else xb c0 c1 c2 K (b_ (q+1)))else aY (bp ()))
def yN(s1:List ar)(s2:List ar):Option (Bool):=(bif (!(decide ((s1.length:Int)=(s2.length:Int))))then aY bf else(xb s2 s1 (s1.length:Int) KK 0).bind (yg aY λ_=>aY bg))
def xd(c0:List za)(c1:List za)(c2:Int):Nat->(Int)->Option ((Bool)⊕(Unit))
 |0,_=>bh
 |K+1,q=>(bif (decide (q<c2))then(idx c1 q).bind λx1=>aM (idx c0 q) λx2=>aM (vJ (za.mk x1.aK x1.aA x1.Except x1.il x1.hJ x1.iI x1.iN x1.aL (Expr.mk x1.Test.Op x1.Test.N x1.Test.S x1.Test.Key x1.Test.fu) x1.zg x1.Uses x1.iD x1.N) (za.mk x2.aK x2.aA x2.Except x2.il x2.hJ x2.iI x2.iN x2.aL (Expr.mk x2.Test.Op x2.Test.N x2.Test.S x2.Test.Key x2.Test.fu) x2.zg x2.Uses x2.iD x2.N)) λx3=>(bif (!x3)then aY (bA bf)else xd c0 c1 c2 K (b_ (q+1)))else aY (bp ()))
def yO(s1:List za)(s2:List za):Option (Bool):=(bif (!(decide ((s1.length:Int)=(s2.length:Int))))then aY bf else(xd s2 s1 (s1.length:Int) KK 0).bind (yg aY λ_=>aY bg))
def Q5(x_:zq)(y:zq):Option (Bool):=(bif (decide (x_.aK=y.aK))then(bif (x_.lQ==y.lQ)then(ym x_.ay y.ay).bind λx1=>aY x1 else aY bf)else aY bf)
def xe(c0:List zq)(c1:List zq)(c2:Int):Nat->(Int)->Option ((Bool)⊕(Unit))
 |0,_=>bh
 |K+1,q=>(bif (decide (q<c2))then(idx c1 q).bind λx1=>aM (idx c0 q) λx2=>aM (Q5 x1 x2) λx3=>(bif (!x3)then aY (bA bf)else xe c0 c1 c2 K (b_ (q+1)))else aY (bp ()))
def yP(s1:List zq)(s2:List zq):Option (Bool):=(bif (!(decide ((s1.length:Int)=(s2.length:Int))))then aY bf else(xe s2 s1 (s1.length:Int) KK 0).bind (yg aY λ_=>aY bg))
def Q6(x_:eC)(y:eC):Option (Bool):=(bif (decide (x_.aK=y.aK))then(bif (decide (x_.oS=y.oS))then(bif (decide (x_.mM=y.mM))then(ym x_.ay y.ay).bind λx1=>aY x1 else aY bf)else aY bf)else aY bf)
def xf(c0:List eC)(c1:List eC)(c2:Int):Nat->(Int)->Option ((Bool)⊕(Unit))
 |0,_=>bh
 |K+1,q=>(bif (decide (q<c2))then(idx c1 q).bind λx1=>aM (idx c0 q) λx2=>aM (Q6 x1 x2) λx3=>(bif (!x3)then aY (bA bf)else xf c0 c1 c2 K (b_ (q+1)))else aY (bp ()))
def yQ(s1:List eC)(s2:List eC):Option (Bool):=(bif (!(decide ((s1.length:Int)=(s2.length:Int))))then aY bf else(xf s2 s1 (s1.length:Int) KK 0).bind (yg aY λ_=>aY bg))
def wW(c0:List zh)(c1:List zh)(c2:Int):Nat->(Int)->Option ((Bool)⊕(Unit))
 |0,_=>bh
 |K+1,q=>(bif (decide (q<c2))then(idx c0 q).bind λx1=>aM (idx c1 q) λx2=>(bif (!(decide (x1.X=x2.X)&&(decide (x1.Y=x2.Y)&&(decide (x1.Z_=x2.Z_)))))then aY (bA bf)else wW c0 c1 c2 K (b_ (q+1)))else aY (bp ()))
def xr(s1:List zh)(s2:List zh):Option (Bool):=(bif (!(decide ((s1.length:Int)=(s2.length:Int))))then aY bf else(wW s1 s2 (s1.length:Int) KK 0).bind (yg aY λ_=>aY bg))
def Q7(x_:au)(y:au):Option (Bool):=(bif (decide (x_.aK=y.aK))then(bif (decide (x_.l3.X=y.l3.X)&&(decide (x_.l3.Y=y.l3.Y)&&(decide (x_.l3.Z_=y.l3.Z_))))then(bif (decide (x_.oU=y.oU))then(xr x_.lL y.lL).bind λx1=>aY x1 else aY bf)else aY bf)else aY bf)
def xg(c0:List au)(c1:List au)(c2:Int):Nat->(Int)->Option ((Bool)⊕(Unit))
 |0,_=>bh
 |K+1,q=>(bif (decide (q<c2))then(idx c1 q).bind λx1=>aM (idx c0 q) λx2=>aM (Q7 x1 x2) λx3=>(bif (!x3)then aY (bA bf)else xg c0 c1 c2 K (b_ (q+1)))else aY (bp ()))
def yR(s1:List au)(s2:List au):Option (Bool):=(bif (!(decide ((s1.length:Int)=(s2.length:Int))))then aY bf else(xg s2 s1 (s1.length:Int) KK 0).bind (yg aY λ_=>aY bg))
def DO(a:yf)(b:yf):Option (Bool):=aM (aM (yM a.aE b.aE) λx2=>(bif x2 then(yN a.Tables b.Tables).bind λx3=>(bif x3 then(yO a.aB b.aB).bind λx4=>aY x4 else aY bf)else aY bf)) λx1=>aM (aM (yP a.aA b.aA) λx6=>(bif x6 then(yQ a.aI b.aI).bind λx7=>(bif x7 then(yR a.aF b.aF).bind λx8=>aY x8 else aY bf)else aY bf)) λx5=>(bif x1 then(bif x5 then(xr a.aJ b.aJ).bind λx9=>(bif x9 then aY (decide (a.aG=b.aG))else aY bf)else aY bf)else aY bf)
def vX(a:zA)(b:zA):Option (Bool):=aM ((bif (decide (a.aL=b.aL))then(bif (decide (a.aK=b.aK))then(bif (decide (a.Key=b.Key))then(bif (decide (a.N=b.N))then(ym a.ay b.ay).bind λx2=>aY x2 else aY bf)else aY bf)else aY bf)else aY bf)) λx1=>(bif x1 then(DO (yf.mk ([(Def.mk ([]:ai) (Expr.mk a.Body.Op a.Body.N a.Body.S a.Body.Key a.Body.fu))]:List Def) [] [] ([(za.mk a.za.aK a.za.aA a.za.Except a.za.il a.za.hJ a.za.iI a.za.iN a.za.aL (Expr.mk a.za.Test.Op a.za.Test.N a.za.Test.S a.za.Test.Key a.za.Test.fu) a.za.zg a.za.Uses a.za.iD a.za.N)]:List za) [] [] [] 0) (yf.mk ([(Def.mk ([]:ai) (Expr.mk b.Body.Op b.Body.N b.Body.S b.Body.Key b.Body.fu))]:List Def) [] [] ([(za.mk b.za.aK b.za.aA b.za.Except b.za.il b.za.hJ b.za.iI b.za.iN b.za.aL (Expr.mk b.za.Test.Op b.za.Test.N b.za.Test.S b.za.Test.Key b.za.Test.fu) b.za.zg b.za.Uses b.za.iD b.za.N)]:List za) [] [] [] 0)).bind λx3=>aY x3 else aY bf)
def vh(e:zA):Option (Bool):=
 aM (JI (zA.mk e.aL e.aK e.Key e.N (za.mk e.za.aK e.za.aA e.za.Except e.za.il e.za.hJ e.za.iI e.za.iN e.za.aL (Expr.mk e.za.Test.Op e.za.Test.N e.za.Test.S e.za.Test.Key e.za.Test.fu) e.za.zg e.za.Uses e.za.iD e.za.N) (Expr.mk e.Body.Op e.Body.N e.Body.S e.Body.Key e.Body.fu) e.ay)) λx1=>(bif x1.1 then(Af (yf.mk x1.2.1 x1.2.2.1 x1.2.2.2.1 x1.2.2.2.2.1 x1.2.2.2.2.2.1 x1.2.2.2.2.2.2.1 x1.2.2.2.2.2.2.2.1 x1.2.2.2.2.2.2.2.2)).bind λx2=>(bif x2 then(Hi (yf.mk x1.2.1 x1.2.2.1 x1.2.2.2.1 x1.2.2.2.2.1 x1.2.2.2.2.2.1 x1.2.2.2.2.2.2.1 x1.2.2.2.2.2.2.2.1 x1.2.2.2.2.2.2.2.2)).bind λx3=>aM (vX (zA.mk x3.1 x3.2.1 x3.2.2.1 x3.2.2.2.1 (za.mk x3.2.2.2.2.1 x3.2.2.2.2.2.1 x3.2.2.2.2.2.2.1 x3.2.2.2.2.2.2.2.1 x3.2.2.2.2.2.2.2.2.1 x3.2.2.2.2.2.2.2.2.2.1 x3.2.2.2.2.2.2.2.2.2.2.1 x3.2.2.2.2.2.2.2.2.2.2.2.1 (Expr.mk x3.2.2.2.2.2.2.2.2.2.2.2.2.1 x3.2.2.2.2.2.2.2.2.2.2.2.2.2.1 x3.2.2.2.2.2.2.2.2.2.2.2.2.2.2.1 x3.2.2.2.2.2.2.2.2.2.2.2.2.2.2.2.1 x3.2.2.2.2.2.2.2.2.2.2.2.2.2.2.2.2.1) (zg.mk x3.2.2.2.2.2.2.2.2.2.2.2.2.2.2.2.2.2.1 x3.2.2.2.2.2.2.2.2.2.2.2.2.2.2.2.2.2.2.1 x3.2.2.2.2.2.2.2.2.2.2.2.2.2.2.2.2.2.2.2.1 x3.2.2.2.2.2.2.2.2.2.2.2.2.2.2.2.2.2.2.2.2.1) x3.2.2.2.2.2.2.2.2.2.2.2.2.2.2.2.2.2.2.2.2.2.1 x3.2.2.2.2.2.2.2.2.2.2.2.2.2.2.2.2.2.2.2.2.2.2.1 x3.2.2.2.2.2.2.2.2.2.2.2.2.2.2.2.2.2.2.2.2.2.2.2.1) (Expr.mk x3.2.2.2.2.2.2.2.2.2.2.2.2.2.2.2.2.2.2.2.2.2.2.2.2.1 x3.2.2.2.2.2.2.2.2.2.2.2.2.2.2.2.2.2.2.2.2.2.2.2.2.2.1 x3.2.2.2.2.2.2.2.2.2.2.2.2.2.2.2.2.2.2.2.2.2.2.2.2.2.2.1 x3.2.2.2.2.2.2.2.2.2.2.2.2.2.2.2.2.2.2.2.2.2.2.2.2.2.2.2.1 x3.2.2.2.2.2.2.2.2.2.2.2.2.2.2.2.2.2.2.2.2.2.2.2.2.2.2.2.2.1) x3.2.2.2.2.2.2.2.2.2.2.2.2.2.2.2.2.2.2.2.2.2.2.2.2.2.2.2.2.2) (zA.mk e.aL e.aK e.Key e.N (za.mk e.za.aK e.za.aA e.za.Except e.za.il e.za.hJ e.za.iI e.za.iN e.za.aL (Expr.mk e.za.Test.Op e.za.Test.N e.za.Test.S e.za.Test.Key e.za.Test.fu) e.za.zg e.za.Uses e.za.iD e.za.N) (Expr.mk e.Body.Op e.Body.N e.Body.S e.Body.Key e.Body.fu) e.ay)) λx4=>aY x4 else aY bf)else(aM (vX (zA.mk e.aL e.aK e.Key e.N (za.mk e.za.aK e.za.aA e.za.Except e.za.il e.za.hJ e.za.iI e.za.iN e.za.aL (Expr.mk e.za.Test.Op e.za.Test.N e.za.Test.S e.za.Test.Key e.za.Test.fu) e.za.zg e.za.Uses e.za.iD e.za.N) (Expr.mk e.Body.Op e.Body.N e.Body.S e.Body.Key e.Body.fu) e.ay) (zA.mk e.aL e.aK e.Key e.N (za.mk ([]:ai) [] [] 0 0 0 bf 0 (Expr.mk 0 0 ([]:ai) ([]:ai) []) (zg.mk 0 0 0 0) 0 0 0) (Expr.mk 0 0 ([]:ai) ([]:ai) []) [])) λx6=>(bif (!x6)then aY bg else(JH e.aK).bind λx7=>aY (!x7))).bind λx5=>(bif x5 then aY bf else(bif (decide (e.aL=1))then(bif (decide (e.Key=([]:ai)))then(bif (decide (e.N>=1))then aY (decide (e.N<=1073741824))else aY bf)else aY bf)else(bif (decide (e.aL=3))then(JH e.Key).bind λx8=>(bif x8 then(bif (decide (e.N>=(-1099511627776)))then aY (decide (e.N<=1099511627776))else aY bf)else aY bf)else(bif (decide (e.aL=5))then(bif (decide (e.Key=([]:ai)))then(bif (decide (e.N>=0))then aY (decide (e.N<=1099511627776))else aY bf)else aY bf)else aY bf)))))
def VY(e:zA):Option (Bool):=aM (vh (zA.mk e.aL e.aK e.Key e.N (za.mk e.za.aK e.za.aA e.za.Except e.za.il e.za.hJ e.za.iI e.za.iN e.za.aL (Expr.mk e.za.Test.Op e.za.Test.N e.za.Test.S e.za.Test.Key e.za.Test.fu) e.za.zg e.za.Uses e.za.iD e.za.N) (Expr.mk e.Body.Op e.Body.N e.Body.S e.Body.Key e.Body.fu) e.ay)) λx1=>aY (!x1)
def xV(c0:List zA)(c1:Int):Nat->(Int)->Option ((Int)⊕(Unit))
 |0,_=>bh
 |K+1,q=>(bif (decide (q<c1))then(idx c0 q).bind λx1=>aM (VY x1) λx2=>(bif x2 then aY (bA q)else xV c0 c1 K (b_ (q+1)))else aY (bp ()))
def qz(s:List zA):Option (Int):=(xV s (s.length:Int) KK 0).bind (yg aY λ_=>aY (-1))
def je(s:List zA):Option (Bool):=aM (qz s) λx1=>aY (decide (x1>=0))
def Ma(a0:Int):Option (ai):=Mg a0
def Rl(a0:ai)(a1:ai)(a2:ai)(a3:Int):Option (ai):=VQ a0 a1 a2 a3
def Ta(e:zA):Option (ai):=aM (Ma e.N) λx1=>aM (Rl x1 MG zBy 1) λx2=>(bif (decide (e.aL=1))then(fN (ba DS+ba e.aK<=9223372036854775807)).bind λ_=>aM (fN (ba (DS++e.aK)+ba mw<=9223372036854775807)) λ_=>aM (fN (ba ((DS++e.aK)++mw)+ba x2<=9223372036854775807)) λ_=>aM (fN (ba (((DS++e.aK)++mw)++x2)+ba uk<=9223372036854775807)) λ_=>aY ((((DS++e.aK)++mw)++x2)++uk)else(bif (decide (e.aL=3))then(fN (ba VW+ba e.aK<=9223372036854775807)).bind λ_=>aM (fN (ba (VW++e.aK)+ba mw<=9223372036854775807)) λ_=>aM (fN (ba ((VW++e.aK)++mw)+ba e.Key<=9223372036854775807)) λ_=>aM (fN (ba (((VW++e.aK)++mw)++e.Key)+ba mw<=9223372036854775807)) λ_=>aM (fN (ba ((((VW++e.aK)++mw)++e.Key)++mw)+ba x2<=9223372036854775807)) λ_=>aM (fN (ba (((((VW++e.aK)++mw)++e.Key)++mw)++x2)+ba uk<=9223372036854775807)) λ_=>aY ((((((VW++e.aK)++mw)++e.Key)++mw)++x2)++uk)else(fN (ba JG+ba e.aK<=9223372036854775807)).bind λ_=>aM (fN (ba (JG++e.aK)+ba mw<=9223372036854775807)) λ_=>aM (fN (ba ((JG++e.aK)++mw)+ba x2<=9223372036854775807)) λ_=>aM (fN (ba (((JG++e.aK)++mw)++x2)+ba uk<=9223372036854775807)) λ_=>aY ((((JG++e.aK)++mw)++x2)++uk)))
def TW(a0:ai)(a1:ai):Option (Int×ai):=aM (fN (ba a0+ba a1<=140737488355328)) λ_=>aY ((a1.length:Int),a0++a1)
def TX(a0:ai):Option (Int):=aY (a0.length:Int)
def YX(a0:ai):Option (ai):=aY a0
def Ag(c0:Int)(c1:List zA)(c2:Int):Nat->(Int×ai)->Option ((ai×Int)⊕(ai))
 |0,_=>bh
 |K+1,q=>(bif (decide (q.1<c2))then(idx c1 q.1).bind λx1=>aM (vh (zA.mk x1.aL x1.aK x1.Key x1.N (za.mk x1.za.aK x1.za.aA x1.za.Except x1.za.il x1.za.hJ x1.za.iI x1.za.iN x1.za.aL (Expr.mk x1.za.Test.Op x1.za.Test.N x1.za.Test.S x1.za.Test.Key x1.za.Test.fu) x1.za.zg x1.za.Uses x1.za.iD x1.za.N) (Expr.mk x1.Body.Op x1.Body.N x1.Body.S x1.Body.Key x1.Body.fu) x1.ay)) λx2=>(bif (!x2)then aY (bA (([]:ai),1))else(JI (zA.mk x1.aL x1.aK x1.Key x1.N (za.mk x1.za.aK x1.za.aA x1.za.Except x1.za.il x1.za.hJ x1.za.iI x1.za.iN x1.za.aL (Expr.mk x1.za.Test.Op x1.za.Test.N x1.za.Test.S x1.za.Test.Key x1.za.Test.fu) x1.za.zg x1.za.Uses x1.za.iD x1.za.N) (Expr.mk x1.Body.Op x1.Body.N x1.Body.S x1.Body.Key x1.Body.fu) x1.ay)).bind λx3=>(bif x3.1 then bh else(Ta (zA.mk x1.aL x1.aK x1.Key x1.N (za.mk x1.za.aK x1.za.aA x1.za.Except x1.za.il x1.za.hJ x1.za.iI x1.za.iN x1.za.aL (Expr.mk x1.za.Test.Op x1.za.Test.N x1.za.Test.S x1.za.Test.Key x1.za.Test.fu) x1.za.zg x1.za.Uses x1.za.iD x1.za.N) (Expr.mk x1.Body.Op x1.Body.N x1.Body.S x1.Body.Key x1.Body.fu) x1.ay)).bind λx4=>aM (TW q.2 x4) λx5=>Ag c0 c1 c2 K ((b_ (q.1+1)),x5.2)))else aY (bp q.2))
def Rm(l:List zA):Option (ai×Int):=aM (aM (je l) λx2=>(bif (!x2)then aY (decide ((l.length:Int)>200))else aY bf)) λx1=>(bif x1 then aY (([]:ai),6)else(Ag 0 l (l.length:Int) KK (0,([]:ai))).bind (yg aY λx3=>aM ((bif (!(decide (0=0)))then aY bg else(TX x3).bind λx5=>aY (decide (x5>8000)))) λx4=>(bif x4 then aY (([]:ai),6)else(YX x3).bind λx6=>aY (x6,0))))
def vM(name:ai):Option (ai):=aY name
def u6(r_:za)(a1:ai):Option (Bool):=aY (decide (r_.aK=a1))
def zM(c0:ai)(c1:List za)(c2:Int):Nat->(Int)->Option ((Int)⊕(Unit))
 |0,_=>bh
 |K+1,q=>(bif (decide (q<c2))then(idx c1 q).bind λx1=>aM (u6 x1 c0) λx2=>(bif x2 then aY (bA q)else zM c0 c1 c2 K (b_ (q+1)))else aY (bp ()))
def yS(s:List za)(r_:ai):Option (Int):=(zM r_ s (s.length:Int) KK 0).bind (yg aY λ_=>aY (-1))
def z8(s:List za)(r_:ai):Option (Bool):=aM (yS s r_) λx1=>aY (decide (x1>=0))
def yB(s:List za):Option ((List za)):=aM (fN (ba (([]:List za)++s)*232<=140737488355328)) λ_=>aY (([]:List za)++s)
def VZ(a0:za):Option (Bool):=aY bf
def zN(c0:List za)(c1:Int):Nat->(Int)->Option ((Int)⊕(Unit))
 |0,_=>bh
 |K+1,q=>(bif (decide (q<c1))then(fN (0<=q/\q<(((ba c0):Nat):Int))).bind λ_=>aM ((c0)[(bB q)]?) λx2=>aM (VZ x2) λx3=>(bif x3 then aY (bA q)else zN c0 c1 K (b_ (q+1)))else aY (bp ()))
def wD(s:List za):Option (Int):=(zN s (((ba s):Nat):Int) KK 0).bind (yg aY λ_=>aY (-1))
def qe(r_:List za)(ri:Int)(ed:EB):Option ((List za)):=aM ((r_)[(bB ri)]?) λ_=>aY (cY r_ (bB ri) (za.mk ed.r0 ed.r1 ed.r2 ed.r3 ed.r4 ed.r5 ed.r6 ed.r7 (Expr.mk ed.r8 ed.r9 ed.E6 ed.E7 ed.E8) (zg.mk ed.E9 ed.E_ ed.Fb ed.r16) ed.Fc ed.Fe ed.Ff))
def FR(l:List za)(ed:EB)(most:Int):Option ((List za)×Int):=
 aM (yB l) λx1=>aM (wD x1) λx2=>((bif (decide (x2<0))then(bif (decide ((((ba x1):Nat):Int)>=most))then(fN (mF []=bg)).bind λ_=>aY (bA ([],6))else(fN (ba (x1++([(za.mk ([]:ai) [] [] 0 0 0 bf 0 (Expr.mk 0 0 ([]:ai) ([]:ai) []) (zg.mk 0 0 0 0) 0 0 0)]:List za))*232<=140737488355328)).bind λ_=>aY (bp ((((ba x1):Nat):Int),(x1++([(za.mk ([]:ai) [] [] 0 0 0 bf 0 (Expr.mk 0 0 ([]:ai) ([]:ai) []) (zg.mk 0 0 0 0) 0 0 0)]:List za)))))else aY (bp (x2,x1)))).bind (yg aY λx3=>aM (fN (0<=x3.1/\x3.1<(((ba x3.2):Nat):Int))) λ_=>aM (qe x3.2 (((bB x3.1):Nat):Int) ed) λx6=>aM (fN (mF [((ba x3.2),ba x6)]=bg)) λ_=>aY (x6,0))
def zO(c0:List za)(c1:ai)(c2:Int):Nat->(Int)->Option ((Int)⊕(Unit))
 |0,_=>bh
 |K+1,q=>(bif (decide (q<c2))then(fN (0<=q/\q<(((ba c0):Nat):Int))).bind λ_=>aM ((c0)[(bB q)]?) λx2=>aM (u6 x2 c1) λx3=>(bif x3 then aY (bA q)else zO c0 c1 c2 K (b_ (q+1)))else aY (bp ()))
def wE(s:List za)(r_:ai):Option (Int):=(zO s r_ (((ba s):Nat):Int) KK 0).bind (yg aY λ_=>aY (-1))
def qf(r_:List za)(ri:Int)(ed:EB):Option ((List za)):=aM ((r_)[(bB ri)]?) λx1=>aY (cY r_ (bB ri) (za.mk x1.aK x1.aA x1.Except x1.il ed.m x1.iI x1.iN x1.aL (Expr.mk x1.Test.Op x1.Test.N x1.Test.S x1.Test.Key x1.Test.fu) x1.zg x1.Uses x1.iD x1.N))
def JJ(l:List za)(r_:ai)(ed:EB)(most:Int):Option ((List za)×Int):=
 aM (yB l) λx1=>aM (wE x1 r_) λx2=>((bif (decide (x2<0))then(bif (decide ((((ba x1):Nat):Int)>=most))then(fN (mF []=bg)).bind λ_=>aY (bA ([],6))else(fN (ba (x1++([(za.mk ([]:ai) [] [] 0 0 0 bf 0 (Expr.mk 0 0 ([]:ai) ([]:ai) []) (zg.mk 0 0 0 0) 0 0 0)]:List za))*232<=140737488355328)).bind λ_=>aY (bp ((((ba x1):Nat):Int),(x1++([(za.mk ([]:ai) [] [] 0 0 0 bf 0 (Expr.mk 0 0 ([]:ai) ([]:ai) []) (zg.mk 0 0 0 0) 0 0 0)]:List za)))))else aY (bp (x2,x1)))).bind (yg aY λx3=>aM (fN (0<=x3.1/\x3.1<(((ba x3.2):Nat):Int))) λ_=>aM (qf x3.2 (((bB x3.1):Nat):Int) ed) λx6=>aM (fN (mF [((ba x3.2),ba x6)]=bg)) λ_=>aY (x6,0))
def qA(l:List za)(r_:ai)(ed:EB):Option ((List za)×Int):=aM (z8 l r_) λx1=>(bif (!x1)then aY ([],4)else(JJ l r_ ed (l.length:Int)).bind λx2=>aY (x2.1,x2.2))
def xt(s:List Def):Option ((List Def)):=aM (fN (ba (([]:List Def)++s)*88<=140737488355328)) λ_=>aY (([]:List Def)++s)
def V0(d:Def)(ed:EB):Option (Bool):=aY (decide (d.aK=ed.n))
def zP(ed:EB)(c0:List Def)(mv:Int):Nat->(Int)->Option ((Int)⊕(Unit))
 |0,_=>bh
 |K+1,q=>(bif (decide (q<mv))then(fN (0<=q/\q<(((ba c0):Nat):Int))).bind λ_=>aM ((c0)[(bB q)]?) λx2=>aM (V0 x2 ed) λx3=>(bif x3 then aY (bA q)else zP ed c0 mv K (b_ (q+1)))else aY (bp ()))
def wF(s:List Def)(ed:EB):Option (Int):=(zP ed s (((ba s):Nat):Int) KK 0).bind (yg aY λ_=>aY (-1))
def qg(d:List Def)(di:Int)(ed:EB):Option ((List Def)):=aM ((d)[(bB di)]?) λ_=>aY (cY d (bB di) (Def.mk ed.n (Expr.mk ed.b0 ed.b1 ed.b2 ed.b3 ed.b4)))
def JK(l:List Def)(ed:EB)(most:Int):Option ((List Def)×Int):=
 aM (xt l) λx1=>aM (wF x1 ed) λx2=>((bif (decide (x2<0))then(bif (decide ((((ba x1):Nat):Int)>=most))then(fN (mF []=bg)).bind λ_=>aY (bA ([],6))else(fN (ba (x1++([(Def.mk ([]:ai) (Expr.mk 0 0 ([]:ai) ([]:ai) []))]:List Def))*88<=140737488355328)).bind λ_=>aY (bp ((((ba x1):Nat):Int),(x1++([(Def.mk ([]:ai) (Expr.mk 0 0 ([]:ai) ([]:ai) []))]:List Def)))))else aY (bp (x2,x1)))).bind (yg aY λx3=>aM (fN (0<=x3.1/\x3.1<(((ba x3.2):Nat):Int))) λ_=>aM (qg x3.2 (((bB x3.1):Nat):Int) ed) λx6=>aM (fN (mF [((ba x3.2),ba x6)]=bg)) λ_=>aY (x6,0))
def xu(s:List ar):Option ((List ar)):=aM (fN (ba (([]:List ar)++s)*48<=140737488355328)) λ_=>aY (([]:List ar)++s)
def V1(t:ar)(ed:EB):Option (Bool):=aY (decide (t.aK=ed.n))
def zQ(ed:EB)(c0:List ar)(mv:Int):Nat->(Int)->Option ((Int)⊕(Unit))
 |0,_=>bh
 |K+1,q=>(bif (decide (q<mv))then(fN (0<=q/\q<(((ba c0):Nat):Int))).bind λ_=>aM ((c0)[(bB q)]?) λx2=>aM (V1 x2 ed) λx3=>(bif x3 then aY (bA q)else zQ ed c0 mv K (b_ (q+1)))else aY (bp ()))
def wG(s:List ar)(ed:EB):Option (Int):=(zQ ed s (((ba s):Nat):Int) KK 0).bind (yg aY λ_=>aY (-1))
def wP(s:List av):Option ((List av)):=aM (fN (ba (([]:List av)++s)*24<=140737488355328)) λ_=>aY (([]:List av)++s)
def JL(x_:av)(ed:EB):Option (Bool):=aY (decide (x_.aK=ed.y))
def zR(ed:EB)(c0:List av)(mv:Int):Nat->(Int)->Option ((Int)⊕(Unit))
 |0,_=>bh
 |K+1,q=>(bif (decide (q<mv))then(fN (0<=q/\q<(((ba c0):Nat):Int))).bind λ_=>aM ((c0)[(bB q)]?) λx2=>aM (JL x2 ed) λx3=>(bif x3 then aY (bA q)else zR ed c0 mv K (b_ (q+1)))else aY (bp ()))
def wH(s:List av)(ed:EB):Option (Int):=(zR ed s (((ba s):Nat):Int) KK 0).bind (yg aY λ_=>aY (-1))
def vi(x_:List av)(xi:Int)(ed:EB):Option ((List av)):=aM ((x_)[(bB xi)]?) λ_=>aY (cY x_ (bB xi) (av.mk ed.y ed.m))
def Ah(l:List av)(ed:EB)(most:Int):Option ((List av)×Int):=
 aM (wP l) λx1=>aM (wH x1 ed) λx2=>((bif (decide (x2<0))then(bif (decide ((((ba x1):Nat):Int)>=most))then(fN (mF []=bg)).bind λ_=>aY (bA ([],6))else(fN (ba (x1++([(av.mk ([]:ai) 0)]:List av))*24<=140737488355328)).bind λ_=>aY (bp ((((ba x1):Nat):Int),(x1++([(av.mk ([]:ai) 0)]:List av)))))else aY (bp (x2,x1)))).bind (yg aY λx3=>aM (fN (0<=x3.1/\x3.1<(((ba x3.2):Nat):Int))) λ_=>aM (vi x3.2 (((bB x3.1):Nat):Int) ed) λx6=>aM (fN (mF [((ba x3.2),ba x6)]=bg)) λ_=>aY (x6,0))
def qh(t:List ar)(ti:Int)(ed:EB)(a2:Int):Option ((List ar)×Int):=aM ((t)[(bB ti)]?) λx1=>aM (((cY t (bB ti) (ar.mk ed.n x1.Rows x1.mD)))[(bB ti)]?) λx2=>aM (Ah x2.Rows ed 60) λx3=>aM (((cY t (bB ti) (ar.mk ed.n x1.Rows x1.mD)))[(bB ti)]?) λx4=>aY ((cY (cY t (bB ti) (ar.mk ed.n x1.Rows x1.mD)) (bB ti) (ar.mk x4.aK x3.1 x4.mD)),x3.2)
def JM(l:List ar)(ed:EB)(t:Int)(most:Int):Option ((List ar)×Int×Int):=
 aM (xu l) λx1=>aM (wG x1 ed) λx2=>((bif (decide (x2<0))then(bif (decide ((((ba x1):Nat):Int)>=most))then(fN (mF []=bg)).bind λ_=>aY (bA ([],6,t))else(fN (ba (x1++([(ar.mk ([]:ai) [] 0)]:List ar))*48<=140737488355328)).bind λ_=>aY (bp ((((ba x1):Nat):Int),(x1++([(ar.mk ([]:ai) [] 0)]:List ar)))))else aY (bp (x2,x1)))).bind (yg aY λx3=>aM (fN (0<=x3.1/\x3.1<(((ba x3.2):Nat):Int))) λ_=>aM (qh x3.2 (((bB x3.1):Nat):Int) ed t) λx6=>aM (fN (mF [((ba x3.2),ba x6.1)]=bg)) λ_=>aY (x6.1,0,x6.2))
def V2(z:zq)(ed:EB):Option (Bool):=aY (decide (z.aK=ed.n))
def zS(ed:EB)(p5:List zq)(mv:Int):Nat->(Int)->Option ((Int)⊕(Unit))
 |0,_=>bh
 |K+1,q=>(bif (decide (q<mv))then(idx p5 q).bind λx1=>aM (V2 x1 ed) λx2=>(bif x2 then aY (bA q)else zS ed p5 mv K (b_ (q+1)))else aY (bp ()))
def wI(s:List zq)(ed:EB):Option (Int):=(zS ed s (s.length:Int) KK 0).bind (yg aY λ_=>aY (-1))
def xv(s:List zq):Option ((List zq)):=aM (fN (ba (([]:List zq)++s)*48<=140737488355328)) λ_=>aY (([]:List zq)++s)
def K5(z:zq)(ed:EB):Option (Bool):=aY (decide (z.aK=ed.n))
def zU(ed:EB)(c0:List zq)(mv:Int):Nat->(Int)->Option ((Int)⊕(Unit))
 |0,_=>bh
 |K+1,q=>(bif (decide (q<mv))then(fN (0<=q/\q<(((ba c0):Nat):Int))).bind λ_=>aM ((c0)[(bB q)]?) λx2=>aM (K5 x2 ed) λx3=>(bif x3 then aY (bA q)else zU ed c0 mv K (b_ (q+1)))else aY (bp ()))
def wJ(s:List zq)(ed:EB):Option (Int):=(zU ed s (((ba s):Nat):Int) KK 0).bind (yg aY λ_=>aY (-1))
def jf(z:List zq)(zi:Int)(ed:EB):Option ((List zq)):=aM ((z)[(bB zi)]?) λ_=>aY (cY z (bB zi) (zq.mk ed.n (decide (ed.m=1)) ed.c))
def JN(l:List zq)(ed:EB)(most:Int):Option ((List zq)×Int):=
 aM (xv l) λx1=>aM (wJ x1 ed) λx2=>((bif (decide (x2<0))then(bif (decide ((((ba x1):Nat):Int)>=most))then(fN (mF []=bg)).bind λ_=>aY (bA ([],6))else(fN (ba (x1++([(zq.mk ([]:ai) bf [])]:List zq))*48<=140737488355328)).bind λ_=>aY (bp ((((ba x1):Nat):Int),(x1++([(zq.mk ([]:ai) bf [])]:List zq)))))else aY (bp (x2,x1)))).bind (yg aY λx3=>aM (fN (0<=x3.1/\x3.1<(((ba x3.2):Nat):Int))) λ_=>aM (jf x3.2 (((bB x3.1):Nat):Int) ed) λx6=>aM (fN (mF [((ba x3.2),ba x6)]=bg)) λ_=>aY (x6,0))
def Ai(c_:eC)(ed:EB):Option (Bool):=aY (decide (c_.aK=ed.n))
def zF(ed:EB)(p5:List eC)(mv:Int):Nat->(Int)->Option ((Int)⊕(Unit))
 |0,_=>bh
 |K+1,q=>(bif (decide (q<mv))then(idx p5 q).bind λx1=>aM (Ai x1 ed) λx2=>(bif x2 then aY (bA q)else zF ed p5 mv K (b_ (q+1)))else aY (bp ()))
def xW(s:List eC)(ed:EB):Option (Int):=(zF ed s (s.length:Int) KK 0).bind (yg aY λ_=>aY (-1))
def yo(s:List eC)(ed:EB):Option (Bool):=aM (xW s ed) λx1=>aY (decide (x1>=0))
def xw(s:List eC):Option ((List eC)):=aM (fN (ba (([]:List eC)++s)*56<=140737488355328)) λ_=>aY (([]:List eC)++s)
def zG(ed:EB)(c0:List eC)(mv:Int):Nat->(Int)->Option ((Int)⊕(Unit))
 |0,_=>bh
 |K+1,q=>(bif (decide (q<mv))then(fN (0<=q/\q<(((ba c0):Nat):Int))).bind λ_=>aM ((c0)[(bB q)]?) λx2=>aM (Ai x2 ed) λx3=>(bif x3 then aY (bA q)else zG ed c0 mv K (b_ (q+1)))else aY (bp ()))
def xX(s:List eC)(ed:EB):Option (Int):=(zG ed s (((ba s):Nat):Int) KK 0).bind (yg aY λ_=>aY (-1))
def jg(c_:List eC)(ci:Int)(ed:EB):Option ((List eC)):=aM ((c_)[(bB ci)]?) λx1=>aY (cY c_ (bB ci) (eC.mk x1.aK x1.oS ed.m x1.ay))
def JO(l:List eC)(ed:EB)(most:Int):Option ((List eC)×Int):=
 aM (xw l) λx1=>aM (xX x1 ed) λx2=>((bif (decide (x2<0))then(bif (decide ((((ba x1):Nat):Int)>=most))then(fN (mF []=bg)).bind λ_=>aY (bA ([],6))else(fN (ba (x1++([(eC.mk ([]:ai) 0 0 [])]:List eC))*56<=140737488355328)).bind λ_=>aY (bp ((((ba x1):Nat):Int),(x1++([(eC.mk ([]:ai) 0 0 [])]:List eC)))))else aY (bp (x2,x1)))).bind (yg aY λx3=>aM (fN (0<=x3.1/\x3.1<(((ba x3.2):Nat):Int))) λ_=>aM (jg x3.2 (((bB x3.1):Nat):Int) ed) λx6=>aM (fN (mF [((ba x3.2),ba x6)]=bg)) λ_=>aY (x6,0))
def vY(l:List eC)(ed:EB):Option ((List eC)×Int):=aM (yo l ed) λx1=>(bif (!x1)then aY ([],4)else(JO l ed (l.length:Int)).bind λx2=>aY (x2.1,x2.2))
def yy(p:yf)(e:zA):Option (Int×(List Def)×(List ar)×(List zq)×(List za)×(List eC)×(List au)×(List zh)×Int):=
 ((bif (decide (e.aL=0))then(vM e.za.aK).bind λx2=>aM (z8 p.aB x2) λx3=>(bif x3 then aY (bA (5,p.aE,p.Tables,p.aA,p.aB,p.aI,p.aF,p.aJ,p.aG))else(FR p.aB (EB.mk e.aL e.aK e.Key e.N e.za.aK e.za.aA e.za.Except e.za.il e.za.hJ e.za.iI e.za.iN e.za.aL e.za.Test.Op e.za.Test.N e.za.Test.S e.za.Test.Key e.za.Test.fu e.za.zg.me e.za.zg.mb e.za.zg.l8 e.za.zg.Den e.za.Uses e.za.iD e.za.N e.Body.Op e.Body.N e.Body.S e.Body.Key e.Body.fu e.ay) 200).bind λx4=>aY (bp (x4.2,p.aE,p.Tables,p.aA,x4.1,p.aI)))else(bif (decide (e.aL=1))then(vM e.aK).bind λx5=>aM (yS p.aB x5) λx6=>aM ((bif (decide (x6>=0))then(idx p.aB x6).bind λx8=>aY (decide (e.N<=x8.il))else aY bf)) λx7=>(bif x7 then aY (bA (20,p.aE,p.Tables,p.aA,p.aB,p.aI,p.aF,p.aJ,p.aG))else(vM e.aK).bind λx9=>aM (qA p.aB x9 (EB.mk e.aL e.aK e.Key e.N e.za.aK e.za.aA e.za.Except e.za.il e.za.hJ e.za.iI e.za.iN e.za.aL e.za.Test.Op e.za.Test.N e.za.Test.S e.za.Test.Key e.za.Test.fu e.za.zg.me e.za.zg.mb e.za.zg.l8 e.za.zg.Den e.za.Uses e.za.iD e.za.N e.Body.Op e.Body.N e.Body.S e.Body.Key e.Body.fu e.ay)) λmu=>aY (bp (mu.2,p.aE,p.Tables,p.aA,mu.1,p.aI)))else(bif (decide (e.aL=2))then(JK p.aE (EB.mk e.aL e.aK e.Key e.N e.za.aK e.za.aA e.za.Except e.za.il e.za.hJ e.za.iI e.za.iN e.za.aL e.za.Test.Op e.za.Test.N e.za.Test.S e.za.Test.Key e.za.Test.fu e.za.zg.me e.za.zg.mb e.za.zg.l8 e.za.zg.Den e.za.Uses e.za.iD e.za.N e.Body.Op e.Body.N e.Body.S e.Body.Key e.Body.fu e.ay) 60).bind λlT=>aY (bp (lT.2,lT.1,p.Tables,p.aA,p.aB,p.aI))else(bif (decide (e.aL=3))then(JM p.Tables (EB.mk e.aL e.aK e.Key e.N e.za.aK e.za.aA e.za.Except e.za.il e.za.hJ e.za.iI e.za.iN e.za.aL e.za.Test.Op e.za.Test.N e.za.Test.S e.za.Test.Key e.za.Test.fu e.za.zg.me e.za.zg.mb e.za.zg.l8 e.za.zg.Den e.za.Uses e.za.iD e.za.N e.Body.Op e.Body.N e.Body.S e.Body.Key e.Body.fu e.ay) 0 60).bind λnz=>aY (bp ((max nz.2.1 nz.2.2),p.aE,nz.1,p.aA,p.aB,p.aI))else(bif (decide (e.aL=4))then(wI p.aA (EB.mk e.aL e.aK e.Key e.N e.za.aK e.za.aA e.za.Except e.za.il e.za.hJ e.za.iI e.za.iN e.za.aL e.za.Test.Op e.za.Test.N e.za.Test.S e.za.Test.Key e.za.Test.fu e.za.zg.me e.za.zg.mb e.za.zg.l8 e.za.zg.Den e.za.Uses e.za.iD e.za.N e.Body.Op e.Body.N e.Body.S e.Body.Key e.Body.fu e.ay)).bind λnA=>aM ((bif (decide (nA>=0))then(idx p.aA nA).bind λrG=>aY (!(rG.lQ==(decide (e.N=1))))else aY bf)) λpL=>(bif pL then aY (bA (17,p.aE,p.Tables,p.aA,p.aB,p.aI,p.aF,p.aJ,p.aG))else(JN p.aA (EB.mk e.aL e.aK e.Key e.N e.za.aK e.za.aA e.za.Except e.za.il e.za.hJ e.za.iI e.za.iN e.za.aL e.za.Test.Op e.za.Test.N e.za.Test.S e.za.Test.Key e.za.Test.fu e.za.zg.me e.za.zg.mb e.za.zg.l8 e.za.zg.Den e.za.Uses e.za.iD e.za.N e.Body.Op e.Body.N e.Body.S e.Body.Key e.Body.fu e.ay) 60).bind λCh=>aY (bp (Ch.2,p.aE,p.Tables,Ch.1,p.aB,p.aI)))else(vY p.aI (EB.mk e.aL e.aK e.Key e.N e.za.aK e.za.aA e.za.Except e.za.il e.za.hJ e.za.iI e.za.iN e.za.aL e.za.Test.Op e.za.Test.N e.za.Test.S e.za.Test.Key e.za.Test.fu e.za.zg.me e.za.zg.mb e.za.zg.l8 e.za.zg.Den e.za.Uses e.za.iD e.za.N e.Body.Op e.Body.N e.Body.S e.Body.Key e.Body.fu e.ay)).bind λCi=>aY (bp (Ci.2,p.aE,p.Tables,p.aA,p.aB,Ci.1)))))))).bind (yg aY λx1=>aY (x1.1,x1.2.1,x1.2.2.1,x1.2.2.2.1,x1.2.2.2.2.1,x1.2.2.2.2.2,p.aF,p.aJ,p.aG))
def wQ(s:List au):Option ((List au)):=aM (fN (ba (([]:List au)++s)*72<=140737488355328)) λ_=>aY (([]:List au)++s)
def xx(s:List zh):Option ((List zh)):=aM (fN (ba (([]:List zh)++s)*24<=140737488355328)) λ_=>aY (([]:List zh)++s)
def xC(ς:Expr->Option (Int×Int×ai×ai×(List Expr)))(c0:List Expr)(c1:Int)(c2:Int)(c3:Int)(c4:ai)(c5:ai)(c6:Int)(c7:ai)(c8:List Expr):Nat->(Int×(List Expr))->Option ((List Expr))
 |0,_=>bh
 |K+1,q=>(bif (decide (q.1<c1))then(idx c0 q.1).bind λx1=>aM (ς (Expr.mk x1.Op x1.N x1.S x1.Key x1.fu)) λx2=>aM (fN (ba (q.2++([(Expr.mk x2.1 x2.2.1 x2.2.2.1 x2.2.2.2.1 x2.2.2.2.2)]:List Expr))*72<=140737488355328)) λ_=>xC ς c0 c1 c2 c3 c4 c5 c6 c7 c8 K ((b_ (q.1+1)),(q.2++([(Expr.mk x2.1 x2.2.1 x2.2.2.1 x2.2.2.2.1 x2.2.2.2.2)]:List Expr)))else aY q.2)
def xh:Nat->Expr->Option (Int×Int×ai×ai×(List Expr))
 |0,_=>bh
 |RK+1,e=>aM (xC (xh RK) e.fu (e.fu.length:Int) e.Op e.N e.S e.Key 0 ([]:ai) [] KK (0,[])) λx1=>aY (e.Op,e.N,e.S,e.Key,x1)
def wk(s:List av):Option ((List av)):=aM (fN (ba (([]:List av)++s)*24<=140737488355328)) λ_=>aY (([]:List av)++s)
def yV(s:List zt):Option ((List zt)):=aM (fN (ba (([]:List zt)++s)*16<=140737488355328)) λ_=>aY (([]:List zt)++s)
def yW(s:List ai):Option ((List ai)):=aM (fN (ba (([]:List ai)++s)*16<=140737488355328)) λ_=>aY (([]:List ai)++s)
def kH(c0:Int)(c1:List zh)(c2:Int)(c3:List zh)(c4:Int)(c5:List ar)(c6:List zq)(c7:List za)(c8:List eC)(c9:List au)(iE:List Def)(iK:List ar)(iQ:List zq)(iF:List za)(iL:List eC)(iX:List au):Nat->(Int×(List Def))->Option ((List Def))
 |0,_=>bh
 |K+1,q=>(bif (decide (q.1<c0))then(fN (0<=q.1/\q.1<(((ba q.2):Nat):Int))).bind λ_=>aM ((q.2)[(bB q.1)]?) λx2=>aM (xh KK x2.Body) λx3=>aM (fN (0<=q.1/\q.1<(((ba q.2):Nat):Int))) λ_=>aM ((q.2)[(bB q.1)]?) λx5=>kH c0 c1 c2 c3 c4 c5 c6 c7 c8 c9 iE iK iQ iF iL iX K ((b_ (q.1+1)),(cY q.2 (bB q.1) (Def.mk x5.aK (Expr.mk x3.1 x3.2.1 x3.2.2.1 x3.2.2.2.1 x3.2.2.2.2))))else aY q.2)
def kI(c0:Int)(c1:List zh)(c2:Int)(c3:List zh)(c4:Int)(c5:List Def)(c6:List zq)(c7:List za)(c8:List eC)(c9:List au)(iE:List Def)(iK:List ar)(iQ:List zq)(iF:List za)(iL:List eC)(iX:List au):Nat->(Int×(List ar))->Option ((List ar))
 |0,_=>bh
 |K+1,q=>(bif (decide (q.1<c0))then(fN (0<=q.1/\q.1<(((ba q.2):Nat):Int))).bind λ_=>aM ((q.2)[(bB q.1)]?) λx2=>aM (wk x2.Rows) λx3=>aM (fN (0<=q.1/\q.1<(((ba q.2):Nat):Int))) λ_=>aM ((q.2)[(bB q.1)]?) λx5=>kI c0 c1 c2 c3 c4 c5 c6 c7 c8 c9 iE iK iQ iF iL iX K ((b_ (q.1+1)),(cY q.2 (bB q.1) (ar.mk x5.aK x3 x5.mD)))else aY q.2)
def kJ(c0:Int)(c1:List zh)(c2:Int)(c3:List zh)(c4:Int)(c5:List Def)(c6:List ar)(c7:List za)(c8:List eC)(c9:List au)(iE:List Def)(iK:List ar)(iQ:List zq)(iF:List za)(iL:List eC)(iX:List au):Nat->(Int×(List zq))->Option ((List zq))
 |0,_=>bh
 |K+1,q=>(bif (decide (q.1<c0))then(fN (0<=q.1/\q.1<(((ba q.2):Nat):Int))).bind λ_=>aM ((q.2)[(bB q.1)]?) λx2=>aM (yV x2.ay) λx3=>aM (fN (0<=q.1/\q.1<(((ba q.2):Nat):Int))) λ_=>aM ((q.2)[(bB q.1)]?) λx5=>kJ c0 c1 c2 c3 c4 c5 c6 c7 c8 c9 iE iK iQ iF iL iX K ((b_ (q.1+1)),(cY q.2 (bB q.1) (zq.mk x5.aK x5.lQ x3)))else aY q.2)
def kK(c0:Int)(c1:List zh)(c2:Int)(c3:List zh)(c4:Int)(c5:List Def)(c6:List ar)(c7:List zq)(c8:List eC)(c9:List au)(iE:List Def)(iK:List ar)(iQ:List zq)(iF:List za)(iL:List eC)(iX:List au):Nat->(Int×(List za))->Option ((List za))
 |0,_=>bh
 |K+1,q=>(bif (decide (q.1<c0))then(fN (0<=q.1/\q.1<(((ba q.2):Nat):Int))).bind λ_=>aM ((q.2)[(bB q.1)]?) λx2=>aM (yW x2.aA) λx3=>aM (yW x2.Except) λx4=>aM (xh KK (Expr.mk x2.Test.Op x2.Test.N x2.Test.S x2.Test.Key x2.Test.fu)) λx5=>aM (fN (0<=q.1/\q.1<(((ba q.2):Nat):Int))) λ_=>aM ((q.2)[(bB q.1)]?) λx7=>aM (fN (0<=q.1/\q.1<(((ba q.2):Nat):Int))) λ_=>aM (((cY q.2 (bB q.1) (za.mk x7.aK x3 x7.Except x7.il x7.hJ x7.iI x7.iN x7.aL (Expr.mk x7.Test.Op x7.Test.N x7.Test.S x7.Test.Key x7.Test.fu) x7.zg x7.Uses x7.iD x7.N)))[(bB q.1)]?) λx9=>aM (fN (0<=q.1/\q.1<(((ba q.2):Nat):Int))) λ_=>aM (((cY (cY q.2 (bB q.1) (za.mk x7.aK x3 x7.Except x7.il x7.hJ x7.iI x7.iN x7.aL (Expr.mk x7.Test.Op x7.Test.N x7.Test.S x7.Test.Key x7.Test.fu) x7.zg x7.Uses x7.iD x7.N)) (bB q.1) (za.mk x9.aK x9.aA x4 x9.il x9.hJ x9.iI x9.iN x9.aL (Expr.mk x9.Test.Op x9.Test.N x9.Test.S x9.Test.Key x9.Test.fu) x9.zg x9.Uses x9.iD x9.N)))[(bB q.1)]?) λlT=>kK c0 c1 c2 c3 c4 c5 c6 c7 c8 c9 iE iK iQ iF iL iX K ((b_ (q.1+1)),(cY (cY (cY q.2 (bB q.1) (za.mk x7.aK x3 x7.Except x7.il x7.hJ x7.iI x7.iN x7.aL (Expr.mk x7.Test.Op x7.Test.N x7.Test.S x7.Test.Key x7.Test.fu) x7.zg x7.Uses x7.iD x7.N)) (bB q.1) (za.mk x9.aK x9.aA x4 x9.il x9.hJ x9.iI x9.iN x9.aL (Expr.mk x9.Test.Op x9.Test.N x9.Test.S x9.Test.Key x9.Test.fu) x9.zg x9.Uses x9.iD x9.N)) (bB q.1) (za.mk lT.aK lT.aA lT.Except lT.il lT.hJ lT.iI lT.iN lT.aL (Expr.mk x5.1 x5.2.1 x5.2.2.1 x5.2.2.2.1 x5.2.2.2.2) lT.zg lT.Uses lT.iD lT.N)))else aY q.2)
def kL(c0:Int)(c1:List zh)(c2:Int)(c3:List zh)(c4:Int)(c5:List Def)(c6:List ar)(c7:List zq)(c8:List za)(c9:List au)(iE:List Def)(iK:List ar)(iQ:List zq)(iF:List za)(iL:List eC)(iX:List au):Nat->(Int×(List eC))->Option ((List eC))
 |0,_=>bh
 |K+1,q=>(bif (decide (q.1<c0))then(fN (0<=q.1/\q.1<(((ba q.2):Nat):Int))).bind λ_=>aM ((q.2)[(bB q.1)]?) λx2=>aM (yV x2.ay) λx3=>aM (fN (0<=q.1/\q.1<(((ba q.2):Nat):Int))) λ_=>aM ((q.2)[(bB q.1)]?) λx5=>kL c0 c1 c2 c3 c4 c5 c6 c7 c8 c9 iE iK iQ iF iL iX K ((b_ (q.1+1)),(cY q.2 (bB q.1) (eC.mk x5.aK x5.oS x5.mM x3)))else aY q.2)
def kM(c0:Int)(c1:List zh)(c2:Int)(c3:List zh)(c4:Int)(c5:List Def)(c6:List ar)(c7:List zq)(c8:List za)(c9:List eC)(iE:List Def)(iK:List ar)(iQ:List zq)(iF:List za)(iL:List eC)(iX:List au):Nat->(Int×(List au))->Option ((List au))
 |0,_=>bh
 |K+1,q=>(bif (decide (q.1<c0))then(fN (0<=q.1/\q.1<(((ba q.2):Nat):Int))).bind λ_=>aM ((q.2)[(bB q.1)]?) λx2=>aM (xx x2.lL) λx3=>aM (fN (0<=q.1/\q.1<(((ba q.2):Nat):Int))) λ_=>aM ((q.2)[(bB q.1)]?) λx5=>kM c0 c1 c2 c3 c4 c5 c6 c7 c8 c9 iE iK iQ iF iL iX K ((b_ (q.1+1)),(cY q.2 (bB q.1) (au.mk x5.aK x5.l3 x5.oU x3)))else aY q.2)
def HZ(p:yf):Option ((List zh)×Int×(List Def)×(List ar)×(List zq)×(List za)×(List eC)×(List au)):=aM (xt p.aE) λx1=>aM (xu p.Tables) λx2=>aM (xv p.aA) λx3=>aM (yB p.aB) λx4=>aM (xw p.aI) λx5=>aM (wQ p.aF) λx6=>aM (xx p.aJ) λx7=>aM (kH (((ba x1):Nat):Int) x7 p.aG [] 0 x2 x3 x4 x5 x6 ([]:List Def) ([]:List ar) ([]:List zq) ([]:List za) ([]:List eC) ([]:List au) KK (0,x1)) λx8=>aM (kI (((ba x2):Nat):Int) x7 p.aG [] 0 x8 x3 x4 x5 x6 ([]:List Def) ([]:List ar) ([]:List zq) ([]:List za) ([]:List eC) ([]:List au) KK (0,x2)) λx9=>aM (kJ (((ba x3):Nat):Int) x7 p.aG [] 0 x8 x9 x4 x5 x6 ([]:List Def) ([]:List ar) ([]:List zq) ([]:List za) ([]:List eC) ([]:List au) KK (0,x3)) λmu=>aM (kK (((ba x4):Nat):Int) x7 p.aG [] 0 x8 x9 mu x5 x6 ([]:List Def) ([]:List ar) ([]:List zq) ([]:List za) ([]:List eC) ([]:List au) KK (0,x4)) λlT=>aM (kL (((ba x5):Nat):Int) x7 p.aG [] 0 x8 x9 mu lT x6 ([]:List Def) ([]:List ar) ([]:List zq) ([]:List za) ([]:List eC) ([]:List au) KK (0,x5)) λnz=>aM (kM (((ba x6):Nat):Int) x7 p.aG [] 0 x8 x9 mu lT nz ([]:List Def) ([]:List ar) ([]:List zq) ([]:List za) ([]:List eC) ([]:List au) KK (0,x6)) λnA=>aY (x7,p.aG,x8,x9,mu,lT,nz,nA)
def u7(p:yf)(e:zA):Option (Int×(List Def)×(List ar)×(List zq)×(List za)×(List eC)×(List au)×(List zh)×Int):=aM (aM (Af p) λx2=>(bif (!x2)then aY bg else(vh (zA.mk e.aL e.aK e.Key e.N (za.mk e.za.aK e.za.aA e.za.Except e.za.il e.za.hJ e.za.iI e.za.iN e.za.aL (Expr.mk e.za.Test.Op e.za.Test.N e.za.Test.S e.za.Test.Key e.za.Test.fu) e.za.zg e.za.Uses e.za.iD e.za.N) (Expr.mk e.Body.Op e.Body.N e.Body.S e.Body.Key e.Body.fu) e.ay)).bind λx3=>aY (!x3))) λx1=>(bif x1 then aY (1,[],[],[],[],[],[],[],0)else(yy p (zA.mk e.aL e.aK e.Key e.N (za.mk e.za.aK e.za.aA e.za.Except e.za.il e.za.hJ e.za.iI e.za.iN e.za.aL (Expr.mk e.za.Test.Op e.za.Test.N e.za.Test.S e.za.Test.Key e.za.Test.fu) e.za.zg e.za.Uses e.za.iD e.za.N) (Expr.mk e.Body.Op e.Body.N e.Body.S e.Body.Key e.Body.fu) e.ay)).bind λx4=>(bif (!(decide (x4.1=0)))then aY (x4.1,[],[],[],[],[],[],[],0)else(HZ (yf.mk x4.2.1 x4.2.2.1 x4.2.2.2.1 x4.2.2.2.2.1 x4.2.2.2.2.2.1 x4.2.2.2.2.2.2.1 x4.2.2.2.2.2.2.2.1 x4.2.2.2.2.2.2.2.2)).bind λx5=>aY (0,x5.2.2.1,x5.2.2.2.1,x5.2.2.2.2.1,x5.2.2.2.2.2.1,x5.2.2.2.2.2.2.1,x5.2.2.2.2.2.2.2,x5.1,x5.2.1)))
def V3(n:Int):Option (Int×Int×ai×ai×(List Expr)):=aY (0,n,([]:ai),([]:ai),[])
def JP(x_:Def)(tc:ai)(afW:Int)(afU:Int)(afV:ai)(afY:ai)(afZ:List Expr):Option (Bool):=aY (decide (x_.aK=tc))
def yX(c0:ai)(c1:Int)(c2:Int)(c3:ai)(c4:ai)(c5:List Expr)(c6:List Def)(c7:Int):Nat->(Int)->Option ((Int)⊕(Unit))
 |0,_=>bh
 |K+1,q=>(bif (decide (q<c7))then(idx c6 q).bind λx1=>aM (JP x1 c0 c1 c2 c3 c4 c5) λx2=>(bif x2 then aY (bA q)else yX c0 c1 c2 c3 c4 c5 c6 c7 K (b_ (q+1)))else aY (bp ()))
def jh(s:List Def)(po:ai)(NX:Int)(NV:Int)(NW:ai)(NZ:ai)(N0:List Expr):Option (Int):=(yX po NX NV NW NZ N0 s (s.length:Int) KK 0).bind (yg aY λ_=>aY (-1))
def Tb(l:List Def)(po:ai)(NX:Int)(NV:Int)(NW:ai)(NZ:ai)(N0:List Expr):Option (Bool×ai×Int×Int×ai×ai×(List Expr)):=aM (jh l po NX NV NW NZ N0) λx1=>(bif (decide (x1>=0))then(idx l x1).bind λx2=>aY (bg,x2.aK,x2.Body.Op,x2.Body.N,x2.Body.S,x2.Body.Key,x2.Body.fu)else aY (bf,([]:ai),0,0,([]:ai),([]:ai),[]))
def JQ(x_:ar)(tc:ai)(afS:List av)(afQ:Int):Option (Bool):=aY (decide (x_.aK=tc))
def yY(c0:ai)(c1:List av)(c2:Int)(c3:List ar)(c4:Int):Nat->(Int)->Option ((Int)⊕(Unit))
 |0,_=>bh
 |K+1,q=>(bif (decide (q<c4))then(idx c3 q).bind λx1=>aM (JQ x1 c0 c1 c2) λx2=>(bif x2 then aY (bA q)else yY c0 c1 c2 c3 c4 K (b_ (q+1)))else aY (bp ()))
def ji(s:List ar)(po:ai)(NS:List av)(NQ:Int):Option (Int):=(yY po NS NQ s (s.length:Int) KK 0).bind (yg aY λ_=>aY (-1))
def YY(l:List ar)(po:ai)(NS:List av)(NQ:Int):Option (Bool×ai×(List av)×Int):=aM (ji l po NS NQ) λx1=>(bif (decide (x1>=0))then(idx l x1).bind λx2=>aY (bg,x2.aK,x2.Rows,x2.mD)else aY (bf,([]:ai),[],0))
def JR(y:av)(tc:ai)(afA:Int):Option (Bool):=aY (decide (y.aK=tc))
def yZ(c0:ai)(c1:Int)(c2:List av)(c3:Int):Nat->(Int)->Option ((Int)⊕(Unit))
 |0,_=>bh
 |K+1,q=>(bif (decide (q<c3))then(idx c2 q).bind λx1=>aM (JR x1 c0 c1) λx2=>(bif x2 then aY (bA q)else yZ c0 c1 c2 c3 K (b_ (q+1)))else aY (bp ()))
def jj(s:List av)(NT:ai)(Lf:Int):Option (Int):=(yZ NT Lf s (s.length:Int) KK 0).bind (yg aY λ_=>aY (-1))
def YZ(l:List av)(NT:ai)(Lf:Int):Option (Bool×ai×Int):=aM (jj l NT Lf) λx1=>(bif (decide (x1>=0))then(idx l x1).bind λx2=>aY (bg,x2.aK,x2.N)else aY (bf,([]:ai),0))
def JS(x_:zq)(tc:ai)(afX:Bool)(afb:List zt):Option (Bool):=aY (decide (x_.aK=tc))
def y0(c0:ai)(c1:Bool)(c2:List zt)(c3:List zq)(c4:Int):Nat->(Int)->Option ((Int)⊕(Unit))
 |0,_=>bh
 |K+1,q=>(bif (decide (q<c4))then(idx c3 q).bind λx1=>aM (JS x1 c0 c1 c2) λx2=>(bif x2 then aY (bA q)else y0 c0 c1 c2 c3 c4 K (b_ (q+1)))else aY (bp ()))
def jk(s:List zq)(po:ai)(NY:Bool)(Bx:List zt):Option (Int):=(y0 po NY Bx s (s.length:Int) KK 0).bind (yg aY λ_=>aY (-1))
def Y2(l:List zq)(po:ai)(NY:Bool)(Bx:List zt):Option (Bool×ai×Bool×(List zt)):=aM (jk l po NY Bx) λx1=>(bif (decide (x1>=0))then(idx l x1).bind λx2=>aY (bg,x2.aK,x2.lQ,x2.ay)else aY (bf,([]:ai),bf,[]))
def JT(x_:za)(ru:RB):Option (Bool):=aY (decide (x_.aK=ru.r0))
def y3(ru:RB)(oW:List za)(pF:Int):Nat->(Int)->Option ((Int)⊕(Unit))
 |0,_=>bh
 |K+1,q=>(bif (decide (q<pF))then(idx oW q).bind λx1=>aM (JT x1 ru) λx2=>(bif x2 then aY (bA q)else y3 ru oW pF K (b_ (q+1)))else aY (bp ()))
def jm(s:List za)(ru:RB):Option (Int):=(y3 ru s (s.length:Int) KK 0).bind (yg aY λ_=>aY (-1))
def Y3(l:List za)(ru:RB):Option (Bool×ai×(List ai)×(List ai)×Int×Int×Int×Bool×Int×Int×Int×ai×ai×(List Expr)×Int×Int×Int×Int×Int×Int×Int):=aM (jm l ru) λx1=>(bif (decide (x1>=0))then(idx l x1).bind λx2=>aY (bg,x2.aK,x2.aA,x2.Except,x2.il,x2.hJ,x2.iI,x2.iN,x2.aL,x2.Test.Op,x2.Test.N,x2.Test.S,x2.Test.Key,x2.Test.fu,x2.zg.me,x2.zg.mb,x2.zg.l8,x2.zg.Den,x2.Uses,x2.iD,x2.N)else aY (bf,([]:ai),[],[],0,0,0,bf,0,0,0,([]:ai),([]:ai),[],0,0,0,0,0,0,0))
def JU(x_:eC)(tc:ai)(afR:Int)(afT:Int)(afb:List zt):Option (Bool):=aY (decide (x_.aK=tc))
def y4(c0:ai)(c1:Int)(c2:Int)(c3:List zt)(c4:List eC)(c5:Int):Nat->(Int)->Option ((Int)⊕(Unit))
 |0,_=>bh
 |K+1,q=>(bif (decide (q<c5))then(idx c4 q).bind λx1=>aM (JU x1 c0 c1 c2 c3) λx2=>(bif x2 then aY (bA q)else y4 c0 c1 c2 c3 c4 c5 K (b_ (q+1)))else aY (bp ()))
def jo(s:List eC)(po:ai)(NR:Int)(NU:Int)(Bx:List zt):Option (Int):=(y4 po NR NU Bx s (s.length:Int) KK 0).bind (yg aY λ_=>aY (-1))
def Y4(l:List eC)(po:ai)(NR:Int)(NU:Int)(Bx:List zt):Option (Bool×ai×Int×Int×(List zt)):=aM (jo l po NR NU Bx) λx1=>(bif (decide (x1>=0))then(idx l x1).bind λx2=>aY (bg,x2.aK,x2.oS,x2.mM,x2.ay)else aY (bf,([]:ai),0,0,[]))
def qQ(c0:List Def)(c1:Int)(c2:List Def)(c3:List ar)(c4:List zq)(c5:List za)(c6:List eC)(c7:List au)(c8:List zh)(c9:Int)(iE:List ar)(iK:List zq)(iQ:List za)(iF:List eC)(iL:List au)(iX:List zh)(lV:Int):Nat->(Int×(List zA))->Option ((List zA))
 |0,_=>bh
 |K+1,q=>(bif (decide (q.1<c1))then(aM (idx c0 q.1) λx2=>aM (Tb c2 x2.aK x2.Body.Op x2.Body.N x2.Body.S x2.Body.Key x2.Body.fu) λx3=>aM ((bif (!x3.1)then aY bg else(vX (zA.mk 2 x2.aK ([]:ai) 0 (za.mk ([]:ai) [] [] 0 0 0 bf 0 (Expr.mk 0 0 ([]:ai) ([]:ai) []) (zg.mk 0 0 0 0) 0 0 0) (Expr.mk x2.Body.Op x2.Body.N x2.Body.S x2.Body.Key x2.Body.fu) []) (zA.mk 2 x2.aK ([]:ai) 0 (za.mk ([]:ai) [] [] 0 0 0 bf 0 (Expr.mk 0 0 ([]:ai) ([]:ai) []) (zg.mk 0 0 0 0) 0 0 0) (Expr.mk x3.2.2.1 x3.2.2.2.1 x3.2.2.2.2.1 x3.2.2.2.2.2.1 x3.2.2.2.2.2.2) [])).bind λx5=>aY (!x5))) λx4=>(bif x4 then(fN (ba (q.2++([(zA.mk 2 x2.aK ([]:ai) 0 (za.mk ([]:ai) [] [] 0 0 0 bf 0 (Expr.mk 0 0 ([]:ai) ([]:ai) []) (zg.mk 0 0 0 0) 0 0 0) (Expr.mk x2.Body.Op x2.Body.N x2.Body.S x2.Body.Key x2.Body.fu) [])]:List zA))*376<=140737488355328)).bind λ_=>aY (q.2++([(zA.mk 2 x2.aK ([]:ai) 0 (za.mk ([]:ai) [] [] 0 0 0 bf 0 (Expr.mk 0 0 ([]:ai) ([]:ai) []) (zg.mk 0 0 0 0) 0 0 0) (Expr.mk x2.Body.Op x2.Body.N x2.Body.S x2.Body.Key x2.Body.fu) [])]:List zA))else aY q.2)).bind λx1=>qQ c0 c1 c2 c3 c4 c5 c6 c7 c8 c9 iE iK iQ iF iL iX lV K ((b_ (q.1+1)),x1)else aY q.2)
def qR(c0:List ar)(c1:Int)(c2:Int)(c3:List av)(c4:Int)(c5:List Def)(c6:List ar)(c7:List zq)(c8:List za)(c9:List eC)(iE:List au)(iK:List zh)(iQ:Int)(iF:List Def)(iL:List zq)(iX:List za)(lV:List eC)(pX:List au)(pY:List zh)(pZ:Int)(oW:ai)(pF:Int)(rY:ai)(rq:List av)(rZ:Int):Nat->(Int×(List zA))->Option ((List zA))
 |0,_=>bh
 |K+1,q=>(bif (decide (q.1<c4))then(aM (idx c3 q.1) λx2=>aM (YZ rq x2.aK x2.N) λx3=>aM ((bif (!x3.1)then aY bg else aY (!(decide (x3.2.2=x2.N))))) λx4=>(bif x4 then(fN (ba (q.2++([(zA.mk 3 oW x2.aK x2.N (za.mk ([]:ai) [] [] 0 0 0 bf 0 (Expr.mk 0 0 ([]:ai) ([]:ai) []) (zg.mk 0 0 0 0) 0 0 0) (Expr.mk 0 0 ([]:ai) ([]:ai) []) [])]:List zA))*376<=140737488355328)).bind λ_=>aY (q.2++([(zA.mk 3 oW x2.aK x2.N (za.mk ([]:ai) [] [] 0 0 0 bf 0 (Expr.mk 0 0 ([]:ai) ([]:ai) []) (zg.mk 0 0 0 0) 0 0 0) (Expr.mk 0 0 ([]:ai) ([]:ai) []) [])]:List zA))else aY q.2)).bind λx1=>qR c0 c1 c2 c3 c4 c5 c6 c7 c8 c9 iE iK iQ iF iL iX lV pX pY pZ oW pF rY rq rZ K ((b_ (q.1+1)),x1)else aY q.2)
def qS(c0:List ar)(c1:Int)(c2:List Def)(c3:List ar)(c4:List zq)(c5:List za)(c6:List eC)(c7:List au)(c8:List zh)(c9:Int)(iE:List Def)(iK:List zq)(iQ:List za)(iF:List eC)(iL:List au)(iX:List zh)(lV:Int):Nat->(Int×(List zA))->Option ((List zA))
 |0,_=>bh
 |K+1,q=>(bif (decide (q.1<c1))then(idx c0 q.1).bind λx1=>aM (YY c3 x1.aK x1.Rows x1.mD) λx2=>aM (qR c0 c1 q.1 x1.Rows (x1.Rows.length:Int) c2 c3 c4 c5 c6 c7 c8 c9 iE iK iQ iF iL iX lV x1.aK x1.mD x2.2.1 x2.2.2.1 x2.2.2.2 KK (0,q.2)) λx3=>qS c0 c1 c2 c3 c4 c5 c6 c7 c8 c9 iE iK iQ iF iL iX lV K ((b_ (q.1+1)),x3)else aY q.2)
def qT(c0:List zq)(c1:Int)(c2:List Def)(c3:List ar)(c4:List zq)(c5:List za)(c6:List eC)(c7:List au)(c8:List zh)(c9:Int)(iE:List Def)(iK:List ar)(iQ:List za)(iF:List eC)(iL:List au)(iX:List zh)(lV:Int):Nat->(Int×(List zA))->Option ((List zA))
 |0,_=>bh
 |K+1,q=>(bif (decide (q.1<c1))then(aM (idx c0 q.1) λx2=>aM (Y2 c4 x2.aK x2.lQ x2.ay) λx3=>aM ((bif (!x3.1)then aY bg else(ym x3.2.2.2 x2.ay).bind λx5=>aY (!x5))) λx4=>(bif x4 then(Hi (yf.mk [] [] ([x2]:List zq) [] [] [] [] 0)).bind λx6=>aM (fN (ba (q.2++([(zA.mk x6.1 x6.2.1 x6.2.2.1 x6.2.2.2.1 (za.mk x6.2.2.2.2.1 x6.2.2.2.2.2.1 x6.2.2.2.2.2.2.1 x6.2.2.2.2.2.2.2.1 x6.2.2.2.2.2.2.2.2.1 x6.2.2.2.2.2.2.2.2.2.1 x6.2.2.2.2.2.2.2.2.2.2.1 x6.2.2.2.2.2.2.2.2.2.2.2.1 (Expr.mk x6.2.2.2.2.2.2.2.2.2.2.2.2.1 x6.2.2.2.2.2.2.2.2.2.2.2.2.2.1 x6.2.2.2.2.2.2.2.2.2.2.2.2.2.2.1 x6.2.2.2.2.2.2.2.2.2.2.2.2.2.2.2.1 x6.2.2.2.2.2.2.2.2.2.2.2.2.2.2.2.2.1) (zg.mk x6.2.2.2.2.2.2.2.2.2.2.2.2.2.2.2.2.2.1 x6.2.2.2.2.2.2.2.2.2.2.2.2.2.2.2.2.2.2.1 x6.2.2.2.2.2.2.2.2.2.2.2.2.2.2.2.2.2.2.2.1 x6.2.2.2.2.2.2.2.2.2.2.2.2.2.2.2.2.2.2.2.2.1) x6.2.2.2.2.2.2.2.2.2.2.2.2.2.2.2.2.2.2.2.2.2.1 x6.2.2.2.2.2.2.2.2.2.2.2.2.2.2.2.2.2.2.2.2.2.2.1 x6.2.2.2.2.2.2.2.2.2.2.2.2.2.2.2.2.2.2.2.2.2.2.2.1) (Expr.mk x6.2.2.2.2.2.2.2.2.2.2.2.2.2.2.2.2.2.2.2.2.2.2.2.2.1 x6.2.2.2.2.2.2.2.2.2.2.2.2.2.2.2.2.2.2.2.2.2.2.2.2.2.1 x6.2.2.2.2.2.2.2.2.2.2.2.2.2.2.2.2.2.2.2.2.2.2.2.2.2.2.1 x6.2.2.2.2.2.2.2.2.2.2.2.2.2.2.2.2.2.2.2.2.2.2.2.2.2.2.2.1 x6.2.2.2.2.2.2.2.2.2.2.2.2.2.2.2.2.2.2.2.2.2.2.2.2.2.2.2.2.1) x6.2.2.2.2.2.2.2.2.2.2.2.2.2.2.2.2.2.2.2.2.2.2.2.2.2.2.2.2.2)]:List zA))*376<=140737488355328)) λ_=>aY (q.2++([(zA.mk x6.1 x6.2.1 x6.2.2.1 x6.2.2.2.1 (za.mk x6.2.2.2.2.1 x6.2.2.2.2.2.1 x6.2.2.2.2.2.2.1 x6.2.2.2.2.2.2.2.1 x6.2.2.2.2.2.2.2.2.1 x6.2.2.2.2.2.2.2.2.2.1 x6.2.2.2.2.2.2.2.2.2.2.1 x6.2.2.2.2.2.2.2.2.2.2.2.1 (Expr.mk x6.2.2.2.2.2.2.2.2.2.2.2.2.1 x6.2.2.2.2.2.2.2.2.2.2.2.2.2.1 x6.2.2.2.2.2.2.2.2.2.2.2.2.2.2.1 x6.2.2.2.2.2.2.2.2.2.2.2.2.2.2.2.1 x6.2.2.2.2.2.2.2.2.2.2.2.2.2.2.2.2.1) (zg.mk x6.2.2.2.2.2.2.2.2.2.2.2.2.2.2.2.2.2.1 x6.2.2.2.2.2.2.2.2.2.2.2.2.2.2.2.2.2.2.1 x6.2.2.2.2.2.2.2.2.2.2.2.2.2.2.2.2.2.2.2.1 x6.2.2.2.2.2.2.2.2.2.2.2.2.2.2.2.2.2.2.2.2.1) x6.2.2.2.2.2.2.2.2.2.2.2.2.2.2.2.2.2.2.2.2.2.1 x6.2.2.2.2.2.2.2.2.2.2.2.2.2.2.2.2.2.2.2.2.2.2.1 x6.2.2.2.2.2.2.2.2.2.2.2.2.2.2.2.2.2.2.2.2.2.2.2.1) (Expr.mk x6.2.2.2.2.2.2.2.2.2.2.2.2.2.2.2.2.2.2.2.2.2.2.2.2.1 x6.2.2.2.2.2.2.2.2.2.2.2.2.2.2.2.2.2.2.2.2.2.2.2.2.2.1 x6.2.2.2.2.2.2.2.2.2.2.2.2.2.2.2.2.2.2.2.2.2.2.2.2.2.2.1 x6.2.2.2.2.2.2.2.2.2.2.2.2.2.2.2.2.2.2.2.2.2.2.2.2.2.2.2.1 x6.2.2.2.2.2.2.2.2.2.2.2.2.2.2.2.2.2.2.2.2.2.2.2.2.2.2.2.2.1) x6.2.2.2.2.2.2.2.2.2.2.2.2.2.2.2.2.2.2.2.2.2.2.2.2.2.2.2.2.2)]:List zA))else aY q.2)).bind λx1=>qT c0 c1 c2 c3 c4 c5 c6 c7 c8 c9 iE iK iQ iF iL iX lV K ((b_ (q.1+1)),x1)else aY q.2)
def qU(c0:List za)(c1:Int)(c2:List Def)(c3:List ar)(c4:List zq)(c5:List za)(c6:List eC)(c7:List au)(c8:List zh)(c9:Int)(iE:List Def)(iK:List ar)(iQ:List zq)(iF:List eC)(iL:List au)(iX:List zh)(lV:Int):Nat->(Int×(List zA))->Option ((List zA))
 |0,_=>bh
 |K+1,q=>(bif (decide (q.1<c1))then(aM (idx c0 q.1) λx2=>aM (Y3 c5 (RB.mk x2.aK x2.aA x2.Except x2.il x2.hJ x2.iI x2.iN x2.aL x2.Test.Op x2.Test.N x2.Test.S x2.Test.Key x2.Test.fu x2.zg.me x2.zg.mb x2.zg.l8 x2.zg.Den x2.Uses x2.iD x2.N)) λx3=>(bif (!x3.1)then(fN (ba (q.2++([(zA.mk 0 ([]:ai) ([]:ai) 0 (za.mk x2.aK x2.aA x2.Except x2.il x2.hJ x2.iI x2.iN x2.aL (Expr.mk x2.Test.Op x2.Test.N x2.Test.S x2.Test.Key x2.Test.fu) x2.zg x2.Uses x2.iD x2.N) (Expr.mk 0 0 ([]:ai) ([]:ai) []) [])]:List zA))*376<=140737488355328)).bind λ_=>aY (q.2++([(zA.mk 0 ([]:ai) ([]:ai) 0 (za.mk x2.aK x2.aA x2.Except x2.il x2.hJ x2.iI x2.iN x2.aL (Expr.mk x2.Test.Op x2.Test.N x2.Test.S x2.Test.Key x2.Test.fu) x2.zg x2.Uses x2.iD x2.N) (Expr.mk 0 0 ([]:ai) ([]:ai) []) [])]:List zA))else(bif (!(decide (x3.2.2.2.2.2.1=x2.hJ)))then(fN (ba (q.2++([(zA.mk 1 x2.aK ([]:ai) x2.hJ (za.mk ([]:ai) [] [] 0 0 0 bf 0 (Expr.mk 0 0 ([]:ai) ([]:ai) []) (zg.mk 0 0 0 0) 0 0 0) (Expr.mk 0 0 ([]:ai) ([]:ai) []) [])]:List zA))*376<=140737488355328)).bind λ_=>aY (q.2++([(zA.mk 1 x2.aK ([]:ai) x2.hJ (za.mk ([]:ai) [] [] 0 0 0 bf 0 (Expr.mk 0 0 ([]:ai) ([]:ai) []) (zg.mk 0 0 0 0) 0 0 0) (Expr.mk 0 0 ([]:ai) ([]:ai) []) [])]:List zA))else aY q.2))).bind λx1=>qU c0 c1 c2 c3 c4 c5 c6 c7 c8 c9 iE iK iQ iF iL iX lV K ((b_ (q.1+1)),x1)else aY q.2)
def qV(c0:List eC)(c1:Int)(c2:List Def)(c3:List ar)(c4:List zq)(c5:List za)(c6:List eC)(c7:List au)(c8:List zh)(c9:Int):Nat->(Int×(List zA))->Option ((List zA))
 |0,_=>bh
 |K+1,q=>(bif (decide (q.1<c1))then(aM (idx c0 q.1) λx2=>aM (Y4 c6 x2.aK x2.oS x2.mM x2.ay) λx3=>aM ((bif x3.1 then aY (!(decide (x3.2.2.2.1=x2.mM)))else aY bf)) λx4=>(bif x4 then(fN (ba (q.2++([(zA.mk 5 x2.aK ([]:ai) x2.mM (za.mk ([]:ai) [] [] 0 0 0 bf 0 (Expr.mk 0 0 ([]:ai) ([]:ai) []) (zg.mk 0 0 0 0) 0 0 0) (Expr.mk 0 0 ([]:ai) ([]:ai) []) [])]:List zA))*376<=140737488355328)).bind λ_=>aY (q.2++([(zA.mk 5 x2.aK ([]:ai) x2.mM (za.mk ([]:ai) [] [] 0 0 0 bf 0 (Expr.mk 0 0 ([]:ai) ([]:ai) []) (zg.mk 0 0 0 0) 0 0 0) (Expr.mk 0 0 ([]:ai) ([]:ai) []) [])]:List zA))else aY q.2)).bind λx1=>qV c0 c1 c2 c3 c4 c5 c6 c7 c8 c9 K ((b_ (q.1+1)),x1)else aY q.2)
def V4(a:yf)(b:yf):Option ((List zA)):=aM (qQ b.aE (b.aE.length:Int) a.aE a.Tables a.aA a.aB a.aI a.aF a.aJ a.aG b.Tables b.aA b.aB b.aI b.aF b.aJ b.aG KK (0,[])) λx1=>aM (qS b.Tables (b.Tables.length:Int) a.aE a.Tables a.aA a.aB a.aI a.aF a.aJ a.aG b.aE b.aA b.aB b.aI b.aF b.aJ b.aG KK (0,x1)) λx2=>aM (qT b.aA (b.aA.length:Int) a.aE a.Tables a.aA a.aB a.aI a.aF a.aJ a.aG b.aE b.Tables b.aB b.aI b.aF b.aJ b.aG KK (0,x2)) λx3=>aM (qU b.aB (b.aB.length:Int) a.aE a.Tables a.aA a.aB a.aI a.aF a.aJ a.aG b.aE b.Tables b.aA b.aI b.aF b.aJ b.aG KK (0,x3)) λx4=>aM (qV b.aI (b.aI.length:Int) a.aE a.Tables a.aA a.aB a.aI a.aF a.aJ a.aG KK (0,x4)) λx5=>aY x5
def Aj(c0:List zA)(c1:Int)(c2:List Def)(c3:List ar)(c4:List zq)(c5:List za)(c6:List eC)(c7:List au)(c8:List zh)(c9:Int):Nat->(Int×(List Def)×(List ar)×(List zq)×(List za)×(List eC)×(List au)×(List zh)×Int)->Option ((Int×(List Def)×(List ar)×(List zq)×(List za)×(List eC)×(List au)×(List zh)×Int)⊕((List Def)×(List ar)×(List zq)×(List za)×(List eC)×(List au)×(List zh)×Int))
 |0,_=>bh
 |K+1,q=>(bif (decide (q.1<c1))then(idx c0 q.1).bind λx1=>aM (u7 (yf.mk q.2.1 q.2.2.1 q.2.2.2.1 q.2.2.2.2.1 q.2.2.2.2.2.1 q.2.2.2.2.2.2.1 q.2.2.2.2.2.2.2.1 q.2.2.2.2.2.2.2.2) (zA.mk x1.aL x1.aK x1.Key x1.N (za.mk x1.za.aK x1.za.aA x1.za.Except x1.za.il x1.za.hJ x1.za.iI x1.za.iN x1.za.aL (Expr.mk x1.za.Test.Op x1.za.Test.N x1.za.Test.S x1.za.Test.Key x1.za.Test.fu) x1.za.zg x1.za.Uses x1.za.iD x1.za.N) (Expr.mk x1.Body.Op x1.Body.N x1.Body.S x1.Body.Key x1.Body.fu) x1.ay)) λx2=>(bif (!(decide (x2.1=0)))then aY (bA (x2.1,[],[],[],[],[],[],[],0))else Aj c0 c1 c2 c3 c4 c5 c6 c7 c8 c9 K ((b_ (q.1+1)),x2.2.1,x2.2.2.1,x2.2.2.2.1,x2.2.2.2.2.1,x2.2.2.2.2.2.1,x2.2.2.2.2.2.2.1,x2.2.2.2.2.2.2.2.1,x2.2.2.2.2.2.2.2.2))else aY (bp (q.2.1,q.2.2.1,q.2.2.2.1,q.2.2.2.2.1,q.2.2.2.2.2.1,q.2.2.2.2.2.2.1,q.2.2.2.2.2.2.2.1,q.2.2.2.2.2.2.2.2)))
def Rn(p:yf)(l:List zA):Option (Int×(List Def)×(List ar)×(List zq)×(List za)×(List eC)×(List au)×(List zh)×Int):=aM (Af p) λx1=>(bif (!x1)then aY (1,[],[],[],[],[],[],[],0)else(Aj l (l.length:Int) [] [] [] [] [] [] [] 0 KK (0,p.aE,p.Tables,p.aA,p.aB,p.aI,p.aF,p.aJ,p.aG)).bind (yg aY λx2=>aM (HZ (yf.mk x2.1 x2.2.1 x2.2.2.1 x2.2.2.2.1 x2.2.2.2.2.1 x2.2.2.2.2.2.1 x2.2.2.2.2.2.2.1 x2.2.2.2.2.2.2.2)) λx3=>aY (0,x3.2.2.1,x3.2.2.2.1,x3.2.2.2.2.1,x3.2.2.2.2.2.1,x3.2.2.2.2.2.2.1,x3.2.2.2.2.2.2.2,x3.1,x3.2.1)))
def Tc(a:yf)(b:yf):Option ((List zA)×Int):=aM (aM (Af a) λx2=>(bif (!x2)then aY bg else(Af b).bind λx3=>aY (!x3))) λx1=>(bif x1 then aY ([],1)else(HZ b).bind λx4=>aM (V4 a (yf.mk x4.2.2.1 x4.2.2.2.1 x4.2.2.2.2.1 x4.2.2.2.2.2.1 x4.2.2.2.2.2.2.1 x4.2.2.2.2.2.2.2 x4.1 x4.2.1)) λx5=>aM (Rn a x5) λx6=>aM ((bif (!(decide (x6.1=0)))then aY bg else(DO (yf.mk x6.2.1 x6.2.2.1 x6.2.2.2.1 x6.2.2.2.2.1 x6.2.2.2.2.2.1 x6.2.2.2.2.2.2.1 x6.2.2.2.2.2.2.2.1 x6.2.2.2.2.2.2.2.2) b).bind λx8=>aY (!x8))) λx7=>(bif x7 then aY ([],25)else aY (x5,0)))
def vN(c0:List zh)(c1:List zh):Nat->(Int)->Option ((Bool)⊕(Unit))
 |0,_=>bh
 |K+1,q=>(bif (decide (q<(c0.length:Int)))then(idx c0 q).bind λx1=>aM (idx c1 q) λx2=>(bif (!(decide (x1.X=x2.X)&&(decide (x1.Y=x2.Y)&&(decide (x1.Z_=x2.Z_)))))then aY (bA bf)else vN c0 c1 K (b_ (q+1)))else aY (bp ()))
def qW(a:List zh)(b:List zh):Option (Bool):=(bif (!(decide ((a.length:Int)=(b.length:Int))))then aY bf else(vN a b KK 0).bind (yg aY λ_=>aY bg))
def qi(χ:Expr->Expr->Option (Bool))(c0:Int)(c1:Int)(c2:ai)(c3:ai)(c4:List Expr)(c5:Int)(c6:Int)(c7:ai)(c8:ai)(c9:List Expr):Nat->(Int)->Option ((Bool)⊕(Unit))
 |0,_=>bh
 |K+1,q=>(bif (decide (q<(c4.length:Int)))then(idx c4 q).bind λx1=>aM (idx c9 q) λx2=>aM (χ x1 x2) λx3=>(bif (!x3)then aY (bA bf)else qi χ c0 c1 c2 c3 c4 c5 c6 c7 c8 c9 K (b_ (q+1)))else aY (bp ()))
def w9:Nat->Expr->Expr->Option (Bool)
 |0,_,_=>bh
 |RK+1,a,b=>aM ((bif (!(decide (a.Op=b.Op)))then aY bg else(bif (!(decide (a.N=b.N)))then aY bg else(bif (!(decide (a.S=b.S)))then aY bg else(bif (!(decide (a.Key=b.Key)))then aY bg else aY (!(decide ((a.fu.length:Int)=(b.fu.length:Int))))))))) λx1=>(bif x1 then aY bf else(qi (w9 RK) a.Op a.N a.S a.Key a.fu b.Op b.N b.S b.Key b.fu KK 0).bind (yg aY λ_=>aY bg))
def vj(c0:List av)(c1:List av):Nat->(Int)->Option ((Bool)⊕(Unit))
 |0,_=>bh
 |K+1,q=>(bif (decide (q<(c0.length:Int)))then(idx c0 q).bind λx1=>aM (idx c1 q) λx2=>(bif (!(decide (x1.aK=x2.aK)&&(decide (x1.N=x2.N))))then aY (bA bf)else vj c0 c1 K (b_ (q+1)))else aY (bp ()))
def Ak(a:List av)(b:List av):Option (Bool):=(bif (!(decide ((a.length:Int)=(b.length:Int))))then aY bf else(vj a b KK 0).bind (yg aY λ_=>aY bg))
def vO(c0:List zt)(c1:List zt):Nat->(Int)->Option ((Bool)⊕(Unit))
 |0,_=>bh
 |K+1,q=>(bif (decide (q<(c0.length:Int)))then(idx c0 q).bind λx1=>aM (idx c1 q) λx2=>(bif (!(decide (x1.X=x2.X)&&(decide (x1.Y=x2.Y))))then aY (bA bf)else vO c0 c1 K (b_ (q+1)))else aY (bp ()))
def qX(a:List zt)(b:List zt):Option (Bool):=(bif (!(decide ((a.length:Int)=(b.length:Int))))then aY bf else(vO a b KK 0).bind (yg aY λ_=>aY bg))
def jE(c0:List ai)(c1:List ai):Nat->(Int)->Option ((Bool)⊕(Unit))
 |0,_=>bh
 |K+1,q=>(bif (decide (q<(c0.length:Int)))then(idx c0 q).bind λx1=>aM (idx c1 q) λx2=>(bif (!(decide (x1=x2)))then aY (bA bf)else jE c0 c1 K (b_ (q+1)))else aY (bp ()))
def u9(a:List ai)(b:List ai):Option (Bool):=(bif (!(decide ((a.length:Int)=(b.length:Int))))then aY bf else(jE a b KK 0).bind (yg aY λ_=>aY bg))
def K6(a:za)(b:za):Option (Bool):=aM (aM (u9 a.aA b.aA) λx2=>(bif x2 then(u9 a.Except b.Except).bind λx3=>(bif x3 then(w9 KK (Expr.mk a.Test.Op a.Test.N a.Test.S a.Test.Key a.Test.fu) (Expr.mk b.Test.Op b.Test.N b.Test.S b.Test.Key b.Test.fu)).bind λx4=>aY x4 else aY bf)else aY bf)) λx1=>aM ((bif (decide (a.il=b.il))then(bif (decide (a.hJ=b.hJ))then(bif (decide (a.iI=b.iI))then aY (a.iN==b.iN)else aY bf)else aY bf)else aY bf)) λx5=>(bif (decide (a.aK=b.aK))then(bif x1 then(bif x5 then(bif (decide (a.aL=b.aL))then(bif (decide (a.zg.me=b.zg.me)&&(decide (a.zg.mb=b.zg.mb)&&(decide (a.zg.l8=b.zg.l8)&&(decide (a.zg.Den=b.zg.Den)))))then(bif (decide (a.Uses=b.Uses))then(bif (decide (a.iD=b.iD))then aY (decide (a.N=b.N))else aY bf)else aY bf)else aY bf)else aY bf)else aY bf)else aY bf)else aY bf)
def H0(c0:List Def)(c1:List ar)(c2:List zq)(c3:List za)(c4:List eC)(c5:List au)(c6:List zh)(c7:Int)(c8:List Def)(c9:List ar)(iE:List zq)(iK:List za)(iQ:List eC)(iF:List au)(iL:List zh)(iX:Int):Nat->(Int)->Option ((Bool)⊕(Unit))
 |0,_=>bh
 |K+1,q=>(bif (decide (q<(c0.length:Int)))then(aM (idx c0 q) λx2=>aM (idx c8 q) λx3=>(bif (!(decide (x2.aK=x3.aK)))then aY bg else(idx c0 q).bind λx4=>aM (idx c8 q) λx5=>aM (w9 KK x4.Body x5.Body) λx6=>aY (!x6))).bind λx1=>(bif x1 then aY (bA bf)else H0 c0 c1 c2 c3 c4 c5 c6 c7 c8 c9 iE iK iQ iF iL iX K (b_ (q+1)))else aY (bp ()))
def H4(c0:List Def)(c1:List ar)(c2:List zq)(c3:List za)(c4:List eC)(c5:List au)(c6:List zh)(c7:Int)(c8:List Def)(c9:List ar)(iE:List zq)(iK:List za)(iQ:List eC)(iF:List au)(iL:List zh)(iX:Int):Nat->(Int)->Option ((Bool)⊕(Unit))
 |0,_=>bh
 |K+1,q=>(bif (decide (q<(c1.length:Int)))then(aM (idx c1 q) λx2=>aM (idx c9 q) λx3=>(bif (!(decide (x2.aK=x3.aK)))then aY bg else(idx c1 q).bind λx4=>aM (idx c9 q) λx5=>(bif (!(decide (x4.mD=x5.mD)))then aY bg else(idx c1 q).bind λx6=>aM (idx c9 q) λx7=>aM (Ak x6.Rows x7.Rows) λx8=>aY (!x8)))).bind λx1=>(bif x1 then aY (bA bf)else H4 c0 c1 c2 c3 c4 c5 c6 c7 c8 c9 iE iK iQ iF iL iX K (b_ (q+1)))else aY (bp ()))
def H5(c0:List Def)(c1:List ar)(c2:List zq)(c3:List za)(c4:List eC)(c5:List au)(c6:List zh)(c7:Int)(c8:List Def)(c9:List ar)(iE:List zq)(iK:List za)(iQ:List eC)(iF:List au)(iL:List zh)(iX:Int):Nat->(Int)->Option ((Bool)⊕(Unit))
 |0,_=>bh
 |K+1,q=>(bif (decide (q<(c2.length:Int)))then(aM (idx c2 q) λx2=>aM (idx iE q) λx3=>(bif (!(decide (x2.aK=x3.aK)))then aY bg else(idx c2 q).bind λx4=>aM (idx iE q) λx5=>(bif (!(x4.lQ==x5.lQ))then aY bg else(idx c2 q).bind λx6=>aM (idx iE q) λx7=>aM (qX x6.ay x7.ay) λx8=>aY (!x8)))).bind λx1=>(bif x1 then aY (bA bf)else H5 c0 c1 c2 c3 c4 c5 c6 c7 c8 c9 iE iK iQ iF iL iX K (b_ (q+1)))else aY (bp ()))
def H6(c0:List Def)(c1:List ar)(c2:List zq)(c3:List za)(c4:List eC)(c5:List au)(c6:List zh)(c7:Int)(c8:List Def)(c9:List ar)(iE:List zq)(iK:List za)(iQ:List eC)(iF:List au)(iL:List zh)(iX:Int):Nat->(Int)->Option ((Bool)⊕(Unit))
 |0,_=>bh
 |K+1,q=>(bif (decide (q<(c3.length:Int)))then(idx c3 q).bind λx1=>aM (idx iK q) λx2=>aM (K6 x1 x2) λx3=>(bif (!x3)then aY (bA bf)else H6 c0 c1 c2 c3 c4 c5 c6 c7 c8 c9 iE iK iQ iF iL iX K (b_ (q+1)))else aY (bp ()))
def H7(c0:List Def)(c1:List ar)(c2:List zq)(c3:List za)(c4:List eC)(c5:List au)(c6:List zh)(c7:Int)(c8:List Def)(c9:List ar)(iE:List zq)(iK:List za)(iQ:List eC)(iF:List au)(iL:List zh)(iX:Int):Nat->(Int)->Option ((Bool)⊕(Unit))
 |0,_=>bh
 |K+1,q=>(bif (decide (q<(c4.length:Int)))then(aM (idx c4 q) λx2=>aM (idx iQ q) λx3=>(bif (!(decide (x2.aK=x3.aK)))then aY bg else(idx c4 q).bind λx4=>aM (idx iQ q) λx5=>(bif (!(decide (x4.oS=x5.oS)))then aY bg else(idx c4 q).bind λx6=>aM (idx iQ q) λx7=>(bif (!(decide (x6.mM=x7.mM)))then aY bg else(idx c4 q).bind λx8=>aM (idx iQ q) λx9=>aM (qX x8.ay x9.ay) λmu=>aY (!mu))))).bind λx1=>(bif x1 then aY (bA bf)else H7 c0 c1 c2 c3 c4 c5 c6 c7 c8 c9 iE iK iQ iF iL iX K (b_ (q+1)))else aY (bp ()))
def H8(c0:List Def)(c1:List ar)(c2:List zq)(c3:List za)(c4:List eC)(c5:List au)(c6:List zh)(c7:Int)(c8:List Def)(c9:List ar)(iE:List zq)(iK:List za)(iQ:List eC)(iF:List au)(iL:List zh)(iX:Int):Nat->(Int)->Option ((Bool)⊕(Unit))
 |0,_=>bh
 |K+1,q=>(bif (decide (q<(c5.length:Int)))then(aM (idx c5 q) λx2=>aM (idx iF q) λx3=>(bif (!(decide (x2.aK=x3.aK)))then aY bg else(idx c5 q).bind λx4=>aM (idx iF q) λx5=>(bif (!(decide (x4.l3.X=x5.l3.X)&&(decide (x4.l3.Y=x5.l3.Y)&&(decide (x4.l3.Z_=x5.l3.Z_)))))then aY bg else(idx c5 q).bind λx6=>aM (idx iF q) λx7=>(bif (!(decide (x6.oU=x7.oU)))then aY bg else(idx c5 q).bind λx8=>aM (idx iF q) λx9=>aM (qW x8.lL x9.lL) λmu=>aY (!mu))))).bind λx1=>(bif x1 then aY (bA bf)else H8 c0 c1 c2 c3 c4 c5 c6 c7 c8 c9 iE iK iQ iF iL iX K (b_ (q+1)))else aY (bp ()))
def Td(a:yf)(b:yf):Option (Bool):=aM ((bif (!(decide ((a.aE.length:Int)=(b.aE.length:Int))))then aY bg else(bif (!(decide ((a.Tables.length:Int)=(b.Tables.length:Int))))then aY bg else(bif (!(decide ((a.aA.length:Int)=(b.aA.length:Int))))then aY bg else(bif (!(decide ((a.aB.length:Int)=(b.aB.length:Int))))then aY bg else(bif (!(decide ((a.aI.length:Int)=(b.aI.length:Int))))then aY bg else(bif (!(decide ((a.aF.length:Int)=(b.aF.length:Int))))then aY bg else(qW a.aJ b.aJ).bind λx2=>(bif (!x2)then aY bg else aY (!(decide (a.aG=b.aG))))))))))) λx1=>(bif x1 then aY bf else(H0 a.aE a.Tables a.aA a.aB a.aI a.aF a.aJ a.aG b.aE b.Tables b.aA b.aB b.aI b.aF b.aJ b.aG KK 0).bind (yg aY λ_=>(H4 a.aE a.Tables a.aA a.aB a.aI a.aF a.aJ a.aG b.aE b.Tables b.aA b.aB b.aI b.aF b.aJ b.aG KK 0).bind (yg aY λ_=>(H5 a.aE a.Tables a.aA a.aB a.aI a.aF a.aJ a.aG b.aE b.Tables b.aA b.aB b.aI b.aF b.aJ b.aG KK 0).bind (yg aY λ_=>(H6 a.aE a.Tables a.aA a.aB a.aI a.aF a.aJ a.aG b.aE b.Tables b.aA b.aB b.aI b.aF b.aJ b.aG KK 0).bind (yg aY λ_=>(H7 a.aE a.Tables a.aA a.aB a.aI a.aF a.aJ a.aG b.aE b.Tables b.aA b.aB b.aI b.aF b.aJ b.aG KK 0).bind (yg aY λ_=>(H8 a.aE a.Tables a.aA a.aB a.aI a.aF a.aJ a.aG b.aE b.Tables b.aA b.aB b.aI b.aF b.aJ b.aG KK 0).bind (yg aY λ_=>aY bg)))))))
def H9(c0:Int)(c1:ai)(c2:ai)(c3:Int)(c4:ai)(c5:List ai)(c6:List ai)(c7:Int)(c8:Int)(c9:Int)(iE:Bool)(iK:Int)(iQ:Int)(iF:Int)(iL:ai)(iX:ai)(lV:List Expr)(pX:Int)(pY:Int)(pZ:Int)(oW:Int)(pF:Int)(rY:Int)(rq:Int)(rZ:Int)(th:Int)(tj:ai)(tk:ai)(tl:List Expr)(sc:List zt)(p5:Int)(mv:ai)(BC:ai)(BD:Int)(BE:ai)(BF:List ai)(BG:List ai)(BH:Int)(BI:Int)(BJ:Int)(BK:Bool)(BL:Int)(BM:Int)(BN:Int)(BO:ai)(BP:ai)(BQ:List Expr)(BR:Int)(BS:Int)(BU:Int)(BV:Int)(BW:Int)(BX:Int)(BY:Int)(BZ:Int)(aaD:Int)(aaE:ai)(aaF:ai)(aaG:List Expr)(N8:List zt):Nat->(Int)->Option ((Bool)⊕(Unit))
 |0,_=>bh
 |K+1,q=>(bif (decide (q<(sc.length:Int)))then(idx sc q).bind λx1=>aM (idx N8 q) λx2=>(bif (!(decide (x1.X=x2.X)&&(decide (x1.Y=x2.Y))))then aY (bA bf)else H9 c0 c1 c2 c3 c4 c5 c6 c7 c8 c9 iE iK iQ iF iL iX lV pX pY pZ oW pF rY rq rZ th tj tk tl sc p5 mv BC BD BE BF BG BH BI BJ BK BL BM BN BO BP BQ BR BS BU BV BW BX BY BZ aaD aaE aaF aaG N8 K (b_ (q+1)))else aY (bp ()))
def Q8(a:zA)(b:zA):Option (Bool):=aM ((bif (!(decide (a.aL=b.aL)))then aY bg else(bif (!(decide (a.aK=b.aK)))then aY bg else(bif (!(decide (a.Key=b.Key)))then aY bg else(bif (!(decide (a.N=b.N)))then aY bg else aY (!(decide ((a.ay.length:Int)=(b.ay.length:Int))))))))) λx1=>(bif x1 then aY bf else(H9 a.aL a.aK a.Key a.N a.za.aK a.za.aA a.za.Except a.za.il a.za.hJ a.za.iI a.za.iN a.za.aL a.za.Test.Op a.za.Test.N a.za.Test.S a.za.Test.Key a.za.Test.fu a.za.zg.me a.za.zg.mb a.za.zg.l8 a.za.zg.Den a.za.Uses a.za.iD a.za.N a.Body.Op a.Body.N a.Body.S a.Body.Key a.Body.fu a.ay b.aL b.aK b.Key b.N b.za.aK b.za.aA b.za.Except b.za.il b.za.hJ b.za.iI b.za.iN b.za.aL b.za.Test.Op b.za.Test.N b.za.Test.S b.za.Test.Key b.za.Test.fu b.za.zg.me b.za.zg.mb b.za.zg.l8 b.za.zg.Den b.za.Uses b.za.iD b.za.N b.Body.Op b.Body.N b.Body.S b.Body.Key b.Body.fu b.ay KK 0).bind (yg aY λ_=>aM (Td (yf.mk [] [] [] ([(za.mk a.za.aK a.za.aA a.za.Except a.za.il a.za.hJ a.za.iI a.za.iN a.za.aL (Expr.mk a.za.Test.Op a.za.Test.N a.za.Test.S a.za.Test.Key a.za.Test.fu) a.za.zg a.za.Uses a.za.iD a.za.N)]:List za) [] [] [] 0) (yf.mk [] [] [] ([(za.mk b.za.aK b.za.aA b.za.Except b.za.il b.za.hJ b.za.iI b.za.iN b.za.aL (Expr.mk b.za.Test.Op b.za.Test.N b.za.Test.S b.za.Test.Key b.za.Test.fu) b.za.zg b.za.Uses b.za.iD b.za.N)]:List za) [] [] [] 0)) λx3=>(bif x3 then(w9 KK (Expr.mk a.Body.Op a.Body.N a.Body.S a.Body.Key a.Body.fu) (Expr.mk b.Body.Op b.Body.N b.Body.S b.Body.Key b.Body.fu)).bind λx4=>aY x4 else aY bf)))
def V5(e:zA):Option (ai×ai×ai):=(bif (decide (e.aL=0))then aY (DT,e.za.aK,([]:ai))else(bif (decide (e.aL=1))then aY (DT,e.aK,([]:ai))else(Ma e.aL).bind λx1=>aY (x1,e.aK,e.Key)))
def V6(a:zA)(b:zA):Option (Bool):=aM (vh (zA.mk a.aL a.aK a.Key a.N (za.mk a.za.aK a.za.aA a.za.Except a.za.il a.za.hJ a.za.iI a.za.iN a.za.aL (Expr.mk a.za.Test.Op a.za.Test.N a.za.Test.S a.za.Test.Key a.za.Test.fu) a.za.zg a.za.Uses a.za.iD a.za.N) (Expr.mk a.Body.Op a.Body.N a.Body.S a.Body.Key a.Body.fu) a.ay)) λx1=>(bif x1 then(vh (zA.mk b.aL b.aK b.Key b.N (za.mk b.za.aK b.za.aA b.za.Except b.za.il b.za.hJ b.za.iI b.za.iN b.za.aL (Expr.mk b.za.Test.Op b.za.Test.N b.za.Test.S b.za.Test.Key b.za.Test.fu) b.za.zg b.za.Uses b.za.iD b.za.N) (Expr.mk b.Body.Op b.Body.N b.Body.S b.Body.Key b.Body.fu) b.ay)).bind λx2=>(bif x2 then(V5 (zA.mk a.aL a.aK a.Key a.N (za.mk a.za.aK a.za.aA a.za.Except a.za.il a.za.hJ a.za.iI a.za.iN a.za.aL (Expr.mk a.za.Test.Op a.za.Test.N a.za.Test.S a.za.Test.Key a.za.Test.fu) a.za.zg a.za.Uses a.za.iD a.za.N) (Expr.mk a.Body.Op a.Body.N a.Body.S a.Body.Key a.Body.fu) a.ay)).bind λx3=>aM (V5 (zA.mk b.aL b.aK b.Key b.N (za.mk b.za.aK b.za.aA b.za.Except b.za.il b.za.hJ b.za.iI b.za.iN b.za.aL (Expr.mk b.za.Test.Op b.za.Test.N b.za.Test.S b.za.Test.Key b.za.Test.fu) b.za.zg b.za.Uses b.za.iD b.za.N) (Expr.mk b.Body.Op b.Body.N b.Body.S b.Body.Key b.Body.fu) b.ay)) λx4=>aY (decide (x3.1=x4.1)&&(decide (x3.2.1=x4.2.1)&&(decide (x3.2.2=x4.2.2))))else aY bf)else aY bf)
def oa:Option (Bool):=aM (RD aau) λx1=>aM (Rm ([(zA.mk 3 zo1 zBx 5 (za.mk ([]:ai) [] [] 0 0 0 bf 0 (Expr.mk 0 0 ([]:ai) ([]:ai) []) (zg.mk 0 0 0 0) 0 0 0) (Expr.mk 0 0 ([]:ai) ([]:ai) []) [])]:List zA)) λx2=>aM (u7 (yf.mk [] [] [] [] [] [] [] 0) (zA.mk 5 TU ([]:ai) 60 (za.mk ([]:ai) [] [] 0 0 0 bf 0 (Expr.mk 0 0 ([]:ai) ([]:ai) []) (zg.mk 0 0 0 0) 0 0 0) (Expr.mk 0 0 ([]:ai) ([]:ai) []) [])) λx3=>aM (V3 3) λx4=>aM (u7 (yf.mk [] [] [] [] [] [] [] 0) (zA.mk 2 I' ([]:ai) 0 (za.mk ([]:ai) [] [] 0 0 0 bf 0 (Expr.mk 0 0 ([]:ai) ([]:ai) []) (zg.mk 0 0 0 0) 0 0 0) (Expr.mk x4.1 x4.2.1 x4.2.2.1 x4.2.2.2.1 x4.2.2.2.2) [])) λx5=>aM (Tc (yf.mk [] [] [] [] [] [] [] 0) (yf.mk x5.2.1 x5.2.2.1 x5.2.2.2.1 x5.2.2.2.2.1 x5.2.2.2.2.2.1 x5.2.2.2.2.2.2.1 x5.2.2.2.2.2.2.2.1 x5.2.2.2.2.2.2.2.2)) λx6=>aM ((bif (!(decide ((x1.1.length:Int)=2)))then aY bg else(bif (!(decide ((x6.1.length:Int)=1)))then aY bg else aY (!(decide ((x5.2.1.length:Int)=1)))))) λx7=>(bif x7 then aY bf else((bif (decide (x1.2=0))then(bif (decide (x2.2=0))then(bif (decide (x3.1=4))then(bif (decide (x5.1=0))then(bif (decide (x6.2=0))then aY (decide (x2.1=aap))else aY bf)else aY bf)else aY bf)else aY bf)else aY bf)).bind λx8=>aM (aM (idx x1.1 0) λmu=>aM (Q8 mu (zA.mk 5 TU ([]:ai) 60 (za.mk ([]:ai) [] [] 0 0 0 bf 0 (Expr.mk 0 0 ([]:ai) ([]:ai) []) (zg.mk 0 0 0 0) 0 0 0) (Expr.mk 0 0 ([]:ai) ([]:ai) []) [])) λlT=>(bif lT then(idx x1.1 1).bind λnz=>aM (Q8 nz (zA.mk 1 I' ([]:ai) 90 (za.mk ([]:ai) [] [] 0 0 0 bf 0 (Expr.mk 0 0 ([]:ai) ([]:ai) []) (zg.mk 0 0 0 0) 0 0 0) (Expr.mk 0 0 ([]:ai) ([]:ai) []) [])) λnA=>aY nA else aY bf)) λx9=>(bif x8 then(bif x9 then(idx x6.1 0).bind λpL=>aM (V3 3) λrG=>aM (Q8 pL (zA.mk 2 I' ([]:ai) 0 (za.mk ([]:ai) [] [] 0 0 0 bf 0 (Expr.mk 0 0 ([]:ai) ([]:ai) []) (zg.mk 0 0 0 0) 0 0 0) (Expr.mk rG.1 rG.2.1 rG.2.2.1 rG.2.2.2.1 rG.2.2.2.2) [])) λCh=>(bif Ch then(idx x6.1 0).bind λCi=>aM (vh Ci) λLd=>(bif Ld then(idx x1.1 1).bind λLe=>aM (idx x1.1 1) λabz=>aM (V6 Le abz) λabA=>(bif abA then(idx x1.1 0).bind λabB=>aM (idx x1.1 1) λabC=>aM (V6 abB abC) λabD=>(bif (!abD)then(idx x1.1 0).bind λabE=>aM (idx x1.1 0) λabF=>aM (vX abE abF) λabG=>aY abG else aY bf)else aY bf)else aY bf)else aY bf)else aY bf)else aY bf))
def xD(υ:Expr->Int->Int->Option (Int))(c0:Int)(c1:Int)(c2:Int)(c3:Int)(c4:ai)(c5:ai)(c6:List Expr):Nat->(Int×Int)->Option (Int)
 |0,_=>bh
 |K+1,q=>aM ((bif (decide (q.2<(c6.length:Int)))then aY (decide (q.1<=c0))else aY bf)) λx1=>(bif x1 then(idx c6 q.2).bind λx2=>aM (υ x2 (b_ (c0-q.1)) (b_ (c1-1))) λx3=>xD υ c0 c1 c2 c3 c4 c5 c6 K ((b_ (q.1+x3)),(b_ (q.2+1)))else aY q.1)
def zZ:Nat->Expr->Int->Int->Option (Int)
 |0,_,_,_=>bh
 |RK+1,e,most,levels=>(bif (decide (levels<1))then aY (b_ (most+1))else(xD (zZ RK) most levels e.Op e.N e.S e.Key e.fu KK (1,0)).bind λx1=>aY x1)
def kN(r_:za):Option (Bool):=aM (zZ KK (Expr.mk r_.Test.Op r_.Test.N r_.Test.S r_.Test.Key r_.Test.fu) 20 14) λx1=>(bif (decide (x1<=20))then(bif (decide ((r_.aA.length:Int)<=6))then aY (decide ((r_.Except.length:Int)<=6))else aY bf)else aY bf)
def vk(c0:List Def)(c1:List ar)(c2:List zq)(c3:List za)(c4:List eC)(c5:List au)(c6:List zh)(c7:Int):Nat->(Int)->Option ((Bool)⊕(Unit))
 |0,_=>bh
 |K+1,q=>(bif (decide (q<(c0.length:Int)))then(idx c0 q).bind λx1=>aM (zZ KK x1.Body 20 14) λx2=>(bif (decide (x2>20))then aY (bA bf)else vk c0 c1 c2 c3 c4 c5 c6 c7 K (b_ (q+1)))else aY (bp ()))
def vl(c0:List Def)(c1:List ar)(c2:List zq)(c3:List za)(c4:List eC)(c5:List au)(c6:List zh)(c7:Int):Nat->(Int)->Option ((Bool)⊕(Unit))
 |0,_=>bh
 |K+1,q=>(bif (decide (q<(c1.length:Int)))then(idx c1 q).bind λx1=>(bif (decide ((x1.Rows.length:Int)>6))then aY (bA bf)else vl c0 c1 c2 c3 c4 c5 c6 c7 K (b_ (q+1)))else aY (bp ()))
def vm(c0:List Def)(c1:List ar)(c2:List zq)(c3:List za)(c4:List eC)(c5:List au)(c6:List zh)(c7:Int):Nat->(Int)->Option ((Bool)⊕(Unit))
 |0,_=>bh
 |K+1,q=>(bif (decide (q<(c2.length:Int)))then(idx c2 q).bind λx1=>(bif (decide ((x1.ay.length:Int)>12))then aY (bA bf)else vm c0 c1 c2 c3 c4 c5 c6 c7 K (b_ (q+1)))else aY (bp ()))
def vn(c0:List Def)(c1:List ar)(c2:List zq)(c3:List za)(c4:List eC)(c5:List au)(c6:List zh)(c7:Int):Nat->(Int)->Option ((Bool)⊕(Unit))
 |0,_=>bh
 |K+1,q=>(bif (decide (q<(c3.length:Int)))then(idx c3 q).bind λx1=>aM (kN x1) λx2=>(bif (!x2)then aY (bA bf)else vn c0 c1 c2 c3 c4 c5 c6 c7 K (b_ (q+1)))else aY (bp ()))
def vq(c0:List Def)(c1:List ar)(c2:List zq)(c3:List za)(c4:List eC)(c5:List au)(c6:List zh)(c7:Int):Nat->(Int)->Option ((Bool)⊕(Unit))
 |0,_=>bh
 |K+1,q=>(bif (decide (q<(c4.length:Int)))then(idx c4 q).bind λx1=>(bif (decide ((x1.ay.length:Int)>12))then aY (bA bf)else vq c0 c1 c2 c3 c4 c5 c6 c7 K (b_ (q+1)))else aY (bp ()))
def vr(c0:List Def)(c1:List ar)(c2:List zq)(c3:List za)(c4:List eC)(c5:List au)(c6:List zh)(c7:Int):Nat->(Int)->Option ((Bool)⊕(Unit))
 |0,_=>bh
 |K+1,q=>(bif (decide (q<(c5.length:Int)))then(idx c5 q).bind λx1=>(bif (decide ((x1.lL.length:Int)>6))then aY (bA bf)else vr c0 c1 c2 c3 c4 c5 c6 c7 K (b_ (q+1)))else aY (bp ()))
def Hj(p:yf):Option (Bool):=aM ((bif (decide ((p.aE.length:Int)>5))then aY bg else(bif (decide ((p.Tables.length:Int)>5))then aY bg else(bif (decide ((p.aA.length:Int)>5))then aY bg else(bif (decide ((p.aB.length:Int)>5))then aY bg else(bif (decide ((p.aI.length:Int)>5))then aY bg else(bif (decide ((p.aF.length:Int)>5))then aY bg else aY (decide ((p.aJ.length:Int)>5))))))))) λx1=>(bif x1 then aY bf else(vk p.aE p.Tables p.aA p.aB p.aI p.aF p.aJ p.aG KK 0).bind (yg aY λ_=>(vl p.aE p.Tables p.aA p.aB p.aI p.aF p.aJ p.aG KK 0).bind (yg aY λ_=>(vm p.aE p.Tables p.aA p.aB p.aI p.aF p.aJ p.aG KK 0).bind (yg aY λ_=>(vn p.aE p.Tables p.aA p.aB p.aI p.aF p.aJ p.aG KK 0).bind (yg aY λ_=>(vq p.aE p.Tables p.aA p.aB p.aI p.aF p.aJ p.aG KK 0).bind (yg aY λ_=>(vr p.aE p.Tables p.aA p.aB p.aI p.aF p.aJ p.aG KK 0).bind (yg aY λ_=>aY bg)))))))
def vb(c0:List zA):Nat->(Int)->Option ((Bool)⊕(Unit))
 |0,_=>bh
 |K+1,q=>aM ((bif (decide (q<(c0.length:Int)))then aY (decide (q<7))else aY bf)) λx1=>(bif x1 then(aM (idx c0 q) λx3=>aM (kN x3.za) λx4=>(bif (!x4)then aY bg else(idx c0 q).bind λx5=>aM (zZ KK x5.Body 20 14) λx6=>(bif (decide (x6>20))then aY bg else(idx c0 q).bind λx7=>aY (decide ((x7.ay.length:Int)>12))))).bind λx2=>(bif x2 then aY (bA bf)else vb c0 K (b_ (q+1)))else aY (bp ()))
def JV(l:List zA):Option (Bool):=(vb l KK 0).bind (yg aY λ_=>aY (decide ((l.length:Int)<=6)))
def yr(c0:List ai)(c1:ai)(c2:Int):Nat->(Int)->Option ((Int)⊕(Unit))
 |0,_=>bh
 |K+1,q=>(bif (decide (q<c2))then(idx c0 q).bind λx1=>(bif (decide (c1=x1))then aY (bA q)else yr c0 c1 c2 K (b_ (q+1)))else aY (bp ()))
def qY(s:List ai)(v:ai):Option (Int):=(yr s v (s.length:Int) KK 0).bind (yg aY λ_=>aY (-1))
def wm(s:List ai)(v:ai):Option (Bool):=aM (qY s v) λx1=>aY (decide (x1>=0))
def vP(name:ai)(a1:List ai):Option (Bool):=aM (wm a1 name) λx1=>aY x1
def zH(c0:List ai)(c1:List ai)(c2:Int):Nat->(Int)->Option ((Int)⊕(Unit))
 |0,_=>bh
 |K+1,q=>(bif (decide (q<c2))then(idx c1 q).bind λx1=>aM (vP x1 c0) λx2=>(bif x2 then aY (bA q)else zH c0 c1 c2 K (b_ (q+1)))else aY (bp ()))
def xY(s:List ai)(name:List ai):Option (Int):=(zH name s (s.length:Int) KK 0).bind (yg aY λ_=>aY (-1))
def zV(s:List ai)(name:List ai):Option (Bool):=aM (xY s name) λx1=>aY (decide (x1>=0))
def xZ(r_:za)(lS:List ai):Option (Bool):=(bif (decide ((r_.aA.length:Int)=0))then(zV r_.Except lS).bind λx1=>aY (!x1)else(zV r_.aA lS).bind λx2=>(bif x2 then(zV r_.Except lS).bind λx3=>aY (!x3)else aY bf))
def yt(c0:List ai)(c1:Int)(c2:List za)(c3:Int):Nat->(Int×(List Int))->Option ((List Int))
 |0,_=>bh
 |K+1,q=>(bif (decide (q.1<c3))then(aM (idx c2 q.1) λx2=>aM ((bif (decide (x2.il<=c1))then(bif (decide (x2.hJ=0))then(xZ (za.mk x2.aK x2.aA x2.Except x2.il x2.hJ x2.iI x2.iN x2.aL (Expr.mk x2.Test.Op x2.Test.N x2.Test.S x2.Test.Key x2.Test.fu) x2.zg x2.Uses x2.iD x2.N) c0).bind λx4=>aY x4 else(bif (decide (c1<x2.hJ))then(xZ (za.mk x2.aK x2.aA x2.Except x2.il x2.hJ x2.iI x2.iN x2.aL (Expr.mk x2.Test.Op x2.Test.N x2.Test.S x2.Test.Key x2.Test.fu) x2.zg x2.Uses x2.iD x2.N) c0).bind λx5=>aY x5 else aY bf))else aY bf)) λx3=>(bif x3 then(fN (ba (q.2++([q.1]:List Int))*8<=140737488355328)).bind λ_=>aY (q.2++([q.1]:List Int))else aY q.2)).bind λx1=>yt c0 c1 c2 c3 K ((b_ (q.1+1)),x1)else aY q.2)
def yI(p:yf)(lS:List ai)(day:Int):Option ((List Int)):=aM (yt lS day p.aB (p.aB.length:Int) KK (0,[])) λx1=>aY x1
def vc(c0:List Int)(c1:Int):Nat->(Int)->Option ((Bool)⊕(Unit))
 |0,_=>bh
 |K+1,q=>(bif (decide (q<(c0.length:Int)))then(idx c0 q).bind λx1=>(bif (decide (x1=c1))then aY (bA bg)else vc c0 c1 K (b_ (q+1)))else aY (bp ()))
def zx(l:List Int)(n:Int):Option (Bool):=(vc l n KK 0).bind (yg aY λ_=>aY bf)
def yD(r_:yl):Option (Bool):=(bif (decide (0<=r_.X0))then(bif (decide (r_.X0<r_.X1))then(bif (decide (r_.X1<=1048576))then(bif (decide (0<=r_.Y0))then(bif (decide (r_.Y0<r_.Y1))then aY (decide (r_.Y1<=1048576))else aY bf)else aY bf)else aY bf)else aY bf)else aY bf)
def Mb(a0:Int):Option ((List yl)):=aM (T6 a0) λ_=>aY []
def xJ(c0:List (List yl))(c1:Int):Nat->(Int×Int)->Option (Int)
 |0,_=>bh
 |K+1,q=>(bif (decide (q.2<c1))then(idx c0 q.2).bind λx1=>(bif (decide ((b_ (q.1+(x1.length:Int)))<0))then bh else xJ c0 c1 K ((b_ (q.1+(x1.length:Int))),(b_ (q.2+1))))else aY q.1)
def xK(c0:List (List yl))(c1:Int):Nat->(Int×(List yl))->Option ((List yl))
 |0,_=>bh
 |K+1,q=>(bif (decide (q.1<c1))then(idx c0 q.1).bind λx1=>aM (fN (ba (q.2++x1)*32<=140737488355328)) λ_=>xK c0 c1 K ((b_ (q.1+1)),(q.2++x1))else aY q.2)
def qj(GJ:List (List yl)):Option ((List yl)):=aM (xJ GJ (GJ.length:Int) KK (0,0)) λx1=>aM (Mb x1) λx2=>aM (xK GJ (GJ.length:Int) KK (0,x2)) λx3=>aY x3
def K7(a0:List Int):Option ((List Int)):=F7 a0
def uu(a0:List Int):Option ((List Int)×(List Int)):=VR a0
def LR(a0:List zj):Option (Unit):=aM (fN (ba a0=1)) λ_=>aY ()
def yE(c0:Int)(c1:List yl)(c2:Int):Nat->(Int×(List zj))->Option ((List zj))
 |0,_=>bh
 |K+1,q=>(bif (decide (q.1<c2))then(aM (idx c1 q.1) λx2=>aM ((bif (decide (x2.X0<=c0))then aY (decide (c0<x2.X1))else aY bf)) λx3=>(bif x3 then(fN (ba (q.2++([(zj.mk x2.Y0 x2.Y1)]:List zj))*16<=140737488355328)).bind λ_=>aY (q.2++([(zj.mk x2.Y0 x2.Y1)]:List zj))else aY q.2)).bind λx1=>yE c0 c1 c2 K ((b_ (q.1+1)),x1)else aY q.2)
def yi(c0:Int)(c1:List zj):Nat->(Int×(List zj))->Option ((List zj))
 |0,_=>bh
 |K+1,q=>(bif (decide (q.1<c0))then(fN (0<=q.1/\q.1<(((ba c1):Nat):Int))).bind λ_=>aM ((c1)[(bB q.1)]?) λx2=>(bif (decide ((((ba q.2):Nat):Int)>0))then(fN (0<=(b_ ((((ba q.2):Nat):Int)-1))/\(b_ ((((ba q.2):Nat):Int)-1))<(((ba q.2):Nat):Int))).bind λ_=>aM ((q.2)[(bB (b_ ((((ba q.2):Nat):Int)-1)))]?) λx4=>(bif (decide (x2.from_<=x4.q_))then(fN (0<=(b_ ((((ba q.2):Nat):Int)-1))/\(b_ ((((ba q.2):Nat):Int)-1))<(((ba q.2):Nat):Int))).bind λ_=>aM ((q.2)[(bB (b_ ((((ba q.2):Nat):Int)-1)))]?) λx6=>aM (fN (0<=(b_ ((((ba q.2):Nat):Int)-1))/\(b_ ((((ba q.2):Nat):Int)-1))<(((ba q.2):Nat):Int))) λ_=>aM ((q.2)[(bB (b_ ((((ba q.2):Nat):Int)-1)))]?) λx8=>yi c0 c1 K ((b_ (q.1+1)),(cY q.2 (bB (b_ ((((ba q.2):Nat):Int)-1))) (zj.mk x8.from_ (max x6.q_ x2.q_))))else(fN (ba (q.2++([x2]:List zj))*16<=140737488355328)).bind λ_=>yi c0 c1 K ((b_ (q.1+1)),(q.2++([x2]:List zj))))else(fN (ba (q.2++([x2]:List zj))*16<=140737488355328)).bind λ_=>yi c0 c1 K ((b_ (q.1+1)),(q.2++([x2]:List zj))))else aY q.2)
def vt(l:List yl)(x_:Int):Option ((List zj)):=aM (yE x_ l (l.length:Int) KK (0,[])) λx1=>aM (LR x1) λ_=>aM (yi (((ba x1):Nat):Int) x1 KK (0,[])) λx3=>aY x3
def xL(c0:List yl)(c1:Int):Nat->(Int×(List Int))->Option ((List Int))
 |0,_=>bh
 |K+1,q=>(bif (decide (q.1<c1))then(idx c0 q.1).bind λx1=>aM (fN (ba (q.2++([x1.X0,x1.X1]:List Int))*8<=140737488355328)) λ_=>xL c0 c1 K ((b_ (q.1+1)),(q.2++([x1.X0,x1.X1]:List Int)))else aY q.2)
def yF(c0:List yl)(c1:List Int):Nat->(Int×(List zo))->Option ((List zo))
 |0,_=>bh
 |K+1,q=>(bif (decide (q.1<(c1.length:Int)))then(idx c1 (b_ (q.1-1))).bind λx1=>aM (idx c1 q.1) λx2=>aM (idx c1 (b_ (q.1-1))) λx3=>aM (vt c0 x3) λx4=>aM (fN (ba (q.2++([(zo.mk x1 x2 x4)]:List zo))*40<=140737488355328)) λ_=>yF c0 c1 K ((b_ (q.1+1)),(q.2++([(zo.mk x1 x2 x4)]:List zo)))else aY q.2)
def wa(lists:List (List yl)):Option ((List zo)):=aM (qj lists) λx1=>aM (xL x1 (x1.length:Int) KK (0,[])) λx2=>aM (K7 x2) λx3=>aM (CE [(ba x2,ba x3)]) λ_=>aM (uu x3) λx4=>aM (yF x1 x4.1 KK (1,[])) λx5=>aY x5
def wX(c0:List zj)(c1:List zj)(c2:Int):Nat->(Int)->Option ((Bool)⊕(Unit))
 |0,_=>bh
 |K+1,q=>(bif (decide (q<c2))then(idx c0 q).bind λx1=>aM (idx c1 q) λx2=>(bif (!(decide (x1.from_=x2.from_)&&(decide (x1.q_=x2.q_))))then aY (bA bf)else wX c0 c1 c2 K (b_ (q+1)))else aY (bp ()))
def oA(s1:List zj)(s2:List zj):Option (Bool):=(bif (!(decide ((s1.length:Int)=(s2.length:Int))))then aY bf else(wX s1 s2 (s1.length:Int) KK 0).bind (yg aY λ_=>aY bg))
def wo(c0:List zo)(c1:Int)(c2:List yl):Nat->(Int)->Option (Int)
 |0,_=>bh
 |K+1,q=>aM ((bif (decide (q<(c0.length:Int)))then(idx c0 q).bind λx2=>aM (idx c0 c1) λx3=>aM (oA x2.column x3.column) λx4=>aY x4 else aY bf)) λx1=>(bif x1 then wo c0 c1 c2 K (b_ (q+1))else aY q)
def wq(c0:List zo)(c1:Int)(c2:Int)(c3:List zj)(c4:Int):Nat->(Int×(List yl))->Option ((List yl))
 |0,_=>bh
 |K+1,q=>(bif (decide (q.1<c4))then(idx c3 q.1).bind λx1=>aM (idx c0 c1) λx2=>aM (idx c0 (b_ (c2-1))) λx3=>aM (fN (ba (q.2++([(yl.mk x2.x0 x1.from_ x3.x1 x1.q_)]:List yl))*32<=140737488355328)) λ_=>wq c0 c1 c2 c3 c4 K ((b_ (q.1+1)),(q.2++([(yl.mk x2.x0 x1.from_ x3.x1 x1.q_)]:List yl)))else aY q.2)
def y5(c0:List zo):Nat->(Int×(List yl))->Option ((List yl))
 |0,_=>bh
 |K+1,q=>(bif (decide (q.1<(c0.length:Int)))then(wo c0 q.1 q.2 KK (b_ (q.1+1))).bind λx1=>aM (idx c0 q.1) λx2=>aM (wq c0 q.1 x1 x2.column (x2.column.length:Int) KK (0,q.2)) λx3=>y5 c0 K (x1,x3)else aY q.2)
def wN(l:List zo):Option ((List yl)):=aM (y5 l KK (0,[])) λx1=>aY x1
def jF(l:List yl):Option ((List yl)×Int):=(bif (decide ((l.length:Int)>200))then aY ([],6)else aY (l,0))
def yJ(c0:List yl)(c1:Int):Nat->(Int)->Option (((List yl)×Int)⊕(Unit))
 |0,_=>bh
 |K+1,q=>(bif (decide (q<c1))then(idx c0 q).bind λx1=>aM (yD x1) λx2=>(bif (!x2)then aY (bA ([],1))else yJ c0 c1 K (b_ (q+1)))else aY (bp ()))
def Ja(l:List yl):Option ((List yl)×Int):=(yJ l (l.length:Int) KK 0).bind (yg aY λ_=>(bif (decide ((l.length:Int)>400))then aY ([],6)else(wa ([l]:List (List yl))).bind λx2=>aM (wN x2) λx3=>aM (jF x3) λx4=>aY (x4.1,x4.2)))
def yz(c0:List yl)(c1:List yl)(c2:Int):Nat->(Int)->Option ((Bool)⊕(Unit))
 |0,_=>bh
 |K+1,q=>(bif (decide (q<c2))then(idx c0 q).bind λx1=>aM (idx c1 q) λx2=>(bif (!(decide (x1.X0=x2.X0)&&(decide (x1.Y0=x2.Y0)&&(decide (x1.X1=x2.X1)&&(decide (x1.Y1=x2.Y1))))))then aY (bA bf)else yz c0 c1 c2 K (b_ (q+1)))else aY (bp ()))
def wR(s1:List yl)(s2:List yl):Option (Bool):=(bif (!(decide ((s1.length:Int)=(s2.length:Int))))then aY bf else(yz s1 s2 (s1.length:Int) KK 0).bind (yg aY λ_=>aY bg))
def vZ(a:List yl):Option (Bool):=aM (Ja a) λx1=>(bif (decide (x1.2=0))then(wR x1.1 a).bind λx2=>aY x2 else aY bf)
def wu(c0:List zt)(c1:Int):Nat->(Int×(List Int))->Option ((List Int))
 |0,_=>bh
 |K+1,q=>(bif (decide (q.1<c1))then(idx c0 q.1).bind λx1=>aM (fN (ba (q.2++([x1.X]:List Int))*8<=140737488355328)) λ_=>wu c0 c1 K ((b_ (q.1+1)),(q.2++([x1.X]:List Int)))else aY q.2)
def xj(c0:List Int)(c1:List zk)(c2:Int)(c3:Int)(c4:Int)(c5:List yl):Nat->(Int×(List Int))->Option ((List Int))
 |0,_=>bh
 |K+1,q=>(bif (decide (q.1<c4))then(aM (idx c1 q.1) λx2=>aM (yd x2) λx3=>(bif (!x3)then(idx c0 c2).bind λx4=>(bif (decide ((min x2.a.X x2.b.X)<=x4))then(idx c0 c2).bind λx5=>(bif (decide (x5<(max x2.a.X x2.b.X)))then(fN (ba (q.2++([x2.a.Y]:List Int))*8<=140737488355328)).bind λ_=>aY (q.2++([x2.a.Y]:List Int))else aY q.2)else aY q.2)else aY q.2)).bind λx1=>xj c0 c1 c2 c3 c4 c5 K ((b_ (q.1+1)),x1)else aY q.2)
def wv(c0:List Int)(c1:List zk)(c2:Int)(c3:Int)(c4:List Int):Nat->(Int×(List yl))->Option ((List yl))
 |0,_=>bh
 |K+1,q=>(bif (decide ((b_ (q.1+1))<(((ba c4):Nat):Int)))then(idx c0 c2).bind λx1=>aM (fN (0<=q.1/\q.1<(((ba c4):Nat):Int))) λ_=>aM ((c4)[(bB q.1)]?) λx3=>aM (idx c0 (b_ (c2+1))) λx4=>aM (fN (0<=(b_ (q.1+1))/\(b_ (q.1+1))<(((ba c4):Nat):Int))) λ_=>aM ((c4)[(bB (b_ (q.1+1)))]?) λx6=>aM (fN (ba (q.2++([(yl.mk x1 x3 x4 x6)]:List yl))*32<=140737488355328)) λ_=>wv c0 c1 c2 c3 c4 K ((b_ (q.1+2)),(q.2++([(yl.mk x1 x3 x4 x6)]:List yl)))else aY q.2)
def wx(c0:List Int)(c1:List zk)(c2:Int):Nat->(Int×(List yl))->Option ((List yl))
 |0,_=>bh
 |K+1,q=>(bif (decide (q.1<c2))then(xj c0 c1 q.1 c2 (c1.length:Int) q.2 KK (0,[])).bind λx1=>aM (K7 x1) λx2=>aM (CE [(ba x1,ba x2)]) λ_=>aM (wv c0 c1 q.1 c2 x2 KK (0,q.2)) λx3=>wx c0 c1 c2 K ((b_ (q.1+1)),x3)else aY q.2)
def Hk(p:List zt):Option ((List yl)×Int):=aM (Ae p) λx1=>(bif (!x1)then aY ([],10)else(wu p (p.length:Int) KK (0,[])).bind λx2=>aM (K7 x2) λx3=>aM (CE [(ba x2,ba x3)]) λ_=>aM (uu x3) λx4=>aM (uo p) λx5=>aM (wx x4.1 x5 (b_ ((x4.1.length:Int)-1)) KK (0,[])) λx6=>(bif (decide ((((ba x6):Nat):Int)>200))then aY ([],6)else aY (x6,0)))
def qZ(z:zq):Option ((List yl)):=aM (Hk z.ay) λx1=>(bif (!(decide (x1.2=0)))then aY []else aY x1.1)
def ja(r_:yl):Option (Bool×Int×Int×Int×Int):=aM (yD r_) λx1=>(bif x1 then aY (bg,r_.X0,r_.Y0,r_.X1,r_.Y1)else aY (bf,0,0,0,0))
def jG(a:yl)(b:yl):Option (Bool×Int×Int×Int×Int):=aM (aM (yD a) λx2=>(bif (!x2)then aY bg else(yD b).bind λx3=>aY (!x3))) λx1=>(bif x1 then aY (bf,0,0,0,0)else(ja (yl.mk (max a.X0 b.X0) (max a.Y0 b.Y0) (min a.X1 b.X1) (min a.Y1 b.Y1))).bind λx4=>aY (x4.1,x4.2.1,x4.2.2.1,x4.2.2.2.1,x4.2.2.2.2))
def Jb(r_:yl):Option (Int):=aM (ja r_) λx1=>aY (b_ ((b_ (x1.2.2.2.1-x1.2.1))*(b_ (x1.2.2.2.2-x1.2.2.1))))
def ya(c0:List yl)(c1:List yl)(c2:Int)(c3:Int)(c4:Int)(c5:Int)(c6:Int)(c7:Int)(c8:Int):Nat->(Int×Int×Int×Int×Int×Int)->Option (Int×Int×Int×Int×Int)
 |0,_=>bh
 |K+1,q=>(bif (decide (q.2.1<c4))then(aM (idx c0 q.2.1) λx2=>aM (jG (yl.mk c5 c6 c7 c8) x2) λx3=>(bif (!x3.1)then aY (q.1,q.2.2.1,q.2.2.2.1,q.2.2.2.2.1,q.2.2.2.2.2)else(Jb (yl.mk x3.2.1 x3.2.2.1 x3.2.2.2.1 x3.2.2.2.2)).bind λx4=>aM (yC x3.2.1 q.2.2.2.2.1) λx5=>aM (yC x3.2.2.1 q.2.2.2.2.2) λx6=>aM (Hh ([x5,x6]:List Int)) λx7=>(bif (decide (x7<0))then aY ((b_ (q.1+x4)),q.2.2.1,q.2.2.2.1,x3.2.1,x3.2.2.1)else aY ((b_ (q.1+x4)),q.2.2.1,q.2.2.2.1,q.2.2.2.2.1,q.2.2.2.2.2)))).bind λx1=>ya c0 c1 c2 c3 c4 c5 c6 c7 c8 K (x1.1,(b_ (q.2.1+1)),x1.2.1,x1.2.2.1,x1.2.2.2.1,x1.2.2.2.2)else aY (q.1,q.2.2.1,q.2.2.2.1,q.2.2.2.2.1,q.2.2.2.2.2))
def yj(c0:List yl)(c1:List yl)(c2:Int):Nat->(Int×Int×Int×Int×Int×Int)->Option (Int×Int×Int×Int×Int)
 |0,_=>bh
 |K+1,q=>(bif (decide (q.2.1<c2))then(idx c1 q.2.1).bind λx1=>aM (ya c0 c1 c2 q.2.1 (c0.length:Int) x1.X0 x1.Y0 x1.X1 x1.Y1 KK (q.1,0,q.2.2.1,q.2.2.2.1,q.2.2.2.2.1,q.2.2.2.2.2)) λx2=>yj c0 c1 c2 K (x2.1,(b_ (q.2.1+1)),x2.2.1,x2.2.2.1,x2.2.2.2.1,x2.2.2.2.2)else aY (q.1,q.2.2.1,q.2.2.2.1,q.2.2.2.2.1,q.2.2.2.2.2))
def qk(a:List yl)(b:List yl):Option (Int×Int×Int):=aM (yj b a (a.length:Int) KK (0,0,0,0,1048576,0)) λx1=>aY (x1.1,x1.2.2.2.1,x1.2.2.2.2)
def yG(c0:List yl)(c1:List zq)(c2:Int):Nat->(Int×(List Int))->Option ((List Int))
 |0,_=>bh
 |K+1,q=>(bif (decide (q.1<c2))then(idx c1 q.1).bind λx1=>aM (qZ x1) λx2=>aM (qk c0 x2) λx3=>aM (fN (ba (q.2++([x3.1]:List Int))*8<=140737488355328)) λ_=>yG c0 c1 c2 K ((b_ (q.1+1)),(q.2++([x3.1]:List Int)))else aY q.2)
def wb(p:yf)(Gw:List yl):Option ((List Int)):=aM (vZ Gw) λx1=>(bif (!x1)then aY []else(yG Gw p.aA (p.aA.length:Int) KK (0,[])).bind λx2=>aY x2)
def zK(c0:List Int)(c1:Int)(c2:List Def)(c3:List ar)(c4:List zq)(c5:List za)(c6:List eC)(c7:List au)(c8:List zh)(c9:Int):Nat->(Int×Int)->Option (Int)
 |0,_=>bh
 |K+1,q=>(bif (decide (q.2<c1))then(aM (idx c0 q.2) λx2=>aM (aM (idx c4 q.2) λx4=>(bif (!x4.lQ)then(bif (decide (x2>0))then(bif (decide (q.1<0))then aY bg else(idx c0 q.1).bind λx5=>aY (decide (x2>x5)))else aY bf)else aY bf)) λx3=>(bif x3 then aY q.2 else aY q.1)).bind λx1=>zK c0 c1 c2 c3 c4 c5 c6 c7 c8 c9 K (x1,(b_ (q.2+1)))else aY q.1)
def zL(c0:Int)(c1:List Int)(c2:Int)(c3:List Def)(c4:List ar)(c5:List zq)(c6:List za)(c7:List eC)(c8:List au)(c9:List zh)(iE:Int):Nat->(Int×(List ai))->Option ((List ai))
 |0,_=>bh
 |K+1,q=>(bif (decide (q.1<c2))then(aM (idx c1 q.1) λx2=>aM ((bif (decide (q.1=c0))then aY bg else(idx c5 q.1).bind λx4=>(bif x4.lQ then aY (decide (x2>0))else aY bf))) λx3=>(bif x3 then(idx c5 q.1).bind λx5=>aM (fN (ba (q.2++([x5.aK]:List ai))*16<=140737488355328)) λ_=>aY (q.2++([x5.aK]:List ai))else aY q.2)).bind λx1=>zL c0 c1 c2 c3 c4 c5 c6 c7 c8 c9 iE K ((b_ (q.1+1)),x1)else aY q.2)
def xk(p:yf)(Gw:List yl):Option ((List ai)):=aM (wb p Gw) λx1=>aM (zK x1 (x1.length:Int) p.aE p.Tables p.aA p.aB p.aI p.aF p.aJ p.aG KK ((-1),0)) λx2=>aM (zL x2 x1 (x1.length:Int) p.aE p.Tables p.aA p.aB p.aI p.aF p.aJ p.aG KK (0,[])) λx3=>aY x3
def yb(c0:List ai)(c1:Int)(c2:Bool)(c3:List Int)(c4:List Int)(c5:List Def)(c6:List ar)(c7:List zq)(c8:List za)(c9:List eC)(iE:List au)(iK:List zh)(iQ:Int)(iF:Int)(iL:ai)(iX:ai)(lV:Int)(pX:ai)(pY:List ai)(pZ:List ai)(oW:Int)(pF:Int)(rY:Int)(rq:Bool)(rZ:Int)(th:Int)(tj:Int)(tk:ai)(tl:ai)(sc:List Expr)(p5:Int)(mv:Int)(BC:Int)(BD:Int)(BE:Int)(BF:Int)(BG:Int)(BH:Int)(BI:Int)(BJ:ai)(BK:ai)(BL:List Expr)(BM:List zt)(BN:Int)(BO:Int)(BP:Int)(BQ:Int)(BR:List Def)(BS:List ar)(BU:List zq)(BV:List za)(BW:List eC)(BX:List au)(BY:List zh)(BZ:Int):Nat->(Int)->Option ((Bool)⊕(Unit))
 |0,_=>bh
 |K+1,q=>(bif (decide (q<(c8.length:Int)))then((bif (decide (iF=1))then(idx c8 q).bind λx2=>aY (decide (x2.aK=iL))else aY bf)).bind λx1=>aM ((bif (!x1)then(zx c3 q).bind λx4=>aM (zx c4 q) λx5=>(bif (!(x4==x5))then aY bg else(bif x1 then(zx c4 q).bind λx6=>(bif x6 then(bif (decide (c1>=lV))then aY bg else(bif x1 then(zx c3 q).bind λx7=>(bif x7 then(zx c4 q).bind λx8=>(bif (!x8)then aY (decide (c1<lV))else aY bf)else aY bf)else aY bf))else(bif x1 then(zx c3 q).bind λx9=>(bif x9 then(zx c4 q).bind λmu=>(bif (!mu)then aY (decide (c1<lV))else aY bf)else aY bf)else aY bf))else(bif x1 then(zx c3 q).bind λlT=>(bif lT then(zx c4 q).bind λnz=>(bif (!nz)then aY (decide (c1<lV))else aY bf)else aY bf)else aY bf)))else(bif x1 then(zx c4 q).bind λnA=>(bif nA then(bif (decide (c1>=lV))then aY bg else(bif x1 then(zx c3 q).bind λpL=>(bif pL then(zx c4 q).bind λrG=>(bif (!rG)then aY (decide (c1<lV))else aY bf)else aY bf)else aY bf))else(bif x1 then(zx c3 q).bind λCh=>(bif Ch then(zx c4 q).bind λCi=>(bif (!Ci)then aY (decide (c1<lV))else aY bf)else aY bf)else aY bf))else(bif x1 then(zx c3 q).bind λLd=>(bif Ld then(zx c4 q).bind λLe=>(bif (!Le)then aY (decide (c1<lV))else aY bf)else aY bf)else aY bf)))) λx3=>(bif x3 then aY (bA bf)else yb c0 c1 c2 c3 c4 c5 c6 c7 c8 c9 iE iK iQ iF iL iX lV pX pY pZ oW pF rY rq rZ th tj tk tl sc p5 mv BC BD BE BF BG BH BI BJ BK BL BM BN BO BP BQ BR BS BU BV BW BX BY BZ K (b_ (q+1)))else aY (bp ()))
def zX(c0:Bool)(c1:List ai)(c2:List ai):Nat->(Int)->Option ((Bool)⊕(Unit))
 |0,_=>bh
 |K+1,q=>(bif (decide (q<(c1.length:Int)))then(idx c1 q).bind λx1=>aM (idx c2 q) λx2=>(bif (!(decide (x1=x2)))then aY (bA bf)else zX c0 c1 c2 K (b_ (q+1)))else aY (bp ()))
def vu(p:yf)(a:zA)(lS:List ai)(day:Int)(r_:yl):Option (Bool):=aM oa λx1=>aM (aM (Hj p) λx3=>(bif (!x3)then aY bg else(JV ([(zA.mk a.aL a.aK a.Key a.N (za.mk a.za.aK a.za.aA a.za.Except a.za.il a.za.hJ a.za.iI a.za.iN a.za.aL (Expr.mk a.za.Test.Op a.za.Test.N a.za.Test.S a.za.Test.Key a.za.Test.fu) a.za.zg a.za.Uses a.za.iD a.za.N) (Expr.mk a.Body.Op a.Body.N a.Body.S a.Body.Key a.Body.fu) a.ay)]:List zA)).bind λx4=>(bif (!x4)then aY bg else aY (decide ((lS.length:Int)>6))))) λx2=>(bif x2 then aY x1 else(u7 p (zA.mk a.aL a.aK a.Key a.N (za.mk a.za.aK a.za.aA a.za.Except a.za.il a.za.hJ a.za.iI a.za.iN a.za.aL (Expr.mk a.za.Test.Op a.za.Test.N a.za.Test.S a.za.Test.Key a.za.Test.fu) a.za.zg a.za.Uses a.za.iD a.za.N) (Expr.mk a.Body.Op a.Body.N a.Body.S a.Body.Key a.Body.fu) a.ay)).bind λx5=>(bif (!(decide (x5.1=0)))then aY x1 else(yI p lS day).bind λx6=>aM (yI (yf.mk x5.2.1 x5.2.2.1 x5.2.2.2.1 x5.2.2.2.2.1 x5.2.2.2.2.2.1 x5.2.2.2.2.2.2.1 x5.2.2.2.2.2.2.2.1 x5.2.2.2.2.2.2.2.2) lS day) λx7=>(yb lS day x1 x6 x7 p.aE p.Tables p.aA p.aB p.aI p.aF p.aJ p.aG a.aL a.aK a.Key a.N a.za.aK a.za.aA a.za.Except a.za.il a.za.hJ a.za.iI a.za.iN a.za.aL a.za.Test.Op a.za.Test.N a.za.Test.S a.za.Test.Key a.za.Test.fu a.za.zg.me a.za.zg.mb a.za.zg.l8 a.za.zg.Den a.za.Uses a.za.iD a.za.N a.Body.Op a.Body.N a.Body.S a.Body.Key a.Body.fu a.ay r_.X0 r_.Y0 r_.X1 r_.Y1 x5.2.1 x5.2.2.1 x5.2.2.2.1 x5.2.2.2.2.1 x5.2.2.2.2.2.1 x5.2.2.2.2.2.2.1 x5.2.2.2.2.2.2.2.1 x5.2.2.2.2.2.2.2.2 KK 0).bind (yg aY λ_=>((bif (decide (a.aL=0))then(yI (yf.mk [] [] [] ([(za.mk a.za.aK a.za.aA a.za.Except a.za.il a.za.hJ a.za.iI a.za.iN a.za.aL (Expr.mk a.za.Test.Op a.za.Test.N a.za.Test.S a.za.Test.Key a.za.Test.fu) a.za.zg a.za.Uses a.za.iD a.za.N)]:List za) [] [] [] 0) lS day).bind λmu=>aM ((bif (!(decide ((x5.2.2.2.2.1.length:Int)=(b_ ((p.aB.length:Int)+1)))))then aY bg else(zx x7 (p.aB.length:Int)).bind λnz=>aY (!(nz==(decide ((mu.length:Int)=1)))))) λlT=>(bif lT then aY (bA bf)else aY (bp ()))else aY (bp ()))).bind (yg aY λ_=>(bif (decide (a.aL=4))then aY x1 else(xk p ([r_]:List yl)).bind λnA=>aM (xk (yf.mk x5.2.1 x5.2.2.1 x5.2.2.2.1 x5.2.2.2.2.1 x5.2.2.2.2.2.1 x5.2.2.2.2.2.2.1 x5.2.2.2.2.2.2.2.1 x5.2.2.2.2.2.2.2.2) ([r_]:List yl)) λpL=>(bif (!(decide ((nA.length:Int)=(pL.length:Int))))then aY bf else(zX x1 nA pL KK 0).bind (yg aY λ_=>aY x1)))))))
end Go.Proofs.YtkmjhipiiifekaaGreatDoor
