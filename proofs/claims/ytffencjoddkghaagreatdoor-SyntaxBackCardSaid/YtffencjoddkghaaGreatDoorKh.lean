/- texts that the proof reaches, part 8 -/
import Derived.Test.YtffencjoddkghaaGreatDoorKg
set_option linter.all false
set_option maxRecDepth 100000
namespace Go.Proofs.YtffencjoddkghaaGreatDoor
open Go Go.RowKit Go.Eng Go.EV Go.EQ
abbrev Bs8:=ak
abbrev Mb8:=List (Bs8×Bool)
structure Expr where
 Op:Int
 N:Int
 S:Bs8
 Key:Bs8
 Args:(List Expr)
instance:Inhabited Expr:=⟨⟨0,0,[],[],[]⟩⟩
mutual
def oS:Expr->List V
 |⟨a0,a1,a2,a3,a4⟩=>[.int .i64 a0,.int .i64 a1,.str a2,.str a3,.vs 5 (yK a4)]
def yK:List Expr->List (List V)
 |[]=>[]
 |x::r=>oS x::yK r
end
def vv(x:Expr):List V:=[.int .i64 x.Op,.int .i64 x.N,.str x.S,.str x.Key,.vs 5 (yK x.Args)]
def Ko(x:Expr):oS x=vv x:=by cases x;rw[oS];rfl
def j8:∀l:List Expr,yK l=l.map vv
 |[]=>by rw[yK];rfl
 |x::r=>by rw[yK,Ko,j8 r];rfl
structure Def where
 Name:Bs8
 Body:Expr
 deriving Inhabited
def Q6(x:Def):List V:=[.str x.Name,.int .i64 x.Body.Op,.int .i64 x.Body.N,.str x.Body.S,.str x.Body.Key,.vs 5 (yK x.Body.Args)]
structure Entry where
 Name:Bs8
 N:Int
 deriving Inhabited,DecidableEq
def qY(x:Entry):List V:=[.str x.Name,.int .i64 x.N]
structure Table where
 Name:Bs8
 Rows:(List Entry)
 Else:Int
 deriving Inhabited,DecidableEq
def oT(x:Table):List V:=[.str x.Name,.vs 2 (List.map qY x.Rows),.int .i64 x.Else]
structure zV where
 X:Int
 Y:Int
 deriving Inhabited,DecidableEq
def jC(x:zV):List V:=[.int .i64 x.X,.int .i64 x.Y]
structure yp where
 Name:Bs8
 Overlay:Bool
 Corners:(List zV)
 deriving Inhabited,DecidableEq
def Jg(x:yp):List V:=[.str x.Name,.bool x.Overlay,.vs 2 (List.map jC x.Corners)]
structure zy where
 Side:Int
 Base:Int
 Num:Int
 Den:Int
 deriving Inhabited,DecidableEq
def Kp(x:zy):List V:=[.int .i64 x.Side,.int .i64 x.Base,.int .i64 x.Num,.int .i64 x.Den]
structure zO where
 Name:Bs8
 Zones:List Bs8
 Except:List Bs8
 From:Int
 Until:Int
 Grace:Int
 Vary:Bool
 Kind:Int
 Test:Expr
 zy:zy
 Uses:Int
 Other:Int
 N:Int
 deriving Inhabited
def Jh(x:zO):List V:=[.str x.Name,.vs 1 (List.map EV.zO8 x.Zones),.vs 1 (List.map EV.zO8 x.Except),.int .i64 x.From,.int .i64 x.Until,.int .i64 x.Grace,.bool x.Vary,.int .i64 x.Kind,.int .i64 x.Test.Op,.int .i64 x.Test.N,.str x.Test.S,.str x.Test.Key,.vs 5 (yK x.Test.Args),.int .i64 x.zy.Side,.int .i64 x.zy.Base,.int .i64 x.zy.Num,.int .i64 x.zy.Den,.int .i64 x.Uses,.int .i64 x.Other,.int .i64 x.N]
structure Cap where
 Name:Bs8
 Load:Int
 Limit:Int
 Corners:(List zV)
 deriving Inhabited,DecidableEq
def Q7(x:Cap):List V:=[.str x.Name,.int .i64 x.Load,.int .i64 x.Limit,.vs 2 (List.map jC x.Corners)]
structure zg where
 X:Int
 Y:Int
 Z_:Int
 deriving Inhabited,DecidableEq
def vV(x:zg):List V:=[.int .i64 x.X,.int .i64 x.Y,.int .i64 x.Z_]
structure View where
 Name:Bs8
 Eye:zg
 Least:Int
 Targets:(List zg)
 deriving Inhabited,DecidableEq
def Ji(x:View):List V:=[.str x.Name,.int .i64 x.Eye.X,.int .i64 x.Eye.Y,.int .i64 x.Eye.Z_,.int .i64 x.Least,.vs 3 (List.map vV x.Targets)]
structure Token where
 Kind:Int
 Text:Bs8
 N:Int
 Pos:Int
 deriving Inhabited,DecidableEq
def V5(x:Token):List V:=[.int .i64 x.Kind,.str x.Text,.int .i64 x.N,.int .i64 x.Pos]
structure zd where
 text:Bs8
 op:Int
 form:Int
 deriving Inhabited,DecidableEq
def oU(x:zd):List V:=[.str x.text,.int .i64 x.op,.int .i64 x.form]
structure zI where
 a:zV
 b:zV
 deriving Inhabited,DecidableEq
def J1(x:zI):List V:=[.int .i64 x.a.X,.int .i64 x.a.Y,.int .i64 x.b.X,.int .i64 x.b.Y]
structure yX where
 Defs:(List Def)
 Tables:(List Table)
 Zones:(List yp)
 Rules:(List zO)
 Caps:(List Cap)
 Views:(List View)
 Sun:(List zg)
 Hours:Int
 deriving Inhabited
def Qd(x:yX):List V:=[.vs 6 (List.map Q6 x.Defs),.vs 3 (List.map oT x.Tables),.vs 3 (List.map Jg x.Zones),.vs 20 (List.map Jh x.Rules),.vs 4 (List.map Q7 x.Caps),.vs 6 (List.map Ji x.Views),.vs 3 (List.map vV x.Sun),.int .i64 x.Hours]
instance:Inhabited (Int⊕Bs8):=⟨.inl 0⟩
def zuj(s:Bs8)(n:Int):Option Bs8:=(grd (0<=n/\n<256/\List.length s+1<=140737488355328)).bind λ_=>some (s++[UInt8.ofNat (Int.toNat n)])
structure BB where
 l:(List Token)
 i:Int
 D:(List Def)
 T:(List Table)
 Z:(List yp)
 R:(List zO)
 C:(List Cap)
 V:(List View)
 S:(List zg)
 H:Int
 n0:(List Mb8)
 n1:(List Mb8)
 n2:(List Mb8)
 n3:(List Mb8)
 n4:(List Mb8)
 n5:(List Mb8)
 h:Bool
def xw(x:(List Token)×Int×(List Def)×(List Table)×(List yp)×(List zO)×(List Cap)×(List View)×(List zg)×Int×(List Mb8)×(List Mb8)×(List Mb8)×(List Mb8)×(List Mb8)×(List Mb8)×Bool):BB:=⟨x.1,x.2.1,x.2.2.1,x.2.2.2.1,x.2.2.2.2.1,x.2.2.2.2.2.1,x.2.2.2.2.2.2.1,x.2.2.2.2.2.2.2.1,x.2.2.2.2.2.2.2.2.1,x.2.2.2.2.2.2.2.2.2.1,x.2.2.2.2.2.2.2.2.2.2.1,x.2.2.2.2.2.2.2.2.2.2.2.1,x.2.2.2.2.2.2.2.2.2.2.2.2.1,x.2.2.2.2.2.2.2.2.2.2.2.2.2.1,x.2.2.2.2.2.2.2.2.2.2.2.2.2.2.1,x.2.2.2.2.2.2.2.2.2.2.2.2.2.2.2.1,x.2.2.2.2.2.2.2.2.2.2.2.2.2.2.2.2⟩
def zct{R:Type}(x:(List Token)×Int×(List Def)×(List Table)×(List yp)×(List zO)×(List Cap)×(List View)×(List zg)×Int×(List Mb8)×(List Mb8)×(List Mb8)×(List Mb8)×(List Mb8)×(List Mb8)×Bool×R):BB:=⟨x.1,x.2.1,x.2.2.1,x.2.2.2.1,x.2.2.2.2.1,x.2.2.2.2.2.1,x.2.2.2.2.2.2.1,x.2.2.2.2.2.2.2.1,x.2.2.2.2.2.2.2.2.1,x.2.2.2.2.2.2.2.2.2.1,x.2.2.2.2.2.2.2.2.2.2.1,x.2.2.2.2.2.2.2.2.2.2.2.1,x.2.2.2.2.2.2.2.2.2.2.2.2.1,x.2.2.2.2.2.2.2.2.2.2.2.2.2.1,x.2.2.2.2.2.2.2.2.2.2.2.2.2.2.1,x.2.2.2.2.2.2.2.2.2.2.2.2.2.2.2.1,x.2.2.2.2.2.2.2.2.2.2.2.2.2.2.2.2.1⟩
def rBB{R:Type}(x:(List Token)×Int×(List Def)×(List Table)×(List yp)×(List zO)×(List Cap)×(List View)×(List zg)×Int×(List Mb8)×(List Mb8)×(List Mb8)×(List Mb8)×(List Mb8)×(List Mb8)×Bool×R):R:=x.2.2.2.2.2.2.2.2.2.2.2.2.2.2.2.2.2
def t_0:Bs8:=[48]
def Jl:Bs8:=[50,32,42,32,40,32,97,32,43,32,98,32,41]
def t__:Bs8:=[32]
def zh:Bs8:=[32,97,110,100,32,97,112,97,114,116,32,98,97,115,101,32,99,97,112,32,100,101,102,105,110,101,32,101,108,115,101,32,101,120,99,101,112,116,32,102,114,111,109,32,103,114,97,99,101,32,104,111,117,114,115,32,105,102,32,105,110,32,108,101,97,115,116,32,110,111,116,32,111,114,32,111,118,101,114,108,97,121,32,112,108,97,110,101,32,114,117,108,101,32,115,108,111,112,101,32,115,117,110,32,116,97,98,108,101,32,116,104,101,110,32,117,110,116,105,108,32,117,115,101,115,32,118,97,114,121,32,118,105,101,119,32,122,111,110,101,32]
def yL:Bs8:=[32,101,108,115,101,32]
def yM:Bs8:=[32,116,104,101,110,32]
def zgt:Bs8:=[32,41]
def t_a:Bs8:=[97]
def t_a1:Bs8:=[97,49]
def Kq:Bs8:=[97,32,43,32,98,32,42,32,50,32,60,32,99]
def zCr:Bs8:=[97,110,100]
def qh:Bs8:=[97,112,97,114,116]
def zcu:Bs8:=[97,43,98,42,50,60,99]
def t_b:Bs8:=[98]
def AI:Bs8:=[98,97,115,101]
def V7:Bs8:=[99,97,112]
def wR:Bs8:=[100,101,102,105,110,101]
def V8:Bs8:=[100,101,102,105,110,101,32,97,32,61,32,59]
def QC:Bs8:=[100,101,102,105,110,101,32,105,102,32,61,32,49,59]
def yY:Bs8:=[101,108,115,101]
def yU:Bs8:=[101,120,99,101,112,116]
def vw:Bs8:=[102,114,111,109]
def xO:Bs8:=[103,114,97,99,101]
def zVv:Bs8:=[104,97,108,108]
def zVw:Bs8:=[104,111,109,101]
def zj:Bs8:=[104,111,109,101,32,115,104,111,112,32,119,111,114,107,32,112,97,114,107,32,112,108,97,110,116,32,104,97,108,108]
def zQy:Bs8:=[104,111,109,101,115]
def zX:Bs8:=[104,111,109,101,115,32,116,114,97,102,102,105,99,32,114,117,110,111,102,102]
def kE:Bs8:=[104,111,117,114,115]
def zjt:Bs8:=[104,111,117,114,115,32,50,53,59]
def V9:Bs8:=[105,102]
def oV:Bs8:=[105,102,32]
def ze1:Bs8:=[105,110]
def vG:Bs8:=[108,101,97,115,116]
def qZ:Bs8:=[110,111,116]
def Wa:Bs8:=[110,111,116,32]
def zVx:Bs8:=[111,114]
def yI:Bs8:=[111,118,101,114,108,97,121]
def zVy:Bs8:=[112,97,114,107]
def qi:Bs8:=[112,108,97,110,101]
def zQz:Bs8:=[112,108,97,110,116]
def ua:Bs8:=[114,117,108,101]
def uu:Bs8:=[114,117,108,101,32,114,58,32,117,115,101,115,32,104,111,109,101,32,104,111,109,101,59]
def zJb:Bs8:=[114,117,110,111,102,102]
def zVz:Bs8:=[115,104,111,112]
def jx:Bs8:=[115,108,111,112,101]
def Jm:Bs8:=[115,117,110]
def yz:Bs8:=[116,97,98,108,101]
def wS:Bs8:=[116,97,98,108,101,32]
def uE:Bs8:=[116,104,101,110]
def zCs:Bs8:=[116,114,97,102,102,105,99]
def xC:Bs8:=[117,110,116,105,108]
def oW:Bs8:=[117,115,101,115]
def wm:Bs8:=[118,97,114,121]
def AJ:Bs8:=[118,105,101,119]
def zV0:Bs8:=[119,111,114,107]
def zfh:Bs8:=[37]
def Ay:Bs8:=[40]
def zgu:Bs8:=[40,32]
def qj:Bs8:=[41]
def zfi:Bs8:=[42]
def zfj:Bs8:=[43]
def qa:Bs8:=[44]
def yS:Bs8:=[45]
def J2:Bs8:=[45,32]
def zfk:Bs8:=[47]
def xI:Bs8:=[58]
def yg:Bs8:=[59]
def xm:Bs8:=[59,44,58,61,60,43,45,42,47,37,40,41]
def zfl:Bs8:=[60]
def qK:Bs8:=[60,61]
def Az:Bs8:=[61]
def qL:Bs8:=[61,61]
def xh:Bs8:=[122,111,110,101]
def oX:Bs8:=[122,111,110,101,32]
def Jn:Bs8:=[122,111,110,101,32,97,32,48,32,48,32,52,32,48,32,52,32,52,59]
def ku:Bs8:=[122,111,110,101,32,99,111,114,101,32,48,32,48,32,52,32,48,32,52,32,52,32,48,32,52,32,59,10]
def ub:Bs8:=[122,111,110,101,32,99,111,114,101,32,48,32,48,32,52,32,48,32,52,32,52,32,48,32,52,59]
variable[Fuel]
def Kr(c_:Int):Option (Bool) :=
 (bif (decide (c_=32))then some true else(bif (decide (c_=9))then some true else some (decide (c_=10))))
def Jo(c0:Bs8):Nat->(Int)->Option (Int)
 |0,_=>none
 |K+1,q=>((bif (decide (q<(c0.length:Int)))then(idx c0 q).bind λx2=>(Kr ((x2.toNat:Nat):Int)).bind λx3=>some x3 else some false)).bind λx1=>(bif x1 then Jo c0 K (w64 (q+1))else some q)
def zaw(s:Bs8):Option (Int) :=
 (Jo s KK 0).bind λx1=>some x1
def qk(c_:Int):Option (Bool) :=
 (bif (decide (c_>=97))then some (decide (c_<=122))else some false)
def uc(c_:Int):Option (Bool) :=
 (bif (decide (c_>=48))then some (decide (c_<=57))else some false)
def Qf(c_:Int):Option (Bool) :=
 (qk c_).bind λx1=>(bif x1 then some true else(uc c_).bind λx2=>some x2)
def uM(c0:Bs8):Nat->(Int)->Option (Int)
 |0,_=>none
 |K+1,q=>((bif (decide (q<(c0.length:Int)))then(idx c0 q).bind λx2=>(Qf ((x2.toNat:Nat):Int)).bind λx3=>some x3 else some false)).bind λx1=>(bif x1 then uM c0 K (w64 (q+1))else some q)
def Qg(s:Bs8):Option (Int) :=
 (uM s KK 0).bind λx1=>some x1
def oj(c_:Int):Option (Bool) :=
 (qk c_).bind λx1=>(bif x1 then some true else(uc c_).bind λx2=>some x2)
def uN(c0:Bs8):Nat->(Int)->Option (Int)
 |0,_=>none
 |K+1,q=>((bif (decide (q<(c0.length:Int)))then(idx c0 q).bind λx2=>(oj ((x2.toNat:Nat):Int)).bind λx3=>some x3 else some false)).bind λx1=>(bif x1 then uN c0 K (w64 (q+1))else some q)
def Qh(s:Bs8):Option (Int) :=
 (uN s KK 0).bind λx1=>some x1
def Wb(s:Bs8):Option (Bool) :=
 ((bif (decide (s=([]:Bs8)))then some true else(idx s 0).bind λx2=>(qk ((x2.toNat:Nat):Int)).bind λx3=>(bif (!x3)then some true else some (decide ((s.length:Int)>20))))).bind λx1=>(bif x1 then some false else(Qh s).bind λx4=>some (decide (x4=(s.length:Int))))
def uO(c0:Bs8):Nat->(Int)->Option (Int)
 |0,_=>none
 |K+1,q=>((bif (decide (q<(c0.length:Int)))then(idx c0 q).bind λx2=>(uc ((x2.toNat:Nat):Int)).bind λx3=>some x3 else some false)).bind λx1=>(bif x1 then uO c0 K (w64 (q+1))else some q)
def Hr(s:Bs8):Option (Int) :=
 (uO s KK 0).bind λx1=>some x1
def vW(c0:Bs8)(c1:Int):Nat->(Int×Int)->Option (Int)
 |0,_=>none
 |K+1,q=>(bif (decide (q.2<c1))then(idx c0 q.2).bind λx1=>vW c0 c1 K ((w64 ((w64 (10*q.1))+(w64 ((IntKind.u8.wrap (((x1.toNat:Nat):Int)-48)))))),(w64 (q.2+1)))else some q.1)
def Qi(s:Bs8):Option (Int×Bool) :=
 ((bif (decide (s=([]:Bs8)))then some true else(Hr s).bind λx2=>(bif (!(decide (x2=(s.length:Int))))then some true else(idx s 0).bind λx3=>(bif (decide (((x3.toNat:Nat):Int)=48))then(bif (!(decide (s=t_0)))then some true else some (decide ((s.length:Int)>13)))else some (decide ((s.length:Int)>13)))))).bind λx1=>(bif x1 then some (0,false)else(vW s (s.length:Int) KK (0,0)).bind λx4=>(bif (decide (x4>1099511627776))then some (0,false)else some (x4,true)))
def Q8(a0:Bs8)(a1:Bs8):Option (Bool):=zco a0 a1
def ql(c0:Bs8)(c1:Bs8)(c2:Bs8)(c3:Bs8)(c4:Bs8)(c5:Bs8)(c6:Bs8)(c7:Bs8)(c8:Bs8)(c9:Bs8)(c10:Bs8)(c11:Bs8)(c12:Bs8)(c13:Bs8)(c14:Bs8)(c15:Int)(c16:Bs8):Nat->(Int)->Option ((Int×Int×Bs8×Int×Int)⊕(Unit))
 |0,_=>none
 |K+1,q=>(bif (decide (q<14))then(idx (α:=Bs8) ([c1,c2,c3,c4,c5,c6,c7,c8,c9,c10,c11,c12,c13,c14]:List Bs8) q).bind λx1=>(Q8 c0 x1).bind λx2=>(bif x2 then some (Sum.inl (0,2,x1,0,0))else ql c0 c1 c2 c3 c4 c5 c6 c7 c8 c9 c10 c11 c12 c13 c14 c15 c16 K (w64 (q+1)))else some (Sum.inr ()))
def zax(s:Bs8):Option (Int×Int×Bs8×Int×Int) :=
 (idx s 0).bind λx1=>(qk ((x1.toNat:Nat):Int)).bind λx2=>(bif x2 then(Qg s).bind λx3=>(cut s 0 x3).bind λx4=>(Wb x4).bind λx5=>(bif (!x5)then some (15,0,([]:Bs8),0,0)else some (0,0,x4,0,0))else(idx s 0).bind λx6=>(uc ((x6.toNat:Nat):Int)).bind λx7=>(bif x7 then(Hr s).bind λx8=>(cut s 0 x8).bind λx9=>(Qi x9).bind λx10=>(bif (!x10.2)then some (3,0,([]:Bs8),0,0)else some (0,1,x9,x10.1,0))else(ql s qK qL yg qa xI Az zfl zfj yS zfi zfk zfh Ay qj 0 ([]:Bs8) KK 0).bind (xM some λ_=>some (13,0,([]:Bs8),0,0))))
def oo(c0:Bs8):Nat->(Int×(List Token))->Option (((List Token)×Int×Int)⊕(Unit))
 |0,_=>none
 |K+1,q=>(cut c0 q.1 (c0.length:Int)).bind λx1=>(zaw x1).bind λx2=>(bif (decide ((w64 (q.1+x2))=(c0.length:Int)))then(grd (List.length (q.2++([(Token.mk 3 ([]:Bs8) 0 (w64 (q.1+x2)))]:List Token))*40<=140737488355328)).bind λ_=>some (Sum.inl ((q.2++([(Token.mk 3 ([]:Bs8) 0 (w64 (q.1+x2)))]:List Token)),0,0))else(cut c0 (w64 (q.1+x2)) (c0.length:Int)).bind λx4=>(zax x4).bind λx5=>(bif (!(decide (x5.1=0)))then some (Sum.inl ([],(w64 (q.1+x2)),x5.1))else(grd (List.length (q.2++([(Token.mk x5.2.1 x5.2.2.1 x5.2.2.2.1 (w64 (q.1+x2)))]:List Token))*40<=140737488355328)).bind λ_=>oo c0 K ((w64 ((w64 (q.1+x2))+(x5.2.2.1.length:Int))),(q.2++([(Token.mk x5.2.1 x5.2.2.1 x5.2.2.2.1 (w64 (q.1+x2)))]:List Token)))))
def zcv(s:Bs8):Option ((List Token)×Int×Int) :=
 (bif (decide ((s.length:Int)>8000))then some ([],0,6)else(oo s KK (0,[])).bind (xM some λ_=>none))
def vx(p_l:List Token)(p_at_:Int):Option (Int×Bs8×Int×Int) :=
 (idx p_l p_at_).bind λx1=>some (x1.Kind,x1.Text,x1.N,x1.Pos)
def zcw(p_l:List Token)(p_at_:Int)(s:Bs8):Option (Bool) :=
 (vx p_l p_at_).bind λx1=>(bif (!(decide (x1.1=3)))then(vx p_l p_at_).bind λx2=>some (decide (x2.2.1=s))else some false)
def xx(p_l:List Token)(p_at_:Int)(s:Bs8):Option (Bool×Int) :=
 (zcw p_l p_at_ s).bind λx1=>(bif (!x1)then some (false,p_at_)else some (true,(w64 (p_at_+1))))
def xG(p_l:List Token)(p_at_:Int):Option (Bool) :=
 (vx p_l p_at_).bind λx1=>some (decide (x1.1=1))
def yB(p_l:List Token)(p_at_:Int)(is:Bool)(err:Int):Option (Unit) :=
 (bif (!is)then none else some ())
def ka(p_l:List Token)(p_at_:Int)(from_:Int)(to_:Int):Option (Int×Int) :=
 (xG p_l p_at_).bind λx1=>(yB p_l p_at_ x1 14).bind λ_=>(vx p_l p_at_).bind λx3=>((bif (decide (x3.2.2.1>=from_))then(yB p_l p_at_ (decide (x3.2.2.1<=to_)) 3).bind λ_=>some ()else(yB p_l p_at_ false 3).bind λ_=>some ())).bind λ_=>some (x3.2.2.1,(w64 (p_at_+1)))
def Qj(a0:Bs8)(a1:Bs8):Option (Bool):=Qc a0 a1
def QM(s:Bs8):Option (Bool) :=
 (Wb s).bind λx1=>(bif x1 then(grd (List.length t__+List.length s<=9223372036854775807)).bind λ_=>(grd (List.length (t__++s)+List.length t__<=9223372036854775807)).bind λ_=>(Qj zh ((t__++s)++t__)).bind λx4=>some (!x4)else some false)
def oq(p_l:List Token)(p_at_:Int):Option (Bool) :=
 (vx p_l p_at_).bind λx1=>(bif (decide (x1.1=0))then(vx p_l p_at_).bind λx2=>(QM x2.2.1).bind λx3=>some x3 else some false)
def xn(p_l:List Token)(p_at_:Int):Option (Bs8×Int) :=
 (oq p_l p_at_).bind λx1=>(yB p_l p_at_ x1 14).bind λ_=>(idx p_l (w64 ((w64 (p_at_+1))-1))).bind λx3=>some (x3.Text,(w64 (p_at_+1)))
def wT:Option ((List zd)) :=
 some ([(zd.mk zVx 14 1),(zd.mk zCr 13 2),(zd.mk qL 10 4),(zd.mk zfl 11 4),(zd.mk qK 12 4),(zd.mk zfj 4 5),(zd.mk yS 5 5),(zd.mk zfi 6 6),(zd.mk zfk 7 6),(zd.mk zfh 8 6)]:List zd)
def jJ(p_l:List Token)(p_at_:Int)(s:Bs8):Option (Int) :=
 (xx p_l p_at_ s).bind λx1=>(yB p_l x1.2 x1.1 14).bind λ_=>some x1.2
def xP(c0:List Token)(c1:Int)(c2:Int)(c3:Int)(c4:List zd)(c5:Int)(c6:Int)(c7:Bs8)(c8:List Expr)(c9:Int)(c10:Int)(c11:Bs8)(c12:Bs8)(c13:List Expr):Nat->(Int×Bs8×Int×Int)->Option (Bs8×Int×Int)
 |0,_=>none
 |K+1,q=>(bif (decide (q.1<c5))then((idx c4 q.1).bind λx2=>(zcw c0 c1 x2.text).bind λx3=>(bif x3 then some (x2.text,x2.op,x2.form)else some (q.2.1,q.2.2.1,q.2.2.2))).bind λx1=>xP c0 c1 c2 c3 c4 c5 c6 c7 c8 c9 c10 c11 c12 c13 K ((w64 (q.1+1)),x1.1,x1.2.1,x1.2.2)else some (q.2.1,q.2.2.1,q.2.2.2))
def jP(r_q_expr:(List Token)->Int->Int->Option (Int×Int×Int×Bs8×Bs8×(List Expr)))(c0:List Token)(c1:Int)(c2:Int)(c3:Bs8)(c4:List Expr):Nat->(Int×Int×Int×Int×Bs8×Bs8×(List Expr))->Option ((Int×Int×Int×Bs8×Bs8×(List Expr))⊕(Unit))
 |0,_=>none
 |K+1,q=>(wT).bind λx1=>(xP c0 q.1 c1 q.2.1 x1 (x1.length:Int) c2 c3 c4 q.2.2.1 q.2.2.2.1 q.2.2.2.2.1 q.2.2.2.2.2.1 q.2.2.2.2.2.2 KK (0,([]:Bs8),0,0)).bind λx2=>((bif (decide (x2.1=([]:Bs8)))then some true else(bif (decide (x2.2.2<c1))then some true else(bif (decide (q.2.1<x2.2.2))then some true else(bif (decide (q.2.1=4))then some (decide (x2.2.2=4))else some false))))).bind λx3=>(bif x3 then some (Sum.inl (q.1,q.2.2.1,q.2.2.2.1,q.2.2.2.2.1,q.2.2.2.2.2.1,q.2.2.2.2.2.2))else(r_q_expr c0 (w64 (q.1+1)) (w64 (x2.2.2+1))).bind λx4=>jP r_q_expr c0 c1 c2 c3 c4 K (x4.1,x2.2.2,x2.2.1,0,([]:Bs8),([]:Bs8),([(Expr.mk q.2.2.1 q.2.2.2.1 q.2.2.2.2.1 q.2.2.2.2.2.1 q.2.2.2.2.2.2),(Expr.mk x4.2.1 x4.2.2.1 x4.2.2.2.1 x4.2.2.2.2.1 x4.2.2.2.2.2)]:List Expr)))
mutual
def kd:Nat->(List Token)->Int->Int->Option (Int×Int×Int×Int×Bs8×Bs8×(List Expr))
 |0,_,_,_=>none
 |RK+1,p_l,p_at_,form=>((bif (decide (form<=0))then(xx p_l p_at_ V9).bind λx2=>some (x2.2,x2.1)else some (p_at_,false))).bind λx1=>(bif x1.2 then(ya RK p_l x1.1 0).bind λx3=>(jJ p_l x3.1 uE).bind λx4=>(ya RK p_l x4 0).bind λx5=>(jJ p_l x5.1 yY).bind λx6=>(ya RK p_l x6 0).bind λx7=>some (0,x7.1,16,0,([]:Bs8),([]:Bs8),([(Expr.mk x3.2.1 x3.2.2.1 x3.2.2.2.1 x3.2.2.2.2.1 x3.2.2.2.2.2),(Expr.mk x5.2.1 x5.2.2.1 x5.2.2.2.1 x5.2.2.2.2.1 x5.2.2.2.2.2),(Expr.mk x7.2.1 x7.2.2.1 x7.2.2.2.1 x7.2.2.2.2.1 x7.2.2.2.2.2)]:List Expr))else((bif (decide (form<=3))then(xx p_l x1.1 qZ).bind λx9=>some (x9.2,x9.1)else some (x1.1,false))).bind λx8=>(bif x8.2 then(ya RK p_l x8.1 3).bind λx10=>some (3,x10.1,15,0,([]:Bs8),([]:Bs8),([(Expr.mk x10.2.1 x10.2.2.1 x10.2.2.2.1 x10.2.2.2.2.1 x10.2.2.2.2.2)]:List Expr))else((bif (decide (form<=7))then(xx p_l x8.1 yS).bind λx12=>some (x12.2,x12.1)else some (x8.1,false))).bind λx11=>(bif x11.2 then(ya RK p_l x11.1 7).bind λx13=>some (7,x13.1,9,0,([]:Bs8),([]:Bs8),([(Expr.mk x13.2.1 x13.2.2.1 x13.2.2.2.1 x13.2.2.2.2.1 x13.2.2.2.2.2)]:List Expr))else(xG p_l x11.1).bind λx14=>(bif x14 then(ka p_l x11.1 0 1099511627776).bind λx15=>some (8,x15.2,0,x15.1,([]:Bs8),([]:Bs8),[])else(xx p_l x11.1 yz).bind λx16=>(bif x16.1 then(xn p_l x16.2).bind λx17=>(xn p_l x17.2).bind λx18=>some (8,x18.2,2,0,x17.1,x18.1,[])else(xx p_l x16.2 xh).bind λx19=>(bif x19.1 then(xn p_l x19.2).bind λx20=>some (8,x20.2,3,0,x20.1,([]:Bs8),[])else(xx p_l x19.2 Ay).bind λx21=>(bif x21.1 then(ya RK p_l x21.2 0).bind λx22=>(jJ p_l x22.1 qj).bind λx23=>some (8,x23,x22.2.1,x22.2.2.1,x22.2.2.2.1,x22.2.2.2.2.1,x22.2.2.2.2.2)else(xn p_l x21.2).bind λx24=>some (8,x24.2,1,0,x24.1,([]:Bs8),[]))))))))
def ya:Nat->(List Token)->Int->Int->Option (Int×Int×Int×Bs8×Bs8×(List Expr))
 |0,_,_,_=>none
 |RK+1,p_l,p_at_,form=>(kd RK p_l p_at_ form).bind λx1=>(jP (ya RK) p_l form 0 ([]:Bs8) [] KK (x1.2.1,x1.1,x1.2.2.1,x1.2.2.2.1,x1.2.2.2.2.1,x1.2.2.2.2.2.1,x1.2.2.2.2.2.2)).bind (xM some λ_=>none)
end
def qm(r_levels:Expr->Option (Int))(c0:List Expr)(c1:Int):Nat->(Int×Int)->Option (Int)
 |0,_=>none
 |K+1,q=>(bif (decide (q.2<c1))then(idx c0 q.2).bind λx1=>(r_levels (Expr.mk x1.Op x1.N x1.S x1.Key x1.Args)).bind λx2=>qm r_levels c0 c1 K ((max q.1 x2),(w64 (q.2+1)))else some q.1)
def vX:Nat->Expr->Option (Int)
 |0,_=>none
 |RK+1,e=>(qm (vX RK) e.Args (e.Args.length:Int) KK (0,0)).bind λx1=>some (w64 (x1+1))
def Wc(p_l:List Token)(p_at_:Int)(c_1_Op:Int)(c_1_N:Int)(c_1_S:Bs8)(c_1_Key:Bs8)(c_1_Args:List Expr):Option (Int×Int×Int×Bs8×Bs8×(List Expr)) :=
 (ya KK p_l p_at_ 0).bind λx1=>(vx p_l x1.1).bind λx2=>(yB p_l x1.1 (decide (x2.1=3)) 14).bind λ_=>(vX KK (Expr.mk x1.2.1 x1.2.2.1 x1.2.2.2.1 x1.2.2.2.2.1 x1.2.2.2.2.2)).bind λx4=>(yB p_l x1.1 (decide (x4<=12)) 6).bind λ_=>some (x1.1,x1.2.1,x1.2.2.1,x1.2.2.2.1,x1.2.2.2.2.1,x1.2.2.2.2.2)
def Qk(p_l:List Token)(p_at_:Int)(err:Int):Option (Int×Int) :=
 (vx p_l p_at_).bind λx1=>some (x1.2.2.2,err)
def xX(p_l:List Token)(p_at_:Int)(is:Bool)(err:Int):Option (Int×Int) :=
 (bif (!is)then(orC (Qk p_l p_at_ err) (λx1=>some x1) none)else none)
def AK(p_l:List Token)(p_at_:Int)(s:Bs8):Option (Int×Int) :=
 (xx p_l p_at_ s).bind λx1=>(orC (xX p_l x1.2 x1.1 14) (λx2=>some x2) ((yB p_l x1.2 x1.1 14).bind λ_=>none))
def ou(p_l:List Token)(p_at_:Int)(from_:Int)(to_:Int):Option (Int×Int) :=
 (xG p_l p_at_).bind λx1=>(orC (xX p_l p_at_ x1 14) (λx2=>some x2) ((yB p_l p_at_ x1 14).bind λ_=>(vx p_l p_at_).bind λx4=>((bif (decide (x4.2.2.1>=from_))then(orC (xX p_l p_at_ (decide (x4.2.2.1<=to_)) 3) (λx6=>some (Sum.inl x6)) ((yB p_l p_at_ (decide (x4.2.2.1<=to_)) 3).bind λ_=>some (Sum.inr ())))else(orC (xX p_l p_at_ false 3) (λx8=>some (Sum.inl x8)) ((yB p_l p_at_ false 3).bind λ_=>some (Sum.inr ()))))).bind (xM some λ_=>none)))
def jK(p_l:List Token)(p_at_:Int):Option (Int×Int) :=
 (oq p_l p_at_).bind λx1=>(orC (xX p_l p_at_ x1 14) (λx2=>some x2) ((yB p_l p_at_ x1 14).bind λ_=>(idx p_l (w64 ((w64 (p_at_+1))-1))).bind λ_=>none))
def vH(c0:List Token)(c1:Int)(c2:Int)(c3:Int)(c4:List zd)(c5:Int)(c6:Int)(c7:Bs8)(c8:List Expr)(c9:Int)(c10:Int)(c11:Bs8)(c12:Bs8)(c13:List Expr):Nat->(Int×Bs8×Int×Int)->Option (Bs8×Int×Int)
 |0,_=>none
 |K+1,q=>(bif (decide (q.1<c5))then((idx c4 q.1).bind λx2=>(zcw c0 c1 x2.text).bind λx3=>(bif x3 then some (x2.text,x2.op,x2.form)else some (q.2.1,q.2.2.1,q.2.2.2))).bind λx1=>vH c0 c1 c2 c3 c4 c5 c6 c7 c8 c9 c10 c11 c12 c13 K ((w64 (q.1+1)),x1.1,x1.2.1,x1.2.2)else some (q.2.1,q.2.2.1,q.2.2.2))
def jQ(r_p_q_expr:(List Token)->Int->Int->Option (Int×Int))(c0:List Token)(c1:Int)(c2:Int)(c3:Bs8)(c4:List Expr):Nat->(Int×Int×Int×Int×Bs8×Bs8×(List Expr))->Option ((Int×Int)⊕(Unit))
 |0,_=>none
 |K+1,q=>(wT).bind λx1=>(vH c0 q.1 c1 q.2.1 x1 (x1.length:Int) c2 c3 c4 q.2.2.1 q.2.2.2.1 q.2.2.2.2.1 q.2.2.2.2.2.1 q.2.2.2.2.2.2 KK (0,([]:Bs8),0,0)).bind λx2=>((bif (decide (x2.1=([]:Bs8)))then some true else(bif (decide (x2.2.2<c1))then some true else(bif (decide (q.2.1<x2.2.2))then some true else(bif (decide (q.2.1=4))then some (decide (x2.2.2=4))else some false))))).bind λx3=>(bif x3 then none else(orC (r_p_q_expr c0 (w64 (q.1+1)) (w64 (x2.2.2+1))) (λx4=>some (Sum.inl x4)) ((ya KK c0 (w64 (q.1+1)) (w64 (x2.2.2+1))).bind λx5=>jQ r_p_q_expr c0 c1 c2 c3 c4 K (x5.1,x2.2.2,x2.2.1,0,([]:Bs8),([]:Bs8),([(Expr.mk q.2.2.1 q.2.2.2.1 q.2.2.2.2.1 q.2.2.2.2.2.1 q.2.2.2.2.2.2),(Expr.mk x5.2.1 x5.2.2.1 x5.2.2.2.1 x5.2.2.2.2.1 x5.2.2.2.2.2)]:List Expr)))))
mutual
def ow:Nat->(List Token)->Int->Int->Option (Int×Int)
 |0,_,_,_=>none
 |RK+1,p_l,p_at_,form=>((bif (decide (form<=0))then(xx p_l p_at_ V9).bind λx2=>some (x2.2,x2.1)else some (p_at_,false))).bind λx1=>(bif x1.2 then(orC (yV RK p_l x1.1 0) (λx3=>some x3) ((ya KK p_l x1.1 0).bind λx4=>(orC (AK p_l x4.1 uE) (λx5=>some x5) ((jJ p_l x4.1 uE).bind λx6=>(orC (yV RK p_l x6 0) (λx7=>some x7) ((ya KK p_l x6 0).bind λx8=>(orC (AK p_l x8.1 yY) (λx9=>some x9) ((jJ p_l x8.1 yY).bind λx10=>(orC (yV RK p_l x10 0) (λx11=>some x11) ((ya KK p_l x10 0).bind λ_=>none))))))))))else((bif (decide (form<=3))then(xx p_l x1.1 qZ).bind λx14=>some (x14.2,x14.1)else some (x1.1,false))).bind λx13=>(bif x13.2 then(orC (yV RK p_l x13.1 3) (λx15=>some x15) ((ya KK p_l x13.1 3).bind λ_=>none))else((bif (decide (form<=7))then(xx p_l x13.1 yS).bind λx18=>some (x18.2,x18.1)else some (x13.1,false))).bind λx17=>(bif x17.2 then(orC (yV RK p_l x17.1 7) (λx19=>some x19) ((ya KK p_l x17.1 7).bind λ_=>none))else(xG p_l x17.1).bind λx21=>(bif x21 then(orC (ou p_l x17.1 0 1099511627776) (λx22=>some x22) ((ka p_l x17.1 0 1099511627776).bind λ_=>none))else(xx p_l x17.1 yz).bind λx24=>(bif x24.1 then(orC (jK p_l x24.2) (λx25=>some x25) ((xn p_l x24.2).bind λx26=>(orC (jK p_l x26.2) (λx27=>some x27) ((xn p_l x26.2).bind λ_=>none))))else(xx p_l x24.2 xh).bind λx29=>(bif x29.1 then(orC (jK p_l x29.2) (λx30=>some x30) ((xn p_l x29.2).bind λ_=>none))else(xx p_l x29.2 Ay).bind λx32=>(bif x32.1 then(orC (yV RK p_l x32.2 0) (λx33=>some x33) ((ya KK p_l x32.2 0).bind λx34=>(orC (AK p_l x34.1 qj) (λx35=>some x35) ((jJ p_l x34.1 qj).bind λ_=>none))))else(orC (jK p_l x32.2) (λx37=>some x37) ((xn p_l x32.2).bind λ_=>none)))))))))
def yV:Nat->(List Token)->Int->Int->Option (Int×Int)
 |0,_,_,_=>none
 |RK+1,p_l,p_at_,form=>(orC (ow RK p_l p_at_ form) (λx1=>some x1) ((kd KK p_l p_at_ form).bind λx2=>(jQ (yV RK) p_l form 0 ([]:Bs8) [] KK (x2.2.1,x2.1,x2.2.2.1,x2.2.2.2.1,x2.2.2.2.2.1,x2.2.2.2.2.2.1,x2.2.2.2.2.2.2)).bind (xM some λ_=>none)))
end
def Wd(p_l:List Token)(p_at_:Int)(c_1_Op:Int)(c_1_N:Int)(c_1_S:Bs8)(c_1_Key:Bs8)(c_1_Args:List Expr):Option (Int×Int) :=
 (orC (yV KK p_l p_at_ 0) (λx1=>some x1) ((ya KK p_l p_at_ 0).bind λx2=>(vx p_l x2.1).bind λx3=>(orC (xX p_l x2.1 (decide (x3.1=3)) 14) (λx4=>some x4) ((yB p_l x2.1 (decide (x3.1=3)) 14).bind λ_=>(vX KK (Expr.mk x2.2.1 x2.2.2.1 x2.2.2.2.1 x2.2.2.2.2.1 x2.2.2.2.2.2)).bind λx6=>(orC (xX p_l x2.1 (decide (x6<=12)) 6) (λx7=>some x7) ((yB p_l x2.1 (decide (x6<=12)) 6).bind λ_=>none))))))
def Hs(a0:List Token)(a1:Int)(a2:Int)(a3:Int)(a4:Bs8)(a5:Bs8)(a6:List Expr):Option (Int×Int×Int×Int×Int×Bs8×Bs8×(List Expr)):=(Wc a0 a1 a2 a3 a4 a5 a6).bind λq=>some ((0:Int),(0:Int),q)
def AL(a0:List Token)(a1:Int)(a2:Int)(a3:Int)(a4:Bs8)(a5:Bs8)(a6:List Expr):Option (Int×Int):=Wd a0 a1 a2 a3 a4 a5 a6
def zcx(s:Bs8):Option (Int×Int×Int×Int×Bs8×Bs8×(List Expr)) :=
 (zcv s).bind λx1=>(bif (!(decide (x1.2.2=0)))then some (x1.2.1,x1.2.2,0,0,([]:Bs8),([]:Bs8),[])else(orC (Hs x1.1 0 0 0 ([]:Bs8) ([]:Bs8) []) (λx3=>(bif (!(decide (x3.2.1=0)))then some (x3.1,x3.2.1,0,0,([]:Bs8),([]:Bs8),[])else some (0,0,x3.2.2.2.1,x3.2.2.2.2.1,x3.2.2.2.2.2.1,x3.2.2.2.2.2.2.1,x3.2.2.2.2.2.2.2))) (orC (AL x1.1 0 0 0 ([]:Bs8) ([]:Bs8) []) (λx2=>(bif (!(decide (x2.2=0)))then some (x2.1,x2.2,0,0,([]:Bs8),([]:Bs8),[])else none)) none)))
def xJ(r_right:Expr->Int->Option (Bool))(c0:Int)(c1:List Expr)(c2:Int):Nat->(Int)->Option ((Bool)⊕(Unit))
 |0,_=>none
 |K+1,q=>(bif (decide (q<c2))then(idx c1 q).bind λx1=>(r_right (Expr.mk x1.Op x1.N x1.S x1.Key x1.Args) (w64 (c0-1))).bind λx2=>(bif (!x2)then some (Sum.inl false)else xJ r_right c0 c1 c2 K (w64 (q+1)))else some (Sum.inr ()))
def yr:Nat->Expr->Int->Option (Bool)
 |0,_,_=>none
 |RK+1,e,depth=>((bif (decide (depth=0))then some true else(bif (decide (e.Op<0))then some true else some (decide (e.Op>=17))))).bind λx1=>(bif x1 then some false else((bif (decide (e.Op=0))then some (Sum.inr (0,(min (max e.N 0) 1099511627776),([]:Bs8),([]:Bs8)))else((bif (decide (e.Op=1))then some (decide (e.Op=1))else some (decide (e.Op=3)))).bind λx3=>(bif x3 then some (Sum.inr (0,0,e.S,([]:Bs8)))else(bif (decide (e.Op=2))then(QM e.Key).bind λx4=>(bif (!x4)then some (Sum.inl false)else some (Sum.inr (0,0,e.S,e.Key)))else((bif (decide (e.Op=9))then some (decide (e.Op=9))else some (decide (e.Op=15)))).bind λx5=>(bif x5 then some (Sum.inr (1,0,([]:Bs8),([]:Bs8)))else(bif (decide (e.Op=16))then some (Sum.inr (3,0,([]:Bs8),([]:Bs8)))else some (Sum.inr (2,0,([]:Bs8),([]:Bs8))))))))).bind (xM some λx2=>((bif (!(decide ((e.Args.length:Int)=x2.1)))then some true else(bif (!(decide (x2.2.1=e.N)))then some true else(bif (!(decide (x2.2.2.1=e.S)))then some true else(bif (!(decide (x2.2.2.2=e.Key)))then some true else(bif (decide (x2.1=0))then(bif (!(decide (e.Op=0)))then(QM e.S).bind λx7=>some (!x7)else some false)else some false)))))).bind λx6=>(bif x6 then some false else(xJ (yr RK) depth e.Args (e.Args.length:Int) KK 0).bind (xM some λ_=>some true))))
def jR(e:Expr):Option (Bool) :=
 (yr KK (Expr.mk e.Op e.N e.S e.Key e.Args) 12).bind λx1=>some x1
def Jp(c0:List zd)(c1:Int)(c2:Int)(c3:Int)(c4:Bs8)(c5:Bs8)(c6:List Expr):Nat->(Int)->Option ((Int×Bs8)⊕(Unit))
 |0,_=>none
 |K+1,q=>(bif (decide (q<c1))then(idx c0 q).bind λx1=>(bif (decide (x1.op=c2))then some (Sum.inl (x1.form,x1.text))else Jp c0 c1 c2 c3 c4 c5 c6 K (w64 (q+1)))else some (Sum.inr ()))
def zay(e:Expr):Option (Int×Bs8) :=
 (wT).bind λx1=>(Jp x1 (x1.length:Int) e.Op e.N e.S e.Key e.Args KK 0).bind (xM some λ_=>(bif (decide (e.Op=16))then some (0,([]:Bs8))else(bif (decide (e.Op=15))then some (3,([]:Bs8))else(bif (decide (e.Op=9))then some (7,([]:Bs8))else some (8,([]:Bs8))))))
def yT(a0:Bs8)(a1:Bs8):Option (Int×Bs8):=(grd (List.length a0+List.length a1<=140737488355328)).bind λ_=>some ((a1.length:Int),a0++a1)
def Zp(a0:Int):Option (Bs8):=zuf a0
def ke(r_write:Bs8->Expr->Int->Option (Bs8))(c0:Int)(c1:Int)(c2:Int)(c3:Bs8)(c4:Bs8)(c5:List Expr)(c6:List Bs8):Nat->(Bs8×Int)->Option (Bs8)
 |0,_=>none
 |K+1,q=>(bif (decide (q.2<c0))then(grd (0<=q.2/\q.2<(((List.length c6):Nat):Int))).bind λ_=>((c6)[(Int.toNat q.2)]?).bind λx2=>(yT q.1 x2).bind λx3=>(idx c5 q.2).bind λx4=>(r_write x3.2 x4 0).bind λx5=>ke r_write c0 c1 c2 c3 c4 c5 c6 K (x5,(w64 (q.2+1)))else some q.1)
def kf(r_write:Bs8->Expr->Int->Option (Bs8))(c0:Int)(c1:Int)(c2:Int)(c3:Bs8)(c4:Bs8)(c5:List Expr)(c6:List Bs8):Nat->(Bs8×Int)->Option (Bs8)
 |0,_=>none
 |K+1,q=>(bif (decide (q.2<c0))then(grd (0<=q.2/\q.2<(((List.length c6):Nat):Int))).bind λ_=>((c6)[(Int.toNat q.2)]?).bind λx2=>(yT q.1 x2).bind λx3=>(idx c5 q.2).bind λx4=>(r_write x3.2 x4 0).bind λx5=>kf r_write c0 c1 c2 c3 c4 c5 c6 K (x5,(w64 (q.2+1)))else some q.1)
def xU:Nat->Bs8->Expr->Int->Option (Bs8)
 |0,_,_,_=>none
 |RK+1,b,e,form=>(zay (Expr.mk e.Op e.N e.S e.Key e.Args)).bind λx1=>(bif (decide (x1.1<form))then(yT b zgu).bind λx2=>(bif (decide (e.Op=0))then(Zp e.N).bind λx3=>(yT x2.2 x3).bind λx4=>(zzg x4.2).bind λx5=>some x5 else(bif (decide (e.Op=1))then(yT x2.2 e.S).bind λx6=>(zzg x6.2).bind λx7=>some x7 else(bif (decide (e.Op=2))then(grd (List.length wS+List.length e.S<=9223372036854775807)).bind λ_=>(grd (List.length (wS++e.S)+List.length t__<=9223372036854775807)).bind λ_=>(grd (List.length ((wS++e.S)++t__)+List.length e.Key<=9223372036854775807)).bind λ_=>(yT x2.2 (((wS++e.S)++t__)++e.Key)).bind λx11=>(zzg x11.2).bind λx12=>some x12 else(bif (decide (e.Op=3))then(grd (List.length oX+List.length e.S<=9223372036854775807)).bind λ_=>(yT x2.2 (oX++e.S)).bind λx14=>(zzg x14.2).bind λx15=>some x15 else(bif (decide (e.Op=16))then(ke (xU RK) ((3:Nat):Int) e.Op e.N e.S e.Key e.Args ([oV,yM,yL]:List Bs8) KK (x2.2,0)).bind λx16=>(zzg x16).bind λx17=>some x17 else(bif (decide (e.Op=15))then(yT x2.2 Wa).bind λx18=>(idx e.Args 0).bind λx19=>(xU RK x18.2 x19 x1.1).bind λx20=>(zzg x20).bind λx21=>some x21 else(bif (decide (e.Op=9))then(yT x2.2 J2).bind λx22=>(idx e.Args 0).bind λx23=>(xU RK x22.2 x23 x1.1).bind λx24=>(zzg x24).bind λx25=>some x25 else((bif (decide (x1.1=4))then some (w64 (x1.1+1))else some x1.1)).bind λx26=>(idx e.Args 0).bind λx27=>(xU RK x2.2 x27 x26).bind λx28=>(grd (List.length t__+List.length x1.2<=9223372036854775807)).bind λ_=>(grd (List.length (t__++x1.2)+List.length t__<=9223372036854775807)).bind λ_=>(yT x28 ((t__++x1.2)++t__)).bind λx31=>(idx e.Args 1).bind λx32=>(xU RK x31.2 x32 (w64 (x1.1+1))).bind λx33=>(zzg x33).bind λx34=>some x34)))))))else(bif (decide (e.Op=0))then(Zp e.N).bind λx35=>(yT b x35).bind λx36=>some x36.2 else(bif (decide (e.Op=1))then(yT b e.S).bind λx37=>some x37.2 else(bif (decide (e.Op=2))then(grd (List.length wS+List.length e.S<=9223372036854775807)).bind λ_=>(grd (List.length (wS++e.S)+List.length t__<=9223372036854775807)).bind λ_=>(grd (List.length ((wS++e.S)++t__)+List.length e.Key<=9223372036854775807)).bind λ_=>(yT b (((wS++e.S)++t__)++e.Key)).bind λx41=>some x41.2 else(bif (decide (e.Op=3))then(grd (List.length oX+List.length e.S<=9223372036854775807)).bind λ_=>(yT b (oX++e.S)).bind λx43=>some x43.2 else(bif (decide (e.Op=16))then(kf (xU RK) ((3:Nat):Int) e.Op e.N e.S e.Key e.Args ([oV,yM,yL]:List Bs8) KK (b,0)).bind λx44=>some x44 else(bif (decide (e.Op=15))then(yT b Wa).bind λx45=>(idx e.Args 0).bind λx46=>(xU RK x45.2 x46 x1.1).bind λx47=>some x47 else(bif (decide (e.Op=9))then(yT b J2).bind λx48=>(idx e.Args 0).bind λx49=>(xU RK x48.2 x49 x1.1).bind λx50=>some x50 else((bif (decide (x1.1=4))then some (w64 (x1.1+1))else some x1.1)).bind λx51=>(idx e.Args 0).bind λx52=>(xU RK b x52 x51).bind λx53=>(grd (List.length t__+List.length x1.2<=9223372036854775807)).bind λ_=>(grd (List.length (t__++x1.2)+List.length t__<=9223372036854775807)).bind λ_=>(yT x53 ((t__++x1.2)++t__)).bind λx56=>(idx e.Args 1).bind λx57=>(xU RK x56.2 x57 (w64 (x1.1+1))).bind λx58=>some x58))))))))
def zCt(a0:Bs8):Option (Int):=some (a0.length:Int)
def qg(a0:Bs8):Option (Bs8):=some a0
def Q9(e:Expr):Option (Bs8×Int) :=
 (jR (Expr.mk e.Op e.N e.S e.Key e.Args)).bind λx1=>(bif (!x1)then some (([]:Bs8),1)else(xU KK ([]:Bs8) (Expr.mk e.Op e.N e.S e.Key e.Args) 0).bind λx2=>(zCt x2).bind λx3=>(bif (decide (x3>8000))then some (([]:Bs8),6)else(qg x2).bind λx4=>some (x4,0)))
def zo(b:BB):Option (Int×Bs8×Int×Int) :=
 (idx b.l b.i).bind λx1=>some (x1.Kind,x1.Text,x1.N,x1.Pos)
def zf(b:BB)(is:Bool)(err:Int):Option (Unit) :=
 (bif (!is)then none else some ())
def yN(b:BB)(have_:Int)(most:Int):Option (Int) :=
 (zf b (decide (have_<most)) 6).bind λ_=>some (w64 (b.i+1))
def zJ(b:BB):Option (Bool) :=
 (zo b).bind λx1=>(bif (decide (x1.1=0))then(zo b).bind λx2=>(QM x2.2.1).bind λx3=>some x3 else some false)
def zL(b:BB):Option (Bs8×Int) :=
 (zJ b).bind λx1=>(zf b x1 14).bind λ_=>(idx b.l (w64 ((w64 (b.i+1))-1))).bind λx3=>some (x3.Text,(w64 (b.i+1)))
def Ks(b:BB):Option (Bs8×Int×(List Mb8)) :=
 (zJ b).bind λx1=>(zf b x1 14).bind λ_=>(zo b).bind λx3=>(HZ b.n0).bind λx4=>(zf { b with n0:=[x4] } (!((xe x3.2.1 x4).getD false)) 5).bind λ_=>(zo { b with n0:=[x4] }).bind λx6=>(HZ [x4]).bind λx7=>(zL { b with n0:=[oc x6.2.1 true x7] }).bind λx8=>some (x8.1,x8.2,[oc x6.2.1 true x7])
def zcy(b:BB):Option (Bs8×Int×(List Mb8)) :=
 ((bif (List.isEmpty b.n0)then some ([([]:List (Bs8×Bool))]:List Mb8)else some b.n0)).bind λx1=>(Ks { b with n0:=x1 }).bind λx2=>some (x2.1,x2.2.1,x2.2.2)
def vy(b:BB)(s:Bs8):Option (Bool) :=
 (zo b).bind λx1=>(bif (!(decide (x1.1=3)))then(zo b).bind λx2=>some (decide (x2.2.1=s))else some false)
def zC(b:BB)(s:Bs8):Option (Bool×Int) :=
 (vy b s).bind λx1=>(bif (!x1)then some (false,b.i)else some (true,(w64 (b.i+1))))
def zA(b:BB)(s:Bs8):Option (Int) :=
 (zC b s).bind λx1=>(zf { b with i:=x1.2 } x1.1 14).bind λ_=>some x1.2
def yh(b:BB):Option (Bool) :=
 (zo b).bind λx1=>some (decide (x1.1=1))
def zk(b:BB)(from_:Int)(to_:Int):Option (Int×Int) :=
 (yh b).bind λx1=>(zf b x1 14).bind λ_=>(zo b).bind λx3=>((bif (decide (x3.2.2.1>=from_))then(zf b (decide (x3.2.2.1<=to_)) 3).bind λ_=>some ()else(zf b false 3).bind λ_=>some ())).bind λ_=>some (x3.2.2.1,(w64 (b.i+1)))
def kG(b:BB)(c1:Int)(c17:Int)(c18:Int)(c19:List zd)(c20:Int)(c21:Int)(c22:Bs8)(c23:List Expr)(c24:Int)(c25:Int)(c26:Bs8)(c27:Bs8)(c28:List Expr):Nat->(Int×Bs8×Int×Int)->Option (Bs8×Int×Int)
 |0,_=>none
 |K+1,q=>(bif (decide (q.1<c20))then((idx c19 q.1).bind λx2=>(vy { b with i:=c1 } x2.text).bind λx3=>(bif x3 then some (x2.text,x2.op,x2.form)else some (q.2.1,q.2.2.1,q.2.2.2))).bind λx1=>kG b c1 c17 c18 c19 c20 c21 c22 c23 c24 c25 c26 c27 c28 K ((w64 (q.1+1)),x1.1,x1.2.1,x1.2.2)else some (q.2.1,q.2.2.1,q.2.2.2))
def kH(r_q_expr_2:BB->Int->Option (Int×Int×Int×Bs8×Bs8×(List Expr)))(b:BB)(c16:Int)(c17:Int)(c18:Bs8)(c19:List Expr):Nat->(Int×Int×Int×Int×Bs8×Bs8×(List Expr))->Option ((Int×Int×Int×Bs8×Bs8×(List Expr))⊕(Unit))
 |0,_=>none
 |K+1,q=>(wT).bind λx1=>(kG { b with i:=0 } q.1 c16 q.2.1 x1 (x1.length:Int) c17 c18 c19 q.2.2.1 q.2.2.2.1 q.2.2.2.2.1 q.2.2.2.2.2.1 q.2.2.2.2.2.2 KK (0,([]:Bs8),0,0)).bind λx2=>((bif (decide (x2.1=([]:Bs8)))then some true else(bif (decide (x2.2.2<c16))then some true else(bif (decide (q.2.1<x2.2.2))then some true else(bif (decide (q.2.1=4))then some (decide (x2.2.2=4))else some false))))).bind λx3=>(bif x3 then some (Sum.inl (q.1,q.2.2.1,q.2.2.2.1,q.2.2.2.2.1,q.2.2.2.2.2.1,q.2.2.2.2.2.2))else(r_q_expr_2 { b with i:=(w64 (q.1+1)) } (w64 (x2.2.2+1))).bind λx4=>kH r_q_expr_2 b c16 c17 c18 c19 K (x4.1,x2.2.2,x2.2.1,0,([]:Bs8),([]:Bs8),([(Expr.mk q.2.2.1 q.2.2.2.1 q.2.2.2.2.1 q.2.2.2.2.2.1 q.2.2.2.2.2.2),(Expr.mk x4.2.1 x4.2.2.1 x4.2.2.2.1 x4.2.2.2.2.1 x4.2.2.2.2.2)]:List Expr)))
mutual
def ud:Nat->BB->Int->Option (Int×Int×Int×Int×Bs8×Bs8×(List Expr))
 |0,_,_=>none
 |RK+1,b,form=>((bif (decide (form<=0))then(zC b V9).bind λx2=>some (x2.2,x2.1)else some (b.i,false))).bind λx1=>(bif x1.2 then(z8 RK { b with i:=x1.1 } 0).bind λx3=>(zA { b with i:=x3.1 } uE).bind λx4=>(z8 RK { b with i:=x4 } 0).bind λx5=>(zA { b with i:=x5.1 } yY).bind λx6=>(z8 RK { b with i:=x6 } 0).bind λx7=>some (0,x7.1,16,0,([]:Bs8),([]:Bs8),([(Expr.mk x3.2.1 x3.2.2.1 x3.2.2.2.1 x3.2.2.2.2.1 x3.2.2.2.2.2),(Expr.mk x5.2.1 x5.2.2.1 x5.2.2.2.1 x5.2.2.2.2.1 x5.2.2.2.2.2),(Expr.mk x7.2.1 x7.2.2.1 x7.2.2.2.1 x7.2.2.2.2.1 x7.2.2.2.2.2)]:List Expr))else((bif (decide (form<=3))then(zC { b with i:=x1.1 } qZ).bind λx9=>some (x9.2,x9.1)else some (x1.1,false))).bind λx8=>(bif x8.2 then(z8 RK { b with i:=x8.1 } 3).bind λx10=>some (3,x10.1,15,0,([]:Bs8),([]:Bs8),([(Expr.mk x10.2.1 x10.2.2.1 x10.2.2.2.1 x10.2.2.2.2.1 x10.2.2.2.2.2)]:List Expr))else((bif (decide (form<=7))then(zC { b with i:=x8.1 } yS).bind λx12=>some (x12.2,x12.1)else some (x8.1,false))).bind λx11=>(bif x11.2 then(z8 RK { b with i:=x11.1 } 7).bind λx13=>some (7,x13.1,9,0,([]:Bs8),([]:Bs8),([(Expr.mk x13.2.1 x13.2.2.1 x13.2.2.2.1 x13.2.2.2.2.1 x13.2.2.2.2.2)]:List Expr))else(yh { b with i:=x11.1 }).bind λx14=>(bif x14 then(zk { b with i:=x11.1 } 0 1099511627776).bind λx15=>some (8,x15.2,0,x15.1,([]:Bs8),([]:Bs8),[])else(zC { b with i:=x11.1 } yz).bind λx16=>(bif x16.1 then(zL { b with i:=x16.2 }).bind λx17=>(zL { b with i:=x17.2 }).bind λx18=>some (8,x18.2,2,0,x17.1,x18.1,[])else(zC { b with i:=x16.2 } xh).bind λx19=>(bif x19.1 then(zL { b with i:=x19.2 }).bind λx20=>some (8,x20.2,3,0,x20.1,([]:Bs8),[])else(zC { b with i:=x19.2 } Ay).bind λx21=>(bif x21.1 then(z8 RK { b with i:=x21.2 } 0).bind λx22=>(zA { b with i:=x22.1 } qj).bind λx23=>some (8,x23,x22.2.1,x22.2.2.1,x22.2.2.2.1,x22.2.2.2.2.1,x22.2.2.2.2.2)else(zL { b with i:=x21.2 }).bind λx24=>some (8,x24.2,1,0,x24.1,([]:Bs8),[]))))))))
def z8:Nat->BB->Int->Option (Int×Int×Int×Bs8×Bs8×(List Expr))
 |0,_,_=>none
 |RK+1,b,form=>(ud RK b form).bind λx1=>(kH (z8 RK) { b with i:=0 } form 0 ([]:Bs8) [] KK (x1.2.1,x1.1,x1.2.2.1,x1.2.2.2.1,x1.2.2.2.2.1,x1.2.2.2.2.2.1,x1.2.2.2.2.2.2)).bind (xM some λ_=>none)
end
def jS(b:BB)(is:Bool)(err:Int):Option (Int) :=
 (vy b yg).bind λx1=>(zf b x1 14).bind λ_=>(zf b is err).bind λ_=>some (w64 (b.i+1))
def Ht(b:BB):Option (Int×(List Def)×(List Mb8)) :=
 (zcy b).bind λx1=>(zA { b with i:=x1.2.1,n0:=x1.2.2 } Az).bind λx2=>(z8 KK { b with i:=x2,n0:=x1.2.2 } 0).bind λx3=>(vX KK (Expr.mk x3.2.1 x3.2.2.1 x3.2.2.2.1 x3.2.2.2.2.1 x3.2.2.2.2.2)).bind λx4=>(jS { b with i:=x3.1,n0:=x1.2.2 } (decide (x4<=12)) 6).bind λx5=>(grd (List.length (b.D++([(Def.mk x1.1 (Expr.mk x3.2.1 x3.2.2.1 x3.2.2.2.1 x3.2.2.2.2.1 x3.2.2.2.2.2))]:List Def))*88<=140737488355328)).bind λ_=>some (x5,(b.D++([(Def.mk x1.1 (Expr.mk x3.2.1 x3.2.2.1 x3.2.2.2.1 x3.2.2.2.2.1 x3.2.2.2.2.2))]:List Def)),x1.2.2)
def oY(b:BB):Option (Bs8×Int×(List Mb8)) :=
 (zJ b).bind λx1=>(zf b x1 14).bind λ_=>(zo b).bind λx3=>(HZ b.n1).bind λx4=>(zf { b with n1:=[x4] } (!((xe x3.2.1 x4).getD false)) 5).bind λ_=>(zo { b with n1:=[x4] }).bind λx6=>(HZ [x4]).bind λx7=>(zL { b with n1:=[oc x6.2.1 true x7] }).bind λx8=>some (x8.1,x8.2,[oc x6.2.1 true x7])
def Kt(b:BB):Option (Bs8×Int×(List Mb8)) :=
 ((bif (List.isEmpty b.n1)then some ([([]:List (Bs8×Bool))]:List Mb8)else some b.n1)).bind λx1=>(oY { b with n1:=x1 }).bind λx2=>some (x2.1,x2.2.1,x2.2.2)
def yc(b:BB)(known:Mb8):Option (Bs8×Int×Mb8) :=
 (zJ b).bind λx1=>(zf b x1 14).bind λ_=>(zo b).bind λx3=>(zf b (!((xe x3.2.1 known).getD false)) 5).bind λ_=>(zo b).bind λx5=>(zL b).bind λx6=>some (x6.1,x6.2,(oc x5.2.1 true known))
def wC(b:BB)(most:Int):Option (Int×Int) :=
 (zC b yS).bind λx1=>(bif x1.1 then(zk { b with i:=x1.2 } 0 most).bind λx2=>some ((w64 (0-x2.1)),x2.2)else(zk { b with i:=x1.2 } 0 most).bind λx3=>some (x3.1,x3.2))
def ue(b:BB)(c15:(List Mb8))(c16:Bs8)(c17:Int):Nat->(Int×Mb8×(List Entry))->Option (Int×(List Entry))
 |0,_=>none
 |K+1,q=>(zJ { b with i:=q.1,n1:=c15 }).bind λx1=>(bif x1 then(zf { b with i:=q.1,n1:=c15 } (decide ((((List.length q.2.2):Nat):Int)<60)) 6).bind λ_=>(yc { b with i:=q.1,n1:=c15 } q.2.1).bind λx3=>(wC { b with i:=x3.2.1,n1:=c15 } 1099511627776).bind λx4=>(grd (List.length (q.2.2++([(Entry.mk x3.1 x4.1)]:List Entry))*24<=140737488355328)).bind λ_=>ue b c15 c16 c17 K (x4.2,x3.2.2,(q.2.2++([(Entry.mk x3.1 x4.1)]:List Entry)))else some (q.1,q.2.2))
def Ku(b:BB):Option (Int×(List Table)×(List Mb8)) :=
 (Kt b).bind λx1=>(ue { b with i:=0,n1:=[] } x1.2.2 x1.1 0 KK (x1.2.1,([]:List (Bs8×Bool)),([]:List Entry))).bind λx2=>(zA { b with i:=x2.1,n1:=x1.2.2 } yY).bind λx3=>(wC { b with i:=x3,n1:=x1.2.2 } 1099511627776).bind λx4=>(zA { b with i:=x4.2,n1:=x1.2.2 } yg).bind λx5=>(grd (List.length (b.T++([(Table.mk x1.1 x2.2 x4.1)]:List Table))*48<=140737488355328)).bind λ_=>some (x5,(b.T++([(Table.mk x1.1 x2.2 x4.1)]:List Table)),x1.2.2)
def oZ(b:BB):Option (Bs8×Int×(List Mb8)) :=
 (zJ b).bind λx1=>(zf b x1 14).bind λ_=>(zo b).bind λx3=>(HZ b.n2).bind λx4=>(zf { b with n2:=[x4] } (!((xe x3.2.1 x4).getD false)) 5).bind λ_=>(zo { b with n2:=[x4] }).bind λx6=>(HZ [x4]).bind λx7=>(zL { b with n2:=[oc x6.2.1 true x7] }).bind λx8=>some (x8.1,x8.2,[oc x6.2.1 true x7])
def o5(b:BB):Option (Bs8×Int×(List Mb8)) :=
 ((bif (List.isEmpty b.n2)then some ([([]:List (Bs8×Bool))]:List Mb8)else some b.n2)).bind λx1=>(oZ { b with n2:=x1 }).bind λx2=>some (x2.1,x2.2.1,x2.2.2)
def kI(b:BB):Nat->(Int×(List zV))->Option (((List zV)×Int)⊕(Unit))
 |0,_=>none
 |K+1,q=>(zk { b with i:=q.1 } 0 1048576).bind λx1=>(zk { b with i:=x1.2 } 0 1048576).bind λx2=>(grd (List.length (q.2++([(zV.mk x1.1 x2.1)]:List zV))*16<=140737488355328)).bind λ_=>(yh { b with i:=x2.2 }).bind λx4=>(bif (!x4)then some (Sum.inl ((q.2++([(zV.mk x1.1 x2.1)]:List zV)),x2.2))else kI b K (x2.2,(q.2++([(zV.mk x1.1 x2.1)]:List zV))))
def wD(b:BB):Option ((List zV)×Int) :=
 (kI { b with i:=0 } KK (b.i,[])).bind (xM some λ_=>none)
def wU(c0:List zV)(c1:Int):Nat->(Int×(List zI))->Option ((List zI))
 |0,_=>none
 |K+1,q=>(bif (decide (q.1<c1))then(idx c0 q.1).bind λx1=>(grd ((c0.length:Int)≠0)).bind λ_=>(idx c0 (Int.tmod (w64 (q.1+1)) (c0.length:Int))).bind λx3=>(grd (0<=q.1/\q.1<(((List.length q.2):Nat):Int))).bind λ_=>((q.2)[(Int.toNat q.1)]?).bind λ_=>wU c0 c1 K ((w64 (q.1+1)),(List.set q.2 (Int.toNat q.1) (zI.mk x1 x3)))else some q.2)
def Ql(p:List zV):Option ((List zI)) :=
 (grd (0<=(p.length:Int)/\(p.length:Int)*((32:Nat):Int)<=281474976710656/\(p.length:Int)<=9223372036854775807)).bind λ_=>(wU p (p.length:Int) KK (0,(List.replicate (Int.toNat (p.length:Int)) (zI.mk (zV.mk 0 0) (zV.mk 0 0))))).bind λx2=>some x2
def YH(p:zV):Option (Bool) :=
 (bif (decide (0<=p.X))then(bif (decide (p.X<=1048576))then(bif (decide (0<=p.Y))then some (decide (p.Y<=1048576))else some false)else some false)else some false)
def xy(s:zI):Option (Bool) :=
 some (decide (s.a.X=s.b.X))
def Jq(x_:Int):Option (Bool) :=
 some (!(decide (x_=x_)))
def kJ(x_:Int)(y:Int):Option (Int) :=
 (Jq x_).bind λx1=>(Jq y).bind λx2=>(bif x1 then(bif x2 then some 0 else some (-1))else(bif x2 then some 1 else(bif (decide (x_<y))then some (-1)else(bif (decide (x_>y))then some 1 else some 0))))
def qn(c0:Int)(c1:List Int)(c2:Int):Nat->(Int)->Option ((Int)⊕(Unit))
 |0,_=>none
 |K+1,q=>(bif (decide (q<c2))then(idx c1 q).bind λx1=>(bif (!(decide (x1=c0)))then some (Sum.inl x1)else qn c0 c1 c2 K (w64 (q+1)))else some (Sum.inr ()))
def zaz(vals:List Int):Option (Int) :=
 (qn 0 vals (vals.length:Int) KK 0).bind (xM some λ_=>some 0)
def Jr(a:zV)(b:zV):Option (Int) :=
 (kJ a.X b.X).bind λx1=>(kJ a.Y b.Y).bind λx2=>(zaz ([x1,x2]:List Int)).bind λx3=>some x3
def J3(s:zI)(t:zI):Option (Bool) :=
 (bif (decide ((max (min s.a.X s.b.X) (min t.a.X t.b.X))<=(min (max s.a.X s.b.X) (max t.a.X t.b.X))))then some (decide ((max (min s.a.Y s.b.Y) (min t.a.Y t.b.Y))<=(min (max s.a.Y s.b.Y) (max t.a.Y t.b.Y))))else some false)
def kg(c0:List zV)(c1:List zI)(c2:Int):Nat->(Int)->Option ((Bool)⊕(Unit))
 |0,_=>none
 |K+1,q=>(bif (decide (q<c2))then(idx c1 q).bind λx1=>(grd ((c1.length:Int)≠0)).bind λ_=>(idx c1 (Int.tmod (w64 (q+1)) (c1.length:Int))).bind λx3=>((YH x1.a).bind λx5=>(bif (!x5)then some true else(bif ((decide (x1.a.X=x1.b.X))==(decide (x1.a.Y=x1.b.Y)))then some true else(xy x1).bind λx6=>(xy x3).bind λx7=>some (x6==x7)))).bind λx4=>(bif x4 then some (Sum.inl false)else((bif (decide (q>0))then(idx c0 0).bind λx9=>(idx c0 q).bind λx10=>(Jr x9 x10).bind λx11=>some (decide (x11>=0))else some false)).bind λx8=>(bif x8 then some (Sum.inl false)else kg c0 c1 c2 K (w64 (q+1))))else some (Sum.inr ()))
def kh(c0:List zI)(c1:Int)(c2:Int):Nat->(Int)->Option ((Bool)⊕(Unit))
 |0,_=>none
 |K+1,q=>(bif (decide (q<(c0.length:Int)))then((bif (decide ((w64 ((w64 (c1+(c0.length:Int)))-q))>1))then(idx c0 c1).bind λx2=>(idx c0 q).bind λx3=>(J3 x2 x3).bind λx4=>some x4 else some false)).bind λx1=>(bif x1 then some (Sum.inl false)else kh c0 c1 c2 K (w64 (q+1)))else some (Sum.inr ()))
def kj(c0:List zI)(c1:Int):Nat->(Int)->Option ((Bool)⊕(Unit))
 |0,_=>none
 |K+1,q=>(bif (decide (q<c1))then(kh c0 q c1 KK (w64 (q+2))).bind (xM (λq=>some (Sum.inl q)) λ_=>kj c0 c1 K (w64 (q+1)))else some (Sum.inr ()))
def zcz(p:List zV):Option (Bool) :=
 ((bif (decide ((p.length:Int)<4))then some true else some (decide ((p.length:Int)>60)))).bind λx1=>(bif x1 then some false else(Ql p).bind λx2=>(kg p x2 (x2.length:Int) KK 0).bind (xM some λ_=>(kj x2 (x2.length:Int) KK 0).bind (xM some λ_=>(idx x2 0).bind λx5=>(xy x5).bind λx6=>some (!x6))))
def wV(l:List zV):Option (Bool) :=
 (zcz l).bind λx1=>some x1
def o6(b:BB):Option (Bs8×Int×(List Mb8)) :=
 (zJ b).bind λx1=>(zf b x1 14).bind λ_=>(zo b).bind λx3=>(HZ b.n3).bind λx4=>(zf { b with n3:=[x4] } (!((xe x3.2.1 x4).getD false)) 5).bind λ_=>(zo { b with n3:=[x4] }).bind λx6=>(HZ [x4]).bind λx7=>(zL { b with n3:=[oc x6.2.1 true x7] }).bind λx8=>some (x8.1,x8.2,[oc x6.2.1 true x7])
def Kv(b:BB):Option (Bs8×Int×(List Mb8)) :=
 ((bif (List.isEmpty b.n3)then some ([([]:List (Bs8×Bool))]:List Mb8)else some b.n3)).bind λx1=>(o6 { b with n3:=x1 }).bind λx2=>some (x2.1,x2.2.1,x2.2.2)
def o7(b:BB):Nat->(Int×(List Bs8))->Option (Int×(List Bs8))
 |0,_=>none
 |K+1,q=>(zJ { b with i:=q.1 }).bind λx1=>(bif x1 then(zL { b with i:=q.1 }).bind λx2=>(grd (List.length (q.2++([x2.1]:List Bs8))*16<=140737488355328)).bind λ_=>o7 b K (x2.2,(q.2++([x2.1]:List Bs8)))else some (q.1,q.2))
def uP(b:BB):Option ((List Bs8)×Int) :=
 (zL b).bind λx1=>(o7 { b with i:=0 } KK (x1.2,([x1.1]:List Bs8))).bind λx2=>some (x2.2,x2.1)
def vz(a0:Bs8):Option ((List Bs8)):=Jf a0
def xK(c0:List Bs8)(c1:Bs8)(c2:Int):Nat->(Int)->Option ((Int)⊕(Unit))
 |0,_=>none
 |K+1,q=>(bif (decide (q<c2))then(idx c0 q).bind λx1=>(bif (decide (c1=x1))then some (Sum.inl q)else xK c0 c1 c2 K (w64 (q+1)))else some (Sum.inr ()))
def Hb(s:List Bs8)(v:Bs8):Option (Int) :=
 (xK s v (s.length:Int) KK 0).bind (xM some λ_=>some (-1))
def Va(list:Bs8)(s:Bs8):Option (Int) :=
 (vz list).bind λx1=>(Hb x1 s).bind λx2=>some x2
def xo(b:BB)(list:Bs8):Option (Int×Int) :=
 (zo b).bind λx1=>(Va list x1.2.1).bind λx2=>((zo b).bind λx4=>(bif (decide (x4.1=0))then(zf b (decide (x2>=0)) 14).bind λ_=>some ()else(zf b false 14).bind λ_=>some ())).bind λ_=>some (x2,(w64 (b.i+1)))
def Hu(b:BB):Nat->(Int×Int)->Option ((Int×Int)⊕(Unit))
 |0,_=>none
 | K+1,q=>(zo { b with i:=q.1 }).bind λx1=>(Va zj x1.2.1).bind λx2=>((bif (decide (q.2>0))then(bif (decide (x2<0))then some true else(zo { b with i:=q.1 }).bind λx4=>some (!(decide (x4.1=0))))else some false)).bind λx3=>(bif x3 then some (Sum.inl (q.2,q.1))else((bif (decide (x2<0))then(zf { b with i:=q.1 } true 5).bind λ_=>some ()else(grd (0<=x2)).bind λ_=>(zf { b with i:=q.1 } (decide ((IntKind.i64.wrap ((BitVec.ofInt IntKind.i64.bits (Int.fdiv q.2 (2 ^ (min (Int.toNat x2) IntKind.i64.bits))) &&& BitVec.ofInt IntKind.i64.bits 1).toNat:Int))=0)) 5).bind λ_=>some ())).bind λ_=>(xo { b with i:=q.1 } zj).bind λx9=>(grd (0<=x9.1)).bind λ_=>Hu b K (x9.2,(IntKind.i64.wrap ((BitVec.ofInt IntKind.i64.bits q.2 ||| BitVec.ofInt IntKind.i64.bits (w64 (1*2 ^ (min (Int.toNat x9.1) IntKind.i64.bits)))).toNat:Int))))
def zc0(b:BB):Option (Int×Int) :=
 (Hu { b with i:=0 } KK (b.i,0)).bind (xM some λ_=>none)
def Js(b:BB):Option (Int×(List zO)×(List Mb8)) :=
 (Kv b).bind λx1=>((zC { b with i:=x1.2.1,n3:=x1.2.2 } ze1).bind λx3=>(bif x3.1 then(uP { b with i:=x3.2,n3:=x1.2.2 }).bind λx4=>some (x4.2,x4.1)else some (x3.2,[]))).bind λx2=>((zC { b with i:=x2.1,n3:=x1.2.2 } yU).bind λx6=>(bif x6.1 then(uP { b with i:=x6.2,n3:=x1.2.2 }).bind λx7=>some (x7.2,x7.1)else some (x6.2,[]))).bind λx5=>((zC { b with i:=x5.1,n3:=x1.2.2 } vw).bind λx9=>(bif x9.1 then(zk { b with i:=x9.2,n3:=x1.2.2 } 0 1073741824).bind λx10=>some (x10.2,x10.1)else some (x9.2,0))).bind λx8=>((zC { b with i:=x8.1,n3:=x1.2.2 } xC).bind λx12=>(bif x12.1 then(zk { b with i:=x12.2,n3:=x1.2.2 } (w64 (x8.2+1)) 1073741824).bind λx13=>some (x13.2,x13.1)else some (x12.2,0))).bind λx11=>((zC { b with i:=x11.1,n3:=x1.2.2 } xO).bind λx15=>(bif x15.1 then(zk { b with i:=x15.2,n3:=x1.2.2 } 0 1073741824).bind λx16=>some (x16.2,x16.1)else some (x15.2,0))).bind λx14=>(zC { b with i:=x14.1,n3:=x1.2.2 } wm).bind λx17=>(zA { b with i:=x17.2,n3:=x1.2.2 } xI).bind λx18=>((zC { b with i:=x18,n3:=x1.2.2 } qi).bind λx20=>(bif x20.1 then(zk { b with i:=x20.2,n3:=x1.2.2 } 0 3).bind λx21=>(zA { b with i:=x21.2,n3:=x1.2.2 } AI).bind λx22=>(zk { b with i:=x22,n3:=x1.2.2 } 0 4096).bind λx23=>(zA { b with i:=x23.2,n3:=x1.2.2 } jx).bind λx24=>(zk { b with i:=x24,n3:=x1.2.2 } 0 4096).bind λx25=>(zk { b with i:=x25.2,n3:=x1.2.2 } 1 4096).bind λx26=>(zA { b with i:=x26.2,n3:=x1.2.2 } yg).bind λx27=>some (x27,1,0,0,([]:Bs8),([]:Bs8),[],x21.1,x23.1,x25.1,x26.1,0,0,0)else(zC { b with i:=x20.2,n3:=x1.2.2 } oW).bind λx28=>(bif x28.1 then(zc0 { b with i:=x28.2,n3:=x1.2.2 }).bind λx29=>(zA { b with i:=x29.2,n3:=x1.2.2 } yg).bind λx30=>some (x30,2,0,0,([]:Bs8),([]:Bs8),[],0,0,0,0,x29.1,0,0)else(zC { b with i:=x28.2,n3:=x1.2.2 } qh).bind λx31=>(bif x31.1 then(xo { b with i:=x31.2,n3:=x1.2.2 } zj).bind λx32=>(xo { b with i:=x32.2,n3:=x1.2.2 } zj).bind λx33=>(zk { b with i:=x33.2,n3:=x1.2.2 } 0 1048576).bind λx34=>(zA { b with i:=x34.2,n3:=x1.2.2 } yg).bind λx35=>some (x35,3,0,0,([]:Bs8),([]:Bs8),[],0,0,0,0,x32.1,x33.1,x34.1)else(z8 KK { b with i:=x31.2,n3:=x1.2.2 } 0).bind λx36=>(vX KK (Expr.mk x36.2.1 x36.2.2.1 x36.2.2.2.1 x36.2.2.2.2.1 x36.2.2.2.2.2)).bind λx37=>(jS { b with i:=x36.1,n3:=x1.2.2 } (decide (x37<=12)) 6).bind λx38=>some (x38,0,x36.2.1,x36.2.2.1,x36.2.2.2.1,x36.2.2.2.2.1,x36.2.2.2.2.2,0,0,0,0,0,0,0))))).bind λx19=>(grd (List.length (b.R++([(zO.mk x1.1 x2.2 x5.2 x8.2 x11.2 x14.2 x17.1 x19.2.1 (Expr.mk x19.2.2.1 x19.2.2.2.1 x19.2.2.2.2.1 x19.2.2.2.2.2.1 x19.2.2.2.2.2.2.1) (zy.mk x19.2.2.2.2.2.2.2.1 x19.2.2.2.2.2.2.2.2.1 x19.2.2.2.2.2.2.2.2.2.1 x19.2.2.2.2.2.2.2.2.2.2.1) x19.2.2.2.2.2.2.2.2.2.2.2.1 x19.2.2.2.2.2.2.2.2.2.2.2.2.1 x19.2.2.2.2.2.2.2.2.2.2.2.2.2)]:List zO))*232<=140737488355328)).bind λ_=>some (x19.1,(b.R++([(zO.mk x1.1 x2.2 x5.2 x8.2 x11.2 x14.2 x17.1 x19.2.1 (Expr.mk x19.2.2.1 x19.2.2.2.1 x19.2.2.2.2.1 x19.2.2.2.2.2.1 x19.2.2.2.2.2.2.1) (zy.mk x19.2.2.2.2.2.2.2.1 x19.2.2.2.2.2.2.2.2.1 x19.2.2.2.2.2.2.2.2.2.1 x19.2.2.2.2.2.2.2.2.2.2.1) x19.2.2.2.2.2.2.2.2.2.2.2.1 x19.2.2.2.2.2.2.2.2.2.2.2.2.1 x19.2.2.2.2.2.2.2.2.2.2.2.2.2)]:List zO)),x1.2.2)
def o8(b:BB):Option (Bs8×Int×(List Mb8)) :=
 (zJ b).bind λx1=>(zf b x1 14).bind λ_=>(zo b).bind λx3=>(HZ b.n4).bind λx4=>(zf { b with n4:=[x4] } (!((xe x3.2.1 x4).getD false)) 5).bind λ_=>(zo { b with n4:=[x4] }).bind λx6=>(HZ [x4]).bind λx7=>(zL { b with n4:=[oc x6.2.1 true x7] }).bind λx8=>some (x8.1,x8.2,[oc x6.2.1 true x7])
def Aa(b:BB):Option (Bs8×Int×(List Mb8)) :=
 ((bif (List.isEmpty b.n4)then some ([([]:List (Bs8×Bool))]:List Mb8)else some b.n4)).bind λx1=>(o8 { b with n4:=x1 }).bind λx2=>some (x2.1,x2.2.1,x2.2.2)
def Ab(b:BB):Option (Bs8×Int×(List Mb8)) :=
 (zJ b).bind λx1=>(zf b x1 14).bind λ_=>(zo b).bind λx3=>(HZ b.n5).bind λx4=>(zf { b with n5:=[x4] } (!((xe x3.2.1 x4).getD false)) 5).bind λ_=>(zo { b with n5:=[x4] }).bind λx6=>(HZ [x4]).bind λx7=>(zL { b with n5:=[oc x6.2.1 true x7] }).bind λx8=>some (x8.1,x8.2,[oc x6.2.1 true x7])
def Kw(b:BB):Option (Bs8×Int×(List Mb8)) :=
 ((bif (List.isEmpty b.n5)then some ([([]:List (Bs8×Bool))]:List Mb8)else some b.n5)).bind λx1=>(Ab { b with n5:=x1 }).bind λx2=>some (x2.1,x2.2.1,x2.2.2)
def kK(b:BB):Option (Int×Int×Int×Int) :=
 (zk b 0 1048576).bind λx1=>(zk { b with i:=x1.2 } 0 1048576).bind λx2=>(zk { b with i:=x2.2 } 0 4096).bind λx3=>some (x3.2,x1.1,x2.1,x3.1)
def Ac(b:BB)(c15:(List Mb8))(c16:Bs8)(c17:Int)(c18:Int)(c19:Int)(c20:Int):Nat->(Int×(List zg))->Option (Int×(List zg))
 |0,_=>none
 |K+1,q=>(yh { b with i:=q.1,n5:=c15 }).bind λx1=>(bif x1 then(zf { b with i:=q.1,n5:=c15 } (decide ((((List.length q.2):Nat):Int)<20)) 6).bind λ_=>(kK { b with i:=q.1,n5:=c15 }).bind λx3=>(grd (List.length (q.2++([(zg.mk x3.2.1 x3.2.2.1 x3.2.2.2)]:List zg))*24<=140737488355328)).bind λ_=>Ac b c15 c16 c17 c18 c19 c20 K (x3.1,(q.2++([(zg.mk x3.2.1 x3.2.2.1 x3.2.2.2)]:List zg)))else some (q.1,q.2))
def Jt(b:BB):Option (Int×(List View)×(List Mb8)) :=
 (Kw b).bind λx1=>(kK { b with i:=x1.2.1,n5:=x1.2.2 }).bind λx2=>(zA { b with i:=x2.1,n5:=x1.2.2 } vG).bind λx3=>(zk { b with i:=x3,n5:=x1.2.2 } 0 20).bind λx4=>(zA { b with i:=x4.2,n5:=x1.2.2 } xI).bind λx5=>(kK { b with i:=x5,n5:=x1.2.2 }).bind λx6=>(grd (List.length (([]:List zg)++([(zg.mk x6.2.1 x6.2.2.1 x6.2.2.2)]:List zg))*24<=140737488355328)).bind λ_=>(Ac { b with i:=0,n5:=[] } x1.2.2 x1.1 x2.2.1 x2.2.2.1 x2.2.2.2 x4.1 KK (x6.1,(([]:List zg)++([(zg.mk x6.2.1 x6.2.2.1 x6.2.2.2)]:List zg)))).bind λx8=>(zA { b with i:=x8.1,n5:=x1.2.2 } yg).bind λx9=>(grd (List.length (b.V++([(View.mk x1.1 (zg.mk x2.2.1 x2.2.2.1 x2.2.2.2) x4.1 x8.2)]:List View))*72<=140737488355328)).bind λ_=>some (x9,(b.V++([(View.mk x1.1 (zg.mk x2.2.1 x2.2.2.1 x2.2.2.2) x4.1 x8.2)]:List View)),x1.2.2)
def oy(b:BB):Nat->(Int×(List zg)×Bool)->Option (Int×(List zg))
 |0,_=>none
 |K+1,q=>(bif q.2.2 then((vy { b with i:=q.1,S:=q.2.1 } yS).bind λx2=>(bif x2 then(zf { b with i:=q.1,S:=q.2.1 } true 14).bind λ_=>some ()else(yh { b with i:=q.1,S:=q.2.1 }).bind λx4=>(zf { b with i:=q.1,S:=q.2.1 } x4 14).bind λ_=>some ())).bind λ_=>(zf { b with i:=q.1,S:=q.2.1 } (decide ((((List.length q.2.1):Nat):Int)<24)) 6).bind λ_=>(wC { b with i:=q.1,S:=q.2.1 } 4096).bind λx7=>(wC { b with i:=x7.2,S:=q.2.1 } 4096).bind λx8=>(zk { b with i:=x8.2,S:=q.2.1 } 1 4096).bind λx9=>(grd (List.length (q.2.1++([(zg.mk x7.1 x8.1 x9.1)]:List zg))*24<=140737488355328)).bind λ_=>(zC { b with i:=x9.2,S:=(q.2.1++([(zg.mk x7.1 x8.1 x9.1)]:List zg)) } qa).bind λx11=>oy b K (x11.2,(q.2.1++([(zg.mk x7.1 x8.1 x9.1)]:List zg)),x11.1)else some (q.1,q.2.1))
def Vb(b:BB):Option (Int×(List zg)) :=
 (oy { b with i:=0,S:=[] } KK (b.i,b.S,true)).bind λx1=>(zA { b with i:=x1.1,S:=x1.2 } yg).bind λx2=>some (x2,x1.2)
def zb(b:BB)(q:Int×Int×Bool×(List Def)×(List Table)×(List yp)×(List zO)×(List Cap)×(List View)×(List zg)×(List Mb8)×(List Mb8)×(List Mb8)×(List Mb8)×(List Mb8)×(List Mb8)):BB:={ b with i:=q.1,H:=q.2.1,h:=q.2.2.1,D:=q.2.2.2.1,T:=q.2.2.2.2.1,Z:=q.2.2.2.2.2.1,R:=q.2.2.2.2.2.2.1,C:=q.2.2.2.2.2.2.2.1,V:=q.2.2.2.2.2.2.2.2.1,S:=q.2.2.2.2.2.2.2.2.2.1,n0:=q.2.2.2.2.2.2.2.2.2.2.1,n1:=q.2.2.2.2.2.2.2.2.2.2.2.1,n2:=q.2.2.2.2.2.2.2.2.2.2.2.2.1,n3:=q.2.2.2.2.2.2.2.2.2.2.2.2.2.1,n4:=q.2.2.2.2.2.2.2.2.2.2.2.2.2.2.1,n5:=q.2.2.2.2.2.2.2.2.2.2.2.2.2.2.2 }
def yj(b:BB):Nat->(Int×Int×Bool×(List Def)×(List Table)×(List yp)×(List zO)×(List Cap)×(List View)×(List zg)×(List Mb8)×(List Mb8)×(List Mb8)×(List Mb8)×(List Mb8)×(List Mb8))->Option (Int×Int×Bool×(List Def)×(List Table)×(List yp)×(List zO)×(List Cap)×(List View)×(List zg)×(List Mb8)×(List Mb8)×(List Mb8)×(List Mb8)×(List Mb8)×(List Mb8))
 |0,_=>none
 |K+1,q=>(zo { (zb b q)with l:=b.l }).bind λx1=>(bif (!(decide (x1.1=3)))then(zo { (zb b q)with l:=b.l }).bind λx2=>(bif (decide (x2.2.1=wR))then(yN { (zb b q)with l:=b.l } (((List.length ((zb b q).D)):Nat):Int) 60).bind λx3=>(Ht { (zb b q)with l:=b.l,i:=x3 }).bind λx4=>yj b K (x4.1,(zb b q).H,(zb b q).h,x4.2.1,(zb b q).T,(zb b q).Z,(zb b q).R,(zb b q).C,(zb b q).V,(zb b q).S,x4.2.2,(zb b q).n1,(zb b q).n2,(zb b q).n3,(zb b q).n4,(zb b q).n5)else(bif (decide (x2.2.1=yz))then(yN { (zb b q)with l:=b.l } (((List.length ((zb b q).T)):Nat):Int) 60).bind λx5=>(Ku { (zb b q)with l:=b.l,i:=x5 }).bind λx6=>yj b K (x6.1,(zb b q).H,(zb b q).h,(zb b q).D,x6.2.1,(zb b q).Z,(zb b q).R,(zb b q).C,(zb b q).V,(zb b q).S,(zb b q).n0,x6.2.2,(zb b q).n2,(zb b q).n3,(zb b q).n4,(zb b q).n5)else(bif (decide (x2.2.1=xh))then(bif (decide (x2.2.1=xh))then(vy { (zb b q)with l:=b.l } yI).bind λx7=>(yN { (zb b q)with l:=b.l } (((List.length ((zb b q).Z)):Nat):Int) 60).bind λx8=>(o5 { (zb b q)with l:=b.l,i:=x8 }).bind λx9=>(wD { (zb b q)with l:=b.l,i:=x9.2.1,n2:=x9.2.2 }).bind λx10=>(wV x10.1).bind λx11=>(jS { (zb b q)with l:=b.l,i:=x10.2,n2:=x9.2.2 } x11 10).bind λx12=>(grd (List.length ((zb b q).Z++([(yp.mk x9.1 x7 x10.1)]:List yp))*48<=140737488355328)).bind λ_=>yj b K (x12,(zb b q).H,(zb b q).h,(zb b q).D,(zb b q).T,((zb b q).Z++([(yp.mk x9.1 x7 x10.1)]:List yp)),(zb b q).R,(zb b q).C,(zb b q).V,(zb b q).S,(zb b q).n0,(zb b q).n1,x9.2.2,(zb b q).n3,(zb b q).n4,(zb b q).n5)else(bif (decide (x2.2.1=ua))then(yN { (zb b q)with l:=b.l } (((List.length ((zb b q).R)):Nat):Int) 200).bind λx14=>(Js { (zb b q)with l:=b.l,i:=x14 }).bind λx15=>yj b K (x15.1,(zb b q).H,(zb b q).h,(zb b q).D,(zb b q).T,(zb b q).Z,x15.2.1,(zb b q).C,(zb b q).V,(zb b q).S,(zb b q).n0,(zb b q).n1,(zb b q).n2,x15.2.2,(zb b q).n4,(zb b q).n5)else(bif (decide (x2.2.1=V7))then(yN { (zb b q)with l:=b.l } (((List.length ((zb b q).C)):Nat):Int) 30).bind λx16=>(Aa { (zb b q)with l:=b.l,i:=x16 }).bind λx17=>(xo { (zb b q)with l:=b.l,i:=x17.2.1,n4:=x17.2.2 } zX).bind λx18=>(zk { (zb b q)with l:=b.l,i:=x18.2,n4:=x17.2.2 } 0 1099511627776).bind λx19=>(wD { (zb b q)with l:=b.l,i:=x19.2,n4:=x17.2.2 }).bind λx20=>(wV x20.1).bind λx21=>(jS { (zb b q)with l:=b.l,i:=x20.2,n4:=x17.2.2 } x21 10).bind λx22=>(grd (List.length ((zb b q).C++([(Cap.mk x17.1 x18.1 x19.1 x20.1)]:List Cap))*56<=140737488355328)).bind λ_=>yj b K (x22,(zb b q).H,(zb b q).h,(zb b q).D,(zb b q).T,(zb b q).Z,(zb b q).R,((zb b q).C++([(Cap.mk x17.1 x18.1 x19.1 x20.1)]:List Cap)),(zb b q).V,(zb b q).S,(zb b q).n0,(zb b q).n1,(zb b q).n2,(zb b q).n3,x17.2.2,(zb b q).n5)else(bif (decide (x2.2.1=AJ))then(yN { (zb b q)with l:=b.l } (((List.length ((zb b q).V)):Nat):Int) 60).bind λx24=>(Jt { (zb b q)with l:=b.l,i:=x24 }).bind λx25=>yj b K (x25.1,(zb b q).H,(zb b q).h,(zb b q).D,(zb b q).T,(zb b q).Z,(zb b q).R,(zb b q).C,x25.2.1,(zb b q).S,(zb b q).n0,(zb b q).n1,(zb b q).n2,(zb b q).n3,(zb b q).n4,x25.2.2)else(bif (decide (x2.2.1=Jm))then(zf { (zb b q)with l:=b.l } (decide (((List.length ((zb b q).S)):Nat)=0)) 5).bind λ_=>(Vb { (zb b q)with l:=b.l,i:=(w64 ((zb b q).i+1)) }).bind λx27=>yj b K (x27.1,(zb b q).H,(zb b q).h,(zb b q).D,(zb b q).T,(zb b q).Z,(zb b q).R,(zb b q).C,(zb b q).V,x27.2,(zb b q).n0,(zb b q).n1,(zb b q).n2,(zb b q).n3,(zb b q).n4,(zb b q).n5)else(bif (decide (x2.2.1=kE))then(zf { (zb b q)with l:=b.l } (!(zb b q).h) 5).bind λ_=>(zk { (zb b q)with l:=b.l,i:=(w64 ((zb b q).i+1)) } 0 24).bind λx29=>(zA { (zb b q)with l:=b.l,i:=x29.2,H:=x29.1,h:=true } yg).bind λx30=>yj b K (x30,x29.1,true,(zb b q).D,(zb b q).T,(zb b q).Z,(zb b q).R,(zb b q).C,(zb b q).V,(zb b q).S,(zb b q).n0,(zb b q).n1,(zb b q).n2,(zb b q).n3,(zb b q).n4,(zb b q).n5)else none))))))else(bif (decide (x2.2.1=yI))then(vy { (zb b q)with l:=b.l } yI).bind λx31=>(yN { (zb b q)with l:=b.l } (((List.length ((zb b q).Z)):Nat):Int) 60).bind λx32=>(o5 { (zb b q)with l:=b.l,i:=x32 }).bind λx33=>(wD { (zb b q)with l:=b.l,i:=x33.2.1,n2:=x33.2.2 }).bind λx34=>(wV x34.1).bind λx35=>(jS { (zb b q)with l:=b.l,i:=x34.2,n2:=x33.2.2 } x35 10).bind λx36=>(grd (List.length ((zb b q).Z++([(yp.mk x33.1 x31 x34.1)]:List yp))*48<=140737488355328)).bind λ_=>yj b K (x36,(zb b q).H,(zb b q).h,(zb b q).D,(zb b q).T,((zb b q).Z++([(yp.mk x33.1 x31 x34.1)]:List yp)),(zb b q).R,(zb b q).C,(zb b q).V,(zb b q).S,(zb b q).n0,(zb b q).n1,x33.2.2,(zb b q).n3,(zb b q).n4,(zb b q).n5)else(bif (decide (x2.2.1=ua))then(yN { (zb b q)with l:=b.l } (((List.length ((zb b q).R)):Nat):Int) 200).bind λx38=>(Js { (zb b q)with l:=b.l,i:=x38 }).bind λx39=>yj b K (x39.1,(zb b q).H,(zb b q).h,(zb b q).D,(zb b q).T,(zb b q).Z,x39.2.1,(zb b q).C,(zb b q).V,(zb b q).S,(zb b q).n0,(zb b q).n1,(zb b q).n2,x39.2.2,(zb b q).n4,(zb b q).n5)else(bif (decide (x2.2.1=V7))then(yN { (zb b q)with l:=b.l } (((List.length ((zb b q).C)):Nat):Int) 30).bind λx40=>(Aa { (zb b q)with l:=b.l,i:=x40 }).bind λx41=>(xo { (zb b q)with l:=b.l,i:=x41.2.1,n4:=x41.2.2 } zX).bind λx42=>(zk { (zb b q)with l:=b.l,i:=x42.2,n4:=x41.2.2 } 0 1099511627776).bind λx43=>(wD { (zb b q)with l:=b.l,i:=x43.2,n4:=x41.2.2 }).bind λx44=>(wV x44.1).bind λx45=>(jS { (zb b q)with l:=b.l,i:=x44.2,n4:=x41.2.2 } x45 10).bind λx46=>(grd (List.length ((zb b q).C++([(Cap.mk x41.1 x42.1 x43.1 x44.1)]:List Cap))*56<=140737488355328)).bind λ_=>yj b K (x46,(zb b q).H,(zb b q).h,(zb b q).D,(zb b q).T,(zb b q).Z,(zb b q).R,((zb b q).C++([(Cap.mk x41.1 x42.1 x43.1 x44.1)]:List Cap)),(zb b q).V,(zb b q).S,(zb b q).n0,(zb b q).n1,(zb b q).n2,(zb b q).n3,x41.2.2,(zb b q).n5)else(bif (decide (x2.2.1=AJ))then(yN { (zb b q)with l:=b.l } (((List.length ((zb b q).V)):Nat):Int) 60).bind λx48=>(Jt { (zb b q)with l:=b.l,i:=x48 }).bind λx49=>yj b K (x49.1,(zb b q).H,(zb b q).h,(zb b q).D,(zb b q).T,(zb b q).Z,(zb b q).R,(zb b q).C,x49.2.1,(zb b q).S,(zb b q).n0,(zb b q).n1,(zb b q).n2,(zb b q).n3,(zb b q).n4,x49.2.2)else(bif (decide (x2.2.1=Jm))then(zf { (zb b q)with l:=b.l } (decide (((List.length ((zb b q).S)):Nat)=0)) 5).bind λ_=>(Vb { (zb b q)with l:=b.l,i:=(w64 ((zb b q).i+1)) }).bind λx51=>yj b K (x51.1,(zb b q).H,(zb b q).h,(zb b q).D,(zb b q).T,(zb b q).Z,(zb b q).R,(zb b q).C,(zb b q).V,x51.2,(zb b q).n0,(zb b q).n1,(zb b q).n2,(zb b q).n3,(zb b q).n4,(zb b q).n5)else(bif (decide (x2.2.1=kE))then(zf { (zb b q)with l:=b.l } (!(zb b q).h) 5).bind λ_=>(zk { (zb b q)with l:=b.l,i:=(w64 ((zb b q).i+1)) } 0 24).bind λx53=>(zA { (zb b q)with l:=b.l,i:=x53.2,H:=x53.1,h:=true } yg).bind λx54=>yj b K (x54,x53.1,true,(zb b q).D,(zb b q).T,(zb b q).Z,(zb b q).R,(zb b q).C,(zb b q).V,(zb b q).S,(zb b q).n0,(zb b q).n1,(zb b q).n2,(zb b q).n3,(zb b q).n4,(zb b q).n5)else none)))))))))else some ((zb b q).i,(zb b q).H,(zb b q).h,(zb b q).D,(zb b q).T,(zb b q).Z,(zb b q).R,(zb b q).C,(zb b q).V,(zb b q).S,(zb b q).n0,(zb b q).n1,(zb b q).n2,(zb b q).n3,(zb b q).n4,(zb b q).n5))
def zju(b:BB):Option (Int×Int×Bool×(List Def)×(List Table)×(List yp)×(List zO)×(List Cap)×(List View)×(List zg)×(List Mb8)×(List Mb8)×(List Mb8)×(List Mb8)×(List Mb8)×(List Mb8)) :=
 (yj { b with i:=0,D:=[],T:=[],Z:=[],R:=[],C:=[],V:=[],S:=[],H:=0,n0:=[],n1:=[],n2:=[],n3:=[],n4:=[],n5:=[],h:=false } KK (b.i,b.H,b.h,b.D,b.T,b.Z,b.R,b.C,b.V,b.S,b.n0,b.n1,b.n2,b.n3,b.n4,b.n5)).bind λx1=>some (x1.1,x1.2.1,x1.2.2.1,x1.2.2.2.1,x1.2.2.2.2.1,x1.2.2.2.2.2.1,x1.2.2.2.2.2.2.1,x1.2.2.2.2.2.2.2.1,x1.2.2.2.2.2.2.2.2.1,x1.2.2.2.2.2.2.2.2.2.1,x1.2.2.2.2.2.2.2.2.2.2.1,x1.2.2.2.2.2.2.2.2.2.2.2.1,x1.2.2.2.2.2.2.2.2.2.2.2.2.1,x1.2.2.2.2.2.2.2.2.2.2.2.2.2.1,x1.2.2.2.2.2.2.2.2.2.2.2.2.2.2.1,x1.2.2.2.2.2.2.2.2.2.2.2.2.2.2.2)
def Hw(b:BB)(err:Int):Option (Int×Int) :=
 (zo b).bind λx1=>some (x1.2.2.2,err)
def zt(b:BB)(is:Bool)(err:Int):Option (Int×Int) :=
 (bif (!is)then(orC (Hw b err) (λx1=>some x1) none)else none)
def vY(b:BB)(have_:Int)(most:Int):Option (Int×Int) :=
 (orC (zt b (decide (have_<most)) 6) (λx1=>some x1) ((zf b (decide (have_<most)) 6).bind λ_=>none))
def yQ(b:BB):Option (Int×Int) :=
 (zJ b).bind λx1=>(orC (zt b x1 14) (λx2=>some x2) ((zf b x1 14).bind λ_=>(idx b.l (w64 ((w64 (b.i+1))-1))).bind λ_=>none))
def We(b:BB):Option (Int×Int) :=
 (zJ b).bind λx1=>(orC (zt b x1 14) (λx2=>some x2) ((zf b x1 14).bind λ_=>(zo b).bind λx4=>(HZ b.n0).bind λx5=>(orC (zt { b with n0:=[x5] } (!((xe x4.2.1 x5).getD false)) 5) (λx6=>some x6) ((zf { b with n0:=[x5] } (!((xe x4.2.1 x5).getD false)) 5).bind λ_=>(zo { b with n0:=[x5] }).bind λx8=>(HZ [x5]).bind λx9=>(orC (yQ { b with n0:=[oc x8.2.1 true x9] }) (λx10=>some x10) ((zL { b with n0:=[oc x8.2.1 true x9] }).bind λ_=>none))))))
def zjv(b:BB):Option (Int×Int) :=
 ((bif (List.isEmpty b.n0)then some ([([]:List (Bs8×Bool))]:List Mb8)else some b.n0)).bind λx1=>(orC (We { b with n0:=x1 }) (λx2=>some x2) ((Ks { b with n0:=x1 }).bind λ_=>none))
def yi(b:BB)(s:Bs8):Option (Int×Int) :=
 (zC b s).bind λx1=>(orC (zt { b with i:=x1.2 } x1.1 14) (λx2=>some x2) ((zf { b with i:=x1.2 } x1.1 14).bind λ_=>none))
def zB(b:BB)(from_:Int)(to_:Int):Option (Int×Int) :=
 (yh b).bind λx1=>(orC (zt b x1 14) (λx2=>some x2) ((zf b x1 14).bind λ_=>(zo b).bind λx4=>((bif (decide (x4.2.2.1>=from_))then(orC (zt b (decide (x4.2.2.1<=to_)) 3) (λx6=>some (Sum.inl x6)) ((zf b (decide (x4.2.2.1<=to_)) 3).bind λ_=>some (Sum.inr ())))else(orC (zt b false 3) (λx8=>some (Sum.inl x8)) ((zf b false 3).bind λ_=>some (Sum.inr ()))))).bind (xM some λ_=>none)))
def kL(b:BB)(c1:Int)(c17:Int)(c18:Int)(c19:List zd)(c20:Int)(c21:Int)(c22:Bs8)(c23:List Expr)(c24:Int)(c25:Int)(c26:Bs8)(c27:Bs8)(c28:List Expr):Nat->(Int×Bs8×Int×Int)->Option (Bs8×Int×Int)
 |0,_=>none
 |K+1,q=>(bif (decide (q.1<c20))then((idx c19 q.1).bind λx2=>(vy { b with i:=c1 } x2.text).bind λx3=>(bif x3 then some (x2.text,x2.op,x2.form)else some (q.2.1,q.2.2.1,q.2.2.2))).bind λx1=>kL b c1 c17 c18 c19 c20 c21 c22 c23 c24 c25 c26 c27 c28 K ((w64 (q.1+1)),x1.1,x1.2.1,x1.2.2)else some (q.2.1,q.2.2.1,q.2.2.2))
def kM(r_p_q_expr_2:BB->Int->Option (Int×Int))(b:BB)(c16:Int)(c17:Int)(c18:Bs8)(c19:List Expr):Nat->(Int×Int×Int×Int×Bs8×Bs8×(List Expr))->Option ((Int×Int)⊕(Unit))
 |0,_=>none
 |K+1,q=>(wT).bind λx1=>(kL { b with i:=0 } q.1 c16 q.2.1 x1 (x1.length:Int) c17 c18 c19 q.2.2.1 q.2.2.2.1 q.2.2.2.2.1 q.2.2.2.2.2.1 q.2.2.2.2.2.2 KK (0,([]:Bs8),0,0)).bind λx2=>((bif (decide (x2.1=([]:Bs8)))then some true else(bif (decide (x2.2.2<c16))then some true else(bif (decide (q.2.1<x2.2.2))then some true else(bif (decide (q.2.1=4))then some (decide (x2.2.2=4))else some false))))).bind λx3=>(bif x3 then none else(orC (r_p_q_expr_2 { b with i:=(w64 (q.1+1)) } (w64 (x2.2.2+1))) (λx4=>some (Sum.inl x4)) ((z8 KK { b with i:=(w64 (q.1+1)) } (w64 (x2.2.2+1))).bind λx5=>kM r_p_q_expr_2 b c16 c17 c18 c19 K (x5.1,x2.2.2,x2.2.1,0,([]:Bs8),([]:Bs8),([(Expr.mk q.2.2.1 q.2.2.2.1 q.2.2.2.2.1 q.2.2.2.2.2.1 q.2.2.2.2.2.2),(Expr.mk x5.2.1 x5.2.2.1 x5.2.2.2.1 x5.2.2.2.2.1 x5.2.2.2.2.2)]:List Expr)))))
mutual
def AM:Nat->BB->Int->Option (Int×Int)
 |0,_,_=>none
 |RK+1,b,form=>((bif (decide (form<=0))then(zC b V9).bind λx2=>some (x2.2,x2.1)else some (b.i,false))).bind λx1=>(bif x1.2 then(orC (xp RK { b with i:=x1.1 } 0) (λx3=>some x3) ((z8 KK { b with i:=x1.1 } 0).bind λx4=>(orC (yi { b with i:=x4.1 } uE) (λx5=>some x5) ((zA { b with i:=x4.1 } uE).bind λx6=>(orC (xp RK { b with i:=x6 } 0) (λx7=>some x7) ((z8 KK { b with i:=x6 } 0).bind λx8=>(orC (yi { b with i:=x8.1 } yY) (λx9=>some x9) ((zA { b with i:=x8.1 } yY).bind λx10=>(orC (xp RK { b with i:=x10 } 0) (λx11=>some x11) ((z8 KK { b with i:=x10 } 0).bind λ_=>none))))))))))else((bif (decide (form<=3))then(zC { b with i:=x1.1 } qZ).bind λx14=>some (x14.2,x14.1)else some (x1.1,false))).bind λx13=>(bif x13.2 then(orC (xp RK { b with i:=x13.1 } 3) (λx15=>some x15) ((z8 KK { b with i:=x13.1 } 3).bind λ_=>none))else((bif (decide (form<=7))then(zC { b with i:=x13.1 } yS).bind λx18=>some (x18.2,x18.1)else some (x13.1,false))).bind λx17=>(bif x17.2 then(orC (xp RK { b with i:=x17.1 } 7) (λx19=>some x19) ((z8 KK { b with i:=x17.1 } 7).bind λ_=>none))else(yh { b with i:=x17.1 }).bind λx21=>(bif x21 then(orC (zB { b with i:=x17.1 } 0 1099511627776) (λx22=>some x22) ((zk { b with i:=x17.1 } 0 1099511627776).bind λ_=>none))else(zC { b with i:=x17.1 } yz).bind λx24=>(bif x24.1 then(orC (yQ { b with i:=x24.2 }) (λx25=>some x25) ((zL { b with i:=x24.2 }).bind λx26=>(orC (yQ { b with i:=x26.2 }) (λx27=>some x27) ((zL { b with i:=x26.2 }).bind λ_=>none))))else(zC { b with i:=x24.2 } xh).bind λx29=>(bif x29.1 then(orC (yQ { b with i:=x29.2 }) (λx30=>some x30) ((zL { b with i:=x29.2 }).bind λ_=>none))else(zC { b with i:=x29.2 } Ay).bind λx32=>(bif x32.1 then(orC (xp RK { b with i:=x32.2 } 0) (λx33=>some x33) ((z8 KK { b with i:=x32.2 } 0).bind λx34=>(orC (yi { b with i:=x34.1 } qj) (λx35=>some x35) ((zA { b with i:=x34.1 } qj).bind λ_=>none))))else(orC (yQ { b with i:=x32.2 }) (λx37=>some x37) ((zL { b with i:=x32.2 }).bind λ_=>none)))))))))
def xp:Nat->BB->Int->Option (Int×Int)
 |0,_,_=>none
 |RK+1,b,form=>(orC (AM RK b form) (λx1=>some x1) ((ud KK b form).bind λx2=>(kM (xp RK) { b with i:=0 } form 0 ([]:Bs8) [] KK (x2.2.1,x2.1,x2.2.2.1,x2.2.2.2.1,x2.2.2.2.2.1,x2.2.2.2.2.2.1,x2.2.2.2.2.2.2)).bind (xM some λ_=>none)))
end
def Ju(b:BB)(is:Bool)(err:Int):Option (Int×Int) :=
 (vy b yg).bind λx1=>(orC (zt b x1 14) (λx2=>some x2) ((zf b x1 14).bind λ_=>(orC (zt b is err) (λx4=>some x4) ((zf b is err).bind λ_=>none))))
def Qm(b:BB):Option (Int×Int) :=
 (orC (zjv b) (λx1=>some x1) ((zcy b).bind λx2=>(orC (yi { b with i:=x2.2.1,n0:=x2.2.2 } Az) (λx3=>some x3) ((zA { b with i:=x2.2.1,n0:=x2.2.2 } Az).bind λx4=>(orC (xp KK { b with i:=x4,n0:=x2.2.2 } 0) (λx5=>some x5) ((z8 KK { b with i:=x4,n0:=x2.2.2 } 0).bind λx6=>(vX KK (Expr.mk x6.2.1 x6.2.2.1 x6.2.2.2.1 x6.2.2.2.2.1 x6.2.2.2.2.2)).bind λx7=>(orC (Ju { b with i:=x6.1,n0:=x2.2.2 } (decide (x7<=12)) 6) (λx8=>some x8) ((jS { b with i:=x6.1,n0:=x2.2.2 } (decide (x7<=12)) 6).bind λ_=>(grd (List.length (b.D++([(Def.mk x2.1 (Expr.mk x6.2.1 x6.2.2.1 x6.2.2.2.1 x6.2.2.2.2.1 x6.2.2.2.2.2))]:List Def))*88<=140737488355328)).bind λ_=>none))))))))
def Jv(b:BB):Option (Int×Int) :=
 (zJ b).bind λx1=>(orC (zt b x1 14) (λx2=>some x2) ((zf b x1 14).bind λ_=>(zo b).bind λx4=>(HZ b.n1).bind λx5=>(orC (zt { b with n1:=[x5] } (!((xe x4.2.1 x5).getD false)) 5) (λx6=>some x6) ((zf { b with n1:=[x5] } (!((xe x4.2.1 x5).getD false)) 5).bind λ_=>(zo { b with n1:=[x5] }).bind λx8=>(HZ [x5]).bind λx9=>(orC (yQ { b with n1:=[oc x8.2.1 true x9] }) (λx10=>some x10) ((zL { b with n1:=[oc x8.2.1 true x9] }).bind λ_=>none))))))
def Wf(b:BB):Option (Int×Int) :=
 ((bif (List.isEmpty b.n1)then some ([([]:List (Bs8×Bool))]:List Mb8)else some b.n1)).bind λx1=>(orC (Jv { b with n1:=x1 }) (λx2=>some x2) ((oY { b with n1:=x1 }).bind λ_=>none))
def yt(b:BB)(known:Mb8):Option (Int×Int) :=
 (zJ b).bind λx1=>(orC (zt b x1 14) (λx2=>some x2) ((zf b x1 14).bind λ_=>(zo b).bind λx4=>(orC (zt b (!((xe x4.2.1 known).getD false)) 5) (λx5=>some x5) ((zf b (!((xe x4.2.1 known).getD false)) 5).bind λ_=>(zo b).bind λ_=>(orC (yQ b) (λx8=>some x8) ((zL b).bind λ_=>none))))))
def qo(b:BB)(most:Int):Option (Int×Int) :=
 (zC b yS).bind λx1=>(bif x1.1 then(orC (zB { b with i:=x1.2 } 0 most) (λx2=>some x2) ((zk { b with i:=x1.2 } 0 most).bind λ_=>none))else(orC (zB { b with i:=x1.2 } 0 most) (λx4=>some x4) ((zk { b with i:=x1.2 } 0 most).bind λ_=>none)))
def uf(b:BB)(c15:(List Mb8))(c16:Bs8)(c17:Int):Nat->(Int×Mb8×(List Entry))->Option ((Int×Int)⊕(Int×(List Entry)))
 |0,_=>none
 |K+1,q=>(zJ { b with i:=q.1,n1:=c15 }).bind λx1=>(bif x1 then(orC (zt { b with i:=q.1,n1:=c15 } (decide ((((List.length q.2.2):Nat):Int)<60)) 6) (λx2=>some (Sum.inl x2)) ((zf { b with i:=q.1,n1:=c15 } (decide ((((List.length q.2.2):Nat):Int)<60)) 6).bind λ_=>(orC (yt { b with i:=q.1,n1:=c15 } q.2.1) (λx4=>some (Sum.inl x4)) ((yc { b with i:=q.1,n1:=c15 } q.2.1).bind λx5=>(orC (qo { b with i:=x5.2.1,n1:=c15 } 1099511627776) (λx6=>some (Sum.inl x6)) ((wC { b with i:=x5.2.1,n1:=c15 } 1099511627776).bind λx7=>(grd (List.length (q.2.2++([(Entry.mk x5.1 x7.1)]:List Entry))*24<=140737488355328)).bind λ_=>uf b c15 c16 c17 K (x7.2,x5.2.2,(q.2.2++([(Entry.mk x5.1 x7.1)]:List Entry)))))))))else some (Sum.inr (q.1,q.2.2)))
def Wg(b:BB):Option (Int×Int) :=
 (orC (Wf b) (λx1=>some x1) ((Kt b).bind λx2=>(uf { b with i:=0,n1:=[] } x2.2.2 x2.1 0 KK (x2.2.1,([]:List (Bs8×Bool)),([]:List Entry))).bind (xM some λx3=>(orC (yi { b with i:=x3.1,n1:=x2.2.2 } yY) (λx4=>some x4) ((zA { b with i:=x3.1,n1:=x2.2.2 } yY).bind λx5=>(orC (qo { b with i:=x5,n1:=x2.2.2 } 1099511627776) (λx6=>some x6) ((wC { b with i:=x5,n1:=x2.2.2 } 1099511627776).bind λx7=>(orC (yi { b with i:=x7.2,n1:=x2.2.2 } yg) (λx8=>some x8) ((zA { b with i:=x7.2,n1:=x2.2.2 } yg).bind λ_=>(grd (List.length (b.T++([(Table.mk x2.1 x3.2 x7.1)]:List Table))*48<=140737488355328)).bind λ_=>none)))))))))
def Jw(b:BB):Option (Int×Int) :=
 (zJ b).bind λx1=>(orC (zt b x1 14) (λx2=>some x2) ((zf b x1 14).bind λ_=>(zo b).bind λx4=>(HZ b.n2).bind λx5=>(orC (zt { b with n2:=[x5] } (!((xe x4.2.1 x5).getD false)) 5) (λx6=>some x6) ((zf { b with n2:=[x5] } (!((xe x4.2.1 x5).getD false)) 5).bind λ_=>(zo { b with n2:=[x5] }).bind λx8=>(HZ [x5]).bind λx9=>(orC (yQ { b with n2:=[oc x8.2.1 true x9] }) (λx10=>some x10) ((zL { b with n2:=[oc x8.2.1 true x9] }).bind λ_=>none))))))
def Kx(b:BB):Option (Int×Int) :=
 ((bif (List.isEmpty b.n2)then some ([([]:List (Bs8×Bool))]:List Mb8)else some b.n2)).bind λx1=>(orC (Jw { b with n2:=x1 }) (λx2=>some x2) ((oZ { b with n2:=x1 }).bind λ_=>none))
def kN(b:BB):Nat->(Int×(List zV))->Option ((Int×Int)⊕(Unit))
 |0,_=>none
 |K+1,q=>(orC (zB { b with i:=q.1 } 0 1048576) (λx1=>some (Sum.inl x1)) ((zk { b with i:=q.1 } 0 1048576).bind λx2=>(orC (zB { b with i:=x2.2 } 0 1048576) (λx3=>some (Sum.inl x3)) ((zk { b with i:=x2.2 } 0 1048576).bind λx4=>(grd (List.length (q.2++([(zV.mk x2.1 x4.1)]:List zV))*16<=140737488355328)).bind λ_=>(yh { b with i:=x4.2 }).bind λx6=>(bif (!x6)then none else kN b K (x4.2,(q.2++([(zV.mk x2.1 x4.1)]:List zV))))))))
def qp(b:BB):Option (Int×Int) :=
 (kN { b with i:=0 } KK (b.i,[])).bind (xM some λ_=>none)
def Jx(b:BB):Option (Int×Int) :=
 (zJ b).bind λx1=>(orC (zt b x1 14) (λx2=>some x2) ((zf b x1 14).bind λ_=>(zo b).bind λx4=>(HZ b.n3).bind λx5=>(orC (zt { b with n3:=[x5] } (!((xe x4.2.1 x5).getD false)) 5) (λx6=>some x6) ((zf { b with n3:=[x5] } (!((xe x4.2.1 x5).getD false)) 5).bind λ_=>(zo { b with n3:=[x5] }).bind λx8=>(HZ [x5]).bind λx9=>(orC (yQ { b with n3:=[oc x8.2.1 true x9] }) (λx10=>some x10) ((zL { b with n3:=[oc x8.2.1 true x9] }).bind λ_=>none))))))
def Wh(b:BB):Option (Int×Int) :=
 ((bif (List.isEmpty b.n3)then some ([([]:List (Bs8×Bool))]:List Mb8)else some b.n3)).bind λx1=>(orC (Jx { b with n3:=x1 }) (λx2=>some x2) ((o6 { b with n3:=x1 }).bind λ_=>none))
def Ad(b:BB):Nat->(Int×(List Bs8))->Option ((Int×Int)⊕(Int×(List Bs8)))
 |0,_=>none
 |K+1,q=>(zJ { b with i:=q.1 }).bind λx1=>(bif x1 then(orC (yQ { b with i:=q.1 }) (λx2=>some (Sum.inl x2)) ((zL { b with i:=q.1 }).bind λx3=>(grd (List.length (q.2++([x3.1]:List Bs8))*16<=140737488355328)).bind λ_=>Ad b K (x3.2,(q.2++([x3.1]:List Bs8)))))else some (Sum.inr (q.1,q.2)))
def Jy(b:BB):Option (Int×Int) :=
 (orC (yQ b) (λx1=>some x1) ((zL b).bind λx2=>(Ad { b with i:=0 } KK (x2.2,([x2.1]:List Bs8))).bind (xM some λx3=>none)))
def vZ(b:BB)(list:Bs8):Option (Int×Int) :=
 (zo b).bind λx1=>(Va list x1.2.1).bind λx2=>((zo b).bind λx4=>(bif (decide (x4.1=0))then(orC (zt b (decide (x2>=0)) 14) (λx5=>some (Sum.inl x5)) ((zf b (decide (x2>=0)) 14).bind λ_=>some (Sum.inr ())))else(orC (zt b false 14) (λx7=>some (Sum.inl x7)) ((zf b false 14).bind λ_=>some (Sum.inr ()))))).bind (xM some λ_=>none)
def Hx(b:BB):Nat->(Int×Int)->Option ((Int×Int)⊕(Unit))
 |0,_=>none
 | K+1,q=>(zo { b with i:=q.1 }).bind λx1=>(Va zj x1.2.1).bind λx2=>((bif (decide (q.2>0))then(bif (decide (x2<0))then some true else(zo { b with i:=q.1 }).bind λx4=>some (!(decide (x4.1=0))))else some false)).bind λx3=>(bif x3 then none else((bif (decide (x2<0))then(orC (zt { b with i:=q.1 } true 5) (λx6=>some (Sum.inl x6)) ((zf { b with i:=q.1 } true 5).bind λ_=>some (Sum.inr ())))else(grd (0<=x2)).bind λ_=>(orC (zt { b with i:=q.1 } (decide ((IntKind.i64.wrap ((BitVec.ofInt IntKind.i64.bits (Int.fdiv q.2 (2 ^ (min (Int.toNat x2) IntKind.i64.bits))) &&& BitVec.ofInt IntKind.i64.bits 1).toNat:Int))=0)) 5) (λx9=>some (Sum.inl x9)) ((zf { b with i:=q.1 } (decide ((IntKind.i64.wrap ((BitVec.ofInt IntKind.i64.bits (Int.fdiv q.2 (2 ^ (min (Int.toNat x2) IntKind.i64.bits))) &&& BitVec.ofInt IntKind.i64.bits 1).toNat:Int))=0)) 5).bind λ_=>some (Sum.inr ()))))).bind (xM (λq=>some (Sum.inl q)) λ_=>(orC (vZ { b with i:=q.1 } zj) (λx11=>some (Sum.inl x11)) ((xo { b with i:=q.1 } zj).bind λx12=>(grd (0<=x12.1)).bind λ_=>Hx b K (x12.2,(IntKind.i64.wrap ((BitVec.ofInt IntKind.i64.bits q.2 ||| BitVec.ofInt IntKind.i64.bits (w64 (1*2 ^ (min (Int.toNat x12.1) IntKind.i64.bits)))).toNat:Int)))))))
def zjw(b:BB):Option (Int×Int) :=
 (Hx { b with i:=0 } KK (b.i,0)).bind (xM some λ_=>none)
def Wi(b:BB):Option (Int×Int) :=
 (orC (Wh b) (λx1=>some x1) ((Kv b).bind λx2=>((zC { b with i:=x2.2.1,n3:=x2.2.2 } ze1).bind λx4=>(bif x4.1 then(orC (Jy { b with i:=x4.2,n3:=x2.2.2 }) (λx5=>some (Sum.inl x5)) ((uP { b with i:=x4.2,n3:=x2.2.2 }).bind λx6=>some (Sum.inr (x6.2,x6.1))))else some (Sum.inr (x4.2,[])))).bind (xM some λx3=>((zC { b with i:=x3.1,n3:=x2.2.2 } yU).bind λx8=>(bif x8.1 then(orC (Jy { b with i:=x8.2,n3:=x2.2.2 }) (λx9=>some (Sum.inl x9)) ((uP { b with i:=x8.2,n3:=x2.2.2 }).bind λx10=>some (Sum.inr (x10.2,x10.1))))else some (Sum.inr (x8.2,[])))).bind (xM some λx7=>((zC { b with i:=x7.1,n3:=x2.2.2 } vw).bind λx12=>(bif x12.1 then(orC (zB { b with i:=x12.2,n3:=x2.2.2 } 0 1073741824) (λx13=>some (Sum.inl x13)) ((zk { b with i:=x12.2,n3:=x2.2.2 } 0 1073741824).bind λx14=>some (Sum.inr (x14.2,x14.1))))else some (Sum.inr (x12.2,0)))).bind (xM some λx11=>((zC { b with i:=x11.1,n3:=x2.2.2 } xC).bind λx16=>(bif x16.1 then(orC (zB { b with i:=x16.2,n3:=x2.2.2 } (w64 (x11.2+1)) 1073741824) (λx17=>some (Sum.inl x17)) ((zk { b with i:=x16.2,n3:=x2.2.2 } (w64 (x11.2+1)) 1073741824).bind λx18=>some (Sum.inr (x18.2,x18.1))))else some (Sum.inr (x16.2,0)))).bind (xM some λx15=>((zC { b with i:=x15.1,n3:=x2.2.2 } xO).bind λx20=>(bif x20.1 then(orC (zB { b with i:=x20.2,n3:=x2.2.2 } 0 1073741824) (λx21=>some (Sum.inl x21)) ((zk { b with i:=x20.2,n3:=x2.2.2 } 0 1073741824).bind λx22=>some (Sum.inr (x22.2,x22.1))))else some (Sum.inr (x20.2,0)))).bind (xM some λx19=>(zC { b with i:=x19.1,n3:=x2.2.2 } wm).bind λx23=>(orC (yi { b with i:=x23.2,n3:=x2.2.2 } xI) (λx24=>some x24) ((zA { b with i:=x23.2,n3:=x2.2.2 } xI).bind λx25=>((zC { b with i:=x25,n3:=x2.2.2 } qi).bind λx27=>(bif x27.1 then(orC (zB { b with i:=x27.2,n3:=x2.2.2 } 0 3) (λx28=>some (Sum.inl x28)) ((zk { b with i:=x27.2,n3:=x2.2.2 } 0 3).bind λx29=>(orC (yi { b with i:=x29.2,n3:=x2.2.2 } AI) (λx30=>some (Sum.inl x30)) ((zA { b with i:=x29.2,n3:=x2.2.2 } AI).bind λx31=>(orC (zB { b with i:=x31,n3:=x2.2.2 } 0 4096) (λx32=>some (Sum.inl x32)) ((zk { b with i:=x31,n3:=x2.2.2 } 0 4096).bind λx33=>(orC (yi { b with i:=x33.2,n3:=x2.2.2 } jx) (λx34=>some (Sum.inl x34)) ((zA { b with i:=x33.2,n3:=x2.2.2 } jx).bind λx35=>(orC (zB { b with i:=x35,n3:=x2.2.2 } 0 4096) (λx36=>some (Sum.inl x36)) ((zk { b with i:=x35,n3:=x2.2.2 } 0 4096).bind λx37=>(orC (zB { b with i:=x37.2,n3:=x2.2.2 } 1 4096) (λx38=>some (Sum.inl x38)) ((zk { b with i:=x37.2,n3:=x2.2.2 } 1 4096).bind λx39=>(orC (yi { b with i:=x39.2,n3:=x2.2.2 } yg) (λx40=>some (Sum.inl x40)) ((zA { b with i:=x39.2,n3:=x2.2.2 } yg).bind λx41=>some (Sum.inr (x41,1,0,0,([]:Bs8),([]:Bs8),[],x29.1,x33.1,x37.1,x39.1,0,0,0))))))))))))))))else(zC { b with i:=x27.2,n3:=x2.2.2 } oW).bind λx42=>(bif x42.1 then(orC (zjw { b with i:=x42.2,n3:=x2.2.2 }) (λx43=>some (Sum.inl x43)) ((zc0 { b with i:=x42.2,n3:=x2.2.2 }).bind λx44=>(orC (yi { b with i:=x44.2,n3:=x2.2.2 } yg) (λx45=>some (Sum.inl x45)) ((zA { b with i:=x44.2,n3:=x2.2.2 } yg).bind λx46=>some (Sum.inr (x46,2,0,0,([]:Bs8),([]:Bs8),[],0,0,0,0,x44.1,0,0))))))else(zC { b with i:=x42.2,n3:=x2.2.2 } qh).bind λx47=>(bif x47.1 then(orC (vZ { b with i:=x47.2,n3:=x2.2.2 } zj) (λx48=>some (Sum.inl x48)) ((xo { b with i:=x47.2,n3:=x2.2.2 } zj).bind λx49=>(orC (vZ { b with i:=x49.2,n3:=x2.2.2 } zj) (λx50=>some (Sum.inl x50)) ((xo { b with i:=x49.2,n3:=x2.2.2 } zj).bind λx51=>(orC (zB { b with i:=x51.2,n3:=x2.2.2 } 0 1048576) (λx52=>some (Sum.inl x52)) ((zk { b with i:=x51.2,n3:=x2.2.2 } 0 1048576).bind λx53=>(orC (yi { b with i:=x53.2,n3:=x2.2.2 } yg) (λx54=>some (Sum.inl x54)) ((zA { b with i:=x53.2,n3:=x2.2.2 } yg).bind λx55=>some (Sum.inr (x55,3,0,0,([]:Bs8),([]:Bs8),[],0,0,0,0,x49.1,x51.1,x53.1))))))))))else(orC (xp KK { b with i:=x47.2,n3:=x2.2.2 } 0) (λx56=>some (Sum.inl x56)) ((z8 KK { b with i:=x47.2,n3:=x2.2.2 } 0).bind λx57=>(vX KK (Expr.mk x57.2.1 x57.2.2.1 x57.2.2.2.1 x57.2.2.2.2.1 x57.2.2.2.2.2)).bind λx58=>(orC (Ju { b with i:=x57.1,n3:=x2.2.2 } (decide (x58<=12)) 6) (λx59=>some (Sum.inl x59)) ((jS { b with i:=x57.1,n3:=x2.2.2 } (decide (x58<=12)) 6).bind λx60=>some (Sum.inr (x60,0,x57.2.1,x57.2.2.1,x57.2.2.2.1,x57.2.2.2.2.1,x57.2.2.2.2.2,0,0,0,0,0,0,0)))))))))).bind (xM some λx26=>(grd (List.length (b.R++([(zO.mk x2.1 x3.2 x7.2 x11.2 x15.2 x19.2 x23.1 x26.2.1 (Expr.mk x26.2.2.1 x26.2.2.2.1 x26.2.2.2.2.1 x26.2.2.2.2.2.1 x26.2.2.2.2.2.2.1) (zy.mk x26.2.2.2.2.2.2.2.1 x26.2.2.2.2.2.2.2.2.1 x26.2.2.2.2.2.2.2.2.2.1 x26.2.2.2.2.2.2.2.2.2.2.1) x26.2.2.2.2.2.2.2.2.2.2.2.1 x26.2.2.2.2.2.2.2.2.2.2.2.2.1 x26.2.2.2.2.2.2.2.2.2.2.2.2.2)]:List zO))*232<=140737488355328)).bind λ_=>none))))))))))
def Jz(b:BB):Option (Int×Int) :=
 (zJ b).bind λx1=>(orC (zt b x1 14) (λx2=>some x2) ((zf b x1 14).bind λ_=>(zo b).bind λx4=>(HZ b.n4).bind λx5=>(orC (zt { b with n4:=[x5] } (!((xe x4.2.1 x5).getD false)) 5) (λx6=>some x6) ((zf { b with n4:=[x5] } (!((xe x4.2.1 x5).getD false)) 5).bind λ_=>(zo { b with n4:=[x5] }).bind λx8=>(HZ [x5]).bind λx9=>(orC (yQ { b with n4:=[oc x8.2.1 true x9] }) (λx10=>some x10) ((zL { b with n4:=[oc x8.2.1 true x9] }).bind λ_=>none))))))
def Ky(b:BB):Option (Int×Int) :=
 ((bif (List.isEmpty b.n4)then some ([([]:List (Bs8×Bool))]:List Mb8)else some b.n4)).bind λx1=>(orC (Jz { b with n4:=x1 }) (λx2=>some x2) ((o8 { b with n4:=x1 }).bind λ_=>none))
def JA(b:BB):Option (Int×Int) :=
 (zJ b).bind λx1=>(orC (zt b x1 14) (λx2=>some x2) ((zf b x1 14).bind λ_=>(zo b).bind λx4=>(HZ b.n5).bind λx5=>(orC (zt { b with n5:=[x5] } (!((xe x4.2.1 x5).getD false)) 5) (λx6=>some x6) ((zf { b with n5:=[x5] } (!((xe x4.2.1 x5).getD false)) 5).bind λ_=>(zo { b with n5:=[x5] }).bind λx8=>(HZ [x5]).bind λx9=>(orC (yQ { b with n5:=[oc x8.2.1 true x9] }) (λx10=>some x10) ((zL { b with n5:=[oc x8.2.1 true x9] }).bind λ_=>none))))))
def Wj(b:BB):Option (Int×Int) :=
 ((bif (List.isEmpty b.n5)then some ([([]:List (Bs8×Bool))]:List Mb8)else some b.n5)).bind λx1=>(orC (JA { b with n5:=x1 }) (λx2=>some x2) ((Ab { b with n5:=x1 }).bind λ_=>none))
def Hy(b:BB):Option (Int×Int) :=
 (orC (zB b 0 1048576) (λx1=>some x1) ((zk b 0 1048576).bind λx2=>(orC (zB { b with i:=x2.2 } 0 1048576) (λx3=>some x3) ((zk { b with i:=x2.2 } 0 1048576).bind λx4=>(orC (zB { b with i:=x4.2 } 0 4096) (λx5=>some x5) ((zk { b with i:=x4.2 } 0 4096).bind λ_=>none))))))
def Ae(b:BB)(c15:(List Mb8))(c16:Bs8)(c17:Int)(c18:Int)(c19:Int)(c20:Int):Nat->(Int×(List zg))->Option ((Int×Int)⊕(Int×(List zg)))
 |0,_=>none
 |K+1,q=>(yh { b with i:=q.1,n5:=c15 }).bind λx1=>(bif x1 then(orC (zt { b with i:=q.1,n5:=c15 } (decide ((((List.length q.2):Nat):Int)<20)) 6) (λx2=>some (Sum.inl x2)) ((zf { b with i:=q.1,n5:=c15 } (decide ((((List.length q.2):Nat):Int)<20)) 6).bind λ_=>(orC (Hy { b with i:=q.1,n5:=c15 }) (λx4=>some (Sum.inl x4)) ((kK { b with i:=q.1,n5:=c15 }).bind λx5=>(grd (List.length (q.2++([(zg.mk x5.2.1 x5.2.2.1 x5.2.2.2)]:List zg))*24<=140737488355328)).bind λ_=>Ae b c15 c16 c17 c18 c19 c20 K (x5.1,(q.2++([(zg.mk x5.2.1 x5.2.2.1 x5.2.2.2)]:List zg)))))))else some (Sum.inr (q.1,q.2)))
def Wk(b:BB):Option (Int×Int) :=
 (orC (Wj b) (λx1=>some x1) ((Kw b).bind λx2=>(orC (Hy { b with i:=x2.2.1,n5:=x2.2.2 }) (λx3=>some x3) ((kK { b with i:=x2.2.1,n5:=x2.2.2 }).bind λx4=>(orC (yi { b with i:=x4.1,n5:=x2.2.2 } vG) (λx5=>some x5) ((zA { b with i:=x4.1,n5:=x2.2.2 } vG).bind λx6=>(orC (zB { b with i:=x6,n5:=x2.2.2 } 0 20) (λx7=>some x7) ((zk { b with i:=x6,n5:=x2.2.2 } 0 20).bind λx8=>(orC (yi { b with i:=x8.2,n5:=x2.2.2 } xI) (λx9=>some x9) ((zA { b with i:=x8.2,n5:=x2.2.2 } xI).bind λx10=>(orC (Hy { b with i:=x10,n5:=x2.2.2 }) (λx11=>some x11) ((kK { b with i:=x10,n5:=x2.2.2 }).bind λx12=>(grd (List.length (([]:List zg)++([(zg.mk x12.2.1 x12.2.2.1 x12.2.2.2)]:List zg))*24<=140737488355328)).bind λ_=>(Ae { b with i:=0,n5:=[] } x2.2.2 x2.1 x4.2.1 x4.2.2.1 x4.2.2.2 x8.1 KK (x12.1,(([]:List zg)++([(zg.mk x12.2.1 x12.2.2.1 x12.2.2.2)]:List zg)))).bind (xM some λx14=>(orC (yi { b with i:=x14.1,n5:=x2.2.2 } yg) (λx15=>some x15) ((zA { b with i:=x14.1,n5:=x2.2.2 } yg).bind λ_=>(grd (List.length (b.V++([(View.mk x2.1 (zg.mk x4.2.1 x4.2.2.1 x4.2.2.2) x8.1 x14.2)]:List View))*72<=140737488355328)).bind λ_=>none)))))))))))))))
def oz(b:BB):Nat->(Int×(List zg)×Bool)->Option ((Int×Int)⊕(Int×(List zg)))
 |0,_=>none
 |K+1,q=>(bif q.2.2 then((vy { b with i:=q.1,S:=q.2.1 } yS).bind λx2=>(bif x2 then(orC (zt { b with i:=q.1,S:=q.2.1 } true 14) (λx3=>some (Sum.inl x3)) ((zf { b with i:=q.1,S:=q.2.1 } true 14).bind λ_=>some (Sum.inr ())))else(yh { b with i:=q.1,S:=q.2.1 }).bind λx5=>(orC (zt { b with i:=q.1,S:=q.2.1 } x5 14) (λx6=>some (Sum.inl x6)) ((zf { b with i:=q.1,S:=q.2.1 } x5 14).bind λ_=>some (Sum.inr ()))))).bind (xM (λq=>some (Sum.inl q)) λ_=>(orC (zt { b with i:=q.1,S:=q.2.1 } (decide ((((List.length q.2.1):Nat):Int)<24)) 6) (λx8=>some (Sum.inl x8)) ((zf { b with i:=q.1,S:=q.2.1 } (decide ((((List.length q.2.1):Nat):Int)<24)) 6).bind λ_=>(orC (qo { b with i:=q.1,S:=q.2.1 } 4096) (λx10=>some (Sum.inl x10)) ((wC { b with i:=q.1,S:=q.2.1 } 4096).bind λx11=>(orC (qo { b with i:=x11.2,S:=q.2.1 } 4096) (λx12=>some (Sum.inl x12)) ((wC { b with i:=x11.2,S:=q.2.1 } 4096).bind λx13=>(orC (zB { b with i:=x13.2,S:=q.2.1 } 1 4096) (λx14=>some (Sum.inl x14)) ((zk { b with i:=x13.2,S:=q.2.1 } 1 4096).bind λx15=>(grd (List.length (q.2.1++([(zg.mk x11.1 x13.1 x15.1)]:List zg))*24<=140737488355328)).bind λ_=>(zC { b with i:=x15.2,S:=(q.2.1++([(zg.mk x11.1 x13.1 x15.1)]:List zg)) } qa).bind λx17=>oz b K (x17.2,(q.2.1++([(zg.mk x11.1 x13.1 x15.1)]:List zg)),x17.1))))))))))else some (Sum.inr (q.1,q.2.1)))
def zc1(b:BB):Option (Int×Int) :=
 (oz { b with i:=0,S:=[] } KK (b.i,b.S,true)).bind (xM some λx1=>(orC (yi { b with i:=x1.1,S:=x1.2 } yg) (λx2=>some x2) ((zA { b with i:=x1.1,S:=x1.2 } yg).bind λ_=>none)))
def za(b:BB)(q:Int×Int×Bool×(List Def)×(List Table)×(List yp)×(List zO)×(List Cap)×(List View)×(List zg)×(List Mb8)×(List Mb8)×(List Mb8)×(List Mb8)×(List Mb8)×(List Mb8)):BB:={ b with i:=q.1,H:=q.2.1,h:=q.2.2.1,D:=q.2.2.2.1,T:=q.2.2.2.2.1,Z:=q.2.2.2.2.2.1,R:=q.2.2.2.2.2.2.1,C:=q.2.2.2.2.2.2.2.1,V:=q.2.2.2.2.2.2.2.2.1,S:=q.2.2.2.2.2.2.2.2.2.1,n0:=q.2.2.2.2.2.2.2.2.2.2.1,n1:=q.2.2.2.2.2.2.2.2.2.2.2.1,n2:=q.2.2.2.2.2.2.2.2.2.2.2.2.1,n3:=q.2.2.2.2.2.2.2.2.2.2.2.2.2.1,n4:=q.2.2.2.2.2.2.2.2.2.2.2.2.2.2.1,n5:=q.2.2.2.2.2.2.2.2.2.2.2.2.2.2.2 }
def yk(b:BB):Nat->(Int×Int×Bool×(List Def)×(List Table)×(List yp)×(List zO)×(List Cap)×(List View)×(List zg)×(List Mb8)×(List Mb8)×(List Mb8)×(List Mb8)×(List Mb8)×(List Mb8))->Option ((Int×Int)⊕(Int×Int×Bool×(List Def)×(List Table)×(List yp)×(List zO)×(List Cap)×(List View)×(List zg)×(List Mb8)×(List Mb8)×(List Mb8)×(List Mb8)×(List Mb8)×(List Mb8)))
 |0,_=>none
 |K+1,q=>(zo { (za b q)with l:=b.l }).bind λx1=>(bif (!(decide (x1.1=3)))then(zo { (za b q)with l:=b.l }).bind λx2=>(bif (decide (x2.2.1=wR))then(orC (vY { (za b q)with l:=b.l } (((List.length ((za b q).D)):Nat):Int) 60) (λx3=>some (Sum.inl x3)) ((yN { (za b q)with l:=b.l } (((List.length ((za b q).D)):Nat):Int) 60).bind λx4=>(orC (Qm { (za b q)with l:=b.l,i:=x4 }) (λx5=>some (Sum.inl x5)) ((Ht { (za b q)with l:=b.l,i:=x4 }).bind λx6=>yk b K (x6.1,(za b q).H,(za b q).h,x6.2.1,(za b q).T,(za b q).Z,(za b q).R,(za b q).C,(za b q).V,(za b q).S,x6.2.2,(za b q).n1,(za b q).n2,(za b q).n3,(za b q).n4,(za b q).n5)))))else(bif (decide (x2.2.1=yz))then(orC (vY { (za b q)with l:=b.l } (((List.length ((za b q).T)):Nat):Int) 60) (λx7=>some (Sum.inl x7)) ((yN { (za b q)with l:=b.l } (((List.length ((za b q).T)):Nat):Int) 60).bind λx8=>(orC (Wg { (za b q)with l:=b.l,i:=x8 }) (λx9=>some (Sum.inl x9)) ((Ku { (za b q)with l:=b.l,i:=x8 }).bind λx10=>yk b K (x10.1,(za b q).H,(za b q).h,(za b q).D,x10.2.1,(za b q).Z,(za b q).R,(za b q).C,(za b q).V,(za b q).S,(za b q).n0,x10.2.2,(za b q).n2,(za b q).n3,(za b q).n4,(za b q).n5)))))else(bif (decide (x2.2.1=xh))then(bif (decide (x2.2.1=xh))then(vy { (za b q)with l:=b.l } yI).bind λx11=>(orC (vY { (za b q)with l:=b.l } (((List.length ((za b q).Z)):Nat):Int) 60) (λx12=>some (Sum.inl x12)) ((yN { (za b q)with l:=b.l } (((List.length ((za b q).Z)):Nat):Int) 60).bind λx13=>(orC (Kx { (za b q)with l:=b.l,i:=x13 }) (λx14=>some (Sum.inl x14)) ((o5 { (za b q)with l:=b.l,i:=x13 }).bind λx15=>(orC (qp { (za b q)with l:=b.l,i:=x15.2.1,n2:=x15.2.2 }) (λx16=>some (Sum.inl x16)) ((wD { (za b q)with l:=b.l,i:=x15.2.1,n2:=x15.2.2 }).bind λx17=>(wV x17.1).bind λx18=>(orC (Ju { (za b q)with l:=b.l,i:=x17.2,n2:=x15.2.2 } x18 10) (λx19=>some (Sum.inl x19)) ((jS { (za b q)with l:=b.l,i:=x17.2,n2:=x15.2.2 } x18 10).bind λx20=>(grd (List.length ((za b q).Z++([(yp.mk x15.1 x11 x17.1)]:List yp))*48<=140737488355328)).bind λ_=>yk b K (x20,(za b q).H,(za b q).h,(za b q).D,(za b q).T,((za b q).Z++([(yp.mk x15.1 x11 x17.1)]:List yp)),(za b q).R,(za b q).C,(za b q).V,(za b q).S,(za b q).n0,(za b q).n1,x15.2.2,(za b q).n3,(za b q).n4,(za b q).n5)))))))))else(bif (decide (x2.2.1=ua))then(orC (vY { (za b q)with l:=b.l } (((List.length ((za b q).R)):Nat):Int) 200) (λx22=>some (Sum.inl x22)) ((yN { (za b q)with l:=b.l } (((List.length ((za b q).R)):Nat):Int) 200).bind λx23=>(orC (Wi { (za b q)with l:=b.l,i:=x23 }) (λx24=>some (Sum.inl x24)) ((Js { (za b q)with l:=b.l,i:=x23 }).bind λx25=>yk b K (x25.1,(za b q).H,(za b q).h,(za b q).D,(za b q).T,(za b q).Z,x25.2.1,(za b q).C,(za b q).V,(za b q).S,(za b q).n0,(za b q).n1,(za b q).n2,x25.2.2,(za b q).n4,(za b q).n5)))))else(bif (decide (x2.2.1=V7))then(orC (vY { (za b q)with l:=b.l } (((List.length ((za b q).C)):Nat):Int) 30) (λx26=>some (Sum.inl x26)) ((yN { (za b q)with l:=b.l } (((List.length ((za b q).C)):Nat):Int) 30).bind λx27=>(orC (Ky { (za b q)with l:=b.l,i:=x27 }) (λx28=>some (Sum.inl x28)) ((Aa { (za b q)with l:=b.l,i:=x27 }).bind λx29=>(orC (vZ { (za b q)with l:=b.l,i:=x29.2.1,n4:=x29.2.2 } zX) (λx30=>some (Sum.inl x30)) ((xo { (za b q)with l:=b.l,i:=x29.2.1,n4:=x29.2.2 } zX).bind λx31=>(orC (zB { (za b q)with l:=b.l,i:=x31.2,n4:=x29.2.2 } 0 1099511627776) (λx32=>some (Sum.inl x32)) ((zk { (za b q)with l:=b.l,i:=x31.2,n4:=x29.2.2 } 0 1099511627776).bind λx33=>(orC (qp { (za b q)with l:=b.l,i:=x33.2,n4:=x29.2.2 }) (λx34=>some (Sum.inl x34)) ((wD { (za b q)with l:=b.l,i:=x33.2,n4:=x29.2.2 }).bind λx35=>(wV x35.1).bind λx36=>(orC (Ju { (za b q)with l:=b.l,i:=x35.2,n4:=x29.2.2 } x36 10) (λx37=>some (Sum.inl x37)) ((jS { (za b q)with l:=b.l,i:=x35.2,n4:=x29.2.2 } x36 10).bind λx38=>(grd (List.length ((za b q).C++([(Cap.mk x29.1 x31.1 x33.1 x35.1)]:List Cap))*56<=140737488355328)).bind λ_=>yk b K (x38,(za b q).H,(za b q).h,(za b q).D,(za b q).T,(za b q).Z,(za b q).R,((za b q).C++([(Cap.mk x29.1 x31.1 x33.1 x35.1)]:List Cap)),(za b q).V,(za b q).S,(za b q).n0,(za b q).n1,(za b q).n2,(za b q).n3,x29.2.2,(za b q).n5)))))))))))))else(bif (decide (x2.2.1=AJ))then(orC (vY { (za b q)with l:=b.l } (((List.length ((za b q).V)):Nat):Int) 60) (λx40=>some (Sum.inl x40)) ((yN { (za b q)with l:=b.l } (((List.length ((za b q).V)):Nat):Int) 60).bind λx41=>(orC (Wk { (za b q)with l:=b.l,i:=x41 }) (λx42=>some (Sum.inl x42)) ((Jt { (za b q)with l:=b.l,i:=x41 }).bind λx43=>yk b K (x43.1,(za b q).H,(za b q).h,(za b q).D,(za b q).T,(za b q).Z,(za b q).R,(za b q).C,x43.2.1,(za b q).S,(za b q).n0,(za b q).n1,(za b q).n2,(za b q).n3,(za b q).n4,x43.2.2)))))else(bif (decide (x2.2.1=Jm))then(orC (zt { (za b q)with l:=b.l } (decide (((List.length ((za b q).S)):Nat)=0)) 5) (λx44=>some (Sum.inl x44)) ((zf { (za b q)with l:=b.l } (decide (((List.length ((za b q).S)):Nat)=0)) 5).bind λ_=>(orC (zc1 { (za b q)with l:=b.l,i:=(w64 ((za b q).i+1)) }) (λx46=>some (Sum.inl x46)) ((Vb { (za b q)with l:=b.l,i:=(w64 ((za b q).i+1)) }).bind λx47=>yk b K (x47.1,(za b q).H,(za b q).h,(za b q).D,(za b q).T,(za b q).Z,(za b q).R,(za b q).C,(za b q).V,x47.2,(za b q).n0,(za b q).n1,(za b q).n2,(za b q).n3,(za b q).n4,(za b q).n5)))))else(bif (decide (x2.2.1=kE))then(orC (zt { (za b q)with l:=b.l } (!(za b q).h) 5) (λx48=>some (Sum.inl x48)) ((zf { (za b q)with l:=b.l } (!(za b q).h) 5).bind λ_=>(orC (zB { (za b q)with l:=b.l,i:=(w64 ((za b q).i+1)) } 0 24) (λx50=>some (Sum.inl x50)) ((zk { (za b q)with l:=b.l,i:=(w64 ((za b q).i+1)) } 0 24).bind λx51=>(orC (yi { (za b q)with l:=b.l,i:=x51.2,H:=x51.1,h:=true } yg) (λx52=>some (Sum.inl x52)) ((zA { (za b q)with l:=b.l,i:=x51.2,H:=x51.1,h:=true } yg).bind λx53=>yk b K (x53,x51.1,true,(za b q).D,(za b q).T,(za b q).Z,(za b q).R,(za b q).C,(za b q).V,(za b q).S,(za b q).n0,(za b q).n1,(za b q).n2,(za b q).n3,(za b q).n4,(za b q).n5)))))))else(orC (Hw { (za b q)with l:=b.l } 14) (λx54=>some (Sum.inl x54)) none)))))))else(bif (decide (x2.2.1=yI))then(vy { (za b q)with l:=b.l } yI).bind λx55=>(orC (vY { (za b q)with l:=b.l } (((List.length ((za b q).Z)):Nat):Int) 60) (λx56=>some (Sum.inl x56)) ((yN { (za b q)with l:=b.l } (((List.length ((za b q).Z)):Nat):Int) 60).bind λx57=>(orC (Kx { (za b q)with l:=b.l,i:=x57 }) (λx58=>some (Sum.inl x58)) ((o5 { (za b q)with l:=b.l,i:=x57 }).bind λx59=>(orC (qp { (za b q)with l:=b.l,i:=x59.2.1,n2:=x59.2.2 }) (λx60=>some (Sum.inl x60)) ((wD { (za b q)with l:=b.l,i:=x59.2.1,n2:=x59.2.2 }).bind λx61=>(wV x61.1).bind λx62=>(orC (Ju { (za b q)with l:=b.l,i:=x61.2,n2:=x59.2.2 } x62 10) (λx63=>some (Sum.inl x63)) ((jS { (za b q)with l:=b.l,i:=x61.2,n2:=x59.2.2 } x62 10).bind λx64=>(grd (List.length ((za b q).Z++([(yp.mk x59.1 x55 x61.1)]:List yp))*48<=140737488355328)).bind λ_=>yk b K (x64,(za b q).H,(za b q).h,(za b q).D,(za b q).T,((za b q).Z++([(yp.mk x59.1 x55 x61.1)]:List yp)),(za b q).R,(za b q).C,(za b q).V,(za b q).S,(za b q).n0,(za b q).n1,x59.2.2,(za b q).n3,(za b q).n4,(za b q).n5)))))))))else(bif (decide (x2.2.1=ua))then(orC (vY { (za b q)with l:=b.l } (((List.length ((za b q).R)):Nat):Int) 200) (λx66=>some (Sum.inl x66)) ((yN { (za b q)with l:=b.l } (((List.length ((za b q).R)):Nat):Int) 200).bind λx67=>(orC (Wi { (za b q)with l:=b.l,i:=x67 }) (λx68=>some (Sum.inl x68)) ((Js { (za b q)with l:=b.l,i:=x67 }).bind λx69=>yk b K (x69.1,(za b q).H,(za b q).h,(za b q).D,(za b q).T,(za b q).Z,x69.2.1,(za b q).C,(za b q).V,(za b q).S,(za b q).n0,(za b q).n1,(za b q).n2,x69.2.2,(za b q).n4,(za b q).n5)))))else(bif (decide (x2.2.1=V7))then(orC (vY { (za b q)with l:=b.l } (((List.length ((za b q).C)):Nat):Int) 30) (λx70=>some (Sum.inl x70)) ((yN { (za b q)with l:=b.l } (((List.length ((za b q).C)):Nat):Int) 30).bind λx71=>(orC (Ky { (za b q)with l:=b.l,i:=x71 }) (λx72=>some (Sum.inl x72)) ((Aa { (za b q)with l:=b.l,i:=x71 }).bind λx73=>(orC (vZ { (za b q)with l:=b.l,i:=x73.2.1,n4:=x73.2.2 } zX) (λx74=>some (Sum.inl x74)) ((xo { (za b q)with l:=b.l,i:=x73.2.1,n4:=x73.2.2 } zX).bind λx75=>(orC (zB { (za b q)with l:=b.l,i:=x75.2,n4:=x73.2.2 } 0 1099511627776) (λx76=>some (Sum.inl x76)) ((zk { (za b q)with l:=b.l,i:=x75.2,n4:=x73.2.2 } 0 1099511627776).bind λx77=>(orC (qp { (za b q)with l:=b.l,i:=x77.2,n4:=x73.2.2 }) (λx78=>some (Sum.inl x78)) ((wD { (za b q)with l:=b.l,i:=x77.2,n4:=x73.2.2 }).bind λx79=>(wV x79.1).bind λx80=>(orC (Ju { (za b q)with l:=b.l,i:=x79.2,n4:=x73.2.2 } x80 10) (λx81=>some (Sum.inl x81)) ((jS { (za b q)with l:=b.l,i:=x79.2,n4:=x73.2.2 } x80 10).bind λx82=>(grd (List.length ((za b q).C++([(Cap.mk x73.1 x75.1 x77.1 x79.1)]:List Cap))*56<=140737488355328)).bind λ_=>yk b K (x82,(za b q).H,(za b q).h,(za b q).D,(za b q).T,(za b q).Z,(za b q).R,((za b q).C++([(Cap.mk x73.1 x75.1 x77.1 x79.1)]:List Cap)),(za b q).V,(za b q).S,(za b q).n0,(za b q).n1,(za b q).n2,(za b q).n3,x73.2.2,(za b q).n5)))))))))))))else(bif (decide (x2.2.1=AJ))then(orC (vY { (za b q)with l:=b.l } (((List.length ((za b q).V)):Nat):Int) 60) (λx84=>some (Sum.inl x84)) ((yN { (za b q)with l:=b.l } (((List.length ((za b q).V)):Nat):Int) 60).bind λx85=>(orC (Wk { (za b q)with l:=b.l,i:=x85 }) (λx86=>some (Sum.inl x86)) ((Jt { (za b q)with l:=b.l,i:=x85 }).bind λx87=>yk b K (x87.1,(za b q).H,(za b q).h,(za b q).D,(za b q).T,(za b q).Z,(za b q).R,(za b q).C,x87.2.1,(za b q).S,(za b q).n0,(za b q).n1,(za b q).n2,(za b q).n3,(za b q).n4,x87.2.2)))))else(bif (decide (x2.2.1=Jm))then(orC (zt { (za b q)with l:=b.l } (decide (((List.length ((za b q).S)):Nat)=0)) 5) (λx88=>some (Sum.inl x88)) ((zf { (za b q)with l:=b.l } (decide (((List.length ((za b q).S)):Nat)=0)) 5).bind λ_=>(orC (zc1 { (za b q)with l:=b.l,i:=(w64 ((za b q).i+1)) }) (λx90=>some (Sum.inl x90)) ((Vb { (za b q)with l:=b.l,i:=(w64 ((za b q).i+1)) }).bind λx91=>yk b K (x91.1,(za b q).H,(za b q).h,(za b q).D,(za b q).T,(za b q).Z,(za b q).R,(za b q).C,(za b q).V,x91.2,(za b q).n0,(za b q).n1,(za b q).n2,(za b q).n3,(za b q).n4,(za b q).n5)))))else(bif (decide (x2.2.1=kE))then(orC (zt { (za b q)with l:=b.l } (!(za b q).h) 5) (λx92=>some (Sum.inl x92)) ((zf { (za b q)with l:=b.l } (!(za b q).h) 5).bind λ_=>(orC (zB { (za b q)with l:=b.l,i:=(w64 ((za b q).i+1)) } 0 24) (λx94=>some (Sum.inl x94)) ((zk { (za b q)with l:=b.l,i:=(w64 ((za b q).i+1)) } 0 24).bind λx95=>(orC (yi { (za b q)with l:=b.l,i:=x95.2,H:=x95.1,h:=true } yg) (λx96=>some (Sum.inl x96)) ((zA { (za b q)with l:=b.l,i:=x95.2,H:=x95.1,h:=true } yg).bind λx97=>yk b K (x97,x95.1,true,(za b q).D,(za b q).T,(za b q).Z,(za b q).R,(za b q).C,(za b q).V,(za b q).S,(za b q).n0,(za b q).n1,(za b q).n2,(za b q).n3,(za b q).n4,(za b q).n5)))))))else(orC (Hw { (za b q)with l:=b.l } 14) (λx98=>some (Sum.inl x98)) none))))))))))else some (Sum.inr ((za b q).i,(za b q).H,(za b q).h,(za b q).D,(za b q).T,(za b q).Z,(za b q).R,(za b q).C,(za b q).V,(za b q).S,(za b q).n0,(za b q).n1,(za b q).n2,(za b q).n3,(za b q).n4,(za b q).n5)))
def zjx(b:BB):Option (Int×Int) :=
 (yk { b with i:=0,D:=[],T:=[],Z:=[],R:=[],C:=[],V:=[],S:=[],H:=0,n0:=[],n1:=[],n2:=[],n3:=[],n4:=[],n5:=[],h:=false } KK (b.i,b.H,b.h,b.D,b.T,b.Z,b.R,b.C,b.V,b.S,b.n0,b.n1,b.n2,b.n3,b.n4,b.n5)).bind (xM some λx1=>none)
def Kz(b:BB):Option (Int×Int×Int×Int×Bool×(List Def)×(List Table)×(List yp)×(List zO)×(List Cap)×(List View)×(List zg)×(List Mb8)×(List Mb8)×(List Mb8)×(List Mb8)×(List Mb8)×(List Mb8)):=(zju b).bind λq=>some ((0:Int),(0:Int),q)
def JB(b:BB):Option (Int×Int):=zjx b
def Hc(s:Bs8):Option (Int×Int×(List zg)×Int×(List Def)×(List Table)×(List yp)×(List zO)×(List Cap)×(List View)) :=
 (zcv s).bind λx1=>(bif (!(decide (x1.2.2=0)))then some (x1.2.1,x1.2.2,[],0,([]:List Def),([]:List Table),([]:List yp),([]:List zO),([]:List Cap),([]:List View))else(orC (Kz (BB.mk x1.1 0 ([]:List Def) ([]:List Table) ([]:List yp) ([]:List zO) ([]:List Cap) ([]:List View) ([]:List zg) 0 ([]:List Mb8) ([]:List Mb8) ([]:List Mb8) ([]:List Mb8) ([]:List Mb8) ([]:List Mb8) false)) (λx3=>(bif (!(decide (x3.2.1=0)))then some (x3.1,x3.2.1,[],0,([]:List Def),([]:List Table),([]:List yp),([]:List zO),([]:List Cap),([]:List View))else some (0,0,x3.2.2.2.2.2.2.2.2.2.2.2.1,x3.2.2.2.1,x3.2.2.2.2.2.1,x3.2.2.2.2.2.2.1,x3.2.2.2.2.2.2.2.1,x3.2.2.2.2.2.2.2.2.1,x3.2.2.2.2.2.2.2.2.2.1,x3.2.2.2.2.2.2.2.2.2.2.1))) (orC (JB (BB.mk x1.1 0 ([]:List Def) ([]:List Table) ([]:List yp) ([]:List zO) ([]:List Cap) ([]:List View) ([]:List zg) 0 ([]:List Mb8) ([]:List Mb8) ([]:List Mb8) ([]:List Mb8) ([]:List Mb8) ([]:List Mb8) false)) (λx2=>(bif (!(decide (x2.2=0)))then some (x2.1,x2.2,[],0,([]:List Def),([]:List Table),([]:List yp),([]:List zO),([]:List Cap),([]:List View))else none)) none)))
def znn(x_:Def):Option (Bs8) :=
 some x_.Name
def oA(c0:Bool)(c1:List Bs8)(c2:Int):Nat->(Int×Mb8)->Option ((Bool)⊕(Unit))
 |0,_=>none
 |K+1,q=>(bif (decide (q.1<c2))then(idx c1 q.1).bind λx1=>((QM x1).bind λx3=>(bif (!x3)then some true else(bif c0 then some ((xe x1 q.2).getD false)else some false))).bind λx2=>(bif x2 then some (Sum.inl false)else oA c0 c1 c2 K ((w64 (q.1+1)),(oc x1 true q.2)))else some (Sum.inr ()))
def qq(l:List Bs8)(unique:Bool):Option (Bool) :=
 (oA unique l (l.length:Int) KK (0,([]:List (Bs8×Bool)))).bind (xM some λ_=>some true)
def JC(c0:List Def)(c1:Int)(c2:Int):Nat->(Int×(List Bs8))->Option ((List Bs8))
 |0,_=>none
 |K+1,q=>(bif (decide (q.1<c2))then(idx c0 q.1).bind λx1=>(znn (Def.mk x1.Name (Expr.mk x1.Body.Op x1.Body.N x1.Body.S x1.Body.Key x1.Body.Args))).bind λx2=>(grd (List.length (q.2++([x2]:List Bs8))*16<=140737488355328)).bind λ_=>JC c0 c1 c2 K ((w64 (q.1+1)),(q.2++([x2]:List Bs8)))else some q.2)
def za0(l:List Def)(most:Int):Option (Bool) :=
 (JC l most (l.length:Int) KK (0,[])).bind λx1=>(bif (decide ((l.length:Int)<=most))then(qq x1 true).bind λx2=>some x2 else some false)
def zno(x_:Table):Option (Bs8) :=
 some x_.Name
def uQ(c0:List Table)(c1:Int)(c2:Int):Nat->(Int×(List Bs8))->Option ((List Bs8))
 |0,_=>none
 |K+1,q=>(bif (decide (q.1<c2))then(idx c0 q.1).bind λx1=>(zno x1).bind λx2=>(grd (List.length (q.2++([x2]:List Bs8))*16<=140737488355328)).bind λ_=>uQ c0 c1 c2 K ((w64 (q.1+1)),(q.2++([x2]:List Bs8)))else some q.2)
def Qn(l:List Table)(most:Int):Option (Bool) :=
 (uQ l most (l.length:Int) KK (0,[])).bind λx1=>(bif (decide ((l.length:Int)<=most))then(qq x1 true).bind λx2=>some x2 else some false)
def znp(x_:yp):Option (Bs8) :=
 some x_.Name
def uR(c0:List yp)(c1:Int)(c2:Int):Nat->(Int×(List Bs8))->Option ((List Bs8))
 |0,_=>none
 |K+1,q=>(bif (decide (q.1<c2))then(idx c0 q.1).bind λx1=>(znp x1).bind λx2=>(grd (List.length (q.2++([x2]:List Bs8))*16<=140737488355328)).bind λ_=>uR c0 c1 c2 K ((w64 (q.1+1)),(q.2++([x2]:List Bs8)))else some q.2)
def Qo(l:List yp)(most:Int):Option (Bool) :=
 (uR l most (l.length:Int) KK (0,[])).bind λx1=>(bif (decide ((l.length:Int)<=most))then(qq x1 true).bind λx2=>some x2 else some false)
def znq(x_:zO):Option (Bs8) :=
 some x_.Name
def uS(c0:List zO)(c1:Int)(c2:Int):Nat->(Int×(List Bs8))->Option ((List Bs8))
 |0,_=>none
 |K+1,q=>(bif (decide (q.1<c2))then(idx c0 q.1).bind λx1=>(znq (zO.mk x1.Name x1.Zones x1.Except x1.From x1.Until x1.Grace x1.Vary x1.Kind (Expr.mk x1.Test.Op x1.Test.N x1.Test.S x1.Test.Key x1.Test.Args) x1.zy x1.Uses x1.Other x1.N)).bind λx2=>(grd (List.length (q.2++([x2]:List Bs8))*16<=140737488355328)).bind λ_=>uS c0 c1 c2 K ((w64 (q.1+1)),(q.2++([x2]:List Bs8)))else some q.2)
def Qp(l:List zO)(most:Int):Option (Bool) :=
 (uS l most (l.length:Int) KK (0,[])).bind λx1=>(bif (decide ((l.length:Int)<=most))then(qq x1 true).bind λx2=>some x2 else some false)
def znr(x_:Cap):Option (Bs8) :=
 some x_.Name
def uT(c0:List Cap)(c1:Int)(c2:Int):Nat->(Int×(List Bs8))->Option ((List Bs8))
 |0,_=>none
 |K+1,q=>(bif (decide (q.1<c2))then(idx c0 q.1).bind λx1=>(znr x1).bind λx2=>(grd (List.length (q.2++([x2]:List Bs8))*16<=140737488355328)).bind λ_=>uT c0 c1 c2 K ((w64 (q.1+1)),(q.2++([x2]:List Bs8)))else some q.2)
def Qq(l:List Cap)(most:Int):Option (Bool) :=
 (uT l most (l.length:Int) KK (0,[])).bind λx1=>(bif (decide ((l.length:Int)<=most))then(qq x1 true).bind λx2=>some x2 else some false)
def zns(x_:View):Option (Bs8) :=
 some x_.Name
def uU(c0:List View)(c1:Int)(c2:Int):Nat->(Int×(List Bs8))->Option ((List Bs8))
 |0,_=>none
 |K+1,q=>(bif (decide (q.1<c2))then(idx c0 q.1).bind λx1=>(zns x1).bind λx2=>(grd (List.length (q.2++([x2]:List Bs8))*16<=140737488355328)).bind λ_=>uU c0 c1 c2 K ((w64 (q.1+1)),(q.2++([x2]:List Bs8)))else some q.2)
def Qr(l:List View)(most:Int):Option (Bool) :=
 (uU l most (l.length:Int) KK (0,[])).bind λx1=>(bif (decide ((l.length:Int)<=most))then(qq x1 true).bind λx2=>some x2 else some false)
def znt(x_:Entry):Option (Bs8) :=
 some x_.Name
def uV(c0:List Entry)(c1:Int)(c2:Int):Nat->(Int×(List Bs8))->Option ((List Bs8))
 |0,_=>none
 |K+1,q=>(bif (decide (q.1<c2))then(idx c0 q.1).bind λx1=>(znt x1).bind λx2=>(grd (List.length (q.2++([x2]:List Bs8))*16<=140737488355328)).bind λ_=>uV c0 c1 c2 K ((w64 (q.1+1)),(q.2++([x2]:List Bs8)))else some q.2)
def Qs(l:List Entry)(most:Int):Option (Bool) :=
 (uV l most (l.length:Int) KK (0,[])).bind λx1=>(bif (decide ((l.length:Int)<=most))then(qq x1 true).bind λx2=>some x2 else some false)
def Af(c0:Int)(c1:Int)(c2:List Int)(c3:Int):Nat->(Int)->Option ((Bool)⊕(Unit))
 |0,_=>none
 |K+1,q=>(bif (decide (q<c3))then(idx c2 q).bind λx1=>((bif (decide (x1<c0))then some true else some (decide (x1>c1)))).bind λx2=>(bif x2 then some (Sum.inl false)else Af c0 c1 c2 c3 K (w64 (q+1)))else some (Sum.inr ()))
def yd(from_:Int)(to_:Int)(l:List Int):Option (Bool) :=
 (Af from_ to_ l (l.length:Int) KK 0).bind (xM some λ_=>some true)
def qs(c0:List Bs8)(c1:List Bs8)(c2:Int):Nat->(Int)->Option ((Bool)⊕(Unit))
 |0,_=>none
 |K+1,q=>(bif (decide (q<c2))then(idx c0 q).bind λx1=>(idx c1 q).bind λx2=>(bif (!(decide (x1=x2)))then some (Sum.inl false)else qs c0 c1 c2 K (w64 (q+1)))else some (Sum.inr ()))
def jD(s1:List Bs8)(s2:List Bs8):Option (Bool) :=
 (bif (!(decide ((s1.length:Int)=(s2.length:Int))))then some false else(qs s1 s2 (s1.length:Int) KK 0).bind (xM some λ_=>some true))
def vI(r_sameExpr:Expr->Expr->Option (Bool))(c0:List Expr)(c1:List Expr)(c2:Int):Nat->(Int)->Option ((Bool)⊕(Unit))
 |0,_=>none
 |K+1,q=>(bif (decide (q<c2))then(idx c1 q).bind λx1=>(idx c0 q).bind λx2=>(r_sameExpr (Expr.mk x1.Op x1.N x1.S x1.Key x1.Args) (Expr.mk x2.Op x2.N x2.S x2.Key x2.Args)).bind λx3=>(bif (!x3)then some (Sum.inl false)else vI r_sameExpr c0 c1 c2 K (w64 (q+1)))else some (Sum.inr ()))
mutual
def vA:Nat->(List Expr)->(List Expr)->Option (Bool)
 |0,_,_=>none
 |RK+1,s1,s2=>(bif (!(decide ((s1.length:Int)=(s2.length:Int))))then some false else(vI (ja RK) s2 s1 (s1.length:Int) KK 0).bind (xM some λ_=>some true))
def ja:Nat->Expr->Expr->Option (Bool)
 |0,_,_=>none
 |RK+1,a,b=>(bif (decide (a.Op=b.Op))then(bif (decide (a.N=b.N))then(bif (decide (a.S=b.S))then(bif (decide (a.Key=b.Key))then(vA RK a.Args b.Args).bind λx1=>some x1 else some false)else some false)else some false)else some false)
end
def qt(a:zO)(b:zO):Option (Bool) :=
 ((jD a.Zones b.Zones).bind λx2=>(bif (!x2)then some true else(jD a.Except b.Except).bind λx3=>(bif (!x3)then some true else(ja KK (Expr.mk a.Test.Op a.Test.N a.Test.S a.Test.Key a.Test.Args) (Expr.mk b.Test.Op b.Test.N b.Test.S b.Test.Key b.Test.Args)).bind λx4=>some (!x4)))).bind λx1=>(bif x1 then some false else((bif (decide (a.Name=b.Name))then(bif (decide (a.From=b.From))then(bif (decide (a.Until=b.Until))then(bif (decide (a.Grace=b.Grace))then some (a.Vary==b.Vary)else some false)else some false)else some false)else some false)).bind λx5=>(bif x5 then(bif (decide (a.Kind=b.Kind))then(bif (decide (a.zy.Side=b.zy.Side)&&(decide (a.zy.Base=b.zy.Base)&&(decide (a.zy.Num=b.zy.Num)&&(decide (a.zy.Den=b.zy.Den)))))then(bif (decide (a.Uses=b.Uses))then(bif (decide (a.Other=b.Other))then some (decide (a.N=b.N))else some false)else some false)else some false)else some false)else some false))
def Ag(r_:zO):Option (Bool) :=
 ((qq r_.Zones false).bind λx2=>(bif (!x2)then some true else(qq r_.Except false).bind λx3=>(bif (!x3)then some true else(yd 0 1073741824 ([r_.From,r_.Grace,r_.Until]:List Int)).bind λx4=>(bif (!x4)then some true else(bif (!(decide (r_.Until=0)))then some (decide (r_.Until<=r_.From))else some false))))).bind λx1=>(bif x1 then some false else((bif (decide (r_.Kind=0))then(jR (Expr.mk r_.Test.Op r_.Test.N r_.Test.S r_.Test.Key r_.Test.Args)).bind λx6=>some (x6,r_.Test.Op,r_.Test.N,r_.Test.S,r_.Test.Key,r_.Test.Args,0,0,0,0,0,0,0)else(bif (decide (r_.Kind=1))then(yd 0 3 ([r_.zy.Side]:List Int)).bind λx7=>(bif x7 then(yd 0 4096 ([r_.zy.Base,r_.zy.Num]:List Int)).bind λx8=>(bif x8 then(yd 1 4096 ([r_.zy.Den]:List Int)).bind λx9=>some (x9,0,0,([]:Bs8),([]:Bs8),[],r_.zy.Side,r_.zy.Base,r_.zy.Num,r_.zy.Den,0,0,0)else some (false,0,0,([]:Bs8),([]:Bs8),[],r_.zy.Side,r_.zy.Base,r_.zy.Num,r_.zy.Den,0,0,0))else some (false,0,0,([]:Bs8),([]:Bs8),[],r_.zy.Side,r_.zy.Base,r_.zy.Num,r_.zy.Den,0,0,0))else(bif (decide (r_.Kind=2))then(yd 1 63 ([r_.Uses]:List Int)).bind λx10=>some (x10,0,0,([]:Bs8),([]:Bs8),[],0,0,0,0,r_.Uses,0,0)else(bif (decide (r_.Kind=3))then(yd 0 5 ([r_.Uses,r_.Other]:List Int)).bind λx11=>(bif x11 then(yd 0 1048576 ([r_.N]:List Int)).bind λx12=>some (x12,0,0,([]:Bs8),([]:Bs8),[],0,0,0,0,r_.Uses,r_.Other,r_.N)else some (false,0,0,([]:Bs8),([]:Bs8),[],0,0,0,0,r_.Uses,r_.Other,r_.N))else some (false,0,0,([]:Bs8),([]:Bs8),[],0,0,0,0,0,0,0)))))).bind λx5=>(bif x5.1 then(qt (zO.mk r_.Name r_.Zones r_.Except r_.From r_.Until r_.Grace r_.Vary r_.Kind (Expr.mk r_.Test.Op r_.Test.N r_.Test.S r_.Test.Key r_.Test.Args) r_.zy r_.Uses r_.Other r_.N) (zO.mk r_.Name r_.Zones r_.Except r_.From r_.Until r_.Grace r_.Vary r_.Kind (Expr.mk x5.2.1 x5.2.2.1 x5.2.2.2.1 x5.2.2.2.2.1 x5.2.2.2.2.2.1) (zy.mk x5.2.2.2.2.2.2.1 x5.2.2.2.2.2.2.2.1 x5.2.2.2.2.2.2.2.2.1 x5.2.2.2.2.2.2.2.2.2.1) x5.2.2.2.2.2.2.2.2.2.2.1 x5.2.2.2.2.2.2.2.2.2.2.2.1 x5.2.2.2.2.2.2.2.2.2.2.2.2)).bind λx13=>some x13 else some false))
def oB(c0:List Def)(c1:Int)(c2:List Table)(c3:List yp)(c4:List zO)(c5:List Cap)(c6:List View)(c7:List zg)(c8:Int):Nat->(Int)->Option ((Bool)⊕(Unit))
 |0,_=>none
 |K+1,q=>(bif (decide (q<c1))then(idx c0 q).bind λx1=>(jR (Expr.mk x1.Body.Op x1.Body.N x1.Body.S x1.Body.Key x1.Body.Args)).bind λx2=>(bif (!x2)then some (Sum.inl false)else oB c0 c1 c2 c3 c4 c5 c6 c7 c8 K (w64 (q+1)))else some (Sum.inr ()))
def Hz(c0:List Table)(c1:Int)(c2:Int)(c3:List Entry)(c4:Int)(c5:List Def)(c6:List yp)(c7:List zO)(c8:List Cap)(c9:List View)(c10:List zg)(c11:Int):Nat->(Int)->Option ((Bool)⊕(Unit))
 |0,_=>none
 |K+1,q=>(bif (decide (q<c4))then(idx c3 q).bind λx1=>(yd (-1099511627776) 1099511627776 ([x1.N]:List Int)).bind λx2=>(bif (!x2)then some (Sum.inl false)else Hz c0 c1 c2 c3 c4 c5 c6 c7 c8 c9 c10 c11 K (w64 (q+1)))else some (Sum.inr ()))
def qu(c0:List Table)(c1:Int)(c2:List Def)(c3:List yp)(c4:List zO)(c5:List Cap)(c6:List View)(c7:List zg)(c8:Int):Nat->(Int)->Option ((Bool)⊕(Unit))
 |0,_=>none
 |K+1,q=>(bif (decide (q<c1))then(idx c0 q).bind λx1=>((Qs x1.Rows 60).bind λx3=>(bif (!x3)then some true else(yd (-1099511627776) 1099511627776 ([x1.Else]:List Int)).bind λx4=>some (!x4))).bind λx2=>(bif x2 then some (Sum.inl false)else(Hz c0 c1 q x1.Rows (x1.Rows.length:Int) c2 c3 c4 c5 c6 c7 c8 KK 0).bind (xM (λq=>some (Sum.inl q)) λ_=>qu c0 c1 c2 c3 c4 c5 c6 c7 c8 K (w64 (q+1))))else some (Sum.inr ()))
def oC(c0:List yp)(c1:Int)(c2:List Def)(c3:List Table)(c4:List zO)(c5:List Cap)(c6:List View)(c7:List zg)(c8:Int):Nat->(Int)->Option ((Bool)⊕(Unit))
 |0,_=>none
 |K+1,q=>(bif (decide (q<c1))then(idx c0 q).bind λx1=>(wV x1.Corners).bind λx2=>(bif (!x2)then some (Sum.inl false)else oC c0 c1 c2 c3 c4 c5 c6 c7 c8 K (w64 (q+1)))else some (Sum.inr ()))
def oD(c0:List zO)(c1:Int)(c2:List Def)(c3:List Table)(c4:List yp)(c5:List Cap)(c6:List View)(c7:List zg)(c8:Int):Nat->(Int)->Option ((Bool)⊕(Unit))
 |0,_=>none
 |K+1,q=>(bif (decide (q<c1))then(idx c0 q).bind λx1=>(Ag (zO.mk x1.Name x1.Zones x1.Except x1.From x1.Until x1.Grace x1.Vary x1.Kind (Expr.mk x1.Test.Op x1.Test.N x1.Test.S x1.Test.Key x1.Test.Args) x1.zy x1.Uses x1.Other x1.N)).bind λx2=>(bif (!x2)then some (Sum.inl false)else oD c0 c1 c2 c3 c4 c5 c6 c7 c8 K (w64 (q+1)))else some (Sum.inr ()))
def oE(c0:List Cap)(c1:Int)(c2:List Def)(c3:List Table)(c4:List yp)(c5:List zO)(c6:List View)(c7:List zg)(c8:Int):Nat->(Int)->Option ((Bool)⊕(Unit))
 |0,_=>none
 |K+1,q=>(bif (decide (q<c1))then(idx c0 q).bind λx1=>((yd 0 2 ([x1.Load]:List Int)).bind λx3=>(bif (!x3)then some true else(yd 0 1099511627776 ([x1.Limit]:List Int)).bind λx4=>(bif (!x4)then some true else(wV x1.Corners).bind λx5=>some (!x5)))).bind λx2=>(bif x2 then some (Sum.inl false)else oE c0 c1 c2 c3 c4 c5 c6 c7 c8 K (w64 (q+1)))else some (Sum.inr ()))
def HA(c0:List View)(c1:Int)(c2:Int)(c3:Int)(c4:List Def)(c5:List Table)(c6:List yp)(c7:List zO)(c8:List Cap)(c9:List zg)(c10:Int)(c11:List zg):Nat->(Int)->Option ((Bool)⊕(Unit))
 |0,_=>none
 |K+1,q=>(bif (decide (q<c3))then(grd (0<=q/\q<(((List.length c11):Nat):Int))).bind λ_=>((c11)[(Int.toNat q)]?).bind λx2=>((yd 0 1048576 ([x2.X,x2.Y]:List Int)).bind λx4=>(bif (!x4)then some true else(yd 0 4096 ([x2.Z_]:List Int)).bind λx5=>some (!x5))).bind λx3=>(bif x3 then some (Sum.inl false)else HA c0 c1 c2 c3 c4 c5 c6 c7 c8 c9 c10 c11 K (w64 (q+1)))else some (Sum.inr ()))
def qv(c0:List View)(c1:Int)(c2:List Def)(c3:List Table)(c4:List yp)(c5:List zO)(c6:List Cap)(c7:List zg)(c8:Int):Nat->(Int)->Option ((Bool)⊕(Unit))
 |0,_=>none
 |K+1,q=>(bif (decide (q<c1))then(idx c0 q).bind λx1=>((yd 0 20 ([x1.Least]:List Int)).bind λx3=>(bif (!x3)then some true else(yd 1 20 ([(x1.Targets.length:Int)]:List Int)).bind λx4=>some (!x4))).bind λx2=>(bif x2 then some (Sum.inl false)else(grd (List.length (([x1.Eye]:List zg)++x1.Targets)*24<=140737488355328)).bind λ_=>(HA c0 c1 q (((List.length (([x1.Eye]:List zg)++x1.Targets)):Nat):Int) c2 c3 c4 c5 c6 c7 c8 (([x1.Eye]:List zg)++x1.Targets) KK 0).bind (xM (λq=>some (Sum.inl q)) λ_=>qv c0 c1 c2 c3 c4 c5 c6 c7 c8 K (w64 (q+1))))else some (Sum.inr ()))
def oF(c0:List zg)(c1:Int)(c2:List Def)(c3:List Table)(c4:List yp)(c5:List zO)(c6:List Cap)(c7:List View)(c8:Int):Nat->(Int)->Option ((Bool)⊕(Unit))
 |0,_=>none
 |K+1,q=>(bif (decide (q<c1))then(idx c0 q).bind λx1=>((yd (-4096) 4096 ([x1.X,x1.Y]:List Int)).bind λx3=>(bif (!x3)then some true else(yd 1 4096 ([x1.Z_]:List Int)).bind λx4=>some (!x4))).bind λx2=>(bif x2 then some (Sum.inl false)else oF c0 c1 c2 c3 c4 c5 c6 c7 c8 K (w64 (q+1)))else some (Sum.inr ()))
def Hd(p:yX):Option (Bool) :=
 ((za0 p.Defs 60).bind λx2=>(bif (!x2)then some true else(Qn p.Tables 60).bind λx3=>(bif (!x3)then some true else(Qo p.Zones 60).bind λx4=>(bif (!x4)then some true else(Qp p.Rules 200).bind λx5=>(bif (!x5)then some true else(Qq p.Caps 30).bind λx6=>(bif (!x6)then some true else(Qr p.Views 60).bind λx7=>some (!x7))))))).bind λx1=>(bif x1 then some false else(oB p.Defs (p.Defs.length:Int) p.Tables p.Zones p.Rules p.Caps p.Views p.Sun p.Hours KK 0).bind (xM some λ_=>(qu p.Tables (p.Tables.length:Int) p.Defs p.Zones p.Rules p.Caps p.Views p.Sun p.Hours KK 0).bind (xM some λ_=>(oC p.Zones (p.Zones.length:Int) p.Defs p.Tables p.Rules p.Caps p.Views p.Sun p.Hours KK 0).bind (xM some λ_=>(oD p.Rules (p.Rules.length:Int) p.Defs p.Tables p.Zones p.Caps p.Views p.Sun p.Hours KK 0).bind (xM some λ_=>(oE p.Caps (p.Caps.length:Int) p.Defs p.Tables p.Zones p.Rules p.Views p.Sun p.Hours KK 0).bind (xM some λ_=>(qv p.Views (p.Views.length:Int) p.Defs p.Tables p.Zones p.Rules p.Caps p.Sun p.Hours KK 0).bind (xM some λ_=>(oF p.Sun (p.Sun.length:Int) p.Defs p.Tables p.Zones p.Rules p.Caps p.Views p.Hours KK 0).bind (xM some λ_=>(yd 0 24 ([p.Hours,(p.Sun.length:Int)]:List Int)).bind λx15=>some x15))))))))
def HB(a0:Bs8):Option (Bs8):=some a0
def JD(a0:Bs8)(a1:Int):Option (Bs8):=zuj a0 a1
def Ah(a0:Bs8)(a1:Bs8):Option (Int×Bs8):=(grd (List.length a0+List.length a1<=140737488355328)).bind λ_=>some ((a1.length:Int),a0++a1)
def oG(c0:List (Int⊕Bs8))(c1:Int):Nat->(Bs8×Int)->Option (Bs8)
 |0,_=>none
 |K+1,q=>(bif (decide (q.2<c1))then((idx c0 q.2).bind λx2=>((HB q.1).bind λx4=>((bif (!(decide (x4=([]:Bs8))))then(idx x4 (w64 ((x4.length:Int)-1))).bind λx6=>some (!(decide (((x6.toNat:Nat):Int)=10)))else some false)).bind λx5=>(bif x5 then(JD q.1 32).bind λx7=>some x7 else some q.1)).bind λx3=>(bif (zPy x2)then(Ah x3 (anyS x2)).bind λx8=>some x8.2 else(bif (!(zPy x2))then((bif (decide ((anyI x2)<0))then(Ah x3 J2).bind λx10=>some (x10.2,(w64 (0-(anyI x2))))else some (x3,(anyI x2)))).bind λx9=>(Zp x9.2).bind λx11=>(Ah x9.1 x11).bind λx12=>some x12.2 else some x3))).bind λx1=>oG c0 c1 K (x1,(w64 (q.2+1)))else some q.1)
def yw(b:Bs8)(l:List (Int⊕Bs8)):Option (Bs8) :=
 (oG l (l.length:Int) KK (b,0)).bind λx1=>some x1
def qw(b:Bs8):Option (Bs8) :=
 (yw b ([(Sum.inr yg)]:List (Int⊕Bs8))).bind λx1=>(JD x1 10).bind λx2=>some x2
def Qt(b:Bs8)(e:Expr):Option (Bs8) :=
 (xU KK ([]:Bs8) (Expr.mk e.Op e.N e.S e.Key e.Args) 0).bind λx1=>(qg x1).bind λx2=>(yw b ([(Sum.inr x2)]:List (Int⊕Bs8))).bind λx3=>(qw x3).bind λx4=>some x4
def xY(c0:List zV)(c1:Int):Nat->(Bs8×Int)->Option (Bs8)
 |0,_=>none
 |K+1,q=>(bif (decide (q.2<c1))then(idx c0 q.2).bind λx1=>(yw q.1 ([(Sum.inl x1.X),(Sum.inl x1.Y)]:List (Int⊕Bs8))).bind λx2=>xY c0 c1 K (x2,(w64 (q.2+1)))else some q.1)
def HC(b:Bs8)(l:List zV):Option (Bs8) :=
 (xY l (l.length:Int) KK (b,0)).bind λx1=>(qw x1).bind λx2=>some x2
def znu(a0:List Bs8)(a1:Bs8):Option (Bs8):=J.qJ a0 a1
def jT(c0:Int)(c1:Bs8)(c2:List Bs8)(c3:List Bs8)(c4:Int)(c5:Int)(c6:Int)(c7:Bool)(c8:Int)(c9:Int)(c10:Int)(c11:Bs8)(c12:Bs8)(c13:List Expr)(c14:Int)(c15:Int)(c16:Int)(c17:Int)(c18:Int)(c19:Int)(c20:Int)(c21:(List (List Bs8))):Nat->(Bs8×Int)->Option (Bs8)
 |0,_=>none
 |K+1,q=>(bif (decide (q.2<c0))then((grd (0<=q.2/\q.2<(((List.length c21):Nat):Int))).bind λ_=>((c21)[(Int.toNat q.2)]?).bind λx3=>(bif (decide ((x3.length:Int)>0))then(grd (0<=q.2/\q.2<((2:Nat):Int))).bind λ_=>((([ze1,yU]:List Bs8))[(Int.toNat q.2)]?).bind λx5=>(znu x3 t__).bind λx6=>(yw q.1 ([(Sum.inr x5),(Sum.inr x6)]:List (Int⊕Bs8))).bind λx7=>some x7 else some q.1)).bind λx1=>jT c0 c1 c2 c3 c4 c5 c6 c7 c8 c9 c10 c11 c12 c13 c14 c15 c16 c17 c18 c19 c20 c21 K (x1,(w64 (q.2+1)))else some q.1)
def vJ(c0:Int)(c1:Bs8)(c2:List Bs8)(c3:List Bs8)(c4:Int)(c5:Int)(c6:Int)(c7:Bool)(c8:Int)(c9:Int)(c10:Int)(c11:Bs8)(c12:Bs8)(c13:List Expr)(c14:Int)(c15:Int)(c16:Int)(c17:Int)(c18:Int)(c19:Int)(c20:Int)(c21:List Int):Nat->(Bs8×Int)->Option (Bs8)
 |0,_=>none
 |K+1,q=>(bif (decide (q.2<c0))then((grd (0<=q.2/\q.2<(((List.length c21):Nat):Int))).bind λ_=>((c21)[(Int.toNat q.2)]?).bind λx3=>(bif (!(decide (x3=0)))then(grd (0<=q.2/\q.2<((3:Nat):Int))).bind λ_=>((([vw,xC,xO]:List Bs8))[(Int.toNat q.2)]?).bind λx5=>(yw q.1 ([(Sum.inr x5),(Sum.inl x3)]:List (Int⊕Bs8))).bind λx6=>some x6 else some q.1)).bind λx1=>vJ c0 c1 c2 c3 c4 c5 c6 c7 c8 c9 c10 c11 c12 c13 c14 c15 c16 c17 c18 c19 c20 c21 K (x1,(w64 (q.2+1)))else some q.1)
def wg(c0:Int)(c1:Bs8)(c2:List Bs8)(c3:List Bs8)(c4:Int)(c5:Int)(c6:Int)(c7:Bool)(c8:Int)(c9:Int)(c10:Int)(c11:Bs8)(c12:Bs8)(c13:List Expr)(c14:Int)(c15:Int)(c16:Int)(c17:Int)(c18:Int)(c19:Int)(c20:Int)(c21:List Bs8):Nat->(Bs8×Int)->Option (Bs8)
 |0,_=>none
 |K+1,q=>(bif (decide (q.2<c0))then((grd (0<=q.2/\q.2<(((List.length c21):Nat):Int))).bind λ_=>((c21)[(Int.toNat q.2)]?).bind λx3=>(grd (0<=q.2)).bind λ_=>(bif (decide ((IntKind.i64.wrap ((BitVec.ofInt IntKind.i64.bits (Int.fdiv c18 (2 ^ (min (Int.toNat q.2) IntKind.i64.bits))) &&& BitVec.ofInt IntKind.i64.bits 1).toNat:Int))=1))then(yw q.1 ([(Sum.inr x3)]:List (Int⊕Bs8))).bind λx5=>some x5 else some q.1)).bind λx1=>wg c0 c1 c2 c3 c4 c5 c6 c7 c8 c9 c10 c11 c12 c13 c14 c15 c16 c17 c18 c19 c20 c21 K (x1,(w64 (q.2+1)))else some q.1)
def za1(b:Bs8)(r_:zO):Option (Bs8) :=
 (yw b ([(Sum.inr ua),(Sum.inr r_.Name)]:List (Int⊕Bs8))).bind λx1=>(jT ((2:Nat):Int) r_.Name r_.Zones r_.Except r_.From r_.Until r_.Grace r_.Vary r_.Kind r_.Test.Op r_.Test.N r_.Test.S r_.Test.Key r_.Test.Args r_.zy.Side r_.zy.Base r_.zy.Num r_.zy.Den r_.Uses r_.Other r_.N ([r_.Zones,r_.Except]:List (List Bs8)) KK (x1,0)).bind λx2=>(vJ ((3:Nat):Int) r_.Name r_.Zones r_.Except r_.From r_.Until r_.Grace r_.Vary r_.Kind r_.Test.Op r_.Test.N r_.Test.S r_.Test.Key r_.Test.Args r_.zy.Side r_.zy.Base r_.zy.Num r_.zy.Den r_.Uses r_.Other r_.N ([r_.From,r_.Until,r_.Grace]:List Int) KK (x2,0)).bind λx3=>((bif r_.Vary then(yw x3 ([(Sum.inr wm)]:List (Int⊕Bs8))).bind λx5=>some x5 else some x3)).bind λx4=>(yw x4 ([(Sum.inr xI)]:List (Int⊕Bs8))).bind λx6=>(vz zj).bind λx7=>((bif (decide (r_.Kind=0))then(Qt x6 (Expr.mk r_.Test.Op r_.Test.N r_.Test.S r_.Test.Key r_.Test.Args)).bind λx9=>some (Sum.inl x9)else(bif (decide (r_.Kind=1))then(yw x6 ([(Sum.inr qi),(Sum.inl r_.zy.Side),(Sum.inr AI),(Sum.inl r_.zy.Base),(Sum.inr jx),(Sum.inl r_.zy.Num),(Sum.inl r_.zy.Den)]:List (Int⊕Bs8))).bind λx10=>some (Sum.inr x10)else(bif (decide (r_.Kind=3))then(grd (0<=r_.Uses/\r_.Uses<(((List.length x7):Nat):Int))).bind λ_=>((x7)[(Int.toNat r_.Uses)]?).bind λx12=>(grd (0<=r_.Other/\r_.Other<(((List.length x7):Nat):Int))).bind λ_=>((x7)[(Int.toNat r_.Other)]?).bind λx14=>(yw x6 ([(Sum.inr qh),(Sum.inr x12),(Sum.inr x14),(Sum.inl r_.N)]:List (Int⊕Bs8))).bind λx15=>some (Sum.inr x15)else(bif (decide (r_.Kind=2))then(yw x6 ([(Sum.inr oW)]:List (Int⊕Bs8))).bind λx16=>(wg (((List.length x7):Nat):Int) r_.Name r_.Zones r_.Except r_.From r_.Until r_.Grace r_.Vary r_.Kind r_.Test.Op r_.Test.N r_.Test.S r_.Test.Key r_.Test.Args r_.zy.Side r_.zy.Base r_.zy.Num r_.zy.Den r_.Uses r_.Other r_.N x7 KK (x16,0)).bind λx17=>some (Sum.inr x17)else some (Sum.inr x6)))))).bind (xM some λx8=>(qw x8).bind λx18=>some x18)
def zri(a0:Bs8):Option (Int):=some (a0.length:Int)
def jb(c0:List Def)(c1:Int)(c2:List Table)(c3:List yp)(c4:List zO)(c5:List Cap)(c6:List View)(c7:List zg)(c8:Int):Nat->(Int×Bs8)->Option (Bs8)
 |0,_=>none
 |K+1,q=>(bif (decide (q.1<c1))then(idx c0 q.1).bind λx1=>(yw q.2 ([(Sum.inr wR),(Sum.inr x1.Name),(Sum.inr Az)]:List (Int⊕Bs8))).bind λx2=>(Qt x2 (Expr.mk x1.Body.Op x1.Body.N x1.Body.S x1.Body.Key x1.Body.Args)).bind λx3=>jb c0 c1 c2 c3 c4 c5 c6 c7 c8 K ((w64 (q.1+1)),x3)else some q.2)
def jc(c0:List Table)(c1:Int)(c2:Int)(c3:List Entry)(c4:Int)(c5:List Def)(c6:List yp)(c7:List zO)(c8:List Cap)(c9:List View)(c10:List zg)(c11:Int)(c12:Bs8)(c13:Int):Nat->(Int×Bs8)->Option (Bs8)
 |0,_=>none
 |K+1,q=>(bif (decide (q.1<c4))then(idx c3 q.1).bind λx1=>(yw q.2 ([(Sum.inr x1.Name),(Sum.inl x1.N)]:List (Int⊕Bs8))).bind λx2=>jc c0 c1 c2 c3 c4 c5 c6 c7 c8 c9 c10 c11 c12 c13 K ((w64 (q.1+1)),x2)else some q.2)
def jd(c0:List Table)(c1:Int)(c2:List Def)(c3:List yp)(c4:List zO)(c5:List Cap)(c6:List View)(c7:List zg)(c8:Int):Nat->(Int×Bs8)->Option (Bs8)
 |0,_=>none
 |K+1,q=>(bif (decide (q.1<c1))then(idx c0 q.1).bind λx1=>(yw q.2 ([(Sum.inr yz),(Sum.inr x1.Name)]:List (Int⊕Bs8))).bind λx2=>(jc c0 c1 q.1 x1.Rows (x1.Rows.length:Int) c2 c3 c4 c5 c6 c7 c8 x1.Name x1.Else KK (0,x2)).bind λx3=>(yw x3 ([(Sum.inr yY),(Sum.inl x1.Else)]:List (Int⊕Bs8))).bind λx4=>(qw x4).bind λx5=>jd c0 c1 c2 c3 c4 c5 c6 c7 c8 K ((w64 (q.1+1)),x5)else some q.2)
def je(c0:List yp)(c1:Int)(c2:List Def)(c3:List Table)(c4:List zO)(c5:List Cap)(c6:List View)(c7:List zg)(c8:Int):Nat->(Int×Bs8)->Option (Bs8)
 |0,_=>none
 |K+1,q=>(bif (decide (q.1<c1))then(idx c0 q.1).bind λx1=>((bif x1.Overlay then some yI else some xh)).bind λx2=>(yw q.2 ([(Sum.inr x2),(Sum.inr x1.Name)]:List (Int⊕Bs8))).bind λx3=>(HC x3 x1.Corners).bind λx4=>je c0 c1 c2 c3 c4 c5 c6 c7 c8 K ((w64 (q.1+1)),x4)else some q.2)
def jf(c0:List zO)(c1:Int)(c2:List Def)(c3:List Table)(c4:List yp)(c5:List Cap)(c6:List View)(c7:List zg)(c8:Int):Nat->(Int×Bs8)->Option (Bs8)
 |0,_=>none
 |K+1,q=>(bif (decide (q.1<c1))then(idx c0 q.1).bind λx1=>(za1 q.2 (zO.mk x1.Name x1.Zones x1.Except x1.From x1.Until x1.Grace x1.Vary x1.Kind (Expr.mk x1.Test.Op x1.Test.N x1.Test.S x1.Test.Key x1.Test.Args) x1.zy x1.Uses x1.Other x1.N)).bind λx2=>jf c0 c1 c2 c3 c4 c5 c6 c7 c8 K ((w64 (q.1+1)),x2)else some q.2)
def jg(c0:List Cap)(c1:Int)(c2:List Def)(c3:List Table)(c4:List yp)(c5:List zO)(c6:List View)(c7:List zg)(c8:Int):Nat->(Int×Bs8)->Option (Bs8)
 |0,_=>none
 |K+1,q=>(bif (decide (q.1<c1))then(idx c0 q.1).bind λx1=>(vz zX).bind λx2=>(grd (0<=x1.Load/\x1.Load<(((List.length x2):Nat):Int))).bind λ_=>((x2)[(Int.toNat x1.Load)]?).bind λx4=>(yw q.2 ([(Sum.inr V7),(Sum.inr x1.Name),(Sum.inr x4),(Sum.inl x1.Limit)]:List (Int⊕Bs8))).bind λx5=>(HC x5 x1.Corners).bind λx6=>jg c0 c1 c2 c3 c4 c5 c6 c7 c8 K ((w64 (q.1+1)),x6)else some q.2)
def jh(c0:List View)(c1:Int)(c2:Int)(c3:List zg)(c4:Int)(c5:List Def)(c6:List Table)(c7:List yp)(c8:List zO)(c9:List Cap)(c10:List zg)(c11:Int):Nat->(Int×Bs8)->Option (Bs8)
 |0,_=>none
 |K+1,q=>(bif (decide (q.1<c4))then(idx c3 q.1).bind λx1=>(yw q.2 ([(Sum.inl x1.X),(Sum.inl x1.Y),(Sum.inl x1.Z_)]:List (Int⊕Bs8))).bind λx2=>jh c0 c1 c2 c3 c4 c5 c6 c7 c8 c9 c10 c11 K ((w64 (q.1+1)),x2)else some q.2)
def ji(c0:List View)(c1:Int)(c2:List Def)(c3:List Table)(c4:List yp)(c5:List zO)(c6:List Cap)(c7:List zg)(c8:Int):Nat->(Int×Bs8)->Option (Bs8)
 |0,_=>none
 |K+1,q=>(bif (decide (q.1<c1))then(idx c0 q.1).bind λx1=>(yw q.2 ([(Sum.inr AJ),(Sum.inr x1.Name),(Sum.inl x1.Eye.X),(Sum.inl x1.Eye.Y),(Sum.inl x1.Eye.Z_),(Sum.inr vG),(Sum.inl x1.Least),(Sum.inr xI)]:List (Int⊕Bs8))).bind λx2=>(jh c0 c1 q.1 x1.Targets (x1.Targets.length:Int) c2 c3 c4 c5 c6 c7 c8 KK (0,x2)).bind λx3=>(qw x3).bind λx4=>ji c0 c1 c2 c3 c4 c5 c6 c7 c8 K ((w64 (q.1+1)),x4)else some q.2)
def jj(c0:List zg)(c1:Int)(c2:List Def)(c3:List Table)(c4:List yp)(c5:List zO)(c6:List Cap)(c7:List View)(c8:Int):Nat->(Int×Bs8)->Option (Bs8)
 |0,_=>none
 |K+1,q=>(bif (decide (q.1<c1))then(idx c0 q.1).bind λx1=>(grd (0<=(min q.1 1)/\(min q.1 1)<((2:Nat):Int))).bind λ_=>((([Jm,qa]:List Bs8))[(Int.toNat (min q.1 1))]?).bind λx3=>(yw q.2 ([(Sum.inr x3),(Sum.inl x1.X),(Sum.inl x1.Y),(Sum.inl x1.Z_)]:List (Int⊕Bs8))).bind λx4=>jj c0 c1 c2 c3 c4 c5 c6 c7 c8 K ((w64 (q.1+1)),x4)else some q.2)
def YI(p:yX):Option (Bs8×Int) :=
 (Hd p).bind λx1=>(bif (!x1)then some (([]:Bs8),1)else(jb p.Defs (p.Defs.length:Int) p.Tables p.Zones p.Rules p.Caps p.Views p.Sun p.Hours KK (0,([]:Bs8))).bind λx2=>(jd p.Tables (p.Tables.length:Int) p.Defs p.Zones p.Rules p.Caps p.Views p.Sun p.Hours KK (0,x2)).bind λx3=>(je p.Zones (p.Zones.length:Int) p.Defs p.Tables p.Rules p.Caps p.Views p.Sun p.Hours KK (0,x3)).bind λx4=>(jf p.Rules (p.Rules.length:Int) p.Defs p.Tables p.Zones p.Caps p.Views p.Sun p.Hours KK (0,x4)).bind λx5=>(jg p.Caps (p.Caps.length:Int) p.Defs p.Tables p.Zones p.Rules p.Views p.Sun p.Hours KK (0,x5)).bind λx6=>(ji p.Views (p.Views.length:Int) p.Defs p.Tables p.Zones p.Rules p.Caps p.Sun p.Hours KK (0,x6)).bind λx7=>(jj p.Sun (p.Sun.length:Int) p.Defs p.Tables p.Zones p.Rules p.Caps p.Views p.Hours KK (0,x7)).bind λx8=>((bif (decide ((p.Sun.length:Int)>0))then(qw x8).bind λx10=>some x10 else some x8)).bind λx9=>((bif (!(decide (p.Hours=0)))then(yw x9 ([(Sum.inr kE),(Sum.inl p.Hours)]:List (Int⊕Bs8))).bind λx12=>(qw x12).bind λx13=>some x13 else some x9)).bind λx11=>(zri x11).bind λx14=>(bif (decide (x14>8000))then some (([]:Bs8),6)else(HB x11).bind λx15=>some (x15,0)))
def JE:Option (Bool) :=
 (zcx zcu).bind λx1=>(Q9 (Expr.mk x1.2.2.1 x1.2.2.2.1 x1.2.2.2.2.1 x1.2.2.2.2.2.1 x1.2.2.2.2.2.2)).bind λx2=>(Q9 (Expr.mk 6 0 ([]:Bs8) ([]:Bs8) ([(Expr.mk 0 2 ([]:Bs8) ([]:Bs8) []),(Expr.mk 4 0 ([]:Bs8) ([]:Bs8) ([(Expr.mk 1 0 t_a ([]:Bs8) []),(Expr.mk 1 0 t_b ([]:Bs8) [])]:List Expr))]:List Expr))).bind λx3=>(Hc ub).bind λx4=>(Hc zjt).bind λx5=>(Hc QC).bind λx6=>(Hc V8).bind λx7=>(Hc Jn).bind λx8=>(Hc uu).bind λx9=>((bif (decide (x1.2.1=0))then(bif (decide (x2.2=0))then(bif (decide (x2.1=Kq))then(bif (decide (x3.2=0))then(bif (decide (x3.1=Jl))then(bif (decide (x4.2.1=0))then(bif (decide ((((List.length x4.2.2.2.2.2.2.1):Nat):Int)=1))then(grd ((0:Int)<=0/\0<(((List.length x4.2.2.2.2.2.2.1):Nat):Int))).bind λ_=>((x4.2.2.2.2.2.2.1)[(Int.toNat 0)]?).bind λx12=>some (decide ((x12.Corners.length:Int)=4))else some false)else some false)else some false)else some false)else some false)else some false)else some false)).bind λx10=>((bif (decide (x5.1=6))then(bif (decide (x5.2.1=3))then(bif (decide (x6.1=7))then(bif (decide (x6.2.1=14))then(bif (decide (x7.1=11))then(bif (decide (x7.2.1=14))then(bif (decide (x8.1=18))then(bif (decide (x8.2.1=10))then(bif (decide (x9.1=18))then some (decide (x9.2.1=5))else some false)else some false)else some false)else some false)else some false)else some false)else some false)else some false)else some false)).bind λx13=>(YI (yX.mk x4.2.2.2.2.1 x4.2.2.2.2.2.1 x4.2.2.2.2.2.2.1 x4.2.2.2.2.2.2.2.1 x4.2.2.2.2.2.2.2.2.1 x4.2.2.2.2.2.2.2.2.2 x4.2.2.1 x4.2.2.2.1)).bind λx14=>(bif x10 then(bif x13 then(bif (decide (x14.2=0))then(bif (decide (x14.1=ku))then(Hd (yX.mk x4.2.2.2.2.1 x4.2.2.2.2.2.1 x4.2.2.2.2.2.2.1 x4.2.2.2.2.2.2.2.1 x4.2.2.2.2.2.2.2.2.1 x4.2.2.2.2.2.2.2.2.2 x4.2.2.1 x4.2.2.2.1)).bind λx15=>(bif x15 then(Hd (yX.mk [] [] [] [] [] [] [] 25)).bind λx16=>(bif (!x16)then(QM t_a1).bind λx17=>(bif x17 then(QM ua).bind λx18=>some (!x18)else some false)else some false)else some false)else some false)else some false)else some false)else some false)
def vn(r_law_nodes:Expr->Int->Option (Int))(c0:Int)(c1:Int)(c2:Int)(c3:Bs8)(c4:Bs8)(c5:List Expr):Nat->(Int×Int)->Option (Int)
 |0,_=>none
 |K+1,q=>((bif (decide (q.2<(c5.length:Int)))then some (decide (q.1<=c0))else some false)).bind λx1=>(bif x1 then(idx c5 q.2).bind λx2=>(r_law_nodes x2 (w64 (c0-q.1))).bind λx3=>vn r_law_nodes c0 c1 c2 c3 c4 c5 K ((w64 (q.1+x3)),(w64 (q.2+1)))else some q.1)
def vK:Nat->Expr->Int->Option (Int)
 |0,_,_=>none
 |RK+1,e,most=>(vn (vK RK) most e.Op e.N e.S e.Key e.Args KK (1,0)).bind λx1=>some x1
def qM(r_law_short:Expr->Option (Bool))(c0:Int)(c1:Int)(c2:Bs8)(c3:Bs8)(c4:List Expr):Nat->(Int)->Option ((Bool)⊕(Unit))
 |0,_=>none
 |K+1,q=>(bif (decide (q<(c4.length:Int)))then(idx c4 q).bind λx1=>(r_law_short x1).bind λx2=>(bif (!x2)then some (Sum.inl false)else qM r_law_short c0 c1 c2 c3 c4 K (w64 (q+1)))else some (Sum.inr ()))
def jU:Nat->Expr->Option (Bool)
 |0,_=>none
 |RK+1,e=>(qM (jU RK) e.Op e.N e.S e.Key e.Args KK 0).bind (xM some λ_=>(bif (decide ((e.S.length:Int)<=30))then some (decide ((e.Key.length:Int)<=30))else some false))
def jk(e:Expr):Option (Bool) :=
 (vK KK (Expr.mk e.Op e.N e.S e.Key e.Args) 200).bind λx1=>(bif (decide (x1<=200))then(jU KK (Expr.mk e.Op e.N e.S e.Key e.Args)).bind λx2=>some x2 else some false)
def jm(c0:List Bs8):Nat->(Int)->Option ((Bool)⊕(Unit))
 |0,_=>none
 |K+1,q=>(bif (decide (q<(c0.length:Int)))then(idx c0 q).bind λx1=>(bif (decide ((x1.length:Int)>30))then some (Sum.inl false)else jm c0 K (w64 (q+1)))else some (Sum.inr ()))
def wh(l:List Bs8):Option (Bool) :=
 (jm l KK 0).bind (xM some λ_=>some (decide ((l.length:Int)<=10)))
def AN(c0:List Def)(c1:List Table)(c2:List yp)(c3:List zO)(c4:List Cap)(c5:List View)(c6:List zg)(c7:Int):Nat->(Int)->Option ((Bool)⊕(Unit))
 |0,_=>none
 |K+1,q=>(bif (decide (q<(c0.length:Int)))then((idx c0 q).bind λx2=>(bif (decide ((x2.Name.length:Int)>30))then some true else(idx c0 q).bind λx3=>(jk x3.Body).bind λx4=>some (!x4))).bind λx1=>(bif x1 then some (Sum.inl false)else AN c0 c1 c2 c3 c4 c5 c6 c7 K (w64 (q+1)))else some (Sum.inr ()))
def ug(c0:Int)(c1:List Def)(c2:List Table)(c3:List yp)(c4:List zO)(c5:List Cap)(c6:List View)(c7:List zg)(c8:Int)(c9:Bs8)(c10:List Entry)(c11:Int):Nat->(Int)->Option ((Bool)⊕(Unit))
 |0,_=>none
 |K+1,q=>(bif (decide (q<(c10.length:Int)))then(idx c10 q).bind λx1=>(bif (decide ((x1.Name.length:Int)>30))then some (Sum.inl false)else ug c0 c1 c2 c3 c4 c5 c6 c7 c8 c9 c10 c11 K (w64 (q+1)))else some (Sum.inr ()))
def vL(c0:List Def)(c1:List Table)(c2:List yp)(c3:List zO)(c4:List Cap)(c5:List View)(c6:List zg)(c7:Int):Nat->(Int)->Option ((Bool)⊕(Unit))
 |0,_=>none
 |K+1,q=>(bif (decide (q<(c1.length:Int)))then(idx c1 q).bind λx1=>((bif (decide ((x1.Name.length:Int)>30))then some true else some (decide ((x1.Rows.length:Int)>64)))).bind λx2=>(bif x2 then some (Sum.inl false)else(ug q c0 c1 c2 c3 c4 c5 c6 c7 x1.Name x1.Rows x1.Else KK 0).bind (xM (λq=>some (Sum.inl q)) λ_=>vL c0 c1 c2 c3 c4 c5 c6 c7 K (w64 (q+1))))else some (Sum.inr ()))
def AO(c0:List Def)(c1:List Table)(c2:List yp)(c3:List zO)(c4:List Cap)(c5:List View)(c6:List zg)(c7:Int):Nat->(Int)->Option ((Bool)⊕(Unit))
 |0,_=>none
 |K+1,q=>(bif (decide (q<(c2.length:Int)))then((idx c2 q).bind λx2=>(bif (decide ((x2.Name.length:Int)>30))then some true else(idx c2 q).bind λx3=>some (decide ((x3.Corners.length:Int)>64)))).bind λx1=>(bif x1 then some (Sum.inl false)else AO c0 c1 c2 c3 c4 c5 c6 c7 K (w64 (q+1)))else some (Sum.inr ()))
def kl(c0:List Def)(c1:List Table)(c2:List yp)(c3:List zO)(c4:List Cap)(c5:List View)(c6:List zg)(c7:Int):Nat->(Int)->Option ((Bool)⊕(Unit))
 |0,_=>none
 |K+1,q=>(bif (decide (q<(c3.length:Int)))then(idx c3 q).bind λx1=>((bif (decide ((x1.Name.length:Int)>30))then some true else(wh x1.Zones).bind λx3=>(bif (!x3)then some true else(wh x1.Except).bind λx4=>(bif (!x4)then some true else(jk (Expr.mk x1.Test.Op x1.Test.N x1.Test.S x1.Test.Key x1.Test.Args)).bind λx5=>some (!x5))))).bind λx2=>(bif x2 then some (Sum.inl false)else kl c0 c1 c2 c3 c4 c5 c6 c7 K (w64 (q+1)))else some (Sum.inr ()))
def AP(c0:List Def)(c1:List Table)(c2:List yp)(c3:List zO)(c4:List Cap)(c5:List View)(c6:List zg)(c7:Int):Nat->(Int)->Option ((Bool)⊕(Unit))
 |0,_=>none
 |K+1,q=>(bif (decide (q<(c4.length:Int)))then((idx c4 q).bind λx2=>(bif (decide ((x2.Name.length:Int)>30))then some true else(idx c4 q).bind λx3=>some (decide ((x3.Corners.length:Int)>64)))).bind λx1=>(bif x1 then some (Sum.inl false)else AP c0 c1 c2 c3 c4 c5 c6 c7 K (w64 (q+1)))else some (Sum.inr ()))
def AQ(c0:List Def)(c1:List Table)(c2:List yp)(c3:List zO)(c4:List Cap)(c5:List View)(c6:List zg)(c7:Int):Nat->(Int)->Option ((Bool)⊕(Unit))
 |0,_=>none
 |K+1,q=>(bif (decide (q<(c5.length:Int)))then((idx c5 q).bind λx2=>(bif (decide ((x2.Name.length:Int)>30))then some true else(idx c5 q).bind λx3=>some (decide ((x3.Targets.length:Int)>64)))).bind λx1=>(bif x1 then some (Sum.inl false)else AQ c0 c1 c2 c3 c4 c5 c6 c7 K (w64 (q+1)))else some (Sum.inr ()))
def Wl(p:yX):Option (Bool) :=
 ((bif (decide ((p.Defs.length:Int)>8))then some true else(bif (decide ((p.Tables.length:Int)>8))then some true else(bif (decide ((p.Zones.length:Int)>8))then some true else(bif (decide ((p.Rules.length:Int)>8))then some true else(bif (decide ((p.Caps.length:Int)>8))then some true else(bif (decide ((p.Views.length:Int)>8))then some true else some (decide ((p.Sun.length:Int)>64))))))))).bind λx1=>(bif x1 then some false else(AN p.Defs p.Tables p.Zones p.Rules p.Caps p.Views p.Sun p.Hours KK 0).bind (xM some λ_=>(vL p.Defs p.Tables p.Zones p.Rules p.Caps p.Views p.Sun p.Hours KK 0).bind (xM some λ_=>(AO p.Defs p.Tables p.Zones p.Rules p.Caps p.Views p.Sun p.Hours KK 0).bind (xM some λ_=>(kl p.Defs p.Tables p.Zones p.Rules p.Caps p.Views p.Sun p.Hours KK 0).bind (xM some λ_=>(AP p.Defs p.Tables p.Zones p.Rules p.Caps p.Views p.Sun p.Hours KK 0).bind (xM some λ_=>(AQ p.Defs p.Tables p.Zones p.Rules p.Caps p.Views p.Sun p.Hours KK 0).bind (xM some λ_=>some true)))))))
def za2(x_:Def)(y:Def):Option (Bool) :=
 (bif (decide (x_.Name=y.Name))then(ja KK (Expr.mk x_.Body.Op x_.Body.N x_.Body.S x_.Body.Key x_.Body.Args) (Expr.mk y.Body.Op y.Body.N y.Body.S y.Body.Key y.Body.Args)).bind λx1=>some x1 else some false)
def wW(c0:List Def)(c1:List Def)(c2:Int):Nat->(Int)->Option ((Bool)⊕(Unit))
 |0,_=>none
 |K+1,q=>(bif (decide (q<c2))then(idx c1 q).bind λx1=>(idx c0 q).bind λx2=>(za2 (Def.mk x1.Name (Expr.mk x1.Body.Op x1.Body.N x1.Body.S x1.Body.Key x1.Body.Args)) (Def.mk x2.Name (Expr.mk x2.Body.Op x2.Body.N x2.Body.S x2.Body.Key x2.Body.Args))).bind λx3=>(bif (!x3)then some (Sum.inl false)else wW c0 c1 c2 K (w64 (q+1)))else some (Sum.inr ()))
def wq(s1:List Def)(s2:List Def):Option (Bool) :=
 (bif (!(decide ((s1.length:Int)=(s2.length:Int))))then some false else(wW s2 s1 (s1.length:Int) KK 0).bind (xM some λ_=>some true))
def jV(c0:List Entry)(c1:List Entry)(c2:Int):Nat->(Int)->Option ((Bool)⊕(Unit))
 |0,_=>none
 |K+1,q=>(bif (decide (q<c2))then(idx c0 q).bind λx1=>(idx c1 q).bind λx2=>(bif (!(decide (x1.Name=x2.Name)&&(decide (x1.N=x2.N))))then some (Sum.inl false)else jV c0 c1 c2 K (w64 (q+1)))else some (Sum.inr ()))
def jL(s1:List Entry)(s2:List Entry):Option (Bool) :=
 (bif (!(decide ((s1.length:Int)=(s2.length:Int))))then some false else(jV s1 s2 (s1.length:Int) KK 0).bind (xM some λ_=>some true))
def za3(x_:Table)(y:Table):Option (Bool) :=
 (bif (decide (x_.Name=y.Name))then(bif (decide (x_.Else=y.Else))then(jL x_.Rows y.Rows).bind λx1=>some x1 else some false)else some false)
def wX(c0:List Table)(c1:List Table)(c2:Int):Nat->(Int)->Option ((Bool)⊕(Unit))
 |0,_=>none
 |K+1,q=>(bif (decide (q<c2))then(idx c1 q).bind λx1=>(idx c0 q).bind λx2=>(za3 x1 x2).bind λx3=>(bif (!x3)then some (Sum.inl false)else wX c0 c1 c2 K (w64 (q+1)))else some (Sum.inr ()))
def wu(s1:List Table)(s2:List Table):Option (Bool) :=
 (bif (!(decide ((s1.length:Int)=(s2.length:Int))))then some false else(wX s2 s1 (s1.length:Int) KK 0).bind (xM some λ_=>some true))
def wY(c0:List zO)(c1:List zO)(c2:Int):Nat->(Int)->Option ((Bool)⊕(Unit))
 |0,_=>none
 |K+1,q=>(bif (decide (q<c2))then(idx c1 q).bind λx1=>(idx c0 q).bind λx2=>(qt (zO.mk x1.Name x1.Zones x1.Except x1.From x1.Until x1.Grace x1.Vary x1.Kind (Expr.mk x1.Test.Op x1.Test.N x1.Test.S x1.Test.Key x1.Test.Args) x1.zy x1.Uses x1.Other x1.N) (zO.mk x2.Name x2.Zones x2.Except x2.From x2.Until x2.Grace x2.Vary x2.Kind (Expr.mk x2.Test.Op x2.Test.N x2.Test.S x2.Test.Key x2.Test.Args) x2.zy x2.Uses x2.Other x2.N)).bind λx3=>(bif (!x3)then some (Sum.inl false)else wY c0 c1 c2 K (w64 (q+1)))else some (Sum.inr ()))
def wv(s1:List zO)(s2:List zO):Option (Bool) :=
 (bif (!(decide ((s1.length:Int)=(s2.length:Int))))then some false else(wY s2 s1 (s1.length:Int) KK 0).bind (xM some λ_=>some true))
def jW(c0:List zV)(c1:List zV)(c2:Int):Nat->(Int)->Option ((Bool)⊕(Unit))
 |0,_=>none
 |K+1,q=>(bif (decide (q<c2))then(idx c0 q).bind λx1=>(idx c1 q).bind λx2=>(bif (!(decide (x1.X=x2.X)&&(decide (x1.Y=x2.Y))))then some (Sum.inl false)else jW c0 c1 c2 K (w64 (q+1)))else some (Sum.inr ()))
def vg(s1:List zV)(s2:List zV):Option (Bool) :=
 (bif (!(decide ((s1.length:Int)=(s2.length:Int))))then some false else(jW s1 s2 (s1.length:Int) KK 0).bind (xM some λ_=>some true))
def za4(x_:yp)(y:yp):Option (Bool) :=
 (bif (decide (x_.Name=y.Name))then(bif (x_.Overlay==y.Overlay)then(vg x_.Corners y.Corners).bind λx1=>some x1 else some false)else some false)
def wZ(c0:List yp)(c1:List yp)(c2:Int):Nat->(Int)->Option ((Bool)⊕(Unit))
 |0,_=>none
 |K+1,q=>(bif (decide (q<c2))then(idx c1 q).bind λx1=>(idx c0 q).bind λx2=>(za4 x1 x2).bind λx3=>(bif (!x3)then some (Sum.inl false)else wZ c0 c1 c2 K (w64 (q+1)))else some (Sum.inr ()))
def wx(s1:List yp)(s2:List yp):Option (Bool) :=
 (bif (!(decide ((s1.length:Int)=(s2.length:Int))))then some false else(wZ s2 s1 (s1.length:Int) KK 0).bind (xM some λ_=>some true))
def za5(x_:Cap)(y:Cap):Option (Bool) :=
 (bif (decide (x_.Name=y.Name))then(bif (decide (x_.Load=y.Load))then(bif (decide (x_.Limit=y.Limit))then(vg x_.Corners y.Corners).bind λx1=>some x1 else some false)else some false)else some false)
def vb(c0:List Cap)(c1:List Cap)(c2:Int):Nat->(Int)->Option ((Bool)⊕(Unit))
 |0,_=>none
 |K+1,q=>(bif (decide (q<c2))then(idx c1 q).bind λx1=>(idx c0 q).bind λx2=>(za5 x1 x2).bind λx3=>(bif (!x3)then some (Sum.inl false)else vb c0 c1 c2 K (w64 (q+1)))else some (Sum.inr ()))
def wy(s1:List Cap)(s2:List Cap):Option (Bool) :=
 (bif (!(decide ((s1.length:Int)=(s2.length:Int))))then some false else(vb s2 s1 (s1.length:Int) KK 0).bind (xM some λ_=>some true))
def jX(c0:List zg)(c1:List zg)(c2:Int):Nat->(Int)->Option ((Bool)⊕(Unit))
 |0,_=>none
 |K+1,q=>(bif (decide (q<c2))then(idx c0 q).bind λx1=>(idx c1 q).bind λx2=>(bif (!(decide (x1.X=x2.X)&&(decide (x1.Y=x2.Y)&&(decide (x1.Z_=x2.Z_)))))then some (Sum.inl false)else jX c0 c1 c2 K (w64 (q+1)))else some (Sum.inr ()))
def vh(s1:List zg)(s2:List zg):Option (Bool) :=
 (bif (!(decide ((s1.length:Int)=(s2.length:Int))))then some false else(jX s1 s2 (s1.length:Int) KK 0).bind (xM some λ_=>some true))
def za6(x_:View)(y:View):Option (Bool) :=
 (bif (decide (x_.Name=y.Name))then(bif (decide (x_.Eye.X=y.Eye.X)&&(decide (x_.Eye.Y=y.Eye.Y)&&(decide (x_.Eye.Z_=y.Eye.Z_))))then(bif (decide (x_.Least=y.Least))then(vh x_.Targets y.Targets).bind λx1=>some x1 else some false)else some false)else some false)
def vc(c0:List View)(c1:List View)(c2:Int):Nat->(Int)->Option ((Bool)⊕(Unit))
 |0,_=>none
 |K+1,q=>(bif (decide (q<c2))then(idx c1 q).bind λx1=>(idx c0 q).bind λx2=>(za6 x1 x2).bind λx3=>(bif (!x3)then some (Sum.inl false)else vc c0 c1 c2 K (w64 (q+1)))else some (Sum.inr ()))
def wz(s1:List View)(s2:List View):Option (Bool) :=
 (bif (!(decide ((s1.length:Int)=(s2.length:Int))))then some false else(vc s2 s1 (s1.length:Int) KK 0).bind (xM some λ_=>some true))
def zuk(a:yX)(b:yX):Option (Bool) :=
 ((wq a.Defs b.Defs).bind λx2=>(bif x2 then(wu a.Tables b.Tables).bind λx3=>(bif x3 then(wv a.Rules b.Rules).bind λx4=>some x4 else some false)else some false)).bind λx1=>((wx a.Zones b.Zones).bind λx6=>(bif x6 then(wy a.Caps b.Caps).bind λx7=>(bif x7 then(wz a.Views b.Views).bind λx8=>some x8 else some false)else some false)).bind λx5=>(bif x1 then(bif x5 then(vh a.Sun b.Sun).bind λx9=>(bif x9 then some (decide (a.Hours=b.Hours))else some false)else some false)else some false)
def jM(p:yX):Option (Bool) :=
 (JE).bind λx1=>(Wl p).bind λx2=>(bif (!x2)then some x1 else(YI p).bind λx3=>(bif (!(decide (x3.2=0)))then(bif x1 then(bif (decide (x3.1=([]:Bs8)))then(bif (decide (x3.2=1))then(Hd p).bind λx4=>(bif (!x4)then some true else(bif (decide (x3.2=6))then(Hd p).bind λx5=>some x5 else some false))else(bif (decide (x3.2=6))then(Hd p).bind λx6=>some x6 else some false))else some false)else some false)else(Hc x3.1).bind λx7=>(YI (yX.mk x7.2.2.2.2.1 x7.2.2.2.2.2.1 x7.2.2.2.2.2.2.1 x7.2.2.2.2.2.2.2.1 x7.2.2.2.2.2.2.2.2.1 x7.2.2.2.2.2.2.2.2.2 x7.2.2.1 x7.2.2.2.1)).bind λx8=>(bif x1 then(bif (decide (x7.2.1=0))then(bif (decide (x7.1=0))then(Hd p).bind λx9=>(bif x9 then(zuk p (yX.mk x7.2.2.2.2.1 x7.2.2.2.2.2.1 x7.2.2.2.2.2.2.1 x7.2.2.2.2.2.2.2.1 x7.2.2.2.2.2.2.2.2.1 x7.2.2.2.2.2.2.2.2.2 x7.2.2.1 x7.2.2.2.1)).bind λx10=>(bif x10 then(bif (decide (x8.2=0))then(bif (decide (x3.1=x8.1))then some (decide ((x3.1.length:Int)<=8000))else some false)else some false)else some false)else some false)else some false)else some false)else some false)))
end Go.Proofs.YtffencjoddkghaaGreatDoor
