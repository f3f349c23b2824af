/- texts that the proof reaches, part 8 -/
import Derived.Test.YthnokpghgeppdaaGreatDoorKg
set_option linter.all false
set_option maxRecDepth 100000
namespace Go.Proofs.YthnokpghgeppdaaGreatDoor
open Go Go.RowKit Go.Eng Go.EV Go.EQ
structure Expr where
 Op:Int
 N:Int
 S:(List UInt8)
 Key:(List UInt8)
 Args:(List Expr)
instance:Inhabited Expr:=⟨⟨0,0,[],[],[]⟩⟩
mutual
def Vk:Expr→List V
 |⟨a0,a1,a2,a3,a4⟩=>[.int .i64 a0,.int .i64 a1,.str a2,.str a3,.vs 5 (y7 a4)]
def y7:List Expr→List (List V)
 |[]=>[]
 |x::r=>Vk x::y7 r
end
def kT(x:Expr):List V:=[.int .i64 x.Op,.int .i64 x.N,.str x.S,.str x.Key,.vs 5 (y7 x.Args)]
theorem zck(x:Expr):Vk x=kT x:=by cases x;rw[Vk];rfl
theorem oy:∀l:List Expr,y7 l=l.map kT
 |[]=>by rw[y7];rfl
 |x::r=>by rw[y7,zck,oy r];rfl
structure Def where
 Name:(List UInt8)
 Body:Expr
 deriving Inhabited
def Vl(x:Def):List V:=[.str x.Name,.int .i64 x.Body.Op,.int .i64 x.Body.N,.str x.Body.S,.str x.Body.Key,.vs 5 (y7 x.Body.Args)]
structure Entry where
 Name:(List UInt8)
 N:Int
 deriving Inhabited,DecidableEq
def oz(x:Entry):List V:=[.str x.Name,.int .i64 x.N]
structure Table where
 Name:(List UInt8)
 Rows:(List Entry)
 Else:Int
 deriving Inhabited,DecidableEq
def oA(x:Table):List V:=[.str x.Name,.vs 2 (List.map oz x.Rows),.int .i64 x.Else]
structure zw where
 X:Int
 Y:Int
 deriving Inhabited,DecidableEq
def kp(x:zw):List V:=[.int .i64 x.X,.int .i64 x.Y]
structure zm where
 Name:(List UInt8)
 Overlay:Bool
 Corners:(List zw)
 deriving Inhabited,DecidableEq
def HQ(x:zm):List V:=[.str x.Name,.bool x.Overlay,.vs 2 (List.map kp x.Corners)]
structure zg where
 Side:Int
 Base:Int
 Num:Int
 Den:Int
 deriving Inhabited,DecidableEq
def Vm(x:zg):List V:=[.int .i64 x.Side,.int .i64 x.Base,.int .i64 x.Num,.int .i64 x.Den]
structure zb where
 Name:(List UInt8)
 Zones:(List (List UInt8))
 Except:(List (List UInt8))
 From:Int
 Until:Int
 Grace:Int
 Vary:Bool
 Kind:Int
 Test:Expr
 zg:zg
 Uses:Int
 Other:Int
 N:Int
 deriving Inhabited
def HR(x:zb):List V:=[.str x.Name,.vs 1 (List.map EV.zAm x.Zones),.vs 1 (List.map EV.zAm x.Except),.int .i64 x.From,.int .i64 x.Until,.int .i64 x.Grace,.bool x.Vary,.int .i64 x.Kind,.int .i64 x.Test.Op,.int .i64 x.Test.N,.str x.Test.S,.str x.Test.Key,.vs 5 (y7 x.Test.Args),.int .i64 x.zg.Side,.int .i64 x.zg.Base,.int .i64 x.zg.Num,.int .i64 x.zg.Den,.int .i64 x.Uses,.int .i64 x.Other,.int .i64 x.N]
structure Cap where
 Name:(List UInt8)
 Load:Int
 Limit:Int
 Corners:(List zw)
 deriving Inhabited,DecidableEq
def Vn(x:Cap):List V:=[.str x.Name,.int .i64 x.Load,.int .i64 x.Limit,.vs 2 (List.map kp x.Corners)]
structure zj where
 X:Int
 Y:Int
 Z_:Int
 deriving Inhabited,DecidableEq
def jU(x:zj):List V:=[.int .i64 x.X,.int .i64 x.Y,.int .i64 x.Z_]
structure View where
 Name:(List UInt8)
 Eye:zj
 Least:Int
 Targets:(List zj)
 deriving Inhabited,DecidableEq
def HS(x:View):List V:=[.str x.Name,.int .i64 x.Eye.X,.int .i64 x.Eye.Y,.int .i64 x.Eye.Z_,.int .i64 x.Least,.vs 3 (List.map jU x.Targets)]
structure Token where
 Kind:Int
 Text:(List UInt8)
 N:Int
 Pos:Int
 deriving Inhabited,DecidableEq
def zcl(x:Token):List V:=[.int .i64 x.Kind,.str x.Text,.int .i64 x.N,.int .i64 x.Pos]
structure zu where
 Defs:(List Def)
 Tables:(List Table)
 Zones:(List zm)
 Rules:(List zb)
 Caps:(List Cap)
 Views:(List View)
 Sun:(List zj)
 Hours:Int
 deriving Inhabited
def An(x:zu):List V:=[.vs 6 (List.map Vl x.Defs),.vs 3 (List.map oA x.Tables),.vs 3 (List.map HQ x.Zones),.vs 20 (List.map HR x.Rules),.vs 4 (List.map Vn x.Caps),.vs 6 (List.map HS x.Views),.vs 3 (List.map jU x.Sun),.int .i64 x.Hours]
structure zn where
 Kind:Int
 Name:(List UInt8)
 Key:(List UInt8)
 N:Int
 zb:zb
 Body:Expr
 Corners:(List zw)
 deriving Inhabited
def ud(x:zn):List V:=[.int .i64 x.Kind,.str x.Name,.str x.Key,.int .i64 x.N,.str x.zb.Name,.vs 1 (List.map EV.zAm x.zb.Zones),.vs 1 (List.map EV.zAm x.zb.Except),.int .i64 x.zb.From,.int .i64 x.zb.Until,.int .i64 x.zb.Grace,.bool x.zb.Vary,.int .i64 x.zb.Kind,.int .i64 x.zb.Test.Op,.int .i64 x.zb.Test.N,.str x.zb.Test.S,.str x.zb.Test.Key,.vs 5 (y7 x.zb.Test.Args),.int .i64 x.zb.zg.Side,.int .i64 x.zb.zg.Base,.int .i64 x.zb.zg.Num,.int .i64 x.zb.zg.Den,.int .i64 x.zb.Uses,.int .i64 x.zb.Other,.int .i64 x.zb.N,.int .i64 x.Body.Op,.int .i64 x.Body.N,.str x.Body.S,.str x.Body.Key,.vs 5 (y7 x.Body.Args),.vs 2 (List.map kp x.Corners)]
structure zl where
 a:zw
 b:zw
 deriving Inhabited,DecidableEq
def uK(x:zl):List V:=[.int .i64 x.a.X,.int .i64 x.a.Y,.int .i64 x.b.X,.int .i64 x.b.Y]
structure EB where
 k:Int
 n:(List UInt8)
 y:(List UInt8)
 m:Int
 r0:(List UInt8)
 r1:(List (List UInt8))
 r2:(List (List UInt8))
 r3:Int
 r4:Int
 r5:Int
 r6:Bool
 r7:Int
 r8:Int
 r9:Int
 r10:(List UInt8)
 r11:(List UInt8)
 r12:(List Expr)
 r13:Int
 r14:Int
 r15:Int
 r16:Int
 r17:Int
 r18:Int
 r19:Int
 b0:Int
 b1:Int
 b2:(List UInt8)
 b3:(List UInt8)
 b4:(List Expr)
 c:(List zw)
def kL(x:Int×(List UInt8)×(List UInt8)×Int×(List UInt8)×(List (List UInt8))×(List (List UInt8))×Int×Int×Int×Bool×Int×Int×Int×(List UInt8)×(List UInt8)×(List Expr)×Int×Int×Int×Int×Int×Int×Int×Int×Int×(List UInt8)×(List UInt8)×(List Expr)×(List zw)):EB:=⟨x.1,x.2.1,x.2.2.1,x.2.2.2.1,x.2.2.2.2.1,x.2.2.2.2.2.1,x.2.2.2.2.2.2.1,x.2.2.2.2.2.2.2.1,x.2.2.2.2.2.2.2.2.1,x.2.2.2.2.2.2.2.2.2.1,x.2.2.2.2.2.2.2.2.2.2.1,x.2.2.2.2.2.2.2.2.2.2.2.1,x.2.2.2.2.2.2.2.2.2.2.2.2.1,x.2.2.2.2.2.2.2.2.2.2.2.2.2.1,x.2.2.2.2.2.2.2.2.2.2.2.2.2.2.1,x.2.2.2.2.2.2.2.2.2.2.2.2.2.2.2.1,x.2.2.2.2.2.2.2.2.2.2.2.2.2.2.2.2.1,x.2.2.2.2.2.2.2.2.2.2.2.2.2.2.2.2.2.1,x.2.2.2.2.2.2.2.2.2.2.2.2.2.2.2.2.2.2.1,x.2.2.2.2.2.2.2.2.2.2.2.2.2.2.2.2.2.2.2.1,x.2.2.2.2.2.2.2.2.2.2.2.2.2.2.2.2.2.2.2.2.1,x.2.2.2.2.2.2.2.2.2.2.2.2.2.2.2.2.2.2.2.2.2.1,x.2.2.2.2.2.2.2.2.2.2.2.2.2.2.2.2.2.2.2.2.2.2.1,x.2.2.2.2.2.2.2.2.2.2.2.2.2.2.2.2.2.2.2.2.2.2.2.1,x.2.2.2.2.2.2.2.2.2.2.2.2.2.2.2.2.2.2.2.2.2.2.2.2.1,x.2.2.2.2.2.2.2.2.2.2.2.2.2.2.2.2.2.2.2.2.2.2.2.2.2.1,x.2.2.2.2.2.2.2.2.2.2.2.2.2.2.2.2.2.2.2.2.2.2.2.2.2.2.1,x.2.2.2.2.2.2.2.2.2.2.2.2.2.2.2.2.2.2.2.2.2.2.2.2.2.2.2.1,x.2.2.2.2.2.2.2.2.2.2.2.2.2.2.2.2.2.2.2.2.2.2.2.2.2.2.2.2.1,x.2.2.2.2.2.2.2.2.2.2.2.2.2.2.2.2.2.2.2.2.2.2.2.2.2.2.2.2.2⟩
def zvi{R:Type}(x:Int×(List UInt8)×(List UInt8)×Int×(List UInt8)×(List (List UInt8))×(List (List UInt8))×Int×Int×Int×Bool×Int×Int×Int×(List UInt8)×(List UInt8)×(List Expr)×Int×Int×Int×Int×Int×Int×Int×Int×Int×(List UInt8)×(List UInt8)×(List Expr)×(List zw)×R):EB:=⟨x.1,x.2.1,x.2.2.1,x.2.2.2.1,x.2.2.2.2.1,x.2.2.2.2.2.1,x.2.2.2.2.2.2.1,x.2.2.2.2.2.2.2.1,x.2.2.2.2.2.2.2.2.1,x.2.2.2.2.2.2.2.2.2.1,x.2.2.2.2.2.2.2.2.2.2.1,x.2.2.2.2.2.2.2.2.2.2.2.1,x.2.2.2.2.2.2.2.2.2.2.2.2.1,x.2.2.2.2.2.2.2.2.2.2.2.2.2.1,x.2.2.2.2.2.2.2.2.2.2.2.2.2.2.1,x.2.2.2.2.2.2.2.2.2.2.2.2.2.2.2.1,x.2.2.2.2.2.2.2.2.2.2.2.2.2.2.2.2.1,x.2.2.2.2.2.2.2.2.2.2.2.2.2.2.2.2.2.1,x.2.2.2.2.2.2.2.2.2.2.2.2.2.2.2.2.2.2.1,x.2.2.2.2.2.2.2.2.2.2.2.2.2.2.2.2.2.2.2.1,x.2.2.2.2.2.2.2.2.2.2.2.2.2.2.2.2.2.2.2.2.1,x.2.2.2.2.2.2.2.2.2.2.2.2.2.2.2.2.2.2.2.2.2.1,x.2.2.2.2.2.2.2.2.2.2.2.2.2.2.2.2.2.2.2.2.2.2.1,x.2.2.2.2.2.2.2.2.2.2.2.2.2.2.2.2.2.2.2.2.2.2.2.1,x.2.2.2.2.2.2.2.2.2.2.2.2.2.2.2.2.2.2.2.2.2.2.2.2.1,x.2.2.2.2.2.2.2.2.2.2.2.2.2.2.2.2.2.2.2.2.2.2.2.2.2.1,x.2.2.2.2.2.2.2.2.2.2.2.2.2.2.2.2.2.2.2.2.2.2.2.2.2.2.1,x.2.2.2.2.2.2.2.2.2.2.2.2.2.2.2.2.2.2.2.2.2.2.2.2.2.2.2.1,x.2.2.2.2.2.2.2.2.2.2.2.2.2.2.2.2.2.2.2.2.2.2.2.2.2.2.2.2.1,x.2.2.2.2.2.2.2.2.2.2.2.2.2.2.2.2.2.2.2.2.2.2.2.2.2.2.2.2.2.1⟩
def rEB{R:Type}(x:Int×(List UInt8)×(List UInt8)×Int×(List UInt8)×(List (List UInt8))×(List (List UInt8))×Int×Int×Int×Bool×Int×Int×Int×(List UInt8)×(List UInt8)×(List Expr)×Int×Int×Int×Int×Int×Int×Int×Int×Int×(List UInt8)×(List UInt8)×(List Expr)×(List zw)×R):R:=x.2.2.2.2.2.2.2.2.2.2.2.2.2.2.2.2.2.2.2.2.2.2.2.2.2.2.2.2.2.2
structure RB where
 r0:(List UInt8)
 r1:(List (List UInt8))
 r2:(List (List UInt8))
 r3:Int
 r4:Int
 r5:Int
 r6:Bool
 r7:Int
 r8:Int
 r9:Int
 r10:(List UInt8)
 r11:(List UInt8)
 r12:(List Expr)
 r13:Int
 r14:Int
 r15:Int
 r16:Int
 r17:Int
 r18:Int
 r19:Int
def zym(x:(List UInt8)×(List (List UInt8))×(List (List UInt8))×Int×Int×Int×Bool×Int×Int×Int×(List UInt8)×(List UInt8)×(List Expr)×Int×Int×Int×Int×Int×Int×Int):RB:=⟨x.1,x.2.1,x.2.2.1,x.2.2.2.1,x.2.2.2.2.1,x.2.2.2.2.2.1,x.2.2.2.2.2.2.1,x.2.2.2.2.2.2.2.1,x.2.2.2.2.2.2.2.2.1,x.2.2.2.2.2.2.2.2.2.1,x.2.2.2.2.2.2.2.2.2.2.1,x.2.2.2.2.2.2.2.2.2.2.2.1,x.2.2.2.2.2.2.2.2.2.2.2.2.1,x.2.2.2.2.2.2.2.2.2.2.2.2.2.1,x.2.2.2.2.2.2.2.2.2.2.2.2.2.2.1,x.2.2.2.2.2.2.2.2.2.2.2.2.2.2.2.1,x.2.2.2.2.2.2.2.2.2.2.2.2.2.2.2.2.1,x.2.2.2.2.2.2.2.2.2.2.2.2.2.2.2.2.2.1,x.2.2.2.2.2.2.2.2.2.2.2.2.2.2.2.2.2.2.1,x.2.2.2.2.2.2.2.2.2.2.2.2.2.2.2.2.2.2.2⟩
def t_0:List UInt8:=[48]
def t__:List UInt8:=[32]
def ze:List UInt8:=[32,97,110,100,32,97,112,97,114,116,32,98,97,115,101,32,99,97,112,32,100,101,102,105,110,101,32,101,108,115,101,32,101,120,99,101,112,116,32,102,114,111,109,32,103,114,97,99,101,32,104,111,117,114,115,32,105,102,32,105,110,32,108,101,97,115,116,32,110,111,116,32,111,114,32,111,118,101,114,108,97,121,32,112,108,97,110,101,32,114,117,108,101,32,115,108,111,112,101,32,115,117,110,32,116,97,98,108,101,32,116,104,101,110,32,117,110,116,105,108,32,117,115,101,115,32,118,97,114,121,32,118,105,101,119,32,122,111,110,101,32]
def qv:List UInt8:=[32,59,10]
def t_a:List UInt8:=[97]
def ZR:List UInt8:=[100,101,102,105,110,101]
def zk1:List UInt8:=[101,110,100]
def zcm:List UInt8:=[101,110,100,32]
def zCb:List UInt8:=[104,111,109,101]
def JM:List UInt8:=[108,105,109,105,116]
def HU:List UInt8:=[108,105,109,105,116,32]
def vn:List UInt8:=[108,105,109,105,116,32,114,111,97,100,115,32,54,48,59,32,101,110,100,32,97,32,57,48,59]
def zcn:List UInt8:=[111,118,101,114,108,97,121]
def zo6:List UInt8:=[114,111,97,100,115]
def zk2:List UInt8:=[114,111,119]
def Vo:List UInt8:=[114,111,119,32]
def kq:List UInt8:=[114,111,119,32,116,114,97,102,102,105,99,32,104,111,109,101,32,53,32,59,10]
def zco:List UInt8:=[114,117,108,101]
def zo7:List UInt8:=[116,114,97,102,102,105,99]
def t_x25:List UInt8:=[37]
def t_x28:List UInt8:=[40]
def t_x29:List UInt8:=[41]
def t_x2a:List UInt8:=[42]
def t_x2b:List UInt8:=[43]
def t_x2c:List UInt8:=[44]
def zyn:List UInt8:=[45]
def zCc:List UInt8:=[45,32]
def t_x2f:List UInt8:=[47]
def t_x3a:List UInt8:=[58]
def zCd:List UInt8:=[59]
def t_x3c:List UInt8:=[60]
def ztu:List UInt8:=[60,61]
def t_x3d:List UInt8:=[61]
def ztv:List UInt8:=[61,61]
def zo8:List UInt8:=[122,111,110,101]
variable[Fuel]
def zcp(c_:Int):Option (Bool) :=
 (bif (decide (c_=32))then some true else(bif (decide (c_=9))then some true else some (decide (c_=10))))
def A5(c0:(List UInt8)):Nat→(Int)→Option (Int)
 |0,_=>none
 |K+1,q=>((bif (decide (q<((List.length c0:Nat):Int)))then(idx c0 q).bind fun x2=>(zcp ((x2.toNat:Nat):Int)).bind fun x3=>some x3 else some false)).bind fun x1=>(bif x1 then A5 c0 K (w64 (q+1))else some q)
def zij(s:(List UInt8)):Option (Int) :=
 (A5 s KK 0).bind fun x1=>some x1
def vq(c_:Int):Option (Bool) :=
 (bif (decide (c_≥97))then some (decide (c_≤122))else some false)
def kr(c_:Int):Option (Bool) :=
 (bif (decide (c_≥48))then some (decide (c_≤57))else some false)
def Yp(c_:Int):Option (Bool) :=
 (vq c_).bind fun x1=>(bif x1 then some true else(kr c_).bind fun x2=>some x2)
def ue(c0:(List UInt8)):Nat→(Int)→Option (Int)
 |0,_=>none
 |K+1,q=>((bif (decide (q<((List.length c0:Nat):Int)))then(idx c0 q).bind fun x2=>(Yp ((x2.toNat:Nat):Int)).bind fun x3=>some x3 else some false)).bind fun x1=>(bif x1 then ue c0 K (w64 (q+1))else some q)
def Yq(s:(List UInt8)):Option (Int) :=
 (ue s KK 0).bind fun x1=>some x1
def qw(c_:Int):Option (Bool) :=
 (vq c_).bind fun x1=>(bif x1 then some true else(kr c_).bind fun x2=>some x2)
def jG(c0:(List UInt8)):Nat→(Int)→Option (Int)
 |0,_=>none
 |K+1,q=>((bif (decide (q<((List.length c0:Nat):Int)))then(idx c0 q).bind fun x2=>(qw ((x2.toNat:Nat):Int)).bind fun x3=>some x3 else some false)).bind fun x1=>(bif x1 then jG c0 K (w64 (q+1))else some q)
def Ao(s:(List UInt8)):Option (Int) :=
 (jG s KK 0).bind fun x1=>some x1
def uf(s:(List UInt8)):Option (Bool) :=
 ((bif (decide (s=([]:List UInt8)))then some true else(idx s 0).bind fun x2=>(vq ((x2.toNat:Nat):Int)).bind fun x3=>(bif (!x3)then some true else some (decide (((List.length s:Nat):Int)>20))))).bind fun x1=>(bif x1 then some false else(Ao s).bind fun x4=>some (decide (x4=((List.length s:Nat):Int))))
def ug(c0:(List UInt8)):Nat→(Int)→Option (Int)
 |0,_=>none
 |K+1,q=>((bif (decide (q<((List.length c0:Nat):Int)))then(idx c0 q).bind fun x2=>(kr ((x2.toNat:Nat):Int)).bind fun x3=>some x3 else some false)).bind fun x1=>(bif x1 then ug c0 K (w64 (q+1))else some q)
def JN(s:(List UInt8)):Option (Int) :=
 (ug s KK 0).bind fun x1=>some x1
def uh(c0:(List UInt8))(c1:Int):Nat→(Int×Int)→Option (Int)
 |0,_=>none
 |K+1,q=>(bif (decide (q.2<c1))then(idx c0 q.2).bind fun x1=>uh c0 c1 K ((w64 ((w64 (10*q.1))+(w64 ((IntKind.u8.wrap (((x1.toNat:Nat):Int)-48)))))),(w64 (q.2+1)))else some q.1)
def Yr(s:(List UInt8)):Option (Int×Bool) :=
 ((bif (decide (s=([]:List UInt8)))then some true else(JN s).bind fun x2=>(bif (!(decide (x2=((List.length s:Nat):Int))))then some true else(idx s 0).bind fun x3=>(bif (decide (((x3.toNat:Nat):Int)=48))then(bif (!(decide (s=t_0)))then some true else some (decide (((List.length s:Nat):Int)>13)))else some (decide (((List.length s:Nat):Int)>13)))))).bind fun x1=>(bif x1 then some (0,false)else(uh s ((List.length s:Nat):Int) KK (0,0)).bind fun x4=>(bif (decide (x4>1099511627776))then some (0,false)else some (x4,true)))
def Vp(a0:(List UInt8))(a1:(List UInt8)):Option (Bool):=Q6 a0 a1
def A6(c0:(List UInt8))(c1:(List UInt8))(c2:(List UInt8))(c3:(List UInt8))(c4:(List UInt8))(c5:(List UInt8))(c6:(List UInt8))(c7:(List UInt8))(c8:(List UInt8))(c9:(List UInt8))(c10:(List UInt8))(c11:(List UInt8))(c12:(List UInt8))(c13:(List UInt8))(c14:(List UInt8))(c15:Int)(c16:(List UInt8)):Nat→(Int)→Option ((Int×Int×(List UInt8)×Int×Int)⊕(Unit))
 |0,_=>none
 |K+1,q=>(bif (decide (q<14))then(idx (α:=List UInt8) ([c1,c2,c3,c4,c5,c6,c7,c8,c9,c10,c11,c12,c13,c14]:List (List UInt8)) q).bind fun x1=>(Vp c0 x1).bind fun x2=>(bif x2 then some (Sum.inl (0,2,x1,0,0))else A6 c0 c1 c2 c3 c4 c5 c6 c7 c8 c9 c10 c11 c12 c13 c14 c15 c16 K (w64 (q+1)))else some (Sum.inr ()))
def zik(s:(List UInt8)):Option (Int×Int×(List UInt8)×Int×Int) :=
 (idx s 0).bind fun x1=>(vq ((x1.toNat:Nat):Int)).bind fun x2=>(bif x2 then(Yq s).bind fun x3=>(cut s 0 x3).bind fun x4=>(uf x4).bind fun x5=>(bif (!x5)then some (15,0,([]:List UInt8),0,0)else some (0,0,x4,0,0))else(idx s 0).bind fun x6=>(kr ((x6.toNat:Nat):Int)).bind fun x7=>(bif x7 then(JN s).bind fun x8=>(cut s 0 x8).bind fun x9=>(Yr x9).bind fun x10=>(bif (!x10.2)then some (3,0,([]:List UInt8),0,0)else some (0,1,x9,x10.1,0))else(A6 s ztu ztv zCd t_x2c t_x3a t_x3d t_x3c t_x2b zyn t_x2a t_x2f t_x25 t_x28 t_x29 0 ([]:List UInt8) KK 0).bind (yj some fun _=>some (13,0,([]:List UInt8),0,0))))
def JO(c0:(List UInt8)):Nat→(Int×(List Token))→Option (((List Token)×Int×Int)⊕(Unit))
 |0,_=>none
 |K+1,q=>(cut c0 q.1 ((List.length c0:Nat):Int)).bind fun x1=>(zij x1).bind fun x2=>(bif (decide ((w64 (q.1+x2))=((List.length c0:Nat):Int)))then(grd (List.length (q.2++([(Token.mk 3 ([]:List UInt8) 0 (w64 (q.1+x2)))]:List Token))*40≤140737488355328)).bind fun _=>some (Sum.inl ((q.2++([(Token.mk 3 ([]:List UInt8) 0 (w64 (q.1+x2)))]:List Token)),0,0))else(cut c0 (w64 (q.1+x2)) ((List.length c0:Nat):Int)).bind fun x4=>(zik x4).bind fun x5=>(bif (!(decide (x5.1=0)))then some (Sum.inl ([],(w64 (q.1+x2)),x5.1))else(grd (List.length (q.2++([(Token.mk x5.2.1 x5.2.2.1 x5.2.2.2.1 (w64 (q.1+x2)))]:List Token))*40≤140737488355328)).bind fun _=>JO c0 K ((w64 ((w64 (q.1+x2))+((List.length x5.2.2.1:Nat):Int))),(q.2++([(Token.mk x5.2.1 x5.2.2.1 x5.2.2.2.1 (w64 (q.1+x2)))]:List Token)))))
def zo9(s:(List UInt8)):Option ((List Token)×Int×Int) :=
 (bif (decide (((List.length s:Nat):Int)>8000))then some ([],0,6)else(JO s KK (0,[])).bind (yj some fun _=>none))
def AQ(s:(List Token)):Option ((List Token)) :=
 (grd (List.length (([]:List Token)++s)*40≤140737488355328)).bind fun _=>some (([]:List Token)++s)
def Aq(a0:(List UInt8))(a1:(List UInt8)):Option (Bool):=Am a0 a1
def HV(s:(List UInt8)):Option (Bool) :=
 (uf s).bind fun x1=>(bif x1 then(grd (List.length t__+List.length s≤9223372036854775807)).bind fun _=>(grd (List.length (t__++s)+List.length t__≤9223372036854775807)).bind fun _=>(Aq ze ((t__++s)++t__)).bind fun x4=>some (!x4)else some false)
def A7(c0:(List Token))(c1:Int)(c2:Int)(c3:Int)(c4:(List Token))(c5:Int)(c6:(List UInt8))(c7:(List (List UInt8)))(c8:Bool)(c9:(List Expr))(c10:(List zw)):Nat→(Int×Int×Int×Int×Int×Int×Int×Int×Int×Int×Int×Int×Int×Int×Int×Int×Int×Int)→Option ((Int×Int×(List UInt8)×(List UInt8)×Int×(List UInt8)×(List (List UInt8))×(List (List UInt8))×Int×Int×Int×Bool×Int×Int×Int×(List UInt8)×(List UInt8)×(List Expr)×Int×Int×Int×Int×Int×Int×Int×Int×Int×(List UInt8)×(List UInt8)×(List Expr)×(List zw))⊕(Int×Int×Int×Int×Int×Int×Int×Int×Int×Int×Int×Int×Int×Int×Int×Int×Int))
 |0,_=>none
 |K+1,q=>(bif (decide (q.1<c5))then(idx c4 q.1).bind fun x1=>((bif (!(decide (x1.Kind=0)))then some (true,q.2.1,q.2.2.1,q.2.2.2.1,q.2.2.2.2.1,q.2.2.2.2.2.1,q.2.2.2.2.2.2.1,q.2.2.2.2.2.2.2.1,q.2.2.2.2.2.2.2.2.1,q.2.2.2.2.2.2.2.2.2.1,q.2.2.2.2.2.2.2.2.2.2.1,q.2.2.2.2.2.2.2.2.2.2.2.1,q.2.2.2.2.2.2.2.2.2.2.2.2.1,q.2.2.2.2.2.2.2.2.2.2.2.2.2.1,q.2.2.2.2.2.2.2.2.2.2.2.2.2.2.1,q.2.2.2.2.2.2.2.2.2.2.2.2.2.2.2.1,q.2.2.2.2.2.2.2.2.2.2.2.2.2.2.2.2.1,q.2.2.2.2.2.2.2.2.2.2.2.2.2.2.2.2.2)else(HV x1.Text).bind fun x3=>some ((!x3),q.2.1,q.2.2.1,q.2.2.2.1,q.2.2.2.2.1,q.2.2.2.2.2.1,q.2.2.2.2.2.2.1,q.2.2.2.2.2.2.2.1,q.2.2.2.2.2.2.2.2.1,q.2.2.2.2.2.2.2.2.2.1,q.2.2.2.2.2.2.2.2.2.2.1,q.2.2.2.2.2.2.2.2.2.2.2.1,q.2.2.2.2.2.2.2.2.2.2.2.2.1,q.2.2.2.2.2.2.2.2.2.2.2.2.2.1,q.2.2.2.2.2.2.2.2.2.2.2.2.2.2.1,q.2.2.2.2.2.2.2.2.2.2.2.2.2.2.2.1,q.2.2.2.2.2.2.2.2.2.2.2.2.2.2.2.2.1,q.2.2.2.2.2.2.2.2.2.2.2.2.2.2.2.2.2))).bind fun x2=>(bif x2.1 then some (Sum.inl (14,0,([]:List UInt8),([]:List UInt8),0,([]:List UInt8),[],[],0,0,0,false,0,0,0,([]:List UInt8),([]:List UInt8),[],0,0,0,0,0,0,0,0,0,([]:List UInt8),([]:List UInt8),[],[]))else A7 c0 c1 c2 c3 c4 c5 c6 c7 c8 c9 c10 K ((w64 (q.1+1)),x2.2.1,x2.2.2.1,x2.2.2.2.1,x2.2.2.2.2.1,x2.2.2.2.2.2.1,x2.2.2.2.2.2.2.1,x2.2.2.2.2.2.2.2.1,x2.2.2.2.2.2.2.2.2.1,x2.2.2.2.2.2.2.2.2.2.1,x2.2.2.2.2.2.2.2.2.2.2.1,x2.2.2.2.2.2.2.2.2.2.2.2.1,x2.2.2.2.2.2.2.2.2.2.2.2.2.1,x2.2.2.2.2.2.2.2.2.2.2.2.2.2.1,x2.2.2.2.2.2.2.2.2.2.2.2.2.2.2.1,x2.2.2.2.2.2.2.2.2.2.2.2.2.2.2.2.1,x2.2.2.2.2.2.2.2.2.2.2.2.2.2.2.2.2.1,x2.2.2.2.2.2.2.2.2.2.2.2.2.2.2.2.2.2))else some (Sum.inr (q.2.1,q.2.2.1,q.2.2.2.1,q.2.2.2.2.1,q.2.2.2.2.2.1,q.2.2.2.2.2.2.1,q.2.2.2.2.2.2.2.1,q.2.2.2.2.2.2.2.2.1,q.2.2.2.2.2.2.2.2.2.1,q.2.2.2.2.2.2.2.2.2.2.1,q.2.2.2.2.2.2.2.2.2.2.2.1,q.2.2.2.2.2.2.2.2.2.2.2.2.1,q.2.2.2.2.2.2.2.2.2.2.2.2.2.1,q.2.2.2.2.2.2.2.2.2.2.2.2.2.2.1,q.2.2.2.2.2.2.2.2.2.2.2.2.2.2.2.1,q.2.2.2.2.2.2.2.2.2.2.2.2.2.2.2.2.1,q.2.2.2.2.2.2.2.2.2.2.2.2.2.2.2.2.2)))
def zil(l:(List Token)):Option (Int×Int×(List UInt8)×(List UInt8)×Int×(List UInt8)×(List (List UInt8))×(List (List UInt8))×Int×Int×Int×Bool×Int×Int×Int×(List UInt8)×(List UInt8)×(List Expr)×Int×Int×Int×Int×Int×Int×Int×Int×Int×(List UInt8)×(List UInt8)×(List Expr)×(List zw)) :=
 (idx l 0).bind fun x1=>(bif (!(wy x1.Text (oa JM 5 (oa zk2 3 (oa zk1 1 ([]:List ((List UInt8)×Int)))))).isSome)then some (14,0,([]:List UInt8),([]:List UInt8),0,([]:List UInt8),[],[],0,0,0,false,0,0,0,([]:List UInt8),([]:List UInt8),[],0,0,0,0,0,0,0,0,0,([]:List UInt8),([]:List UInt8),[],[])else((bif (decide (((wy x1.Text (oa JM 5 (oa zk2 3 (oa zk1 1 ([]:List ((List UInt8)×Int)))))).getD 0)=3))then((bif (decide (((List.length l:Nat):Int)>3))then(idx l 3).bind fun x4=>some (decide (x4.Text=zyn))else some false)).bind fun x3=>(bif x3 then(AQ l).bind fun _=>none else some 2)else some 1)).bind fun x2=>((bif (!(decide (((List.length l:Nat):Int)=(w64 (x2+3)))))then some true else(idx l (w64 (x2+1))).bind fun x7=>some (!(decide (x7.Kind=1))))).bind fun x6=>(bif x6 then some (14,0,([]:List UInt8),([]:List UInt8),0,([]:List UInt8),[],[],0,0,0,false,0,0,0,([]:List UInt8),([]:List UInt8),[],0,0,0,0,0,0,0,0,0,([]:List UInt8),([]:List UInt8),[],[])else(cut l 1 (w64 (x2+1))).bind fun x8=>(A7 l ((wy x1.Text (oa JM 5 (oa zk2 3 (oa zk1 1 ([]:List ((List UInt8)×Int)))))).getD 0) x2 1 x8 ((List.length x8:Nat):Int) ([]:List UInt8) [] false [] [] KK (0,0,0,0,0,0,0,0,0,0,0,0,0,0,0,0,0,0)).bind (yj some fun x9=>(idx l 1).bind fun x10=>(idx l (w64 (x2+1))).bind fun x11=>((bif (decide (((wy x1.Text (oa JM 5 (oa zk2 3 (oa zk1 1 ([]:List ((List UInt8)×Int)))))).getD 0)=3))then(idx l 2).bind fun x13=>some x13.Text else some ([]:List UInt8))).bind fun x12=>((bif (decide (((wy x1.Text (oa JM 5 (oa zk2 3 (oa zk1 1 ([]:List ((List UInt8)×Int)))))).getD 0)=1))then(bif (decide ((w64 (1*x11.N))<1))then some true else some (decide ((w64 (1*x11.N))>1073741824)))else some false)).bind fun x14=>(bif x14 then some (3,0,([]:List UInt8),([]:List UInt8),0,([]:List UInt8),[],[],0,0,0,false,0,0,0,([]:List UInt8),([]:List UInt8),[],0,0,0,0,0,0,0,0,0,([]:List UInt8),([]:List UInt8),[],[])else some (0,((wy x1.Text (oa JM 5 (oa zk2 3 (oa zk1 1 ([]:List ((List UInt8)×Int)))))).getD 0),x10.Text,x12,(w64 (1*x11.N)),([]:List UInt8),[],[],0,0,0,false,0,0,0,([]:List UInt8),([]:List UInt8),[],0,0,0,0,0,0,0,0,0,([]:List UInt8),([]:List UInt8),[],[])))))
def oB(c0:(List UInt8))(c1:(List Token))(c2:Int):Nat→(Int×Int×(List (List Token)))→Option (Int×(List (List Token)))
 |0,_=>none
 |K+1,q=>(bif (decide (q.2.1<c2))then((idx c1 q.2.1).bind fun x2=>((bif (decide (x2.Kind=2))then some (q.2.1,q.2.1,(decide (x2.Text=zCd)))else some (q.2.1,q.2.1,false))).bind fun x3=>(bif x3.2.2 then(cut c1 q.1 (w64 (x3.1+1))).bind fun x4=>(grd (List.length (q.2.2++([x4]:List (List Token)))*24≤140737488355328)).bind fun _=>some ((w64 (x3.1+1)),x3.2.1,(q.2.2++([x4]:List (List Token))))else some (q.1,x3.2.1,q.2.2))).bind fun x1=>oB c0 c1 c2 K (x1.1,(w64 (x1.2.1+1)),x1.2.2)else some (q.1,q.2.2))
def oC(c0:(List UInt8))(c1:Int)(c2:(List (List Token))):Nat→(Int×(List zn))→Option (((List zn)×Int)⊕((List zn)))
 |0,_=>none
 |K+1,q=>(bif (decide (q.1<c1))then(grd (0≤q.1∧q.1<(((List.length c2):Nat):Int))).bind fun _=>((c2)[(Int.toNat q.1)]?).bind fun x2=>(idx x2 0).bind fun x3=>((bif (decide (x3.Text=zco))then some (decide (x3.Text=zco))else(bif (decide (x3.Text=ZR))then some (decide (x3.Text=ZR))else(bif (decide (x3.Text=zo8))then some (decide (x3.Text=zo8))else some (decide (x3.Text=zcn)))))).bind fun x4=>(bif x4 then(idx x2 0).bind fun x5=>(idx x2 (w64 (((List.length x2:Nat):Int)-1))).bind fun x6=>(cut c0 x5.Pos (w64 (x6.Pos+1))).bind fun _=>none else(zil x2).bind fun x8=>(bif (!(decide (x8.1=0)))then some (Sum.inl ([],x8.1))else(grd (List.length (q.2++([(zn.mk x8.2.1 x8.2.2.1 x8.2.2.2.1 x8.2.2.2.2.1 (zb.mk x8.2.2.2.2.2.1 x8.2.2.2.2.2.2.1 x8.2.2.2.2.2.2.2.1 x8.2.2.2.2.2.2.2.2.1 x8.2.2.2.2.2.2.2.2.2.1 x8.2.2.2.2.2.2.2.2.2.2.1 x8.2.2.2.2.2.2.2.2.2.2.2.1 x8.2.2.2.2.2.2.2.2.2.2.2.2.1 (Expr.mk x8.2.2.2.2.2.2.2.2.2.2.2.2.2.1 x8.2.2.2.2.2.2.2.2.2.2.2.2.2.2.1 x8.2.2.2.2.2.2.2.2.2.2.2.2.2.2.2.1 x8.2.2.2.2.2.2.2.2.2.2.2.2.2.2.2.2.1 x8.2.2.2.2.2.2.2.2.2.2.2.2.2.2.2.2.2.1) (zg.mk x8.2.2.2.2.2.2.2.2.2.2.2.2.2.2.2.2.2.2.1 x8.2.2.2.2.2.2.2.2.2.2.2.2.2.2.2.2.2.2.2.1 x8.2.2.2.2.2.2.2.2.2.2.2.2.2.2.2.2.2.2.2.2.1 x8.2.2.2.2.2.2.2.2.2.2.2.2.2.2.2.2.2.2.2.2.2.1) x8.2.2.2.2.2.2.2.2.2.2.2.2.2.2.2.2.2.2.2.2.2.2.1 x8.2.2.2.2.2.2.2.2.2.2.2.2.2.2.2.2.2.2.2.2.2.2.2.1 x8.2.2.2.2.2.2.2.2.2.2.2.2.2.2.2.2.2.2.2.2.2.2.2.2.1) (Expr.mk x8.2.2.2.2.2.2.2.2.2.2.2.2.2.2.2.2.2.2.2.2.2.2.2.2.2.1 x8.2.2.2.2.2.2.2.2.2.2.2.2.2.2.2.2.2.2.2.2.2.2.2.2.2.2.1 x8.2.2.2.2.2.2.2.2.2.2.2.2.2.2.2.2.2.2.2.2.2.2.2.2.2.2.2.1 x8.2.2.2.2.2.2.2.2.2.2.2.2.2.2.2.2.2.2.2.2.2.2.2.2.2.2.2.2.1 x8.2.2.2.2.2.2.2.2.2.2.2.2.2.2.2.2.2.2.2.2.2.2.2.2.2.2.2.2.2.1) x8.2.2.2.2.2.2.2.2.2.2.2.2.2.2.2.2.2.2.2.2.2.2.2.2.2.2.2.2.2.2)]:List zn))*376≤140737488355328)).bind fun _=>oC c0 c1 c2 K ((w64 (q.1+1)),(q.2++([(zn.mk x8.2.1 x8.2.2.1 x8.2.2.2.1 x8.2.2.2.2.1 (zb.mk x8.2.2.2.2.2.1 x8.2.2.2.2.2.2.1 x8.2.2.2.2.2.2.2.1 x8.2.2.2.2.2.2.2.2.1 x8.2.2.2.2.2.2.2.2.2.1 x8.2.2.2.2.2.2.2.2.2.2.1 x8.2.2.2.2.2.2.2.2.2.2.2.1 x8.2.2.2.2.2.2.2.2.2.2.2.2.1 (Expr.mk x8.2.2.2.2.2.2.2.2.2.2.2.2.2.1 x8.2.2.2.2.2.2.2.2.2.2.2.2.2.2.1 x8.2.2.2.2.2.2.2.2.2.2.2.2.2.2.2.1 x8.2.2.2.2.2.2.2.2.2.2.2.2.2.2.2.2.1 x8.2.2.2.2.2.2.2.2.2.2.2.2.2.2.2.2.2.1) (zg.mk x8.2.2.2.2.2.2.2.2.2.2.2.2.2.2.2.2.2.2.1 x8.2.2.2.2.2.2.2.2.2.2.2.2.2.2.2.2.2.2.2.1 x8.2.2.2.2.2.2.2.2.2.2.2.2.2.2.2.2.2.2.2.2.1 x8.2.2.2.2.2.2.2.2.2.2.2.2.2.2.2.2.2.2.2.2.2.1) x8.2.2.2.2.2.2.2.2.2.2.2.2.2.2.2.2.2.2.2.2.2.2.1 x8.2.2.2.2.2.2.2.2.2.2.2.2.2.2.2.2.2.2.2.2.2.2.2.1 x8.2.2.2.2.2.2.2.2.2.2.2.2.2.2.2.2.2.2.2.2.2.2.2.2.1) (Expr.mk x8.2.2.2.2.2.2.2.2.2.2.2.2.2.2.2.2.2.2.2.2.2.2.2.2.2.1 x8.2.2.2.2.2.2.2.2.2.2.2.2.2.2.2.2.2.2.2.2.2.2.2.2.2.2.1 x8.2.2.2.2.2.2.2.2.2.2.2.2.2.2.2.2.2.2.2.2.2.2.2.2.2.2.2.1 x8.2.2.2.2.2.2.2.2.2.2.2.2.2.2.2.2.2.2.2.2.2.2.2.2.2.2.2.2.1 x8.2.2.2.2.2.2.2.2.2.2.2.2.2.2.2.2.2.2.2.2.2.2.2.2.2.2.2.2.2.1) x8.2.2.2.2.2.2.2.2.2.2.2.2.2.2.2.2.2.2.2.2.2.2.2.2.2.2.2.2.2.2)]:List zn)))))else some (Sum.inr q.2))
def zcq(s:(List UInt8)):Option ((List zn)×Int) :=
 (zo9 s).bind fun x1=>(bif (!(decide (x1.2.2=0)))then some ([],x1.2.2)else(oB s x1.1 ((List.length x1.1:Nat):Int) KK (0,0,[])).bind fun x2=>(bif (decide ((((List.length x2.2):Nat):Int)>200))then some ([],6)else(bif (!(decide (x2.1=(w64 (((List.length x1.1:Nat):Int)-1)))))then some ([],14)else(oC s (((List.length x2.2):Nat):Int) x2.2 KK (0,[])).bind (yj some fun x3=>some (x3,0)))))
def HW(e:zn):Option (Bool×(List Def)×(List Table)×(List zm)×(List zb)×(List Cap)×(List View)×(List zj)×Int) :=
 (bif (decide (e.Kind=0))then some (true,[],[],[],([(zb.mk e.zb.Name e.zb.Zones e.zb.Except e.zb.From e.zb.Until e.zb.Grace e.zb.Vary e.zb.Kind (Expr.mk e.zb.Test.Op e.zb.Test.N e.zb.Test.S e.zb.Test.Key e.zb.Test.Args) e.zb.zg e.zb.Uses e.zb.Other e.zb.N)]:List zb),[],[],[],0)else(bif (decide (e.Kind=2))then some (true,([(Def.mk e.Name (Expr.mk e.Body.Op e.Body.N e.Body.S e.Body.Key e.Body.Args))]:List Def),[],[],[],[],[],[],0)else(bif (decide (e.Kind=4))then some (true,[],[],([(zm.mk e.Name (decide (e.N=1)) e.Corners)]:List zm),[],[],[],[],0)else some (false,[],[],[],[],[],[],[],0))))
def zcr(x_:Def):Option ((List UInt8)) :=
 some x_.Name
def jV(c0:Bool)(c1:(List (List UInt8)))(c2:Int):Nat→(Int×(List ((List UInt8)×Bool)))→Option ((Bool)⊕(Unit))
 |0,_=>none
 |K+1,q=>(bif (decide (q.1<c2))then(idx c1 q.1).bind fun x1=>((HV x1).bind fun x3=>(bif (!x3)then some true else(bif c0 then some ((wy x1 q.2).getD false)else some false))).bind fun x2=>(bif x2 then some (Sum.inl false)else jV c0 c1 c2 K ((w64 (q.1+1)),(oa x1 true q.2)))else some (Sum.inr ()))
def vr(l:(List (List UInt8)))(unique:Bool):Option (Bool) :=
 (jV unique l ((List.length l:Nat):Int) KK (0,([]:List ((List UInt8)×Bool)))).bind (yj some fun _=>some true)
def ui(c0:(List Def))(c1:Int)(c2:Int):Nat→(Int×(List (List UInt8)))→Option ((List (List UInt8)))
 |0,_=>none
 |K+1,q=>(bif (decide (q.1<c2))then(idx c0 q.1).bind fun x1=>(zcr (Def.mk x1.Name (Expr.mk x1.Body.Op x1.Body.N x1.Body.S x1.Body.Key x1.Body.Args))).bind fun x2=>(grd (List.length (q.2++([x2]:List (List UInt8)))*16≤140737488355328)).bind fun _=>ui c0 c1 c2 K ((w64 (q.1+1)),(q.2++([x2]:List (List UInt8))))else some q.2)
def Qi(l:(List Def))(most:Int):Option (Bool) :=
 (ui l most ((List.length l:Nat):Int) KK (0,[])).bind fun x1=>(bif (decide (((List.length l:Nat):Int)≤most))then(vr x1 true).bind fun x2=>some x2 else some false)
def zcs(x_:Table):Option ((List UInt8)) :=
 some x_.Name
def jH(c0:(List Table))(c1:Int)(c2:Int):Nat→(Int×(List (List UInt8)))→Option ((List (List UInt8)))
 |0,_=>none
 |K+1,q=>(bif (decide (q.1<c2))then(idx c0 q.1).bind fun x1=>(zcs x1).bind fun x2=>(grd (List.length (q.2++([x2]:List (List UInt8)))*16≤140737488355328)).bind fun _=>jH c0 c1 c2 K ((w64 (q.1+1)),(q.2++([x2]:List (List UInt8))))else some q.2)
def Ar(l:(List Table))(most:Int):Option (Bool) :=
 (jH l most ((List.length l:Nat):Int) KK (0,[])).bind fun x1=>(bif (decide (((List.length l:Nat):Int)≤most))then(vr x1 true).bind fun x2=>some x2 else some false)
def zct(x_:zm):Option ((List UInt8)) :=
 some x_.Name
def jI(c0:(List zm))(c1:Int)(c2:Int):Nat→(Int×(List (List UInt8)))→Option ((List (List UInt8)))
 |0,_=>none
 |K+1,q=>(bif (decide (q.1<c2))then(idx c0 q.1).bind fun x1=>(zct x1).bind fun x2=>(grd (List.length (q.2++([x2]:List (List UInt8)))*16≤140737488355328)).bind fun _=>jI c0 c1 c2 K ((w64 (q.1+1)),(q.2++([x2]:List (List UInt8))))else some q.2)
def As(l:(List zm))(most:Int):Option (Bool) :=
 (jI l most ((List.length l:Nat):Int) KK (0,[])).bind fun x1=>(bif (decide (((List.length l:Nat):Int)≤most))then(vr x1 true).bind fun x2=>some x2 else some false)
def zcu(x_:zb):Option ((List UInt8)) :=
 some x_.Name
def jJ(c0:(List zb))(c1:Int)(c2:Int):Nat→(Int×(List (List UInt8)))→Option ((List (List UInt8)))
 |0,_=>none
 |K+1,q=>(bif (decide (q.1<c2))then(idx c0 q.1).bind fun x1=>(zcu (zb.mk x1.Name x1.Zones x1.Except x1.From x1.Until x1.Grace x1.Vary x1.Kind (Expr.mk x1.Test.Op x1.Test.N x1.Test.S x1.Test.Key x1.Test.Args) x1.zg x1.Uses x1.Other x1.N)).bind fun x2=>(grd (List.length (q.2++([x2]:List (List UInt8)))*16≤140737488355328)).bind fun _=>jJ c0 c1 c2 K ((w64 (q.1+1)),(q.2++([x2]:List (List UInt8))))else some q.2)
def At(l:(List zb))(most:Int):Option (Bool) :=
 (jJ l most ((List.length l:Nat):Int) KK (0,[])).bind fun x1=>(bif (decide (((List.length l:Nat):Int)≤most))then(vr x1 true).bind fun x2=>some x2 else some false)
def zcv(x_:Cap):Option ((List UInt8)) :=
 some x_.Name
def jK(c0:(List Cap))(c1:Int)(c2:Int):Nat→(Int×(List (List UInt8)))→Option ((List (List UInt8)))
 |0,_=>none
 |K+1,q=>(bif (decide (q.1<c2))then(idx c0 q.1).bind fun x1=>(zcv x1).bind fun x2=>(grd (List.length (q.2++([x2]:List (List UInt8)))*16≤140737488355328)).bind fun _=>jK c0 c1 c2 K ((w64 (q.1+1)),(q.2++([x2]:List (List UInt8))))else some q.2)
def Au(l:(List Cap))(most:Int):Option (Bool) :=
 (jK l most ((List.length l:Nat):Int) KK (0,[])).bind fun x1=>(bif (decide (((List.length l:Nat):Int)≤most))then(vr x1 true).bind fun x2=>some x2 else some false)
def zcw(x_:View):Option ((List UInt8)) :=
 some x_.Name
def jL(c0:(List View))(c1:Int)(c2:Int):Nat→(Int×(List (List UInt8)))→Option ((List (List UInt8)))
 |0,_=>none
 |K+1,q=>(bif (decide (q.1<c2))then(idx c0 q.1).bind fun x1=>(zcw x1).bind fun x2=>(grd (List.length (q.2++([x2]:List (List UInt8)))*16≤140737488355328)).bind fun _=>jL c0 c1 c2 K ((w64 (q.1+1)),(q.2++([x2]:List (List UInt8))))else some q.2)
def Av(l:(List View))(most:Int):Option (Bool) :=
 (jL l most ((List.length l:Nat):Int) KK (0,[])).bind fun x1=>(bif (decide (((List.length l:Nat):Int)≤most))then(vr x1 true).bind fun x2=>some x2 else some false)
def yk(r_right:Expr→Int→Option (Bool))(c0:Int)(c1:(List Expr))(c2:Int):Nat→(Int)→Option ((Bool)⊕(Unit))
 |0,_=>none
 |K+1,q=>(bif (decide (q<c2))then(idx c1 q).bind fun x1=>(r_right (Expr.mk x1.Op x1.N x1.S x1.Key x1.Args) (w64 (c0-1))).bind fun x2=>(bif (!x2)then some (Sum.inl false)else yk r_right c0 c1 c2 K (w64 (q+1)))else some (Sum.inr ()))
def zI:Nat→Expr→Int→Option (Bool)
 |0,_,_=>none
 |RK+1,e,depth=>((bif (decide (depth=0))then some true else(bif (decide (e.Op<0))then some true else some (decide (e.Op≥17))))).bind fun x1=>(bif x1 then some false else((bif (decide (e.Op=0))then some (Sum.inr (0,(min (max e.N 0) 1099511627776),([]:List UInt8),([]:List UInt8)))else((bif (decide (e.Op=1))then some (decide (e.Op=1))else some (decide (e.Op=3)))).bind fun x3=>(bif x3 then some (Sum.inr (0,0,e.S,([]:List UInt8)))else(bif (decide (e.Op=2))then(HV e.Key).bind fun x4=>(bif (!x4)then some (Sum.inl false)else some (Sum.inr (0,0,e.S,e.Key)))else((bif (decide (e.Op=9))then some (decide (e.Op=9))else some (decide (e.Op=15)))).bind fun x5=>(bif x5 then some (Sum.inr (1,0,([]:List UInt8),([]:List UInt8)))else(bif (decide (e.Op=16))then some (Sum.inr (3,0,([]:List UInt8),([]:List UInt8)))else some (Sum.inr (2,0,([]:List UInt8),([]:List UInt8))))))))).bind (yj some fun x2=>((bif (!(decide (((List.length e.Args:Nat):Int)=x2.1)))then some true else(bif (!(decide (x2.2.1=e.N)))then some true else(bif (!(decide (x2.2.2.1=e.S)))then some true else(bif (!(decide (x2.2.2.2=e.Key)))then some true else(bif (decide (x2.1=0))then(bif (!(decide (e.Op=0)))then(HV e.S).bind fun x7=>some (!x7)else some false)else some false)))))).bind fun x6=>(bif x6 then some false else(yk (zI RK) depth e.Args ((List.length e.Args:Nat):Int) KK 0).bind (yj some fun _=>some true))))
def vt(e:Expr):Option (Bool) :=
 (zI KK (Expr.mk e.Op e.N e.S e.Key e.Args) 12).bind fun x1=>some x1
def zcx(x_:Entry):Option ((List UInt8)) :=
 some x_.Name
def jM(c0:(List Entry))(c1:Int)(c2:Int):Nat→(Int×(List (List UInt8)))→Option ((List (List UInt8)))
 |0,_=>none
 |K+1,q=>(bif (decide (q.1<c2))then(idx c0 q.1).bind fun x1=>(zcx x1).bind fun x2=>(grd (List.length (q.2++([x2]:List (List UInt8)))*16≤140737488355328)).bind fun _=>jM c0 c1 c2 K ((w64 (q.1+1)),(q.2++([x2]:List (List UInt8))))else some q.2)
def Aw(l:(List Entry))(most:Int):Option (Bool) :=
 (jM l most ((List.length l:Nat):Int) KK (0,[])).bind fun x1=>(bif (decide (((List.length l:Nat):Int)≤most))then(vr x1 true).bind fun x2=>some x2 else some false)
def ku(c0:Int)(c1:Int)(c2:(List Int))(c3:Int):Nat→(Int)→Option ((Bool)⊕(Unit))
 |0,_=>none
 |K+1,q=>(bif (decide (q<c3))then(idx c2 q).bind fun x1=>((bif (decide (x1<c0))then some true else some (decide (x1>c1)))).bind fun x2=>(bif x2 then some (Sum.inl false)else ku c0 c1 c2 c3 K (w64 (q+1)))else some (Sum.inr ()))
def zx(from_:Int)(to_:Int)(l:(List Int)):Option (Bool) :=
 (ku from_ to_ l ((List.length l:Nat):Int) KK 0).bind (yj some fun _=>some true)
def yU(c0:(List zw))(c1:Int):Nat→(Int×(List zl))→Option ((List zl))
 |0,_=>none
 |K+1,q=>(bif (decide (q.1<c1))then(idx c0 q.1).bind fun x1=>(grd (((List.length c0:Nat):Int)≠0)).bind fun _=>(idx c0 (Int.tmod (w64 (q.1+1)) ((List.length c0:Nat):Int))).bind fun x3=>(grd (0≤q.1∧q.1<(((List.length q.2):Nat):Int))).bind fun _=>((q.2)[(Int.toNat q.1)]?).bind fun _=>yU c0 c1 K ((w64 (q.1+1)),(List.set q.2 (Int.toNat q.1) (zl.mk x1 x3)))else some q.2)
def Ax(p:(List zw)):Option ((List zl)) :=
 (grd (0≤((List.length p:Nat):Int)∧((List.length p:Nat):Int)*((32:Nat):Int)≤281474976710656∧((List.length p:Nat):Int)≤9223372036854775807)).bind fun _=>(yU p ((List.length p:Nat):Int) KK (0,(List.replicate (Int.toNat ((List.length p:Nat):Int)) (zl.mk (zw.mk 0 0) (zw.mk 0 0))))).bind fun x2=>some x2
def JP(p:zw):Option (Bool) :=
 (bif (decide (0≤p.X))then(bif (decide (p.X≤1048576))then(bif (decide (0≤p.Y))then some (decide (p.Y≤1048576))else some false)else some false)else some false)
def yf(s:zl):Option (Bool) :=
 some (decide (s.a.X=s.b.X))
def uj(x_:Int):Option (Bool) :=
 some (!(decide (x_=x_)))
def wW(x_:Int)(y:Int):Option (Int) :=
 (uj x_).bind fun x1=>(uj y).bind fun x2=>(bif x1 then(bif x2 then some 0 else some (-1))else(bif x2 then some 1 else(bif (decide (x_<y))then some (-1)else(bif (decide (x_>y))then some 1 else some 0))))
def vu(c0:Int)(c1:(List Int))(c2:Int):Nat→(Int)→Option ((Int)⊕(Unit))
 |0,_=>none
 |K+1,q=>(bif (decide (q<c2))then(idx c1 q).bind fun x1=>(bif (!(decide (x1=c0)))then some (Sum.inl x1)else vu c0 c1 c2 K (w64 (q+1)))else some (Sum.inr ()))
def Qj(vals:(List Int)):Option (Int) :=
 (vu 0 vals ((List.length vals:Nat):Int) KK 0).bind (yj some fun _=>some 0)
def uk(a:zw)(b:zw):Option (Int) :=
 (wW a.X b.X).bind fun x1=>(wW a.Y b.Y).bind fun x2=>(Qj ([x1,x2]:List Int)).bind fun x3=>some x3
def uL(s:zl)(t:zl):Option (Bool) :=
 (bif (decide ((max (min s.a.X s.b.X) (min t.a.X t.b.X))≤(min (max s.a.X s.b.X) (max t.a.X t.b.X))))then some (decide ((max (min s.a.Y s.b.Y) (min t.a.Y t.b.Y))≤(min (max s.a.Y s.b.Y) (max t.a.Y t.b.Y))))else some false)
def wH(c0:(List zw))(c1:(List zl))(c2:Int):Nat→(Int)→Option ((Bool)⊕(Unit))
 |0,_=>none
 |K+1,q=>(bif (decide (q<c2))then(idx c1 q).bind fun x1=>(grd (((List.length c1:Nat):Int)≠0)).bind fun _=>(idx c1 (Int.tmod (w64 (q+1)) ((List.length c1:Nat):Int))).bind fun x3=>((JP x1.a).bind fun x5=>(bif (!x5)then some true else(bif ((decide (x1.a.X=x1.b.X))==(decide (x1.a.Y=x1.b.Y)))then some true else(yf x1).bind fun x6=>(yf x3).bind fun x7=>some (x6==x7)))).bind fun x4=>(bif x4 then some (Sum.inl false)else((bif (decide (q>0))then(idx c0 0).bind fun x9=>(idx c0 q).bind fun x10=>(uk x9 x10).bind fun x11=>some (decide (x11≥0))else some false)).bind fun x8=>(bif x8 then some (Sum.inl false)else wH c0 c1 c2 K (w64 (q+1))))else some (Sum.inr ()))
def wI(c0:(List zl))(c1:Int)(c2:Int):Nat→(Int)→Option ((Bool)⊕(Unit))
 |0,_=>none
 |K+1,q=>(bif (decide (q<((List.length c0:Nat):Int)))then((bif (decide ((w64 ((w64 (c1+((List.length c0:Nat):Int)))-q))>1))then(idx c0 c1).bind fun x2=>(idx c0 q).bind fun x3=>(uL x2 x3).bind fun x4=>some x4 else some false)).bind fun x1=>(bif x1 then some (Sum.inl false)else wI c0 c1 c2 K (w64 (q+1)))else some (Sum.inr ()))
def wJ(c0:(List zl))(c1:Int):Nat→(Int)→Option ((Bool)⊕(Unit))
 |0,_=>none
 |K+1,q=>(bif (decide (q<c1))then(wI c0 q c1 KK (w64 (q+2))).bind (yj (fun q=>some (Sum.inl q)) fun _=>wJ c0 c1 K (w64 (q+1)))else some (Sum.inr ()))
def Vq(p:(List zw)):Option (Bool) :=
 ((bif (decide (((List.length p:Nat):Int)<4))then some true else some (decide (((List.length p:Nat):Int)>60)))).bind fun x1=>(bif x1 then some false else(Ax p).bind fun x2=>(wH p x2 ((List.length x2:Nat):Int) KK 0).bind (yj some fun _=>(wJ x2 ((List.length x2:Nat):Int) KK 0).bind (yj some fun _=>(idx x2 0).bind fun x5=>(yf x5).bind fun x6=>some (!x6))))
def um(l:(List zw)):Option (Bool) :=
 (Vq l).bind fun x1=>some x1
def vv(c0:(List (List UInt8)))(c1:(List (List UInt8)))(c2:Int):Nat→(Int)→Option ((Bool)⊕(Unit))
 |0,_=>none
 |K+1,q=>(bif (decide (q<c2))then(idx c0 q).bind fun x1=>(idx c1 q).bind fun x2=>(bif (!(decide (x1=x2)))then some (Sum.inl false)else vv c0 c1 c2 K (w64 (q+1)))else some (Sum.inr ()))
def wk(s1:(List (List UInt8)))(s2:(List (List UInt8))):Option (Bool) :=
 (bif (!(decide (((List.length s1:Nat):Int)=((List.length s2:Nat):Int))))then some false else(vv s1 s2 ((List.length s1:Nat):Int) KK 0).bind (yj some fun _=>some true))
def xy(r_sameExpr:Expr→Expr→Option (Bool))(c0:(List Expr))(c1:(List Expr))(c2:Int):Nat→(Int)→Option ((Bool)⊕(Unit))
 |0,_=>none
 |K+1,q=>(bif (decide (q<c2))then(idx c1 q).bind fun x1=>(idx c0 q).bind fun x2=>(r_sameExpr (Expr.mk x1.Op x1.N x1.S x1.Key x1.Args) (Expr.mk x2.Op x2.N x2.S x2.Key x2.Args)).bind fun x3=>(bif (!x3)then some (Sum.inl false)else xy r_sameExpr c0 c1 c2 K (w64 (q+1)))else some (Sum.inr ()))
mutual
def xu:Nat→(List Expr)→(List Expr)→Option (Bool)
 |0,_,_=>none
 |RK+1,s1,s2=>(bif (!(decide (((List.length s1:Nat):Int)=((List.length s2:Nat):Int))))then some false else(xy (xQ RK) s2 s1 ((List.length s1:Nat):Int) KK 0).bind (yj some fun _=>some true))
def xQ:Nat→Expr→Expr→Option (Bool)
 |0,_,_=>none
 |RK+1,a,b=>(bif (decide (a.Op=b.Op))then(bif (decide (a.N=b.N))then(bif (decide (a.S=b.S))then(bif (decide (a.Key=b.Key))then(xu RK a.Args b.Args).bind fun x1=>some x1 else some false)else some false)else some false)else some false)
end
def vw(a:zb)(b:zb):Option (Bool) :=
 ((wk a.Zones b.Zones).bind fun x2=>(bif (!x2)then some true else(wk a.Except b.Except).bind fun x3=>(bif (!x3)then some true else(xQ KK (Expr.mk a.Test.Op a.Test.N a.Test.S a.Test.Key a.Test.Args) (Expr.mk b.Test.Op b.Test.N b.Test.S b.Test.Key b.Test.Args)).bind fun x4=>some (!x4)))).bind fun x1=>(bif x1 then some false else((bif (decide (a.Name=b.Name))then(bif (decide (a.From=b.From))then(bif (decide (a.Until=b.Until))then(bif (decide (a.Grace=b.Grace))then some (a.Vary==b.Vary)else some false)else some false)else some false)else some false)).bind fun x5=>(bif x5 then(bif (decide (a.Kind=b.Kind))then(bif (decide (a.zg.Side=b.zg.Side)&&(decide (a.zg.Base=b.zg.Base)&&(decide (a.zg.Num=b.zg.Num)&&(decide (a.zg.Den=b.zg.Den)))))then(bif (decide (a.Uses=b.Uses))then(bif (decide (a.Other=b.Other))then some (decide (a.N=b.N))else some false)else some false)else some false)else some false)else some false))
def kv(r_:zb):Option (Bool) :=
 ((vr r_.Zones false).bind fun x2=>(bif (!x2)then some true else(vr r_.Except false).bind fun x3=>(bif (!x3)then some true else(zx 0 1073741824 ([r_.From,r_.Grace,r_.Until]:List Int)).bind fun x4=>(bif (!x4)then some true else(bif (!(decide (r_.Until=0)))then some (decide (r_.Until≤r_.From))else some false))))).bind fun x1=>(bif x1 then some false else((bif (decide (r_.Kind=0))then(vt (Expr.mk r_.Test.Op r_.Test.N r_.Test.S r_.Test.Key r_.Test.Args)).bind fun x6=>some (x6,r_.Test.Op,r_.Test.N,r_.Test.S,r_.Test.Key,r_.Test.Args,0,0,0,0,0,0,0)else(bif (decide (r_.Kind=1))then(zx 0 3 ([r_.zg.Side]:List Int)).bind fun x7=>(bif x7 then(zx 0 4096 ([r_.zg.Base,r_.zg.Num]:List Int)).bind fun x8=>(bif x8 then(zx 1 4096 ([r_.zg.Den]:List Int)).bind fun x9=>some (x9,0,0,([]:List UInt8),([]:List UInt8),[],r_.zg.Side,r_.zg.Base,r_.zg.Num,r_.zg.Den,0,0,0)else some (false,0,0,([]:List UInt8),([]:List UInt8),[],r_.zg.Side,r_.zg.Base,r_.zg.Num,r_.zg.Den,0,0,0))else some (false,0,0,([]:List UInt8),([]:List UInt8),[],r_.zg.Side,r_.zg.Base,r_.zg.Num,r_.zg.Den,0,0,0))else(bif (decide (r_.Kind=2))then(zx 1 63 ([r_.Uses]:List Int)).bind fun x10=>some (x10,0,0,([]:List UInt8),([]:List UInt8),[],0,0,0,0,r_.Uses,0,0)else(bif (decide (r_.Kind=3))then(zx 0 5 ([r_.Uses,r_.Other]:List Int)).bind fun x11=>(bif x11 then(zx 0 1048576 ([r_.N]:List Int)).bind fun x12=>some (x12,0,0,([]:List UInt8),([]:List UInt8),[],0,0,0,0,r_.Uses,r_.Other,r_.N)else some (false,0,0,([]:List UInt8),([]:List UInt8),[],0,0,0,0,r_.Uses,r_.Other,r_.N))else some (false,0,0,([]:List UInt8),([]:List UInt8),[],0,0,0,0,0,0,0)))))).bind fun x5=>(bif x5.1 then(vw (zb.mk r_.Name r_.Zones r_.Except r_.From r_.Until r_.Grace r_.Vary r_.Kind (Expr.mk r_.Test.Op r_.Test.N r_.Test.S r_.Test.Key r_.Test.Args) r_.zg r_.Uses r_.Other r_.N) (zb.mk r_.Name r_.Zones r_.Except r_.From r_.Until r_.Grace r_.Vary r_.Kind (Expr.mk x5.2.1 x5.2.2.1 x5.2.2.2.1 x5.2.2.2.2.1 x5.2.2.2.2.2.1) (zg.mk x5.2.2.2.2.2.2.1 x5.2.2.2.2.2.2.2.1 x5.2.2.2.2.2.2.2.2.1 x5.2.2.2.2.2.2.2.2.2.1) x5.2.2.2.2.2.2.2.2.2.2.1 x5.2.2.2.2.2.2.2.2.2.2.2.1 x5.2.2.2.2.2.2.2.2.2.2.2.2)).bind fun x13=>some x13 else some false))
def jW(c0:(List Def))(c1:Int)(c2:(List Table))(c3:(List zm))(c4:(List zb))(c5:(List Cap))(c6:(List View))(c7:(List zj))(c8:Int):Nat→(Int)→Option ((Bool)⊕(Unit))
 |0,_=>none
 |K+1,q=>(bif (decide (q<c1))then(idx c0 q).bind fun x1=>(vt (Expr.mk x1.Body.Op x1.Body.N x1.Body.S x1.Body.Key x1.Body.Args)).bind fun x2=>(bif (!x2)then some (Sum.inl false)else jW c0 c1 c2 c3 c4 c5 c6 c7 c8 K (w64 (q+1)))else some (Sum.inr ()))
def qx(c0:(List Table))(c1:Int)(c2:Int)(c3:(List Entry))(c4:Int)(c5:(List Def))(c6:(List zm))(c7:(List zb))(c8:(List Cap))(c9:(List View))(c10:(List zj))(c11:Int):Nat→(Int)→Option ((Bool)⊕(Unit))
 |0,_=>none
 |K+1,q=>(bif (decide (q<c4))then(idx c3 q).bind fun x1=>(zx (-1099511627776) 1099511627776 ([x1.N]:List Int)).bind fun x2=>(bif (!x2)then some (Sum.inl false)else qx c0 c1 c2 c3 c4 c5 c6 c7 c8 c9 c10 c11 K (w64 (q+1)))else some (Sum.inr ()))
def vx(c0:(List Table))(c1:Int)(c2:(List Def))(c3:(List zm))(c4:(List zb))(c5:(List Cap))(c6:(List View))(c7:(List zj))(c8:Int):Nat→(Int)→Option ((Bool)⊕(Unit))
 |0,_=>none
 |K+1,q=>(bif (decide (q<c1))then(idx c0 q).bind fun x1=>((Aw x1.Rows 60).bind fun x3=>(bif (!x3)then some true else(zx (-1099511627776) 1099511627776 ([x1.Else]:List Int)).bind fun x4=>some (!x4))).bind fun x2=>(bif x2 then some (Sum.inl false)else(qx c0 c1 q x1.Rows ((List.length x1.Rows:Nat):Int) c2 c3 c4 c5 c6 c7 c8 KK 0).bind (yj (fun q=>some (Sum.inl q)) fun _=>vx c0 c1 c2 c3 c4 c5 c6 c7 c8 K (w64 (q+1))))else some (Sum.inr ()))
def jX(c0:(List zm))(c1:Int)(c2:(List Def))(c3:(List Table))(c4:(List zb))(c5:(List Cap))(c6:(List View))(c7:(List zj))(c8:Int):Nat→(Int)→Option ((Bool)⊕(Unit))
 |0,_=>none
 |K+1,q=>(bif (decide (q<c1))then(idx c0 q).bind fun x1=>(um x1.Corners).bind fun x2=>(bif (!x2)then some (Sum.inl false)else jX c0 c1 c2 c3 c4 c5 c6 c7 c8 K (w64 (q+1)))else some (Sum.inr ()))
def jY(c0:(List zb))(c1:Int)(c2:(List Def))(c3:(List Table))(c4:(List zm))(c5:(List Cap))(c6:(List View))(c7:(List zj))(c8:Int):Nat→(Int)→Option ((Bool)⊕(Unit))
 |0,_=>none
 |K+1,q=>(bif (decide (q<c1))then(idx c0 q).bind fun x1=>(kv (zb.mk x1.Name x1.Zones x1.Except x1.From x1.Until x1.Grace x1.Vary x1.Kind (Expr.mk x1.Test.Op x1.Test.N x1.Test.S x1.Test.Key x1.Test.Args) x1.zg x1.Uses x1.Other x1.N)).bind fun x2=>(bif (!x2)then some (Sum.inl false)else jY c0 c1 c2 c3 c4 c5 c6 c7 c8 K (w64 (q+1)))else some (Sum.inr ()))
def jZ(c0:(List Cap))(c1:Int)(c2:(List Def))(c3:(List Table))(c4:(List zm))(c5:(List zb))(c6:(List View))(c7:(List zj))(c8:Int):Nat→(Int)→Option ((Bool)⊕(Unit))
 |0,_=>none
 |K+1,q=>(bif (decide (q<c1))then(idx c0 q).bind fun x1=>((zx 0 2 ([x1.Load]:List Int)).bind fun x3=>(bif (!x3)then some true else(zx 0 1099511627776 ([x1.Limit]:List Int)).bind fun x4=>(bif (!x4)then some true else(um x1.Corners).bind fun x5=>some (!x5)))).bind fun x2=>(bif x2 then some (Sum.inl false)else jZ c0 c1 c2 c3 c4 c5 c6 c7 c8 K (w64 (q+1)))else some (Sum.inr ()))
def qy(c0:(List View))(c1:Int)(c2:Int)(c3:Int)(c4:(List Def))(c5:(List Table))(c6:(List zm))(c7:(List zb))(c8:(List Cap))(c9:(List zj))(c10:Int)(c11:(List zj)):Nat→(Int)→Option ((Bool)⊕(Unit))
 |0,_=>none
 |K+1,q=>(bif (decide (q<c3))then(grd (0≤q∧q<(((List.length c11):Nat):Int))).bind fun _=>((c11)[(Int.toNat q)]?).bind fun x2=>((zx 0 1048576 ([x2.X,x2.Y]:List Int)).bind fun x4=>(bif (!x4)then some true else(zx 0 4096 ([x2.Z_]:List Int)).bind fun x5=>some (!x5))).bind fun x3=>(bif x3 then some (Sum.inl false)else qy c0 c1 c2 c3 c4 c5 c6 c7 c8 c9 c10 c11 K (w64 (q+1)))else some (Sum.inr ()))
def vy(c0:(List View))(c1:Int)(c2:(List Def))(c3:(List Table))(c4:(List zm))(c5:(List zb))(c6:(List Cap))(c7:(List zj))(c8:Int):Nat→(Int)→Option ((Bool)⊕(Unit))
 |0,_=>none
 |K+1,q=>(bif (decide (q<c1))then(idx c0 q).bind fun x1=>((zx 0 20 ([x1.Least]:List Int)).bind fun x3=>(bif (!x3)then some true else(zx 1 20 ([((List.length x1.Targets:Nat):Int)]:List Int)).bind fun x4=>some (!x4))).bind fun x2=>(bif x2 then some (Sum.inl false)else(grd (List.length (([x1.Eye]:List zj)++x1.Targets)*24≤140737488355328)).bind fun _=>(qy c0 c1 q (((List.length (([x1.Eye]:List zj)++x1.Targets)):Nat):Int) c2 c3 c4 c5 c6 c7 c8 (([x1.Eye]:List zj)++x1.Targets) KK 0).bind (yj (fun q=>some (Sum.inl q)) fun _=>vy c0 c1 c2 c3 c4 c5 c6 c7 c8 K (w64 (q+1))))else some (Sum.inr ()))
def j3(c0:(List zj))(c1:Int)(c2:(List Def))(c3:(List Table))(c4:(List zm))(c5:(List zb))(c6:(List Cap))(c7:(List View))(c8:Int):Nat→(Int)→Option ((Bool)⊕(Unit))
 |0,_=>none
 |K+1,q=>(bif (decide (q<c1))then(idx c0 q).bind fun x1=>((zx (-4096) 4096 ([x1.X,x1.Y]:List Int)).bind fun x3=>(bif (!x3)then some true else(zx 1 4096 ([x1.Z_]:List Int)).bind fun x4=>some (!x4))).bind fun x2=>(bif x2 then some (Sum.inl false)else j3 c0 c1 c2 c3 c4 c5 c6 c7 c8 K (w64 (q+1)))else some (Sum.inr ()))
def qg(p:zu):Option (Bool) :=
 ((Qi p.Defs 60).bind fun x2=>(bif (!x2)then some true else(Ar p.Tables 60).bind fun x3=>(bif (!x3)then some true else(As p.Zones 60).bind fun x4=>(bif (!x4)then some true else(At p.Rules 200).bind fun x5=>(bif (!x5)then some true else(Au p.Caps 30).bind fun x6=>(bif (!x6)then some true else(Av p.Views 60).bind fun x7=>some (!x7))))))).bind fun x1=>(bif x1 then some false else(jW p.Defs ((List.length p.Defs:Nat):Int) p.Tables p.Zones p.Rules p.Caps p.Views p.Sun p.Hours KK 0).bind (yj some fun _=>(vx p.Tables ((List.length p.Tables:Nat):Int) p.Defs p.Zones p.Rules p.Caps p.Views p.Sun p.Hours KK 0).bind (yj some fun _=>(jX p.Zones ((List.length p.Zones:Nat):Int) p.Defs p.Tables p.Rules p.Caps p.Views p.Sun p.Hours KK 0).bind (yj some fun _=>(jY p.Rules ((List.length p.Rules:Nat):Int) p.Defs p.Tables p.Zones p.Caps p.Views p.Sun p.Hours KK 0).bind (yj some fun _=>(jZ p.Caps ((List.length p.Caps:Nat):Int) p.Defs p.Tables p.Zones p.Rules p.Views p.Sun p.Hours KK 0).bind (yj some fun _=>(vy p.Views ((List.length p.Views:Nat):Int) p.Defs p.Tables p.Zones p.Rules p.Caps p.Sun p.Hours KK 0).bind (yj some fun _=>(j3 p.Sun ((List.length p.Sun:Nat):Int) p.Defs p.Tables p.Zones p.Rules p.Caps p.Views p.Hours KK 0).bind (yj some fun _=>(zx 0 24 ([p.Hours,((List.length p.Sun:Nat):Int)]:List Int)).bind fun x15=>some x15))))))))
def Ay(p:zu):Option (Int×(List UInt8)×(List UInt8)×Int×(List UInt8)×(List (List UInt8))×(List (List UInt8))×Int×Int×Int×Bool×Int×Int×Int×(List UInt8)×(List UInt8)×(List Expr)×Int×Int×Int×Int×Int×Int×Int×Int×Int×(List UInt8)×(List UInt8)×(List Expr)×(List zw)) :=
 (bif (decide (((List.length p.Rules:Nat):Int)=1))then(idx p.Rules 0).bind fun x1=>some (0,([]:List UInt8),([]:List UInt8),0,x1.Name,x1.Zones,x1.Except,x1.From,x1.Until,x1.Grace,x1.Vary,x1.Kind,x1.Test.Op,x1.Test.N,x1.Test.S,x1.Test.Key,x1.Test.Args,x1.zg.Side,x1.zg.Base,x1.zg.Num,x1.zg.Den,x1.Uses,x1.Other,x1.N,0,0,([]:List UInt8),([]:List UInt8),[],[])else(bif (decide (((List.length p.Defs:Nat):Int)=1))then(idx p.Defs 0).bind fun x2=>(idx p.Defs 0).bind fun x3=>some (2,x2.Name,([]:List UInt8),0,([]:List UInt8),[],[],0,0,0,false,0,0,0,([]:List UInt8),([]:List UInt8),[],0,0,0,0,0,0,0,x3.Body.Op,x3.Body.N,x3.Body.S,x3.Body.Key,x3.Body.Args,[])else(idx p.Zones 0).bind fun x4=>((bif x4.Overlay then some 1 else some 0)).bind fun x5=>some (4,x4.Name,([]:List UInt8),x5,([]:List UInt8),[],[],0,0,0,false,0,0,0,([]:List UInt8),([]:List UInt8),[],0,0,0,0,0,0,0,0,0,([]:List UInt8),([]:List UInt8),[],x4.Corners)))
def wA(c0:(List zw))(c1:(List zw))(c2:Int):Nat→(Int)→Option ((Bool)⊕(Unit))
 |0,_=>none
 |K+1,q=>(bif (decide (q<c2))then(idx c0 q).bind fun x1=>(idx c1 q).bind fun x2=>(bif (!(decide (x1.X=x2.X)&&(decide (x1.Y=x2.Y))))then some (Sum.inl false)else wA c0 c1 c2 K (w64 (q+1)))else some (Sum.inr ()))
def ya(s1:(List zw))(s2:(List zw)):Option (Bool) :=
 (bif (!(decide (((List.length s1:Nat):Int)=((List.length s2:Nat):Int))))then some false else(wA s1 s2 ((List.length s1:Nat):Int) KK 0).bind (yj some fun _=>some true))
def Qk(x_:Def)(y:Def):Option (Bool) :=
 (bif (decide (x_.Name=y.Name))then(xQ KK (Expr.mk x_.Body.Op x_.Body.N x_.Body.S x_.Body.Key x_.Body.Args) (Expr.mk y.Body.Op y.Body.N y.Body.S y.Body.Key y.Body.Args)).bind fun x1=>some x1 else some false)
def yV(c0:(List Def))(c1:(List Def))(c2:Int):Nat→(Int)→Option ((Bool)⊕(Unit))
 |0,_=>none
 |K+1,q=>(bif (decide (q<c2))then(idx c1 q).bind fun x1=>(idx c0 q).bind fun x2=>(Qk (Def.mk x1.Name (Expr.mk x1.Body.Op x1.Body.N x1.Body.S x1.Body.Key x1.Body.Args)) (Def.mk x2.Name (Expr.mk x2.Body.Op x2.Body.N x2.Body.S x2.Body.Key x2.Body.Args))).bind fun x3=>(bif (!x3)then some (Sum.inl false)else yV c0 c1 c2 K (w64 (q+1)))else some (Sum.inr ()))
def yt(s1:(List Def))(s2:(List Def)):Option (Bool) :=
 (bif (!(decide (((List.length s1:Nat):Int)=((List.length s2:Nat):Int))))then some false else(yV s2 s1 ((List.length s1:Nat):Int) KK 0).bind (yj some fun _=>some true))
def wB(c0:(List Entry))(c1:(List Entry))(c2:Int):Nat→(Int)→Option ((Bool)⊕(Unit))
 |0,_=>none
 |K+1,q=>(bif (decide (q<c2))then(idx c0 q).bind fun x1=>(idx c1 q).bind fun x2=>(bif (!(decide (x1.Name=x2.Name)&&(decide (x1.N=x2.N))))then some (Sum.inl false)else wB c0 c1 c2 K (w64 (q+1)))else some (Sum.inr ()))
def wq(s1:(List Entry))(s2:(List Entry)):Option (Bool) :=
 (bif (!(decide (((List.length s1:Nat):Int)=((List.length s2:Nat):Int))))then some false else(wB s1 s2 ((List.length s1:Nat):Int) KK 0).bind (yj some fun _=>some true))
def Ql(x_:Table)(y:Table):Option (Bool) :=
 (bif (decide (x_.Name=y.Name))then(bif (decide (x_.Else=y.Else))then(wq x_.Rows y.Rows).bind fun x1=>some x1 else some false)else some false)
def yW(c0:(List Table))(c1:(List Table))(c2:Int):Nat→(Int)→Option ((Bool)⊕(Unit))
 |0,_=>none
 |K+1,q=>(bif (decide (q<c2))then(idx c1 q).bind fun x1=>(idx c0 q).bind fun x2=>(Ql x1 x2).bind fun x3=>(bif (!x3)then some (Sum.inl false)else yW c0 c1 c2 K (w64 (q+1)))else some (Sum.inr ()))
def yu(s1:(List Table))(s2:(List Table)):Option (Bool) :=
 (bif (!(decide (((List.length s1:Nat):Int)=((List.length s2:Nat):Int))))then some false else(yW s2 s1 ((List.length s1:Nat):Int) KK 0).bind (yj some fun _=>some true))
def yX(c0:(List zb))(c1:(List zb))(c2:Int):Nat→(Int)→Option ((Bool)⊕(Unit))
 |0,_=>none
 |K+1,q=>(bif (decide (q<c2))then(idx c1 q).bind fun x1=>(idx c0 q).bind fun x2=>(vw (zb.mk x1.Name x1.Zones x1.Except x1.From x1.Until x1.Grace x1.Vary x1.Kind (Expr.mk x1.Test.Op x1.Test.N x1.Test.S x1.Test.Key x1.Test.Args) x1.zg x1.Uses x1.Other x1.N) (zb.mk x2.Name x2.Zones x2.Except x2.From x2.Until x2.Grace x2.Vary x2.Kind (Expr.mk x2.Test.Op x2.Test.N x2.Test.S x2.Test.Key x2.Test.Args) x2.zg x2.Uses x2.Other x2.N)).bind fun x3=>(bif (!x3)then some (Sum.inl false)else yX c0 c1 c2 K (w64 (q+1)))else some (Sum.inr ()))
def yv(s1:(List zb))(s2:(List zb)):Option (Bool) :=
 (bif (!(decide (((List.length s1:Nat):Int)=((List.length s2:Nat):Int))))then some false else(yX s2 s1 ((List.length s1:Nat):Int) KK 0).bind (yj some fun _=>some true))
def Qm(x_:zm)(y:zm):Option (Bool) :=
 (bif (decide (x_.Name=y.Name))then(bif (x_.Overlay==y.Overlay)then(ya x_.Corners y.Corners).bind fun x1=>some x1 else some false)else some false)
def yY(c0:(List zm))(c1:(List zm))(c2:Int):Nat→(Int)→Option ((Bool)⊕(Unit))
 |0,_=>none
 |K+1,q=>(bif (decide (q<c2))then(idx c1 q).bind fun x1=>(idx c0 q).bind fun x2=>(Qm x1 x2).bind fun x3=>(bif (!x3)then some (Sum.inl false)else yY c0 c1 c2 K (w64 (q+1)))else some (Sum.inr ()))
def yw(s1:(List zm))(s2:(List zm)):Option (Bool) :=
 (bif (!(decide (((List.length s1:Nat):Int)=((List.length s2:Nat):Int))))then some false else(yY s2 s1 ((List.length s1:Nat):Int) KK 0).bind (yj some fun _=>some true))
def Qn(x_:Cap)(y:Cap):Option (Bool) :=
 (bif (decide (x_.Name=y.Name))then(bif (decide (x_.Load=y.Load))then(bif (decide (x_.Limit=y.Limit))then(ya x_.Corners y.Corners).bind fun x1=>some x1 else some false)else some false)else some false)
def yZ(c0:(List Cap))(c1:(List Cap))(c2:Int):Nat→(Int)→Option ((Bool)⊕(Unit))
 |0,_=>none
 |K+1,q=>(bif (decide (q<c2))then(idx c1 q).bind fun x1=>(idx c0 q).bind fun x2=>(Qn x1 x2).bind fun x3=>(bif (!x3)then some (Sum.inl false)else yZ c0 c1 c2 K (w64 (q+1)))else some (Sum.inr ()))
def yx(s1:(List Cap))(s2:(List Cap)):Option (Bool) :=
 (bif (!(decide (((List.length s1:Nat):Int)=((List.length s2:Nat):Int))))then some false else(yZ s2 s1 ((List.length s1:Nat):Int) KK 0).bind (yj some fun _=>some true))
def wC(c0:(List zj))(c1:(List zj))(c2:Int):Nat→(Int)→Option ((Bool)⊕(Unit))
 |0,_=>none
 |K+1,q=>(bif (decide (q<c2))then(idx c0 q).bind fun x1=>(idx c1 q).bind fun x2=>(bif (!(decide (x1.X=x2.X)&&(decide (x1.Y=x2.Y)&&(decide (x1.Z_=x2.Z_)))))then some (Sum.inl false)else wC c0 c1 c2 K (w64 (q+1)))else some (Sum.inr ()))
def y8(s1:(List zj))(s2:(List zj)):Option (Bool) :=
 (bif (!(decide (((List.length s1:Nat):Int)=((List.length s2:Nat):Int))))then some false else(wC s1 s2 ((List.length s1:Nat):Int) KK 0).bind (yj some fun _=>some true))
def Qo(x_:View)(y:View):Option (Bool) :=
 (bif (decide (x_.Name=y.Name))then(bif (decide (x_.Eye.X=y.Eye.X)&&(decide (x_.Eye.Y=y.Eye.Y)&&(decide (x_.Eye.Z_=y.Eye.Z_))))then(bif (decide (x_.Least=y.Least))then(y8 x_.Targets y.Targets).bind fun x1=>some x1 else some false)else some false)else some false)
def y0(c0:(List View))(c1:(List View))(c2:Int):Nat→(Int)→Option ((Bool)⊕(Unit))
 |0,_=>none
 |K+1,q=>(bif (decide (q<c2))then(idx c1 q).bind fun x1=>(idx c0 q).bind fun x2=>(Qo x1 x2).bind fun x3=>(bif (!x3)then some (Sum.inl false)else y0 c0 c1 c2 K (w64 (q+1)))else some (Sum.inr ()))
def yy(s1:(List View))(s2:(List View)):Option (Bool) :=
 (bif (!(decide (((List.length s1:Nat):Int)=((List.length s2:Nat):Int))))then some false else(y0 s2 s1 ((List.length s1:Nat):Int) KK 0).bind (yj some fun _=>some true))
def kU(a:zu)(b:zu):Option (Bool) :=
 ((yt a.Defs b.Defs).bind fun x2=>(bif x2 then(yu a.Tables b.Tables).bind fun x3=>(bif x3 then(yv a.Rules b.Rules).bind fun x4=>some x4 else some false)else some false)).bind fun x1=>((yw a.Zones b.Zones).bind fun x6=>(bif x6 then(yx a.Caps b.Caps).bind fun x7=>(bif x7 then(yy a.Views b.Views).bind fun x8=>some x8 else some false)else some false)).bind fun x5=>(bif x1 then(bif x5 then(y8 a.Sun b.Sun).bind fun x9=>(bif x9 then some (decide (a.Hours=b.Hours))else some false)else some false)else some false)
def wX(a:zn)(b:zn):Option (Bool) :=
 ((bif (decide (a.Kind=b.Kind))then(bif (decide (a.Name=b.Name))then(bif (decide (a.Key=b.Key))then(bif (decide (a.N=b.N))then(ya a.Corners b.Corners).bind fun x2=>some x2 else some false)else some false)else some false)else some false)).bind fun x1=>(bif x1 then(kU (zu.mk ([(Def.mk ([]:List UInt8) (Expr.mk a.Body.Op a.Body.N a.Body.S a.Body.Key a.Body.Args))]:List Def) [] [] ([(zb.mk a.zb.Name a.zb.Zones a.zb.Except a.zb.From a.zb.Until a.zb.Grace a.zb.Vary a.zb.Kind (Expr.mk a.zb.Test.Op a.zb.Test.N a.zb.Test.S a.zb.Test.Key a.zb.Test.Args) a.zb.zg a.zb.Uses a.zb.Other a.zb.N)]:List zb) [] [] [] 0) (zu.mk ([(Def.mk ([]:List UInt8) (Expr.mk b.Body.Op b.Body.N b.Body.S b.Body.Key b.Body.Args))]:List Def) [] [] ([(zb.mk b.zb.Name b.zb.Zones b.zb.Except b.zb.From b.zb.Until b.zb.Grace b.zb.Vary b.zb.Kind (Expr.mk b.zb.Test.Op b.zb.Test.N b.zb.Test.S b.zb.Test.Key b.zb.Test.Args) b.zb.zg b.zb.Uses b.zb.Other b.zb.N)]:List zb) [] [] [] 0)).bind fun x3=>some x3 else some false)
def wY(e:zn):Option (Bool) :=
 (HW (zn.mk e.Kind e.Name e.Key e.N (zb.mk e.zb.Name e.zb.Zones e.zb.Except e.zb.From e.zb.Until e.zb.Grace e.zb.Vary e.zb.Kind (Expr.mk e.zb.Test.Op e.zb.Test.N e.zb.Test.S e.zb.Test.Key e.zb.Test.Args) e.zb.zg e.zb.Uses e.zb.Other e.zb.N) (Expr.mk e.Body.Op e.Body.N e.Body.S e.Body.Key e.Body.Args) e.Corners)).bind fun x1=>(bif x1.1 then(qg (zu.mk x1.2.1 x1.2.2.1 x1.2.2.2.1 x1.2.2.2.2.1 x1.2.2.2.2.2.1 x1.2.2.2.2.2.2.1 x1.2.2.2.2.2.2.2.1 x1.2.2.2.2.2.2.2.2)).bind fun x2=>(bif x2 then(Ay (zu.mk x1.2.1 x1.2.2.1 x1.2.2.2.1 x1.2.2.2.2.1 x1.2.2.2.2.2.1 x1.2.2.2.2.2.2.1 x1.2.2.2.2.2.2.2.1 x1.2.2.2.2.2.2.2.2)).bind fun x3=>(wX (zn.mk x3.1 x3.2.1 x3.2.2.1 x3.2.2.2.1 (zb.mk x3.2.2.2.2.1 x3.2.2.2.2.2.1 x3.2.2.2.2.2.2.1 x3.2.2.2.2.2.2.2.1 x3.2.2.2.2.2.2.2.2.1 x3.2.2.2.2.2.2.2.2.2.1 x3.2.2.2.2.2.2.2.2.2.2.1 x3.2.2.2.2.2.2.2.2.2.2.2.1 (Expr.mk x3.2.2.2.2.2.2.2.2.2.2.2.2.1 x3.2.2.2.2.2.2.2.2.2.2.2.2.2.1 x3.2.2.2.2.2.2.2.2.2.2.2.2.2.2.1 x3.2.2.2.2.2.2.2.2.2.2.2.2.2.2.2.1 x3.2.2.2.2.2.2.2.2.2.2.2.2.2.2.2.2.1) (zg.mk x3.2.2.2.2.2.2.2.2.2.2.2.2.2.2.2.2.2.1 x3.2.2.2.2.2.2.2.2.2.2.2.2.2.2.2.2.2.2.1 x3.2.2.2.2.2.2.2.2.2.2.2.2.2.2.2.2.2.2.2.1 x3.2.2.2.2.2.2.2.2.2.2.2.2.2.2.2.2.2.2.2.2.1) x3.2.2.2.2.2.2.2.2.2.2.2.2.2.2.2.2.2.2.2.2.2.1 x3.2.2.2.2.2.2.2.2.2.2.2.2.2.2.2.2.2.2.2.2.2.2.1 x3.2.2.2.2.2.2.2.2.2.2.2.2.2.2.2.2.2.2.2.2.2.2.2.1) (Expr.mk x3.2.2.2.2.2.2.2.2.2.2.2.2.2.2.2.2.2.2.2.2.2.2.2.2.1 x3.2.2.2.2.2.2.2.2.2.2.2.2.2.2.2.2.2.2.2.2.2.2.2.2.2.1 x3.2.2.2.2.2.2.2.2.2.2.2.2.2.2.2.2.2.2.2.2.2.2.2.2.2.2.1 x3.2.2.2.2.2.2.2.2.2.2.2.2.2.2.2.2.2.2.2.2.2.2.2.2.2.2.2.1 x3.2.2.2.2.2.2.2.2.2.2.2.2.2.2.2.2.2.2.2.2.2.2.2.2.2.2.2.2.1) x3.2.2.2.2.2.2.2.2.2.2.2.2.2.2.2.2.2.2.2.2.2.2.2.2.2.2.2.2.2) (zn.mk e.Kind e.Name e.Key e.N (zb.mk e.zb.Name e.zb.Zones e.zb.Except e.zb.From e.zb.Until e.zb.Grace e.zb.Vary e.zb.Kind (Expr.mk e.zb.Test.Op e.zb.Test.N e.zb.Test.S e.zb.Test.Key e.zb.Test.Args) e.zb.zg e.zb.Uses e.zb.Other e.zb.N) (Expr.mk e.Body.Op e.Body.N e.Body.S e.Body.Key e.Body.Args) e.Corners)).bind fun x4=>some x4 else some false)else((wX (zn.mk e.Kind e.Name e.Key e.N (zb.mk e.zb.Name e.zb.Zones e.zb.Except e.zb.From e.zb.Until e.zb.Grace e.zb.Vary e.zb.Kind (Expr.mk e.zb.Test.Op e.zb.Test.N e.zb.Test.S e.zb.Test.Key e.zb.Test.Args) e.zb.zg e.zb.Uses e.zb.Other e.zb.N) (Expr.mk e.Body.Op e.Body.N e.Body.S e.Body.Key e.Body.Args) e.Corners) (zn.mk e.Kind e.Name e.Key e.N (zb.mk ([]:List UInt8) [] [] 0 0 0 false 0 (Expr.mk 0 0 ([]:List UInt8) ([]:List UInt8) []) (zg.mk 0 0 0 0) 0 0 0) (Expr.mk 0 0 ([]:List UInt8) ([]:List UInt8) []) [])).bind fun x6=>(bif (!x6)then some true else(HV e.Name).bind fun x7=>some (!x7))).bind fun x5=>(bif x5 then some false else(bif (decide (e.Kind=1))then(bif (decide (e.Key=([]:List UInt8)))then(bif (decide (e.N≥1))then some (decide (e.N≤1073741824))else some false)else some false)else(bif (decide (e.Kind=3))then(HV e.Key).bind fun x8=>(bif x8 then(bif (decide (e.N≥(-1099511627776)))then some (decide (e.N≤1099511627776))else some false)else some false)else(bif (decide (e.Kind=5))then(bif (decide (e.Key=([]:List UInt8)))then(bif (decide (e.N≥0))then some (decide (e.N≤1099511627776))else some false)else some false)else some false)))))
def Vr(e:zn):Option (Bool) :=
 (wY (zn.mk e.Kind e.Name e.Key e.N (zb.mk e.zb.Name e.zb.Zones e.zb.Except e.zb.From e.zb.Until e.zb.Grace e.zb.Vary e.zb.Kind (Expr.mk e.zb.Test.Op e.zb.Test.N e.zb.Test.S e.zb.Test.Key e.zb.Test.Args) e.zb.zg e.zb.Uses e.zb.Other e.zb.N) (Expr.mk e.Body.Op e.Body.N e.Body.S e.Body.Key e.Body.Args) e.Corners)).bind fun x1=>some (!x1)
def xz(c0:(List zn))(c1:Int):Nat→(Int)→Option ((Int)⊕(Unit))
 |0,_=>none
 |K+1,q=>(bif (decide (q<c1))then(idx c0 q).bind fun x1=>(Vr x1).bind fun x2=>(bif x2 then some (Sum.inl q)else xz c0 c1 K (w64 (q+1)))else some (Sum.inr ()))
def kV(s:(List zn)):Option (Int) :=
 (xz s ((List.length s:Nat):Int) KK 0).bind (yj some fun _=>some (-1))
def vN(s:(List zn)):Option (Bool) :=
 (kV s).bind fun x1=>some (decide (x1≥0))
def zpa(a0:Int):Option ((List UInt8)):=zo0 a0
def zcy(a0:(List UInt8))(a1:(List UInt8))(a2:(List UInt8))(a3:Int):Option ((List UInt8)):=Vj a0 a1 a2 a3
def zim(e:zn):Option ((List UInt8)) :=
 (zpa e.N).bind fun x1=>(zcy x1 zyn zCc 1).bind fun x2=>(bif (decide (e.Kind=1))then(grd (List.length zcm+List.length e.Name≤9223372036854775807)).bind fun _=>(grd (List.length (zcm++e.Name)+List.length t__≤9223372036854775807)).bind fun _=>(grd (List.length ((zcm++e.Name)++t__)+List.length x2≤9223372036854775807)).bind fun _=>(grd (List.length (((zcm++e.Name)++t__)++x2)+List.length qv≤9223372036854775807)).bind fun _=>some ((((zcm++e.Name)++t__)++x2)++qv)else(bif (decide (e.Kind=3))then(grd (List.length Vo+List.length e.Name≤9223372036854775807)).bind fun _=>(grd (List.length (Vo++e.Name)+List.length t__≤9223372036854775807)).bind fun _=>(grd (List.length ((Vo++e.Name)++t__)+List.length e.Key≤9223372036854775807)).bind fun _=>(grd (List.length (((Vo++e.Name)++t__)++e.Key)+List.length t__≤9223372036854775807)).bind fun _=>(grd (List.length ((((Vo++e.Name)++t__)++e.Key)++t__)+List.length x2≤9223372036854775807)).bind fun _=>(grd (List.length (((((Vo++e.Name)++t__)++e.Key)++t__)++x2)+List.length qv≤9223372036854775807)).bind fun _=>some ((((((Vo++e.Name)++t__)++e.Key)++t__)++x2)++qv)else(grd (List.length HU+List.length e.Name≤9223372036854775807)).bind fun _=>(grd (List.length (HU++e.Name)+List.length t__≤9223372036854775807)).bind fun _=>(grd (List.length ((HU++e.Name)++t__)+List.length x2≤9223372036854775807)).bind fun _=>(grd (List.length (((HU++e.Name)++t__)++x2)+List.length qv≤9223372036854775807)).bind fun _=>some ((((HU++e.Name)++t__)++x2)++qv)))
def zpb(a0:(List UInt8))(a1:(List UInt8)):Option (Int×(List UInt8)):=(grd (List.length a0+List.length a1≤140737488355328)).bind fun _=>some (((List.length a1:Nat):Int),a0++a1)
def zpc(a0:(List UInt8)):Option (Int):=some ((List.length a0:Nat):Int)
def Ys(a0:(List UInt8)):Option ((List UInt8)):=some a0
def oD(c0:Int)(c1:(List zn))(c2:Int):Nat→(Int×(List UInt8))→Option (((List UInt8)×Int)⊕((List UInt8)))
 |0,_=>none
 |K+1,q=>(bif (decide (q.1<c2))then(idx c1 q.1).bind fun x1=>(wY (zn.mk x1.Kind x1.Name x1.Key x1.N (zb.mk x1.zb.Name x1.zb.Zones x1.zb.Except x1.zb.From x1.zb.Until x1.zb.Grace x1.zb.Vary x1.zb.Kind (Expr.mk x1.zb.Test.Op x1.zb.Test.N x1.zb.Test.S x1.zb.Test.Key x1.zb.Test.Args) x1.zb.zg x1.zb.Uses x1.zb.Other x1.zb.N) (Expr.mk x1.Body.Op x1.Body.N x1.Body.S x1.Body.Key x1.Body.Args) x1.Corners)).bind fun x2=>(bif (!x2)then some (Sum.inl (([]:List UInt8),1))else(HW (zn.mk x1.Kind x1.Name x1.Key x1.N (zb.mk x1.zb.Name x1.zb.Zones x1.zb.Except x1.zb.From x1.zb.Until x1.zb.Grace x1.zb.Vary x1.zb.Kind (Expr.mk x1.zb.Test.Op x1.zb.Test.N x1.zb.Test.S x1.zb.Test.Key x1.zb.Test.Args) x1.zb.zg x1.zb.Uses x1.zb.Other x1.zb.N) (Expr.mk x1.Body.Op x1.Body.N x1.Body.S x1.Body.Key x1.Body.Args) x1.Corners)).bind fun x3=>(bif x3.1 then none else(zim (zn.mk x1.Kind x1.Name x1.Key x1.N (zb.mk x1.zb.Name x1.zb.Zones x1.zb.Except x1.zb.From x1.zb.Until x1.zb.Grace x1.zb.Vary x1.zb.Kind (Expr.mk x1.zb.Test.Op x1.zb.Test.N x1.zb.Test.S x1.zb.Test.Key x1.zb.Test.Args) x1.zb.zg x1.zb.Uses x1.zb.Other x1.zb.N) (Expr.mk x1.Body.Op x1.Body.N x1.Body.S x1.Body.Key x1.Body.Args) x1.Corners)).bind fun x4=>(zpb q.2 x4).bind fun x5=>oD c0 c1 c2 K ((w64 (q.1+1)),x5.2)))else some (Sum.inr q.2))
def zcz(l:(List zn)):Option ((List UInt8)×Int) :=
 ((vN l).bind fun x2=>(bif (!x2)then some (decide (((List.length l:Nat):Int)>200))else some false)).bind fun x1=>(bif x1 then some (([]:List UInt8),6)else(oD 0 l ((List.length l:Nat):Int) KK (0,([]:List UInt8))).bind (yj some fun x3=>((bif (!(decide (0=0)))then some true else(zpc x3).bind fun x5=>some (decide (x5>8000)))).bind fun x4=>(bif x4 then some (([]:List UInt8),6)else(Ys x3).bind fun x6=>some (x6,0))))
def vz(name:(List UInt8)):Option ((List UInt8)) :=
 some name
def uo(r_:zb)(a1:(List UInt8)):Option (Bool) :=
 some (decide (r_.Name=a1))
def zK(c0:(List UInt8))(c1:(List zb))(c2:Int):Nat→(Int)→Option ((Int)⊕(Unit))
 |0,_=>none
 |K+1,q=>(bif (decide (q<c2))then(idx c1 q).bind fun x1=>(uo x1 c0).bind fun x2=>(bif x2 then some (Sum.inl q)else zK c0 c1 c2 K (w64 (q+1)))else some (Sum.inr ()))
def yz(s:(List zb))(r_:(List UInt8)):Option (Int) :=
 (zK r_ s ((List.length s:Nat):Int) KK 0).bind (yj some fun _=>some (-1))
def zY(s:(List zb))(r_:(List UInt8)):Option (Bool) :=
 (yz s r_).bind fun x1=>some (decide (x1≥0))
def yo(s:(List zb)):Option ((List zb)) :=
 (grd (List.length (([]:List zb)++s)*232≤140737488355328)).bind fun _=>some (([]:List zb)++s)
def Vs(a0:zb):Option (Bool) :=
 some false
def zL(c0:(List zb))(c1:Int):Nat→(Int)→Option ((Int)⊕(Unit))
 |0,_=>none
 |K+1,q=>(bif (decide (q<c1))then(grd (0≤q∧q<(((List.length c0):Nat):Int))).bind fun _=>((c0)[(Int.toNat q)]?).bind fun x2=>(Vs x2).bind fun x3=>(bif x3 then some (Sum.inl q)else zL c0 c1 K (w64 (q+1)))else some (Sum.inr ()))
def xX(s:(List zb)):Option (Int) :=
 (zL s (((List.length s):Nat):Int) KK 0).bind (yj some fun _=>some (-1))
def ky(r_:(List zb))(ri:Int)(ed:EB):Option ((List zb)) :=
 ((r_)[(Int.toNat ri)]?).bind fun _=>some (List.set r_ (Int.toNat ri) (zb.mk ed.r0 ed.r1 ed.r2 ed.r3 ed.r4 ed.r5 ed.r6 ed.r7 (Expr.mk ed.r8 ed.r9 ed.r10 ed.r11 ed.r12) (zg.mk ed.r13 ed.r14 ed.r15 ed.r16) ed.r17 ed.r18 ed.r19))
def ZS(l:(List zb))(ed:EB)(most:Int):Option ((List zb)×Int) :=
 (yo l).bind fun x1=>(xX x1).bind fun x2=>((bif (decide (x2<0))then(bif (decide ((((List.length x1):Nat):Int)≥most))then(grd (eqB []=true)).bind fun _=>some (Sum.inl ([],6))else(grd (List.length (x1++([(zb.mk ([]:List UInt8) [] [] 0 0 0 false 0 (Expr.mk 0 0 ([]:List UInt8) ([]:List UInt8) []) (zg.mk 0 0 0 0) 0 0 0)]:List zb))*232≤140737488355328)).bind fun _=>some (Sum.inr ((((List.length x1):Nat):Int),(x1++([(zb.mk ([]:List UInt8) [] [] 0 0 0 false 0 (Expr.mk 0 0 ([]:List UInt8) ([]:List UInt8) []) (zg.mk 0 0 0 0) 0 0 0)]:List zb)))))else some (Sum.inr (x2,x1)))).bind (yj some fun x3=>(grd (0≤x3.1∧x3.1<(((List.length x3.2):Nat):Int))).bind fun _=>(ky x3.2 (((Int.toNat x3.1):Nat):Int) ed).bind fun x6=>(grd (eqB [((List.length x3.2),List.length x6)]=true)).bind fun _=>some (x6,0))
def zM(c0:(List zb))(c1:(List UInt8))(c2:Int):Nat→(Int)→Option ((Int)⊕(Unit))
 |0,_=>none
 |K+1,q=>(bif (decide (q<c2))then(grd (0≤q∧q<(((List.length c0):Nat):Int))).bind fun _=>((c0)[(Int.toNat q)]?).bind fun x2=>(uo x2 c1).bind fun x3=>(bif x3 then some (Sum.inl q)else zM c0 c1 c2 K (w64 (q+1)))else some (Sum.inr ()))
def xY(s:(List zb))(r_:(List UInt8)):Option (Int) :=
 (zM s r_ (((List.length s):Nat):Int) KK 0).bind (yj some fun _=>some (-1))
def kz(r_:(List zb))(ri:Int)(ed:EB):Option ((List zb)) :=
 ((r_)[(Int.toNat ri)]?).bind fun x1=>some (List.set r_ (Int.toNat ri) (zb.mk x1.Name x1.Zones x1.Except x1.From ed.m x1.Grace x1.Vary x1.Kind (Expr.mk x1.Test.Op x1.Test.N x1.Test.S x1.Test.Key x1.Test.Args) x1.zg x1.Uses x1.Other x1.N))
def HX(l:(List zb))(r_:(List UInt8))(ed:EB)(most:Int):Option ((List zb)×Int) :=
 (yo l).bind fun x1=>(xY x1 r_).bind fun x2=>((bif (decide (x2<0))then(bif (decide ((((List.length x1):Nat):Int)≥most))then(grd (eqB []=true)).bind fun _=>some (Sum.inl ([],6))else(grd (List.length (x1++([(zb.mk ([]:List UInt8) [] [] 0 0 0 false 0 (Expr.mk 0 0 ([]:List UInt8) ([]:List UInt8) []) (zg.mk 0 0 0 0) 0 0 0)]:List zb))*232≤140737488355328)).bind fun _=>some (Sum.inr ((((List.length x1):Nat):Int),(x1++([(zb.mk ([]:List UInt8) [] [] 0 0 0 false 0 (Expr.mk 0 0 ([]:List UInt8) ([]:List UInt8) []) (zg.mk 0 0 0 0) 0 0 0)]:List zb)))))else some (Sum.inr (x2,x1)))).bind (yj some fun x3=>(grd (0≤x3.1∧x3.1<(((List.length x3.2):Nat):Int))).bind fun _=>(kz x3.2 (((Int.toNat x3.1):Nat):Int) ed).bind fun x6=>(grd (eqB [((List.length x3.2),List.length x6)]=true)).bind fun _=>some (x6,0))
def kW(l:(List zb))(r_:(List UInt8))(ed:EB):Option ((List zb)×Int) :=
 (zY l r_).bind fun x1=>(bif (!x1)then some ([],4)else(HX l r_ ed ((List.length l:Nat):Int)).bind fun x2=>some (x2.1,x2.2))
def y9(s:(List Def)):Option ((List Def)) :=
 (grd (List.length (([]:List Def)++s)*88≤140737488355328)).bind fun _=>some (([]:List Def)++s)
def Vt(d:Def)(ed:EB):Option (Bool) :=
 some (decide (d.Name=ed.n))
def zN(ed:EB)(c0:(List Def))(c31:Int):Nat→(Int)→Option ((Int)⊕(Unit))
 |0,_=>none
 |K+1,q=>(bif (decide (q<c31))then(grd (0≤q∧q<(((List.length c0):Nat):Int))).bind fun _=>((c0)[(Int.toNat q)]?).bind fun x2=>(Vt x2 ed).bind fun x3=>(bif x3 then some (Sum.inl q)else zN ed c0 c31 K (w64 (q+1)))else some (Sum.inr ()))
def xZ(s:(List Def))(ed:EB):Option (Int) :=
 (zN ed s (((List.length s):Nat):Int) KK 0).bind (yj some fun _=>some (-1))
def kA(d:(List Def))(di:Int)(ed:EB):Option ((List Def)) :=
 ((d)[(Int.toNat di)]?).bind fun _=>some (List.set d (Int.toNat di) (Def.mk ed.n (Expr.mk ed.b0 ed.b1 ed.b2 ed.b3 ed.b4)))
def HY(l:(List Def))(ed:EB)(most:Int):Option ((List Def)×Int) :=
 (y9 l).bind fun x1=>(xZ x1 ed).bind fun x2=>((bif (decide (x2<0))then(bif (decide ((((List.length x1):Nat):Int)≥most))then(grd (eqB []=true)).bind fun _=>some (Sum.inl ([],6))else(grd (List.length (x1++([(Def.mk ([]:List UInt8) (Expr.mk 0 0 ([]:List UInt8) ([]:List UInt8) []))]:List Def))*88≤140737488355328)).bind fun _=>some (Sum.inr ((((List.length x1):Nat):Int),(x1++([(Def.mk ([]:List UInt8) (Expr.mk 0 0 ([]:List UInt8) ([]:List UInt8) []))]:List Def)))))else some (Sum.inr (x2,x1)))).bind (yj some fun x3=>(grd (0≤x3.1∧x3.1<(((List.length x3.2):Nat):Int))).bind fun _=>(kA x3.2 (((Int.toNat x3.1):Nat):Int) ed).bind fun x6=>(grd (eqB [((List.length x3.2),List.length x6)]=true)).bind fun _=>some (x6,0))
def xa(s:(List Table)):Option ((List Table)) :=
 (grd (List.length (([]:List Table)++s)*48≤140737488355328)).bind fun _=>some (([]:List Table)++s)
def Vu(t:Table)(ed:EB):Option (Bool) :=
 some (decide (t.Name=ed.n))
def zO(ed:EB)(c0:(List Table))(c31:Int):Nat→(Int)→Option ((Int)⊕(Unit))
 |0,_=>none
 |K+1,q=>(bif (decide (q<c31))then(grd (0≤q∧q<(((List.length c0):Nat):Int))).bind fun _=>((c0)[(Int.toNat q)]?).bind fun x2=>(Vu x2 ed).bind fun x3=>(bif x3 then some (Sum.inl q)else zO ed c0 c31 K (w64 (q+1)))else some (Sum.inr ()))
def wa(s:(List Table))(ed:EB):Option (Int) :=
 (zO ed s (((List.length s):Nat):Int) KK 0).bind (yj some fun _=>some (-1))
def wu(s:(List Entry)):Option ((List Entry)) :=
 (grd (List.length (([]:List Entry)++s)*24≤140737488355328)).bind fun _=>some (([]:List Entry)++s)
def HZ(x_:Entry)(ed:EB):Option (Bool) :=
 some (decide (x_.Name=ed.y))
def zP(ed:EB)(c0:(List Entry))(c31:Int):Nat→(Int)→Option ((Int)⊕(Unit))
 |0,_=>none
 |K+1,q=>(bif (decide (q<c31))then(grd (0≤q∧q<(((List.length c0):Nat):Int))).bind fun _=>((c0)[(Int.toNat q)]?).bind fun x2=>(HZ x2 ed).bind fun x3=>(bif x3 then some (Sum.inl q)else zP ed c0 c31 K (w64 (q+1)))else some (Sum.inr ()))
def wb(s:(List Entry))(ed:EB):Option (Int) :=
 (zP ed s (((List.length s):Nat):Int) KK 0).bind (yj some fun _=>some (-1))
def wZ(x_:(List Entry))(xi:Int)(ed:EB):Option ((List Entry)) :=
 ((x_)[(Int.toNat xi)]?).bind fun _=>some (List.set x_ (Int.toNat xi) (Entry.mk ed.y ed.m))
def oE(l:(List Entry))(ed:EB)(most:Int):Option ((List Entry)×Int) :=
 (wu l).bind fun x1=>(wb x1 ed).bind fun x2=>((bif (decide (x2<0))then(bif (decide ((((List.length x1):Nat):Int)≥most))then(grd (eqB []=true)).bind fun _=>some (Sum.inl ([],6))else(grd (List.length (x1++([(Entry.mk ([]:List UInt8) 0)]:List Entry))*24≤140737488355328)).bind fun _=>some (Sum.inr ((((List.length x1):Nat):Int),(x1++([(Entry.mk ([]:List UInt8) 0)]:List Entry)))))else some (Sum.inr (x2,x1)))).bind (yj some fun x3=>(grd (0≤x3.1∧x3.1<(((List.length x3.2):Nat):Int))).bind fun _=>(wZ x3.2 (((Int.toNat x3.1):Nat):Int) ed).bind fun x6=>(grd (eqB [((List.length x3.2),List.length x6)]=true)).bind fun _=>some (x6,0))
def kB(t:(List Table))(ti:Int)(ed:EB)(a2:Int):Option ((List Table)×Int) :=
 ((t)[(Int.toNat ti)]?).bind fun x1=>(((List.set t (Int.toNat ti) (Table.mk ed.n x1.Rows x1.Else)))[(Int.toNat ti)]?).bind fun x2=>(oE x2.Rows ed 60).bind fun x3=>(((List.set t (Int.toNat ti) (Table.mk ed.n x1.Rows x1.Else)))[(Int.toNat ti)]?).bind fun x4=>some ((List.set (List.set t (Int.toNat ti) (Table.mk ed.n x1.Rows x1.Else)) (Int.toNat ti) (Table.mk x4.Name x3.1 x4.Else)),x3.2)
def H0(l:(List Table))(ed:EB)(t:Int)(most:Int):Option ((List Table)×Int×Int) :=
 (xa l).bind fun x1=>(wa x1 ed).bind fun x2=>((bif (decide (x2<0))then(bif (decide ((((List.length x1):Nat):Int)≥most))then(grd (eqB []=true)).bind fun _=>some (Sum.inl ([],6,t))else(grd (List.length (x1++([(Table.mk ([]:List UInt8) [] 0)]:List Table))*48≤140737488355328)).bind fun _=>some (Sum.inr ((((List.length x1):Nat):Int),(x1++([(Table.mk ([]:List UInt8) [] 0)]:List Table)))))else some (Sum.inr (x2,x1)))).bind (yj some fun x3=>(grd (0≤x3.1∧x3.1<(((List.length x3.2):Nat):Int))).bind fun _=>(kB x3.2 (((Int.toNat x3.1):Nat):Int) ed t).bind fun x6=>(grd (eqB [((List.length x3.2),List.length x6.1)]=true)).bind fun _=>some (x6.1,0,x6.2))
def Vv(z:zm)(ed:EB):Option (Bool) :=
 some (decide (z.Name=ed.n))
def zQ(ed:EB)(c30:(List zm))(c31:Int):Nat→(Int)→Option ((Int)⊕(Unit))
 |0,_=>none
 |K+1,q=>(bif (decide (q<c31))then(idx c30 q).bind fun x1=>(Vv x1 ed).bind fun x2=>(bif x2 then some (Sum.inl q)else zQ ed c30 c31 K (w64 (q+1)))else some (Sum.inr ()))
def wc(s:(List zm))(ed:EB):Option (Int) :=
 (zQ ed s ((List.length s:Nat):Int) KK 0).bind (yj some fun _=>some (-1))
def xb(s:(List zm)):Option ((List zm)) :=
 (grd (List.length (([]:List zm)++s)*48≤140737488355328)).bind fun _=>some (([]:List zm)++s)
def Kk(z:zm)(ed:EB):Option (Bool) :=
 some (decide (z.Name=ed.n))
def zR(ed:EB)(c0:(List zm))(c31:Int):Nat→(Int)→Option ((Int)⊕(Unit))
 |0,_=>none
 |K+1,q=>(bif (decide (q<c31))then(grd (0≤q∧q<(((List.length c0):Nat):Int))).bind fun _=>((c0)[(Int.toNat q)]?).bind fun x2=>(Kk x2 ed).bind fun x3=>(bif x3 then some (Sum.inl q)else zR ed c0 c31 K (w64 (q+1)))else some (Sum.inr ()))
def we(s:(List zm))(ed:EB):Option (Int) :=
 (zR ed s (((List.length s):Nat):Int) KK 0).bind (yj some fun _=>some (-1))
def vO(z:(List zm))(zi:Int)(ed:EB):Option ((List zm)) :=
 ((z)[(Int.toNat zi)]?).bind fun _=>some (List.set z (Int.toNat zi) (zm.mk ed.n (decide (ed.m=1)) ed.c))
def H4(l:(List zm))(ed:EB)(most:Int):Option ((List zm)×Int) :=
 (xb l).bind fun x1=>(we x1 ed).bind fun x2=>((bif (decide (x2<0))then(bif (decide ((((List.length x1):Nat):Int)≥most))then(grd (eqB []=true)).bind fun _=>some (Sum.inl ([],6))else(grd (List.length (x1++([(zm.mk ([]:List UInt8) false [])]:List zm))*48≤140737488355328)).bind fun _=>some (Sum.inr ((((List.length x1):Nat):Int),(x1++([(zm.mk ([]:List UInt8) false [])]:List zm)))))else some (Sum.inr (x2,x1)))).bind (yj some fun x3=>(grd (0≤x3.1∧x3.1<(((List.length x3.2):Nat):Int))).bind fun _=>(vO x3.2 (((Int.toNat x3.1):Nat):Int) ed).bind fun x6=>(grd (eqB [((List.length x3.2),List.length x6)]=true)).bind fun _=>some (x6,0))
def oF(c_:Cap)(ed:EB):Option (Bool) :=
 some (decide (c_.Name=ed.n))
def zA(ed:EB)(c30:(List Cap))(c31:Int):Nat→(Int)→Option ((Int)⊕(Unit))
 |0,_=>none
 |K+1,q=>(bif (decide (q<c31))then(idx c30 q).bind fun x1=>(oF x1 ed).bind fun x2=>(bif x2 then some (Sum.inl q)else zA ed c30 c31 K (w64 (q+1)))else some (Sum.inr ()))
def xA(s:(List Cap))(ed:EB):Option (Int) :=
 (zA ed s ((List.length s:Nat):Int) KK 0).bind (yj some fun _=>some (-1))
def yh(s:(List Cap))(ed:EB):Option (Bool) :=
 (xA s ed).bind fun x1=>some (decide (x1≥0))
def xd(s:(List Cap)):Option ((List Cap)) :=
 (grd (List.length (([]:List Cap)++s)*56≤140737488355328)).bind fun _=>some (([]:List Cap)++s)
def zB(ed:EB)(c0:(List Cap))(c31:Int):Nat→(Int)→Option ((Int)⊕(Unit))
 |0,_=>none
 |K+1,q=>(bif (decide (q<c31))then(grd (0≤q∧q<(((List.length c0):Nat):Int))).bind fun _=>((c0)[(Int.toNat q)]?).bind fun x2=>(oF x2 ed).bind fun x3=>(bif x3 then some (Sum.inl q)else zB ed c0 c31 K (w64 (q+1)))else some (Sum.inr ()))
def xB(s:(List Cap))(ed:EB):Option (Int) :=
 (zB ed s (((List.length s):Nat):Int) KK 0).bind (yj some fun _=>some (-1))
def vP(c_:(List Cap))(ci:Int)(ed:EB):Option ((List Cap)) :=
 ((c_)[(Int.toNat ci)]?).bind fun x1=>some (List.set c_ (Int.toNat ci) (Cap.mk x1.Name x1.Load ed.m x1.Corners))
def H5(l:(List Cap))(ed:EB)(most:Int):Option ((List Cap)×Int) :=
 (xd l).bind fun x1=>(xB x1 ed).bind fun x2=>((bif (decide (x2<0))then(bif (decide ((((List.length x1):Nat):Int)≥most))then(grd (eqB []=true)).bind fun _=>some (Sum.inl ([],6))else(grd (List.length (x1++([(Cap.mk ([]:List UInt8) 0 0 [])]:List Cap))*56≤140737488355328)).bind fun _=>some (Sum.inr ((((List.length x1):Nat):Int),(x1++([(Cap.mk ([]:List UInt8) 0 0 [])]:List Cap)))))else some (Sum.inr (x2,x1)))).bind (yj some fun x3=>(grd (0≤x3.1∧x3.1<(((List.length x3.2):Nat):Int))).bind fun _=>(vP x3.2 (((Int.toNat x3.1):Nat):Int) ed).bind fun x6=>(grd (eqB [((List.length x3.2),List.length x6)]=true)).bind fun _=>some (x6,0))
def vH(l:(List Cap))(ed:EB):Option ((List Cap)×Int) :=
 (yh l ed).bind fun x1=>(bif (!x1)then some ([],4)else(H5 l ed ((List.length l:Nat):Int)).bind fun x2=>some (x2.1,x2.2))
def yn(p:zu)(e:zn):Option (Int×(List Def)×(List Table)×(List zm)×(List zb)×(List Cap)×(List View)×(List zj)×Int) :=
 ((bif (decide (e.Kind=0))then(vz e.zb.Name).bind fun x2=>(zY p.Rules x2).bind fun x3=>(bif x3 then some (Sum.inl (5,p.Defs,p.Tables,p.Zones,p.Rules,p.Caps,p.Views,p.Sun,p.Hours))else(ZS p.Rules (EB.mk e.Kind e.Name e.Key e.N e.zb.Name e.zb.Zones e.zb.Except e.zb.From e.zb.Until e.zb.Grace e.zb.Vary e.zb.Kind e.zb.Test.Op e.zb.Test.N e.zb.Test.S e.zb.Test.Key e.zb.Test.Args e.zb.zg.Side e.zb.zg.Base e.zb.zg.Num e.zb.zg.Den e.zb.Uses e.zb.Other e.zb.N e.Body.Op e.Body.N e.Body.S e.Body.Key e.Body.Args e.Corners) 200).bind fun x4=>some (Sum.inr (x4.2,p.Defs,p.Tables,p.Zones,x4.1,p.Caps)))else(bif (decide (e.Kind=1))then(vz e.Name).bind fun x5=>(yz p.Rules x5).bind fun x6=>((bif (decide (x6≥0))then(idx p.Rules x6).bind fun x8=>some (decide (e.N≤x8.From))else some false)).bind fun x7=>(bif x7 then some (Sum.inl (20,p.Defs,p.Tables,p.Zones,p.Rules,p.Caps,p.Views,p.Sun,p.Hours))else(vz e.Name).bind fun x9=>(kW p.Rules x9 (EB.mk e.Kind e.Name e.Key e.N e.zb.Name e.zb.Zones e.zb.Except e.zb.From e.zb.Until e.zb.Grace e.zb.Vary e.zb.Kind e.zb.Test.Op e.zb.Test.N e.zb.Test.S e.zb.Test.Key e.zb.Test.Args e.zb.zg.Side e.zb.zg.Base e.zb.zg.Num e.zb.zg.Den e.zb.Uses e.zb.Other e.zb.N e.Body.Op e.Body.N e.Body.S e.Body.Key e.Body.Args e.Corners)).bind fun x10=>some (Sum.inr (x10.2,p.Defs,p.Tables,p.Zones,x10.1,p.Caps)))else(bif (decide (e.Kind=2))then(HY p.Defs (EB.mk e.Kind e.Name e.Key e.N e.zb.Name e.zb.Zones e.zb.Except e.zb.From e.zb.Until e.zb.Grace e.zb.Vary e.zb.Kind e.zb.Test.Op e.zb.Test.N e.zb.Test.S e.zb.Test.Key e.zb.Test.Args e.zb.zg.Side e.zb.zg.Base e.zb.zg.Num e.zb.zg.Den e.zb.Uses e.zb.Other e.zb.N e.Body.Op e.Body.N e.Body.S e.Body.Key e.Body.Args e.Corners) 60).bind fun x11=>some (Sum.inr (x11.2,x11.1,p.Tables,p.Zones,p.Rules,p.Caps))else(bif (decide (e.Kind=3))then(H0 p.Tables (EB.mk e.Kind e.Name e.Key e.N e.zb.Name e.zb.Zones e.zb.Except e.zb.From e.zb.Until e.zb.Grace e.zb.Vary e.zb.Kind e.zb.Test.Op e.zb.Test.N e.zb.Test.S e.zb.Test.Key e.zb.Test.Args e.zb.zg.Side e.zb.zg.Base e.zb.zg.Num e.zb.zg.Den e.zb.Uses e.zb.Other e.zb.N e.Body.Op e.Body.N e.Body.S e.Body.Key e.Body.Args e.Corners) 0 60).bind fun x12=>some (Sum.inr ((max x12.2.1 x12.2.2),p.Defs,x12.1,p.Zones,p.Rules,p.Caps))else(bif (decide (e.Kind=4))then(wc p.Zones (EB.mk e.Kind e.Name e.Key e.N e.zb.Name e.zb.Zones e.zb.Except e.zb.From e.zb.Until e.zb.Grace e.zb.Vary e.zb.Kind e.zb.Test.Op e.zb.Test.N e.zb.Test.S e.zb.Test.Key e.zb.Test.Args e.zb.zg.Side e.zb.zg.Base e.zb.zg.Num e.zb.zg.Den e.zb.Uses e.zb.Other e.zb.N e.Body.Op e.Body.N e.Body.S e.Body.Key e.Body.Args e.Corners)).bind fun x13=>((bif (decide (x13≥0))then(idx p.Zones x13).bind fun x15=>some (!(x15.Overlay==(decide (e.N=1))))else some false)).bind fun x14=>(bif x14 then some (Sum.inl (17,p.Defs,p.Tables,p.Zones,p.Rules,p.Caps,p.Views,p.Sun,p.Hours))else(H4 p.Zones (EB.mk e.Kind e.Name e.Key e.N e.zb.Name e.zb.Zones e.zb.Except e.zb.From e.zb.Until e.zb.Grace e.zb.Vary e.zb.Kind e.zb.Test.Op e.zb.Test.N e.zb.Test.S e.zb.Test.Key e.zb.Test.Args e.zb.zg.Side e.zb.zg.Base e.zb.zg.Num e.zb.zg.Den e.zb.Uses e.zb.Other e.zb.N e.Body.Op e.Body.N e.Body.S e.Body.Key e.Body.Args e.Corners) 60).bind fun x16=>some (Sum.inr (x16.2,p.Defs,p.Tables,x16.1,p.Rules,p.Caps)))else(vH p.Caps (EB.mk e.Kind e.Name e.Key e.N e.zb.Name e.zb.Zones e.zb.Except e.zb.From e.zb.Until e.zb.Grace e.zb.Vary e.zb.Kind e.zb.Test.Op e.zb.Test.N e.zb.Test.S e.zb.Test.Key e.zb.Test.Args e.zb.zg.Side e.zb.zg.Base e.zb.zg.Num e.zb.zg.Den e.zb.Uses e.zb.Other e.zb.N e.Body.Op e.Body.N e.Body.S e.Body.Key e.Body.Args e.Corners)).bind fun x17=>some (Sum.inr (x17.2,p.Defs,p.Tables,p.Zones,p.Rules,x17.1)))))))).bind (yj some fun x1=>some (x1.1,x1.2.1,x1.2.2.1,x1.2.2.2.1,x1.2.2.2.2.1,x1.2.2.2.2.2,p.Views,p.Sun,p.Hours))
def wv(s:(List View)):Option ((List View)) :=
 (grd (List.length (([]:List View)++s)*72≤140737488355328)).bind fun _=>some (([]:List View)++s)
def xe(s:(List zj)):Option ((List zj)) :=
 (grd (List.length (([]:List zj)++s)*24≤140737488355328)).bind fun _=>some (([]:List zj)++s)
def xj(r_e_ownExpr:Expr→Option (Int×Int×(List UInt8)×(List UInt8)×(List Expr)))(c0:(List Expr))(c1:Int)(c2:Int)(c3:Int)(c4:(List UInt8))(c5:(List UInt8))(c6:Int)(c7:(List UInt8))(c8:(List Expr)):Nat→(Int×(List Expr))→Option ((List Expr))
 |0,_=>none
 |K+1,q=>(bif (decide (q.1<c1))then(idx c0 q.1).bind fun x1=>(r_e_ownExpr (Expr.mk x1.Op x1.N x1.S x1.Key x1.Args)).bind fun x2=>(grd (List.length (q.2++([(Expr.mk x2.1 x2.2.1 x2.2.2.1 x2.2.2.2.1 x2.2.2.2.2)]:List Expr))*72≤140737488355328)).bind fun _=>xj r_e_ownExpr c0 c1 c2 c3 c4 c5 c6 c7 c8 K ((w64 (q.1+1)),(q.2++([(Expr.mk x2.1 x2.2.1 x2.2.2.1 x2.2.2.2.1 x2.2.2.2.2)]:List Expr)))else some q.2)
def y3:Nat→Expr→Option (Int×Int×(List UInt8)×(List UInt8)×(List Expr))
 |0,_=>none
 |RK+1,e=>(xj (y3 RK) e.Args ((List.length e.Args:Nat):Int) e.Op e.N e.S e.Key 0 ([]:List UInt8) [] KK (0,[])).bind fun x1=>some (e.Op,e.N,e.S,e.Key,x1)
def xR(s:(List Entry)):Option ((List Entry)) :=
 (grd (List.length (([]:List Entry)++s)*24≤140737488355328)).bind fun _=>some (([]:List Entry)++s)
def yE(s:(List zw)):Option ((List zw)) :=
 (grd (List.length (([]:List zw)++s)*16≤140737488355328)).bind fun _=>some (([]:List zw)++s)
def yF(s:(List (List UInt8))):Option ((List (List UInt8))) :=
 (grd (List.length (([]:List (List UInt8))++s)*16≤140737488355328)).bind fun _=>some (([]:List (List UInt8))++s)
def j4(c0:Int)(c1:(List zj))(c2:Int)(c3:(List zj))(c4:Int)(c5:(List Table))(c6:(List zm))(c7:(List zb))(c8:(List Cap))(c9:(List View))(c10:(List Def))(c11:(List Table))(c12:(List zm))(c13:(List zb))(c14:(List Cap))(c15:(List View)):Nat→(Int×(List Def))→Option ((List Def))
 |0,_=>none
 |K+1,q=>(bif (decide (q.1<c0))then(grd (0≤q.1∧q.1<(((List.length q.2):Nat):Int))).bind fun _=>((q.2)[(Int.toNat q.1)]?).bind fun x2=>(y3 KK x2.Body).bind fun x3=>(grd (0≤q.1∧q.1<(((List.length q.2):Nat):Int))).bind fun _=>((q.2)[(Int.toNat q.1)]?).bind fun x5=>j4 c0 c1 c2 c3 c4 c5 c6 c7 c8 c9 c10 c11 c12 c13 c14 c15 K ((w64 (q.1+1)),(List.set q.2 (Int.toNat q.1) (Def.mk x5.Name (Expr.mk x3.1 x3.2.1 x3.2.2.1 x3.2.2.2.1 x3.2.2.2.2))))else some q.2)
def j5(c0:Int)(c1:(List zj))(c2:Int)(c3:(List zj))(c4:Int)(c5:(List Def))(c6:(List zm))(c7:(List zb))(c8:(List Cap))(c9:(List View))(c10:(List Def))(c11:(List Table))(c12:(List zm))(c13:(List zb))(c14:(List Cap))(c15:(List View)):Nat→(Int×(List Table))→Option ((List Table))
 |0,_=>none
 |K+1,q=>(bif (decide (q.1<c0))then(grd (0≤q.1∧q.1<(((List.length q.2):Nat):Int))).bind fun _=>((q.2)[(Int.toNat q.1)]?).bind fun x2=>(xR x2.Rows).bind fun x3=>(grd (0≤q.1∧q.1<(((List.length q.2):Nat):Int))).bind fun _=>((q.2)[(Int.toNat q.1)]?).bind fun x5=>j5 c0 c1 c2 c3 c4 c5 c6 c7 c8 c9 c10 c11 c12 c13 c14 c15 K ((w64 (q.1+1)),(List.set q.2 (Int.toNat q.1) (Table.mk x5.Name x3 x5.Else)))else some q.2)
def j6(c0:Int)(c1:(List zj))(c2:Int)(c3:(List zj))(c4:Int)(c5:(List Def))(c6:(List Table))(c7:(List zb))(c8:(List Cap))(c9:(List View))(c10:(List Def))(c11:(List Table))(c12:(List zm))(c13:(List zb))(c14:(List Cap))(c15:(List View)):Nat→(Int×(List zm))→Option ((List zm))
 |0,_=>none
 |K+1,q=>(bif (decide (q.1<c0))then(grd (0≤q.1∧q.1<(((List.length q.2):Nat):Int))).bind fun _=>((q.2)[(Int.toNat q.1)]?).bind fun x2=>(yE x2.Corners).bind fun x3=>(grd (0≤q.1∧q.1<(((List.length q.2):Nat):Int))).bind fun _=>((q.2)[(Int.toNat q.1)]?).bind fun x5=>j6 c0 c1 c2 c3 c4 c5 c6 c7 c8 c9 c10 c11 c12 c13 c14 c15 K ((w64 (q.1+1)),(List.set q.2 (Int.toNat q.1) (zm.mk x5.Name x5.Overlay x3)))else some q.2)
def j7(c0:Int)(c1:(List zj))(c2:Int)(c3:(List zj))(c4:Int)(c5:(List Def))(c6:(List Table))(c7:(List zm))(c8:(List Cap))(c9:(List View))(c10:(List Def))(c11:(List Table))(c12:(List zm))(c13:(List zb))(c14:(List Cap))(c15:(List View)):Nat→(Int×(List zb))→Option ((List zb))
 |0,_=>none
 |K+1,q=>(bif (decide (q.1<c0))then(grd (0≤q.1∧q.1<(((List.length q.2):Nat):Int))).bind fun _=>((q.2)[(Int.toNat q.1)]?).bind fun x2=>(yF x2.Zones).bind fun x3=>(yF x2.Except).bind fun x4=>(y3 KK (Expr.mk x2.Test.Op x2.Test.N x2.Test.S x2.Test.Key x2.Test.Args)).bind fun x5=>(grd (0≤q.1∧q.1<(((List.length q.2):Nat):Int))).bind fun _=>((q.2)[(Int.toNat q.1)]?).bind fun x7=>(grd (0≤q.1∧q.1<(((List.length q.2):Nat):Int))).bind fun _=>(((List.set q.2 (Int.toNat q.1) (zb.mk x7.Name x3 x7.Except x7.From x7.Until x7.Grace x7.Vary x7.Kind (Expr.mk x7.Test.Op x7.Test.N x7.Test.S x7.Test.Key x7.Test.Args) x7.zg x7.Uses x7.Other x7.N)))[(Int.toNat q.1)]?).bind fun x9=>(grd (0≤q.1∧q.1<(((List.length q.2):Nat):Int))).bind fun _=>(((List.set (List.set q.2 (Int.toNat q.1) (zb.mk x7.Name x3 x7.Except x7.From x7.Until x7.Grace x7.Vary x7.Kind (Expr.mk x7.Test.Op x7.Test.N x7.Test.S x7.Test.Key x7.Test.Args) x7.zg x7.Uses x7.Other x7.N)) (Int.toNat q.1) (zb.mk x9.Name x9.Zones x4 x9.From x9.Until x9.Grace x9.Vary x9.Kind (Expr.mk x9.Test.Op x9.Test.N x9.Test.S x9.Test.Key x9.Test.Args) x9.zg x9.Uses x9.Other x9.N)))[(Int.toNat q.1)]?).bind fun x11=>j7 c0 c1 c2 c3 c4 c5 c6 c7 c8 c9 c10 c11 c12 c13 c14 c15 K ((w64 (q.1+1)),(List.set (List.set (List.set q.2 (Int.toNat q.1) (zb.mk x7.Name x3 x7.Except x7.From x7.Until x7.Grace x7.Vary x7.Kind (Expr.mk x7.Test.Op x7.Test.N x7.Test.S x7.Test.Key x7.Test.Args) x7.zg x7.Uses x7.Other x7.N)) (Int.toNat q.1) (zb.mk x9.Name x9.Zones x4 x9.From x9.Until x9.Grace x9.Vary x9.Kind (Expr.mk x9.Test.Op x9.Test.N x9.Test.S x9.Test.Key x9.Test.Args) x9.zg x9.Uses x9.Other x9.N)) (Int.toNat q.1) (zb.mk x11.Name x11.Zones x11.Except x11.From x11.Until x11.Grace x11.Vary x11.Kind (Expr.mk x5.1 x5.2.1 x5.2.2.1 x5.2.2.2.1 x5.2.2.2.2) x11.zg x11.Uses x11.Other x11.N)))else some q.2)
def j8(c0:Int)(c1:(List zj))(c2:Int)(c3:(List zj))(c4:Int)(c5:(List Def))(c6:(List Table))(c7:(List zm))(c8:(List zb))(c9:(List View))(c10:(List Def))(c11:(List Table))(c12:(List zm))(c13:(List zb))(c14:(List Cap))(c15:(List View)):Nat→(Int×(List Cap))→Option ((List Cap))
 |0,_=>none
 |K+1,q=>(bif (decide (q.1<c0))then(grd (0≤q.1∧q.1<(((List.length q.2):Nat):Int))).bind fun _=>((q.2)[(Int.toNat q.1)]?).bind fun x2=>(yE x2.Corners).bind fun x3=>(grd (0≤q.1∧q.1<(((List.length q.2):Nat):Int))).bind fun _=>((q.2)[(Int.toNat q.1)]?).bind fun x5=>j8 c0 c1 c2 c3 c4 c5 c6 c7 c8 c9 c10 c11 c12 c13 c14 c15 K ((w64 (q.1+1)),(List.set q.2 (Int.toNat q.1) (Cap.mk x5.Name x5.Load x5.Limit x3)))else some q.2)
def j9(c0:Int)(c1:(List zj))(c2:Int)(c3:(List zj))(c4:Int)(c5:(List Def))(c6:(List Table))(c7:(List zm))(c8:(List zb))(c9:(List Cap))(c10:(List Def))(c11:(List Table))(c12:(List zm))(c13:(List zb))(c14:(List Cap))(c15:(List View)):Nat→(Int×(List View))→Option ((List View))
 |0,_=>none
 |K+1,q=>(bif (decide (q.1<c0))then(grd (0≤q.1∧q.1<(((List.length q.2):Nat):Int))).bind fun _=>((q.2)[(Int.toNat q.1)]?).bind fun x2=>(xe x2.Targets).bind fun x3=>(grd (0≤q.1∧q.1<(((List.length q.2):Nat):Int))).bind fun _=>((q.2)[(Int.toNat q.1)]?).bind fun x5=>j9 c0 c1 c2 c3 c4 c5 c6 c7 c8 c9 c10 c11 c12 c13 c14 c15 K ((w64 (q.1+1)),(List.set q.2 (Int.toNat q.1) (View.mk x5.Name x5.Eye x5.Least x3)))else some q.2)
def oG(p:zu):Option ((List zj)×Int×(List Def)×(List Table)×(List zm)×(List zb)×(List Cap)×(List View)) :=
 (y9 p.Defs).bind fun x1=>(xa p.Tables).bind fun x2=>(xb p.Zones).bind fun x3=>(yo p.Rules).bind fun x4=>(xd p.Caps).bind fun x5=>(wv p.Views).bind fun x6=>(xe p.Sun).bind fun x7=>(j4 (((List.length x1):Nat):Int) x7 p.Hours [] 0 x2 x3 x4 x5 x6 ([]:List Def) ([]:List Table) ([]:List zm) ([]:List zb) ([]:List Cap) ([]:List View) KK (0,x1)).bind fun x8=>(j5 (((List.length x2):Nat):Int) x7 p.Hours [] 0 x8 x3 x4 x5 x6 ([]:List Def) ([]:List Table) ([]:List zm) ([]:List zb) ([]:List Cap) ([]:List View) KK (0,x2)).bind fun x9=>(j6 (((List.length x3):Nat):Int) x7 p.Hours [] 0 x8 x9 x4 x5 x6 ([]:List Def) ([]:List Table) ([]:List zm) ([]:List zb) ([]:List Cap) ([]:List View) KK (0,x3)).bind fun x10=>(j7 (((List.length x4):Nat):Int) x7 p.Hours [] 0 x8 x9 x10 x5 x6 ([]:List Def) ([]:List Table) ([]:List zm) ([]:List zb) ([]:List Cap) ([]:List View) KK (0,x4)).bind fun x11=>(j8 (((List.length x5):Nat):Int) x7 p.Hours [] 0 x8 x9 x10 x11 x6 ([]:List Def) ([]:List Table) ([]:List zm) ([]:List zb) ([]:List Cap) ([]:List View) KK (0,x5)).bind fun x12=>(j9 (((List.length x6):Nat):Int) x7 p.Hours [] 0 x8 x9 x10 x11 x12 ([]:List Def) ([]:List Table) ([]:List zm) ([]:List zb) ([]:List Cap) ([]:List View) KK (0,x6)).bind fun x13=>some (x7,p.Hours,x8,x9,x10,x11,x12,x13)
def JQ(p:zu)(e:zn):Option (Int×(List Def)×(List Table)×(List zm)×(List zb)×(List Cap)×(List View)×(List zj)×Int) :=
 ((qg p).bind fun x2=>(bif (!x2)then some true else(wY (zn.mk e.Kind e.Name e.Key e.N (zb.mk e.zb.Name e.zb.Zones e.zb.Except e.zb.From e.zb.Until e.zb.Grace e.zb.Vary e.zb.Kind (Expr.mk e.zb.Test.Op e.zb.Test.N e.zb.Test.S e.zb.Test.Key e.zb.Test.Args) e.zb.zg e.zb.Uses e.zb.Other e.zb.N) (Expr.mk e.Body.Op e.Body.N e.Body.S e.Body.Key e.Body.Args) e.Corners)).bind fun x3=>some (!x3))).bind fun x1=>(bif x1 then some (1,[],[],[],[],[],[],[],0)else(yn p (zn.mk e.Kind e.Name e.Key e.N (zb.mk e.zb.Name e.zb.Zones e.zb.Except e.zb.From e.zb.Until e.zb.Grace e.zb.Vary e.zb.Kind (Expr.mk e.zb.Test.Op e.zb.Test.N e.zb.Test.S e.zb.Test.Key e.zb.Test.Args) e.zb.zg e.zb.Uses e.zb.Other e.zb.N) (Expr.mk e.Body.Op e.Body.N e.Body.S e.Body.Key e.Body.Args) e.Corners)).bind fun x4=>(bif (!(decide (x4.1=0)))then some (x4.1,[],[],[],[],[],[],[],0)else(oG (zu.mk x4.2.1 x4.2.2.1 x4.2.2.2.1 x4.2.2.2.2.1 x4.2.2.2.2.2.1 x4.2.2.2.2.2.2.1 x4.2.2.2.2.2.2.2.1 x4.2.2.2.2.2.2.2.2)).bind fun x5=>some (0,x5.2.2.1,x5.2.2.2.1,x5.2.2.2.2.1,x5.2.2.2.2.2.1,x5.2.2.2.2.2.2.1,x5.2.2.2.2.2.2.2,x5.1,x5.2.1)))
def Vw(n:Int):Option (Int×Int×(List UInt8)×(List UInt8)×(List Expr)) :=
 some (0,n,([]:List UInt8),([]:List UInt8),[])
def H6(x_:Def)(a1_Name:(List UInt8))(a1_Body_Op:Int)(a1_Body_N:Int)(a1_Body_S:(List UInt8))(a1_Body_Key:(List UInt8))(a1_Body_Args:(List Expr)):Option (Bool) :=
 some (decide (x_.Name=a1_Name))
def zC(c0:(List UInt8))(c1:Int)(c2:Int)(c3:(List UInt8))(c4:(List UInt8))(c5:(List Expr))(c6:(List Def))(c7:Int):Nat→(Int)→Option ((Int)⊕(Unit))
 |0,_=>none
 |K+1,q=>(bif (decide (q<c7))then(idx c6 q).bind fun x1=>(H6 x1 c0 c1 c2 c3 c4 c5).bind fun x2=>(bif x2 then some (Sum.inl q)else zC c0 c1 c2 c3 c4 c5 c6 c7 K (w64 (q+1)))else some (Sum.inr ()))
def xC(s:(List Def))(x_Name:(List UInt8))(x_Body_Op:Int)(x_Body_N:Int)(x_Body_S:(List UInt8))(x_Body_Key:(List UInt8))(x_Body_Args:(List Expr)):Option (Int) :=
 (zC x_Name x_Body_Op x_Body_N x_Body_S x_Body_Key x_Body_Args s ((List.length s:Nat):Int) KK 0).bind (yj some fun _=>some (-1))
def H7(l:(List Def))(x_Name:(List UInt8))(x_Body_Op:Int)(x_Body_N:Int)(x_Body_S:(List UInt8))(x_Body_Key:(List UInt8))(x_Body_Args:(List Expr)):Option (Bool×(List UInt8)×Int×Int×(List UInt8)×(List UInt8)×(List Expr)) :=
 (xC l x_Name x_Body_Op x_Body_N x_Body_S x_Body_Key x_Body_Args).bind fun x1=>(bif (decide (x1≥0))then(idx l x1).bind fun x2=>some (true,x2.Name,x2.Body.Op,x2.Body.N,x2.Body.S,x2.Body.Key,x2.Body.Args)else some (false,([]:List UInt8),0,0,([]:List UInt8),([]:List UInt8),[]))
def H8(x_:Table)(a1_Name:(List UInt8))(a1_Rows:(List Entry))(a1_Else:Int):Option (Bool) :=
 some (decide (x_.Name=a1_Name))
def zD(c0:(List UInt8))(c1:(List Entry))(c2:Int)(c3:(List Table))(c4:Int):Nat→(Int)→Option ((Int)⊕(Unit))
 |0,_=>none
 |K+1,q=>(bif (decide (q<c4))then(idx c3 q).bind fun x1=>(H8 x1 c0 c1 c2).bind fun x2=>(bif x2 then some (Sum.inl q)else zD c0 c1 c2 c3 c4 K (w64 (q+1)))else some (Sum.inr ()))
def xD(s:(List Table))(x_Name:(List UInt8))(x_Rows:(List Entry))(x_Else:Int):Option (Int) :=
 (zD x_Name x_Rows x_Else s ((List.length s:Nat):Int) KK 0).bind (yj some fun _=>some (-1))
def Az(l:(List Table))(x_Name:(List UInt8))(x_Rows:(List Entry))(x_Else:Int):Option (Bool×(List UInt8)×(List Entry)×Int) :=
 (xD l x_Name x_Rows x_Else).bind fun x1=>(bif (decide (x1≥0))then(idx l x1).bind fun x2=>some (true,x2.Name,x2.Rows,x2.Else)else some (false,([]:List UInt8),[],0))
def H9(y:Entry)(a1_Name:(List UInt8))(a1_N:Int):Option (Bool) :=
 some (decide (y.Name=a1_Name))
def zE(c0:(List UInt8))(c1:Int)(c2:(List Entry))(c3:Int):Nat→(Int)→Option ((Int)⊕(Unit))
 |0,_=>none
 |K+1,q=>(bif (decide (q<c3))then(idx c2 q).bind fun x1=>(H9 x1 c0 c1).bind fun x2=>(bif x2 then some (Sum.inl q)else zE c0 c1 c2 c3 K (w64 (q+1)))else some (Sum.inr ()))
def xE(s:(List Entry))(y_Name:(List UInt8))(y_N:Int):Option (Int) :=
 (zE y_Name y_N s ((List.length s:Nat):Int) KK 0).bind (yj some fun _=>some (-1))
def qz(l:(List Entry))(y_Name:(List UInt8))(y_N:Int):Option (Bool×(List UInt8)×Int) :=
 (xE l y_Name y_N).bind fun x1=>(bif (decide (x1≥0))then(idx l x1).bind fun x2=>some (true,x2.Name,x2.N)else some (false,([]:List UInt8),0))
def Ja(x_:zm)(a1_Name:(List UInt8))(a1_Overlay:Bool)(a1_Corners:(List zw)):Option (Bool) :=
 some (decide (x_.Name=a1_Name))
def zF(c0:(List UInt8))(c1:Bool)(c2:(List zw))(c3:(List zm))(c4:Int):Nat→(Int)→Option ((Int)⊕(Unit))
 |0,_=>none
 |K+1,q=>(bif (decide (q<c4))then(idx c3 q).bind fun x1=>(Ja x1 c0 c1 c2).bind fun x2=>(bif x2 then some (Sum.inl q)else zF c0 c1 c2 c3 c4 K (w64 (q+1)))else some (Sum.inr ()))
def xF(s:(List zm))(x_Name:(List UInt8))(x_Overlay:Bool)(x_Corners:(List zw)):Option (Int) :=
 (zF x_Name x_Overlay x_Corners s ((List.length s:Nat):Int) KK 0).bind (yj some fun _=>some (-1))
def qA(l:(List zm))(x_Name:(List UInt8))(x_Overlay:Bool)(x_Corners:(List zw)):Option (Bool×(List UInt8)×Bool×(List zw)) :=
 (xF l x_Name x_Overlay x_Corners).bind fun x1=>(bif (decide (x1≥0))then(idx l x1).bind fun x2=>some (true,x2.Name,x2.Overlay,x2.Corners)else some (false,([]:List UInt8),false,[]))
def Jb(x_:zb)(ru:RB):Option (Bool) :=
 some (decide (x_.Name=ru.r0))
def zG(ru:RB)(c20:(List zb))(c21:Int):Nat→(Int)→Option ((Int)⊕(Unit))
 |0,_=>none
 |K+1,q=>(bif (decide (q<c21))then(idx c20 q).bind fun x1=>(Jb x1 ru).bind fun x2=>(bif x2 then some (Sum.inl q)else zG ru c20 c21 K (w64 (q+1)))else some (Sum.inr ()))
def xG(s:(List zb))(ru:RB):Option (Int) :=
 (zG ru s ((List.length s:Nat):Int) KK 0).bind (yj some fun _=>some (-1))
def qB(l:(List zb))(ru:RB):Option (Bool×(List UInt8)×(List (List UInt8))×(List (List UInt8))×Int×Int×Int×Bool×Int×Int×Int×(List UInt8)×(List UInt8)×(List Expr)×Int×Int×Int×Int×Int×Int×Int) :=
 (xG l ru).bind fun x1=>(bif (decide (x1≥0))then(idx l x1).bind fun x2=>some (true,x2.Name,x2.Zones,x2.Except,x2.From,x2.Until,x2.Grace,x2.Vary,x2.Kind,x2.Test.Op,x2.Test.N,x2.Test.S,x2.Test.Key,x2.Test.Args,x2.zg.Side,x2.zg.Base,x2.zg.Num,x2.zg.Den,x2.Uses,x2.Other,x2.N)else some (false,([]:List UInt8),[],[],0,0,0,false,0,0,0,([]:List UInt8),([]:List UInt8),[],0,0,0,0,0,0,0))
def Jc(x_:Cap)(a1_Name:(List UInt8))(a1_Load:Int)(a1_Limit:Int)(a1_Corners:(List zw)):Option (Bool) :=
 some (decide (x_.Name=a1_Name))
def zH(c0:(List UInt8))(c1:Int)(c2:Int)(c3:(List zw))(c4:(List Cap))(c5:Int):Nat→(Int)→Option ((Int)⊕(Unit))
 |0,_=>none
 |K+1,q=>(bif (decide (q<c5))then(idx c4 q).bind fun x1=>(Jc x1 c0 c1 c2 c3).bind fun x2=>(bif x2 then some (Sum.inl q)else zH c0 c1 c2 c3 c4 c5 K (w64 (q+1)))else some (Sum.inr ()))
def xH(s:(List Cap))(x_Name:(List UInt8))(x_Load:Int)(x_Limit:Int)(x_Corners:(List zw)):Option (Int) :=
 (zH x_Name x_Load x_Limit x_Corners s ((List.length s:Nat):Int) KK 0).bind (yj some fun _=>some (-1))
def qC(l:(List Cap))(x_Name:(List UInt8))(x_Load:Int)(x_Limit:Int)(x_Corners:(List zw)):Option (Bool×(List UInt8)×Int×Int×(List zw)) :=
 (xH l x_Name x_Load x_Limit x_Corners).bind fun x1=>(bif (decide (x1≥0))then(idx l x1).bind fun x2=>some (true,x2.Name,x2.Load,x2.Limit,x2.Corners)else some (false,([]:List UInt8),0,0,[]))
def xk(c0:(List Def))(c1:Int)(c2:(List Def))(c3:(List Table))(c4:(List zm))(c5:(List zb))(c6:(List Cap))(c7:(List View))(c8:(List zj))(c9:Int)(c10:(List Table))(c11:(List zm))(c12:(List zb))(c13:(List Cap))(c14:(List View))(c15:(List zj))(c16:Int):Nat→(Int×(List zn))→Option ((List zn))
 |0,_=>none
 |K+1,q=>(bif (decide (q.1<c1))then((idx c0 q.1).bind fun x2=>(H7 c2 x2.Name x2.Body.Op x2.Body.N x2.Body.S x2.Body.Key x2.Body.Args).bind fun x3=>((bif (!x3.1)then some true else(wX (zn.mk 2 x2.Name ([]:List UInt8) 0 (zb.mk ([]:List UInt8) [] [] 0 0 0 false 0 (Expr.mk 0 0 ([]:List UInt8) ([]:List UInt8) []) (zg.mk 0 0 0 0) 0 0 0) (Expr.mk x2.Body.Op x2.Body.N x2.Body.S x2.Body.Key x2.Body.Args) []) (zn.mk 2 x2.Name ([]:List UInt8) 0 (zb.mk ([]:List UInt8) [] [] 0 0 0 false 0 (Expr.mk 0 0 ([]:List UInt8) ([]:List UInt8) []) (zg.mk 0 0 0 0) 0 0 0) (Expr.mk x3.2.2.1 x3.2.2.2.1 x3.2.2.2.2.1 x3.2.2.2.2.2.1 x3.2.2.2.2.2.2) [])).bind fun x5=>some (!x5))).bind fun x4=>(bif x4 then(grd (List.length (q.2++([(zn.mk 2 x2.Name ([]:List UInt8) 0 (zb.mk ([]:List UInt8) [] [] 0 0 0 false 0 (Expr.mk 0 0 ([]:List UInt8) ([]:List UInt8) []) (zg.mk 0 0 0 0) 0 0 0) (Expr.mk x2.Body.Op x2.Body.N x2.Body.S x2.Body.Key x2.Body.Args) [])]:List zn))*376≤140737488355328)).bind fun _=>some (q.2++([(zn.mk 2 x2.Name ([]:List UInt8) 0 (zb.mk ([]:List UInt8) [] [] 0 0 0 false 0 (Expr.mk 0 0 ([]:List UInt8) ([]:List UInt8) []) (zg.mk 0 0 0 0) 0 0 0) (Expr.mk x2.Body.Op x2.Body.N x2.Body.S x2.Body.Key x2.Body.Args) [])]:List zn))else some q.2)).bind fun x1=>xk c0 c1 c2 c3 c4 c5 c6 c7 c8 c9 c10 c11 c12 c13 c14 c15 c16 K ((w64 (q.1+1)),x1)else some q.2)
def xl(c0:(List Table))(c1:Int)(c2:Int)(c3:(List Entry))(c4:Int)(c5:(List Def))(c6:(List Table))(c7:(List zm))(c8:(List zb))(c9:(List Cap))(c10:(List View))(c11:(List zj))(c12:Int)(c13:(List Def))(c14:(List zm))(c15:(List zb))(c16:(List Cap))(c17:(List View))(c18:(List zj))(c19:Int)(c20:(List UInt8))(c21:Int)(c22:(List UInt8))(c23:(List Entry))(c24:Int):Nat→(Int×(List zn))→Option ((List zn))
 |0,_=>none
 |K+1,q=>(bif (decide (q.1<c4))then((idx c3 q.1).bind fun x2=>(qz c23 x2.Name x2.N).bind fun x3=>((bif (!x3.1)then some true else some (!(decide (x3.2.2=x2.N))))).bind fun x4=>(bif x4 then(grd (List.length (q.2++([(zn.mk 3 c20 x2.Name x2.N (zb.mk ([]:List UInt8) [] [] 0 0 0 false 0 (Expr.mk 0 0 ([]:List UInt8) ([]:List UInt8) []) (zg.mk 0 0 0 0) 0 0 0) (Expr.mk 0 0 ([]:List UInt8) ([]:List UInt8) []) [])]:List zn))*376≤140737488355328)).bind fun _=>some (q.2++([(zn.mk 3 c20 x2.Name x2.N (zb.mk ([]:List UInt8) [] [] 0 0 0 false 0 (Expr.mk 0 0 ([]:List UInt8) ([]:List UInt8) []) (zg.mk 0 0 0 0) 0 0 0) (Expr.mk 0 0 ([]:List UInt8) ([]:List UInt8) []) [])]:List zn))else some q.2)).bind fun x1=>xl c0 c1 c2 c3 c4 c5 c6 c7 c8 c9 c10 c11 c12 c13 c14 c15 c16 c17 c18 c19 c20 c21 c22 c23 c24 K ((w64 (q.1+1)),x1)else some q.2)
def xm(c0:(List Table))(c1:Int)(c2:(List Def))(c3:(List Table))(c4:(List zm))(c5:(List zb))(c6:(List Cap))(c7:(List View))(c8:(List zj))(c9:Int)(c10:(List Def))(c11:(List zm))(c12:(List zb))(c13:(List Cap))(c14:(List View))(c15:(List zj))(c16:Int):Nat→(Int×(List zn))→Option ((List zn))
 |0,_=>none
 |K+1,q=>(bif (decide (q.1<c1))then(idx c0 q.1).bind fun x1=>(Az c3 x1.Name x1.Rows x1.Else).bind fun x2=>(xl c0 c1 q.1 x1.Rows ((List.length x1.Rows:Nat):Int) c2 c3 c4 c5 c6 c7 c8 c9 c10 c11 c12 c13 c14 c15 c16 x1.Name x1.Else x2.2.1 x2.2.2.1 x2.2.2.2 KK (0,q.2)).bind fun x3=>xm c0 c1 c2 c3 c4 c5 c6 c7 c8 c9 c10 c11 c12 c13 c14 c15 c16 K ((w64 (q.1+1)),x3)else some q.2)
def xn(c0:(List zm))(c1:Int)(c2:(List Def))(c3:(List Table))(c4:(List zm))(c5:(List zb))(c6:(List Cap))(c7:(List View))(c8:(List zj))(c9:Int)(c10:(List Def))(c11:(List Table))(c12:(List zb))(c13:(List Cap))(c14:(List View))(c15:(List zj))(c16:Int):Nat→(Int×(List zn))→Option ((List zn))
 |0,_=>none
 |K+1,q=>(bif (decide (q.1<c1))then((idx c0 q.1).bind fun x2=>(qA c4 x2.Name x2.Overlay x2.Corners).bind fun x3=>((bif (!x3.1)then some true else(ya x3.2.2.2 x2.Corners).bind fun x5=>some (!x5))).bind fun x4=>(bif x4 then(Ay (zu.mk [] [] ([x2]:List zm) [] [] [] [] 0)).bind fun x6=>(grd (List.length (q.2++([(zn.mk x6.1 x6.2.1 x6.2.2.1 x6.2.2.2.1 (zb.mk x6.2.2.2.2.1 x6.2.2.2.2.2.1 x6.2.2.2.2.2.2.1 x6.2.2.2.2.2.2.2.1 x6.2.2.2.2.2.2.2.2.1 x6.2.2.2.2.2.2.2.2.2.1 x6.2.2.2.2.2.2.2.2.2.2.1 x6.2.2.2.2.2.2.2.2.2.2.2.1 (Expr.mk x6.2.2.2.2.2.2.2.2.2.2.2.2.1 x6.2.2.2.2.2.2.2.2.2.2.2.2.2.1 x6.2.2.2.2.2.2.2.2.2.2.2.2.2.2.1 x6.2.2.2.2.2.2.2.2.2.2.2.2.2.2.2.1 x6.2.2.2.2.2.2.2.2.2.2.2.2.2.2.2.2.1) (zg.mk x6.2.2.2.2.2.2.2.2.2.2.2.2.2.2.2.2.2.1 x6.2.2.2.2.2.2.2.2.2.2.2.2.2.2.2.2.2.2.1 x6.2.2.2.2.2.2.2.2.2.2.2.2.2.2.2.2.2.2.2.1 x6.2.2.2.2.2.2.2.2.2.2.2.2.2.2.2.2.2.2.2.2.1) x6.2.2.2.2.2.2.2.2.2.2.2.2.2.2.2.2.2.2.2.2.2.1 x6.2.2.2.2.2.2.2.2.2.2.2.2.2.2.2.2.2.2.2.2.2.2.1 x6.2.2.2.2.2.2.2.2.2.2.2.2.2.2.2.2.2.2.2.2.2.2.2.1) (Expr.mk x6.2.2.2.2.2.2.2.2.2.2.2.2.2.2.2.2.2.2.2.2.2.2.2.2.1 x6.2.2.2.2.2.2.2.2.2.2.2.2.2.2.2.2.2.2.2.2.2.2.2.2.2.1 x6.2.2.2.2.2.2.2.2.2.2.2.2.2.2.2.2.2.2.2.2.2.2.2.2.2.2.1 x6.2.2.2.2.2.2.2.2.2.2.2.2.2.2.2.2.2.2.2.2.2.2.2.2.2.2.2.1 x6.2.2.2.2.2.2.2.2.2.2.2.2.2.2.2.2.2.2.2.2.2.2.2.2.2.2.2.2.1) x6.2.2.2.2.2.2.2.2.2.2.2.2.2.2.2.2.2.2.2.2.2.2.2.2.2.2.2.2.2)]:List zn))*376≤140737488355328)).bind fun _=>some (q.2++([(zn.mk x6.1 x6.2.1 x6.2.2.1 x6.2.2.2.1 (zb.mk x6.2.2.2.2.1 x6.2.2.2.2.2.1 x6.2.2.2.2.2.2.1 x6.2.2.2.2.2.2.2.1 x6.2.2.2.2.2.2.2.2.1 x6.2.2.2.2.2.2.2.2.2.1 x6.2.2.2.2.2.2.2.2.2.2.1 x6.2.2.2.2.2.2.2.2.2.2.2.1 (Expr.mk x6.2.2.2.2.2.2.2.2.2.2.2.2.1 x6.2.2.2.2.2.2.2.2.2.2.2.2.2.1 x6.2.2.2.2.2.2.2.2.2.2.2.2.2.2.1 x6.2.2.2.2.2.2.2.2.2.2.2.2.2.2.2.1 x6.2.2.2.2.2.2.2.2.2.2.2.2.2.2.2.2.1) (zg.mk x6.2.2.2.2.2.2.2.2.2.2.2.2.2.2.2.2.2.1 x6.2.2.2.2.2.2.2.2.2.2.2.2.2.2.2.2.2.2.1 x6.2.2.2.2.2.2.2.2.2.2.2.2.2.2.2.2.2.2.2.1 x6.2.2.2.2.2.2.2.2.2.2.2.2.2.2.2.2.2.2.2.2.1) x6.2.2.2.2.2.2.2.2.2.2.2.2.2.2.2.2.2.2.2.2.2.1 x6.2.2.2.2.2.2.2.2.2.2.2.2.2.2.2.2.2.2.2.2.2.2.1 x6.2.2.2.2.2.2.2.2.2.2.2.2.2.2.2.2.2.2.2.2.2.2.2.1) (Expr.mk x6.2.2.2.2.2.2.2.2.2.2.2.2.2.2.2.2.2.2.2.2.2.2.2.2.1 x6.2.2.2.2.2.2.2.2.2.2.2.2.2.2.2.2.2.2.2.2.2.2.2.2.2.1 x6.2.2.2.2.2.2.2.2.2.2.2.2.2.2.2.2.2.2.2.2.2.2.2.2.2.2.1 x6.2.2.2.2.2.2.2.2.2.2.2.2.2.2.2.2.2.2.2.2.2.2.2.2.2.2.2.1 x6.2.2.2.2.2.2.2.2.2.2.2.2.2.2.2.2.2.2.2.2.2.2.2.2.2.2.2.2.1) x6.2.2.2.2.2.2.2.2.2.2.2.2.2.2.2.2.2.2.2.2.2.2.2.2.2.2.2.2.2)]:List zn))else some q.2)).bind fun x1=>xn c0 c1 c2 c3 c4 c5 c6 c7 c8 c9 c10 c11 c12 c13 c14 c15 c16 K ((w64 (q.1+1)),x1)else some q.2)
def xo(c0:(List zb))(c1:Int)(c2:(List Def))(c3:(List Table))(c4:(List zm))(c5:(List zb))(c6:(List Cap))(c7:(List View))(c8:(List zj))(c9:Int)(c10:(List Def))(c11:(List Table))(c12:(List zm))(c13:(List Cap))(c14:(List View))(c15:(List zj))(c16:Int):Nat→(Int×(List zn))→Option ((List zn))
 |0,_=>none
 |K+1,q=>(bif (decide (q.1<c1))then((idx c0 q.1).bind fun x2=>(qB c5 (RB.mk x2.Name x2.Zones x2.Except x2.From x2.Until x2.Grace x2.Vary x2.Kind x2.Test.Op x2.Test.N x2.Test.S x2.Test.Key x2.Test.Args x2.zg.Side x2.zg.Base x2.zg.Num x2.zg.Den x2.Uses x2.Other x2.N)).bind fun x3=>(bif (!x3.1)then(grd (List.length (q.2++([(zn.mk 0 ([]:List UInt8) ([]:List UInt8) 0 (zb.mk x2.Name x2.Zones x2.Except x2.From x2.Until x2.Grace x2.Vary x2.Kind (Expr.mk x2.Test.Op x2.Test.N x2.Test.S x2.Test.Key x2.Test.Args) x2.zg x2.Uses x2.Other x2.N) (Expr.mk 0 0 ([]:List UInt8) ([]:List UInt8) []) [])]:List zn))*376≤140737488355328)).bind fun _=>some (q.2++([(zn.mk 0 ([]:List UInt8) ([]:List UInt8) 0 (zb.mk x2.Name x2.Zones x2.Except x2.From x2.Until x2.Grace x2.Vary x2.Kind (Expr.mk x2.Test.Op x2.Test.N x2.Test.S x2.Test.Key x2.Test.Args) x2.zg x2.Uses x2.Other x2.N) (Expr.mk 0 0 ([]:List UInt8) ([]:List UInt8) []) [])]:List zn))else(bif (!(decide (x3.2.2.2.2.2.1=x2.Until)))then(grd (List.length (q.2++([(zn.mk 1 x2.Name ([]:List UInt8) x2.Until (zb.mk ([]:List UInt8) [] [] 0 0 0 false 0 (Expr.mk 0 0 ([]:List UInt8) ([]:List UInt8) []) (zg.mk 0 0 0 0) 0 0 0) (Expr.mk 0 0 ([]:List UInt8) ([]:List UInt8) []) [])]:List zn))*376≤140737488355328)).bind fun _=>some (q.2++([(zn.mk 1 x2.Name ([]:List UInt8) x2.Until (zb.mk ([]:List UInt8) [] [] 0 0 0 false 0 (Expr.mk 0 0 ([]:List UInt8) ([]:List UInt8) []) (zg.mk 0 0 0 0) 0 0 0) (Expr.mk 0 0 ([]:List UInt8) ([]:List UInt8) []) [])]:List zn))else some q.2))).bind fun x1=>xo c0 c1 c2 c3 c4 c5 c6 c7 c8 c9 c10 c11 c12 c13 c14 c15 c16 K ((w64 (q.1+1)),x1)else some q.2)
def xp(c0:(List Cap))(c1:Int)(c2:(List Def))(c3:(List Table))(c4:(List zm))(c5:(List zb))(c6:(List Cap))(c7:(List View))(c8:(List zj))(c9:Int):Nat→(Int×(List zn))→Option ((List zn))
 |0,_=>none
 |K+1,q=>(bif (decide (q.1<c1))then((idx c0 q.1).bind fun x2=>(qC c6 x2.Name x2.Load x2.Limit x2.Corners).bind fun x3=>((bif x3.1 then some (!(decide (x3.2.2.2.1=x2.Limit)))else some false)).bind fun x4=>(bif x4 then(grd (List.length (q.2++([(zn.mk 5 x2.Name ([]:List UInt8) x2.Limit (zb.mk ([]:List UInt8) [] [] 0 0 0 false 0 (Expr.mk 0 0 ([]:List UInt8) ([]:List UInt8) []) (zg.mk 0 0 0 0) 0 0 0) (Expr.mk 0 0 ([]:List UInt8) ([]:List UInt8) []) [])]:List zn))*376≤140737488355328)).bind fun _=>some (q.2++([(zn.mk 5 x2.Name ([]:List UInt8) x2.Limit (zb.mk ([]:List UInt8) [] [] 0 0 0 false 0 (Expr.mk 0 0 ([]:List UInt8) ([]:List UInt8) []) (zg.mk 0 0 0 0) 0 0 0) (Expr.mk 0 0 ([]:List UInt8) ([]:List UInt8) []) [])]:List zn))else some q.2)).bind fun x1=>xp c0 c1 c2 c3 c4 c5 c6 c7 c8 c9 K ((w64 (q.1+1)),x1)else some q.2)
def uq(a:zu)(b:zu):Option ((List zn)) :=
 (xk b.Defs ((List.length b.Defs:Nat):Int) a.Defs a.Tables a.Zones a.Rules a.Caps a.Views a.Sun a.Hours b.Tables b.Zones b.Rules b.Caps b.Views b.Sun b.Hours KK (0,[])).bind fun x1=>(xm b.Tables ((List.length b.Tables:Nat):Int) a.Defs a.Tables a.Zones a.Rules a.Caps a.Views a.Sun a.Hours b.Defs b.Zones b.Rules b.Caps b.Views b.Sun b.Hours KK (0,x1)).bind fun x2=>(xn b.Zones ((List.length b.Zones:Nat):Int) a.Defs a.Tables a.Zones a.Rules a.Caps a.Views a.Sun a.Hours b.Defs b.Tables b.Rules b.Caps b.Views b.Sun b.Hours KK (0,x2)).bind fun x3=>(xo b.Rules ((List.length b.Rules:Nat):Int) a.Defs a.Tables a.Zones a.Rules a.Caps a.Views a.Sun a.Hours b.Defs b.Tables b.Zones b.Caps b.Views b.Sun b.Hours KK (0,x3)).bind fun x4=>(xp b.Caps ((List.length b.Caps:Nat):Int) a.Defs a.Tables a.Zones a.Rules a.Caps a.Views a.Sun a.Hours KK (0,x4)).bind fun x5=>some x5
def xI(c0:(List zn))(c1:Int)(c2:(List Def))(c3:(List Table))(c4:(List zm))(c5:(List zb))(c6:(List Cap))(c7:(List View))(c8:(List zj))(c9:Int):Nat→(Int×(List Def)×(List Table)×(List zm)×(List zb)×(List Cap)×(List View)×(List zj)×Int)→Option ((Int×(List Def)×(List Table)×(List zm)×(List zb)×(List Cap)×(List View)×(List zj)×Int)⊕((List Def)×(List Table)×(List zm)×(List zb)×(List Cap)×(List View)×(List zj)×Int))
 |0,_=>none
 |K+1,q=>(bif (decide (q.1<c1))then(idx c0 q.1).bind fun x1=>(JQ (zu.mk q.2.1 q.2.2.1 q.2.2.2.1 q.2.2.2.2.1 q.2.2.2.2.2.1 q.2.2.2.2.2.2.1 q.2.2.2.2.2.2.2.1 q.2.2.2.2.2.2.2.2) (zn.mk x1.Kind x1.Name x1.Key x1.N (zb.mk x1.zb.Name x1.zb.Zones x1.zb.Except x1.zb.From x1.zb.Until x1.zb.Grace x1.zb.Vary x1.zb.Kind (Expr.mk x1.zb.Test.Op x1.zb.Test.N x1.zb.Test.S x1.zb.Test.Key x1.zb.Test.Args) x1.zb.zg x1.zb.Uses x1.zb.Other x1.zb.N) (Expr.mk x1.Body.Op x1.Body.N x1.Body.S x1.Body.Key x1.Body.Args) x1.Corners)).bind fun x2=>(bif (!(decide (x2.1=0)))then some (Sum.inl (x2.1,[],[],[],[],[],[],[],0))else xI c0 c1 c2 c3 c4 c5 c6 c7 c8 c9 K ((w64 (q.1+1)),x2.2.1,x2.2.2.1,x2.2.2.2.1,x2.2.2.2.2.1,x2.2.2.2.2.2.1,x2.2.2.2.2.2.2.1,x2.2.2.2.2.2.2.2.1,x2.2.2.2.2.2.2.2.2))else some (Sum.inr (q.2.1,q.2.2.1,q.2.2.2.1,q.2.2.2.2.1,q.2.2.2.2.2.1,q.2.2.2.2.2.2.1,q.2.2.2.2.2.2.2.1,q.2.2.2.2.2.2.2.2)))
def wm(p:zu)(l:(List zn)):Option (Int×(List Def)×(List Table)×(List zm)×(List zb)×(List Cap)×(List View)×(List zj)×Int) :=
 (qg p).bind fun x1=>(bif (!x1)then some (1,[],[],[],[],[],[],[],0)else(xI l ((List.length l:Nat):Int) [] [] [] [] [] [] [] 0 KK (0,p.Defs,p.Tables,p.Zones,p.Rules,p.Caps,p.Views,p.Sun,p.Hours)).bind (yj some fun x2=>(oG (zu.mk x2.1 x2.2.1 x2.2.2.1 x2.2.2.2.1 x2.2.2.2.2.1 x2.2.2.2.2.2.1 x2.2.2.2.2.2.2.1 x2.2.2.2.2.2.2.2)).bind fun x3=>some (0,x3.2.2.1,x3.2.2.2.1,x3.2.2.2.2.1,x3.2.2.2.2.2.1,x3.2.2.2.2.2.2.1,x3.2.2.2.2.2.2.2,x3.1,x3.2.1)))
def AA(a:zu)(b:zu):Option ((List zn)×Int) :=
 ((qg a).bind fun x2=>(bif (!x2)then some true else(qg b).bind fun x3=>some (!x3))).bind fun x1=>(bif x1 then some ([],1)else(oG b).bind fun x4=>(uq a (zu.mk x4.2.2.1 x4.2.2.2.1 x4.2.2.2.2.1 x4.2.2.2.2.2.1 x4.2.2.2.2.2.2.1 x4.2.2.2.2.2.2.2 x4.1 x4.2.1)).bind fun x5=>(wm a x5).bind fun x6=>((bif (!(decide (x6.1=0)))then some true else(kU (zu.mk x6.2.1 x6.2.2.1 x6.2.2.2.1 x6.2.2.2.2.1 x6.2.2.2.2.2.1 x6.2.2.2.2.2.2.1 x6.2.2.2.2.2.2.2.1 x6.2.2.2.2.2.2.2.2) b).bind fun x8=>some (!x8))).bind fun x7=>(bif x7 then some ([],25)else some (x5,0)))
def vA(c0:(List zj))(c1:(List zj)):Nat→(Int)→Option ((Bool)⊕(Unit))
 |0,_=>none
 |K+1,q=>(bif (decide (q<((List.length c0:Nat):Int)))then(idx c0 q).bind fun x1=>(idx c1 q).bind fun x2=>(bif (!(decide (x1.X=x2.X)&&(decide (x1.Y=x2.Y)&&(decide (x1.Z_=x2.Z_)))))then some (Sum.inl false)else vA c0 c1 K (w64 (q+1)))else some (Sum.inr ()))
def qh(a:(List zj))(b:(List zj)):Option (Bool) :=
 (bif (!(decide (((List.length a:Nat):Int)=((List.length b:Nat):Int))))then some false else(vA a b KK 0).bind (yj some fun _=>some true))
def kC(r_R_SameExpr:Expr→Expr→Option (Bool))(c0:Int)(c1:Int)(c2:(List UInt8))(c3:(List UInt8))(c4:(List Expr))(c5:Int)(c6:Int)(c7:(List UInt8))(c8:(List UInt8))(c9:(List Expr)):Nat→(Int)→Option ((Bool)⊕(Unit))
 |0,_=>none
 |K+1,q=>(bif (decide (q<((List.length c4:Nat):Int)))then(idx c4 q).bind fun x1=>(idx c9 q).bind fun x2=>(r_R_SameExpr x1 x2).bind fun x3=>(bif (!x3)then some (Sum.inl false)else kC r_R_SameExpr c0 c1 c2 c3 c4 c5 c6 c7 c8 c9 K (w64 (q+1)))else some (Sum.inr ()))
def wK:Nat→Expr→Expr→Option (Bool)
 |0,_,_=>none
 |RK+1,a,b=>((bif (!(decide (a.Op=b.Op)))then some true else(bif (!(decide (a.N=b.N)))then some true else(bif (!(decide (a.S=b.S)))then some true else(bif (!(decide (a.Key=b.Key)))then some true else some (!(decide (((List.length a.Args:Nat):Int)=((List.length b.Args:Nat):Int))))))))).bind fun x1=>(bif x1 then some false else(kC (wK RK) a.Op a.N a.S a.Key a.Args b.Op b.N b.S b.Key b.Args KK 0).bind (yj some fun _=>some true))
def w0(c0:(List Entry))(c1:(List Entry)):Nat→(Int)→Option ((Bool)⊕(Unit))
 |0,_=>none
 |K+1,q=>(bif (decide (q<((List.length c0:Nat):Int)))then(idx c0 q).bind fun x1=>(idx c1 q).bind fun x2=>(bif (!(decide (x1.Name=x2.Name)&&(decide (x1.N=x2.N))))then some (Sum.inl false)else w0 c0 c1 K (w64 (q+1)))else some (Sum.inr ()))
def oH(a:(List Entry))(b:(List Entry)):Option (Bool) :=
 (bif (!(decide (((List.length a:Nat):Int)=((List.length b:Nat):Int))))then some false else(w0 a b KK 0).bind (yj some fun _=>some true))
def vB(c0:(List zw))(c1:(List zw)):Nat→(Int)→Option ((Bool)⊕(Unit))
 |0,_=>none
 |K+1,q=>(bif (decide (q<((List.length c0:Nat):Int)))then(idx c0 q).bind fun x1=>(idx c1 q).bind fun x2=>(bif (!(decide (x1.X=x2.X)&&(decide (x1.Y=x2.Y))))then some (Sum.inl false)else vB c0 c1 K (w64 (q+1)))else some (Sum.inr ()))
def qi(a:(List zw))(b:(List zw)):Option (Bool) :=
 (bif (!(decide (((List.length a:Nat):Int)=((List.length b:Nat):Int))))then some false else(vB a b KK 0).bind (yj some fun _=>some true))
def jd(c0:(List (List UInt8)))(c1:(List (List UInt8))):Nat→(Int)→Option ((Bool)⊕(Unit))
 |0,_=>none
 |K+1,q=>(bif (decide (q<((List.length c0:Nat):Int)))then(idx c0 q).bind fun x1=>(idx c1 q).bind fun x2=>(bif (!(decide (x1=x2)))then some (Sum.inl false)else jd c0 c1 K (w64 (q+1)))else some (Sum.inr ()))
def ur(a:(List (List UInt8)))(b:(List (List UInt8))):Option (Bool) :=
 (bif (!(decide (((List.length a:Nat):Int)=((List.length b:Nat):Int))))then some false else(jd a b KK 0).bind (yj some fun _=>some true))
def Kl(a:zb)(b:zb):Option (Bool) :=
 ((ur a.Zones b.Zones).bind fun x2=>(bif x2 then(ur a.Except b.Except).bind fun x3=>(bif x3 then(wK KK (Expr.mk a.Test.Op a.Test.N a.Test.S a.Test.Key a.Test.Args) (Expr.mk b.Test.Op b.Test.N b.Test.S b.Test.Key b.Test.Args)).bind fun x4=>some x4 else some false)else some false)).bind fun x1=>((bif (decide (a.From=b.From))then(bif (decide (a.Until=b.Until))then(bif (decide (a.Grace=b.Grace))then some (a.Vary==b.Vary)else some false)else some false)else some false)).bind fun x5=>(bif (decide (a.Name=b.Name))then(bif x1 then(bif x5 then(bif (decide (a.Kind=b.Kind))then(bif (decide (a.zg.Side=b.zg.Side)&&(decide (a.zg.Base=b.zg.Base)&&(decide (a.zg.Num=b.zg.Num)&&(decide (a.zg.Den=b.zg.Den)))))then(bif (decide (a.Uses=b.Uses))then(bif (decide (a.Other=b.Other))then some (decide (a.N=b.N))else some false)else some false)else some false)else some false)else some false)else some false)else some false)
def A8(c0:(List Def))(c1:(List Table))(c2:(List zm))(c3:(List zb))(c4:(List Cap))(c5:(List View))(c6:(List zj))(c7:Int)(c8:(List Def))(c9:(List Table))(c10:(List zm))(c11:(List zb))(c12:(List Cap))(c13:(List View))(c14:(List zj))(c15:Int):Nat→(Int)→Option ((Bool)⊕(Unit))
 |0,_=>none
 |K+1,q=>(bif (decide (q<((List.length c0:Nat):Int)))then((idx c0 q).bind fun x2=>(idx c8 q).bind fun x3=>(bif (!(decide (x2.Name=x3.Name)))then some true else(idx c0 q).bind fun x4=>(idx c8 q).bind fun x5=>(wK KK x4.Body x5.Body).bind fun x6=>some (!x6))).bind fun x1=>(bif x1 then some (Sum.inl false)else A8 c0 c1 c2 c3 c4 c5 c6 c7 c8 c9 c10 c11 c12 c13 c14 c15 K (w64 (q+1)))else some (Sum.inr ()))
def A9(c0:(List Def))(c1:(List Table))(c2:(List zm))(c3:(List zb))(c4:(List Cap))(c5:(List View))(c6:(List zj))(c7:Int)(c8:(List Def))(c9:(List Table))(c10:(List zm))(c11:(List zb))(c12:(List Cap))(c13:(List View))(c14:(List zj))(c15:Int):Nat→(Int)→Option ((Bool)⊕(Unit))
 |0,_=>none
 |K+1,q=>(bif (decide (q<((List.length c1:Nat):Int)))then((idx c1 q).bind fun x2=>(idx c9 q).bind fun x3=>(bif (!(decide (x2.Name=x3.Name)))then some true else(idx c1 q).bind fun x4=>(idx c9 q).bind fun x5=>(bif (!(decide (x4.Else=x5.Else)))then some true else(idx c1 q).bind fun x6=>(idx c9 q).bind fun x7=>(oH x6.Rows x7.Rows).bind fun x8=>some (!x8)))).bind fun x1=>(bif x1 then some (Sum.inl false)else A9 c0 c1 c2 c3 c4 c5 c6 c7 c8 c9 c10 c11 c12 c13 c14 c15 K (w64 (q+1)))else some (Sum.inr ()))
def Ha(c0:(List Def))(c1:(List Table))(c2:(List zm))(c3:(List zb))(c4:(List Cap))(c5:(List View))(c6:(List zj))(c7:Int)(c8:(List Def))(c9:(List Table))(c10:(List zm))(c11:(List zb))(c12:(List Cap))(c13:(List View))(c14:(List zj))(c15:Int):Nat→(Int)→Option ((Bool)⊕(Unit))
 |0,_=>none
 |K+1,q=>(bif (decide (q<((List.length c2:Nat):Int)))then((idx c2 q).bind fun x2=>(idx c10 q).bind fun x3=>(bif (!(decide (x2.Name=x3.Name)))then some true else(idx c2 q).bind fun x4=>(idx c10 q).bind fun x5=>(bif (!(x4.Overlay==x5.Overlay))then some true else(idx c2 q).bind fun x6=>(idx c10 q).bind fun x7=>(qi x6.Corners x7.Corners).bind fun x8=>some (!x8)))).bind fun x1=>(bif x1 then some (Sum.inl false)else Ha c0 c1 c2 c3 c4 c5 c6 c7 c8 c9 c10 c11 c12 c13 c14 c15 K (w64 (q+1)))else some (Sum.inr ()))
def Hb(c0:(List Def))(c1:(List Table))(c2:(List zm))(c3:(List zb))(c4:(List Cap))(c5:(List View))(c6:(List zj))(c7:Int)(c8:(List Def))(c9:(List Table))(c10:(List zm))(c11:(List zb))(c12:(List Cap))(c13:(List View))(c14:(List zj))(c15:Int):Nat→(Int)→Option ((Bool)⊕(Unit))
 |0,_=>none
 |K+1,q=>(bif (decide (q<((List.length c3:Nat):Int)))then(idx c3 q).bind fun x1=>(idx c11 q).bind fun x2=>(Kl x1 x2).bind fun x3=>(bif (!x3)then some (Sum.inl false)else Hb c0 c1 c2 c3 c4 c5 c6 c7 c8 c9 c10 c11 c12 c13 c14 c15 K (w64 (q+1)))else some (Sum.inr ()))
def Hc(c0:(List Def))(c1:(List Table))(c2:(List zm))(c3:(List zb))(c4:(List Cap))(c5:(List View))(c6:(List zj))(c7:Int)(c8:(List Def))(c9:(List Table))(c10:(List zm))(c11:(List zb))(c12:(List Cap))(c13:(List View))(c14:(List zj))(c15:Int):Nat→(Int)→Option ((Bool)⊕(Unit))
 |0,_=>none
 |K+1,q=>(bif (decide (q<((List.length c4:Nat):Int)))then((idx c4 q).bind fun x2=>(idx c12 q).bind fun x3=>(bif (!(decide (x2.Name=x3.Name)))then some true else(idx c4 q).bind fun x4=>(idx c12 q).bind fun x5=>(bif (!(decide (x4.Load=x5.Load)))then some true else(idx c4 q).bind fun x6=>(idx c12 q).bind fun x7=>(bif (!(decide (x6.Limit=x7.Limit)))then some true else(idx c4 q).bind fun x8=>(idx c12 q).bind fun x9=>(qi x8.Corners x9.Corners).bind fun x10=>some (!x10))))).bind fun x1=>(bif x1 then some (Sum.inl false)else Hc c0 c1 c2 c3 c4 c5 c6 c7 c8 c9 c10 c11 c12 c13 c14 c15 K (w64 (q+1)))else some (Sum.inr ()))
def Hd(c0:(List Def))(c1:(List Table))(c2:(List zm))(c3:(List zb))(c4:(List Cap))(c5:(List View))(c6:(List zj))(c7:Int)(c8:(List Def))(c9:(List Table))(c10:(List zm))(c11:(List zb))(c12:(List Cap))(c13:(List View))(c14:(List zj))(c15:Int):Nat→(Int)→Option ((Bool)⊕(Unit))
 |0,_=>none
 |K+1,q=>(bif (decide (q<((List.length c5:Nat):Int)))then((idx c5 q).bind fun x2=>(idx c13 q).bind fun x3=>(bif (!(decide (x2.Name=x3.Name)))then some true else(idx c5 q).bind fun x4=>(idx c13 q).bind fun x5=>(bif (!(decide (x4.Eye.X=x5.Eye.X)&&(decide (x4.Eye.Y=x5.Eye.Y)&&(decide (x4.Eye.Z_=x5.Eye.Z_)))))then some true else(idx c5 q).bind fun x6=>(idx c13 q).bind fun x7=>(bif (!(decide (x6.Least=x7.Least)))then some true else(idx c5 q).bind fun x8=>(idx c13 q).bind fun x9=>(qh x8.Targets x9.Targets).bind fun x10=>some (!x10))))).bind fun x1=>(bif x1 then some (Sum.inl false)else Hd c0 c1 c2 c3 c4 c5 c6 c7 c8 c9 c10 c11 c12 c13 c14 c15 K (w64 (q+1)))else some (Sum.inr ()))
def zin(a:zu)(b:zu):Option (Bool) :=
 ((bif (!(decide (((List.length a.Defs:Nat):Int)=((List.length b.Defs:Nat):Int))))then some true else(bif (!(decide (((List.length a.Tables:Nat):Int)=((List.length b.Tables:Nat):Int))))then some true else(bif (!(decide (((List.length a.Zones:Nat):Int)=((List.length b.Zones:Nat):Int))))then some true else(bif (!(decide (((List.length a.Rules:Nat):Int)=((List.length b.Rules:Nat):Int))))then some true else(bif (!(decide (((List.length a.Caps:Nat):Int)=((List.length b.Caps:Nat):Int))))then some true else(bif (!(decide (((List.length a.Views:Nat):Int)=((List.length b.Views:Nat):Int))))then some true else(qh a.Sun b.Sun).bind fun x2=>(bif (!x2)then some true else some (!(decide (a.Hours=b.Hours))))))))))).bind fun x1=>(bif x1 then some false else(A8 a.Defs a.Tables a.Zones a.Rules a.Caps a.Views a.Sun a.Hours b.Defs b.Tables b.Zones b.Rules b.Caps b.Views b.Sun b.Hours KK 0).bind (yj some fun _=>(A9 a.Defs a.Tables a.Zones a.Rules a.Caps a.Views a.Sun a.Hours b.Defs b.Tables b.Zones b.Rules b.Caps b.Views b.Sun b.Hours KK 0).bind (yj some fun _=>(Ha a.Defs a.Tables a.Zones a.Rules a.Caps a.Views a.Sun a.Hours b.Defs b.Tables b.Zones b.Rules b.Caps b.Views b.Sun b.Hours KK 0).bind (yj some fun _=>(Hb a.Defs a.Tables a.Zones a.Rules a.Caps a.Views a.Sun a.Hours b.Defs b.Tables b.Zones b.Rules b.Caps b.Views b.Sun b.Hours KK 0).bind (yj some fun _=>(Hc a.Defs a.Tables a.Zones a.Rules a.Caps a.Views a.Sun a.Hours b.Defs b.Tables b.Zones b.Rules b.Caps b.Views b.Sun b.Hours KK 0).bind (yj some fun _=>(Hd a.Defs a.Tables a.Zones a.Rules a.Caps a.Views a.Sun a.Hours b.Defs b.Tables b.Zones b.Rules b.Caps b.Views b.Sun b.Hours KK 0).bind (yj some fun _=>some true)))))))
def He(c0:Int)(c1:(List UInt8))(c2:(List UInt8))(c3:Int)(c4:(List UInt8))(c5:(List (List UInt8)))(c6:(List (List UInt8)))(c7:Int)(c8:Int)(c9:Int)(c10:Bool)(c11:Int)(c12:Int)(c13:Int)(c14:(List UInt8))(c15:(List UInt8))(c16:(List Expr))(c17:Int)(c18:Int)(c19:Int)(c20:Int)(c21:Int)(c22:Int)(c23:Int)(c24:Int)(c25:Int)(c26:(List UInt8))(c27:(List UInt8))(c28:(List Expr))(c29:(List zw))(c30:Int)(c31:(List UInt8))(c32:(List UInt8))(c33:Int)(c34:(List UInt8))(c35:(List (List UInt8)))(c36:(List (List UInt8)))(c37:Int)(c38:Int)(c39:Int)(c40:Bool)(c41:Int)(c42:Int)(c43:Int)(c44:(List UInt8))(c45:(List UInt8))(c46:(List Expr))(c47:Int)(c48:Int)(c49:Int)(c50:Int)(c51:Int)(c52:Int)(c53:Int)(c54:Int)(c55:Int)(c56:(List UInt8))(c57:(List UInt8))(c58:(List Expr))(c59:(List zw)):Nat→(Int)→Option ((Bool)⊕(Unit))
 |0,_=>none
 |K+1,q=>(bif (decide (q<((List.length c29:Nat):Int)))then(idx c29 q).bind fun x1=>(idx c59 q).bind fun x2=>(bif (!(decide (x1.X=x2.X)&&(decide (x1.Y=x2.Y))))then some (Sum.inl false)else He c0 c1 c2 c3 c4 c5 c6 c7 c8 c9 c10 c11 c12 c13 c14 c15 c16 c17 c18 c19 c20 c21 c22 c23 c24 c25 c26 c27 c28 c29 c30 c31 c32 c33 c34 c35 c36 c37 c38 c39 c40 c41 c42 c43 c44 c45 c46 c47 c48 c49 c50 c51 c52 c53 c54 c55 c56 c57 c58 c59 K (w64 (q+1)))else some (Sum.inr ()))
def Qp(a:zn)(b:zn):Option (Bool) :=
 ((bif (!(decide (a.Kind=b.Kind)))then some true else(bif (!(decide (a.Name=b.Name)))then some true else(bif (!(decide (a.Key=b.Key)))then some true else(bif (!(decide (a.N=b.N)))then some true else some (!(decide (((List.length a.Corners:Nat):Int)=((List.length b.Corners:Nat):Int))))))))).bind fun x1=>(bif x1 then some false else(He a.Kind a.Name a.Key a.N a.zb.Name a.zb.Zones a.zb.Except a.zb.From a.zb.Until a.zb.Grace a.zb.Vary a.zb.Kind a.zb.Test.Op a.zb.Test.N a.zb.Test.S a.zb.Test.Key a.zb.Test.Args a.zb.zg.Side a.zb.zg.Base a.zb.zg.Num a.zb.zg.Den a.zb.Uses a.zb.Other a.zb.N a.Body.Op a.Body.N a.Body.S a.Body.Key a.Body.Args a.Corners b.Kind b.Name b.Key b.N b.zb.Name b.zb.Zones b.zb.Except b.zb.From b.zb.Until b.zb.Grace b.zb.Vary b.zb.Kind b.zb.Test.Op b.zb.Test.N b.zb.Test.S b.zb.Test.Key b.zb.Test.Args b.zb.zg.Side b.zb.zg.Base b.zb.zg.Num b.zb.zg.Den b.zb.Uses b.zb.Other b.zb.N b.Body.Op b.Body.N b.Body.S b.Body.Key b.Body.Args b.Corners KK 0).bind (yj some fun _=>(zin (zu.mk [] [] [] ([(zb.mk a.zb.Name a.zb.Zones a.zb.Except a.zb.From a.zb.Until a.zb.Grace a.zb.Vary a.zb.Kind (Expr.mk a.zb.Test.Op a.zb.Test.N a.zb.Test.S a.zb.Test.Key a.zb.Test.Args) a.zb.zg a.zb.Uses a.zb.Other a.zb.N)]:List zb) [] [] [] 0) (zu.mk [] [] [] ([(zb.mk b.zb.Name b.zb.Zones b.zb.Except b.zb.From b.zb.Until b.zb.Grace b.zb.Vary b.zb.Kind (Expr.mk b.zb.Test.Op b.zb.Test.N b.zb.Test.S b.zb.Test.Key b.zb.Test.Args) b.zb.zg b.zb.Uses b.zb.Other b.zb.N)]:List zb) [] [] [] 0)).bind fun x3=>(bif x3 then(wK KK (Expr.mk a.Body.Op a.Body.N a.Body.S a.Body.Key a.Body.Args) (Expr.mk b.Body.Op b.Body.N b.Body.S b.Body.Key b.Body.Args)).bind fun x4=>some x4 else some false)))
def Vx(e:zn):Option ((List UInt8)×(List UInt8)×(List UInt8)) :=
 (bif (decide (e.Kind=0))then some (zco,e.zb.Name,([]:List UInt8))else(bif (decide (e.Kind=1))then some (zco,e.Name,([]:List UInt8))else(zpa e.Kind).bind fun x1=>some (x1,e.Name,e.Key)))
def Vy(a:zn)(b:zn):Option (Bool) :=
 (wY (zn.mk a.Kind a.Name a.Key a.N (zb.mk a.zb.Name a.zb.Zones a.zb.Except a.zb.From a.zb.Until a.zb.Grace a.zb.Vary a.zb.Kind (Expr.mk a.zb.Test.Op a.zb.Test.N a.zb.Test.S a.zb.Test.Key a.zb.Test.Args) a.zb.zg a.zb.Uses a.zb.Other a.zb.N) (Expr.mk a.Body.Op a.Body.N a.Body.S a.Body.Key a.Body.Args) a.Corners)).bind fun x1=>(bif x1 then(wY (zn.mk b.Kind b.Name b.Key b.N (zb.mk b.zb.Name b.zb.Zones b.zb.Except b.zb.From b.zb.Until b.zb.Grace b.zb.Vary b.zb.Kind (Expr.mk b.zb.Test.Op b.zb.Test.N b.zb.Test.S b.zb.Test.Key b.zb.Test.Args) b.zb.zg b.zb.Uses b.zb.Other b.zb.N) (Expr.mk b.Body.Op b.Body.N b.Body.S b.Body.Key b.Body.Args) b.Corners)).bind fun x2=>(bif x2 then(Vx (zn.mk a.Kind a.Name a.Key a.N (zb.mk a.zb.Name a.zb.Zones a.zb.Except a.zb.From a.zb.Until a.zb.Grace a.zb.Vary a.zb.Kind (Expr.mk a.zb.Test.Op a.zb.Test.N a.zb.Test.S a.zb.Test.Key a.zb.Test.Args) a.zb.zg a.zb.Uses a.zb.Other a.zb.N) (Expr.mk a.Body.Op a.Body.N a.Body.S a.Body.Key a.Body.Args) a.Corners)).bind fun x3=>(Vx (zn.mk b.Kind b.Name b.Key b.N (zb.mk b.zb.Name b.zb.Zones b.zb.Except b.zb.From b.zb.Until b.zb.Grace b.zb.Vary b.zb.Kind (Expr.mk b.zb.Test.Op b.zb.Test.N b.zb.Test.S b.zb.Test.Key b.zb.Test.Args) b.zb.zg b.zb.Uses b.zb.Other b.zb.N) (Expr.mk b.Body.Op b.Body.N b.Body.S b.Body.Key b.Body.Args) b.Corners)).bind fun x4=>some (decide (x3.1=x4.1)&&(decide (x3.2.1=x4.2.1)&&(decide (x3.2.2=x4.2.2))))else some false)else some false)
def uu:Option (Bool) :=
 (zcq vn).bind fun x1=>(zcz ([(zn.mk 3 zo7 zCb 5 (zb.mk ([]:List UInt8) [] [] 0 0 0 false 0 (Expr.mk 0 0 ([]:List UInt8) ([]:List UInt8) []) (zg.mk 0 0 0 0) 0 0 0) (Expr.mk 0 0 ([]:List UInt8) ([]:List UInt8) []) [])]:List zn)).bind fun x2=>(JQ (zu.mk [] [] [] [] [] [] [] 0) (zn.mk 5 zo6 ([]:List UInt8) 60 (zb.mk ([]:List UInt8) [] [] 0 0 0 false 0 (Expr.mk 0 0 ([]:List UInt8) ([]:List UInt8) []) (zg.mk 0 0 0 0) 0 0 0) (Expr.mk 0 0 ([]:List UInt8) ([]:List UInt8) []) [])).bind fun x3=>(Vw 3).bind fun x4=>(JQ (zu.mk [] [] [] [] [] [] [] 0) (zn.mk 2 t_a ([]:List UInt8) 0 (zb.mk ([]:List UInt8) [] [] 0 0 0 false 0 (Expr.mk 0 0 ([]:List UInt8) ([]:List UInt8) []) (zg.mk 0 0 0 0) 0 0 0) (Expr.mk x4.1 x4.2.1 x4.2.2.1 x4.2.2.2.1 x4.2.2.2.2) [])).bind fun x5=>(AA (zu.mk [] [] [] [] [] [] [] 0) (zu.mk x5.2.1 x5.2.2.1 x5.2.2.2.1 x5.2.2.2.2.1 x5.2.2.2.2.2.1 x5.2.2.2.2.2.2.1 x5.2.2.2.2.2.2.2.1 x5.2.2.2.2.2.2.2.2)).bind fun x6=>((bif (!(decide (((List.length x1.1:Nat):Int)=2)))then some true else(bif (!(decide (((List.length x6.1:Nat):Int)=1)))then some true else some (!(decide (((List.length x5.2.1:Nat):Int)=1)))))).bind fun x7=>(bif x7 then some false else((bif (decide (x1.2=0))then(bif (decide (x2.2=0))then(bif (decide (x3.1=4))then(bif (decide (x5.1=0))then(bif (decide (x6.2=0))then some (decide (x2.1=kq))else some false)else some false)else some false)else some false)else some false)).bind fun x8=>((idx x1.1 0).bind fun x10=>(Qp x10 (zn.mk 5 zo6 ([]:List UInt8) 60 (zb.mk ([]:List UInt8) [] [] 0 0 0 false 0 (Expr.mk 0 0 ([]:List UInt8) ([]:List UInt8) []) (zg.mk 0 0 0 0) 0 0 0) (Expr.mk 0 0 ([]:List UInt8) ([]:List UInt8) []) [])).bind fun x11=>(bif x11 then(idx x1.1 1).bind fun x12=>(Qp x12 (zn.mk 1 t_a ([]:List UInt8) 90 (zb.mk ([]:List UInt8) [] [] 0 0 0 false 0 (Expr.mk 0 0 ([]:List UInt8) ([]:List UInt8) []) (zg.mk 0 0 0 0) 0 0 0) (Expr.mk 0 0 ([]:List UInt8) ([]:List UInt8) []) [])).bind fun x13=>some x13 else some false)).bind fun x9=>(bif x8 then(bif x9 then(idx x6.1 0).bind fun x14=>(Vw 3).bind fun x15=>(Qp x14 (zn.mk 2 t_a ([]:List UInt8) 0 (zb.mk ([]:List UInt8) [] [] 0 0 0 false 0 (Expr.mk 0 0 ([]:List UInt8) ([]:List UInt8) []) (zg.mk 0 0 0 0) 0 0 0) (Expr.mk x15.1 x15.2.1 x15.2.2.1 x15.2.2.2.1 x15.2.2.2.2) [])).bind fun x16=>(bif x16 then(idx x6.1 0).bind fun x17=>(wY x17).bind fun x18=>(bif x18 then(idx x1.1 1).bind fun x19=>(idx x1.1 1).bind fun x20=>(Vy x19 x20).bind fun x21=>(bif x21 then(idx x1.1 0).bind fun x22=>(idx x1.1 1).bind fun x23=>(Vy x22 x23).bind fun x24=>(bif (!x24)then(idx x1.1 0).bind fun x25=>(idx x1.1 0).bind fun x26=>(wX x25 x26).bind fun x27=>some x27 else some false)else some false)else some false)else some false)else some false)else some false))
def xq(r_law_nodes:Expr→Int→Int→Option (Int))(c0:Int)(c1:Int)(c2:Int)(c3:Int)(c4:(List UInt8))(c5:(List UInt8))(c6:(List Expr)):Nat→(Int×Int)→Option (Int)
 |0,_=>none
 |K+1,q=>((bif (decide (q.2<((List.length c6:Nat):Int)))then some (decide (q.1≤c0))else some false)).bind fun x1=>(bif x1 then(idx c6 q.2).bind fun x2=>(r_law_nodes x2 (w64 (c0-q.1)) (w64 (c1-1))).bind fun x3=>xq r_law_nodes c0 c1 c2 c3 c4 c5 c6 K ((w64 (q.1+x3)),(w64 (q.2+1)))else some q.1)
def zW:Nat→Expr→Int→Int→Option (Int)
 |0,_,_,_=>none
 |RK+1,e,most,levels=>(bif (decide (levels<1))then some (w64 (most+1))else(xq (zW RK) most levels e.Op e.N e.S e.Key e.Args KK (1,0)).bind fun x1=>some x1)
def ka(r_:zb):Option (Bool) :=
 (zW KK (Expr.mk r_.Test.Op r_.Test.N r_.Test.S r_.Test.Key r_.Test.Args) 20 14).bind fun x1=>(bif (decide (x1≤20))then(bif (decide (((List.length r_.Zones:Nat):Int)≤6))then some (decide (((List.length r_.Except:Nat):Int)≤6))else some false)else some false)
def w6(c0:(List Def))(c1:(List Table))(c2:(List zm))(c3:(List zb))(c4:(List Cap))(c5:(List View))(c6:(List zj))(c7:Int):Nat→(Int)→Option ((Bool)⊕(Unit))
 |0,_=>none
 |K+1,q=>(bif (decide (q<((List.length c0:Nat):Int)))then(idx c0 q).bind fun x1=>(zW KK x1.Body 20 14).bind fun x2=>(bif (decide (x2>20))then some (Sum.inl false)else w6 c0 c1 c2 c3 c4 c5 c6 c7 K (w64 (q+1)))else some (Sum.inr ()))
def w7(c0:(List Def))(c1:(List Table))(c2:(List zm))(c3:(List zb))(c4:(List Cap))(c5:(List View))(c6:(List zj))(c7:Int):Nat→(Int)→Option ((Bool)⊕(Unit))
 |0,_=>none
 |K+1,q=>(bif (decide (q<((List.length c1:Nat):Int)))then(idx c1 q).bind fun x1=>(bif (decide (((List.length x1.Rows:Nat):Int)>6))then some (Sum.inl false)else w7 c0 c1 c2 c3 c4 c5 c6 c7 K (w64 (q+1)))else some (Sum.inr ()))
def w8(c0:(List Def))(c1:(List Table))(c2:(List zm))(c3:(List zb))(c4:(List Cap))(c5:(List View))(c6:(List zj))(c7:Int):Nat→(Int)→Option ((Bool)⊕(Unit))
 |0,_=>none
 |K+1,q=>(bif (decide (q<((List.length c2:Nat):Int)))then(idx c2 q).bind fun x1=>(bif (decide (((List.length x1.Corners:Nat):Int)>12))then some (Sum.inl false)else w8 c0 c1 c2 c3 c4 c5 c6 c7 K (w64 (q+1)))else some (Sum.inr ()))
def w9(c0:(List Def))(c1:(List Table))(c2:(List zm))(c3:(List zb))(c4:(List Cap))(c5:(List View))(c6:(List zj))(c7:Int):Nat→(Int)→Option ((Bool)⊕(Unit))
 |0,_=>none
 |K+1,q=>(bif (decide (q<((List.length c3:Nat):Int)))then(idx c3 q).bind fun x1=>(ka x1).bind fun x2=>(bif (!x2)then some (Sum.inl false)else w9 c0 c1 c2 c3 c4 c5 c6 c7 K (w64 (q+1)))else some (Sum.inr ()))
def vb(c0:(List Def))(c1:(List Table))(c2:(List zm))(c3:(List zb))(c4:(List Cap))(c5:(List View))(c6:(List zj))(c7:Int):Nat→(Int)→Option ((Bool)⊕(Unit))
 |0,_=>none
 |K+1,q=>(bif (decide (q<((List.length c4:Nat):Int)))then(idx c4 q).bind fun x1=>(bif (decide (((List.length x1.Corners:Nat):Int)>12))then some (Sum.inl false)else vb c0 c1 c2 c3 c4 c5 c6 c7 K (w64 (q+1)))else some (Sum.inr ()))
def vc(c0:(List Def))(c1:(List Table))(c2:(List zm))(c3:(List zb))(c4:(List Cap))(c5:(List View))(c6:(List zj))(c7:Int):Nat→(Int)→Option ((Bool)⊕(Unit))
 |0,_=>none
 |K+1,q=>(bif (decide (q<((List.length c5:Nat):Int)))then(idx c5 q).bind fun x1=>(bif (decide (((List.length x1.Targets:Nat):Int)>6))then some (Sum.inl false)else vc c0 c1 c2 c3 c4 c5 c6 c7 K (w64 (q+1)))else some (Sum.inr ()))
def AB(p:zu):Option (Bool) :=
 ((bif (decide (((List.length p.Defs:Nat):Int)>5))then some true else(bif (decide (((List.length p.Tables:Nat):Int)>5))then some true else(bif (decide (((List.length p.Zones:Nat):Int)>5))then some true else(bif (decide (((List.length p.Rules:Nat):Int)>5))then some true else(bif (decide (((List.length p.Caps:Nat):Int)>5))then some true else(bif (decide (((List.length p.Views:Nat):Int)>5))then some true else some (decide (((List.length p.Sun:Nat):Int)>5))))))))).bind fun x1=>(bif x1 then some false else(w6 p.Defs p.Tables p.Zones p.Rules p.Caps p.Views p.Sun p.Hours KK 0).bind (yj some fun _=>(w7 p.Defs p.Tables p.Zones p.Rules p.Caps p.Views p.Sun p.Hours KK 0).bind (yj some fun _=>(w8 p.Defs p.Tables p.Zones p.Rules p.Caps p.Views p.Sun p.Hours KK 0).bind (yj some fun _=>(w9 p.Defs p.Tables p.Zones p.Rules p.Caps p.Views p.Sun p.Hours KK 0).bind (yj some fun _=>(vb p.Defs p.Tables p.Zones p.Rules p.Caps p.Views p.Sun p.Hours KK 0).bind (yj some fun _=>(vc p.Defs p.Tables p.Zones p.Rules p.Caps p.Views p.Sun p.Hours KK 0).bind (yj some fun _=>some true)))))))
def wL(c0:(List zn)):Nat→(Int)→Option ((Bool)⊕(Unit))
 |0,_=>none
 |K+1,q=>((bif (decide (q<((List.length c0:Nat):Int)))then some (decide (q<7))else some false)).bind fun x1=>(bif x1 then((idx c0 q).bind fun x3=>(ka x3.zb).bind fun x4=>(bif (!x4)then some true else(idx c0 q).bind fun x5=>(zW KK x5.Body 20 14).bind fun x6=>(bif (decide (x6>20))then some true else(idx c0 q).bind fun x7=>some (decide (((List.length x7.Corners:Nat):Int)>12))))).bind fun x2=>(bif x2 then some (Sum.inl false)else wL c0 K (w64 (q+1)))else some (Sum.inr ()))
def Jd(l:(List zn)):Option (Bool) :=
 (wL l KK 0).bind (yj some fun _=>some (decide (((List.length l:Nat):Int)≤6)))
def zS(c0:Bool)(c1:(List zn))(c2:(List Def))(c3:(List Table))(c4:(List zm))(c5:(List zb))(c6:(List Cap))(c7:(List View))(c8:(List zj))(c9:Int)(c10:(List Def))(c11:(List Table))(c12:(List zm))(c13:(List zb))(c14:(List Cap))(c15:(List View))(c16:(List zj))(c17:Int):Nat→(Int)→Option ((Bool)⊕(Unit))
 |0,_=>none
 |K+1,q=>(bif (decide (q<((List.length c1:Nat):Int)))then(cut c1 0 q).bind fun x1=>(grd (List.length (([]:List zn)++x1)*376≤140737488355328)).bind fun _=>(cut c1 (w64 (q+1)) ((List.length c1:Nat):Int)).bind fun x3=>(grd (List.length ((([]:List zn)++x1)++x3)*376≤140737488355328)).bind fun _=>(wm (zu.mk c2 c3 c4 c5 c6 c7 c8 c9) ((([]:List zn)++x1)++x3)).bind fun x5=>((bif (decide (x5.1=0))then(kU (zu.mk x5.2.1 x5.2.2.1 x5.2.2.2.1 x5.2.2.2.2.1 x5.2.2.2.2.2.1 x5.2.2.2.2.2.2.1 x5.2.2.2.2.2.2.2.1 x5.2.2.2.2.2.2.2.2) (zu.mk c10 c11 c12 c13 c14 c15 c16 c17)).bind fun x7=>some x7 else some false)).bind fun x6=>(bif x6 then some (Sum.inl false)else zS c0 c1 c2 c3 c4 c5 c6 c7 c8 c9 c10 c11 c12 c13 c14 c15 c16 c17 K (w64 (q+1)))else some (Sum.inr ()))
def vd(p:zu)(l:(List zn)):Option (Bool) :=
 (uu).bind fun x1=>((AB p).bind fun x3=>(bif (!x3)then some true else(Jd l).bind fun x4=>some (!x4))).bind fun x2=>(bif x2 then some x1 else(wm p l).bind fun x5=>(bif (!(decide (x5.1=0)))then(bif x1 then(kU (zu.mk x5.2.1 x5.2.2.1 x5.2.2.2.1 x5.2.2.2.2.1 x5.2.2.2.2.2.1 x5.2.2.2.2.2.2.1 x5.2.2.2.2.2.2.2.1 x5.2.2.2.2.2.2.2.2) (zu.mk [] [] [] [] [] [] [] 0)).bind fun x6=>some x6 else some false)else(AA p (zu.mk x5.2.1 x5.2.2.1 x5.2.2.2.1 x5.2.2.2.2.1 x5.2.2.2.2.2.1 x5.2.2.2.2.2.2.1 x5.2.2.2.2.2.2.2.1 x5.2.2.2.2.2.2.2.2)).bind fun x7=>(wm p x7.1).bind fun x8=>((bif (!(decide (x7.2=0)))then some true else(bif (!(decide (x8.1=0)))then some true else(bif (decide (((List.length x7.1:Nat):Int)>((List.length l:Nat):Int)))then some true else(kU (zu.mk x8.2.1 x8.2.2.1 x8.2.2.2.1 x8.2.2.2.2.1 x8.2.2.2.2.2.1 x8.2.2.2.2.2.2.1 x8.2.2.2.2.2.2.2.1 x8.2.2.2.2.2.2.2.2) (zu.mk x5.2.1 x5.2.2.1 x5.2.2.2.1 x5.2.2.2.2.1 x5.2.2.2.2.2.1 x5.2.2.2.2.2.2.1 x5.2.2.2.2.2.2.2.1 x5.2.2.2.2.2.2.2.2)).bind fun x10=>(bif (!x10)then some true else(qg (zu.mk x5.2.1 x5.2.2.1 x5.2.2.2.1 x5.2.2.2.2.1 x5.2.2.2.2.2.1 x5.2.2.2.2.2.2.1 x5.2.2.2.2.2.2.2.1 x5.2.2.2.2.2.2.2.2)).bind fun x11=>some (!x11)))))).bind fun x9=>(bif x9 then some false else(zS x1 x7.1 p.Defs p.Tables p.Zones p.Rules p.Caps p.Views p.Sun p.Hours x5.2.1 x5.2.2.1 x5.2.2.2.1 x5.2.2.2.2.1 x5.2.2.2.2.2.1 x5.2.2.2.2.2.2.1 x5.2.2.2.2.2.2.2.1 x5.2.2.2.2.2.2.2.2 KK 0).bind (yj some fun _=>some x1))))
end Go.Proofs.YthnokpghgeppdaaGreatDoor
