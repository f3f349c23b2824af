/- texts that the proof reaches, part 8 -/
import Derived.Test.YthnokpghgeppdaaGreatDoorKg
set_option linter.all false
set_option maxRecDepth 100000
namespace Go.Proofs.YthnokpghgeppdaaGreatDoor
open Go Go.RowKit Go.Eng Go.EV Go.EQ
structure Expr where
 Op:Int
 N:Int
 S:(List UInt8)
 Key:(List UInt8)
 Args:(List Expr)
instance:Inhabited Expr:=⟨⟨0,0,[],[],[]⟩⟩
mutual
def Q8:Expr→List V
 |⟨a0,a1,a2,a3,a4⟩=>[.int .i64 a0,.int .i64 a1,.str a2,.str a3,.vs 5 (yZ a4)]
def yZ:List Expr→List (List V)
 |[]=>[]
 |x::r=>Q8 x::yZ r
end
def kM(x:Expr):List V:=[.int .i64 x.Op,.int .i64 x.N,.str x.S,.str x.Key,.vs 5 (yZ x.Args)]
theorem zb2(x:Expr):Q8 x=kM x:=by cases x;rw[Q8];rfl
theorem oe:∀l:List Expr,yZ l=l.map kM
 |[]=>by rw[yZ];rfl
 |x::r=>by rw[yZ,zb2,oe r];rfl
structure Def where
 Name:(List UInt8)
 Body:Expr
 deriving Inhabited
def Q9(x:Def):List V:=[.str x.Name,.int .i64 x.Body.Op,.int .i64 x.Body.N,.str x.Body.S,.str x.Body.Key,.vs 5 (yZ x.Body.Args)]
structure Entry where
 Name:(List UInt8)
 N:Int
 deriving Inhabited,DecidableEq
def og(x:Entry):List V:=[.str x.Name,.int .i64 x.N]
structure Table where
 Name:(List UInt8)
 Rows:(List Entry)
 Else:Int
 deriving Inhabited,DecidableEq
def oi(x:Table):List V:=[.str x.Name,.vs 2 (List.map og x.Rows),.int .i64 x.Else]
structure zu where
 X:Int
 Y:Int
 deriving Inhabited,DecidableEq
def kg(x:zu):List V:=[.int .i64 x.X,.int .i64 x.Y]
structure zr where
 Name:(List UInt8)
 Overlay:Bool
 Corners:(List zu)
 deriving Inhabited,DecidableEq
def Jf(x:zr):List V:=[.str x.Name,.bool x.Overlay,.vs 2 (List.map kg x.Corners)]
structure zg where
 Side:Int
 Base:Int
 Num:Int
 Den:Int
 deriving Inhabited,DecidableEq
def Va(x:zg):List V:=[.int .i64 x.Side,.int .i64 x.Base,.int .i64 x.Num,.int .i64 x.Den]
structure zb where
 Name:(List UInt8)
 Zones:(List (List UInt8))
 Except:(List (List UInt8))
 From:Int
 Until:Int
 Grace:Int
 Vary:Bool
 Kind:Int
 Test:Expr
 zg:zg
 Uses:Int
 Other:Int
 N:Int
 deriving Inhabited
def Jg(x:zb):List V:=[.str x.Name,.vs 1 (List.map EV.zzh x.Zones),.vs 1 (List.map EV.zzh x.Except),.int .i64 x.From,.int .i64 x.Until,.int .i64 x.Grace,.bool x.Vary,.int .i64 x.Kind,.int .i64 x.Test.Op,.int .i64 x.Test.N,.str x.Test.S,.str x.Test.Key,.vs 5 (yZ x.Test.Args),.int .i64 x.zg.Side,.int .i64 x.zg.Base,.int .i64 x.zg.Num,.int .i64 x.zg.Den,.int .i64 x.Uses,.int .i64 x.Other,.int .i64 x.N]
structure Cap where
 Name:(List UInt8)
 Load:Int
 Limit:Int
 Corners:(List zu)
 deriving Inhabited,DecidableEq
def Vb(x:Cap):List V:=[.str x.Name,.int .i64 x.Load,.int .i64 x.Limit,.vs 2 (List.map kg x.Corners)]
structure zj where
 X:Int
 Y:Int
 Z_:Int
 deriving Inhabited,DecidableEq
def jN(x:zj):List V:=[.int .i64 x.X,.int .i64 x.Y,.int .i64 x.Z_]
structure View where
 Name:(List UInt8)
 Eye:zj
 Least:Int
 Targets:(List zj)
 deriving Inhabited,DecidableEq
def Jh(x:View):List V:=[.str x.Name,.int .i64 x.Eye.X,.int .i64 x.Eye.Y,.int .i64 x.Eye.Z_,.int .i64 x.Least,.vs 3 (List.map jN x.Targets)]
structure Token where
 Kind:Int
 Text:(List UInt8)
 N:Int
 Pos:Int
 deriving Inhabited,DecidableEq
def zb3(x:Token):List V:=[.int .i64 x.Kind,.str x.Text,.int .i64 x.N,.int .i64 x.Pos]
structure zK where
 Defs:(List Def)
 Tables:(List Table)
 Zones:(List zr)
 Rules:(List zb)
 Caps:(List Cap)
 Views:(List View)
 Sun:(List zj)
 Hours:Int
 deriving Inhabited
def Ab(x:zK):List V:=[.vs 6 (List.map Q9 x.Defs),.vs 3 (List.map oi x.Tables),.vs 3 (List.map Jf x.Zones),.vs 20 (List.map Jg x.Rules),.vs 4 (List.map Vb x.Caps),.vs 6 (List.map Jh x.Views),.vs 3 (List.map jN x.Sun),.int .i64 x.Hours]
structure zq where
 Kind:Int
 Name:(List UInt8)
 Key:(List UInt8)
 N:Int
 zb:zb
 Body:Expr
 Corners:(List zu)
 deriving Inhabited
def kN(x:zq):List V:=[.int .i64 x.Kind,.str x.Name,.str x.Key,.int .i64 x.N,.str x.zb.Name,.vs 1 (List.map EV.zzh x.zb.Zones),.vs 1 (List.map EV.zzh x.zb.Except),.int .i64 x.zb.From,.int .i64 x.zb.Until,.int .i64 x.zb.Grace,.bool x.zb.Vary,.int .i64 x.zb.Kind,.int .i64 x.zb.Test.Op,.int .i64 x.zb.Test.N,.str x.zb.Test.S,.str x.zb.Test.Key,.vs 5 (yZ x.zb.Test.Args),.int .i64 x.zb.zg.Side,.int .i64 x.zb.zg.Base,.int .i64 x.zb.zg.Num,.int .i64 x.zb.zg.Den,.int .i64 x.zb.Uses,.int .i64 x.zb.Other,.int .i64 x.zb.N,.int .i64 x.Body.Op,.int .i64 x.Body.N,.str x.Body.S,.str x.Body.Key,.vs 5 (yZ x.Body.Args),.vs 2 (List.map kg x.Corners)]
structure zl where
 a:zu
 b:zu
 deriving Inhabited,DecidableEq
def uA(x:zl):List V:=[.int .i64 x.a.X,.int .i64 x.a.Y,.int .i64 x.b.X,.int .i64 x.b.Y]
structure EB where
 k:Int
 n:(List UInt8)
 y:(List UInt8)
 m:Int
 r0:(List UInt8)
 r1:(List (List UInt8))
 r2:(List (List UInt8))
 r3:Int
 r4:Int
 r5:Int
 r6:Bool
 r7:Int
 r8:Int
 r9:Int
 r10:(List UInt8)
 r11:(List UInt8)
 r12:(List Expr)
 r13:Int
 r14:Int
 r15:Int
 r16:Int
 r17:Int
 r18:Int
 r19:Int
 b0:Int
 b1:Int
 b2:(List UInt8)
 b3:(List UInt8)
 b4:(List Expr)
 c:(List zu)
def kE(x:Int×(List UInt8)×(List UInt8)×Int×(List UInt8)×(List (List UInt8))×(List (List UInt8))×Int×Int×Int×Bool×Int×Int×Int×(List UInt8)×(List UInt8)×(List Expr)×Int×Int×Int×Int×Int×Int×Int×Int×Int×(List UInt8)×(List UInt8)×(List Expr)×(List zu)):EB:=⟨x.1,x.2.1,x.2.2.1,x.2.2.2.1,x.2.2.2.2.1,x.2.2.2.2.2.1,x.2.2.2.2.2.2.1,x.2.2.2.2.2.2.2.1,x.2.2.2.2.2.2.2.2.1,x.2.2.2.2.2.2.2.2.2.1,x.2.2.2.2.2.2.2.2.2.2.1,x.2.2.2.2.2.2.2.2.2.2.2.1,x.2.2.2.2.2.2.2.2.2.2.2.2.1,x.2.2.2.2.2.2.2.2.2.2.2.2.2.1,x.2.2.2.2.2.2.2.2.2.2.2.2.2.2.1,x.2.2.2.2.2.2.2.2.2.2.2.2.2.2.2.1,x.2.2.2.2.2.2.2.2.2.2.2.2.2.2.2.2.1,x.2.2.2.2.2.2.2.2.2.2.2.2.2.2.2.2.2.1,x.2.2.2.2.2.2.2.2.2.2.2.2.2.2.2.2.2.2.1,x.2.2.2.2.2.2.2.2.2.2.2.2.2.2.2.2.2.2.2.1,x.2.2.2.2.2.2.2.2.2.2.2.2.2.2.2.2.2.2.2.2.1,x.2.2.2.2.2.2.2.2.2.2.2.2.2.2.2.2.2.2.2.2.2.1,x.2.2.2.2.2.2.2.2.2.2.2.2.2.2.2.2.2.2.2.2.2.2.1,x.2.2.2.2.2.2.2.2.2.2.2.2.2.2.2.2.2.2.2.2.2.2.2.1,x.2.2.2.2.2.2.2.2.2.2.2.2.2.2.2.2.2.2.2.2.2.2.2.2.1,x.2.2.2.2.2.2.2.2.2.2.2.2.2.2.2.2.2.2.2.2.2.2.2.2.2.1,x.2.2.2.2.2.2.2.2.2.2.2.2.2.2.2.2.2.2.2.2.2.2.2.2.2.2.1,x.2.2.2.2.2.2.2.2.2.2.2.2.2.2.2.2.2.2.2.2.2.2.2.2.2.2.2.1,x.2.2.2.2.2.2.2.2.2.2.2.2.2.2.2.2.2.2.2.2.2.2.2.2.2.2.2.2.1,x.2.2.2.2.2.2.2.2.2.2.2.2.2.2.2.2.2.2.2.2.2.2.2.2.2.2.2.2.2⟩
def zul{R:Type}(x:Int×(List UInt8)×(List UInt8)×Int×(List UInt8)×(List (List UInt8))×(List (List UInt8))×Int×Int×Int×Bool×Int×Int×Int×(List UInt8)×(List UInt8)×(List Expr)×Int×Int×Int×Int×Int×Int×Int×Int×Int×(List UInt8)×(List UInt8)×(List Expr)×(List zu)×R):EB:=⟨x.1,x.2.1,x.2.2.1,x.2.2.2.1,x.2.2.2.2.1,x.2.2.2.2.2.1,x.2.2.2.2.2.2.1,x.2.2.2.2.2.2.2.1,x.2.2.2.2.2.2.2.2.1,x.2.2.2.2.2.2.2.2.2.1,x.2.2.2.2.2.2.2.2.2.2.1,x.2.2.2.2.2.2.2.2.2.2.2.1,x.2.2.2.2.2.2.2.2.2.2.2.2.1,x.2.2.2.2.2.2.2.2.2.2.2.2.2.1,x.2.2.2.2.2.2.2.2.2.2.2.2.2.2.1,x.2.2.2.2.2.2.2.2.2.2.2.2.2.2.2.1,x.2.2.2.2.2.2.2.2.2.2.2.2.2.2.2.2.1,x.2.2.2.2.2.2.2.2.2.2.2.2.2.2.2.2.2.1,x.2.2.2.2.2.2.2.2.2.2.2.2.2.2.2.2.2.2.1,x.2.2.2.2.2.2.2.2.2.2.2.2.2.2.2.2.2.2.2.1,x.2.2.2.2.2.2.2.2.2.2.2.2.2.2.2.2.2.2.2.2.1,x.2.2.2.2.2.2.2.2.2.2.2.2.2.2.2.2.2.2.2.2.2.1,x.2.2.2.2.2.2.2.2.2.2.2.2.2.2.2.2.2.2.2.2.2.2.1,x.2.2.2.2.2.2.2.2.2.2.2.2.2.2.2.2.2.2.2.2.2.2.2.1,x.2.2.2.2.2.2.2.2.2.2.2.2.2.2.2.2.2.2.2.2.2.2.2.2.1,x.2.2.2.2.2.2.2.2.2.2.2.2.2.2.2.2.2.2.2.2.2.2.2.2.2.1,x.2.2.2.2.2.2.2.2.2.2.2.2.2.2.2.2.2.2.2.2.2.2.2.2.2.2.1,x.2.2.2.2.2.2.2.2.2.2.2.2.2.2.2.2.2.2.2.2.2.2.2.2.2.2.2.1,x.2.2.2.2.2.2.2.2.2.2.2.2.2.2.2.2.2.2.2.2.2.2.2.2.2.2.2.2.1,x.2.2.2.2.2.2.2.2.2.2.2.2.2.2.2.2.2.2.2.2.2.2.2.2.2.2.2.2.2.1⟩
def rEB{R:Type}(x:Int×(List UInt8)×(List UInt8)×Int×(List UInt8)×(List (List UInt8))×(List (List UInt8))×Int×Int×Int×Bool×Int×Int×Int×(List UInt8)×(List UInt8)×(List Expr)×Int×Int×Int×Int×Int×Int×Int×Int×Int×(List UInt8)×(List UInt8)×(List Expr)×(List zu)×R):R:=x.2.2.2.2.2.2.2.2.2.2.2.2.2.2.2.2.2.2.2.2.2.2.2.2.2.2.2.2.2.2
structure RB where
 r0:(List UInt8)
 r1:(List (List UInt8))
 r2:(List (List UInt8))
 r3:Int
 r4:Int
 r5:Int
 r6:Bool
 r7:Int
 r8:Int
 r9:Int
 r10:(List UInt8)
 r11:(List UInt8)
 r12:(List Expr)
 r13:Int
 r14:Int
 r15:Int
 r16:Int
 r17:Int
 r18:Int
 r19:Int
def zxo(x:(List UInt8)×(List (List UInt8))×(List (List UInt8))×Int×Int×Int×Bool×Int×Int×Int×(List UInt8)×(List UInt8)×(List Expr)×Int×Int×Int×Int×Int×Int×Int):RB:=⟨x.1,x.2.1,x.2.2.1,x.2.2.2.1,x.2.2.2.2.1,x.2.2.2.2.2.1,x.2.2.2.2.2.2.1,x.2.2.2.2.2.2.2.1,x.2.2.2.2.2.2.2.2.1,x.2.2.2.2.2.2.2.2.2.1,x.2.2.2.2.2.2.2.2.2.2.1,x.2.2.2.2.2.2.2.2.2.2.2.1,x.2.2.2.2.2.2.2.2.2.2.2.2.1,x.2.2.2.2.2.2.2.2.2.2.2.2.2.1,x.2.2.2.2.2.2.2.2.2.2.2.2.2.2.1,x.2.2.2.2.2.2.2.2.2.2.2.2.2.2.2.1,x.2.2.2.2.2.2.2.2.2.2.2.2.2.2.2.2.1,x.2.2.2.2.2.2.2.2.2.2.2.2.2.2.2.2.2.1,x.2.2.2.2.2.2.2.2.2.2.2.2.2.2.2.2.2.2.1,x.2.2.2.2.2.2.2.2.2.2.2.2.2.2.2.2.2.2.2⟩
def t_0:List UInt8:=[48]
def t__:List UInt8:=[32]
def ze:List UInt8:=[32,97,110,100,32,97,112,97,114,116,32,98,97,115,101,32,99,97,112,32,100,101,102,105,110,101,32,101,108,115,101,32,101,120,99,101,112,116,32,102,114,111,109,32,103,114,97,99,101,32,104,111,117,114,115,32,105,102,32,105,110,32,108,101,97,115,116,32,110,111,116,32,111,114,32,111,118,101,114,108,97,121,32,112,108,97,110,101,32,114,117,108,101,32,115,108,111,112,101,32,115,117,110,32,116,97,98,108,101,32,116,104,101,110,32,117,110,116,105,108,32,117,115,101,115,32,118,97,114,121,32,118,105,101,119,32,122,111,110,101,32]
def qv:List UInt8:=[32,59,10]
def t_a:List UInt8:=[97]
def ZG:List UInt8:=[100,101,102,105,110,101]
def zkl:List UInt8:=[101,110,100]
def zb4:List UInt8:=[101,110,100,32]
def zA7:List UInt8:=[104,111,109,101]
def Kc:List UInt8:=[108,105,109,105,116]
def Ji:List UInt8:=[108,105,109,105,116,32]
def w7:List UInt8:=[108,105,109,105,116,32,114,111,97,100,115,32,54,48,59,32,101,110,100,32,97,32,57,48,59]
def zb5:List UInt8:=[111,118,101,114,108,97,121]
def zoo:List UInt8:=[114,111,97,100,115]
def zkm:List UInt8:=[114,111,119]
def Vc:List UInt8:=[114,111,119,32]
def kh:List UInt8:=[114,111,119,32,116,114,97,102,102,105,99,32,104,111,109,101,32,53,32,59,10]
def W8:List UInt8:=[114,117,108,101]
def zop:List UInt8:=[116,114,97,102,102,105,99]
def t_x25:List UInt8:=[37]
def t_x28:List UInt8:=[40]
def t_x29:List UInt8:=[41]
def t_x2a:List UInt8:=[42]
def t_x2b:List UInt8:=[43]
def t_x2c:List UInt8:=[44]
def zxp:List UInt8:=[45]
def zA8:List UInt8:=[45,32]
def t_x2f:List UInt8:=[47]
def t_x3a:List UInt8:=[58]
def zA9:List UInt8:=[59]
def t_x3c:List UInt8:=[60]
def zs3:List UInt8:=[60,61]
def t_x3d:List UInt8:=[61]
def zs4:List UInt8:=[61,61]
def zoq:List UInt8:=[122,111,110,101]
variable[Fuel]
def zb6(c_:Int):Option (Bool) :=
 (bif (decide (c_=32))then some true else(bif (decide (c_=9))then some true else some (decide (c_=10))))
def Hf(c0:(List UInt8)):Nat→(Int)→Option (Int)
 |0,_=>none
 |K+1,q=>((bif (decide (q<((List.length c0:Nat):Int)))then(idx c0 q).bind fun x2=>(zb6 ((x2.toNat:Nat):Int)).bind fun x3=>some x3 else some false)).bind fun x1=>(bif x1 then Hf c0 K (w64 (q+1))else some q)
def zhz(s:(List UInt8)):Option (Int) :=
 (Hf s KK 0).bind fun x1=>some x1
def w8(c_:Int):Option (Bool) :=
 (bif (decide (c_≥97))then some (decide (c_≤122))else some false)
def kj(c_:Int):Option (Bool) :=
 (bif (decide (c_≥48))then some (decide (c_≤57))else some false)
def W9(c_:Int):Option (Bool) :=
 (w8 c_).bind fun x1=>(bif x1 then some true else(kj c_).bind fun x2=>some x2)
def q9(c0:(List UInt8)):Nat→(Int)→Option (Int)
 |0,_=>none
 |K+1,q=>((bif (decide (q<((List.length c0:Nat):Int)))then(idx c0 q).bind fun x2=>(W9 ((x2.toNat:Nat):Int)).bind fun x3=>some x3 else some false)).bind fun x1=>(bif x1 then q9 c0 K (w64 (q+1))else some q)
def Ya(s:(List UInt8)):Option (Int) :=
 (q9 s KK 0).bind fun x1=>some x1
def qw(c_:Int):Option (Bool) :=
 (w8 c_).bind fun x1=>(bif x1 then some true else(kj c_).bind fun x2=>some x2)
def jz(c0:(List UInt8)):Nat→(Int)→Option (Int)
 |0,_=>none
 |K+1,q=>((bif (decide (q<((List.length c0:Nat):Int)))then(idx c0 q).bind fun x2=>(qw ((x2.toNat:Nat):Int)).bind fun x3=>some x3 else some false)).bind fun x1=>(bif x1 then jz c0 K (w64 (q+1))else some q)
def Ac(s:(List UInt8)):Option (Int) :=
 (jz s KK 0).bind fun x1=>some x1
def ua(s:(List UInt8)):Option (Bool) :=
 ((bif (decide (s=([]:List UInt8)))then some true else(idx s 0).bind fun x2=>(w8 ((x2.toNat:Nat):Int)).bind fun x3=>(bif (!x3)then some true else some (decide (((List.length s:Nat):Int)>20))))).bind fun x1=>(bif x1 then some false else(Ac s).bind fun x4=>some (decide (x4=((List.length s:Nat):Int))))
def ub(c0:(List UInt8)):Nat→(Int)→Option (Int)
 |0,_=>none
 |K+1,q=>((bif (decide (q<((List.length c0:Nat):Int)))then(idx c0 q).bind fun x2=>(kj ((x2.toNat:Nat):Int)).bind fun x3=>some x3 else some false)).bind fun x1=>(bif x1 then ub c0 K (w64 (q+1))else some q)
def Kd(s:(List UInt8)):Option (Int) :=
 (ub s KK 0).bind fun x1=>some x1
def uc(c0:(List UInt8))(c1:Int):Nat→(Int×Int)→Option (Int)
 |0,_=>none
 |K+1,q=>(bif (decide (q.2<c1))then(idx c0 q.2).bind fun x1=>uc c0 c1 K ((w64 ((w64 (10*q.1))+(w64 ((IntKind.u8.wrap (((x1.toNat:Nat):Int)-48)))))),(w64 (q.2+1)))else some q.1)
def Yb(s:(List UInt8)):Option (Int×Bool) :=
 ((bif (decide (s=([]:List UInt8)))then some true else(Kd s).bind fun x2=>(bif (!(decide (x2=((List.length s:Nat):Int))))then some true else(idx s 0).bind fun x3=>(bif (decide (((x3.toNat:Nat):Int)=48))then(bif (!(decide (s=t_0)))then some true else some (decide (((List.length s:Nat):Int)>13)))else some (decide (((List.length s:Nat):Int)>13)))))).bind fun x1=>(bif x1 then some (0,false)else(uc s ((List.length s:Nat):Int) KK (0,0)).bind fun x4=>(bif (decide (x4>1099511627776))then some (0,false)else some (x4,true)))
def Vd(a0:(List UInt8))(a1:(List UInt8)):Option (Bool):=Q5 a0 a1
def Hg(c0:(List UInt8))(c1:(List UInt8))(c2:(List UInt8))(c3:(List UInt8))(c4:(List UInt8))(c5:(List UInt8))(c6:(List UInt8))(c7:(List UInt8))(c8:(List UInt8))(c9:(List UInt8))(c10:(List UInt8))(c11:(List UInt8))(c12:(List UInt8))(c13:(List UInt8))(c14:(List UInt8))(c15:Int)(c16:(List UInt8)):Nat→(Int)→Option ((Int×Int×(List UInt8)×Int×Int)⊕(Unit))
 |0,_=>none
 |K+1,q=>(bif (decide (q<14))then(idx (α:=List UInt8) ([c1,c2,c3,c4,c5,c6,c7,c8,c9,c10,c11,c12,c13,c14]:List (List UInt8)) q).bind fun x1=>(Vd c0 x1).bind fun x2=>(bif x2 then some (Sum.inl (0,2,x1,0,0))else Hg c0 c1 c2 c3 c4 c5 c6 c7 c8 c9 c10 c11 c12 c13 c14 c15 c16 K (w64 (q+1)))else some (Sum.inr ()))
def zh0(s:(List UInt8)):Option (Int×Int×(List UInt8)×Int×Int) :=
 (idx s 0).bind fun x1=>(w8 ((x1.toNat:Nat):Int)).bind fun x2=>(bif x2 then(Ya s).bind fun x3=>(cut s 0 x3).bind fun x4=>(ua x4).bind fun x5=>(bif (!x5)then some (15,0,([]:List UInt8),0,0)else some (0,0,x4,0,0))else(idx s 0).bind fun x6=>(kj ((x6.toNat:Nat):Int)).bind fun x7=>(bif x7 then(Kd s).bind fun x8=>(cut s 0 x8).bind fun x9=>(Yb x9).bind fun x10=>(bif (!x10.2)then some (3,0,([]:List UInt8),0,0)else some (0,1,x9,x10.1,0))else(Hg s zs3 zs4 zA9 t_x2c t_x3a t_x3d t_x3c t_x2b zxp t_x2a t_x2f t_x25 t_x28 t_x29 0 ([]:List UInt8) KK 0).bind (z8 some fun _=>some (13,0,([]:List UInt8),0,0))))
def Ke(c0:(List UInt8)):Nat→(Int×(List Token))→Option (((List Token)×Int×Int)⊕(Unit))
 |0,_=>none
 |K+1,q=>(cut c0 q.1 ((List.length c0:Nat):Int)).bind fun x1=>(zhz x1).bind fun x2=>(bif (decide ((w64 (q.1+x2))=((List.length c0:Nat):Int)))then(grd (List.length (q.2++([(Token.mk 3 ([]:List UInt8) 0 (w64 (q.1+x2)))]:List Token))*40≤140737488355328)).bind fun _=>some (Sum.inl ((q.2++([(Token.mk 3 ([]:List UInt8) 0 (w64 (q.1+x2)))]:List Token)),0,0))else(cut c0 (w64 (q.1+x2)) ((List.length c0:Nat):Int)).bind fun x4=>(zh0 x4).bind fun x5=>(bif (!(decide (x5.1=0)))then some (Sum.inl ([],(w64 (q.1+x2)),x5.1))else(grd (List.length (q.2++([(Token.mk x5.2.1 x5.2.2.1 x5.2.2.2.1 (w64 (q.1+x2)))]:List Token))*40≤140737488355328)).bind fun _=>Ke c0 K ((w64 ((w64 (q.1+x2))+((List.length x5.2.2.1:Nat):Int))),(q.2++([(Token.mk x5.2.1 x5.2.2.1 x5.2.2.2.1 (w64 (q.1+x2)))]:List Token)))))
def zor(s:(List UInt8)):Option ((List Token)×Int×Int) :=
 (bif (decide (((List.length s:Nat):Int)>8000))then some ([],0,6)else(Ke s KK (0,[])).bind (z8 some fun _=>none))
def AA(s:(List Token)):Option ((List Token)) :=
 (grd (List.length (([]:List Token)++s)*40≤140737488355328)).bind fun _=>some (([]:List Token)++s)
def Ad(a0:(List UInt8))(a1:(List UInt8)):Option (Bool):=Aa a0 a1
def Jj(s:(List UInt8)):Option (Bool) :=
 (ua s).bind fun x1=>(bif x1 then(grd (List.length t__+List.length s≤9223372036854775807)).bind fun _=>(grd (List.length (t__++s)+List.length t__≤9223372036854775807)).bind fun _=>(Ad ze ((t__++s)++t__)).bind fun x4=>some (!x4)else some false)
def Hh(c0:(List Token))(c1:Int)(c2:Int)(c3:Int)(c4:(List Token))(c5:Int)(c6:(List UInt8))(c7:(List (List UInt8)))(c8:Bool)(c9:(List Expr))(c10:(List zu)):Nat→(Int×Int×Int×Int×Int×Int×Int×Int×Int×Int×Int×Int×Int×Int×Int×Int×Int×Int)→Option ((Int×Int×(List UInt8)×(List UInt8)×Int×(List UInt8)×(List (List UInt8))×(List (List UInt8))×Int×Int×Int×Bool×Int×Int×Int×(List UInt8)×(List UInt8)×(List Expr)×Int×Int×Int×Int×Int×Int×Int×Int×Int×(List UInt8)×(List UInt8)×(List Expr)×(List zu))⊕(Int×Int×Int×Int×Int×Int×Int×Int×Int×Int×Int×Int×Int×Int×Int×Int×Int))
 |0,_=>none
 |K+1,q=>(bif (decide (q.1<c5))then(idx c4 q.1).bind fun x1=>((bif (!(decide (x1.Kind=0)))then some (true,q.2.1,q.2.2.1,q.2.2.2.1,q.2.2.2.2.1,q.2.2.2.2.2.1,q.2.2.2.2.2.2.1,q.2.2.2.2.2.2.2.1,q.2.2.2.2.2.2.2.2.1,q.2.2.2.2.2.2.2.2.2.1,q.2.2.2.2.2.2.2.2.2.2.1,q.2.2.2.2.2.2.2.2.2.2.2.1,q.2.2.2.2.2.2.2.2.2.2.2.2.1,q.2.2.2.2.2.2.2.2.2.2.2.2.2.1,q.2.2.2.2.2.2.2.2.2.2.2.2.2.2.1,q.2.2.2.2.2.2.2.2.2.2.2.2.2.2.2.1,q.2.2.2.2.2.2.2.2.2.2.2.2.2.2.2.2.1,q.2.2.2.2.2.2.2.2.2.2.2.2.2.2.2.2.2)else(Jj x1.Text).bind fun x3=>some ((!x3),q.2.1,q.2.2.1,q.2.2.2.1,q.2.2.2.2.1,q.2.2.2.2.2.1,q.2.2.2.2.2.2.1,q.2.2.2.2.2.2.2.1,q.2.2.2.2.2.2.2.2.1,q.2.2.2.2.2.2.2.2.2.1,q.2.2.2.2.2.2.2.2.2.2.1,q.2.2.2.2.2.2.2.2.2.2.2.1,q.2.2.2.2.2.2.2.2.2.2.2.2.1,q.2.2.2.2.2.2.2.2.2.2.2.2.2.1,q.2.2.2.2.2.2.2.2.2.2.2.2.2.2.1,q.2.2.2.2.2.2.2.2.2.2.2.2.2.2.2.1,q.2.2.2.2.2.2.2.2.2.2.2.2.2.2.2.2.1,q.2.2.2.2.2.2.2.2.2.2.2.2.2.2.2.2.2))).bind fun x2=>(bif x2.1 then some (Sum.inl (14,0,([]:List UInt8),([]:List UInt8),0,([]:List UInt8),[],[],0,0,0,false,0,0,0,([]:List UInt8),([]:List UInt8),[],0,0,0,0,0,0,0,0,0,([]:List UInt8),([]:List UInt8),[],[]))else Hh c0 c1 c2 c3 c4 c5 c6 c7 c8 c9 c10 K ((w64 (q.1+1)),x2.2.1,x2.2.2.1,x2.2.2.2.1,x2.2.2.2.2.1,x2.2.2.2.2.2.1,x2.2.2.2.2.2.2.1,x2.2.2.2.2.2.2.2.1,x2.2.2.2.2.2.2.2.2.1,x2.2.2.2.2.2.2.2.2.2.1,x2.2.2.2.2.2.2.2.2.2.2.1,x2.2.2.2.2.2.2.2.2.2.2.2.1,x2.2.2.2.2.2.2.2.2.2.2.2.2.1,x2.2.2.2.2.2.2.2.2.2.2.2.2.2.1,x2.2.2.2.2.2.2.2.2.2.2.2.2.2.2.1,x2.2.2.2.2.2.2.2.2.2.2.2.2.2.2.2.1,x2.2.2.2.2.2.2.2.2.2.2.2.2.2.2.2.2.1,x2.2.2.2.2.2.2.2.2.2.2.2.2.2.2.2.2.2))else some (Sum.inr (q.2.1,q.2.2.1,q.2.2.2.1,q.2.2.2.2.1,q.2.2.2.2.2.1,q.2.2.2.2.2.2.1,q.2.2.2.2.2.2.2.1,q.2.2.2.2.2.2.2.2.1,q.2.2.2.2.2.2.2.2.2.1,q.2.2.2.2.2.2.2.2.2.2.1,q.2.2.2.2.2.2.2.2.2.2.2.1,q.2.2.2.2.2.2.2.2.2.2.2.2.1,q.2.2.2.2.2.2.2.2.2.2.2.2.2.1,q.2.2.2.2.2.2.2.2.2.2.2.2.2.2.1,q.2.2.2.2.2.2.2.2.2.2.2.2.2.2.2.1,q.2.2.2.2.2.2.2.2.2.2.2.2.2.2.2.2.1,q.2.2.2.2.2.2.2.2.2.2.2.2.2.2.2.2.2)))
def zh1(l:(List Token)):Option (Int×Int×(List UInt8)×(List UInt8)×Int×(List UInt8)×(List (List UInt8))×(List (List UInt8))×Int×Int×Int×Bool×Int×Int×Int×(List UInt8)×(List UInt8)×(List Expr)×Int×Int×Int×Int×Int×Int×Int×Int×Int×(List UInt8)×(List UInt8)×(List Expr)×(List zu)) :=
 (idx l 0).bind fun x1=>(bif (!(wb x1.Text (uV Kc 5 (uV zkm 3 (uV zkl 1 ([]:List ((List UInt8)×Int)))))).isSome)then some (14,0,([]:List UInt8),([]:List UInt8),0,([]:List UInt8),[],[],0,0,0,false,0,0,0,([]:List UInt8),([]:List UInt8),[],0,0,0,0,0,0,0,0,0,([]:List UInt8),([]:List UInt8),[],[])else((bif (decide (((wb x1.Text (uV Kc 5 (uV zkm 3 (uV zkl 1 ([]:List ((List UInt8)×Int)))))).getD 0)=3))then((bif (decide (((List.length l:Nat):Int)>3))then(idx l 3).bind fun x4=>some (decide (x4.Text=zxp))else some false)).bind fun x3=>(bif x3 then(AA l).bind fun _=>none else some 2)else some 1)).bind fun x2=>((bif (!(decide (((List.length l:Nat):Int)=(w64 (x2+3)))))then some true else(idx l (w64 (x2+1))).bind fun x7=>some (!(decide (x7.Kind=1))))).bind fun x6=>(bif x6 then some (14,0,([]:List UInt8),([]:List UInt8),0,([]:List UInt8),[],[],0,0,0,false,0,0,0,([]:List UInt8),([]:List UInt8),[],0,0,0,0,0,0,0,0,0,([]:List UInt8),([]:List UInt8),[],[])else(cut l 1 (w64 (x2+1))).bind fun x8=>(Hh l ((wb x1.Text (uV Kc 5 (uV zkm 3 (uV zkl 1 ([]:List ((List UInt8)×Int)))))).getD 0) x2 1 x8 ((List.length x8:Nat):Int) ([]:List UInt8) [] false [] [] KK (0,0,0,0,0,0,0,0,0,0,0,0,0,0,0,0,0,0)).bind (z8 some fun x9=>(idx l 1).bind fun x10=>(idx l (w64 (x2+1))).bind fun x11=>((bif (decide (((wb x1.Text (uV Kc 5 (uV zkm 3 (uV zkl 1 ([]:List ((List UInt8)×Int)))))).getD 0)=3))then(idx l 2).bind fun x13=>some x13.Text else some ([]:List UInt8))).bind fun x12=>((bif (decide (((wb x1.Text (uV Kc 5 (uV zkm 3 (uV zkl 1 ([]:List ((List UInt8)×Int)))))).getD 0)=1))then(bif (decide ((w64 (1*x11.N))<1))then some true else some (decide ((w64 (1*x11.N))>1073741824)))else some false)).bind fun x14=>(bif x14 then some (3,0,([]:List UInt8),([]:List UInt8),0,([]:List UInt8),[],[],0,0,0,false,0,0,0,([]:List UInt8),([]:List UInt8),[],0,0,0,0,0,0,0,0,0,([]:List UInt8),([]:List UInt8),[],[])else some (0,((wb x1.Text (uV Kc 5 (uV zkm 3 (uV zkl 1 ([]:List ((List UInt8)×Int)))))).getD 0),x10.Text,x12,(w64 (1*x11.N)),([]:List UInt8),[],[],0,0,0,false,0,0,0,([]:List UInt8),([]:List UInt8),[],0,0,0,0,0,0,0,0,0,([]:List UInt8),([]:List UInt8),[],[])))))
def oj(c0:(List UInt8))(c1:(List Token))(c2:Int):Nat→(Int×Int×(List (List Token)))→Option (Int×(List (List Token)))
 |0,_=>none
 |K+1,q=>(bif (decide (q.2.1<c2))then((idx c1 q.2.1).bind fun x2=>((bif (decide (x2.Kind=2))then some (q.2.1,q.2.1,(decide (x2.Text=zA9)))else some (q.2.1,q.2.1,false))).bind fun x3=>(bif x3.2.2 then(cut c1 q.1 (w64 (x3.1+1))).bind fun x4=>(grd (List.length (q.2.2++([x4]:List (List Token)))*24≤140737488355328)).bind fun _=>some ((w64 (x3.1+1)),x3.2.1,(q.2.2++([x4]:List (List Token))))else some (q.1,x3.2.1,q.2.2))).bind fun x1=>oj c0 c1 c2 K (x1.1,(w64 (x1.2.1+1)),x1.2.2)else some (q.1,q.2.2))
def oo(c0:(List UInt8))(c1:Int)(c2:(List (List Token))):Nat→(Int×(List zq))→Option (((List zq)×Int)⊕((List zq)))
 |0,_=>none
 |K+1,q=>(bif (decide (q.1<c1))then(grd (0≤q.1∧q.1<(((List.length c2):Nat):Int))).bind fun _=>((c2)[(Int.toNat q.1)]?).bind fun x2=>(idx x2 0).bind fun x3=>((bif (decide (x3.Text=W8))then some (decide (x3.Text=W8))else(bif (decide (x3.Text=ZG))then some (decide (x3.Text=ZG))else(bif (decide (x3.Text=zoq))then some (decide (x3.Text=zoq))else some (decide (x3.Text=zb5)))))).bind fun x4=>(bif x4 then(idx x2 0).bind fun x5=>(idx x2 (w64 (((List.length x2:Nat):Int)-1))).bind fun x6=>(cut c0 x5.Pos (w64 (x6.Pos+1))).bind fun _=>none else(zh1 x2).bind fun x8=>(bif (!(decide (x8.1=0)))then some (Sum.inl ([],x8.1))else(grd (List.length (q.2++([(zq.mk x8.2.1 x8.2.2.1 x8.2.2.2.1 x8.2.2.2.2.1 (zb.mk x8.2.2.2.2.2.1 x8.2.2.2.2.2.2.1 x8.2.2.2.2.2.2.2.1 x8.2.2.2.2.2.2.2.2.1 x8.2.2.2.2.2.2.2.2.2.1 x8.2.2.2.2.2.2.2.2.2.2.1 x8.2.2.2.2.2.2.2.2.2.2.2.1 x8.2.2.2.2.2.2.2.2.2.2.2.2.1 (Expr.mk x8.2.2.2.2.2.2.2.2.2.2.2.2.2.1 x8.2.2.2.2.2.2.2.2.2.2.2.2.2.2.1 x8.2.2.2.2.2.2.2.2.2.2.2.2.2.2.2.1 x8.2.2.2.2.2.2.2.2.2.2.2.2.2.2.2.2.1 x8.2.2.2.2.2.2.2.2.2.2.2.2.2.2.2.2.2.1) (zg.mk x8.2.2.2.2.2.2.2.2.2.2.2.2.2.2.2.2.2.2.1 x8.2.2.2.2.2.2.2.2.2.2.2.2.2.2.2.2.2.2.2.1 x8.2.2.2.2.2.2.2.2.2.2.2.2.2.2.2.2.2.2.2.2.1 x8.2.2.2.2.2.2.2.2.2.2.2.2.2.2.2.2.2.2.2.2.2.1) x8.2.2.2.2.2.2.2.2.2.2.2.2.2.2.2.2.2.2.2.2.2.2.1 x8.2.2.2.2.2.2.2.2.2.2.2.2.2.2.2.2.2.2.2.2.2.2.2.1 x8.2.2.2.2.2.2.2.2.2.2.2.2.2.2.2.2.2.2.2.2.2.2.2.2.1) (Expr.mk x8.2.2.2.2.2.2.2.2.2.2.2.2.2.2.2.2.2.2.2.2.2.2.2.2.2.1 x8.2.2.2.2.2.2.2.2.2.2.2.2.2.2.2.2.2.2.2.2.2.2.2.2.2.2.1 x8.2.2.2.2.2.2.2.2.2.2.2.2.2.2.2.2.2.2.2.2.2.2.2.2.2.2.2.1 x8.2.2.2.2.2.2.2.2.2.2.2.2.2.2.2.2.2.2.2.2.2.2.2.2.2.2.2.2.1 x8.2.2.2.2.2.2.2.2.2.2.2.2.2.2.2.2.2.2.2.2.2.2.2.2.2.2.2.2.2.1) x8.2.2.2.2.2.2.2.2.2.2.2.2.2.2.2.2.2.2.2.2.2.2.2.2.2.2.2.2.2.2)]:List zq))*376≤140737488355328)).bind fun _=>oo c0 c1 c2 K ((w64 (q.1+1)),(q.2++([(zq.mk x8.2.1 x8.2.2.1 x8.2.2.2.1 x8.2.2.2.2.1 (zb.mk x8.2.2.2.2.2.1 x8.2.2.2.2.2.2.1 x8.2.2.2.2.2.2.2.1 x8.2.2.2.2.2.2.2.2.1 x8.2.2.2.2.2.2.2.2.2.1 x8.2.2.2.2.2.2.2.2.2.2.1 x8.2.2.2.2.2.2.2.2.2.2.2.1 x8.2.2.2.2.2.2.2.2.2.2.2.2.1 (Expr.mk x8.2.2.2.2.2.2.2.2.2.2.2.2.2.1 x8.2.2.2.2.2.2.2.2.2.2.2.2.2.2.1 x8.2.2.2.2.2.2.2.2.2.2.2.2.2.2.2.1 x8.2.2.2.2.2.2.2.2.2.2.2.2.2.2.2.2.1 x8.2.2.2.2.2.2.2.2.2.2.2.2.2.2.2.2.2.1) (zg.mk x8.2.2.2.2.2.2.2.2.2.2.2.2.2.2.2.2.2.2.1 x8.2.2.2.2.2.2.2.2.2.2.2.2.2.2.2.2.2.2.2.1 x8.2.2.2.2.2.2.2.2.2.2.2.2.2.2.2.2.2.2.2.2.1 x8.2.2.2.2.2.2.2.2.2.2.2.2.2.2.2.2.2.2.2.2.2.1) x8.2.2.2.2.2.2.2.2.2.2.2.2.2.2.2.2.2.2.2.2.2.2.1 x8.2.2.2.2.2.2.2.2.2.2.2.2.2.2.2.2.2.2.2.2.2.2.2.1 x8.2.2.2.2.2.2.2.2.2.2.2.2.2.2.2.2.2.2.2.2.2.2.2.2.1) (Expr.mk x8.2.2.2.2.2.2.2.2.2.2.2.2.2.2.2.2.2.2.2.2.2.2.2.2.2.1 x8.2.2.2.2.2.2.2.2.2.2.2.2.2.2.2.2.2.2.2.2.2.2.2.2.2.2.1 x8.2.2.2.2.2.2.2.2.2.2.2.2.2.2.2.2.2.2.2.2.2.2.2.2.2.2.2.1 x8.2.2.2.2.2.2.2.2.2.2.2.2.2.2.2.2.2.2.2.2.2.2.2.2.2.2.2.2.1 x8.2.2.2.2.2.2.2.2.2.2.2.2.2.2.2.2.2.2.2.2.2.2.2.2.2.2.2.2.2.1) x8.2.2.2.2.2.2.2.2.2.2.2.2.2.2.2.2.2.2.2.2.2.2.2.2.2.2.2.2.2.2)]:List zq)))))else some (Sum.inr q.2))
def zb7(s:(List UInt8)):Option ((List zq)×Int) :=
 (zor s).bind fun x1=>(bif (!(decide (x1.2.2=0)))then some ([],x1.2.2)else(oj s x1.1 ((List.length x1.1:Nat):Int) KK (0,0,[])).bind fun x2=>(bif (decide ((((List.length x2.2):Nat):Int)>200))then some ([],6)else(bif (!(decide (x2.1=(w64 (((List.length x1.1:Nat):Int)-1)))))then some ([],14)else(oo s (((List.length x2.2):Nat):Int) x2.2 KK (0,[])).bind (z8 some fun x3=>some (x3,0)))))
def Jk(e:zq):Option (Bool×(List Def)×(List Table)×(List zr)×(List zb)×(List Cap)×(List View)×(List zj)×Int) :=
 (bif (decide (e.Kind=0))then some (true,[],[],[],([(zb.mk e.zb.Name e.zb.Zones e.zb.Except e.zb.From e.zb.Until e.zb.Grace e.zb.Vary e.zb.Kind (Expr.mk e.zb.Test.Op e.zb.Test.N e.zb.Test.S e.zb.Test.Key e.zb.Test.Args) e.zb.zg e.zb.Uses e.zb.Other e.zb.N)]:List zb),[],[],[],0)else(bif (decide (e.Kind=2))then some (true,([(Def.mk e.Name (Expr.mk e.Body.Op e.Body.N e.Body.S e.Body.Key e.Body.Args))]:List Def),[],[],[],[],[],[],0)else(bif (decide (e.Kind=4))then some (true,[],[],([(zr.mk e.Name (decide (e.N=1)) e.Corners)]:List zr),[],[],[],[],0)else some (false,[],[],[],[],[],[],[],0))))
def zb8(x_:Def):Option ((List UInt8)) :=
 some x_.Name
def jO(c0:Bool)(c1:(List (List UInt8)))(c2:Int):Nat→(Int×(List ((List UInt8)×Bool)))→Option ((Bool)⊕(Unit))
 |0,_=>none
 |K+1,q=>(bif (decide (q.1<c2))then(idx c1 q.1).bind fun x1=>((Jj x1).bind fun x3=>(bif (!x3)then some true else(bif c0 then some ((wb x1 q.2).getD false)else some false))).bind fun x2=>(bif x2 then some (Sum.inl false)else jO c0 c1 c2 K ((w64 (q.1+1)),(uV x1 true q.2)))else some (Sum.inr ()))
def w9(l:(List (List UInt8)))(unique:Bool):Option (Bool) :=
 (jO unique l ((List.length l:Nat):Int) KK (0,([]:List ((List UInt8)×Bool)))).bind (z8 some fun _=>some true)
def ud(c0:(List Def))(c1:Int)(c2:Int):Nat→(Int×(List (List UInt8)))→Option ((List (List UInt8)))
 |0,_=>none
 |K+1,q=>(bif (decide (q.1<c2))then(idx c0 q.1).bind fun x1=>(zb8 (Def.mk x1.Name (Expr.mk x1.Body.Op x1.Body.N x1.Body.S x1.Body.Key x1.Body.Args))).bind fun x2=>(grd (List.length (q.2++([x2]:List (List UInt8)))*16≤140737488355328)).bind fun _=>ud c0 c1 c2 K ((w64 (q.1+1)),(q.2++([x2]:List (List UInt8))))else some q.2)
def Qi(l:(List Def))(most:Int):Option (Bool) :=
 (ud l most ((List.length l:Nat):Int) KK (0,[])).bind fun x1=>(bif (decide (((List.length l:Nat):Int)≤most))then(w9 x1 true).bind fun x2=>some x2 else some false)
def zb9(x_:Table):Option ((List UInt8)) :=
 some x_.Name
def jA(c0:(List Table))(c1:Int)(c2:Int):Nat→(Int×(List (List UInt8)))→Option ((List (List UInt8)))
 |0,_=>none
 |K+1,q=>(bif (decide (q.1<c2))then(idx c0 q.1).bind fun x1=>(zb9 x1).bind fun x2=>(grd (List.length (q.2++([x2]:List (List UInt8)))*16≤140737488355328)).bind fun _=>jA c0 c1 c2 K ((w64 (q.1+1)),(q.2++([x2]:List (List UInt8))))else some q.2)
def Ae(l:(List Table))(most:Int):Option (Bool) :=
 (jA l most ((List.length l:Nat):Int) KK (0,[])).bind fun x1=>(bif (decide (((List.length l:Nat):Int)≤most))then(w9 x1 true).bind fun x2=>some x2 else some false)
def zca(x_:zr):Option ((List UInt8)) :=
 some x_.Name
def jB(c0:(List zr))(c1:Int)(c2:Int):Nat→(Int×(List (List UInt8)))→Option ((List (List UInt8)))
 |0,_=>none
 |K+1,q=>(bif (decide (q.1<c2))then(idx c0 q.1).bind fun x1=>(zca x1).bind fun x2=>(grd (List.length (q.2++([x2]:List (List UInt8)))*16≤140737488355328)).bind fun _=>jB c0 c1 c2 K ((w64 (q.1+1)),(q.2++([x2]:List (List UInt8))))else some q.2)
def Af(l:(List zr))(most:Int):Option (Bool) :=
 (jB l most ((List.length l:Nat):Int) KK (0,[])).bind fun x1=>(bif (decide (((List.length l:Nat):Int)≤most))then(w9 x1 true).bind fun x2=>some x2 else some false)
def zcb(x_:zb):Option ((List UInt8)) :=
 some x_.Name
def jC(c0:(List zb))(c1:Int)(c2:Int):Nat→(Int×(List (List UInt8)))→Option ((List (List UInt8)))
 |0,_=>none
 |K+1,q=>(bif (decide (q.1<c2))then(idx c0 q.1).bind fun x1=>(zcb (zb.mk x1.Name x1.Zones x1.Except x1.From x1.Until x1.Grace x1.Vary x1.Kind (Expr.mk x1.Test.Op x1.Test.N x1.Test.S x1.Test.Key x1.Test.Args) x1.zg x1.Uses x1.Other x1.N)).bind fun x2=>(grd (List.length (q.2++([x2]:List (List UInt8)))*16≤140737488355328)).bind fun _=>jC c0 c1 c2 K ((w64 (q.1+1)),(q.2++([x2]:List (List UInt8))))else some q.2)
def Ag(l:(List zb))(most:Int):Option (Bool) :=
 (jC l most ((List.length l:Nat):Int) KK (0,[])).bind fun x1=>(bif (decide (((List.length l:Nat):Int)≤most))then(w9 x1 true).bind fun x2=>some x2 else some false)
def zcc(x_:Cap):Option ((List UInt8)) :=
 some x_.Name
def jD(c0:(List Cap))(c1:Int)(c2:Int):Nat→(Int×(List (List UInt8)))→Option ((List (List UInt8)))
 |0,_=>none
 |K+1,q=>(bif (decide (q.1<c2))then(idx c0 q.1).bind fun x1=>(zcc x1).bind fun x2=>(grd (List.length (q.2++([x2]:List (List UInt8)))*16≤140737488355328)).bind fun _=>jD c0 c1 c2 K ((w64 (q.1+1)),(q.2++([x2]:List (List UInt8))))else some q.2)
def Ah(l:(List Cap))(most:Int):Option (Bool) :=
 (jD l most ((List.length l:Nat):Int) KK (0,[])).bind fun x1=>(bif (decide (((List.length l:Nat):Int)≤most))then(w9 x1 true).bind fun x2=>some x2 else some false)
def zcd(x_:View):Option ((List UInt8)) :=
 some x_.Name
def jE(c0:(List View))(c1:Int)(c2:Int):Nat→(Int×(List (List UInt8)))→Option ((List (List UInt8)))
 |0,_=>none
 |K+1,q=>(bif (decide (q.1<c2))then(idx c0 q.1).bind fun x1=>(zcd x1).bind fun x2=>(grd (List.length (q.2++([x2]:List (List UInt8)))*16≤140737488355328)).bind fun _=>jE c0 c1 c2 K ((w64 (q.1+1)),(q.2++([x2]:List (List UInt8))))else some q.2)
def Ai(l:(List View))(most:Int):Option (Bool) :=
 (jE l most ((List.length l:Nat):Int) KK (0,[])).bind fun x1=>(bif (decide (((List.length l:Nat):Int)≤most))then(w9 x1 true).bind fun x2=>some x2 else some false)
def ya(r_right:Expr→Int→Option (Bool))(c0:Int)(c1:(List Expr))(c2:Int):Nat→(Int)→Option ((Bool)⊕(Unit))
 |0,_=>none
 |K+1,q=>(bif (decide (q<c2))then(idx c1 q).bind fun x1=>(r_right (Expr.mk x1.Op x1.N x1.S x1.Key x1.Args) (w64 (c0-1))).bind fun x2=>(bif (!x2)then some (Sum.inl false)else ya r_right c0 c1 c2 K (w64 (q+1)))else some (Sum.inr ()))
def zB:Nat→Expr→Int→Option (Bool)
 |0,_,_=>none
 |RK+1,e,depth=>((bif (decide (depth=0))then some true else(bif (decide (e.Op<0))then some true else some (decide (e.Op≥17))))).bind fun x1=>(bif x1 then some false else((bif (decide (e.Op=0))then some (Sum.inr (0,(min (max e.N 0) 1099511627776),([]:List UInt8),([]:List UInt8)))else((bif (decide (e.Op=1))then some (decide (e.Op=1))else some (decide (e.Op=3)))).bind fun x3=>(bif x3 then some (Sum.inr (0,0,e.S,([]:List UInt8)))else(bif (decide (e.Op=2))then(Jj e.Key).bind fun x4=>(bif (!x4)then some (Sum.inl false)else some (Sum.inr (0,0,e.S,e.Key)))else((bif (decide (e.Op=9))then some (decide (e.Op=9))else some (decide (e.Op=15)))).bind fun x5=>(bif x5 then some (Sum.inr (1,0,([]:List UInt8),([]:List UInt8)))else(bif (decide (e.Op=16))then some (Sum.inr (3,0,([]:List UInt8),([]:List UInt8)))else some (Sum.inr (2,0,([]:List UInt8),([]:List UInt8))))))))).bind (z8 some fun x2=>((bif (!(decide (((List.length e.Args:Nat):Int)=x2.1)))then some true else(bif (!(decide (x2.2.1=e.N)))then some true else(bif (!(decide (x2.2.2.1=e.S)))then some true else(bif (!(decide (x2.2.2.2=e.Key)))then some true else(bif (decide (x2.1=0))then(bif (!(decide (e.Op=0)))then(Jj e.S).bind fun x7=>some (!x7)else some false)else some false)))))).bind fun x6=>(bif x6 then some false else(ya (zB RK) depth e.Args ((List.length e.Args:Nat):Int) KK 0).bind (z8 some fun _=>some true))))
def vb(e:Expr):Option (Bool) :=
 (zB KK (Expr.mk e.Op e.N e.S e.Key e.Args) 12).bind fun x1=>some x1
def zce(x_:Entry):Option ((List UInt8)) :=
 some x_.Name
def jF(c0:(List Entry))(c1:Int)(c2:Int):Nat→(Int×(List (List UInt8)))→Option ((List (List UInt8)))
 |0,_=>none
 |K+1,q=>(bif (decide (q.1<c2))then(idx c0 q.1).bind fun x1=>(zce x1).bind fun x2=>(grd (List.length (q.2++([x2]:List (List UInt8)))*16≤140737488355328)).bind fun _=>jF c0 c1 c2 K ((w64 (q.1+1)),(q.2++([x2]:List (List UInt8))))else some q.2)
def Aj(l:(List Entry))(most:Int):Option (Bool) :=
 (jF l most ((List.length l:Nat):Int) KK (0,[])).bind fun x1=>(bif (decide (((List.length l:Nat):Int)≤most))then(w9 x1 true).bind fun x2=>some x2 else some false)
def kl(c0:Int)(c1:Int)(c2:(List Int))(c3:Int):Nat→(Int)→Option ((Bool)⊕(Unit))
 |0,_=>none
 |K+1,q=>(bif (decide (q<c3))then(idx c2 q).bind fun x1=>((bif (decide (x1<c0))then some true else some (decide (x1>c1)))).bind fun x2=>(bif x2 then some (Sum.inl false)else kl c0 c1 c2 c3 K (w64 (q+1)))else some (Sum.inr ()))
def zw(from_:Int)(to_:Int)(l:(List Int)):Option (Bool) :=
 (kl from_ to_ l ((List.length l:Nat):Int) KK 0).bind (z8 some fun _=>some true)
def yP(c0:(List zu))(c1:Int):Nat→(Int×(List zl))→Option ((List zl))
 |0,_=>none
 |K+1,q=>(bif (decide (q.1<c1))then(idx c0 q.1).bind fun x1=>(grd (((List.length c0:Nat):Int)≠0)).bind fun _=>(idx c0 (Int.tmod (w64 (q.1+1)) ((List.length c0:Nat):Int))).bind fun x3=>(grd (0≤q.1∧q.1<(((List.length q.2):Nat):Int))).bind fun _=>((q.2)[(Int.toNat q.1)]?).bind fun _=>yP c0 c1 K ((w64 (q.1+1)),(List.set q.2 (Int.toNat q.1) (zl.mk x1 x3)))else some q.2)
def Ak(p:(List zu)):Option ((List zl)) :=
 (grd (0≤((List.length p:Nat):Int)∧((List.length p:Nat):Int)*((32:Nat):Int)≤281474976710656∧((List.length p:Nat):Int)≤9223372036854775807)).bind fun _=>(yP p ((List.length p:Nat):Int) KK (0,(List.replicate (Int.toNat ((List.length p:Nat):Int)) (zl.mk (zu.mk 0 0) (zu.mk 0 0))))).bind fun x2=>some x2
def Kf(p:zu):Option (Bool) :=
 (bif (decide (0≤p.X))then(bif (decide (p.X≤1048576))then(bif (decide (0≤p.Y))then some (decide (p.Y≤1048576))else some false)else some false)else some false)
def zY(s:zl):Option (Bool) :=
 some (decide (s.a.X=s.b.X))
def ue(x_:Int):Option (Bool) :=
 some (!(decide (x_=x_)))
def wJ(x_:Int)(y:Int):Option (Int) :=
 (ue x_).bind fun x1=>(ue y).bind fun x2=>(bif x1 then(bif x2 then some 0 else some (-1))else(bif x2 then some 1 else(bif (decide (x_<y))then some (-1)else(bif (decide (x_>y))then some 1 else some 0))))
def vc(c0:Int)(c1:(List Int))(c2:Int):Nat→(Int)→Option ((Int)⊕(Unit))
 |0,_=>none
 |K+1,q=>(bif (decide (q<c2))then(idx c1 q).bind fun x1=>(bif (!(decide (x1=c0)))then some (Sum.inl x1)else vc c0 c1 c2 K (w64 (q+1)))else some (Sum.inr ()))
def Qj(vals:(List Int)):Option (Int) :=
 (vc 0 vals ((List.length vals:Nat):Int) KK 0).bind (z8 some fun _=>some 0)
def uf(a:zu)(b:zu):Option (Int) :=
 (wJ a.X b.X).bind fun x1=>(wJ a.Y b.Y).bind fun x2=>(Qj ([x1,x2]:List Int)).bind fun x3=>some x3
def uB(s:zl)(t:zl):Option (Bool) :=
 (bif (decide ((max (min s.a.X s.b.X) (min t.a.X t.b.X))≤(min (max s.a.X s.b.X) (max t.a.X t.b.X))))then some (decide ((max (min s.a.Y s.b.Y) (min t.a.Y t.b.Y))≤(min (max s.a.Y s.b.Y) (max t.a.Y t.b.Y))))else some false)
def wu(c0:(List zu))(c1:(List zl))(c2:Int):Nat→(Int)→Option ((Bool)⊕(Unit))
 |0,_=>none
 |K+1,q=>(bif (decide (q<c2))then(idx c1 q).bind fun x1=>(grd (((List.length c1:Nat):Int)≠0)).bind fun _=>(idx c1 (Int.tmod (w64 (q+1)) ((List.length c1:Nat):Int))).bind fun x3=>((Kf x1.a).bind fun x5=>(bif (!x5)then some true else(bif ((decide (x1.a.X=x1.b.X))==(decide (x1.a.Y=x1.b.Y)))then some true else(zY x1).bind fun x6=>(zY x3).bind fun x7=>some (x6==x7)))).bind fun x4=>(bif x4 then some (Sum.inl false)else((bif (decide (q>0))then(idx c0 0).bind fun x9=>(idx c0 q).bind fun x10=>(uf x9 x10).bind fun x11=>some (decide (x11≥0))else some false)).bind fun x8=>(bif x8 then some (Sum.inl false)else wu c0 c1 c2 K (w64 (q+1))))else some (Sum.inr ()))
def wv(c0:(List zl))(c1:Int)(c2:Int):Nat→(Int)→Option ((Bool)⊕(Unit))
 |0,_=>none
 |K+1,q=>(bif (decide (q<((List.length c0:Nat):Int)))then((bif (decide ((w64 ((w64 (c1+((List.length c0:Nat):Int)))-q))>1))then(idx c0 c1).bind fun x2=>(idx c0 q).bind fun x3=>(uB x2 x3).bind fun x4=>some x4 else some false)).bind fun x1=>(bif x1 then some (Sum.inl false)else wv c0 c1 c2 K (w64 (q+1)))else some (Sum.inr ()))
def wx(c0:(List zl))(c1:Int):Nat→(Int)→Option ((Bool)⊕(Unit))
 |0,_=>none
 |K+1,q=>(bif (decide (q<c1))then(wv c0 q c1 KK (w64 (q+2))).bind (z8 (fun q=>some (Sum.inl q)) fun _=>wx c0 c1 K (w64 (q+1)))else some (Sum.inr ()))
def Ve(p:(List zu)):Option (Bool) :=
 ((bif (decide (((List.length p:Nat):Int)<4))then some true else some (decide (((List.length p:Nat):Int)>60)))).bind fun x1=>(bif x1 then some false else(Ak p).bind fun x2=>(wu p x2 ((List.length x2:Nat):Int) KK 0).bind (z8 some fun _=>(wx x2 ((List.length x2:Nat):Int) KK 0).bind (z8 some fun _=>(idx x2 0).bind fun x5=>(zY x5).bind fun x6=>some (!x6))))
def ug(l:(List zu)):Option (Bool) :=
 (Ve l).bind fun x1=>some x1
def vd(c0:(List (List UInt8)))(c1:(List (List UInt8)))(c2:Int):Nat→(Int)→Option ((Bool)⊕(Unit))
 |0,_=>none
 |K+1,q=>(bif (decide (q<c2))then(idx c0 q).bind fun x1=>(idx c1 q).bind fun x2=>(bif (!(decide (x1=x2)))then some (Sum.inl false)else vd c0 c1 c2 K (w64 (q+1)))else some (Sum.inr ()))
def xU(s1:(List (List UInt8)))(s2:(List (List UInt8))):Option (Bool) :=
 (bif (!(decide (((List.length s1:Nat):Int)=((List.length s2:Nat):Int))))then some false else(vd s1 s2 ((List.length s1:Nat):Int) KK 0).bind (z8 some fun _=>some true))
def xo(r_sameExpr:Expr→Expr→Option (Bool))(c0:(List Expr))(c1:(List Expr))(c2:Int):Nat→(Int)→Option ((Bool)⊕(Unit))
 |0,_=>none
 |K+1,q=>(bif (decide (q<c2))then(idx c1 q).bind fun x1=>(idx c0 q).bind fun x2=>(r_sameExpr (Expr.mk x1.Op x1.N x1.S x1.Key x1.Args) (Expr.mk x2.Op x2.N x2.S x2.Key x2.Args)).bind fun x3=>(bif (!x3)then some (Sum.inl false)else xo r_sameExpr c0 c1 c2 K (w64 (q+1)))else some (Sum.inr ()))
mutual
def xg:Nat→(List Expr)→(List Expr)→Option (Bool)
 |0,_,_=>none
 |RK+1,s1,s2=>(bif (!(decide (((List.length s1:Nat):Int)=((List.length s2:Nat):Int))))then some false else(xo (xC RK) s2 s1 ((List.length s1:Nat):Int) KK 0).bind (z8 some fun _=>some true))
def xC:Nat→Expr→Expr→Option (Bool)
 |0,_,_=>none
 |RK+1,a,b=>(bif (decide (a.Op=b.Op))then(bif (decide (a.N=b.N))then(bif (decide (a.S=b.S))then(bif (decide (a.Key=b.Key))then(xg RK a.Args b.Args).bind fun x1=>some x1 else some false)else some false)else some false)else some false)
end
def ve(a:zb)(b:zb):Option (Bool) :=
 ((xU a.Zones b.Zones).bind fun x2=>(bif (!x2)then some true else(xU a.Except b.Except).bind fun x3=>(bif (!x3)then some true else(xC KK (Expr.mk a.Test.Op a.Test.N a.Test.S a.Test.Key a.Test.Args) (Expr.mk b.Test.Op b.Test.N b.Test.S b.Test.Key b.Test.Args)).bind fun x4=>some (!x4)))).bind fun x1=>(bif x1 then some false else((bif (decide (a.Name=b.Name))then(bif (decide (a.From=b.From))then(bif (decide (a.Until=b.Until))then(bif (decide (a.Grace=b.Grace))then some (a.Vary==b.Vary)else some false)else some false)else some false)else some false)).bind fun x5=>(bif x5 then(bif (decide (a.Kind=b.Kind))then(bif (decide (a.zg.Side=b.zg.Side)&&(decide (a.zg.Base=b.zg.Base)&&(decide (a.zg.Num=b.zg.Num)&&(decide (a.zg.Den=b.zg.Den)))))then(bif (decide (a.Uses=b.Uses))then(bif (decide (a.Other=b.Other))then some (decide (a.N=b.N))else some false)else some false)else some false)else some false)else some false))
def km(r_:zb):Option (Bool) :=
 ((w9 r_.Zones false).bind fun x2=>(bif (!x2)then some true else(w9 r_.Except false).bind fun x3=>(bif (!x3)then some true else(zw 0 1073741824 ([r_.From,r_.Grace,r_.Until]:List Int)).bind fun x4=>(bif (!x4)then some true else(bif (!(decide (r_.Until=0)))then some (decide (r_.Until≤r_.From))else some false))))).bind fun x1=>(bif x1 then some false else((bif (decide (r_.Kind=0))then(vb (Expr.mk r_.Test.Op r_.Test.N r_.Test.S r_.Test.Key r_.Test.Args)).bind fun x6=>some (x6,r_.Test.Op,r_.Test.N,r_.Test.S,r_.Test.Key,r_.Test.Args,0,0,0,0,0,0,0)else(bif (decide (r_.Kind=1))then(zw 0 3 ([r_.zg.Side]:List Int)).bind fun x7=>(bif x7 then(zw 0 4096 ([r_.zg.Base,r_.zg.Num]:List Int)).bind fun x8=>(bif x8 then(zw 1 4096 ([r_.zg.Den]:List Int)).bind fun x9=>some (x9,0,0,([]:List UInt8),([]:List UInt8),[],r_.zg.Side,r_.zg.Base,r_.zg.Num,r_.zg.Den,0,0,0)else some (false,0,0,([]:List UInt8),([]:List UInt8),[],r_.zg.Side,r_.zg.Base,r_.zg.Num,r_.zg.Den,0,0,0))else some (false,0,0,([]:List UInt8),([]:List UInt8),[],r_.zg.Side,r_.zg.Base,r_.zg.Num,r_.zg.Den,0,0,0))else(bif (decide (r_.Kind=2))then(zw 1 63 ([r_.Uses]:List Int)).bind fun x10=>some (x10,0,0,([]:List UInt8),([]:List UInt8),[],0,0,0,0,r_.Uses,0,0)else(bif (decide (r_.Kind=3))then(zw 0 5 ([r_.Uses,r_.Other]:List Int)).bind fun x11=>(bif x11 then(zw 0 1048576 ([r_.N]:List Int)).bind fun x12=>some (x12,0,0,([]:List UInt8),([]:List UInt8),[],0,0,0,0,r_.Uses,r_.Other,r_.N)else some (false,0,0,([]:List UInt8),([]:List UInt8),[],0,0,0,0,r_.Uses,r_.Other,r_.N))else some (false,0,0,([]:List UInt8),([]:List UInt8),[],0,0,0,0,0,0,0)))))).bind fun x5=>(bif x5.1 then(ve (zb.mk r_.Name r_.Zones r_.Except r_.From r_.Until r_.Grace r_.Vary r_.Kind (Expr.mk r_.Test.Op r_.Test.N r_.Test.S r_.Test.Key r_.Test.Args) r_.zg r_.Uses r_.Other r_.N) (zb.mk r_.Name r_.Zones r_.Except r_.From r_.Until r_.Grace r_.Vary r_.Kind (Expr.mk x5.2.1 x5.2.2.1 x5.2.2.2.1 x5.2.2.2.2.1 x5.2.2.2.2.2.1) (zg.mk x5.2.2.2.2.2.2.1 x5.2.2.2.2.2.2.2.1 x5.2.2.2.2.2.2.2.2.1 x5.2.2.2.2.2.2.2.2.2.1) x5.2.2.2.2.2.2.2.2.2.2.1 x5.2.2.2.2.2.2.2.2.2.2.2.1 x5.2.2.2.2.2.2.2.2.2.2.2.2)).bind fun x13=>some x13 else some false))
def jP(c0:(List Def))(c1:Int)(c2:(List Table))(c3:(List zr))(c4:(List zb))(c5:(List Cap))(c6:(List View))(c7:(List zj))(c8:Int):Nat→(Int)→Option ((Bool)⊕(Unit))
 |0,_=>none
 |K+1,q=>(bif (decide (q<c1))then(idx c0 q).bind fun x1=>(vb (Expr.mk x1.Body.Op x1.Body.N x1.Body.S x1.Body.Key x1.Body.Args)).bind fun x2=>(bif (!x2)then some (Sum.inl false)else jP c0 c1 c2 c3 c4 c5 c6 c7 c8 K (w64 (q+1)))else some (Sum.inr ()))
def qx(c0:(List Table))(c1:Int)(c2:Int)(c3:(List Entry))(c4:Int)(c5:(List Def))(c6:(List zr))(c7:(List zb))(c8:(List Cap))(c9:(List View))(c10:(List zj))(c11:Int):Nat→(Int)→Option ((Bool)⊕(Unit))
 |0,_=>none
 |K+1,q=>(bif (decide (q<c4))then(idx c3 q).bind fun x1=>(zw (-1099511627776) 1099511627776 ([x1.N]:List Int)).bind fun x2=>(bif (!x2)then some (Sum.inl false)else qx c0 c1 c2 c3 c4 c5 c6 c7 c8 c9 c10 c11 K (w64 (q+1)))else some (Sum.inr ()))
def vf(c0:(List Table))(c1:Int)(c2:(List Def))(c3:(List zr))(c4:(List zb))(c5:(List Cap))(c6:(List View))(c7:(List zj))(c8:Int):Nat→(Int)→Option ((Bool)⊕(Unit))
 |0,_=>none
 |K+1,q=>(bif (decide (q<c1))then(idx c0 q).bind fun x1=>((Aj x1.Rows 60).bind fun x3=>(bif (!x3)then some true else(zw (-1099511627776) 1099511627776 ([x1.Else]:List Int)).bind fun x4=>some (!x4))).bind fun x2=>(bif x2 then some (Sum.inl false)else(qx c0 c1 q x1.Rows ((List.length x1.Rows:Nat):Int) c2 c3 c4 c5 c6 c7 c8 KK 0).bind (z8 (fun q=>some (Sum.inl q)) fun _=>vf c0 c1 c2 c3 c4 c5 c6 c7 c8 K (w64 (q+1))))else some (Sum.inr ()))
def jQ(c0:(List zr))(c1:Int)(c2:(List Def))(c3:(List Table))(c4:(List zb))(c5:(List Cap))(c6:(List View))(c7:(List zj))(c8:Int):Nat→(Int)→Option ((Bool)⊕(Unit))
 |0,_=>none
 |K+1,q=>(bif (decide (q<c1))then(idx c0 q).bind fun x1=>(ug x1.Corners).bind fun x2=>(bif (!x2)then some (Sum.inl false)else jQ c0 c1 c2 c3 c4 c5 c6 c7 c8 K (w64 (q+1)))else some (Sum.inr ()))
def jR(c0:(List zb))(c1:Int)(c2:(List Def))(c3:(List Table))(c4:(List zr))(c5:(List Cap))(c6:(List View))(c7:(List zj))(c8:Int):Nat→(Int)→Option ((Bool)⊕(Unit))
 |0,_=>none
 |K+1,q=>(bif (decide (q<c1))then(idx c0 q).bind fun x1=>(km (zb.mk x1.Name x1.Zones x1.Except x1.From x1.Until x1.Grace x1.Vary x1.Kind (Expr.mk x1.Test.Op x1.Test.N x1.Test.S x1.Test.Key x1.Test.Args) x1.zg x1.Uses x1.Other x1.N)).bind fun x2=>(bif (!x2)then some (Sum.inl false)else jR c0 c1 c2 c3 c4 c5 c6 c7 c8 K (w64 (q+1)))else some (Sum.inr ()))
def jS(c0:(List Cap))(c1:Int)(c2:(List Def))(c3:(List Table))(c4:(List zr))(c5:(List zb))(c6:(List View))(c7:(List zj))(c8:Int):Nat→(Int)→Option ((Bool)⊕(Unit))
 |0,_=>none
 |K+1,q=>(bif (decide (q<c1))then(idx c0 q).bind fun x1=>((zw 0 2 ([x1.Load]:List Int)).bind fun x3=>(bif (!x3)then some true else(zw 0 1099511627776 ([x1.Limit]:List Int)).bind fun x4=>(bif (!x4)then some true else(ug x1.Corners).bind fun x5=>some (!x5)))).bind fun x2=>(bif x2 then some (Sum.inl false)else jS c0 c1 c2 c3 c4 c5 c6 c7 c8 K (w64 (q+1)))else some (Sum.inr ()))
def qy(c0:(List View))(c1:Int)(c2:Int)(c3:Int)(c4:(List Def))(c5:(List Table))(c6:(List zr))(c7:(List zb))(c8:(List Cap))(c9:(List zj))(c10:Int)(c11:(List zj)):Nat→(Int)→Option ((Bool)⊕(Unit))
 |0,_=>none
 |K+1,q=>(bif (decide (q<c3))then(grd (0≤q∧q<(((List.length c11):Nat):Int))).bind fun _=>((c11)[(Int.toNat q)]?).bind fun x2=>((zw 0 1048576 ([x2.X,x2.Y]:List Int)).bind fun x4=>(bif (!x4)then some true else(zw 0 4096 ([x2.Z_]:List Int)).bind fun x5=>some (!x5))).bind fun x3=>(bif x3 then some (Sum.inl false)else qy c0 c1 c2 c3 c4 c5 c6 c7 c8 c9 c10 c11 K (w64 (q+1)))else some (Sum.inr ()))
def vg(c0:(List View))(c1:Int)(c2:(List Def))(c3:(List Table))(c4:(List zr))(c5:(List zb))(c6:(List Cap))(c7:(List zj))(c8:Int):Nat→(Int)→Option ((Bool)⊕(Unit))
 |0,_=>none
 |K+1,q=>(bif (decide (q<c1))then(idx c0 q).bind fun x1=>((zw 0 20 ([x1.Least]:List Int)).bind fun x3=>(bif (!x3)then some true else(zw 1 20 ([((List.length x1.Targets:Nat):Int)]:List Int)).bind fun x4=>some (!x4))).bind fun x2=>(bif x2 then some (Sum.inl false)else(grd (List.length (([x1.Eye]:List zj)++x1.Targets)*24≤140737488355328)).bind fun _=>(qy c0 c1 q (((List.length (([x1.Eye]:List zj)++x1.Targets)):Nat):Int) c2 c3 c4 c5 c6 c7 c8 (([x1.Eye]:List zj)++x1.Targets) KK 0).bind (z8 (fun q=>some (Sum.inl q)) fun _=>vg c0 c1 c2 c3 c4 c5 c6 c7 c8 K (w64 (q+1))))else some (Sum.inr ()))
def jT(c0:(List zj))(c1:Int)(c2:(List Def))(c3:(List Table))(c4:(List zr))(c5:(List zb))(c6:(List Cap))(c7:(List View))(c8:Int):Nat→(Int)→Option ((Bool)⊕(Unit))
 |0,_=>none
 |K+1,q=>(bif (decide (q<c1))then(idx c0 q).bind fun x1=>((zw (-4096) 4096 ([x1.X,x1.Y]:List Int)).bind fun x3=>(bif (!x3)then some true else(zw 1 4096 ([x1.Z_]:List Int)).bind fun x4=>some (!x4))).bind fun x2=>(bif x2 then some (Sum.inl false)else jT c0 c1 c2 c3 c4 c5 c6 c7 c8 K (w64 (q+1)))else some (Sum.inr ()))
def uh(p:zK):Option (Bool) :=
 ((Qi p.Defs 60).bind fun x2=>(bif (!x2)then some true else(Ae p.Tables 60).bind fun x3=>(bif (!x3)then some true else(Af p.Zones 60).bind fun x4=>(bif (!x4)then some true else(Ag p.Rules 200).bind fun x5=>(bif (!x5)then some true else(Ah p.Caps 30).bind fun x6=>(bif (!x6)then some true else(Ai p.Views 60).bind fun x7=>some (!x7))))))).bind fun x1=>(bif x1 then some false else(jP p.Defs ((List.length p.Defs:Nat):Int) p.Tables p.Zones p.Rules p.Caps p.Views p.Sun p.Hours KK 0).bind (z8 some fun _=>(vf p.Tables ((List.length p.Tables:Nat):Int) p.Defs p.Zones p.Rules p.Caps p.Views p.Sun p.Hours KK 0).bind (z8 some fun _=>(jQ p.Zones ((List.length p.Zones:Nat):Int) p.Defs p.Tables p.Rules p.Caps p.Views p.Sun p.Hours KK 0).bind (z8 some fun _=>(jR p.Rules ((List.length p.Rules:Nat):Int) p.Defs p.Tables p.Zones p.Caps p.Views p.Sun p.Hours KK 0).bind (z8 some fun _=>(jS p.Caps ((List.length p.Caps:Nat):Int) p.Defs p.Tables p.Zones p.Rules p.Views p.Sun p.Hours KK 0).bind (z8 some fun _=>(vg p.Views ((List.length p.Views:Nat):Int) p.Defs p.Tables p.Zones p.Rules p.Caps p.Sun p.Hours KK 0).bind (z8 some fun _=>(jT p.Sun ((List.length p.Sun:Nat):Int) p.Defs p.Tables p.Zones p.Rules p.Caps p.Views p.Hours KK 0).bind (z8 some fun _=>(zw 0 24 ([p.Hours,((List.length p.Sun:Nat):Int)]:List Int)).bind fun x15=>some x15))))))))
def Al(p:zK):Option (Int×(List UInt8)×(List UInt8)×Int×(List UInt8)×(List (List UInt8))×(List (List UInt8))×Int×Int×Int×Bool×Int×Int×Int×(List UInt8)×(List UInt8)×(List Expr)×Int×Int×Int×Int×Int×Int×Int×Int×Int×(List UInt8)×(List UInt8)×(List Expr)×(List zu)) :=
 (bif (decide (((List.length p.Rules:Nat):Int)=1))then(idx p.Rules 0).bind fun x1=>some (0,([]:List UInt8),([]:List UInt8),0,x1.Name,x1.Zones,x1.Except,x1.From,x1.Until,x1.Grace,x1.Vary,x1.Kind,x1.Test.Op,x1.Test.N,x1.Test.S,x1.Test.Key,x1.Test.Args,x1.zg.Side,x1.zg.Base,x1.zg.Num,x1.zg.Den,x1.Uses,x1.Other,x1.N,0,0,([]:List UInt8),([]:List UInt8),[],[])else(bif (decide (((List.length p.Defs:Nat):Int)=1))then(idx p.Defs 0).bind fun x2=>(idx p.Defs 0).bind fun x3=>some (2,x2.Name,([]:List UInt8),0,([]:List UInt8),[],[],0,0,0,false,0,0,0,([]:List UInt8),([]:List UInt8),[],0,0,0,0,0,0,0,x3.Body.Op,x3.Body.N,x3.Body.S,x3.Body.Key,x3.Body.Args,[])else(idx p.Zones 0).bind fun x4=>((bif x4.Overlay then some 1 else some 0)).bind fun x5=>some (4,x4.Name,([]:List UInt8),x5,([]:List UInt8),[],[],0,0,0,false,0,0,0,([]:List UInt8),([]:List UInt8),[],0,0,0,0,0,0,0,0,0,([]:List UInt8),([]:List UInt8),[],x4.Corners)))
def we(c0:(List zu))(c1:(List zu))(c2:Int):Nat→(Int)→Option ((Bool)⊕(Unit))
 |0,_=>none
 |K+1,q=>(bif (decide (q<c2))then(idx c0 q).bind fun x1=>(idx c1 q).bind fun x2=>(bif (!(decide (x1.X=x2.X)&&(decide (x1.Y=x2.Y))))then some (Sum.inl false)else we c0 c1 c2 K (w64 (q+1)))else some (Sum.inr ()))
def zZ(s1:(List zu))(s2:(List zu)):Option (Bool) :=
 (bif (!(decide (((List.length s1:Nat):Int)=((List.length s2:Nat):Int))))then some false else(we s1 s2 ((List.length s1:Nat):Int) KK 0).bind (z8 some fun _=>some true))
def Qk(x_:Def)(y:Def):Option (Bool) :=
 (bif (decide (x_.Name=y.Name))then(xC KK (Expr.mk x_.Body.Op x_.Body.N x_.Body.S x_.Body.Key x_.Body.Args) (Expr.mk y.Body.Op y.Body.N y.Body.S y.Body.Key y.Body.Args)).bind fun x1=>some x1 else some false)
def yQ(c0:(List Def))(c1:(List Def))(c2:Int):Nat→(Int)→Option ((Bool)⊕(Unit))
 |0,_=>none
 |K+1,q=>(bif (decide (q<c2))then(idx c1 q).bind fun x1=>(idx c0 q).bind fun x2=>(Qk (Def.mk x1.Name (Expr.mk x1.Body.Op x1.Body.N x1.Body.S x1.Body.Key x1.Body.Args)) (Def.mk x2.Name (Expr.mk x2.Body.Op x2.Body.N x2.Body.S x2.Body.Key x2.Body.Args))).bind fun x3=>(bif (!x3)then some (Sum.inl false)else yQ c0 c1 c2 K (w64 (q+1)))else some (Sum.inr ()))
def yh(s1:(List Def))(s2:(List Def)):Option (Bool) :=
 (bif (!(decide (((List.length s1:Nat):Int)=((List.length s2:Nat):Int))))then some false else(yQ s2 s1 ((List.length s1:Nat):Int) KK 0).bind (z8 some fun _=>some true))
def wg(c0:(List Entry))(c1:(List Entry))(c2:Int):Nat→(Int)→Option ((Bool)⊕(Unit))
 |0,_=>none
 |K+1,q=>(bif (decide (q<c2))then(idx c0 q).bind fun x1=>(idx c1 q).bind fun x2=>(bif (!(decide (x1.Name=x2.Name)&&(decide (x1.N=x2.N))))then some (Sum.inl false)else wg c0 c1 c2 K (w64 (q+1)))else some (Sum.inr ()))
def xX(s1:(List Entry))(s2:(List Entry)):Option (Bool) :=
 (bif (!(decide (((List.length s1:Nat):Int)=((List.length s2:Nat):Int))))then some false else(wg s1 s2 ((List.length s1:Nat):Int) KK 0).bind (z8 some fun _=>some true))
def Ql(x_:Table)(y:Table):Option (Bool) :=
 (bif (decide (x_.Name=y.Name))then(bif (decide (x_.Else=y.Else))then(xX x_.Rows y.Rows).bind fun x1=>some x1 else some false)else some false)
def yR(c0:(List Table))(c1:(List Table))(c2:Int):Nat→(Int)→Option ((Bool)⊕(Unit))
 |0,_=>none
 |K+1,q=>(bif (decide (q<c2))then(idx c1 q).bind fun x1=>(idx c0 q).bind fun x2=>(Ql x1 x2).bind fun x3=>(bif (!x3)then some (Sum.inl false)else yR c0 c1 c2 K (w64 (q+1)))else some (Sum.inr ()))
def yi(s1:(List Table))(s2:(List Table)):Option (Bool) :=
 (bif (!(decide (((List.length s1:Nat):Int)=((List.length s2:Nat):Int))))then some false else(yR s2 s1 ((List.length s1:Nat):Int) KK 0).bind (z8 some fun _=>some true))
def yS(c0:(List zb))(c1:(List zb))(c2:Int):Nat→(Int)→Option ((Bool)⊕(Unit))
 |0,_=>none
 |K+1,q=>(bif (decide (q<c2))then(idx c1 q).bind fun x1=>(idx c0 q).bind fun x2=>(ve (zb.mk x1.Name x1.Zones x1.Except x1.From x1.Until x1.Grace x1.Vary x1.Kind (Expr.mk x1.Test.Op x1.Test.N x1.Test.S x1.Test.Key x1.Test.Args) x1.zg x1.Uses x1.Other x1.N) (zb.mk x2.Name x2.Zones x2.Except x2.From x2.Until x2.Grace x2.Vary x2.Kind (Expr.mk x2.Test.Op x2.Test.N x2.Test.S x2.Test.Key x2.Test.Args) x2.zg x2.Uses x2.Other x2.N)).bind fun x3=>(bif (!x3)then some (Sum.inl false)else yS c0 c1 c2 K (w64 (q+1)))else some (Sum.inr ()))
def yj(s1:(List zb))(s2:(List zb)):Option (Bool) :=
 (bif (!(decide (((List.length s1:Nat):Int)=((List.length s2:Nat):Int))))then some false else(yS s2 s1 ((List.length s1:Nat):Int) KK 0).bind (z8 some fun _=>some true))
def Qm(x_:zr)(y:zr):Option (Bool) :=
 (bif (decide (x_.Name=y.Name))then(bif (x_.Overlay==y.Overlay)then(zZ x_.Corners y.Corners).bind fun x1=>some x1 else some false)else some false)
def yT(c0:(List zr))(c1:(List zr))(c2:Int):Nat→(Int)→Option ((Bool)⊕(Unit))
 |0,_=>none
 |K+1,q=>(bif (decide (q<c2))then(idx c1 q).bind fun x1=>(idx c0 q).bind fun x2=>(Qm x1 x2).bind fun x3=>(bif (!x3)then some (Sum.inl false)else yT c0 c1 c2 K (w64 (q+1)))else some (Sum.inr ()))
def yk(s1:(List zr))(s2:(List zr)):Option (Bool) :=
 (bif (!(decide (((List.length s1:Nat):Int)=((List.length s2:Nat):Int))))then some false else(yT s2 s1 ((List.length s1:Nat):Int) KK 0).bind (z8 some fun _=>some true))
def Qn(x_:Cap)(y:Cap):Option (Bool) :=
 (bif (decide (x_.Name=y.Name))then(bif (decide (x_.Load=y.Load))then(bif (decide (x_.Limit=y.Limit))then(zZ x_.Corners y.Corners).bind fun x1=>some x1 else some false)else some false)else some false)
def yU(c0:(List Cap))(c1:(List Cap))(c2:Int):Nat→(Int)→Option ((Bool)⊕(Unit))
 |0,_=>none
 |K+1,q=>(bif (decide (q<c2))then(idx c1 q).bind fun x1=>(idx c0 q).bind fun x2=>(Qn x1 x2).bind fun x3=>(bif (!x3)then some (Sum.inl false)else yU c0 c1 c2 K (w64 (q+1)))else some (Sum.inr ()))
def yl(s1:(List Cap))(s2:(List Cap)):Option (Bool) :=
 (bif (!(decide (((List.length s1:Nat):Int)=((List.length s2:Nat):Int))))then some false else(yU s2 s1 ((List.length s1:Nat):Int) KK 0).bind (z8 some fun _=>some true))
def wh(c0:(List zj))(c1:(List zj))(c2:Int):Nat→(Int)→Option ((Bool)⊕(Unit))
 |0,_=>none
 |K+1,q=>(bif (decide (q<c2))then(idx c0 q).bind fun x1=>(idx c1 q).bind fun x2=>(bif (!(decide (x1.X=x2.X)&&(decide (x1.Y=x2.Y)&&(decide (x1.Z_=x2.Z_)))))then some (Sum.inl false)else wh c0 c1 c2 K (w64 (q+1)))else some (Sum.inr ()))
def y0(s1:(List zj))(s2:(List zj)):Option (Bool) :=
 (bif (!(decide (((List.length s1:Nat):Int)=((List.length s2:Nat):Int))))then some false else(wh s1 s2 ((List.length s1:Nat):Int) KK 0).bind (z8 some fun _=>some true))
def Qo(x_:View)(y:View):Option (Bool) :=
 (bif (decide (x_.Name=y.Name))then(bif (decide (x_.Eye.X=y.Eye.X)&&(decide (x_.Eye.Y=y.Eye.Y)&&(decide (x_.Eye.Z_=y.Eye.Z_))))then(bif (decide (x_.Least=y.Least))then(y0 x_.Targets y.Targets).bind fun x1=>some x1 else some false)else some false)else some false)
def yV(c0:(List View))(c1:(List View))(c2:Int):Nat→(Int)→Option ((Bool)⊕(Unit))
 |0,_=>none
 |K+1,q=>(bif (decide (q<c2))then(idx c1 q).bind fun x1=>(idx c0 q).bind fun x2=>(Qo x1 x2).bind fun x3=>(bif (!x3)then some (Sum.inl false)else yV c0 c1 c2 K (w64 (q+1)))else some (Sum.inr ()))
def ym(s1:(List View))(s2:(List View)):Option (Bool) :=
 (bif (!(decide (((List.length s1:Nat):Int)=((List.length s2:Nat):Int))))then some false else(yV s2 s1 ((List.length s1:Nat):Int) KK 0).bind (z8 some fun _=>some true))
def Vf(a:zK)(b:zK):Option (Bool) :=
 ((yh a.Defs b.Defs).bind fun x2=>(bif x2 then(yi a.Tables b.Tables).bind fun x3=>(bif x3 then(yj a.Rules b.Rules).bind fun x4=>some x4 else some false)else some false)).bind fun x1=>((yk a.Zones b.Zones).bind fun x6=>(bif x6 then(yl a.Caps b.Caps).bind fun x7=>(bif x7 then(ym a.Views b.Views).bind fun x8=>some x8 else some false)else some false)).bind fun x5=>(bif x1 then(bif x5 then(y0 a.Sun b.Sun).bind fun x9=>(bif x9 then some (decide (a.Hours=b.Hours))else some false)else some false)else some false)
def vt(a:zq)(b:zq):Option (Bool) :=
 ((bif (decide (a.Kind=b.Kind))then(bif (decide (a.Name=b.Name))then(bif (decide (a.Key=b.Key))then(bif (decide (a.N=b.N))then(zZ a.Corners b.Corners).bind fun x2=>some x2 else some false)else some false)else some false)else some false)).bind fun x1=>(bif x1 then(Vf (zK.mk ([(Def.mk ([]:List UInt8) (Expr.mk a.Body.Op a.Body.N a.Body.S a.Body.Key a.Body.Args))]:List Def) [] [] ([(zb.mk a.zb.Name a.zb.Zones a.zb.Except a.zb.From a.zb.Until a.zb.Grace a.zb.Vary a.zb.Kind (Expr.mk a.zb.Test.Op a.zb.Test.N a.zb.Test.S a.zb.Test.Key a.zb.Test.Args) a.zb.zg a.zb.Uses a.zb.Other a.zb.N)]:List zb) [] [] [] 0) (zK.mk ([(Def.mk ([]:List UInt8) (Expr.mk b.Body.Op b.Body.N b.Body.S b.Body.Key b.Body.Args))]:List Def) [] [] ([(zb.mk b.zb.Name b.zb.Zones b.zb.Except b.zb.From b.zb.Until b.zb.Grace b.zb.Vary b.zb.Kind (Expr.mk b.zb.Test.Op b.zb.Test.N b.zb.Test.S b.zb.Test.Key b.zb.Test.Args) b.zb.zg b.zb.Uses b.zb.Other b.zb.N)]:List zb) [] [] [] 0)).bind fun x3=>some x3 else some false)
def yr(e:zq):Option (Bool) :=
 (Jk (zq.mk e.Kind e.Name e.Key e.N (zb.mk e.zb.Name e.zb.Zones e.zb.Except e.zb.From e.zb.Until e.zb.Grace e.zb.Vary e.zb.Kind (Expr.mk e.zb.Test.Op e.zb.Test.N e.zb.Test.S e.zb.Test.Key e.zb.Test.Args) e.zb.zg e.zb.Uses e.zb.Other e.zb.N) (Expr.mk e.Body.Op e.Body.N e.Body.S e.Body.Key e.Body.Args) e.Corners)).bind fun x1=>(bif x1.1 then(uh (zK.mk x1.2.1 x1.2.2.1 x1.2.2.2.1 x1.2.2.2.2.1 x1.2.2.2.2.2.1 x1.2.2.2.2.2.2.1 x1.2.2.2.2.2.2.2.1 x1.2.2.2.2.2.2.2.2)).bind fun x2=>(bif x2 then(Al (zK.mk x1.2.1 x1.2.2.1 x1.2.2.2.1 x1.2.2.2.2.1 x1.2.2.2.2.2.1 x1.2.2.2.2.2.2.1 x1.2.2.2.2.2.2.2.1 x1.2.2.2.2.2.2.2.2)).bind fun x3=>(vt (zq.mk x3.1 x3.2.1 x3.2.2.1 x3.2.2.2.1 (zb.mk x3.2.2.2.2.1 x3.2.2.2.2.2.1 x3.2.2.2.2.2.2.1 x3.2.2.2.2.2.2.2.1 x3.2.2.2.2.2.2.2.2.1 x3.2.2.2.2.2.2.2.2.2.1 x3.2.2.2.2.2.2.2.2.2.2.1 x3.2.2.2.2.2.2.2.2.2.2.2.1 (Expr.mk x3.2.2.2.2.2.2.2.2.2.2.2.2.1 x3.2.2.2.2.2.2.2.2.2.2.2.2.2.1 x3.2.2.2.2.2.2.2.2.2.2.2.2.2.2.1 x3.2.2.2.2.2.2.2.2.2.2.2.2.2.2.2.1 x3.2.2.2.2.2.2.2.2.2.2.2.2.2.2.2.2.1) (zg.mk x3.2.2.2.2.2.2.2.2.2.2.2.2.2.2.2.2.2.1 x3.2.2.2.2.2.2.2.2.2.2.2.2.2.2.2.2.2.2.1 x3.2.2.2.2.2.2.2.2.2.2.2.2.2.2.2.2.2.2.2.1 x3.2.2.2.2.2.2.2.2.2.2.2.2.2.2.2.2.2.2.2.2.1) x3.2.2.2.2.2.2.2.2.2.2.2.2.2.2.2.2.2.2.2.2.2.1 x3.2.2.2.2.2.2.2.2.2.2.2.2.2.2.2.2.2.2.2.2.2.2.1 x3.2.2.2.2.2.2.2.2.2.2.2.2.2.2.2.2.2.2.2.2.2.2.2.1) (Expr.mk x3.2.2.2.2.2.2.2.2.2.2.2.2.2.2.2.2.2.2.2.2.2.2.2.2.1 x3.2.2.2.2.2.2.2.2.2.2.2.2.2.2.2.2.2.2.2.2.2.2.2.2.2.1 x3.2.2.2.2.2.2.2.2.2.2.2.2.2.2.2.2.2.2.2.2.2.2.2.2.2.2.1 x3.2.2.2.2.2.2.2.2.2.2.2.2.2.2.2.2.2.2.2.2.2.2.2.2.2.2.2.1 x3.2.2.2.2.2.2.2.2.2.2.2.2.2.2.2.2.2.2.2.2.2.2.2.2.2.2.2.2.1) x3.2.2.2.2.2.2.2.2.2.2.2.2.2.2.2.2.2.2.2.2.2.2.2.2.2.2.2.2.2) (zq.mk e.Kind e.Name e.Key e.N (zb.mk e.zb.Name e.zb.Zones e.zb.Except e.zb.From e.zb.Until e.zb.Grace e.zb.Vary e.zb.Kind (Expr.mk e.zb.Test.Op e.zb.Test.N e.zb.Test.S e.zb.Test.Key e.zb.Test.Args) e.zb.zg e.zb.Uses e.zb.Other e.zb.N) (Expr.mk e.Body.Op e.Body.N e.Body.S e.Body.Key e.Body.Args) e.Corners)).bind fun x4=>some x4 else some false)else((vt (zq.mk e.Kind e.Name e.Key e.N (zb.mk e.zb.Name e.zb.Zones e.zb.Except e.zb.From e.zb.Until e.zb.Grace e.zb.Vary e.zb.Kind (Expr.mk e.zb.Test.Op e.zb.Test.N e.zb.Test.S e.zb.Test.Key e.zb.Test.Args) e.zb.zg e.zb.Uses e.zb.Other e.zb.N) (Expr.mk e.Body.Op e.Body.N e.Body.S e.Body.Key e.Body.Args) e.Corners) (zq.mk e.Kind e.Name e.Key e.N (zb.mk ([]:List UInt8) [] [] 0 0 0 false 0 (Expr.mk 0 0 ([]:List UInt8) ([]:List UInt8) []) (zg.mk 0 0 0 0) 0 0 0) (Expr.mk 0 0 ([]:List UInt8) ([]:List UInt8) []) [])).bind fun x6=>(bif (!x6)then some true else(Jj e.Name).bind fun x7=>some (!x7))).bind fun x5=>(bif x5 then some false else(bif (decide (e.Kind=1))then(bif (decide (e.Key=([]:List UInt8)))then(bif (decide (e.N≥1))then some (decide (e.N≤1073741824))else some false)else some false)else(bif (decide (e.Kind=3))then(Jj e.Key).bind fun x8=>(bif x8 then(bif (decide (e.N≥(-1099511627776)))then some (decide (e.N≤1099511627776))else some false)else some false)else(bif (decide (e.Kind=5))then(bif (decide (e.Key=([]:List UInt8)))then(bif (decide (e.N≥0))then some (decide (e.N≤1099511627776))else some false)else some false)else some false)))))
def Vg(e:zq):Option (Bool) :=
 (yr (zq.mk e.Kind e.Name e.Key e.N (zb.mk e.zb.Name e.zb.Zones e.zb.Except e.zb.From e.zb.Until e.zb.Grace e.zb.Vary e.zb.Kind (Expr.mk e.zb.Test.Op e.zb.Test.N e.zb.Test.S e.zb.Test.Key e.zb.Test.Args) e.zb.zg e.zb.Uses e.zb.Other e.zb.N) (Expr.mk e.Body.Op e.Body.N e.Body.S e.Body.Key e.Body.Args) e.Corners)).bind fun x1=>some (!x1)
def xp(c0:(List zq))(c1:Int):Nat→(Int)→Option ((Int)⊕(Unit))
 |0,_=>none
 |K+1,q=>(bif (decide (q<c1))then(idx c0 q).bind fun x1=>(Vg x1).bind fun x2=>(bif x2 then some (Sum.inl q)else xp c0 c1 K (w64 (q+1)))else some (Sum.inr ()))
def kO(s:(List zq)):Option (Int) :=
 (xp s ((List.length s:Nat):Int) KK 0).bind (z8 some fun _=>some (-1))
def vz(s:(List zq)):Option (Bool) :=
 (kO s).bind fun x1=>some (decide (x1≥0))
def oq(a0:Int):Option ((List UInt8)):=zoj a0
def zcf(a0:(List UInt8))(a1:(List UInt8))(a2:(List UInt8))(a3:Int):Option ((List UInt8)):=Q7 a0 a1 a2 a3
def zh2(e:zq):Option ((List UInt8)) :=
 (oq e.N).bind fun x1=>(zcf x1 zxp zA8 1).bind fun x2=>(bif (decide (e.Kind=1))then(grd (List.length zb4+List.length e.Name≤9223372036854775807)).bind fun _=>(grd (List.length (zb4++e.Name)+List.length t__≤9223372036854775807)).bind fun _=>(grd (List.length ((zb4++e.Name)++t__)+List.length x2≤9223372036854775807)).bind fun _=>(grd (List.length (((zb4++e.Name)++t__)++x2)+List.length qv≤9223372036854775807)).bind fun _=>some ((((zb4++e.Name)++t__)++x2)++qv)else(bif (decide (e.Kind=3))then(grd (List.length Vc+List.length e.Name≤9223372036854775807)).bind fun _=>(grd (List.length (Vc++e.Name)+List.length t__≤9223372036854775807)).bind fun _=>(grd (List.length ((Vc++e.Name)++t__)+List.length e.Key≤9223372036854775807)).bind fun _=>(grd (List.length (((Vc++e.Name)++t__)++e.Key)+List.length t__≤9223372036854775807)).bind fun _=>(grd (List.length ((((Vc++e.Name)++t__)++e.Key)++t__)+List.length x2≤9223372036854775807)).bind fun _=>(grd (List.length (((((Vc++e.Name)++t__)++e.Key)++t__)++x2)+List.length qv≤9223372036854775807)).bind fun _=>some ((((((Vc++e.Name)++t__)++e.Key)++t__)++x2)++qv)else(grd (List.length Ji+List.length e.Name≤9223372036854775807)).bind fun _=>(grd (List.length (Ji++e.Name)+List.length t__≤9223372036854775807)).bind fun _=>(grd (List.length ((Ji++e.Name)++t__)+List.length x2≤9223372036854775807)).bind fun _=>(grd (List.length (((Ji++e.Name)++t__)++x2)+List.length qv≤9223372036854775807)).bind fun _=>some ((((Ji++e.Name)++t__)++x2)++qv)))
def zos(a0:(List UInt8))(a1:(List UInt8)):Option (Int×(List UInt8)):=(grd (List.length a0+List.length a1≤140737488355328)).bind fun _=>some (((List.length a1:Nat):Int),a0++a1)
def zot(a0:(List UInt8)):Option (Int):=some ((List.length a0:Nat):Int)
def Yc(a0:(List UInt8)):Option ((List UInt8)):=some a0
def ou(c0:Int)(c1:(List zq))(c2:Int):Nat→(Int×(List UInt8))→Option (((List UInt8)×Int)⊕((List UInt8)))
 |0,_=>none
 |K+1,q=>(bif (decide (q.1<c2))then(idx c1 q.1).bind fun x1=>(yr (zq.mk x1.Kind x1.Name x1.Key x1.N (zb.mk x1.zb.Name x1.zb.Zones x1.zb.Except x1.zb.From x1.zb.Until x1.zb.Grace x1.zb.Vary x1.zb.Kind (Expr.mk x1.zb.Test.Op x1.zb.Test.N x1.zb.Test.S x1.zb.Test.Key x1.zb.Test.Args) x1.zb.zg x1.zb.Uses x1.zb.Other x1.zb.N) (Expr.mk x1.Body.Op x1.Body.N x1.Body.S x1.Body.Key x1.Body.Args) x1.Corners)).bind fun x2=>(bif (!x2)then some (Sum.inl (([]:List UInt8),1))else(Jk (zq.mk x1.Kind x1.Name x1.Key x1.N (zb.mk x1.zb.Name x1.zb.Zones x1.zb.Except x1.zb.From x1.zb.Until x1.zb.Grace x1.zb.Vary x1.zb.Kind (Expr.mk x1.zb.Test.Op x1.zb.Test.N x1.zb.Test.S x1.zb.Test.Key x1.zb.Test.Args) x1.zb.zg x1.zb.Uses x1.zb.Other x1.zb.N) (Expr.mk x1.Body.Op x1.Body.N x1.Body.S x1.Body.Key x1.Body.Args) x1.Corners)).bind fun x3=>(bif x3.1 then none else(zh2 (zq.mk x1.Kind x1.Name x1.Key x1.N (zb.mk x1.zb.Name x1.zb.Zones x1.zb.Except x1.zb.From x1.zb.Until x1.zb.Grace x1.zb.Vary x1.zb.Kind (Expr.mk x1.zb.Test.Op x1.zb.Test.N x1.zb.Test.S x1.zb.Test.Key x1.zb.Test.Args) x1.zb.zg x1.zb.Uses x1.zb.Other x1.zb.N) (Expr.mk x1.Body.Op x1.Body.N x1.Body.S x1.Body.Key x1.Body.Args) x1.Corners)).bind fun x4=>(zos q.2 x4).bind fun x5=>ou c0 c1 c2 K ((w64 (q.1+1)),x5.2)))else some (Sum.inr q.2))
def zcg(l:(List zq)):Option ((List UInt8)×Int) :=
 ((vz l).bind fun x2=>(bif (!x2)then some (decide (((List.length l:Nat):Int)>200))else some false)).bind fun x1=>(bif x1 then some (([]:List UInt8),6)else(ou 0 l ((List.length l:Nat):Int) KK (0,([]:List UInt8))).bind (z8 some fun x3=>((bif (!(decide (0=0)))then some true else(zot x3).bind fun x5=>some (decide (x5>8000)))).bind fun x4=>(bif x4 then some (([]:List UInt8),6)else(Yc x3).bind fun x6=>some (x6,0))))
def vh(name:(List UInt8)):Option ((List UInt8)) :=
 some name
def ui(r_:zb)(a1:(List UInt8)):Option (Bool) :=
 some (decide (r_.Name=a1))
def zC(c0:(List UInt8))(c1:(List zb))(c2:Int):Nat→(Int)→Option ((Int)⊕(Unit))
 |0,_=>none
 |K+1,q=>(bif (decide (q<c2))then(idx c1 q).bind fun x1=>(ui x1 c0).bind fun x2=>(bif x2 then some (Sum.inl q)else zC c0 c1 c2 K (w64 (q+1)))else some (Sum.inr ()))
def yn(s:(List zb))(r_:(List UInt8)):Option (Int) :=
 (zC r_ s ((List.length s:Nat):Int) KK 0).bind (z8 some fun _=>some (-1))
def zO(s:(List zb))(r_:(List UInt8)):Option (Bool) :=
 (yn s r_).bind fun x1=>some (decide (x1≥0))
def ye(s:(List zb)):Option ((List zb)) :=
 (grd (List.length (([]:List zb)++s)*232≤140737488355328)).bind fun _=>some (([]:List zb)++s)
def Vh(a0:zb):Option (Bool) :=
 some false
def zD(c0:(List zb))(c1:Int):Nat→(Int)→Option ((Int)⊕(Unit))
 |0,_=>none
 |K+1,q=>(bif (decide (q<c1))then(grd (0≤q∧q<(((List.length c0):Nat):Int))).bind fun _=>((c0)[(Int.toNat q)]?).bind fun x2=>(Vh x2).bind fun x3=>(bif x3 then some (Sum.inl q)else zD c0 c1 K (w64 (q+1)))else some (Sum.inr ()))
def xJ(s:(List zb)):Option (Int) :=
 (zD s (((List.length s):Nat):Int) KK 0).bind (z8 some fun _=>some (-1))
def ko(r_:(List zb))(ri:Int)(ed:EB):Option ((List zb)) :=
 ((r_)[(Int.toNat ri)]?).bind fun _=>some (List.set r_ (Int.toNat ri) (zb.mk ed.r0 ed.r1 ed.r2 ed.r3 ed.r4 ed.r5 ed.r6 ed.r7 (Expr.mk ed.r8 ed.r9 ed.r10 ed.r11 ed.r12) (zg.mk ed.r13 ed.r14 ed.r15 ed.r16) ed.r17 ed.r18 ed.r19))
def ZH(l:(List zb))(ed:EB)(most:Int):Option ((List zb)×Int) :=
 (ye l).bind fun x1=>(xJ x1).bind fun x2=>((bif (decide (x2<0))then(bif (decide ((((List.length x1):Nat):Int)≥most))then(grd (eqB []=true)).bind fun _=>some (Sum.inl ([],6))else(grd (List.length (x1++([(zb.mk ([]:List UInt8) [] [] 0 0 0 false 0 (Expr.mk 0 0 ([]:List UInt8) ([]:List UInt8) []) (zg.mk 0 0 0 0) 0 0 0)]:List zb))*232≤140737488355328)).bind fun _=>some (Sum.inr ((((List.length x1):Nat):Int),(x1++([(zb.mk ([]:List UInt8) [] [] 0 0 0 false 0 (Expr.mk 0 0 ([]:List UInt8) ([]:List UInt8) []) (zg.mk 0 0 0 0) 0 0 0)]:List zb)))))else some (Sum.inr (x2,x1)))).bind (z8 some fun x3=>(grd (0≤x3.1∧x3.1<(((List.length x3.2):Nat):Int))).bind fun _=>(ko x3.2 (((Int.toNat x3.1):Nat):Int) ed).bind fun x6=>(grd (eqB [((List.length x3.2),List.length x6)]=true)).bind fun _=>some (x6,0))
def zE(c0:(List zb))(c1:(List UInt8))(c2:Int):Nat→(Int)→Option ((Int)⊕(Unit))
 |0,_=>none
 |K+1,q=>(bif (decide (q<c2))then(grd (0≤q∧q<(((List.length c0):Nat):Int))).bind fun _=>((c0)[(Int.toNat q)]?).bind fun x2=>(ui x2 c1).bind fun x3=>(bif x3 then some (Sum.inl q)else zE c0 c1 c2 K (w64 (q+1)))else some (Sum.inr ()))
def xK(s:(List zb))(r_:(List UInt8)):Option (Int) :=
 (zE s r_ (((List.length s):Nat):Int) KK 0).bind (z8 some fun _=>some (-1))
def kp(r_:(List zb))(ri:Int)(ed:EB):Option ((List zb)) :=
 ((r_)[(Int.toNat ri)]?).bind fun x1=>some (List.set r_ (Int.toNat ri) (zb.mk x1.Name x1.Zones x1.Except x1.From ed.m x1.Grace x1.Vary x1.Kind (Expr.mk x1.Test.Op x1.Test.N x1.Test.S x1.Test.Key x1.Test.Args) x1.zg x1.Uses x1.Other x1.N))
def Jl(l:(List zb))(r_:(List UInt8))(ed:EB)(most:Int):Option ((List zb)×Int) :=
 (ye l).bind fun x1=>(xK x1 r_).bind fun x2=>((bif (decide (x2<0))then(bif (decide ((((List.length x1):Nat):Int)≥most))then(grd (eqB []=true)).bind fun _=>some (Sum.inl ([],6))else(grd (List.length (x1++([(zb.mk ([]:List UInt8) [] [] 0 0 0 false 0 (Expr.mk 0 0 ([]:List UInt8) ([]:List UInt8) []) (zg.mk 0 0 0 0) 0 0 0)]:List zb))*232≤140737488355328)).bind fun _=>some (Sum.inr ((((List.length x1):Nat):Int),(x1++([(zb.mk ([]:List UInt8) [] [] 0 0 0 false 0 (Expr.mk 0 0 ([]:List UInt8) ([]:List UInt8) []) (zg.mk 0 0 0 0) 0 0 0)]:List zb)))))else some (Sum.inr (x2,x1)))).bind (z8 some fun x3=>(grd (0≤x3.1∧x3.1<(((List.length x3.2):Nat):Int))).bind fun _=>(kp x3.2 (((Int.toNat x3.1):Nat):Int) ed).bind fun x6=>(grd (eqB [((List.length x3.2),List.length x6)]=true)).bind fun _=>some (x6,0))
def kP(l:(List zb))(r_:(List UInt8))(ed:EB):Option ((List zb)×Int) :=
 (zO l r_).bind fun x1=>(bif (!x1)then some ([],4)else(Jl l r_ ed ((List.length l:Nat):Int)).bind fun x2=>some (x2.1,x2.2))
def y3(s:(List Def)):Option ((List Def)) :=
 (grd (List.length (([]:List Def)++s)*88≤140737488355328)).bind fun _=>some (([]:List Def)++s)
def Vi(d:Def)(ed:EB):Option (Bool) :=
 some (decide (d.Name=ed.n))
def zF(ed:EB)(c0:(List Def))(c31:Int):Nat→(Int)→Option ((Int)⊕(Unit))
 |0,_=>none
 |K+1,q=>(bif (decide (q<c31))then(grd (0≤q∧q<(((List.length c0):Nat):Int))).bind fun _=>((c0)[(Int.toNat q)]?).bind fun x2=>(Vi x2 ed).bind fun x3=>(bif x3 then some (Sum.inl q)else zF ed c0 c31 K (w64 (q+1)))else some (Sum.inr ()))
def xL(s:(List Def))(ed:EB):Option (Int) :=
 (zF ed s (((List.length s):Nat):Int) KK 0).bind (z8 some fun _=>some (-1))
def kq(d:(List Def))(di:Int)(ed:EB):Option ((List Def)) :=
 ((d)[(Int.toNat di)]?).bind fun _=>some (List.set d (Int.toNat di) (Def.mk ed.n (Expr.mk ed.b0 ed.b1 ed.b2 ed.b3 ed.b4)))
def Jm(l:(List Def))(ed:EB)(most:Int):Option ((List Def)×Int) :=
 (y3 l).bind fun x1=>(xL x1 ed).bind fun x2=>((bif (decide (x2<0))then(bif (decide ((((List.length x1):Nat):Int)≥most))then(grd (eqB []=true)).bind fun _=>some (Sum.inl ([],6))else(grd (List.length (x1++([(Def.mk ([]:List UInt8) (Expr.mk 0 0 ([]:List UInt8) ([]:List UInt8) []))]:List Def))*88≤140737488355328)).bind fun _=>some (Sum.inr ((((List.length x1):Nat):Int),(x1++([(Def.mk ([]:List UInt8) (Expr.mk 0 0 ([]:List UInt8) ([]:List UInt8) []))]:List Def)))))else some (Sum.inr (x2,x1)))).bind (z8 some fun x3=>(grd (0≤x3.1∧x3.1<(((List.length x3.2):Nat):Int))).bind fun _=>(kq x3.2 (((Int.toNat x3.1):Nat):Int) ed).bind fun x6=>(grd (eqB [((List.length x3.2),List.length x6)]=true)).bind fun _=>some (x6,0))
def y4(s:(List Table)):Option ((List Table)) :=
 (grd (List.length (([]:List Table)++s)*48≤140737488355328)).bind fun _=>some (([]:List Table)++s)
def Vj(t:Table)(ed:EB):Option (Bool) :=
 some (decide (t.Name=ed.n))
def zG(ed:EB)(c0:(List Table))(c31:Int):Nat→(Int)→Option ((Int)⊕(Unit))
 |0,_=>none
 |K+1,q=>(bif (decide (q<c31))then(grd (0≤q∧q<(((List.length c0):Nat):Int))).bind fun _=>((c0)[(Int.toNat q)]?).bind fun x2=>(Vj x2 ed).bind fun x3=>(bif x3 then some (Sum.inl q)else zG ed c0 c31 K (w64 (q+1)))else some (Sum.inr ()))
def xM(s:(List Table))(ed:EB):Option (Int) :=
 (zG ed s (((List.length s):Nat):Int) KK 0).bind (z8 some fun _=>some (-1))
def xY(s:(List Entry)):Option ((List Entry)) :=
 (grd (List.length (([]:List Entry)++s)*24≤140737488355328)).bind fun _=>some (([]:List Entry)++s)
def Jn(x_:Entry)(ed:EB):Option (Bool) :=
 some (decide (x_.Name=ed.y))
def zH(ed:EB)(c0:(List Entry))(c31:Int):Nat→(Int)→Option ((Int)⊕(Unit))
 |0,_=>none
 |K+1,q=>(bif (decide (q<c31))then(grd (0≤q∧q<(((List.length c0):Nat):Int))).bind fun _=>((c0)[(Int.toNat q)]?).bind fun x2=>(Jn x2 ed).bind fun x3=>(bif x3 then some (Sum.inl q)else zH ed c0 c31 K (w64 (q+1)))else some (Sum.inr ()))
def xN(s:(List Entry))(ed:EB):Option (Int) :=
 (zH ed s (((List.length s):Nat):Int) KK 0).bind (z8 some fun _=>some (-1))
def wK(x_:(List Entry))(xi:Int)(ed:EB):Option ((List Entry)) :=
 ((x_)[(Int.toNat xi)]?).bind fun _=>some (List.set x_ (Int.toNat xi) (Entry.mk ed.y ed.m))
def ow(l:(List Entry))(ed:EB)(most:Int):Option ((List Entry)×Int) :=
 (xY l).bind fun x1=>(xN x1 ed).bind fun x2=>((bif (decide (x2<0))then(bif (decide ((((List.length x1):Nat):Int)≥most))then(grd (eqB []=true)).bind fun _=>some (Sum.inl ([],6))else(grd (List.length (x1++([(Entry.mk ([]:List UInt8) 0)]:List Entry))*24≤140737488355328)).bind fun _=>some (Sum.inr ((((List.length x1):Nat):Int),(x1++([(Entry.mk ([]:List UInt8) 0)]:List Entry)))))else some (Sum.inr (x2,x1)))).bind (z8 some fun x3=>(grd (0≤x3.1∧x3.1<(((List.length x3.2):Nat):Int))).bind fun _=>(wK x3.2 (((Int.toNat x3.1):Nat):Int) ed).bind fun x6=>(grd (eqB [((List.length x3.2),List.length x6)]=true)).bind fun _=>some (x6,0))
def kr(t:(List Table))(ti:Int)(ed:EB)(a2:Int):Option ((List Table)×Int) :=
 ((t)[(Int.toNat ti)]?).bind fun x1=>(((List.set t (Int.toNat ti) (Table.mk ed.n x1.Rows x1.Else)))[(Int.toNat ti)]?).bind fun x2=>(ow x2.Rows ed 60).bind fun x3=>(((List.set t (Int.toNat ti) (Table.mk ed.n x1.Rows x1.Else)))[(Int.toNat ti)]?).bind fun x4=>some ((List.set (List.set t (Int.toNat ti) (Table.mk ed.n x1.Rows x1.Else)) (Int.toNat ti) (Table.mk x4.Name x3.1 x4.Else)),x3.2)
def Jo(l:(List Table))(ed:EB)(t:Int)(most:Int):Option ((List Table)×Int×Int) :=
 (y4 l).bind fun x1=>(xM x1 ed).bind fun x2=>((bif (decide (x2<0))then(bif (decide ((((List.length x1):Nat):Int)≥most))then(grd (eqB []=true)).bind fun _=>some (Sum.inl ([],6,t))else(grd (List.length (x1++([(Table.mk ([]:List UInt8) [] 0)]:List Table))*48≤140737488355328)).bind fun _=>some (Sum.inr ((((List.length x1):Nat):Int),(x1++([(Table.mk ([]:List UInt8) [] 0)]:List Table)))))else some (Sum.inr (x2,x1)))).bind (z8 some fun x3=>(grd (0≤x3.1∧x3.1<(((List.length x3.2):Nat):Int))).bind fun _=>(kr x3.2 (((Int.toNat x3.1):Nat):Int) ed t).bind fun x6=>(grd (eqB [((List.length x3.2),List.length x6.1)]=true)).bind fun _=>some (x6.1,0,x6.2))
def Vk(z:zr)(ed:EB):Option (Bool) :=
 some (decide (z.Name=ed.n))
def zI(ed:EB)(c30:(List zr))(c31:Int):Nat→(Int)→Option ((Int)⊕(Unit))
 |0,_=>none
 |K+1,q=>(bif (decide (q<c31))then(idx c30 q).bind fun x1=>(Vk x1 ed).bind fun x2=>(bif x2 then some (Sum.inl q)else zI ed c30 c31 K (w64 (q+1)))else some (Sum.inr ()))
def xO(s:(List zr))(ed:EB):Option (Int) :=
 (zI ed s ((List.length s:Nat):Int) KK 0).bind (z8 some fun _=>some (-1))
def y5(s:(List zr)):Option ((List zr)) :=
 (grd (List.length (([]:List zr)++s)*48≤140737488355328)).bind fun _=>some (([]:List zr)++s)
def KJ(z:zr)(ed:EB):Option (Bool) :=
 some (decide (z.Name=ed.n))
def zJ(ed:EB)(c0:(List zr))(c31:Int):Nat→(Int)→Option ((Int)⊕(Unit))
 |0,_=>none
 |K+1,q=>(bif (decide (q<c31))then(grd (0≤q∧q<(((List.length c0):Nat):Int))).bind fun _=>((c0)[(Int.toNat q)]?).bind fun x2=>(KJ x2 ed).bind fun x3=>(bif x3 then some (Sum.inl q)else zJ ed c0 c31 K (w64 (q+1)))else some (Sum.inr ()))
def xP(s:(List zr))(ed:EB):Option (Int) :=
 (zJ ed s (((List.length s):Nat):Int) KK 0).bind (z8 some fun _=>some (-1))
def vA(z:(List zr))(zi:Int)(ed:EB):Option ((List zr)) :=
 ((z)[(Int.toNat zi)]?).bind fun _=>some (List.set z (Int.toNat zi) (zr.mk ed.n (decide (ed.m=1)) ed.c))
def Jp(l:(List zr))(ed:EB)(most:Int):Option ((List zr)×Int) :=
 (y5 l).bind fun x1=>(xP x1 ed).bind fun x2=>((bif (decide (x2<0))then(bif (decide ((((List.length x1):Nat):Int)≥most))then(grd (eqB []=true)).bind fun _=>some (Sum.inl ([],6))else(grd (List.length (x1++([(zr.mk ([]:List UInt8) false [])]:List zr))*48≤140737488355328)).bind fun _=>some (Sum.inr ((((List.length x1):Nat):Int),(x1++([(zr.mk ([]:List UInt8) false [])]:List zr)))))else some (Sum.inr (x2,x1)))).bind (z8 some fun x3=>(grd (0≤x3.1∧x3.1<(((List.length x3.2):Nat):Int))).bind fun _=>(vA x3.2 (((Int.toNat x3.1):Nat):Int) ed).bind fun x6=>(grd (eqB [((List.length x3.2),List.length x6)]=true)).bind fun _=>some (x6,0))
def ox(c_:Cap)(ed:EB):Option (Bool) :=
 some (decide (c_.Name=ed.n))
def zy(ed:EB)(c30:(List Cap))(c31:Int):Nat→(Int)→Option ((Int)⊕(Unit))
 |0,_=>none
 |K+1,q=>(bif (decide (q<c31))then(idx c30 q).bind fun x1=>(ox x1 ed).bind fun x2=>(bif x2 then some (Sum.inl q)else zy ed c30 c31 K (w64 (q+1)))else some (Sum.inr ()))
def xq(s:(List Cap))(ed:EB):Option (Int) :=
 (zy ed s ((List.length s:Nat):Int) KK 0).bind (z8 some fun _=>some (-1))
def z7(s:(List Cap))(ed:EB):Option (Bool) :=
 (xq s ed).bind fun x1=>some (decide (x1≥0))
def y6(s:(List Cap)):Option ((List Cap)) :=
 (grd (List.length (([]:List Cap)++s)*56≤140737488355328)).bind fun _=>some (([]:List Cap)++s)
def zA(ed:EB)(c0:(List Cap))(c31:Int):Nat→(Int)→Option ((Int)⊕(Unit))
 |0,_=>none
 |K+1,q=>(bif (decide (q<c31))then(grd (0≤q∧q<(((List.length c0):Nat):Int))).bind fun _=>((c0)[(Int.toNat q)]?).bind fun x2=>(ox x2 ed).bind fun x3=>(bif x3 then some (Sum.inl q)else zA ed c0 c31 K (w64 (q+1)))else some (Sum.inr ()))
def xr(s:(List Cap))(ed:EB):Option (Int) :=
 (zA ed s (((List.length s):Nat):Int) KK 0).bind (z8 some fun _=>some (-1))
def vB(c_:(List Cap))(ci:Int)(ed:EB):Option ((List Cap)) :=
 ((c_)[(Int.toNat ci)]?).bind fun x1=>some (List.set c_ (Int.toNat ci) (Cap.mk x1.Name x1.Load ed.m x1.Corners))
def Jq(l:(List Cap))(ed:EB)(most:Int):Option ((List Cap)×Int) :=
 (y6 l).bind fun x1=>(xr x1 ed).bind fun x2=>((bif (decide (x2<0))then(bif (decide ((((List.length x1):Nat):Int)≥most))then(grd (eqB []=true)).bind fun _=>some (Sum.inl ([],6))else(grd (List.length (x1++([(Cap.mk ([]:List UInt8) 0 0 [])]:List Cap))*56≤140737488355328)).bind fun _=>some (Sum.inr ((((List.length x1):Nat):Int),(x1++([(Cap.mk ([]:List UInt8) 0 0 [])]:List Cap)))))else some (Sum.inr (x2,x1)))).bind (z8 some fun x3=>(grd (0≤x3.1∧x3.1<(((List.length x3.2):Nat):Int))).bind fun _=>(vB x3.2 (((Int.toNat x3.1):Nat):Int) ed).bind fun x6=>(grd (eqB [((List.length x3.2),List.length x6)]=true)).bind fun _=>some (x6,0))
def vu(l:(List Cap))(ed:EB):Option ((List Cap)×Int) :=
 (z7 l ed).bind fun x1=>(bif (!x1)then some ([],4)else(Jq l ed ((List.length l:Nat):Int)).bind fun x2=>some (x2.1,x2.2))
def yd(p:zK)(e:zq):Option (Int×(List Def)×(List Table)×(List zr)×(List zb)×(List Cap)×(List View)×(List zj)×Int) :=
 ((bif (decide (e.Kind=0))then(vh e.zb.Name).bind fun x2=>(zO p.Rules x2).bind fun x3=>(bif x3 then some (Sum.inl (5,p.Defs,p.Tables,p.Zones,p.Rules,p.Caps,p.Views,p.Sun,p.Hours))else(ZH p.Rules (EB.mk e.Kind e.Name e.Key e.N e.zb.Name e.zb.Zones e.zb.Except e.zb.From e.zb.Until e.zb.Grace e.zb.Vary e.zb.Kind e.zb.Test.Op e.zb.Test.N e.zb.Test.S e.zb.Test.Key e.zb.Test.Args e.zb.zg.Side e.zb.zg.Base e.zb.zg.Num e.zb.zg.Den e.zb.Uses e.zb.Other e.zb.N e.Body.Op e.Body.N e.Body.S e.Body.Key e.Body.Args e.Corners) 200).bind fun x4=>some (Sum.inr (x4.2,p.Defs,p.Tables,p.Zones,x4.1,p.Caps)))else(bif (decide (e.Kind=1))then(vh e.Name).bind fun x5=>(yn p.Rules x5).bind fun x6=>((bif (decide (x6≥0))then(idx p.Rules x6).bind fun x8=>some (decide (e.N≤x8.From))else some false)).bind fun x7=>(bif x7 then some (Sum.inl (20,p.Defs,p.Tables,p.Zones,p.Rules,p.Caps,p.Views,p.Sun,p.Hours))else(vh e.Name).bind fun x9=>(kP p.Rules x9 (EB.mk e.Kind e.Name e.Key e.N e.zb.Name e.zb.Zones e.zb.Except e.zb.From e.zb.Until e.zb.Grace e.zb.Vary e.zb.Kind e.zb.Test.Op e.zb.Test.N e.zb.Test.S e.zb.Test.Key e.zb.Test.Args e.zb.zg.Side e.zb.zg.Base e.zb.zg.Num e.zb.zg.Den e.zb.Uses e.zb.Other e.zb.N e.Body.Op e.Body.N e.Body.S e.Body.Key e.Body.Args e.Corners)).bind fun x10=>some (Sum.inr (x10.2,p.Defs,p.Tables,p.Zones,x10.1,p.Caps)))else(bif (decide (e.Kind=2))then(Jm p.Defs (EB.mk e.Kind e.Name e.Key e.N e.zb.Name e.zb.Zones e.zb.Except e.zb.From e.zb.Until e.zb.Grace e.zb.Vary e.zb.Kind e.zb.Test.Op e.zb.Test.N e.zb.Test.S e.zb.Test.Key e.zb.Test.Args e.zb.zg.Side e.zb.zg.Base e.zb.zg.Num e.zb.zg.Den e.zb.Uses e.zb.Other e.zb.N e.Body.Op e.Body.N e.Body.S e.Body.Key e.Body.Args e.Corners) 60).bind fun x11=>some (Sum.inr (x11.2,x11.1,p.Tables,p.Zones,p.Rules,p.Caps))else(bif (decide (e.Kind=3))then(Jo p.Tables (EB.mk e.Kind e.Name e.Key e.N e.zb.Name e.zb.Zones e.zb.Except e.zb.From e.zb.Until e.zb.Grace e.zb.Vary e.zb.Kind e.zb.Test.Op e.zb.Test.N e.zb.Test.S e.zb.Test.Key e.zb.Test.Args e.zb.zg.Side e.zb.zg.Base e.zb.zg.Num e.zb.zg.Den e.zb.Uses e.zb.Other e.zb.N e.Body.Op e.Body.N e.Body.S e.Body.Key e.Body.Args e.Corners) 0 60).bind fun x12=>some (Sum.inr ((max x12.2.1 x12.2.2),p.Defs,x12.1,p.Zones,p.Rules,p.Caps))else(bif (decide (e.Kind=4))then(xO p.Zones (EB.mk e.Kind e.Name e.Key e.N e.zb.Name e.zb.Zones e.zb.Except e.zb.From e.zb.Until e.zb.Grace e.zb.Vary e.zb.Kind e.zb.Test.Op e.zb.Test.N e.zb.Test.S e.zb.Test.Key e.zb.Test.Args e.zb.zg.Side e.zb.zg.Base e.zb.zg.Num e.zb.zg.Den e.zb.Uses e.zb.Other e.zb.N e.Body.Op e.Body.N e.Body.S e.Body.Key e.Body.Args e.Corners)).bind fun x13=>((bif (decide (x13≥0))then(idx p.Zones x13).bind fun x15=>some (!(x15.Overlay==(decide (e.N=1))))else some false)).bind fun x14=>(bif x14 then some (Sum.inl (17,p.Defs,p.Tables,p.Zones,p.Rules,p.Caps,p.Views,p.Sun,p.Hours))else(Jp p.Zones (EB.mk e.Kind e.Name e.Key e.N e.zb.Name e.zb.Zones e.zb.Except e.zb.From e.zb.Until e.zb.Grace e.zb.Vary e.zb.Kind e.zb.Test.Op e.zb.Test.N e.zb.Test.S e.zb.Test.Key e.zb.Test.Args e.zb.zg.Side e.zb.zg.Base e.zb.zg.Num e.zb.zg.Den e.zb.Uses e.zb.Other e.zb.N e.Body.Op e.Body.N e.Body.S e.Body.Key e.Body.Args e.Corners) 60).bind fun x16=>some (Sum.inr (x16.2,p.Defs,p.Tables,x16.1,p.Rules,p.Caps)))else(vu p.Caps (EB.mk e.Kind e.Name e.Key e.N e.zb.Name e.zb.Zones e.zb.Except e.zb.From e.zb.Until e.zb.Grace e.zb.Vary e.zb.Kind e.zb.Test.Op e.zb.Test.N e.zb.Test.S e.zb.Test.Key e.zb.Test.Args e.zb.zg.Side e.zb.zg.Base e.zb.zg.Num e.zb.zg.Den e.zb.Uses e.zb.Other e.zb.N e.Body.Op e.Body.N e.Body.S e.Body.Key e.Body.Args e.Corners)).bind fun x17=>some (Sum.inr (x17.2,p.Defs,p.Tables,p.Zones,p.Rules,x17.1)))))))).bind (z8 some fun x1=>some (x1.1,x1.2.1,x1.2.2.1,x1.2.2.2.1,x1.2.2.2.2.1,x1.2.2.2.2.2,p.Views,p.Sun,p.Hours))
def xZ(s:(List View)):Option ((List View)) :=
 (grd (List.length (([]:List View)++s)*72≤140737488355328)).bind fun _=>some (([]:List View)++s)
def y7(s:(List zj)):Option ((List zj)) :=
 (grd (List.length (([]:List zj)++s)*24≤140737488355328)).bind fun _=>some (([]:List zj)++s)
def xd(r_e_ownExpr:Expr→Option (Int×Int×(List UInt8)×(List UInt8)×(List Expr)))(c0:(List Expr))(c1:Int)(c2:Int)(c3:Int)(c4:(List UInt8))(c5:(List UInt8))(c6:Int)(c7:(List UInt8))(c8:(List Expr)):Nat→(Int×(List Expr))→Option ((List Expr))
 |0,_=>none
 |K+1,q=>(bif (decide (q.1<c1))then(idx c0 q.1).bind fun x1=>(r_e_ownExpr (Expr.mk x1.Op x1.N x1.S x1.Key x1.Args)).bind fun x2=>(grd (List.length (q.2++([(Expr.mk x2.1 x2.2.1 x2.2.2.1 x2.2.2.2.1 x2.2.2.2.2)]:List Expr))*72≤140737488355328)).bind fun _=>xd r_e_ownExpr c0 c1 c2 c3 c4 c5 c6 c7 c8 K ((w64 (q.1+1)),(q.2++([(Expr.mk x2.1 x2.2.1 x2.2.2.1 x2.2.2.2.1 x2.2.2.2.2)]:List Expr)))else some q.2)
def yW:Nat→Expr→Option (Int×Int×(List UInt8)×(List UInt8)×(List Expr))
 |0,_=>none
 |RK+1,e=>(xd (yW RK) e.Args ((List.length e.Args:Nat):Int) e.Op e.N e.S e.Key 0 ([]:List UInt8) [] KK (0,[])).bind fun x1=>some (e.Op,e.N,e.S,e.Key,x1)
def xD(s:(List Entry)):Option ((List Entry)) :=
 (grd (List.length (([]:List Entry)++s)*24≤140737488355328)).bind fun _=>some (([]:List Entry)++s)
def yt(s:(List zu)):Option ((List zu)) :=
 (grd (List.length (([]:List zu)++s)*16≤140737488355328)).bind fun _=>some (([]:List zu)++s)
def yu(s:(List (List UInt8))):Option ((List (List UInt8))) :=
 (grd (List.length (([]:List (List UInt8))++s)*16≤140737488355328)).bind fun _=>some (([]:List (List UInt8))++s)
def jU(c0:Int)(c1:(List zj))(c2:Int)(c3:(List zj))(c4:Int)(c5:(List Table))(c6:(List zr))(c7:(List zb))(c8:(List Cap))(c9:(List View))(c10:(List Def))(c11:(List Table))(c12:(List zr))(c13:(List zb))(c14:(List Cap))(c15:(List View)):Nat→(Int×(List Def))→Option ((List Def))
 |0,_=>none
 |K+1,q=>(bif (decide (q.1<c0))then(grd (0≤q.1∧q.1<(((List.length q.2):Nat):Int))).bind fun _=>((q.2)[(Int.toNat q.1)]?).bind fun x2=>(yW KK x2.Body).bind fun x3=>(grd (0≤q.1∧q.1<(((List.length q.2):Nat):Int))).bind fun _=>((q.2)[(Int.toNat q.1)]?).bind fun x5=>jU c0 c1 c2 c3 c4 c5 c6 c7 c8 c9 c10 c11 c12 c13 c14 c15 K ((w64 (q.1+1)),(List.set q.2 (Int.toNat q.1) (Def.mk x5.Name (Expr.mk x3.1 x3.2.1 x3.2.2.1 x3.2.2.2.1 x3.2.2.2.2))))else some q.2)
def jV(c0:Int)(c1:(List zj))(c2:Int)(c3:(List zj))(c4:Int)(c5:(List Def))(c6:(List zr))(c7:(List zb))(c8:(List Cap))(c9:(List View))(c10:(List Def))(c11:(List Table))(c12:(List zr))(c13:(List zb))(c14:(List Cap))(c15:(List View)):Nat→(Int×(List Table))→Option ((List Table))
 |0,_=>none
 |K+1,q=>(bif (decide (q.1<c0))then(grd (0≤q.1∧q.1<(((List.length q.2):Nat):Int))).bind fun _=>((q.2)[(Int.toNat q.1)]?).bind fun x2=>(xD x2.Rows).bind fun x3=>(grd (0≤q.1∧q.1<(((List.length q.2):Nat):Int))).bind fun _=>((q.2)[(Int.toNat q.1)]?).bind fun x5=>jV c0 c1 c2 c3 c4 c5 c6 c7 c8 c9 c10 c11 c12 c13 c14 c15 K ((w64 (q.1+1)),(List.set q.2 (Int.toNat q.1) (Table.mk x5.Name x3 x5.Else)))else some q.2)
def jW(c0:Int)(c1:(List zj))(c2:Int)(c3:(List zj))(c4:Int)(c5:(List Def))(c6:(List Table))(c7:(List zb))(c8:(List Cap))(c9:(List View))(c10:(List Def))(c11:(List Table))(c12:(List zr))(c13:(List zb))(c14:(List Cap))(c15:(List View)):Nat→(Int×(List zr))→Option ((List zr))
 |0,_=>none
 |K+1,q=>(bif (decide (q.1<c0))then(grd (0≤q.1∧q.1<(((List.length q.2):Nat):Int))).bind fun _=>((q.2)[(Int.toNat q.1)]?).bind fun x2=>(yt x2.Corners).bind fun x3=>(grd (0≤q.1∧q.1<(((List.length q.2):Nat):Int))).bind fun _=>((q.2)[(Int.toNat q.1)]?).bind fun x5=>jW c0 c1 c2 c3 c4 c5 c6 c7 c8 c9 c10 c11 c12 c13 c14 c15 K ((w64 (q.1+1)),(List.set q.2 (Int.toNat q.1) (zr.mk x5.Name x5.Overlay x3)))else some q.2)
def jX(c0:Int)(c1:(List zj))(c2:Int)(c3:(List zj))(c4:Int)(c5:(List Def))(c6:(List Table))(c7:(List zr))(c8:(List Cap))(c9:(List View))(c10:(List Def))(c11:(List Table))(c12:(List zr))(c13:(List zb))(c14:(List Cap))(c15:(List View)):Nat→(Int×(List zb))→Option ((List zb))
 |0,_=>none
 |K+1,q=>(bif (decide (q.1<c0))then(grd (0≤q.1∧q.1<(((List.length q.2):Nat):Int))).bind fun _=>((q.2)[(Int.toNat q.1)]?).bind fun x2=>(yu x2.Zones).bind fun x3=>(yu x2.Except).bind fun x4=>(yW KK (Expr.mk x2.Test.Op x2.Test.N x2.Test.S x2.Test.Key x2.Test.Args)).bind fun x5=>(grd (0≤q.1∧q.1<(((List.length q.2):Nat):Int))).bind fun _=>((q.2)[(Int.toNat q.1)]?).bind fun x7=>(grd (0≤q.1∧q.1<(((List.length q.2):Nat):Int))).bind fun _=>(((List.set q.2 (Int.toNat q.1) (zb.mk x7.Name x3 x7.Except x7.From x7.Until x7.Grace x7.Vary x7.Kind (Expr.mk x7.Test.Op x7.Test.N x7.Test.S x7.Test.Key x7.Test.Args) x7.zg x7.Uses x7.Other x7.N)))[(Int.toNat q.1)]?).bind fun x9=>(grd (0≤q.1∧q.1<(((List.length q.2):Nat):Int))).bind fun _=>(((List.set (List.set q.2 (Int.toNat q.1) (zb.mk x7.Name x3 x7.Except x7.From x7.Until x7.Grace x7.Vary x7.Kind (Expr.mk x7.Test.Op x7.Test.N x7.Test.S x7.Test.Key x7.Test.Args) x7.zg x7.Uses x7.Other x7.N)) (Int.toNat q.1) (zb.mk x9.Name x9.Zones x4 x9.From x9.Until x9.Grace x9.Vary x9.Kind (Expr.mk x9.Test.Op x9.Test.N x9.Test.S x9.Test.Key x9.Test.Args) x9.zg x9.Uses x9.Other x9.N)))[(Int.toNat q.1)]?).bind fun x11=>jX c0 c1 c2 c3 c4 c5 c6 c7 c8 c9 c10 c11 c12 c13 c14 c15 K ((w64 (q.1+1)),(List.set (List.set (List.set q.2 (Int.toNat q.1) (zb.mk x7.Name x3 x7.Except x7.From x7.Until x7.Grace x7.Vary x7.Kind (Expr.mk x7.Test.Op x7.Test.N x7.Test.S x7.Test.Key x7.Test.Args) x7.zg x7.Uses x7.Other x7.N)) (Int.toNat q.1) (zb.mk x9.Name x9.Zones x4 x9.From x9.Until x9.Grace x9.Vary x9.Kind (Expr.mk x9.Test.Op x9.Test.N x9.Test.S x9.Test.Key x9.Test.Args) x9.zg x9.Uses x9.Other x9.N)) (Int.toNat q.1) (zb.mk x11.Name x11.Zones x11.Except x11.From x11.Until x11.Grace x11.Vary x11.Kind (Expr.mk x5.1 x5.2.1 x5.2.2.1 x5.2.2.2.1 x5.2.2.2.2) x11.zg x11.Uses x11.Other x11.N)))else some q.2)
def jY(c0:Int)(c1:(List zj))(c2:Int)(c3:(List zj))(c4:Int)(c5:(List Def))(c6:(List Table))(c7:(List zr))(c8:(List zb))(c9:(List View))(c10:(List Def))(c11:(List Table))(c12:(List zr))(c13:(List zb))(c14:(List Cap))(c15:(List View)):Nat→(Int×(List Cap))→Option ((List Cap))
 |0,_=>none
 |K+1,q=>(bif (decide (q.1<c0))then(grd (0≤q.1∧q.1<(((List.length q.2):Nat):Int))).bind fun _=>((q.2)[(Int.toNat q.1)]?).bind fun x2=>(yt x2.Corners).bind fun x3=>(grd (0≤q.1∧q.1<(((List.length q.2):Nat):Int))).bind fun _=>((q.2)[(Int.toNat q.1)]?).bind fun x5=>jY c0 c1 c2 c3 c4 c5 c6 c7 c8 c9 c10 c11 c12 c13 c14 c15 K ((w64 (q.1+1)),(List.set q.2 (Int.toNat q.1) (Cap.mk x5.Name x5.Load x5.Limit x3)))else some q.2)
def jZ(c0:Int)(c1:(List zj))(c2:Int)(c3:(List zj))(c4:Int)(c5:(List Def))(c6:(List Table))(c7:(List zr))(c8:(List zb))(c9:(List Cap))(c10:(List Def))(c11:(List Table))(c12:(List zr))(c13:(List zb))(c14:(List Cap))(c15:(List View)):Nat→(Int×(List View))→Option ((List View))
 |0,_=>none
 |K+1,q=>(bif (decide (q.1<c0))then(grd (0≤q.1∧q.1<(((List.length q.2):Nat):Int))).bind fun _=>((q.2)[(Int.toNat q.1)]?).bind fun x2=>(y7 x2.Targets).bind fun x3=>(grd (0≤q.1∧q.1<(((List.length q.2):Nat):Int))).bind fun _=>((q.2)[(Int.toNat q.1)]?).bind fun x5=>jZ c0 c1 c2 c3 c4 c5 c6 c7 c8 c9 c10 c11 c12 c13 c14 c15 K ((w64 (q.1+1)),(List.set q.2 (Int.toNat q.1) (View.mk x5.Name x5.Eye x5.Least x3)))else some q.2)
def oy(p:zK):Option ((List zj)×Int×(List Def)×(List Table)×(List zr)×(List zb)×(List Cap)×(List View)) :=
 (y3 p.Defs).bind fun x1=>(y4 p.Tables).bind fun x2=>(y5 p.Zones).bind fun x3=>(ye p.Rules).bind fun x4=>(y6 p.Caps).bind fun x5=>(xZ p.Views).bind fun x6=>(y7 p.Sun).bind fun x7=>(jU (((List.length x1):Nat):Int) x7 p.Hours [] 0 x2 x3 x4 x5 x6 ([]:List Def) ([]:List Table) ([]:List zr) ([]:List zb) ([]:List Cap) ([]:List View) KK (0,x1)).bind fun x8=>(jV (((List.length x2):Nat):Int) x7 p.Hours [] 0 x8 x3 x4 x5 x6 ([]:List Def) ([]:List Table) ([]:List zr) ([]:List zb) ([]:List Cap) ([]:List View) KK (0,x2)).bind fun x9=>(jW (((List.length x3):Nat):Int) x7 p.Hours [] 0 x8 x9 x4 x5 x6 ([]:List Def) ([]:List Table) ([]:List zr) ([]:List zb) ([]:List Cap) ([]:List View) KK (0,x3)).bind fun x10=>(jX (((List.length x4):Nat):Int) x7 p.Hours [] 0 x8 x9 x10 x5 x6 ([]:List Def) ([]:List Table) ([]:List zr) ([]:List zb) ([]:List Cap) ([]:List View) KK (0,x4)).bind fun x11=>(jY (((List.length x5):Nat):Int) x7 p.Hours [] 0 x8 x9 x10 x11 x6 ([]:List Def) ([]:List Table) ([]:List zr) ([]:List zb) ([]:List Cap) ([]:List View) KK (0,x5)).bind fun x12=>(jZ (((List.length x6):Nat):Int) x7 p.Hours [] 0 x8 x9 x10 x11 x12 ([]:List Def) ([]:List Table) ([]:List zr) ([]:List zb) ([]:List Cap) ([]:List View) KK (0,x6)).bind fun x13=>some (x7,p.Hours,x8,x9,x10,x11,x12,x13)
def Kg(p:zK)(e:zq):Option (Int×(List Def)×(List Table)×(List zr)×(List zb)×(List Cap)×(List View)×(List zj)×Int) :=
 ((uh p).bind fun x2=>(bif (!x2)then some true else(yr (zq.mk e.Kind e.Name e.Key e.N (zb.mk e.zb.Name e.zb.Zones e.zb.Except e.zb.From e.zb.Until e.zb.Grace e.zb.Vary e.zb.Kind (Expr.mk e.zb.Test.Op e.zb.Test.N e.zb.Test.S e.zb.Test.Key e.zb.Test.Args) e.zb.zg e.zb.Uses e.zb.Other e.zb.N) (Expr.mk e.Body.Op e.Body.N e.Body.S e.Body.Key e.Body.Args) e.Corners)).bind fun x3=>some (!x3))).bind fun x1=>(bif x1 then some (1,[],[],[],[],[],[],[],0)else(yd p (zq.mk e.Kind e.Name e.Key e.N (zb.mk e.zb.Name e.zb.Zones e.zb.Except e.zb.From e.zb.Until e.zb.Grace e.zb.Vary e.zb.Kind (Expr.mk e.zb.Test.Op e.zb.Test.N e.zb.Test.S e.zb.Test.Key e.zb.Test.Args) e.zb.zg e.zb.Uses e.zb.Other e.zb.N) (Expr.mk e.Body.Op e.Body.N e.Body.S e.Body.Key e.Body.Args) e.Corners)).bind fun x4=>(bif (!(decide (x4.1=0)))then some (x4.1,[],[],[],[],[],[],[],0)else(oy (zK.mk x4.2.1 x4.2.2.1 x4.2.2.2.1 x4.2.2.2.2.1 x4.2.2.2.2.2.1 x4.2.2.2.2.2.2.1 x4.2.2.2.2.2.2.2.1 x4.2.2.2.2.2.2.2.2)).bind fun x5=>some (0,x5.2.2.1,x5.2.2.2.1,x5.2.2.2.2.1,x5.2.2.2.2.2.1,x5.2.2.2.2.2.2.1,x5.2.2.2.2.2.2.2,x5.1,x5.2.1)))
def Vl(n:Int):Option (Int×Int×(List UInt8)×(List UInt8)×(List Expr)) :=
 some (0,n,([]:List UInt8),([]:List UInt8),[])
def Jr(x_:Def)(a1_Name:(List UInt8))(a1_Body_Op:Int)(a1_Body_N:Int)(a1_Body_S:(List UInt8))(a1_Body_Key:(List UInt8))(a1_Body_Args:(List Expr)):Option (Bool) :=
 some (decide (x_.Name=a1_Name))
def yv(c0:(List UInt8))(c1:Int)(c2:Int)(c3:(List UInt8))(c4:(List UInt8))(c5:(List Expr))(c6:(List Def))(c7:Int):Nat→(Int)→Option ((Int)⊕(Unit))
 |0,_=>none
 |K+1,q=>(bif (decide (q<c7))then(idx c6 q).bind fun x1=>(Jr x1 c0 c1 c2 c3 c4 c5).bind fun x2=>(bif x2 then some (Sum.inl q)else yv c0 c1 c2 c3 c4 c5 c6 c7 K (w64 (q+1)))else some (Sum.inr ()))
def vC(s:(List Def))(x_Name:(List UInt8))(x_Body_Op:Int)(x_Body_N:Int)(x_Body_S:(List UInt8))(x_Body_Key:(List UInt8))(x_Body_Args:(List Expr)):Option (Int) :=
 (yv x_Name x_Body_Op x_Body_N x_Body_S x_Body_Key x_Body_Args s ((List.length s:Nat):Int) KK 0).bind (z8 some fun _=>some (-1))
def zh3(l:(List Def))(x_Name:(List UInt8))(x_Body_Op:Int)(x_Body_N:Int)(x_Body_S:(List UInt8))(x_Body_Key:(List UInt8))(x_Body_Args:(List Expr)):Option (Bool×(List UInt8)×Int×Int×(List UInt8)×(List UInt8)×(List Expr)) :=
 (vC l x_Name x_Body_Op x_Body_N x_Body_S x_Body_Key x_Body_Args).bind fun x1=>(bif (decide (x1≥0))then(idx l x1).bind fun x2=>some (true,x2.Name,x2.Body.Op,x2.Body.N,x2.Body.S,x2.Body.Key,x2.Body.Args)else some (false,([]:List UInt8),0,0,([]:List UInt8),([]:List UInt8),[]))
def Js(x_:Table)(a1_Name:(List UInt8))(a1_Rows:(List Entry))(a1_Else:Int):Option (Bool) :=
 some (decide (x_.Name=a1_Name))
def yw(c0:(List UInt8))(c1:(List Entry))(c2:Int)(c3:(List Table))(c4:Int):Nat→(Int)→Option ((Int)⊕(Unit))
 |0,_=>none
 |K+1,q=>(bif (decide (q<c4))then(idx c3 q).bind fun x1=>(Js x1 c0 c1 c2).bind fun x2=>(bif x2 then some (Sum.inl q)else yw c0 c1 c2 c3 c4 K (w64 (q+1)))else some (Sum.inr ()))
def vD(s:(List Table))(x_Name:(List UInt8))(x_Rows:(List Entry))(x_Else:Int):Option (Int) :=
 (yw x_Name x_Rows x_Else s ((List.length s:Nat):Int) KK 0).bind (z8 some fun _=>some (-1))
def Yd(l:(List Table))(x_Name:(List UInt8))(x_Rows:(List Entry))(x_Else:Int):Option (Bool×(List UInt8)×(List Entry)×Int) :=
 (vD l x_Name x_Rows x_Else).bind fun x1=>(bif (decide (x1≥0))then(idx l x1).bind fun x2=>some (true,x2.Name,x2.Rows,x2.Else)else some (false,([]:List UInt8),[],0))
def Jt(y:Entry)(a1_Name:(List UInt8))(a1_N:Int):Option (Bool) :=
 some (decide (y.Name=a1_Name))
def yx(c0:(List UInt8))(c1:Int)(c2:(List Entry))(c3:Int):Nat→(Int)→Option ((Int)⊕(Unit))
 |0,_=>none
 |K+1,q=>(bif (decide (q<c3))then(idx c2 q).bind fun x1=>(Jt x1 c0 c1).bind fun x2=>(bif x2 then some (Sum.inl q)else yx c0 c1 c2 c3 K (w64 (q+1)))else some (Sum.inr ()))
def vE(s:(List Entry))(y_Name:(List UInt8))(y_N:Int):Option (Int) :=
 (yx y_Name y_N s ((List.length s:Nat):Int) KK 0).bind (z8 some fun _=>some (-1))
def Ye(l:(List Entry))(y_Name:(List UInt8))(y_N:Int):Option (Bool×(List UInt8)×Int) :=
 (vE l y_Name y_N).bind fun x1=>(bif (decide (x1≥0))then(idx l x1).bind fun x2=>some (true,x2.Name,x2.N)else some (false,([]:List UInt8),0))
def Ju(x_:zr)(a1_Name:(List UInt8))(a1_Overlay:Bool)(a1_Corners:(List zu)):Option (Bool) :=
 some (decide (x_.Name=a1_Name))
def yy(c0:(List UInt8))(c1:Bool)(c2:(List zu))(c3:(List zr))(c4:Int):Nat→(Int)→Option ((Int)⊕(Unit))
 |0,_=>none
 |K+1,q=>(bif (decide (q<c4))then(idx c3 q).bind fun x1=>(Ju x1 c0 c1 c2).bind fun x2=>(bif x2 then some (Sum.inl q)else yy c0 c1 c2 c3 c4 K (w64 (q+1)))else some (Sum.inr ()))
def vF(s:(List zr))(x_Name:(List UInt8))(x_Overlay:Bool)(x_Corners:(List zu)):Option (Int) :=
 (yy x_Name x_Overlay x_Corners s ((List.length s:Nat):Int) KK 0).bind (z8 some fun _=>some (-1))
def Yf(l:(List zr))(x_Name:(List UInt8))(x_Overlay:Bool)(x_Corners:(List zu)):Option (Bool×(List UInt8)×Bool×(List zu)) :=
 (vF l x_Name x_Overlay x_Corners).bind fun x1=>(bif (decide (x1≥0))then(idx l x1).bind fun x2=>some (true,x2.Name,x2.Overlay,x2.Corners)else some (false,([]:List UInt8),false,[]))
def Jv(x_:zb)(ru:RB):Option (Bool) :=
 some (decide (x_.Name=ru.r0))
def yz(ru:RB)(c20:(List zb))(c21:Int):Nat→(Int)→Option ((Int)⊕(Unit))
 |0,_=>none
 |K+1,q=>(bif (decide (q<c21))then(idx c20 q).bind fun x1=>(Jv x1 ru).bind fun x2=>(bif x2 then some (Sum.inl q)else yz ru c20 c21 K (w64 (q+1)))else some (Sum.inr ()))
def vG(s:(List zb))(ru:RB):Option (Int) :=
 (yz ru s ((List.length s:Nat):Int) KK 0).bind (z8 some fun _=>some (-1))
def Yg(l:(List zb))(ru:RB):Option (Bool×(List UInt8)×(List (List UInt8))×(List (List UInt8))×Int×Int×Int×Bool×Int×Int×Int×(List UInt8)×(List UInt8)×(List Expr)×Int×Int×Int×Int×Int×Int×Int) :=
 (vG l ru).bind fun x1=>(bif (decide (x1≥0))then(idx l x1).bind fun x2=>some (true,x2.Name,x2.Zones,x2.Except,x2.From,x2.Until,x2.Grace,x2.Vary,x2.Kind,x2.Test.Op,x2.Test.N,x2.Test.S,x2.Test.Key,x2.Test.Args,x2.zg.Side,x2.zg.Base,x2.zg.Num,x2.zg.Den,x2.Uses,x2.Other,x2.N)else some (false,([]:List UInt8),[],[],0,0,0,false,0,0,0,([]:List UInt8),([]:List UInt8),[],0,0,0,0,0,0,0))
def Jw(x_:Cap)(a1_Name:(List UInt8))(a1_Load:Int)(a1_Limit:Int)(a1_Corners:(List zu)):Option (Bool) :=
 some (decide (x_.Name=a1_Name))
def yA(c0:(List UInt8))(c1:Int)(c2:Int)(c3:(List zu))(c4:(List Cap))(c5:Int):Nat→(Int)→Option ((Int)⊕(Unit))
 |0,_=>none
 |K+1,q=>(bif (decide (q<c5))then(idx c4 q).bind fun x1=>(Jw x1 c0 c1 c2 c3).bind fun x2=>(bif x2 then some (Sum.inl q)else yA c0 c1 c2 c3 c4 c5 K (w64 (q+1)))else some (Sum.inr ()))
def vH(s:(List Cap))(x_Name:(List UInt8))(x_Load:Int)(x_Limit:Int)(x_Corners:(List zu)):Option (Int) :=
 (yA x_Name x_Load x_Limit x_Corners s ((List.length s:Nat):Int) KK 0).bind (z8 some fun _=>some (-1))
def Yh(l:(List Cap))(x_Name:(List UInt8))(x_Load:Int)(x_Limit:Int)(x_Corners:(List zu)):Option (Bool×(List UInt8)×Int×Int×(List zu)) :=
 (vH l x_Name x_Load x_Limit x_Corners).bind fun x1=>(bif (decide (x1≥0))then(idx l x1).bind fun x2=>some (true,x2.Name,x2.Load,x2.Limit,x2.Corners)else some (false,([]:List UInt8),0,0,[]))
def qb(c0:(List Def))(c1:Int)(c2:(List Def))(c3:(List Table))(c4:(List zr))(c5:(List zb))(c6:(List Cap))(c7:(List View))(c8:(List zj))(c9:Int)(c10:(List Table))(c11:(List zr))(c12:(List zb))(c13:(List Cap))(c14:(List View))(c15:(List zj))(c16:Int):Nat→(Int×(List zq))→Option ((List zq))
 |0,_=>none
 |K+1,q=>(bif (decide (q.1<c1))then((idx c0 q.1).bind fun x2=>(zh3 c2 x2.Name x2.Body.Op x2.Body.N x2.Body.S x2.Body.Key x2.Body.Args).bind fun x3=>((bif (!x3.1)then some true else(vt (zq.mk 2 x2.Name ([]:List UInt8) 0 (zb.mk ([]:List UInt8) [] [] 0 0 0 false 0 (Expr.mk 0 0 ([]:List UInt8) ([]:List UInt8) []) (zg.mk 0 0 0 0) 0 0 0) (Expr.mk x2.Body.Op x2.Body.N x2.Body.S x2.Body.Key x2.Body.Args) []) (zq.mk 2 x2.Name ([]:List UInt8) 0 (zb.mk ([]:List UInt8) [] [] 0 0 0 false 0 (Expr.mk 0 0 ([]:List UInt8) ([]:List UInt8) []) (zg.mk 0 0 0 0) 0 0 0) (Expr.mk x3.2.2.1 x3.2.2.2.1 x3.2.2.2.2.1 x3.2.2.2.2.2.1 x3.2.2.2.2.2.2) [])).bind fun x5=>some (!x5))).bind fun x4=>(bif x4 then(grd (List.length (q.2++([(zq.mk 2 x2.Name ([]:List UInt8) 0 (zb.mk ([]:List UInt8) [] [] 0 0 0 false 0 (Expr.mk 0 0 ([]:List UInt8) ([]:List UInt8) []) (zg.mk 0 0 0 0) 0 0 0) (Expr.mk x2.Body.Op x2.Body.N x2.Body.S x2.Body.Key x2.Body.Args) [])]:List zq))*376≤140737488355328)).bind fun _=>some (q.2++([(zq.mk 2 x2.Name ([]:List UInt8) 0 (zb.mk ([]:List UInt8) [] [] 0 0 0 false 0 (Expr.mk 0 0 ([]:List UInt8) ([]:List UInt8) []) (zg.mk 0 0 0 0) 0 0 0) (Expr.mk x2.Body.Op x2.Body.N x2.Body.S x2.Body.Key x2.Body.Args) [])]:List zq))else some q.2)).bind fun x1=>qb c0 c1 c2 c3 c4 c5 c6 c7 c8 c9 c10 c11 c12 c13 c14 c15 c16 K ((w64 (q.1+1)),x1)else some q.2)
def qc(c0:(List Table))(c1:Int)(c2:Int)(c3:(List Entry))(c4:Int)(c5:(List Def))(c6:(List Table))(c7:(List zr))(c8:(List zb))(c9:(List Cap))(c10:(List View))(c11:(List zj))(c12:Int)(c13:(List Def))(c14:(List zr))(c15:(List zb))(c16:(List Cap))(c17:(List View))(c18:(List zj))(c19:Int)(c20:(List UInt8))(c21:Int)(c22:(List UInt8))(c23:(List Entry))(c24:Int):Nat→(Int×(List zq))→Option ((List zq))
 |0,_=>none
 |K+1,q=>(bif (decide (q.1<c4))then((idx c3 q.1).bind fun x2=>(Ye c23 x2.Name x2.N).bind fun x3=>((bif (!x3.1)then some true else some (!(decide (x3.2.2=x2.N))))).bind fun x4=>(bif x4 then(grd (List.length (q.2++([(zq.mk 3 c20 x2.Name x2.N (zb.mk ([]:List UInt8) [] [] 0 0 0 false 0 (Expr.mk 0 0 ([]:List UInt8) ([]:List UInt8) []) (zg.mk 0 0 0 0) 0 0 0) (Expr.mk 0 0 ([]:List UInt8) ([]:List UInt8) []) [])]:List zq))*376≤140737488355328)).bind fun _=>some (q.2++([(zq.mk 3 c20 x2.Name x2.N (zb.mk ([]:List UInt8) [] [] 0 0 0 false 0 (Expr.mk 0 0 ([]:List UInt8) ([]:List UInt8) []) (zg.mk 0 0 0 0) 0 0 0) (Expr.mk 0 0 ([]:List UInt8) ([]:List UInt8) []) [])]:List zq))else some q.2)).bind fun x1=>qc c0 c1 c2 c3 c4 c5 c6 c7 c8 c9 c10 c11 c12 c13 c14 c15 c16 c17 c18 c19 c20 c21 c22 c23 c24 K ((w64 (q.1+1)),x1)else some q.2)
def qd(c0:(List Table))(c1:Int)(c2:(List Def))(c3:(List Table))(c4:(List zr))(c5:(List zb))(c6:(List Cap))(c7:(List View))(c8:(List zj))(c9:Int)(c10:(List Def))(c11:(List zr))(c12:(List zb))(c13:(List Cap))(c14:(List View))(c15:(List zj))(c16:Int):Nat→(Int×(List zq))→Option ((List zq))
 |0,_=>none
 |K+1,q=>(bif (decide (q.1<c1))then(idx c0 q.1).bind fun x1=>(Yd c3 x1.Name x1.Rows x1.Else).bind fun x2=>(qc c0 c1 q.1 x1.Rows ((List.length x1.Rows:Nat):Int) c2 c3 c4 c5 c6 c7 c8 c9 c10 c11 c12 c13 c14 c15 c16 x1.Name x1.Else x2.2.1 x2.2.2.1 x2.2.2.2 KK (0,q.2)).bind fun x3=>qd c0 c1 c2 c3 c4 c5 c6 c7 c8 c9 c10 c11 c12 c13 c14 c15 c16 K ((w64 (q.1+1)),x3)else some q.2)
def qe(c0:(List zr))(c1:Int)(c2:(List Def))(c3:(List Table))(c4:(List zr))(c5:(List zb))(c6:(List Cap))(c7:(List View))(c8:(List zj))(c9:Int)(c10:(List Def))(c11:(List Table))(c12:(List zb))(c13:(List Cap))(c14:(List View))(c15:(List zj))(c16:Int):Nat→(Int×(List zq))→Option ((List zq))
 |0,_=>none
 |K+1,q=>(bif (decide (q.1<c1))then((idx c0 q.1).bind fun x2=>(Yf c4 x2.Name x2.Overlay x2.Corners).bind fun x3=>((bif (!x3.1)then some true else(zZ x3.2.2.2 x2.Corners).bind fun x5=>some (!x5))).bind fun x4=>(bif x4 then(Al (zK.mk [] [] ([x2]:List zr) [] [] [] [] 0)).bind fun x6=>(grd (List.length (q.2++([(zq.mk x6.1 x6.2.1 x6.2.2.1 x6.2.2.2.1 (zb.mk x6.2.2.2.2.1 x6.2.2.2.2.2.1 x6.2.2.2.2.2.2.1 x6.2.2.2.2.2.2.2.1 x6.2.2.2.2.2.2.2.2.1 x6.2.2.2.2.2.2.2.2.2.1 x6.2.2.2.2.2.2.2.2.2.2.1 x6.2.2.2.2.2.2.2.2.2.2.2.1 (Expr.mk x6.2.2.2.2.2.2.2.2.2.2.2.2.1 x6.2.2.2.2.2.2.2.2.2.2.2.2.2.1 x6.2.2.2.2.2.2.2.2.2.2.2.2.2.2.1 x6.2.2.2.2.2.2.2.2.2.2.2.2.2.2.2.1 x6.2.2.2.2.2.2.2.2.2.2.2.2.2.2.2.2.1) (zg.mk x6.2.2.2.2.2.2.2.2.2.2.2.2.2.2.2.2.2.1 x6.2.2.2.2.2.2.2.2.2.2.2.2.2.2.2.2.2.2.1 x6.2.2.2.2.2.2.2.2.2.2.2.2.2.2.2.2.2.2.2.1 x6.2.2.2.2.2.2.2.2.2.2.2.2.2.2.2.2.2.2.2.2.1) x6.2.2.2.2.2.2.2.2.2.2.2.2.2.2.2.2.2.2.2.2.2.1 x6.2.2.2.2.2.2.2.2.2.2.2.2.2.2.2.2.2.2.2.2.2.2.1 x6.2.2.2.2.2.2.2.2.2.2.2.2.2.2.2.2.2.2.2.2.2.2.2.1) (Expr.mk x6.2.2.2.2.2.2.2.2.2.2.2.2.2.2.2.2.2.2.2.2.2.2.2.2.1 x6.2.2.2.2.2.2.2.2.2.2.2.2.2.2.2.2.2.2.2.2.2.2.2.2.2.1 x6.2.2.2.2.2.2.2.2.2.2.2.2.2.2.2.2.2.2.2.2.2.2.2.2.2.2.1 x6.2.2.2.2.2.2.2.2.2.2.2.2.2.2.2.2.2.2.2.2.2.2.2.2.2.2.2.1 x6.2.2.2.2.2.2.2.2.2.2.2.2.2.2.2.2.2.2.2.2.2.2.2.2.2.2.2.2.1) x6.2.2.2.2.2.2.2.2.2.2.2.2.2.2.2.2.2.2.2.2.2.2.2.2.2.2.2.2.2)]:List zq))*376≤140737488355328)).bind fun _=>some (q.2++([(zq.mk x6.1 x6.2.1 x6.2.2.1 x6.2.2.2.1 (zb.mk x6.2.2.2.2.1 x6.2.2.2.2.2.1 x6.2.2.2.2.2.2.1 x6.2.2.2.2.2.2.2.1 x6.2.2.2.2.2.2.2.2.1 x6.2.2.2.2.2.2.2.2.2.1 x6.2.2.2.2.2.2.2.2.2.2.1 x6.2.2.2.2.2.2.2.2.2.2.2.1 (Expr.mk x6.2.2.2.2.2.2.2.2.2.2.2.2.1 x6.2.2.2.2.2.2.2.2.2.2.2.2.2.1 x6.2.2.2.2.2.2.2.2.2.2.2.2.2.2.1 x6.2.2.2.2.2.2.2.2.2.2.2.2.2.2.2.1 x6.2.2.2.2.2.2.2.2.2.2.2.2.2.2.2.2.1) (zg.mk x6.2.2.2.2.2.2.2.2.2.2.2.2.2.2.2.2.2.1 x6.2.2.2.2.2.2.2.2.2.2.2.2.2.2.2.2.2.2.1 x6.2.2.2.2.2.2.2.2.2.2.2.2.2.2.2.2.2.2.2.1 x6.2.2.2.2.2.2.2.2.2.2.2.2.2.2.2.2.2.2.2.2.1) x6.2.2.2.2.2.2.2.2.2.2.2.2.2.2.2.2.2.2.2.2.2.1 x6.2.2.2.2.2.2.2.2.2.2.2.2.2.2.2.2.2.2.2.2.2.2.1 x6.2.2.2.2.2.2.2.2.2.2.2.2.2.2.2.2.2.2.2.2.2.2.2.1) (Expr.mk x6.2.2.2.2.2.2.2.2.2.2.2.2.2.2.2.2.2.2.2.2.2.2.2.2.1 x6.2.2.2.2.2.2.2.2.2.2.2.2.2.2.2.2.2.2.2.2.2.2.2.2.2.1 x6.2.2.2.2.2.2.2.2.2.2.2.2.2.2.2.2.2.2.2.2.2.2.2.2.2.2.1 x6.2.2.2.2.2.2.2.2.2.2.2.2.2.2.2.2.2.2.2.2.2.2.2.2.2.2.2.1 x6.2.2.2.2.2.2.2.2.2.2.2.2.2.2.2.2.2.2.2.2.2.2.2.2.2.2.2.2.1) x6.2.2.2.2.2.2.2.2.2.2.2.2.2.2.2.2.2.2.2.2.2.2.2.2.2.2.2.2.2)]:List zq))else some q.2)).bind fun x1=>qe c0 c1 c2 c3 c4 c5 c6 c7 c8 c9 c10 c11 c12 c13 c14 c15 c16 K ((w64 (q.1+1)),x1)else some q.2)
def qf(c0:(List zb))(c1:Int)(c2:(List Def))(c3:(List Table))(c4:(List zr))(c5:(List zb))(c6:(List Cap))(c7:(List View))(c8:(List zj))(c9:Int)(c10:(List Def))(c11:(List Table))(c12:(List zr))(c13:(List Cap))(c14:(List View))(c15:(List zj))(c16:Int):Nat→(Int×(List zq))→Option ((List zq))
 |0,_=>none
 |K+1,q=>(bif (decide (q.1<c1))then((idx c0 q.1).bind fun x2=>(Yg c5 (RB.mk x2.Name x2.Zones x2.Except x2.From x2.Until x2.Grace x2.Vary x2.Kind x2.Test.Op x2.Test.N x2.Test.S x2.Test.Key x2.Test.Args x2.zg.Side x2.zg.Base x2.zg.Num x2.zg.Den x2.Uses x2.Other x2.N)).bind fun x3=>(bif (!x3.1)then(grd (List.length (q.2++([(zq.mk 0 ([]:List UInt8) ([]:List UInt8) 0 (zb.mk x2.Name x2.Zones x2.Except x2.From x2.Until x2.Grace x2.Vary x2.Kind (Expr.mk x2.Test.Op x2.Test.N x2.Test.S x2.Test.Key x2.Test.Args) x2.zg x2.Uses x2.Other x2.N) (Expr.mk 0 0 ([]:List UInt8) ([]:List UInt8) []) [])]:List zq))*376≤140737488355328)).bind fun _=>some (q.2++([(zq.mk 0 ([]:List UInt8) ([]:List UInt8) 0 (zb.mk x2.Name x2.Zones x2.Except x2.From x2.Until x2.Grace x2.Vary x2.Kind (Expr.mk x2.Test.Op x2.Test.N x2.Test.S x2.Test.Key x2.Test.Args) x2.zg x2.Uses x2.Other x2.N) (Expr.mk 0 0 ([]:List UInt8) ([]:List UInt8) []) [])]:List zq))else(bif (!(decide (x3.2.2.2.2.2.1=x2.Until)))then(grd (List.length (q.2++([(zq.mk 1 x2.Name ([]:List UInt8) x2.Until (zb.mk ([]:List UInt8) [] [] 0 0 0 false 0 (Expr.mk 0 0 ([]:List UInt8) ([]:List UInt8) []) (zg.mk 0 0 0 0) 0 0 0) (Expr.mk 0 0 ([]:List UInt8) ([]:List UInt8) []) [])]:List zq))*376≤140737488355328)).bind fun _=>some (q.2++([(zq.mk 1 x2.Name ([]:List UInt8) x2.Until (zb.mk ([]:List UInt8) [] [] 0 0 0 false 0 (Expr.mk 0 0 ([]:List UInt8) ([]:List UInt8) []) (zg.mk 0 0 0 0) 0 0 0) (Expr.mk 0 0 ([]:List UInt8) ([]:List UInt8) []) [])]:List zq))else some q.2))).bind fun x1=>qf c0 c1 c2 c3 c4 c5 c6 c7 c8 c9 c10 c11 c12 c13 c14 c15 c16 K ((w64 (q.1+1)),x1)else some q.2)
def qg(c0:(List Cap))(c1:Int)(c2:(List Def))(c3:(List Table))(c4:(List zr))(c5:(List zb))(c6:(List Cap))(c7:(List View))(c8:(List zj))(c9:Int):Nat→(Int×(List zq))→Option ((List zq))
 |0,_=>none
 |K+1,q=>(bif (decide (q.1<c1))then((idx c0 q.1).bind fun x2=>(Yh c6 x2.Name x2.Load x2.Limit x2.Corners).bind fun x3=>((bif x3.1 then some (!(decide (x3.2.2.2.1=x2.Limit)))else some false)).bind fun x4=>(bif x4 then(grd (List.length (q.2++([(zq.mk 5 x2.Name ([]:List UInt8) x2.Limit (zb.mk ([]:List UInt8) [] [] 0 0 0 false 0 (Expr.mk 0 0 ([]:List UInt8) ([]:List UInt8) []) (zg.mk 0 0 0 0) 0 0 0) (Expr.mk 0 0 ([]:List UInt8) ([]:List UInt8) []) [])]:List zq))*376≤140737488355328)).bind fun _=>some (q.2++([(zq.mk 5 x2.Name ([]:List UInt8) x2.Limit (zb.mk ([]:List UInt8) [] [] 0 0 0 false 0 (Expr.mk 0 0 ([]:List UInt8) ([]:List UInt8) []) (zg.mk 0 0 0 0) 0 0 0) (Expr.mk 0 0 ([]:List UInt8) ([]:List UInt8) []) [])]:List zq))else some q.2)).bind fun x1=>qg c0 c1 c2 c3 c4 c5 c6 c7 c8 c9 K ((w64 (q.1+1)),x1)else some q.2)
def Vm(a:zK)(b:zK):Option ((List zq)) :=
 (qb b.Defs ((List.length b.Defs:Nat):Int) a.Defs a.Tables a.Zones a.Rules a.Caps a.Views a.Sun a.Hours b.Tables b.Zones b.Rules b.Caps b.Views b.Sun b.Hours KK (0,[])).bind fun x1=>(qd b.Tables ((List.length b.Tables:Nat):Int) a.Defs a.Tables a.Zones a.Rules a.Caps a.Views a.Sun a.Hours b.Defs b.Zones b.Rules b.Caps b.Views b.Sun b.Hours KK (0,x1)).bind fun x2=>(qe b.Zones ((List.length b.Zones:Nat):Int) a.Defs a.Tables a.Zones a.Rules a.Caps a.Views a.Sun a.Hours b.Defs b.Tables b.Rules b.Caps b.Views b.Sun b.Hours KK (0,x2)).bind fun x3=>(qf b.Rules ((List.length b.Rules:Nat):Int) a.Defs a.Tables a.Zones a.Rules a.Caps a.Views a.Sun a.Hours b.Defs b.Tables b.Zones b.Caps b.Views b.Sun b.Hours KK (0,x3)).bind fun x4=>(qg b.Caps ((List.length b.Caps:Nat):Int) a.Defs a.Tables a.Zones a.Rules a.Caps a.Views a.Sun a.Hours KK (0,x4)).bind fun x5=>some x5
def xu(c0:(List zq))(c1:Int)(c2:(List Def))(c3:(List Table))(c4:(List zr))(c5:(List zb))(c6:(List Cap))(c7:(List View))(c8:(List zj))(c9:Int):Nat→(Int×(List Def)×(List Table)×(List zr)×(List zb)×(List Cap)×(List View)×(List zj)×Int)→Option ((Int×(List Def)×(List Table)×(List zr)×(List zb)×(List Cap)×(List View)×(List zj)×Int)⊕((List Def)×(List Table)×(List zr)×(List zb)×(List Cap)×(List View)×(List zj)×Int))
 |0,_=>none
 |K+1,q=>(bif (decide (q.1<c1))then(idx c0 q.1).bind fun x1=>(Kg (zK.mk q.2.1 q.2.2.1 q.2.2.2.1 q.2.2.2.2.1 q.2.2.2.2.2.1 q.2.2.2.2.2.2.1 q.2.2.2.2.2.2.2.1 q.2.2.2.2.2.2.2.2) (zq.mk x1.Kind x1.Name x1.Key x1.N (zb.mk x1.zb.Name x1.zb.Zones x1.zb.Except x1.zb.From x1.zb.Until x1.zb.Grace x1.zb.Vary x1.zb.Kind (Expr.mk x1.zb.Test.Op x1.zb.Test.N x1.zb.Test.S x1.zb.Test.Key x1.zb.Test.Args) x1.zb.zg x1.zb.Uses x1.zb.Other x1.zb.N) (Expr.mk x1.Body.Op x1.Body.N x1.Body.S x1.Body.Key x1.Body.Args) x1.Corners)).bind fun x2=>(bif (!(decide (x2.1=0)))then some (Sum.inl (x2.1,[],[],[],[],[],[],[],0))else xu c0 c1 c2 c3 c4 c5 c6 c7 c8 c9 K ((w64 (q.1+1)),x2.2.1,x2.2.2.1,x2.2.2.2.1,x2.2.2.2.2.1,x2.2.2.2.2.2.1,x2.2.2.2.2.2.2.1,x2.2.2.2.2.2.2.2.1,x2.2.2.2.2.2.2.2.2))else some (Sum.inr (q.2.1,q.2.2.1,q.2.2.2.1,q.2.2.2.2.1,q.2.2.2.2.2.1,q.2.2.2.2.2.2.1,q.2.2.2.2.2.2.2.1,q.2.2.2.2.2.2.2.2)))
def qz(p:zK)(l:(List zq)):Option (Int×(List Def)×(List Table)×(List zr)×(List zb)×(List Cap)×(List View)×(List zj)×Int) :=
 (uh p).bind fun x1=>(bif (!x1)then some (1,[],[],[],[],[],[],[],0)else(xu l ((List.length l:Nat):Int) [] [] [] [] [] [] [] 0 KK (0,p.Defs,p.Tables,p.Zones,p.Rules,p.Caps,p.Views,p.Sun,p.Hours)).bind (z8 some fun x2=>(oy (zK.mk x2.1 x2.2.1 x2.2.2.1 x2.2.2.2.1 x2.2.2.2.2.1 x2.2.2.2.2.2.1 x2.2.2.2.2.2.2.1 x2.2.2.2.2.2.2.2)).bind fun x3=>some (0,x3.2.2.1,x3.2.2.2.1,x3.2.2.2.2.1,x3.2.2.2.2.2.1,x3.2.2.2.2.2.2.1,x3.2.2.2.2.2.2.2,x3.1,x3.2.1)))
def zh4(a:zK)(b:zK):Option ((List zq)×Int) :=
 ((uh a).bind fun x2=>(bif (!x2)then some true else(uh b).bind fun x3=>some (!x3))).bind fun x1=>(bif x1 then some ([],1)else(oy b).bind fun x4=>(Vm a (zK.mk x4.2.2.1 x4.2.2.2.1 x4.2.2.2.2.1 x4.2.2.2.2.2.1 x4.2.2.2.2.2.2.1 x4.2.2.2.2.2.2.2 x4.1 x4.2.1)).bind fun x5=>(qz a x5).bind fun x6=>((bif (!(decide (x6.1=0)))then some true else(Vf (zK.mk x6.2.1 x6.2.2.1 x6.2.2.2.1 x6.2.2.2.2.1 x6.2.2.2.2.2.1 x6.2.2.2.2.2.2.1 x6.2.2.2.2.2.2.2.1 x6.2.2.2.2.2.2.2.2) b).bind fun x8=>some (!x8))).bind fun x7=>(bif x7 then some ([],25)else some (x5,0)))
def vi(c0:(List zj))(c1:(List zj)):Nat→(Int)→Option ((Bool)⊕(Unit))
 |0,_=>none
 |K+1,q=>(bif (decide (q<((List.length c0:Nat):Int)))then(idx c0 q).bind fun x1=>(idx c1 q).bind fun x2=>(bif (!(decide (x1.X=x2.X)&&(decide (x1.Y=x2.Y)&&(decide (x1.Z_=x2.Z_)))))then some (Sum.inl false)else vi c0 c1 K (w64 (q+1)))else some (Sum.inr ()))
def qh(a:(List zj))(b:(List zj)):Option (Bool) :=
 (bif (!(decide (((List.length a:Nat):Int)=((List.length b:Nat):Int))))then some false else(vi a b KK 0).bind (z8 some fun _=>some true))
def ku(r_R_SameExpr:Expr→Expr→Option (Bool))(c0:Int)(c1:Int)(c2:(List UInt8))(c3:(List UInt8))(c4:(List Expr))(c5:Int)(c6:Int)(c7:(List UInt8))(c8:(List UInt8))(c9:(List Expr)):Nat→(Int)→Option ((Bool)⊕(Unit))
 |0,_=>none
 |K+1,q=>(bif (decide (q<((List.length c4:Nat):Int)))then(idx c4 q).bind fun x1=>(idx c9 q).bind fun x2=>(r_R_SameExpr x1 x2).bind fun x3=>(bif (!x3)then some (Sum.inl false)else ku r_R_SameExpr c0 c1 c2 c3 c4 c5 c6 c7 c8 c9 K (w64 (q+1)))else some (Sum.inr ()))
def wy:Nat→Expr→Expr→Option (Bool)
 |0,_,_=>none
 |RK+1,a,b=>((bif (!(decide (a.Op=b.Op)))then some true else(bif (!(decide (a.N=b.N)))then some true else(bif (!(decide (a.S=b.S)))then some true else(bif (!(decide (a.Key=b.Key)))then some true else some (!(decide (((List.length a.Args:Nat):Int)=((List.length b.Args:Nat):Int))))))))).bind fun x1=>(bif x1 then some false else(ku (wy RK) a.Op a.N a.S a.Key a.Args b.Op b.N b.S b.Key b.Args KK 0).bind (z8 some fun _=>some true))
def wL(c0:(List Entry))(c1:(List Entry)):Nat→(Int)→Option ((Bool)⊕(Unit))
 |0,_=>none
 |K+1,q=>(bif (decide (q<((List.length c0:Nat):Int)))then(idx c0 q).bind fun x1=>(idx c1 q).bind fun x2=>(bif (!(decide (x1.Name=x2.Name)&&(decide (x1.N=x2.N))))then some (Sum.inl false)else wL c0 c1 K (w64 (q+1)))else some (Sum.inr ()))
def oz(a:(List Entry))(b:(List Entry)):Option (Bool) :=
 (bif (!(decide (((List.length a:Nat):Int)=((List.length b:Nat):Int))))then some false else(wL a b KK 0).bind (z8 some fun _=>some true))
def vj(c0:(List zu))(c1:(List zu)):Nat→(Int)→Option ((Bool)⊕(Unit))
 |0,_=>none
 |K+1,q=>(bif (decide (q<((List.length c0:Nat):Int)))then(idx c0 q).bind fun x1=>(idx c1 q).bind fun x2=>(bif (!(decide (x1.X=x2.X)&&(decide (x1.Y=x2.Y))))then some (Sum.inl false)else vj c0 c1 K (w64 (q+1)))else some (Sum.inr ()))
def qi(a:(List zu))(b:(List zu)):Option (Bool) :=
 (bif (!(decide (((List.length a:Nat):Int)=((List.length b:Nat):Int))))then some false else(vj a b KK 0).bind (z8 some fun _=>some true))
def vW(c0:(List (List UInt8)))(c1:(List (List UInt8))):Nat→(Int)→Option ((Bool)⊕(Unit))
 |0,_=>none
 |K+1,q=>(bif (decide (q<((List.length c0:Nat):Int)))then(idx c0 q).bind fun x1=>(idx c1 q).bind fun x2=>(bif (!(decide (x1=x2)))then some (Sum.inl false)else vW c0 c1 K (w64 (q+1)))else some (Sum.inr ()))
def uj(a:(List (List UInt8)))(b:(List (List UInt8))):Option (Bool) :=
 (bif (!(decide (((List.length a:Nat):Int)=((List.length b:Nat):Int))))then some false else(vW a b KK 0).bind (z8 some fun _=>some true))
def KN(a:zb)(b:zb):Option (Bool) :=
 ((uj a.Zones b.Zones).bind fun x2=>(bif x2 then(uj a.Except b.Except).bind fun x3=>(bif x3 then(wy KK (Expr.mk a.Test.Op a.Test.N a.Test.S a.Test.Key a.Test.Args) (Expr.mk b.Test.Op b.Test.N b.Test.S b.Test.Key b.Test.Args)).bind fun x4=>some x4 else some false)else some false)).bind fun x1=>((bif (decide (a.From=b.From))then(bif (decide (a.Until=b.Until))then(bif (decide (a.Grace=b.Grace))then some (a.Vary==b.Vary)else some false)else some false)else some false)).bind fun x5=>(bif (decide (a.Name=b.Name))then(bif x1 then(bif x5 then(bif (decide (a.Kind=b.Kind))then(bif (decide (a.zg.Side=b.zg.Side)&&(decide (a.zg.Base=b.zg.Base)&&(decide (a.zg.Num=b.zg.Num)&&(decide (a.zg.Den=b.zg.Den)))))then(bif (decide (a.Uses=b.Uses))then(bif (decide (a.Other=b.Other))then some (decide (a.N=b.N))else some false)else some false)else some false)else some false)else some false)else some false)else some false)
def Hi(c0:(List Def))(c1:(List Table))(c2:(List zr))(c3:(List zb))(c4:(List Cap))(c5:(List View))(c6:(List zj))(c7:Int)(c8:(List Def))(c9:(List Table))(c10:(List zr))(c11:(List zb))(c12:(List Cap))(c13:(List View))(c14:(List zj))(c15:Int):Nat→(Int)→Option ((Bool)⊕(Unit))
 |0,_=>none
 |K+1,q=>(bif (decide (q<((List.length c0:Nat):Int)))then((idx c0 q).bind fun x2=>(idx c8 q).bind fun x3=>(bif (!(decide (x2.Name=x3.Name)))then some true else(idx c0 q).bind fun x4=>(idx c8 q).bind fun x5=>(wy KK x4.Body x5.Body).bind fun x6=>some (!x6))).bind fun x1=>(bif x1 then some (Sum.inl false)else Hi c0 c1 c2 c3 c4 c5 c6 c7 c8 c9 c10 c11 c12 c13 c14 c15 K (w64 (q+1)))else some (Sum.inr ()))
def Hj(c0:(List Def))(c1:(List Table))(c2:(List zr))(c3:(List zb))(c4:(List Cap))(c5:(List View))(c6:(List zj))(c7:Int)(c8:(List Def))(c9:(List Table))(c10:(List zr))(c11:(List zb))(c12:(List Cap))(c13:(List View))(c14:(List zj))(c15:Int):Nat→(Int)→Option ((Bool)⊕(Unit))
 |0,_=>none
 |K+1,q=>(bif (decide (q<((List.length c1:Nat):Int)))then((idx c1 q).bind fun x2=>(idx c9 q).bind fun x3=>(bif (!(decide (x2.Name=x3.Name)))then some true else(idx c1 q).bind fun x4=>(idx c9 q).bind fun x5=>(bif (!(decide (x4.Else=x5.Else)))then some true else(idx c1 q).bind fun x6=>(idx c9 q).bind fun x7=>(oz x6.Rows x7.Rows).bind fun x8=>some (!x8)))).bind fun x1=>(bif x1 then some (Sum.inl false)else Hj c0 c1 c2 c3 c4 c5 c6 c7 c8 c9 c10 c11 c12 c13 c14 c15 K (w64 (q+1)))else some (Sum.inr ()))
def Hk(c0:(List Def))(c1:(List Table))(c2:(List zr))(c3:(List zb))(c4:(List Cap))(c5:(List View))(c6:(List zj))(c7:Int)(c8:(List Def))(c9:(List Table))(c10:(List zr))(c11:(List zb))(c12:(List Cap))(c13:(List View))(c14:(List zj))(c15:Int):Nat→(Int)→Option ((Bool)⊕(Unit))
 |0,_=>none
 |K+1,q=>(bif (decide (q<((List.length c2:Nat):Int)))then((idx c2 q).bind fun x2=>(idx c10 q).bind fun x3=>(bif (!(decide (x2.Name=x3.Name)))then some true else(idx c2 q).bind fun x4=>(idx c10 q).bind fun x5=>(bif (!(x4.Overlay==x5.Overlay))then some true else(idx c2 q).bind fun x6=>(idx c10 q).bind fun x7=>(qi x6.Corners x7.Corners).bind fun x8=>some (!x8)))).bind fun x1=>(bif x1 then some (Sum.inl false)else Hk c0 c1 c2 c3 c4 c5 c6 c7 c8 c9 c10 c11 c12 c13 c14 c15 K (w64 (q+1)))else some (Sum.inr ()))
def Hl(c0:(List Def))(c1:(List Table))(c2:(List zr))(c3:(List zb))(c4:(List Cap))(c5:(List View))(c6:(List zj))(c7:Int)(c8:(List Def))(c9:(List Table))(c10:(List zr))(c11:(List zb))(c12:(List Cap))(c13:(List View))(c14:(List zj))(c15:Int):Nat→(Int)→Option ((Bool)⊕(Unit))
 |0,_=>none
 |K+1,q=>(bif (decide (q<((List.length c3:Nat):Int)))then(idx c3 q).bind fun x1=>(idx c11 q).bind fun x2=>(KN x1 x2).bind fun x3=>(bif (!x3)then some (Sum.inl false)else Hl c0 c1 c2 c3 c4 c5 c6 c7 c8 c9 c10 c11 c12 c13 c14 c15 K (w64 (q+1)))else some (Sum.inr ()))
def Hm(c0:(List Def))(c1:(List Table))(c2:(List zr))(c3:(List zb))(c4:(List Cap))(c5:(List View))(c6:(List zj))(c7:Int)(c8:(List Def))(c9:(List Table))(c10:(List zr))(c11:(List zb))(c12:(List Cap))(c13:(List View))(c14:(List zj))(c15:Int):Nat→(Int)→Option ((Bool)⊕(Unit))
 |0,_=>none
 |K+1,q=>(bif (decide (q<((List.length c4:Nat):Int)))then((idx c4 q).bind fun x2=>(idx c12 q).bind fun x3=>(bif (!(decide (x2.Name=x3.Name)))then some true else(idx c4 q).bind fun x4=>(idx c12 q).bind fun x5=>(bif (!(decide (x4.Load=x5.Load)))then some true else(idx c4 q).bind fun x6=>(idx c12 q).bind fun x7=>(bif (!(decide (x6.Limit=x7.Limit)))then some true else(idx c4 q).bind fun x8=>(idx c12 q).bind fun x9=>(qi x8.Corners x9.Corners).bind fun x10=>some (!x10))))).bind fun x1=>(bif x1 then some (Sum.inl false)else Hm c0 c1 c2 c3 c4 c5 c6 c7 c8 c9 c10 c11 c12 c13 c14 c15 K (w64 (q+1)))else some (Sum.inr ()))
def Hn(c0:(List Def))(c1:(List Table))(c2:(List zr))(c3:(List zb))(c4:(List Cap))(c5:(List View))(c6:(List zj))(c7:Int)(c8:(List Def))(c9:(List Table))(c10:(List zr))(c11:(List zb))(c12:(List Cap))(c13:(List View))(c14:(List zj))(c15:Int):Nat→(Int)→Option ((Bool)⊕(Unit))
 |0,_=>none
 |K+1,q=>(bif (decide (q<((List.length c5:Nat):Int)))then((idx c5 q).bind fun x2=>(idx c13 q).bind fun x3=>(bif (!(decide (x2.Name=x3.Name)))then some true else(idx c5 q).bind fun x4=>(idx c13 q).bind fun x5=>(bif (!(decide (x4.Eye.X=x5.Eye.X)&&(decide (x4.Eye.Y=x5.Eye.Y)&&(decide (x4.Eye.Z_=x5.Eye.Z_)))))then some true else(idx c5 q).bind fun x6=>(idx c13 q).bind fun x7=>(bif (!(decide (x6.Least=x7.Least)))then some true else(idx c5 q).bind fun x8=>(idx c13 q).bind fun x9=>(qh x8.Targets x9.Targets).bind fun x10=>some (!x10))))).bind fun x1=>(bif x1 then some (Sum.inl false)else Hn c0 c1 c2 c3 c4 c5 c6 c7 c8 c9 c10 c11 c12 c13 c14 c15 K (w64 (q+1)))else some (Sum.inr ()))
def zh5(a:zK)(b:zK):Option (Bool) :=
 ((bif (!(decide (((List.length a.Defs:Nat):Int)=((List.length b.Defs:Nat):Int))))then some true else(bif (!(decide (((List.length a.Tables:Nat):Int)=((List.length b.Tables:Nat):Int))))then some true else(bif (!(decide (((List.length a.Zones:Nat):Int)=((List.length b.Zones:Nat):Int))))then some true else(bif (!(decide (((List.length a.Rules:Nat):Int)=((List.length b.Rules:Nat):Int))))then some true else(bif (!(decide (((List.length a.Caps:Nat):Int)=((List.length b.Caps:Nat):Int))))then some true else(bif (!(decide (((List.length a.Views:Nat):Int)=((List.length b.Views:Nat):Int))))then some true else(qh a.Sun b.Sun).bind fun x2=>(bif (!x2)then some true else some (!(decide (a.Hours=b.Hours))))))))))).bind fun x1=>(bif x1 then some false else(Hi a.Defs a.Tables a.Zones a.Rules a.Caps a.Views a.Sun a.Hours b.Defs b.Tables b.Zones b.Rules b.Caps b.Views b.Sun b.Hours KK 0).bind (z8 some fun _=>(Hj a.Defs a.Tables a.Zones a.Rules a.Caps a.Views a.Sun a.Hours b.Defs b.Tables b.Zones b.Rules b.Caps b.Views b.Sun b.Hours KK 0).bind (z8 some fun _=>(Hk a.Defs a.Tables a.Zones a.Rules a.Caps a.Views a.Sun a.Hours b.Defs b.Tables b.Zones b.Rules b.Caps b.Views b.Sun b.Hours KK 0).bind (z8 some fun _=>(Hl a.Defs a.Tables a.Zones a.Rules a.Caps a.Views a.Sun a.Hours b.Defs b.Tables b.Zones b.Rules b.Caps b.Views b.Sun b.Hours KK 0).bind (z8 some fun _=>(Hm a.Defs a.Tables a.Zones a.Rules a.Caps a.Views a.Sun a.Hours b.Defs b.Tables b.Zones b.Rules b.Caps b.Views b.Sun b.Hours KK 0).bind (z8 some fun _=>(Hn a.Defs a.Tables a.Zones a.Rules a.Caps a.Views a.Sun a.Hours b.Defs b.Tables b.Zones b.Rules b.Caps b.Views b.Sun b.Hours KK 0).bind (z8 some fun _=>some true)))))))
def Ho(c0:Int)(c1:(List UInt8))(c2:(List UInt8))(c3:Int)(c4:(List UInt8))(c5:(List (List UInt8)))(c6:(List (List UInt8)))(c7:Int)(c8:Int)(c9:Int)(c10:Bool)(c11:Int)(c12:Int)(c13:Int)(c14:(List UInt8))(c15:(List UInt8))(c16:(List Expr))(c17:Int)(c18:Int)(c19:Int)(c20:Int)(c21:Int)(c22:Int)(c23:Int)(c24:Int)(c25:Int)(c26:(List UInt8))(c27:(List UInt8))(c28:(List Expr))(c29:(List zu))(c30:Int)(c31:(List UInt8))(c32:(List UInt8))(c33:Int)(c34:(List UInt8))(c35:(List (List UInt8)))(c36:(List (List UInt8)))(c37:Int)(c38:Int)(c39:Int)(c40:Bool)(c41:Int)(c42:Int)(c43:Int)(c44:(List UInt8))(c45:(List UInt8))(c46:(List Expr))(c47:Int)(c48:Int)(c49:Int)(c50:Int)(c51:Int)(c52:Int)(c53:Int)(c54:Int)(c55:Int)(c56:(List UInt8))(c57:(List UInt8))(c58:(List Expr))(c59:(List zu)):Nat→(Int)→Option ((Bool)⊕(Unit))
 |0,_=>none
 |K+1,q=>(bif (decide (q<((List.length c29:Nat):Int)))then(idx c29 q).bind fun x1=>(idx c59 q).bind fun x2=>(bif (!(decide (x1.X=x2.X)&&(decide (x1.Y=x2.Y))))then some (Sum.inl false)else Ho c0 c1 c2 c3 c4 c5 c6 c7 c8 c9 c10 c11 c12 c13 c14 c15 c16 c17 c18 c19 c20 c21 c22 c23 c24 c25 c26 c27 c28 c29 c30 c31 c32 c33 c34 c35 c36 c37 c38 c39 c40 c41 c42 c43 c44 c45 c46 c47 c48 c49 c50 c51 c52 c53 c54 c55 c56 c57 c58 c59 K (w64 (q+1)))else some (Sum.inr ()))
def Qp(a:zq)(b:zq):Option (Bool) :=
 ((bif (!(decide (a.Kind=b.Kind)))then some true else(bif (!(decide (a.Name=b.Name)))then some true else(bif (!(decide (a.Key=b.Key)))then some true else(bif (!(decide (a.N=b.N)))then some true else some (!(decide (((List.length a.Corners:Nat):Int)=((List.length b.Corners:Nat):Int))))))))).bind fun x1=>(bif x1 then some false else(Ho a.Kind a.Name a.Key a.N a.zb.Name a.zb.Zones a.zb.Except a.zb.From a.zb.Until a.zb.Grace a.zb.Vary a.zb.Kind a.zb.Test.Op a.zb.Test.N a.zb.Test.S a.zb.Test.Key a.zb.Test.Args a.zb.zg.Side a.zb.zg.Base a.zb.zg.Num a.zb.zg.Den a.zb.Uses a.zb.Other a.zb.N a.Body.Op a.Body.N a.Body.S a.Body.Key a.Body.Args a.Corners b.Kind b.Name b.Key b.N b.zb.Name b.zb.Zones b.zb.Except b.zb.From b.zb.Until b.zb.Grace b.zb.Vary b.zb.Kind b.zb.Test.Op b.zb.Test.N b.zb.Test.S b.zb.Test.Key b.zb.Test.Args b.zb.zg.Side b.zb.zg.Base b.zb.zg.Num b.zb.zg.Den b.zb.Uses b.zb.Other b.zb.N b.Body.Op b.Body.N b.Body.S b.Body.Key b.Body.Args b.Corners KK 0).bind (z8 some fun _=>(zh5 (zK.mk [] [] [] ([(zb.mk a.zb.Name a.zb.Zones a.zb.Except a.zb.From a.zb.Until a.zb.Grace a.zb.Vary a.zb.Kind (Expr.mk a.zb.Test.Op a.zb.Test.N a.zb.Test.S a.zb.Test.Key a.zb.Test.Args) a.zb.zg a.zb.Uses a.zb.Other a.zb.N)]:List zb) [] [] [] 0) (zK.mk [] [] [] ([(zb.mk b.zb.Name b.zb.Zones b.zb.Except b.zb.From b.zb.Until b.zb.Grace b.zb.Vary b.zb.Kind (Expr.mk b.zb.Test.Op b.zb.Test.N b.zb.Test.S b.zb.Test.Key b.zb.Test.Args) b.zb.zg b.zb.Uses b.zb.Other b.zb.N)]:List zb) [] [] [] 0)).bind fun x3=>(bif x3 then(wy KK (Expr.mk a.Body.Op a.Body.N a.Body.S a.Body.Key a.Body.Args) (Expr.mk b.Body.Op b.Body.N b.Body.S b.Body.Key b.Body.Args)).bind fun x4=>some x4 else some false)))
def qA(e:zq):Option ((List UInt8)×(List UInt8)×(List UInt8)) :=
 (bif (decide (e.Kind=0))then some (W8,e.zb.Name,([]:List UInt8))else(bif (decide (e.Kind=1))then some (W8,e.Name,([]:List UInt8))else(oq e.Kind).bind fun x1=>some (x1,e.Name,e.Key)))
def wM(a:zq)(b:zq):Option (Bool) :=
 (yr (zq.mk a.Kind a.Name a.Key a.N (zb.mk a.zb.Name a.zb.Zones a.zb.Except a.zb.From a.zb.Until a.zb.Grace a.zb.Vary a.zb.Kind (Expr.mk a.zb.Test.Op a.zb.Test.N a.zb.Test.S a.zb.Test.Key a.zb.Test.Args) a.zb.zg a.zb.Uses a.zb.Other a.zb.N) (Expr.mk a.Body.Op a.Body.N a.Body.S a.Body.Key a.Body.Args) a.Corners)).bind fun x1=>(bif x1 then(yr (zq.mk b.Kind b.Name b.Key b.N (zb.mk b.zb.Name b.zb.Zones b.zb.Except b.zb.From b.zb.Until b.zb.Grace b.zb.Vary b.zb.Kind (Expr.mk b.zb.Test.Op b.zb.Test.N b.zb.Test.S b.zb.Test.Key b.zb.Test.Args) b.zb.zg b.zb.Uses b.zb.Other b.zb.N) (Expr.mk b.Body.Op b.Body.N b.Body.S b.Body.Key b.Body.Args) b.Corners)).bind fun x2=>(bif x2 then(qA (zq.mk a.Kind a.Name a.Key a.N (zb.mk a.zb.Name a.zb.Zones a.zb.Except a.zb.From a.zb.Until a.zb.Grace a.zb.Vary a.zb.Kind (Expr.mk a.zb.Test.Op a.zb.Test.N a.zb.Test.S a.zb.Test.Key a.zb.Test.Args) a.zb.zg a.zb.Uses a.zb.Other a.zb.N) (Expr.mk a.Body.Op a.Body.N a.Body.S a.Body.Key a.Body.Args) a.Corners)).bind fun x3=>(qA (zq.mk b.Kind b.Name b.Key b.N (zb.mk b.zb.Name b.zb.Zones b.zb.Except b.zb.From b.zb.Until b.zb.Grace b.zb.Vary b.zb.Kind (Expr.mk b.zb.Test.Op b.zb.Test.N b.zb.Test.S b.zb.Test.Key b.zb.Test.Args) b.zb.zg b.zb.Uses b.zb.Other b.zb.N) (Expr.mk b.Body.Op b.Body.N b.Body.S b.Body.Key b.Body.Args) b.Corners)).bind fun x4=>some (decide (x3.1=x4.1)&&(decide (x3.2.1=x4.2.1)&&(decide (x3.2.2=x4.2.2))))else some false)else some false)
def uk:Option (Bool) :=
 (zb7 w7).bind fun x1=>(zcg ([(zq.mk 3 zop zA7 5 (zb.mk ([]:List UInt8) [] [] 0 0 0 false 0 (Expr.mk 0 0 ([]:List UInt8) ([]:List UInt8) []) (zg.mk 0 0 0 0) 0 0 0) (Expr.mk 0 0 ([]:List UInt8) ([]:List UInt8) []) [])]:List zq)).bind fun x2=>(Kg (zK.mk [] [] [] [] [] [] [] 0) (zq.mk 5 zoo ([]:List UInt8) 60 (zb.mk ([]:List UInt8) [] [] 0 0 0 false 0 (Expr.mk 0 0 ([]:List UInt8) ([]:List UInt8) []) (zg.mk 0 0 0 0) 0 0 0) (Expr.mk 0 0 ([]:List UInt8) ([]:List UInt8) []) [])).bind fun x3=>(Vl 3).bind fun x4=>(Kg (zK.mk [] [] [] [] [] [] [] 0) (zq.mk 2 t_a ([]:List UInt8) 0 (zb.mk ([]:List UInt8) [] [] 0 0 0 false 0 (Expr.mk 0 0 ([]:List UInt8) ([]:List UInt8) []) (zg.mk 0 0 0 0) 0 0 0) (Expr.mk x4.1 x4.2.1 x4.2.2.1 x4.2.2.2.1 x4.2.2.2.2) [])).bind fun x5=>(zh4 (zK.mk [] [] [] [] [] [] [] 0) (zK.mk x5.2.1 x5.2.2.1 x5.2.2.2.1 x5.2.2.2.2.1 x5.2.2.2.2.2.1 x5.2.2.2.2.2.2.1 x5.2.2.2.2.2.2.2.1 x5.2.2.2.2.2.2.2.2)).bind fun x6=>((bif (!(decide (((List.length x1.1:Nat):Int)=2)))then some true else(bif (!(decide (((List.length x6.1:Nat):Int)=1)))then some true else some (!(decide (((List.length x5.2.1:Nat):Int)=1)))))).bind fun x7=>(bif x7 then some false else((bif (decide (x1.2=0))then(bif (decide (x2.2=0))then(bif (decide (x3.1=4))then(bif (decide (x5.1=0))then(bif (decide (x6.2=0))then some (decide (x2.1=kh))else some false)else some false)else some false)else some false)else some false)).bind fun x8=>((idx x1.1 0).bind fun x10=>(Qp x10 (zq.mk 5 zoo ([]:List UInt8) 60 (zb.mk ([]:List UInt8) [] [] 0 0 0 false 0 (Expr.mk 0 0 ([]:List UInt8) ([]:List UInt8) []) (zg.mk 0 0 0 0) 0 0 0) (Expr.mk 0 0 ([]:List UInt8) ([]:List UInt8) []) [])).bind fun x11=>(bif x11 then(idx x1.1 1).bind fun x12=>(Qp x12 (zq.mk 1 t_a ([]:List UInt8) 90 (zb.mk ([]:List UInt8) [] [] 0 0 0 false 0 (Expr.mk 0 0 ([]:List UInt8) ([]:List UInt8) []) (zg.mk 0 0 0 0) 0 0 0) (Expr.mk 0 0 ([]:List UInt8) ([]:List UInt8) []) [])).bind fun x13=>some x13 else some false)).bind fun x9=>(bif x8 then(bif x9 then(idx x6.1 0).bind fun x14=>(Vl 3).bind fun x15=>(Qp x14 (zq.mk 2 t_a ([]:List UInt8) 0 (zb.mk ([]:List UInt8) [] [] 0 0 0 false 0 (Expr.mk 0 0 ([]:List UInt8) ([]:List UInt8) []) (zg.mk 0 0 0 0) 0 0 0) (Expr.mk x15.1 x15.2.1 x15.2.2.1 x15.2.2.2.1 x15.2.2.2.2) [])).bind fun x16=>(bif x16 then(idx x6.1 0).bind fun x17=>(yr x17).bind fun x18=>(bif x18 then(idx x1.1 1).bind fun x19=>(idx x1.1 1).bind fun x20=>(wM x19 x20).bind fun x21=>(bif x21 then(idx x1.1 0).bind fun x22=>(idx x1.1 1).bind fun x23=>(wM x22 x23).bind fun x24=>(bif (!x24)then(idx x1.1 0).bind fun x25=>(idx x1.1 0).bind fun x26=>(vt x25 x26).bind fun x27=>some x27 else some false)else some false)else some false)else some false)else some false)else some false))
def xe(r_law_nodes:Expr→Int→Int→Option (Int))(c0:Int)(c1:Int)(c2:Int)(c3:Int)(c4:(List UInt8))(c5:(List UInt8))(c6:(List Expr)):Nat→(Int×Int)→Option (Int)
 |0,_=>none
 |K+1,q=>((bif (decide (q.2<((List.length c6:Nat):Int)))then some (decide (q.1≤c0))else some false)).bind fun x1=>(bif x1 then(idx c6 q.2).bind fun x2=>(r_law_nodes x2 (w64 (c0-q.1)) (w64 (c1-1))).bind fun x3=>xe r_law_nodes c0 c1 c2 c3 c4 c5 c6 K ((w64 (q.1+x3)),(w64 (q.2+1)))else some q.1)
def zL:Nat→Expr→Int→Int→Option (Int)
 |0,_,_,_=>none
 |RK+1,e,most,levels=>(bif (decide (levels<1))then some (w64 (most+1))else(xe (zL RK) most levels e.Op e.N e.S e.Key e.Args KK (1,0)).bind fun x1=>some x1)
def j3(r_:zb):Option (Bool) :=
 (zL KK (Expr.mk r_.Test.Op r_.Test.N r_.Test.S r_.Test.Key r_.Test.Args) 20 14).bind fun x1=>(bif (decide (x1≤20))then(bif (decide (((List.length r_.Zones:Nat):Int)≤6))then some (decide (((List.length r_.Except:Nat):Int)≤6))else some false)else some false)
def wN(c0:(List Def))(c1:(List Table))(c2:(List zr))(c3:(List zb))(c4:(List Cap))(c5:(List View))(c6:(List zj))(c7:Int):Nat→(Int)→Option ((Bool)⊕(Unit))
 |0,_=>none
 |K+1,q=>(bif (decide (q<((List.length c0:Nat):Int)))then(idx c0 q).bind fun x1=>(zL KK x1.Body 20 14).bind fun x2=>(bif (decide (x2>20))then some (Sum.inl false)else wN c0 c1 c2 c3 c4 c5 c6 c7 K (w64 (q+1)))else some (Sum.inr ()))
def wO(c0:(List Def))(c1:(List Table))(c2:(List zr))(c3:(List zb))(c4:(List Cap))(c5:(List View))(c6:(List zj))(c7:Int):Nat→(Int)→Option ((Bool)⊕(Unit))
 |0,_=>none
 |K+1,q=>(bif (decide (q<((List.length c1:Nat):Int)))then(idx c1 q).bind fun x1=>(bif (decide (((List.length x1.Rows:Nat):Int)>6))then some (Sum.inl false)else wO c0 c1 c2 c3 c4 c5 c6 c7 K (w64 (q+1)))else some (Sum.inr ()))
def wP(c0:(List Def))(c1:(List Table))(c2:(List zr))(c3:(List zb))(c4:(List Cap))(c5:(List View))(c6:(List zj))(c7:Int):Nat→(Int)→Option ((Bool)⊕(Unit))
 |0,_=>none
 |K+1,q=>(bif (decide (q<((List.length c2:Nat):Int)))then(idx c2 q).bind fun x1=>(bif (decide (((List.length x1.Corners:Nat):Int)>12))then some (Sum.inl false)else wP c0 c1 c2 c3 c4 c5 c6 c7 K (w64 (q+1)))else some (Sum.inr ()))
def wQ(c0:(List Def))(c1:(List Table))(c2:(List zr))(c3:(List zb))(c4:(List Cap))(c5:(List View))(c6:(List zj))(c7:Int):Nat→(Int)→Option ((Bool)⊕(Unit))
 |0,_=>none
 |K+1,q=>(bif (decide (q<((List.length c3:Nat):Int)))then(idx c3 q).bind fun x1=>(j3 x1).bind fun x2=>(bif (!x2)then some (Sum.inl false)else wQ c0 c1 c2 c3 c4 c5 c6 c7 K (w64 (q+1)))else some (Sum.inr ()))
def wR(c0:(List Def))(c1:(List Table))(c2:(List zr))(c3:(List zb))(c4:(List Cap))(c5:(List View))(c6:(List zj))(c7:Int):Nat→(Int)→Option ((Bool)⊕(Unit))
 |0,_=>none
 |K+1,q=>(bif (decide (q<((List.length c4:Nat):Int)))then(idx c4 q).bind fun x1=>(bif (decide (((List.length x1.Corners:Nat):Int)>12))then some (Sum.inl false)else wR c0 c1 c2 c3 c4 c5 c6 c7 K (w64 (q+1)))else some (Sum.inr ()))
def wS(c0:(List Def))(c1:(List Table))(c2:(List zr))(c3:(List zb))(c4:(List Cap))(c5:(List View))(c6:(List zj))(c7:Int):Nat→(Int)→Option ((Bool)⊕(Unit))
 |0,_=>none
 |K+1,q=>(bif (decide (q<((List.length c5:Nat):Int)))then(idx c5 q).bind fun x1=>(bif (decide (((List.length x1.Targets:Nat):Int)>6))then some (Sum.inl false)else wS c0 c1 c2 c3 c4 c5 c6 c7 K (w64 (q+1)))else some (Sum.inr ()))
def Am(p:zK):Option (Bool) :=
 ((bif (decide (((List.length p.Defs:Nat):Int)>5))then some true else(bif (decide (((List.length p.Tables:Nat):Int)>5))then some true else(bif (decide (((List.length p.Zones:Nat):Int)>5))then some true else(bif (decide (((List.length p.Rules:Nat):Int)>5))then some true else(bif (decide (((List.length p.Caps:Nat):Int)>5))then some true else(bif (decide (((List.length p.Views:Nat):Int)>5))then some true else some (decide (((List.length p.Sun:Nat):Int)>5))))))))).bind fun x1=>(bif x1 then some false else(wN p.Defs p.Tables p.Zones p.Rules p.Caps p.Views p.Sun p.Hours KK 0).bind (z8 some fun _=>(wO p.Defs p.Tables p.Zones p.Rules p.Caps p.Views p.Sun p.Hours KK 0).bind (z8 some fun _=>(wP p.Defs p.Tables p.Zones p.Rules p.Caps p.Views p.Sun p.Hours KK 0).bind (z8 some fun _=>(wQ p.Defs p.Tables p.Zones p.Rules p.Caps p.Views p.Sun p.Hours KK 0).bind (z8 some fun _=>(wR p.Defs p.Tables p.Zones p.Rules p.Caps p.Views p.Sun p.Hours KK 0).bind (z8 some fun _=>(wS p.Defs p.Tables p.Zones p.Rules p.Caps p.Views p.Sun p.Hours KK 0).bind (z8 some fun _=>some true)))))))
def wz(c0:(List zq)):Nat→(Int)→Option ((Bool)⊕(Unit))
 |0,_=>none
 |K+1,q=>((bif (decide (q<((List.length c0:Nat):Int)))then some (decide (q<7))else some false)).bind fun x1=>(bif x1 then((idx c0 q).bind fun x3=>(j3 x3.zb).bind fun x4=>(bif (!x4)then some true else(idx c0 q).bind fun x5=>(zL KK x5.Body 20 14).bind fun x6=>(bif (decide (x6>20))then some true else(idx c0 q).bind fun x7=>some (decide (((List.length x7.Corners:Nat):Int)>12))))).bind fun x2=>(bif x2 then some (Sum.inl false)else wz c0 K (w64 (q+1)))else some (Sum.inr ()))
def Jx(l:(List zq)):Option (Bool) :=
 (wz l KK 0).bind (z8 some fun _=>some (decide (((List.length l:Nat):Int)≤6)))
def xE(c0:(List Def))(c1:(List Table))(c2:(List zr))(c3:(List zb))(c4:(List Cap))(c5:(List View))(c6:(List zj))(c7:Int):Nat→(Int×Int)→Option (Int)
 |0,_=>none
 |K+1,q=>(bif (decide (q.2<((List.length c1:Nat):Int)))then(idx c1 q.2).bind fun x1=>xE c0 c1 c2 c3 c4 c5 c6 c7 K ((w64 (q.1+((List.length x1.Rows:Nat):Int))),(w64 (q.2+1)))else some q.1)
def vk(p:zK):Option (Int) :=
 (xE p.Defs p.Tables p.Zones p.Rules p.Caps p.Views p.Sun p.Hours KK (0,0)).bind fun x1=>some x1
def xh(p:zK)(a:zq)(b:zq):Option (Bool) :=
 (uk).bind fun x1=>((Am p).bind fun x3=>(bif (!x3)then some true else(Jx ([(zq.mk a.Kind a.Name a.Key a.N (zb.mk a.zb.Name a.zb.Zones a.zb.Except a.zb.From a.zb.Until a.zb.Grace a.zb.Vary a.zb.Kind (Expr.mk a.zb.Test.Op a.zb.Test.N a.zb.Test.S a.zb.Test.Key a.zb.Test.Args) a.zb.zg a.zb.Uses a.zb.Other a.zb.N) (Expr.mk a.Body.Op a.Body.N a.Body.S a.Body.Key a.Body.Args) a.Corners),(zq.mk b.Kind b.Name b.Key b.N (zb.mk b.zb.Name b.zb.Zones b.zb.Except b.zb.From b.zb.Until b.zb.Grace b.zb.Vary b.zb.Kind (Expr.mk b.zb.Test.Op b.zb.Test.N b.zb.Test.S b.zb.Test.Key b.zb.Test.Args) b.zb.zg b.zb.Uses b.zb.Other b.zb.N) (Expr.mk b.Body.Op b.Body.N b.Body.S b.Body.Key b.Body.Args) b.Corners)]:List zq)).bind fun x4=>(bif (!x4)then some true else(yr (zq.mk a.Kind a.Name a.Key a.N (zb.mk a.zb.Name a.zb.Zones a.zb.Except a.zb.From a.zb.Until a.zb.Grace a.zb.Vary a.zb.Kind (Expr.mk a.zb.Test.Op a.zb.Test.N a.zb.Test.S a.zb.Test.Key a.zb.Test.Args) a.zb.zg a.zb.Uses a.zb.Other a.zb.N) (Expr.mk a.Body.Op a.Body.N a.Body.S a.Body.Key a.Body.Args) a.Corners)).bind fun x5=>(bif (!x5)then some true else(yr (zq.mk b.Kind b.Name b.Key b.N (zb.mk b.zb.Name b.zb.Zones b.zb.Except b.zb.From b.zb.Until b.zb.Grace b.zb.Vary b.zb.Kind (Expr.mk b.zb.Test.Op b.zb.Test.N b.zb.Test.S b.zb.Test.Key b.zb.Test.Args) b.zb.zg b.zb.Uses b.zb.Other b.zb.N) (Expr.mk b.Body.Op b.Body.N b.Body.S b.Body.Key b.Body.Args) b.Corners)).bind fun x6=>(bif (!x6)then some true else(uh p).bind fun x7=>some (!x7)))))).bind fun x2=>(bif x2 then some x1 else(qz p ([(zq.mk a.Kind a.Name a.Key a.N (zb.mk a.zb.Name a.zb.Zones a.zb.Except a.zb.From a.zb.Until a.zb.Grace a.zb.Vary a.zb.Kind (Expr.mk a.zb.Test.Op a.zb.Test.N a.zb.Test.S a.zb.Test.Key a.zb.Test.Args) a.zb.zg a.zb.Uses a.zb.Other a.zb.N) (Expr.mk a.Body.Op a.Body.N a.Body.S a.Body.Key a.Body.Args) a.Corners),(zq.mk b.Kind b.Name b.Key b.N (zb.mk b.zb.Name b.zb.Zones b.zb.Except b.zb.From b.zb.Until b.zb.Grace b.zb.Vary b.zb.Kind (Expr.mk b.zb.Test.Op b.zb.Test.N b.zb.Test.S b.zb.Test.Key b.zb.Test.Args) b.zb.zg b.zb.Uses b.zb.Other b.zb.N) (Expr.mk b.Body.Op b.Body.N b.Body.S b.Body.Key b.Body.Args) b.Corners)]:List zq)).bind fun x8=>(qz p ([(zq.mk b.Kind b.Name b.Key b.N (zb.mk b.zb.Name b.zb.Zones b.zb.Except b.zb.From b.zb.Until b.zb.Grace b.zb.Vary b.zb.Kind (Expr.mk b.zb.Test.Op b.zb.Test.N b.zb.Test.S b.zb.Test.Key b.zb.Test.Args) b.zb.zg b.zb.Uses b.zb.Other b.zb.N) (Expr.mk b.Body.Op b.Body.N b.Body.S b.Body.Key b.Body.Args) b.Corners),(zq.mk a.Kind a.Name a.Key a.N (zb.mk a.zb.Name a.zb.Zones a.zb.Except a.zb.From a.zb.Until a.zb.Grace a.zb.Vary a.zb.Kind (Expr.mk a.zb.Test.Op a.zb.Test.N a.zb.Test.S a.zb.Test.Key a.zb.Test.Args) a.zb.zg a.zb.Uses a.zb.Other a.zb.N) (Expr.mk a.Body.Op a.Body.N a.Body.S a.Body.Key a.Body.Args) a.Corners)]:List zq)).bind fun x9=>((wM (zq.mk a.Kind a.Name a.Key a.N (zb.mk a.zb.Name a.zb.Zones a.zb.Except a.zb.From a.zb.Until a.zb.Grace a.zb.Vary a.zb.Kind (Expr.mk a.zb.Test.Op a.zb.Test.N a.zb.Test.S a.zb.Test.Key a.zb.Test.Args) a.zb.zg a.zb.Uses a.zb.Other a.zb.N) (Expr.mk a.Body.Op a.Body.N a.Body.S a.Body.Key a.Body.Args) a.Corners) (zq.mk b.Kind b.Name b.Key b.N (zb.mk b.zb.Name b.zb.Zones b.zb.Except b.zb.From b.zb.Until b.zb.Grace b.zb.Vary b.zb.Kind (Expr.mk b.zb.Test.Op b.zb.Test.N b.zb.Test.S b.zb.Test.Key b.zb.Test.Args) b.zb.zg b.zb.Uses b.zb.Other b.zb.N) (Expr.mk b.Body.Op b.Body.N b.Body.S b.Body.Key b.Body.Args) b.Corners)).bind fun x11=>(wM (zq.mk b.Kind b.Name b.Key b.N (zb.mk b.zb.Name b.zb.Zones b.zb.Except b.zb.From b.zb.Until b.zb.Grace b.zb.Vary b.zb.Kind (Expr.mk b.zb.Test.Op b.zb.Test.N b.zb.Test.S b.zb.Test.Key b.zb.Test.Args) b.zb.zg b.zb.Uses b.zb.Other b.zb.N) (Expr.mk b.Body.Op b.Body.N b.Body.S b.Body.Key b.Body.Args) b.Corners) (zq.mk a.Kind a.Name a.Key a.N (zb.mk a.zb.Name a.zb.Zones a.zb.Except a.zb.From a.zb.Until a.zb.Grace a.zb.Vary a.zb.Kind (Expr.mk a.zb.Test.Op a.zb.Test.N a.zb.Test.S a.zb.Test.Key a.zb.Test.Args) a.zb.zg a.zb.Uses a.zb.Other a.zb.N) (Expr.mk a.Body.Op a.Body.N a.Body.S a.Body.Key a.Body.Args) a.Corners)).bind fun x12=>(bif (!(x11==x12))then some true else(wM (zq.mk a.Kind a.Name a.Key a.N (zb.mk a.zb.Name a.zb.Zones a.zb.Except a.zb.From a.zb.Until a.zb.Grace a.zb.Vary a.zb.Kind (Expr.mk a.zb.Test.Op a.zb.Test.N a.zb.Test.S a.zb.Test.Key a.zb.Test.Args) a.zb.zg a.zb.Uses a.zb.Other a.zb.N) (Expr.mk a.Body.Op a.Body.N a.Body.S a.Body.Key a.Body.Args) a.Corners) (zq.mk a.Kind a.Name a.Key a.N (zb.mk a.zb.Name a.zb.Zones a.zb.Except a.zb.From a.zb.Until a.zb.Grace a.zb.Vary a.zb.Kind (Expr.mk a.zb.Test.Op a.zb.Test.N a.zb.Test.S a.zb.Test.Key a.zb.Test.Args) a.zb.zg a.zb.Uses a.zb.Other a.zb.N) (Expr.mk a.Body.Op a.Body.N a.Body.S a.Body.Key a.Body.Args) a.Corners)).bind fun x13=>some (!x13))).bind fun x10=>(bif x10 then some false else((wM (zq.mk a.Kind a.Name a.Key a.N (zb.mk a.zb.Name a.zb.Zones a.zb.Except a.zb.From a.zb.Until a.zb.Grace a.zb.Vary a.zb.Kind (Expr.mk a.zb.Test.Op a.zb.Test.N a.zb.Test.S a.zb.Test.Key a.zb.Test.Args) a.zb.zg a.zb.Uses a.zb.Other a.zb.N) (Expr.mk a.Body.Op a.Body.N a.Body.S a.Body.Key a.Body.Args) a.Corners) (zq.mk b.Kind b.Name b.Key b.N (zb.mk b.zb.Name b.zb.Zones b.zb.Except b.zb.From b.zb.Until b.zb.Grace b.zb.Vary b.zb.Kind (Expr.mk b.zb.Test.Op b.zb.Test.N b.zb.Test.S b.zb.Test.Key b.zb.Test.Args) b.zb.zg b.zb.Uses b.zb.Other b.zb.N) (Expr.mk b.Body.Op b.Body.N b.Body.S b.Body.Key b.Body.Args) b.Corners)).bind fun x15=>(bif x15 then some true else(bif (!(decide (x8.1=0)))then some true else some (!(decide (x9.1=0)))))).bind fun x14=>(bif x14 then some x1 else((bif (decide (((List.length x8.2.2.2.2.1:Nat):Int)>(w64 (((List.length p.Rules:Nat):Int)+1))))then some true else(bif (decide (((List.length x8.2.1:Nat):Int)>(w64 (((List.length p.Defs:Nat):Int)+1))))then some true else(bif (decide (((List.length x8.2.2.2.1:Nat):Int)>(w64 (((List.length p.Zones:Nat):Int)+1))))then some true else(bif (decide (((List.length x8.2.2.1:Nat):Int)>(w64 (((List.length p.Tables:Nat):Int)+1))))then some true else(vk (zK.mk x8.2.1 x8.2.2.1 x8.2.2.2.1 x8.2.2.2.2.1 x8.2.2.2.2.2.1 x8.2.2.2.2.2.2.1 x8.2.2.2.2.2.2.2.1 x8.2.2.2.2.2.2.2.2)).bind fun x17=>(vk p).bind fun x18=>some (decide (x17>(w64 (x18+1))))))))).bind fun x16=>(bif x1 then(bif x16 then some (decide (((List.length x8.2.2.2.2.2.1:Nat):Int)=((List.length p.Caps:Nat):Int)))else(Vf (zK.mk x8.2.1 x8.2.2.1 x8.2.2.2.1 x8.2.2.2.2.1 x8.2.2.2.2.2.1 x8.2.2.2.2.2.2.1 x8.2.2.2.2.2.2.2.1 x8.2.2.2.2.2.2.2.2) (zK.mk x9.2.1 x9.2.2.1 x9.2.2.2.1 x9.2.2.2.2.1 x9.2.2.2.2.2.1 x9.2.2.2.2.2.2.1 x9.2.2.2.2.2.2.2.1 x9.2.2.2.2.2.2.2.2)).bind fun x19=>(bif x19 then some (decide (((List.length x8.2.2.2.2.2.1:Nat):Int)=((List.length p.Caps:Nat):Int)))else some false))else some false))))
end Go.Proofs.YthnokpghgeppdaaGreatDoor
