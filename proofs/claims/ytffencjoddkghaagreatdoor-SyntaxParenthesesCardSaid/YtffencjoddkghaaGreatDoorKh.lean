/- texts that the proof of SyntaxPrints reaches, part 8 -/
import Derived.Test.YtffencjoddkghaaGreatDoorKg
set_option linter.all false
set_option maxRecDepth 100000
namespace Go.Proofs.YtffencjoddkghaaGreatDoor
open Go Go.RowKit Go.Eng Go.EV Go.EQ
abbrev Bs8:=List UInt8
abbrev Mb8:=List (Bs8×Bool)
structure Expr where
 Op:Int
 N:Int
 S:Bs8
 Key:Bs8
 Args:(List Expr)
instance:Inhabited Expr:=⟨⟨0,0,[],[],[]⟩⟩
mutual
def kj:Expr→List V
 |⟨a0,a1,a2,a3,a4⟩=>[.int .i64 a0,.int .i64 a1,.str a2,.str a3,.vs 5 (yn a4)]
def yn:List Expr→List (List V)
 |[]=>[]
 |x::r=>kj x::yn r
end
def y6(x:Expr):List V:=[.int .i64 x.Op,.int .i64 x.N,.str x.S,.str x.Key,.vs 5 (yn x.Args)]
theorem oG(x:Expr):kj x=y6 x:=by cases x;rw[kj];rfl
theorem wU:∀l:List Expr,yn l=l.map y6
 |[]=>by rw[yn];rfl
 |x::r=>by rw[yn,oG,wU r];rfl
structure Def where
 Name:Bs8
 Body:Expr
 deriving Inhabited
def VJ(x:Def):List V:=[.str x.Name,.int .i64 x.Body.Op,.int .i64 x.Body.N,.str x.Body.S,.str x.Body.Key,.vs 5 (yn x.Body.Args)]
structure Entry where
 Name:Bs8
 N:Int
 deriving Inhabited,DecidableEq
def qK(x:Entry):List V:=[.str x.Name,.int .i64 x.N]
structure Table where
 Name:Bs8
 Rows:(List Entry)
 Else:Int
 deriving Inhabited,DecidableEq
def oH(x:Table):List V:=[.str x.Name,.vs 2 (List.map qK x.Rows),.int .i64 x.Else]
structure yP where
 X:Int
 Y:Int
 deriving Inhabited,DecidableEq
def jg(x:yP):List V:=[.int .i64 x.X,.int .i64 x.Y]
structure xE where
 Name:Bs8
 Overlay:Bool
 Corners:(List yP)
 deriving Inhabited,DecidableEq
def Jd(x:xE):List V:=[.str x.Name,.bool x.Overlay,.vs 2 (List.map jg x.Corners)]
structure zP where
 Side:Int
 Base:Int
 Num:Int
 Den:Int
 deriving Inhabited,DecidableEq
def Je(x:zP):List V:=[.int .i64 x.Side,.int .i64 x.Base,.int .i64 x.Num,.int .i64 x.Den]
structure yz where
 Name:Bs8
 Zones:List Bs8
 Except:List Bs8
 From:Int
 Until:Int
 Grace:Int
 Vary:Bool
 Kind:Int
 Test:Expr
 zP:zP
 Uses:Int
 Other:Int
 N:Int
 deriving Inhabited
def Jf(x:yz):List V:=[.str x.Name,.vs 1 (List.map EV.zEa x.Zones),.vs 1 (List.map EV.zEa x.Except),.int .i64 x.From,.int .i64 x.Until,.int .i64 x.Grace,.bool x.Vary,.int .i64 x.Kind,.int .i64 x.Test.Op,.int .i64 x.Test.N,.str x.Test.S,.str x.Test.Key,.vs 5 (yn x.Test.Args),.int .i64 x.zP.Side,.int .i64 x.zP.Base,.int .i64 x.zP.Num,.int .i64 x.zP.Den,.int .i64 x.Uses,.int .i64 x.Other,.int .i64 x.N]
structure Cap where
 Name:Bs8
 Load:Int
 Limit:Int
 Corners:(List yP)
 deriving Inhabited,DecidableEq
def VK(x:Cap):List V:=[.str x.Name,.int .i64 x.Load,.int .i64 x.Limit,.vs 2 (List.map jg x.Corners)]
structure zn where
 X:Int
 Y:Int
 Z_:Int
 deriving Inhabited,DecidableEq
def vB(x:zn):List V:=[.int .i64 x.X,.int .i64 x.Y,.int .i64 x.Z_]
structure View where
 Name:Bs8
 Eye:zn
 Least:Int
 Targets:(List zn)
 deriving Inhabited,DecidableEq
def Jg(x:View):List V:=[.str x.Name,.int .i64 x.Eye.X,.int .i64 x.Eye.Y,.int .i64 x.Eye.Z_,.int .i64 x.Least,.vs 3 (List.map vB x.Targets)]
structure Token where
 Kind:Int
 Text:Bs8
 N:Int
 Pos:Int
 deriving Inhabited,DecidableEq
def Jh(x:Token):List V:=[.int .i64 x.Kind,.str x.Text,.int .i64 x.N,.int .i64 x.Pos]
structure zd where
 text:Bs8
 op:Int
 form:Int
 deriving Inhabited,DecidableEq
def kl(x:zd):List V:=[.str x.text,.int .i64 x.op,.int .i64 x.form]
structure zD where
 a:yP
 b:yP
 deriving Inhabited,DecidableEq
def oe(x:zD):List V:=[.int .i64 x.a.X,.int .i64 x.a.Y,.int .i64 x.b.X,.int .i64 x.b.Y]
structure J6 where
 Defs:(List Def)
 Tables:(List Table)
 Zones:(List xE)
 Rules:(List yz)
 Caps:(List Cap)
 Views:(List View)
 Sun:(List zn)
 Hours:Int
 deriving Inhabited
def zk1(x:J6):List V:=[.vs 6 (List.map VJ x.Defs),.vs 3 (List.map oH x.Tables),.vs 3 (List.map Jd x.Zones),.vs 20 (List.map Jf x.Rules),.vs 4 (List.map VK x.Caps),.vs 6 (List.map Jg x.Views),.vs 3 (List.map vB x.Sun),.int .i64 x.Hours]
instance:Inhabited (Int⊕Bs8):=⟨.inl 0⟩
def zzo(s:Bs8)(n:Int):Option Bs8:=(grd (0≤n∧n<256∧List.length s+1≤140737488355328)).bind fun _=>some (s++[UInt8.ofNat (Int.toNat n)])
structure BB where
 l:(List Token)
 i:Int
 D:(List Def)
 T:(List Table)
 Z:(List xE)
 R:(List yz)
 C:(List Cap)
 V:(List View)
 S:(List zn)
 H:Int
 n0:(List Mb8)
 n1:(List Mb8)
 n2:(List Mb8)
 n3:(List Mb8)
 n4:(List Mb8)
 n5:(List Mb8)
 h:Bool
def yL(x:(List Token)×Int×(List Def)×(List Table)×(List xE)×(List yz)×(List Cap)×(List View)×(List zn)×Int×(List Mb8)×(List Mb8)×(List Mb8)×(List Mb8)×(List Mb8)×(List Mb8)×Bool):BB:=⟨x.1,x.2.1,x.2.2.1,x.2.2.2.1,x.2.2.2.2.1,x.2.2.2.2.2.1,x.2.2.2.2.2.2.1,x.2.2.2.2.2.2.2.1,x.2.2.2.2.2.2.2.2.1,x.2.2.2.2.2.2.2.2.2.1,x.2.2.2.2.2.2.2.2.2.2.1,x.2.2.2.2.2.2.2.2.2.2.2.1,x.2.2.2.2.2.2.2.2.2.2.2.2.1,x.2.2.2.2.2.2.2.2.2.2.2.2.2.1,x.2.2.2.2.2.2.2.2.2.2.2.2.2.2.1,x.2.2.2.2.2.2.2.2.2.2.2.2.2.2.2.1,x.2.2.2.2.2.2.2.2.2.2.2.2.2.2.2.2⟩
def VN{R:Type}(x:(List Token)×Int×(List Def)×(List Table)×(List xE)×(List yz)×(List Cap)×(List View)×(List zn)×Int×(List Mb8)×(List Mb8)×(List Mb8)×(List Mb8)×(List Mb8)×(List Mb8)×Bool×R):BB:=⟨x.1,x.2.1,x.2.2.1,x.2.2.2.1,x.2.2.2.2.1,x.2.2.2.2.2.1,x.2.2.2.2.2.2.1,x.2.2.2.2.2.2.2.1,x.2.2.2.2.2.2.2.2.1,x.2.2.2.2.2.2.2.2.2.1,x.2.2.2.2.2.2.2.2.2.2.1,x.2.2.2.2.2.2.2.2.2.2.2.1,x.2.2.2.2.2.2.2.2.2.2.2.2.1,x.2.2.2.2.2.2.2.2.2.2.2.2.2.1,x.2.2.2.2.2.2.2.2.2.2.2.2.2.2.1,x.2.2.2.2.2.2.2.2.2.2.2.2.2.2.2.1,x.2.2.2.2.2.2.2.2.2.2.2.2.2.2.2.2.1⟩
def rBB{R:Type}(x:(List Token)×Int×(List Def)×(List Table)×(List xE)×(List yz)×(List Cap)×(List View)×(List zn)×Int×(List Mb8)×(List Mb8)×(List Mb8)×(List Mb8)×(List Mb8)×(List Mb8)×Bool×R):R:=x.2.2.2.2.2.2.2.2.2.2.2.2.2.2.2.2.2
def t_0:Bs8:=[48]
def uC:Bs8:=[50,32,42,32,40,32,97,32,43,32,98,32,41]
def t__:Bs8:=[32]
def zg:Bs8:=[32,97,110,100,32,97,112,97,114,116,32,98,97,115,101,32,99,97,112,32,100,101,102,105,110,101,32,101,108,115,101,32,101,120,99,101,112,116,32,102,114,111,109,32,103,114,97,99,101,32,104,111,117,114,115,32,105,102,32,105,110,32,108,101,97,115,116,32,110,111,116,32,111,114,32,111,118,101,114,108,97,121,32,112,108,97,110,101,32,114,117,108,101,32,115,108,111,112,101,32,115,117,110,32,116,97,98,108,101,32,116,104,101,110,32,117,110,116,105,108,32,117,115,101,115,32,118,97,114,121,32,118,105,101,119,32,122,111,110,101,32]
def yu:Bs8:=[32,101,108,115,101,32]
def yv:Bs8:=[32,116,104,101,110,32]
def oI:Bs8:=[32,41]
def t_a:Bs8:=[97]
def t_a1:Bs8:=[97,49]
def oJ:Bs8:=[97,32,43,32,98,32,42,32,50,32,60,32,99]
def zsa:Bs8:=[97,110,100]
def zbn:Bs8:=[97,112,97,114,116]
def VO:Bs8:=[97,43,98,42,50,60,99]
def t_b:Bs8:=[98]
def zez:Bs8:=[98,97,115,101]
def zn3:Bs8:=[99,97,112]
def QT:Bs8:=[100,101,102,105,110,101]
def Jj:Bs8:=[100,101,102,105,110,101,32,97,32,61,32,59]
def Az:Bs8:=[100,101,102,105,110,101,32,105,102,32,61,32,49,59]
def wx:Bs8:=[101,108,115,101]
def QU:Bs8:=[101,120,99,101,112,116]
def zk2:Bs8:=[102,114,111,109]
def zbo:Bs8:=[103,114,97,99,101]
def zj:Bs8:=[104,111,109,101,32,115,104,111,112,32,119,111,114,107,32,112,97,114,107,32,112,108,97,110,116,32,104,97,108,108]
def zU:Bs8:=[104,111,109,101,115,32,116,114,97,102,102,105,99,32,114,117,110,111,102,102]
def J7:Bs8:=[104,111,117,114,115]
def zbp:Bs8:=[104,111,117,114,115,32,50,53,59]
def Jk:Bs8:=[105,102]
def kB:Bs8:=[105,102,32]
def zIk:Bs8:=[105,110]
def VP:Bs8:=[108,101,97,115,116]
def jh:Bs8:=[110,111,116]
def K6:Bs8:=[110,111,116,32]
def zGa:Bs8:=[111,114]
def ji:Bs8:=[111,118,101,114,108,97,121]
def zbq:Bs8:=[112,108,97,110,101]
def VQ:Bs8:=[114,117,108,101]
def jA:Bs8:=[114,117,108,101,32,114,58,32,117,115,101,115,32,104,111,109,101,32,104,111,109,101,59]
def VR:Bs8:=[115,108,111,112,101]
def zn4:Bs8:=[115,117,110]
def xb:Bs8:=[116,97,98,108,101]
def xO:Bs8:=[116,97,98,108,101,32]
def jj:Bs8:=[116,104,101,110]
def zbr:Bs8:=[117,110,116,105,108]
def zk3:Bs8:=[117,115,101,115]
def zk4:Bs8:=[118,97,114,121]
def Y5:Bs8:=[118,105,101,119]
def Yk:Bs8:=[37]
def wB:Bs8:=[40]
def og:Bs8:=[40,32]
def xL:Bs8:=[41]
def Yl:Bs8:=[42]
def Ym:Bs8:=[43]
def zbs:Bs8:=[44]
def xA:Bs8:=[45]
def Jl:Bs8:=[45,32]
def Yn:Bs8:=[47]
def Jm:Bs8:=[58]
def wC:Bs8:=[59]
def z7:Bs8:=[59,44,58,61,60,43,45,42,47,37,40,41]
def Yo:Bs8:=[60]
def vU:Bs8:=[60,61]
def Yp:Bs8:=[61]
def vV:Bs8:=[61,61]
def xU:Bs8:=[122,111,110,101]
def kY:Bs8:=[122,111,110,101,32]
def uD:Bs8:=[122,111,110,101,32,97,32,48,32,48,32,52,32,48,32,52,32,52,59]
def va:Bs8:=[122,111,110,101,32,99,111,114,101,32,48,32,48,32,52,32,48,32,52,32,52,32,48,32,52,32,59,10]
def jk:Bs8:=[122,111,110,101,32,99,111,114,101,32,48,32,48,32,52,32,48,32,52,32,52,32,48,32,52,59]
variable[Fuel]
def oK(c_:Int):Option (Bool) :=
 (bif (decide (c_=32))then some true else(bif (decide (c_=9))then some true else some (decide (c_=10))))
def uE(c0:Bs8):Nat→(Int)→Option (Int)
 |0,_=>none
 |K+1,q=>((bif (decide (q<(c0.length:Int)))then(idx c0 q).bind fun x2=>(oK ((x2.toNat:Nat):Int)).bind fun x3=>some x3 else some false)).bind fun x1=>(bif x1 then uE c0 K (w64 (q+1))else some q)
def QV(s:Bs8):Option (Int) :=
 (uE s KK 0).bind fun x1=>some x1
def vD(c_:Int):Option (Bool) :=
 (bif (decide (c_≥97))then some (decide (c_≤122))else some false)
def jm(c_:Int):Option (Bool) :=
 (bif (decide (c_≥48))then some (decide (c_≤57))else some false)
def Al(c_:Int):Option (Bool) :=
 (vD c_).bind fun x1=>(bif x1 then some true else(jm c_).bind fun x2=>some x2)
def jI(c0:Bs8):Nat→(Int)→Option (Int)
 |0,_=>none
 |K+1,q=>((bif (decide (q<(c0.length:Int)))then(idx c0 q).bind fun x2=>(Al ((x2.toNat:Nat):Int)).bind fun x3=>some x3 else some false)).bind fun x1=>(bif x1 then jI c0 K (w64 (q+1))else some q)
def Am(s:Bs8):Option (Int) :=
 (jI s KK 0).bind fun x1=>some x1
def j4(c_:Int):Option (Bool) :=
 (vD c_).bind fun x1=>(bif x1 then some true else(jm c_).bind fun x2=>some x2)
def jJ(c0:Bs8):Nat→(Int)→Option (Int)
 |0,_=>none
 |K+1,q=>((bif (decide (q<(c0.length:Int)))then(idx c0 q).bind fun x2=>(j4 ((x2.toNat:Nat):Int)).bind fun x3=>some x3 else some false)).bind fun x1=>(bif x1 then jJ c0 K (w64 (q+1))else some q)
def An(s:Bs8):Option (Int) :=
 (jJ s KK 0).bind fun x1=>some x1
def Jn(s:Bs8):Option (Bool) :=
 ((bif (decide (s=([]:Bs8)))then some true else(idx s 0).bind fun x2=>(vD ((x2.toNat:Nat):Int)).bind fun x3=>(bif (!x3)then some true else some (decide ((s.length:Int)>20))))).bind fun x1=>(bif x1 then some false else(An s).bind fun x4=>some (decide (x4=(s.length:Int))))
def jK(c0:Bs8):Nat→(Int)→Option (Int)
 |0,_=>none
 |K+1,q=>((bif (decide (q<(c0.length:Int)))then(idx c0 q).bind fun x2=>(jm ((x2.toNat:Nat):Int)).bind fun x3=>some x3 else some false)).bind fun x1=>(bif x1 then jK c0 K (w64 (q+1))else some q)
def qL(s:Bs8):Option (Int) :=
 (jK s KK 0).bind fun x1=>some x1
def wh(c0:Bs8)(c1:Int):Nat→(Int×Int)→Option (Int)
 |0,_=>none
 |K+1,q=>(bif (decide (q.2<c1))then(idx c0 q.2).bind fun x1=>wh c0 c1 K ((w64 ((w64 (10*q.1))+(w64 ((IntKind.u8.wrap (((x1.toNat:Nat):Int)-48)))))),(w64 (q.2+1)))else some q.1)
def Ao(s:Bs8):Option (Int×Bool) :=
 ((bif (decide (s=([]:Bs8)))then some true else(qL s).bind fun x2=>(bif (!(decide (x2=(s.length:Int))))then some true else(idx s 0).bind fun x3=>(bif (decide (((x3.toNat:Nat):Int)=48))then(bif (!(decide (s=t_0)))then some true else some (decide ((s.length:Int)>13)))else some (decide ((s.length:Int)>13)))))).bind fun x1=>(bif x1 then some (0,false)else(wh s (s.length:Int) KK (0,0)).bind fun x4=>(bif (decide (x4>1099511627776))then some (0,false)else some (x4,true)))
def A1(a0:Bs8)(a1:Bs8):Option (Bool):=VH a0 a1
def vE(c0:Bs8)(c1:Bs8)(c2:Bs8)(c3:Bs8)(c4:Bs8)(c5:Bs8)(c6:Bs8)(c7:Bs8)(c8:Bs8)(c9:Bs8)(c10:Bs8)(c11:Bs8)(c12:Bs8)(c13:Bs8)(c14:Bs8)(c15:Int)(c16:Bs8):Nat→(Int)→Option ((Int×Int×Bs8×Int×Int)⊕(Unit))
 |0,_=>none
 |K+1,q=>(bif (decide (q<14))then(idx (α:=Bs8) ([c1,c2,c3,c4,c5,c6,c7,c8,c9,c10,c11,c12,c13,c14]:List Bs8) q).bind fun x1=>(A1 c0 x1).bind fun x2=>(bif x2 then some (Sum.inl (0,2,x1,0,0))else vE c0 c1 c2 c3 c4 c5 c6 c7 c8 c9 c10 c11 c12 c13 c14 c15 c16 K (w64 (q+1)))else some (Sum.inr ()))
def QW(s:Bs8):Option (Int×Int×Bs8×Int×Int) :=
 (idx s 0).bind fun x1=>(vD ((x1.toNat:Nat):Int)).bind fun x2=>(bif x2 then(Am s).bind fun x3=>(cut s 0 x3).bind fun x4=>(Jn x4).bind fun x5=>(bif (!x5)then some (15,0,([]:Bs8),0,0)else some (0,0,x4,0,0))else(idx s 0).bind fun x6=>(jm ((x6.toNat:Nat):Int)).bind fun x7=>(bif x7 then(qL s).bind fun x8=>(cut s 0 x8).bind fun x9=>(Ao x9).bind fun x10=>(bif (!x10.2)then some (3,0,([]:Bs8),0,0)else some (0,1,x9,x10.1,0))else(vE s vU vV wC zbs Jm Yp Yo Ym xA Yl Yn Yk wB xL 0 ([]:Bs8) KK 0).bind (xR some fun _=>some (13,0,([]:Bs8),0,0))))
def j5(c0:Bs8):Nat→(Int×(List Token))→Option (((List Token)×Int×Int)⊕(Unit))
 |0,_=>none
 |K+1,q=>(cut c0 q.1 (c0.length:Int)).bind fun x1=>(QV x1).bind fun x2=>(bif (decide ((w64 (q.1+x2))=(c0.length:Int)))then(grd (List.length (q.2++([(Token.mk 3 ([]:Bs8) 0 (w64 (q.1+x2)))]:List Token))*40≤140737488355328)).bind fun _=>some (Sum.inl ((q.2++([(Token.mk 3 ([]:Bs8) 0 (w64 (q.1+x2)))]:List Token)),0,0))else(cut c0 (w64 (q.1+x2)) (c0.length:Int)).bind fun x4=>(QW x4).bind fun x5=>(bif (!(decide (x5.1=0)))then some (Sum.inl ([],(w64 (q.1+x2)),x5.1))else(grd (List.length (q.2++([(Token.mk x5.2.1 x5.2.2.1 x5.2.2.2.1 (w64 (q.1+x2)))]:List Token))*40≤140737488355328)).bind fun _=>j5 c0 K ((w64 ((w64 (q.1+x2))+(x5.2.2.1.length:Int))),(q.2++([(Token.mk x5.2.1 x5.2.2.1 x5.2.2.2.1 (w64 (q.1+x2)))]:List Token)))))
def oL(s:Bs8):Option ((List Token)×Int×Int) :=
 (bif (decide ((s.length:Int)>8000))then some ([],0,6)else(j5 s KK (0,[])).bind (xR some fun _=>none))
def wi(p_l:List Token)(p_at_:Int):Option (Int×Bs8×Int×Int) :=
 (idx p_l p_at_).bind fun x1=>some (x1.Kind,x1.Text,x1.N,x1.Pos)
def Y6(p_l:List Token)(p_at_:Int)(s:Bs8):Option (Bool) :=
 (wi p_l p_at_).bind fun x1=>(bif (!(decide (x1.1=3)))then(wi p_l p_at_).bind fun x2=>some (decide (x2.2.1=s))else some false)
def yQ(p_l:List Token)(p_at_:Int)(s:Bs8):Option (Bool×Int) :=
 (Y6 p_l p_at_ s).bind fun x1=>(bif (!x1)then some (false,p_at_)else some (true,(w64 (p_at_+1))))
def y7(p_l:List Token)(p_at_:Int):Option (Bool) :=
 (wi p_l p_at_).bind fun x1=>some (decide (x1.1=1))
def yj(p_l:List Token)(p_at_:Int)(is:Bool)(err:Int):Option (Unit) :=
 (bif (!is)then none else some ())
def vF(p_l:List Token)(p_at_:Int)(from_:Int)(to_:Int):Option (Int×Int) :=
 (y7 p_l p_at_).bind fun x1=>(yj p_l p_at_ x1 14).bind fun _=>(wi p_l p_at_).bind fun x3=>((bif (decide (x3.2.2.1≥from_))then(yj p_l p_at_ (decide (x3.2.2.1≤to_)) 3).bind fun _=>some ()else(yj p_l p_at_ false 3).bind fun _=>some ())).bind fun _=>some (x3.2.2.1,(w64 (p_at_+1)))
def Ap(a0:Bs8)(a1:Bs8):Option (Bool):=Aj a0 a1
def AL(s:Bs8):Option (Bool) :=
 (Jn s).bind fun x1=>(bif x1 then(grd (List.length t__+List.length s≤9223372036854775807)).bind fun _=>(grd (List.length (t__++s)+List.length t__≤9223372036854775807)).bind fun _=>(Ap zg ((t__++s)++t__)).bind fun x4=>some (!x4)else some false)
def qM(p_l:List Token)(p_at_:Int):Option (Bool) :=
 (wi p_l p_at_).bind fun x1=>(bif (decide (x1.1=0))then(wi p_l p_at_).bind fun x2=>(AL x2.2.1).bind fun x3=>some x3 else some false)
def yR(p_l:List Token)(p_at_:Int):Option (Bs8×Int) :=
 (qM p_l p_at_).bind fun x1=>(yj p_l p_at_ x1 14).bind fun _=>(idx p_l (w64 ((w64 (p_at_+1))-1))).bind fun x3=>some (x3.Text,(w64 (p_at_+1)))
def xB:Option ((List zd)) :=
 some ([(zd.mk zGa 14 1),(zd.mk zsa 13 2),(zd.mk vV 10 4),(zd.mk Yo 11 4),(zd.mk vU 12 4),(zd.mk Ym 4 5),(zd.mk xA 5 5),(zd.mk Yl 6 6),(zd.mk Yn 7 6),(zd.mk Yk 8 6)]:List zd)
def vh(p_l:List Token)(p_at_:Int)(s:Bs8):Option (Int) :=
 (yQ p_l p_at_ s).bind fun x1=>(yj p_l x1.2 x1.1 14).bind fun _=>some x1.2
def xC(c0:List Token)(c1:Int)(c2:Int)(c3:Int)(c4:List zd)(c5:Int)(c6:Int)(c7:Bs8)(c8:List Expr)(c9:Int)(c10:Int)(c11:Bs8)(c12:Bs8)(c13:List Expr):Nat→(Int×Bs8×Int×Int)→Option (Bs8×Int×Int)
 |0,_=>none
 |K+1,q=>(bif (decide (q.1<c5))then((idx c4 q.1).bind fun x2=>(Y6 c0 c1 x2.text).bind fun x3=>(bif x3 then some (x2.text,x2.op,x2.form)else some (q.2.1,q.2.2.1,q.2.2.2))).bind fun x1=>xC c0 c1 c2 c3 c4 c5 c6 c7 c8 c9 c10 c11 c12 c13 K ((w64 (q.1+1)),x1.1,x1.2.1,x1.2.2)else some (q.2.1,q.2.2.1,q.2.2.2))
def km(r_q_expr:(List Token)→Int→Int→Option (Int×Int×Int×Bs8×Bs8×(List Expr)))(c0:List Token)(c1:Int)(c2:Int)(c3:Bs8)(c4:List Expr):Nat→(Int×Int×Int×Int×Bs8×Bs8×(List Expr))→Option ((Int×Int×Int×Bs8×Bs8×(List Expr))⊕(Unit))
 |0,_=>none
 |K+1,q=>(xB).bind fun x1=>(xC c0 q.1 c1 q.2.1 x1 (x1.length:Int) c2 c3 c4 q.2.2.1 q.2.2.2.1 q.2.2.2.2.1 q.2.2.2.2.2.1 q.2.2.2.2.2.2 KK (0,([]:Bs8),0,0)).bind fun x2=>((bif (decide (x2.1=([]:Bs8)))then some true else(bif (decide (x2.2.2<c1))then some true else(bif (decide (q.2.1<x2.2.2))then some true else(bif (decide (q.2.1=4))then some (decide (x2.2.2=4))else some false))))).bind fun x3=>(bif x3 then some (Sum.inl (q.1,q.2.2.1,q.2.2.2.1,q.2.2.2.2.1,q.2.2.2.2.2.1,q.2.2.2.2.2.2))else(r_q_expr c0 (w64 (q.1+1)) (w64 (x2.2.2+1))).bind fun x4=>km r_q_expr c0 c1 c2 c3 c4 K (x4.1,x2.2.2,x2.2.1,0,([]:Bs8),([]:Bs8),([(Expr.mk q.2.2.1 q.2.2.2.1 q.2.2.2.2.1 q.2.2.2.2.2.1 q.2.2.2.2.2.2),(Expr.mk x4.2.1 x4.2.2.1 x4.2.2.2.1 x4.2.2.2.2.1 x4.2.2.2.2.2)]:List Expr)))
mutual
def j6:Nat→(List Token)→Int→Int→Option (Int×Int×Int×Int×Bs8×Bs8×(List Expr))
 |0,_,_,_=>none
 |RK+1,p_l,p_at_,form=>((bif (decide (form≤0))then(yQ p_l p_at_ Jk).bind fun x2=>some (x2.2,x2.1)else some (p_at_,false))).bind fun x1=>(bif x1.2 then(zT RK p_l x1.1 0).bind fun x3=>(vh p_l x3.1 jj).bind fun x4=>(zT RK p_l x4 0).bind fun x5=>(vh p_l x5.1 wx).bind fun x6=>(zT RK p_l x6 0).bind fun x7=>some (0,x7.1,16,0,([]:Bs8),([]:Bs8),([(Expr.mk x3.2.1 x3.2.2.1 x3.2.2.2.1 x3.2.2.2.2.1 x3.2.2.2.2.2),(Expr.mk x5.2.1 x5.2.2.1 x5.2.2.2.1 x5.2.2.2.2.1 x5.2.2.2.2.2),(Expr.mk x7.2.1 x7.2.2.1 x7.2.2.2.1 x7.2.2.2.2.1 x7.2.2.2.2.2)]:List Expr))else((bif (decide (form≤3))then(yQ p_l x1.1 jh).bind fun x9=>some (x9.2,x9.1)else some (x1.1,false))).bind fun x8=>(bif x8.2 then(zT RK p_l x8.1 3).bind fun x10=>some (3,x10.1,15,0,([]:Bs8),([]:Bs8),([(Expr.mk x10.2.1 x10.2.2.1 x10.2.2.2.1 x10.2.2.2.2.1 x10.2.2.2.2.2)]:List Expr))else((bif (decide (form≤7))then(yQ p_l x8.1 xA).bind fun x12=>some (x12.2,x12.1)else some (x8.1,false))).bind fun x11=>(bif x11.2 then(zT RK p_l x11.1 7).bind fun x13=>some (7,x13.1,9,0,([]:Bs8),([]:Bs8),([(Expr.mk x13.2.1 x13.2.2.1 x13.2.2.2.1 x13.2.2.2.2.1 x13.2.2.2.2.2)]:List Expr))else(y7 p_l x11.1).bind fun x14=>(bif x14 then(vF p_l x11.1 0 1099511627776).bind fun x15=>some (8,x15.2,0,x15.1,([]:Bs8),([]:Bs8),[])else(yQ p_l x11.1 xb).bind fun x16=>(bif x16.1 then(yR p_l x16.2).bind fun x17=>(yR p_l x17.2).bind fun x18=>some (8,x18.2,2,0,x17.1,x18.1,[])else(yQ p_l x16.2 xU).bind fun x19=>(bif x19.1 then(yR p_l x19.2).bind fun x20=>some (8,x20.2,3,0,x20.1,([]:Bs8),[])else(yQ p_l x19.2 wB).bind fun x21=>(bif x21.1 then(zT RK p_l x21.2 0).bind fun x22=>(vh p_l x22.1 xL).bind fun x23=>some (8,x23,x22.2.1,x22.2.2.1,x22.2.2.2.1,x22.2.2.2.2.1,x22.2.2.2.2.2)else(yR p_l x21.2).bind fun x24=>some (8,x24.2,1,0,x24.1,([]:Bs8),[]))))))))
def zT:Nat→(List Token)→Int→Int→Option (Int×Int×Int×Bs8×Bs8×(List Expr))
 |0,_,_,_=>none
 |RK+1,p_l,p_at_,form=>(j6 RK p_l p_at_ form).bind fun x1=>(km (zT RK) p_l form 0 ([]:Bs8) [] KK (x1.2.1,x1.1,x1.2.2.1,x1.2.2.2.1,x1.2.2.2.2.1,x1.2.2.2.2.2.1,x1.2.2.2.2.2.2)).bind (xR some fun _=>none)
end
def vG(r_levels:Expr→Option (Int))(c0:List Expr)(c1:Int):Nat→(Int×Int)→Option (Int)
 |0,_=>none
 |K+1,q=>(bif (decide (q.2<c1))then(idx c0 q.2).bind fun x1=>(r_levels (Expr.mk x1.Op x1.N x1.S x1.Key x1.Args)).bind fun x2=>vG r_levels c0 c1 K ((max q.1 x2),(w64 (q.2+1)))else some q.1)
def wj:Nat→Expr→Option (Int)
 |0,_=>none
 |RK+1,e=>(vG (wj RK) e.Args (e.Args.length:Int) KK (0,0)).bind fun x1=>some (w64 (x1+1))
def jL(p_l:List Token)(p_at_:Int)(c_1_Op:Int)(c_1_N:Int)(c_1_S:Bs8)(c_1_Key:Bs8)(c_1_Args:List Expr):Option (Int×Int×Int×Bs8×Bs8×(List Expr)) :=
 (zT KK p_l p_at_ 0).bind fun x1=>(wi p_l x1.1).bind fun x2=>(yj p_l x1.1 (decide (x2.1=3)) 14).bind fun _=>(wj KK (Expr.mk x1.2.1 x1.2.2.1 x1.2.2.2.1 x1.2.2.2.2.1 x1.2.2.2.2.2)).bind fun x4=>(yj p_l x1.1 (decide (x4≤12)) 6).bind fun _=>some (x1.1,x1.2.1,x1.2.2.1,x1.2.2.2.1,x1.2.2.2.2.1,x1.2.2.2.2.2)
def Aq(p_l:List Token)(p_at_:Int)(err:Int):Option (Int×Int) :=
 (wi p_l p_at_).bind fun x1=>some (x1.2.2.2,err)
def xj(p_l:List Token)(p_at_:Int)(is:Bool)(err:Int):Option (Int×Int) :=
 (bif (!is)then(orC (Aq p_l p_at_ err) (fun x1=>some x1) none)else none)
def uF(p_l:List Token)(p_at_:Int)(s:Bs8):Option (Int×Int) :=
 (yQ p_l p_at_ s).bind fun x1=>(orC (xj p_l x1.2 x1.1 14) (fun x2=>some x2) ((yj p_l x1.2 x1.1 14).bind fun _=>none))
def qN(p_l:List Token)(p_at_:Int)(from_:Int)(to_:Int):Option (Int×Int) :=
 (y7 p_l p_at_).bind fun x1=>(orC (xj p_l p_at_ x1 14) (fun x2=>some x2) ((yj p_l p_at_ x1 14).bind fun _=>(wi p_l p_at_).bind fun x4=>((bif (decide (x4.2.2.1≥from_))then(orC (xj p_l p_at_ (decide (x4.2.2.1≤to_)) 3) (fun x6=>some (Sum.inl x6)) ((yj p_l p_at_ (decide (x4.2.2.1≤to_)) 3).bind fun _=>some (Sum.inr ())))else(orC (xj p_l p_at_ false 3) (fun x8=>some (Sum.inl x8)) ((yj p_l p_at_ false 3).bind fun _=>some (Sum.inr ()))))).bind (xR some fun _=>none)))
def vi(p_l:List Token)(p_at_:Int):Option (Int×Int) :=
 (qM p_l p_at_).bind fun x1=>(orC (xj p_l p_at_ x1 14) (fun x2=>some x2) ((yj p_l p_at_ x1 14).bind fun _=>(idx p_l (w64 ((w64 (p_at_+1))-1))).bind fun _=>none))
def vH(c0:List Token)(c1:Int)(c2:Int)(c3:Int)(c4:List zd)(c5:Int)(c6:Int)(c7:Bs8)(c8:List Expr)(c9:Int)(c10:Int)(c11:Bs8)(c12:Bs8)(c13:List Expr):Nat→(Int×Bs8×Int×Int)→Option (Bs8×Int×Int)
 |0,_=>none
 |K+1,q=>(bif (decide (q.1<c5))then((idx c4 q.1).bind fun x2=>(Y6 c0 c1 x2.text).bind fun x3=>(bif x3 then some (x2.text,x2.op,x2.form)else some (q.2.1,q.2.2.1,q.2.2.2))).bind fun x1=>vH c0 c1 c2 c3 c4 c5 c6 c7 c8 c9 c10 c11 c12 c13 K ((w64 (q.1+1)),x1.1,x1.2.1,x1.2.2)else some (q.2.1,q.2.2.1,q.2.2.2))
def ko(r_p_q_expr:(List Token)→Int→Int→Option (Int×Int))(c0:List Token)(c1:Int)(c2:Int)(c3:Bs8)(c4:List Expr):Nat→(Int×Int×Int×Int×Bs8×Bs8×(List Expr))→Option ((Int×Int)⊕(Unit))
 |0,_=>none
 |K+1,q=>(xB).bind fun x1=>(vH c0 q.1 c1 q.2.1 x1 (x1.length:Int) c2 c3 c4 q.2.2.1 q.2.2.2.1 q.2.2.2.2.1 q.2.2.2.2.2.1 q.2.2.2.2.2.2 KK (0,([]:Bs8),0,0)).bind fun x2=>((bif (decide (x2.1=([]:Bs8)))then some true else(bif (decide (x2.2.2<c1))then some true else(bif (decide (q.2.1<x2.2.2))then some true else(bif (decide (q.2.1=4))then some (decide (x2.2.2=4))else some false))))).bind fun x3=>(bif x3 then none else(orC (r_p_q_expr c0 (w64 (q.1+1)) (w64 (x2.2.2+1))) (fun x4=>some (Sum.inl x4)) ((zT KK c0 (w64 (q.1+1)) (w64 (x2.2.2+1))).bind fun x5=>ko r_p_q_expr c0 c1 c2 c3 c4 K (x5.1,x2.2.2,x2.2.1,0,([]:Bs8),([]:Bs8),([(Expr.mk q.2.2.1 q.2.2.2.1 q.2.2.2.2.1 q.2.2.2.2.2.1 q.2.2.2.2.2.2),(Expr.mk x5.2.1 x5.2.2.1 x5.2.2.2.1 x5.2.2.2.2.1 x5.2.2.2.2.2)]:List Expr)))))
mutual
def Ar:Nat→(List Token)→Int→Int→Option (Int×Int)
 |0,_,_,_=>none
 |RK+1,p_l,p_at_,form=>((bif (decide (form≤0))then(yQ p_l p_at_ Jk).bind fun x2=>some (x2.2,x2.1)else some (p_at_,false))).bind fun x1=>(bif x1.2 then(orC (yE RK p_l x1.1 0) (fun x3=>some x3) ((zT KK p_l x1.1 0).bind fun x4=>(orC (uF p_l x4.1 jj) (fun x5=>some x5) ((vh p_l x4.1 jj).bind fun x6=>(orC (yE RK p_l x6 0) (fun x7=>some x7) ((zT KK p_l x6 0).bind fun x8=>(orC (uF p_l x8.1 wx) (fun x9=>some x9) ((vh p_l x8.1 wx).bind fun x10=>(orC (yE RK p_l x10 0) (fun x11=>some x11) ((zT KK p_l x10 0).bind fun _=>none))))))))))else((bif (decide (form≤3))then(yQ p_l x1.1 jh).bind fun x14=>some (x14.2,x14.1)else some (x1.1,false))).bind fun x13=>(bif x13.2 then(orC (yE RK p_l x13.1 3) (fun x15=>some x15) ((zT KK p_l x13.1 3).bind fun _=>none))else((bif (decide (form≤7))then(yQ p_l x13.1 xA).bind fun x18=>some (x18.2,x18.1)else some (x13.1,false))).bind fun x17=>(bif x17.2 then(orC (yE RK p_l x17.1 7) (fun x19=>some x19) ((zT KK p_l x17.1 7).bind fun _=>none))else(y7 p_l x17.1).bind fun x21=>(bif x21 then(orC (qN p_l x17.1 0 1099511627776) (fun x22=>some x22) ((vF p_l x17.1 0 1099511627776).bind fun _=>none))else(yQ p_l x17.1 xb).bind fun x24=>(bif x24.1 then(orC (vi p_l x24.2) (fun x25=>some x25) ((yR p_l x24.2).bind fun x26=>(orC (vi p_l x26.2) (fun x27=>some x27) ((yR p_l x26.2).bind fun _=>none))))else(yQ p_l x24.2 xU).bind fun x29=>(bif x29.1 then(orC (vi p_l x29.2) (fun x30=>some x30) ((yR p_l x29.2).bind fun _=>none))else(yQ p_l x29.2 wB).bind fun x32=>(bif x32.1 then(orC (yE RK p_l x32.2 0) (fun x33=>some x33) ((zT KK p_l x32.2 0).bind fun x34=>(orC (uF p_l x34.1 xL) (fun x35=>some x35) ((vh p_l x34.1 xL).bind fun _=>none))))else(orC (vi p_l x32.2) (fun x37=>some x37) ((yR p_l x32.2).bind fun _=>none)))))))))
def yE:Nat→(List Token)→Int→Int→Option (Int×Int)
 |0,_,_,_=>none
 |RK+1,p_l,p_at_,form=>(orC (Ar RK p_l p_at_ form) (fun x1=>some x1) ((j6 KK p_l p_at_ form).bind fun x2=>(ko (yE RK) p_l form 0 ([]:Bs8) [] KK (x2.2.1,x2.1,x2.2.2.1,x2.2.2.2.1,x2.2.2.2.2.1,x2.2.2.2.2.2.1,x2.2.2.2.2.2.2)).bind (xR some fun _=>none)))
end
def jM(p_l:List Token)(p_at_:Int)(c_1_Op:Int)(c_1_N:Int)(c_1_S:Bs8)(c_1_Key:Bs8)(c_1_Args:List Expr):Option (Int×Int) :=
 (orC (yE KK p_l p_at_ 0) (fun x1=>some x1) ((zT KK p_l p_at_ 0).bind fun x2=>(wi p_l x2.1).bind fun x3=>(orC (xj p_l x2.1 (decide (x3.1=3)) 14) (fun x4=>some x4) ((yj p_l x2.1 (decide (x3.1=3)) 14).bind fun _=>(wj KK (Expr.mk x2.2.1 x2.2.2.1 x2.2.2.2.1 x2.2.2.2.2.1 x2.2.2.2.2.2)).bind fun x6=>(orC (xj p_l x2.1 (decide (x6≤12)) 6) (fun x7=>some x7) ((yj p_l x2.1 (decide (x6≤12)) 6).bind fun _=>none))))))
def vI(a0:List Token)(a1:Int)(a2:Int)(a3:Int)(a4:Bs8)(a5:Bs8)(a6:List Expr):Option (Int×Int×Int×Int×Int×Bs8×Bs8×(List Expr)):=(jL a0 a1 a2 a3 a4 a5 a6).bind fun q=>some ((0:Int),(0:Int),q)
def vj(a0:List Token)(a1:Int)(a2:Int)(a3:Int)(a4:Bs8)(a5:Bs8)(a6:List Expr):Option (Int×Int):=jM a0 a1 a2 a3 a4 a5 a6
def xd(s:Bs8):Option (Int×Int×Int×Int×Bs8×Bs8×(List Expr)) :=
 (oL s).bind fun x1=>(bif (!(decide (x1.2.2=0)))then some (x1.2.1,x1.2.2,0,0,([]:Bs8),([]:Bs8),[])else(orC (vI x1.1 0 0 0 ([]:Bs8) ([]:Bs8) []) (fun x3=>(bif (!(decide (x3.2.1=0)))then some (x3.1,x3.2.1,0,0,([]:Bs8),([]:Bs8),[])else some (0,0,x3.2.2.2.1,x3.2.2.2.2.1,x3.2.2.2.2.2.1,x3.2.2.2.2.2.2.1,x3.2.2.2.2.2.2.2))) (orC (vj x1.1 0 0 0 ([]:Bs8) ([]:Bs8) []) (fun x2=>(bif (!(decide (x2.2=0)))then some (x2.1,x2.2,0,0,([]:Bs8),([]:Bs8),[])else none)) none)))
def yW(r_right:Expr→Int→Option (Bool))(c0:Int)(c1:List Expr)(c2:Int):Nat→(Int)→Option ((Bool)⊕(Unit))
 |0,_=>none
 |K+1,q=>(bif (decide (q<c2))then(idx c1 q).bind fun x1=>(r_right (Expr.mk x1.Op x1.N x1.S x1.Key x1.Args) (w64 (c0-1))).bind fun x2=>(bif (!x2)then some (Sum.inl false)else yW r_right c0 c1 c2 K (w64 (q+1)))else some (Sum.inr ()))
def zY:Nat→Expr→Int→Option (Bool)
 |0,_,_=>none
 |RK+1,e,depth=>((bif (decide (depth=0))then some true else(bif (decide (e.Op<0))then some true else some (decide (e.Op≥17))))).bind fun x1=>(bif x1 then some false else((bif (decide (e.Op=0))then some (Sum.inr (0,(min (max e.N 0) 1099511627776),([]:Bs8),([]:Bs8)))else((bif (decide (e.Op=1))then some (decide (e.Op=1))else some (decide (e.Op=3)))).bind fun x3=>(bif x3 then some (Sum.inr (0,0,e.S,([]:Bs8)))else(bif (decide (e.Op=2))then(AL e.Key).bind fun x4=>(bif (!x4)then some (Sum.inl false)else some (Sum.inr (0,0,e.S,e.Key)))else((bif (decide (e.Op=9))then some (decide (e.Op=9))else some (decide (e.Op=15)))).bind fun x5=>(bif x5 then some (Sum.inr (1,0,([]:Bs8),([]:Bs8)))else(bif (decide (e.Op=16))then some (Sum.inr (3,0,([]:Bs8),([]:Bs8)))else some (Sum.inr (2,0,([]:Bs8),([]:Bs8))))))))).bind (xR some fun x2=>((bif (!(decide ((e.Args.length:Int)=x2.1)))then some true else(bif (!(decide (x2.2.1=e.N)))then some true else(bif (!(decide (x2.2.2.1=e.S)))then some true else(bif (!(decide (x2.2.2.2=e.Key)))then some true else(bif (decide (x2.1=0))then(bif (!(decide (e.Op=0)))then(AL e.S).bind fun x7=>some (!x7)else some false)else some false)))))).bind fun x6=>(bif x6 then some false else(yW (zY RK) depth e.Args (e.Args.length:Int) KK 0).bind (xR some fun _=>some true))))
def wO(e:Expr):Option (Bool) :=
 (zY KK (Expr.mk e.Op e.N e.S e.Key e.Args) 12).bind fun x1=>some x1
def uG(c0:List zd)(c1:Int)(c2:Int)(c3:Int)(c4:Bs8)(c5:Bs8)(c6:List Expr):Nat→(Int)→Option ((Int×Bs8)⊕(Unit))
 |0,_=>none
 |K+1,q=>(bif (decide (q<c1))then(idx c0 q).bind fun x1=>(bif (decide (x1.op=c2))then some (Sum.inl (x1.form,x1.text))else uG c0 c1 c2 c3 c4 c5 c6 K (w64 (q+1)))else some (Sum.inr ()))
def QX(e:Expr):Option (Int×Bs8) :=
 (xB).bind fun x1=>(uG x1 (x1.length:Int) e.Op e.N e.S e.Key e.Args KK 0).bind (xR some fun _=>(bif (decide (e.Op=16))then some (0,([]:Bs8))else(bif (decide (e.Op=15))then some (3,([]:Bs8))else(bif (decide (e.Op=9))then some (7,([]:Bs8))else some (8,([]:Bs8))))))
def yt(a0:Bs8)(a1:Bs8):Option (Int×Bs8):=(grd (List.length a0+List.length a1≤140737488355328)).bind fun _=>some ((a1.length:Int),a0++a1)
def Y7(a0:Int):Option (Bs8):=zkx a0
def wW(r_write:Bs8→Expr→Int→Option (Bs8))(c0:Int)(c1:Int)(c2:Int)(c3:Bs8)(c4:Bs8)(c5:List Expr)(c6:List Bs8):Nat→(Bs8×Int)→Option (Bs8)
 |0,_=>none
 |K+1,q=>(bif (decide (q.2<c0))then(grd (0≤q.2∧q.2<(((List.length c6):Nat):Int))).bind fun _=>((c6)[(Int.toNat q.2)]?).bind fun x2=>(yt q.1 x2).bind fun x3=>(idx c5 q.2).bind fun x4=>(r_write x3.2 x4 0).bind fun x5=>wW r_write c0 c1 c2 c3 c4 c5 c6 K (x5,(w64 (q.2+1)))else some q.1)
def wX(r_write:Bs8→Expr→Int→Option (Bs8))(c0:Int)(c1:Int)(c2:Int)(c3:Bs8)(c4:Bs8)(c5:List Expr)(c6:List Bs8):Nat→(Bs8×Int)→Option (Bs8)
 |0,_=>none
 |K+1,q=>(bif (decide (q.2<c0))then(grd (0≤q.2∧q.2<(((List.length c6):Nat):Int))).bind fun _=>((c6)[(Int.toNat q.2)]?).bind fun x2=>(yt q.1 x2).bind fun x3=>(idx c5 q.2).bind fun x4=>(r_write x3.2 x4 0).bind fun x5=>wX r_write c0 c1 c2 c3 c4 c5 c6 K (x5,(w64 (q.2+1)))else some q.1)
def y3:Nat→Bs8→Expr→Int→Option (Bs8)
 |0,_,_,_=>none
 |RK+1,b,e,form=>(QX (Expr.mk e.Op e.N e.S e.Key e.Args)).bind fun x1=>(bif (decide (x1.1<form))then(yt b og).bind fun x2=>(bif (decide (e.Op=0))then(Y7 e.N).bind fun x3=>(yt x2.2 x3).bind fun x4=>(zo4 x4.2).bind fun x5=>some x5 else(bif (decide (e.Op=1))then(yt x2.2 e.S).bind fun x6=>(zo4 x6.2).bind fun x7=>some x7 else(bif (decide (e.Op=2))then(grd (List.length xO+List.length e.S≤9223372036854775807)).bind fun _=>(grd (List.length (xO++e.S)+List.length t__≤9223372036854775807)).bind fun _=>(grd (List.length ((xO++e.S)++t__)+List.length e.Key≤9223372036854775807)).bind fun _=>(yt x2.2 (((xO++e.S)++t__)++e.Key)).bind fun x11=>(zo4 x11.2).bind fun x12=>some x12 else(bif (decide (e.Op=3))then(grd (List.length kY+List.length e.S≤9223372036854775807)).bind fun _=>(yt x2.2 (kY++e.S)).bind fun x14=>(zo4 x14.2).bind fun x15=>some x15 else(bif (decide (e.Op=16))then(wW (y3 RK) ((3:Nat):Int) e.Op e.N e.S e.Key e.Args ([kB,yv,yu]:List Bs8) KK (x2.2,0)).bind fun x16=>(zo4 x16).bind fun x17=>some x17 else(bif (decide (e.Op=15))then(yt x2.2 K6).bind fun x18=>(idx e.Args 0).bind fun x19=>(y3 RK x18.2 x19 x1.1).bind fun x20=>(zo4 x20).bind fun x21=>some x21 else(bif (decide (e.Op=9))then(yt x2.2 Jl).bind fun x22=>(idx e.Args 0).bind fun x23=>(y3 RK x22.2 x23 x1.1).bind fun x24=>(zo4 x24).bind fun x25=>some x25 else((bif (decide (x1.1=4))then some (w64 (x1.1+1))else some x1.1)).bind fun x26=>(idx e.Args 0).bind fun x27=>(y3 RK x2.2 x27 x26).bind fun x28=>(grd (List.length t__+List.length x1.2≤9223372036854775807)).bind fun _=>(grd (List.length (t__++x1.2)+List.length t__≤9223372036854775807)).bind fun _=>(yt x28 ((t__++x1.2)++t__)).bind fun x31=>(idx e.Args 1).bind fun x32=>(y3 RK x31.2 x32 (w64 (x1.1+1))).bind fun x33=>(zo4 x33).bind fun x34=>some x34)))))))else(bif (decide (e.Op=0))then(Y7 e.N).bind fun x35=>(yt b x35).bind fun x36=>some x36.2 else(bif (decide (e.Op=1))then(yt b e.S).bind fun x37=>some x37.2 else(bif (decide (e.Op=2))then(grd (List.length xO+List.length e.S≤9223372036854775807)).bind fun _=>(grd (List.length (xO++e.S)+List.length t__≤9223372036854775807)).bind fun _=>(grd (List.length ((xO++e.S)++t__)+List.length e.Key≤9223372036854775807)).bind fun _=>(yt b (((xO++e.S)++t__)++e.Key)).bind fun x41=>some x41.2 else(bif (decide (e.Op=3))then(grd (List.length kY+List.length e.S≤9223372036854775807)).bind fun _=>(yt b (kY++e.S)).bind fun x43=>some x43.2 else(bif (decide (e.Op=16))then(wX (y3 RK) ((3:Nat):Int) e.Op e.N e.S e.Key e.Args ([kB,yv,yu]:List Bs8) KK (b,0)).bind fun x44=>some x44 else(bif (decide (e.Op=15))then(yt b K6).bind fun x45=>(idx e.Args 0).bind fun x46=>(y3 RK x45.2 x46 x1.1).bind fun x47=>some x47 else(bif (decide (e.Op=9))then(yt b Jl).bind fun x48=>(idx e.Args 0).bind fun x49=>(y3 RK x48.2 x49 x1.1).bind fun x50=>some x50 else((bif (decide (x1.1=4))then some (w64 (x1.1+1))else some x1.1)).bind fun x51=>(idx e.Args 0).bind fun x52=>(y3 RK b x52 x51).bind fun x53=>(grd (List.length t__+List.length x1.2≤9223372036854775807)).bind fun _=>(grd (List.length (t__++x1.2)+List.length t__≤9223372036854775807)).bind fun _=>(yt x53 ((t__++x1.2)++t__)).bind fun x56=>(idx e.Args 1).bind fun x57=>(y3 RK x56.2 x57 (w64 (x1.1+1))).bind fun x58=>some x58))))))))
def zif(a0:Bs8):Option (Int):=some (a0.length:Int)
def vC(a0:Bs8):Option (Bs8):=some a0
def vJ(e:Expr):Option (Bs8×Int) :=
 (wO (Expr.mk e.Op e.N e.S e.Key e.Args)).bind fun x1=>(bif (!x1)then some (([]:Bs8),1)else(y3 KK ([]:Bs8) (Expr.mk e.Op e.N e.S e.Key e.Args) 0).bind fun x2=>(zif x2).bind fun x3=>(bif (decide (x3>8000))then some (([]:Bs8),6)else(vC x2).bind fun x4=>some (x4,0)))
def zl(b:BB):Option (Int×Bs8×Int×Int) :=
 (idx b.l b.i).bind fun x1=>some (x1.Kind,x1.Text,x1.N,x1.Pos)
def zf(b:BB)(is:Bool)(err:Int):Option (Unit) :=
 (bif (!is)then none else some ())
def yy(b:BB)(have_:Int)(most:Int):Option (Int) :=
 (zf b (decide (have_<most)) 6).bind fun _=>some (w64 (b.i+1))
def zE(b:BB):Option (Bool) :=
 (zl b).bind fun x1=>(bif (decide (x1.1=0))then(zl b).bind fun x2=>(AL x2.2.1).bind fun x3=>some x3 else some false)
def zG(b:BB):Option (Bs8×Int) :=
 (zE b).bind fun x1=>(zf b x1 14).bind fun _=>(idx b.l (w64 ((w64 (b.i+1))-1))).bind fun x3=>some (x3.Text,(w64 (b.i+1)))
def VS(b:BB):Option (Bs8×Int×(List Mb8)) :=
 (zE b).bind fun x1=>(zf b x1 14).bind fun _=>(zl b).bind fun x3=>(JP b.n0).bind fun x4=>(zf { b with n0:=[x4] } (!((xF x3.2.1 x4).getD false)) 5).bind fun _=>(zl { b with n0:=[x4] }).bind fun x6=>(JP [x4]).bind fun x7=>(zG { b with n0:=[ug x6.2.1 true x7] }).bind fun x8=>some (x8.1,x8.2,[ug x6.2.1 true x7])
def zig(b:BB):Option (Bs8×Int×(List Mb8)) :=
 ((bif (List.isEmpty b.n0)then some ([([]:List (Bs8×Bool))]:List Mb8)else some b.n0)).bind fun x1=>(VS { b with n0:=x1 }).bind fun x2=>some (x2.1,x2.2.1,x2.2.2)
def wL(b:BB)(s:Bs8):Option (Bool) :=
 (zl b).bind fun x1=>(bif (!(decide (x1.1=3)))then(zl b).bind fun x2=>some (decide (x2.2.1=s))else some false)
def zw(b:BB)(s:Bs8):Option (Bool×Int) :=
 (wL b s).bind fun x1=>(bif (!x1)then some (false,b.i)else some (true,(w64 (b.i+1))))
def zt(b:BB)(s:Bs8):Option (Int) :=
 (zw b s).bind fun x1=>(zf { b with i:=x1.2 } x1.1 14).bind fun _=>some x1.2
def ye(b:BB):Option (Bool) :=
 (zl b).bind fun x1=>some (decide (x1.1=1))
def zi(b:BB)(from_:Int)(to_:Int):Option (Int×Int) :=
 (ye b).bind fun x1=>(zf b x1 14).bind fun _=>(zl b).bind fun x3=>((bif (decide (x3.2.2.1≥from_))then(zf b (decide (x3.2.2.1≤to_)) 3).bind fun _=>some ()else(zf b false 3).bind fun _=>some ())).bind fun _=>some (x3.2.2.1,(w64 (b.i+1)))
def uH(b:BB)(c1:Int)(c17:Int)(c18:Int)(c19:List zd)(c20:Int)(c21:Int)(c22:Bs8)(c23:List Expr)(c24:Int)(c25:Int)(c26:Bs8)(c27:Bs8)(c28:List Expr):Nat→(Int×Bs8×Int×Int)→Option (Bs8×Int×Int)
 |0,_=>none
 |K+1,q=>(bif (decide (q.1<c20))then((idx c19 q.1).bind fun x2=>(wL { b with i:=c1 } x2.text).bind fun x3=>(bif x3 then some (x2.text,x2.op,x2.form)else some (q.2.1,q.2.2.1,q.2.2.2))).bind fun x1=>uH b c1 c17 c18 c19 c20 c21 c22 c23 c24 c25 c26 c27 c28 K ((w64 (q.1+1)),x1.1,x1.2.1,x1.2.2)else some (q.2.1,q.2.2.1,q.2.2.2))
def uI(r_q_expr_2:BB→Int→Option (Int×Int×Int×Bs8×Bs8×(List Expr)))(b:BB)(c16:Int)(c17:Int)(c18:Bs8)(c19:List Expr):Nat→(Int×Int×Int×Int×Bs8×Bs8×(List Expr))→Option ((Int×Int×Int×Bs8×Bs8×(List Expr))⊕(Unit))
 |0,_=>none
 |K+1,q=>(xB).bind fun x1=>(uH { b with i:=0 } q.1 c16 q.2.1 x1 (x1.length:Int) c17 c18 c19 q.2.2.1 q.2.2.2.1 q.2.2.2.2.1 q.2.2.2.2.2.1 q.2.2.2.2.2.2 KK (0,([]:Bs8),0,0)).bind fun x2=>((bif (decide (x2.1=([]:Bs8)))then some true else(bif (decide (x2.2.2<c16))then some true else(bif (decide (q.2.1<x2.2.2))then some true else(bif (decide (q.2.1=4))then some (decide (x2.2.2=4))else some false))))).bind fun x3=>(bif x3 then some (Sum.inl (q.1,q.2.2.1,q.2.2.2.1,q.2.2.2.2.1,q.2.2.2.2.2.1,q.2.2.2.2.2.2))else(r_q_expr_2 { b with i:=(w64 (q.1+1)) } (w64 (x2.2.2+1))).bind fun x4=>uI r_q_expr_2 b c16 c17 c18 c19 K (x4.1,x2.2.2,x2.2.1,0,([]:Bs8),([]:Bs8),([(Expr.mk q.2.2.1 q.2.2.2.1 q.2.2.2.2.1 q.2.2.2.2.2.1 q.2.2.2.2.2.2),(Expr.mk x4.2.1 x4.2.2.1 x4.2.2.2.1 x4.2.2.2.2.1 x4.2.2.2.2.2)]:List Expr)))
mutual
def oM:Nat→BB→Int→Option (Int×Int×Int×Int×Bs8×Bs8×(List Expr))
 |0,_,_=>none
 |RK+1,b,form=>((bif (decide (form≤0))then(zw b Jk).bind fun x2=>some (x2.2,x2.1)else some (b.i,false))).bind fun x1=>(bif x1.2 then(zW RK { b with i:=x1.1 } 0).bind fun x3=>(zt { b with i:=x3.1 } jj).bind fun x4=>(zW RK { b with i:=x4 } 0).bind fun x5=>(zt { b with i:=x5.1 } wx).bind fun x6=>(zW RK { b with i:=x6 } 0).bind fun x7=>some (0,x7.1,16,0,([]:Bs8),([]:Bs8),([(Expr.mk x3.2.1 x3.2.2.1 x3.2.2.2.1 x3.2.2.2.2.1 x3.2.2.2.2.2),(Expr.mk x5.2.1 x5.2.2.1 x5.2.2.2.1 x5.2.2.2.2.1 x5.2.2.2.2.2),(Expr.mk x7.2.1 x7.2.2.1 x7.2.2.2.1 x7.2.2.2.2.1 x7.2.2.2.2.2)]:List Expr))else((bif (decide (form≤3))then(zw { b with i:=x1.1 } jh).bind fun x9=>some (x9.2,x9.1)else some (x1.1,false))).bind fun x8=>(bif x8.2 then(zW RK { b with i:=x8.1 } 3).bind fun x10=>some (3,x10.1,15,0,([]:Bs8),([]:Bs8),([(Expr.mk x10.2.1 x10.2.2.1 x10.2.2.2.1 x10.2.2.2.2.1 x10.2.2.2.2.2)]:List Expr))else((bif (decide (form≤7))then(zw { b with i:=x8.1 } xA).bind fun x12=>some (x12.2,x12.1)else some (x8.1,false))).bind fun x11=>(bif x11.2 then(zW RK { b with i:=x11.1 } 7).bind fun x13=>some (7,x13.1,9,0,([]:Bs8),([]:Bs8),([(Expr.mk x13.2.1 x13.2.2.1 x13.2.2.2.1 x13.2.2.2.2.1 x13.2.2.2.2.2)]:List Expr))else(ye { b with i:=x11.1 }).bind fun x14=>(bif x14 then(zi { b with i:=x11.1 } 0 1099511627776).bind fun x15=>some (8,x15.2,0,x15.1,([]:Bs8),([]:Bs8),[])else(zw { b with i:=x11.1 } xb).bind fun x16=>(bif x16.1 then(zG { b with i:=x16.2 }).bind fun x17=>(zG { b with i:=x17.2 }).bind fun x18=>some (8,x18.2,2,0,x17.1,x18.1,[])else(zw { b with i:=x16.2 } xU).bind fun x19=>(bif x19.1 then(zG { b with i:=x19.2 }).bind fun x20=>some (8,x20.2,3,0,x20.1,([]:Bs8),[])else(zw { b with i:=x19.2 } wB).bind fun x21=>(bif x21.1 then(zW RK { b with i:=x21.2 } 0).bind fun x22=>(zt { b with i:=x22.1 } xL).bind fun x23=>some (8,x23,x22.2.1,x22.2.2.1,x22.2.2.2.1,x22.2.2.2.2.1,x22.2.2.2.2.2)else(zG { b with i:=x21.2 }).bind fun x24=>some (8,x24.2,1,0,x24.1,([]:Bs8),[]))))))))
def zW:Nat→BB→Int→Option (Int×Int×Int×Bs8×Bs8×(List Expr))
 |0,_,_=>none
 |RK+1,b,form=>(oM RK b form).bind fun x1=>(uI (zW RK) { b with i:=0 } form 0 ([]:Bs8) [] KK (x1.2.1,x1.1,x1.2.2.1,x1.2.2.2.1,x1.2.2.2.2.1,x1.2.2.2.2.2.1,x1.2.2.2.2.2.2)).bind (xR some fun _=>none)
end
def vK(b:BB)(is:Bool)(err:Int):Option (Int) :=
 (wL b wC).bind fun x1=>(zf b x1 14).bind fun _=>(zf b is err).bind fun _=>some (w64 (b.i+1))
def J8(b:BB):Option (Int×(List Def)×(List Mb8)) :=
 (zig b).bind fun x1=>(zt { b with i:=x1.2.1,n0:=x1.2.2 } Yp).bind fun x2=>(zW KK { b with i:=x2,n0:=x1.2.2 } 0).bind fun x3=>(wj KK (Expr.mk x3.2.1 x3.2.2.1 x3.2.2.2.1 x3.2.2.2.2.1 x3.2.2.2.2.2)).bind fun x4=>(vK { b with i:=x3.1,n0:=x1.2.2 } (decide (x4≤12)) 6).bind fun x5=>(grd (List.length (b.D++([(Def.mk x1.1 (Expr.mk x3.2.1 x3.2.2.1 x3.2.2.2.1 x3.2.2.2.2.1 x3.2.2.2.2.2))]:List Def))*88≤140737488355328)).bind fun _=>some (x5,(b.D++([(Def.mk x1.1 (Expr.mk x3.2.1 x3.2.2.1 x3.2.2.2.1 x3.2.2.2.2.1 x3.2.2.2.2.2))]:List Def)),x1.2.2)
def A2(b:BB):Option (Bs8×Int×(List Mb8)) :=
 (zE b).bind fun x1=>(zf b x1 14).bind fun _=>(zl b).bind fun x3=>(JP b.n1).bind fun x4=>(zf { b with n1:=[x4] } (!((xF x3.2.1 x4).getD false)) 5).bind fun _=>(zl { b with n1:=[x4] }).bind fun x6=>(JP [x4]).bind fun x7=>(zG { b with n1:=[ug x6.2.1 true x7] }).bind fun x8=>some (x8.1,x8.2,[ug x6.2.1 true x7])
def VT(b:BB):Option (Bs8×Int×(List Mb8)) :=
 ((bif (List.isEmpty b.n1)then some ([([]:List (Bs8×Bool))]:List Mb8)else some b.n1)).bind fun x1=>(A2 { b with n1:=x1 }).bind fun x2=>some (x2.1,x2.2.1,x2.2.2)
def A3(b:BB)(known:Mb8):Option (Bs8×Int×Mb8) :=
 (zE b).bind fun x1=>(zf b x1 14).bind fun _=>(zl b).bind fun x3=>(zf b (!((xF x3.2.1 known).getD false)) 5).bind fun _=>(zl b).bind fun x5=>(zG b).bind fun x6=>some (x6.1,x6.2,(ug x5.2.1 true known))
def wk(b:BB)(most:Int):Option (Int×Int) :=
 (zw b xA).bind fun x1=>(bif x1.1 then(zi { b with i:=x1.2 } 0 most).bind fun x2=>some ((w64 (0-x2.1)),x2.2)else(zi { b with i:=x1.2 } 0 most).bind fun x3=>some (x3.1,x3.2))
def oN(b:BB)(c15:(List Mb8))(c16:Bs8)(c17:Int):Nat→(Int×Mb8×(List Entry))→Option (Int×(List Entry))
 |0,_=>none
 |K+1,q=>(zE { b with i:=q.1,n1:=c15 }).bind fun x1=>(bif x1 then(zf { b with i:=q.1,n1:=c15 } (decide ((((List.length q.2.2):Nat):Int)<60)) 6).bind fun _=>(A3 { b with i:=q.1,n1:=c15 } q.2.1).bind fun x3=>(wk { b with i:=x3.2.1,n1:=c15 } 1099511627776).bind fun x4=>(grd (List.length (q.2.2++([(Entry.mk x3.1 x4.1)]:List Entry))*24≤140737488355328)).bind fun _=>oN b c15 c16 c17 K (x4.2,x3.2.2,(q.2.2++([(Entry.mk x3.1 x4.1)]:List Entry)))else some (q.1,q.2.2))
def VU(b:BB):Option (Int×(List Table)×(List Mb8)) :=
 (VT b).bind fun x1=>(oN { b with i:=0,n1:=[] } x1.2.2 x1.1 0 KK (x1.2.1,([]:List (Bs8×Bool)),([]:List Entry))).bind fun x2=>(zt { b with i:=x2.1,n1:=x1.2.2 } wx).bind fun x3=>(wk { b with i:=x3,n1:=x1.2.2 } 1099511627776).bind fun x4=>(zt { b with i:=x4.2,n1:=x1.2.2 } wC).bind fun x5=>(grd (List.length (b.T++([(Table.mk x1.1 x2.2 x4.1)]:List Table))*48≤140737488355328)).bind fun _=>some (x5,(b.T++([(Table.mk x1.1 x2.2 x4.1)]:List Table)),x1.2.2)
def A4(b:BB):Option (Bs8×Int×(List Mb8)) :=
 (zE b).bind fun x1=>(zf b x1 14).bind fun _=>(zl b).bind fun x3=>(JP b.n2).bind fun x4=>(zf { b with n2:=[x4] } (!((xF x3.2.1 x4).getD false)) 5).bind fun _=>(zl { b with n2:=[x4] }).bind fun x6=>(JP [x4]).bind fun x7=>(zG { b with n2:=[ug x6.2.1 true x7] }).bind fun x8=>some (x8.1,x8.2,[ug x6.2.1 true x7])
def oO(b:BB):Option (Bs8×Int×(List Mb8)) :=
 ((bif (List.isEmpty b.n2)then some ([([]:List (Bs8×Bool))]:List Mb8)else some b.n2)).bind fun x1=>(A4 { b with n2:=x1 }).bind fun x2=>some (x2.1,x2.2.1,x2.2.2)
def uJ(b:BB):Nat→(Int×(List yP))→Option (((List yP)×Int)⊕(Unit))
 |0,_=>none
 |K+1,q=>(zi { b with i:=q.1 } 0 1048576).bind fun x1=>(zi { b with i:=x1.2 } 0 1048576).bind fun x2=>(grd (List.length (q.2++([(yP.mk x1.1 x2.1)]:List yP))*16≤140737488355328)).bind fun _=>(ye { b with i:=x2.2 }).bind fun x4=>(bif (!x4)then some (Sum.inl ((q.2++([(yP.mk x1.1 x2.1)]:List yP)),x2.2))else uJ b K (x2.2,(q.2++([(yP.mk x1.1 x2.1)]:List yP))))
def wm(b:BB):Option ((List yP)×Int) :=
 (uJ { b with i:=0 } KK (b.i,[])).bind (xR some fun _=>none)
def uK(c0:List yP)(c1:Int):Nat→(Int×(List zD))→Option ((List zD))
 |0,_=>none
 |K+1,q=>(bif (decide (q.1<c1))then(idx c0 q.1).bind fun x1=>(grd ((c0.length:Int)≠0)).bind fun _=>(idx c0 (Int.tmod (w64 (q.1+1)) (c0.length:Int))).bind fun x3=>(grd (0≤q.1∧q.1<(((List.length q.2):Nat):Int))).bind fun _=>((q.2)[(Int.toNat q.1)]?).bind fun _=>uK c0 c1 K ((w64 (q.1+1)),(List.set q.2 (Int.toNat q.1) (zD.mk x1 x3)))else some q.2)
def Y8(p:List yP):Option ((List zD)) :=
 (grd (0≤(p.length:Int)∧(p.length:Int)*((32:Nat):Int)≤281474976710656∧(p.length:Int)≤9223372036854775807)).bind fun _=>(uK p (p.length:Int) KK (0,(List.replicate (Int.toNat (p.length:Int)) (zD.mk (yP.mk 0 0) (yP.mk 0 0))))).bind fun x2=>some x2
def Y9(p:yP):Option (Bool) :=
 (bif (decide (0≤p.X))then(bif (decide (p.X≤1048576))then(bif (decide (0≤p.Y))then some (decide (p.Y≤1048576))else some false)else some false)else some false)
def wM(s:zD):Option (Bool) :=
 some (decide (s.a.X=s.b.X))
def A5(x_:Int):Option (Bool) :=
 some (!(decide (x_=x_)))
def uL(x_:Int)(y:Int):Option (Int) :=
 (A5 x_).bind fun x1=>(A5 y).bind fun x2=>(bif x1 then(bif x2 then some 0 else some (-1))else(bif x2 then some 1 else(bif (decide (x_<y))then some (-1)else(bif (decide (x_>y))then some 1 else some 0))))
def A6(c0:Int)(c1:List Int)(c2:Int):Nat→(Int)→Option ((Int)⊕(Unit))
 |0,_=>none
 |K+1,q=>(bif (decide (q<c2))then(idx c1 q).bind fun x1=>(bif (!(decide (x1=c0)))then some (Sum.inl x1)else A6 c0 c1 c2 K (w64 (q+1)))else some (Sum.inr ()))
def zk5(vals:List Int):Option (Int) :=
 (A6 0 vals (vals.length:Int) KK 0).bind (xR some fun _=>some 0)
def VV(a:yP)(b:yP):Option (Int) :=
 (uL a.X b.X).bind fun x1=>(uL a.Y b.Y).bind fun x2=>(zk5 ([x1,x2]:List Int)).bind fun x3=>some x3
def oi(s:zD)(t:zD):Option (Bool) :=
 (bif (decide ((max (min s.a.X s.b.X) (min t.a.X t.b.X))≤(min (max s.a.X s.b.X) (max t.a.X t.b.X))))then some (decide ((max (min s.a.Y s.b.Y) (min t.a.Y t.b.Y))≤(min (max s.a.Y s.b.Y) (max t.a.Y t.b.Y))))else some false)
def oP(c0:List yP)(c1:List zD)(c2:Int):Nat→(Int)→Option ((Bool)⊕(Unit))
 |0,_=>none
 |K+1,q=>(bif (decide (q<c2))then(idx c1 q).bind fun x1=>(grd ((c1.length:Int)≠0)).bind fun _=>(idx c1 (Int.tmod (w64 (q+1)) (c1.length:Int))).bind fun x3=>((Y9 x1.a).bind fun x5=>(bif (!x5)then some true else(bif ((decide (x1.a.X=x1.b.X))==(decide (x1.a.Y=x1.b.Y)))then some true else(wM x1).bind fun x6=>(wM x3).bind fun x7=>some (x6==x7)))).bind fun x4=>(bif x4 then some (Sum.inl false)else((bif (decide (q>0))then(idx c0 0).bind fun x9=>(idx c0 q).bind fun x10=>(VV x9 x10).bind fun x11=>some (decide (x11≥0))else some false)).bind fun x8=>(bif x8 then some (Sum.inl false)else oP c0 c1 c2 K (w64 (q+1))))else some (Sum.inr ()))
def oQ(c0:List zD)(c1:Int)(c2:Int):Nat→(Int)→Option ((Bool)⊕(Unit))
 |0,_=>none
 |K+1,q=>(bif (decide (q<(c0.length:Int)))then((bif (decide ((w64 ((w64 (c1+(c0.length:Int)))-q))>1))then(idx c0 c1).bind fun x2=>(idx c0 q).bind fun x3=>(oi x2 x3).bind fun x4=>some x4 else some false)).bind fun x1=>(bif x1 then some (Sum.inl false)else oQ c0 c1 c2 K (w64 (q+1)))else some (Sum.inr ()))
def oR(c0:List zD)(c1:Int):Nat→(Int)→Option ((Bool)⊕(Unit))
 |0,_=>none
 |K+1,q=>(bif (decide (q<c1))then(oQ c0 q c1 KK (w64 (q+2))).bind (xR (fun q=>some (Sum.inl q)) fun _=>oR c0 c1 K (w64 (q+1)))else some (Sum.inr ()))
def ze0(p:List yP):Option (Bool) :=
 ((bif (decide ((p.length:Int)<4))then some true else some (decide ((p.length:Int)>60)))).bind fun x1=>(bif x1 then some false else(Y8 p).bind fun x2=>(oP p x2 (x2.length:Int) KK 0).bind (xR some fun _=>(oR x2 (x2.length:Int) KK 0).bind (xR some fun _=>(idx x2 0).bind fun x5=>(wM x5).bind fun x6=>some (!x6))))
def vk(l:List yP):Option (Bool) :=
 (ze0 l).bind fun x1=>some x1
def A7(b:BB):Option (Bs8×Int×(List Mb8)) :=
 (zE b).bind fun x1=>(zf b x1 14).bind fun _=>(zl b).bind fun x3=>(JP b.n3).bind fun x4=>(zf { b with n3:=[x4] } (!((xF x3.2.1 x4).getD false)) 5).bind fun _=>(zl { b with n3:=[x4] }).bind fun x6=>(JP [x4]).bind fun x7=>(zG { b with n3:=[ug x6.2.1 true x7] }).bind fun x8=>some (x8.1,x8.2,[ug x6.2.1 true x7])
def VW(b:BB):Option (Bs8×Int×(List Mb8)) :=
 ((bif (List.isEmpty b.n3)then some ([([]:List (Bs8×Bool))]:List Mb8)else some b.n3)).bind fun x1=>(A7 { b with n3:=x1 }).bind fun x2=>some (x2.1,x2.2.1,x2.2.2)
def A8(b:BB):Nat→(Int×(List Bs8))→Option (Int×(List Bs8))
 |0,_=>none
 |K+1,q=>(zE { b with i:=q.1 }).bind fun x1=>(bif x1 then(zG { b with i:=q.1 }).bind fun x2=>(grd (List.length (q.2++([x2.1]:List Bs8))*16≤140737488355328)).bind fun _=>A8 b K (x2.2,(q.2++([x2.1]:List Bs8)))else some (q.1,q.2))
def Jo(b:BB):Option ((List Bs8)×Int) :=
 (zG b).bind fun x1=>(A8 { b with i:=0 } KK (x1.2,([x1.1]:List Bs8))).bind fun x2=>some (x2.2,x2.1)
def QY(a0:Bs8):Option ((List Bs8)):=zbf a0
def vL(c0:List Bs8)(c1:Bs8)(c2:Int):Nat→(Int)→Option ((Int)⊕(Unit))
 |0,_=>none
 |K+1,q=>(bif (decide (q<c2))then(idx c0 q).bind fun x1=>(bif (decide (c1=x1))then some (Sum.inl q)else vL c0 c1 c2 K (w64 (q+1)))else some (Sum.inr ()))
def AM(s:List Bs8)(v:Bs8):Option (Int) :=
 (vL s v (s.length:Int) KK 0).bind (xR some fun _=>some (-1))
def VX(list:Bs8)(s:Bs8):Option (Int) :=
 (QY list).bind fun x1=>(AM x1 s).bind fun x2=>some x2
def xk(b:BB)(list:Bs8):Option (Int×Int) :=
 (zl b).bind fun x1=>(VX list x1.2.1).bind fun x2=>((zl b).bind fun x4=>(bif (decide (x4.1=0))then(zf b (decide (x2≥0)) 14).bind fun _=>some ()else(zf b false 14).bind fun _=>some ())).bind fun _=>some (x2,(w64 (b.i+1)))
def J9(b:BB):Nat→(Int×Int)→Option ((Int×Int)⊕(Unit))
 |0,_=>none
 | K+1,q=>(zl { b with i:=q.1 }).bind fun x1=>(VX zj x1.2.1).bind fun x2=>((bif (decide (q.2>0))then(bif (decide (x2<0))then some true else(zl { b with i:=q.1 }).bind fun x4=>some (!(decide (x4.1=0))))else some false)).bind fun x3=>(bif x3 then some (Sum.inl (q.2,q.1))else((bif (decide (x2<0))then(zf { b with i:=q.1 } true 5).bind fun _=>some ()else(grd (0≤x2)).bind fun _=>(zf { b with i:=q.1 } (decide ((IntKind.i64.wrap ((BitVec.ofInt IntKind.i64.bits (Int.fdiv q.2 (2 ^ (min (Int.toNat x2) IntKind.i64.bits))) &&& BitVec.ofInt IntKind.i64.bits 1).toNat:Int))=0)) 5).bind fun _=>some ())).bind fun _=>(xk { b with i:=q.1 } zj).bind fun x9=>(grd (0≤x9.1)).bind fun _=>J9 b K (x9.2,(IntKind.i64.wrap ((BitVec.ofInt IntKind.i64.bits q.2 ||| BitVec.ofInt IntKind.i64.bits (w64 (1*2 ^ (min (Int.toNat x9.1) IntKind.i64.bits)))).toNat:Int))))
def zih(b:BB):Option (Int×Int) :=
 (J9 { b with i:=0 } KK (b.i,0)).bind (xR some fun _=>none)
def Jp(b:BB):Option (Int×(List yz)×(List Mb8)) :=
 (VW b).bind fun x1=>((zw { b with i:=x1.2.1,n3:=x1.2.2 } zIk).bind fun x3=>(bif x3.1 then(Jo { b with i:=x3.2,n3:=x1.2.2 }).bind fun x4=>some (x4.2,x4.1)else some (x3.2,[]))).bind fun x2=>((zw { b with i:=x2.1,n3:=x1.2.2 } QU).bind fun x6=>(bif x6.1 then(Jo { b with i:=x6.2,n3:=x1.2.2 }).bind fun x7=>some (x7.2,x7.1)else some (x6.2,[]))).bind fun x5=>((zw { b with i:=x5.1,n3:=x1.2.2 } zk2).bind fun x9=>(bif x9.1 then(zi { b with i:=x9.2,n3:=x1.2.2 } 0 1073741824).bind fun x10=>some (x10.2,x10.1)else some (x9.2,0))).bind fun x8=>((zw { b with i:=x8.1,n3:=x1.2.2 } zbr).bind fun x12=>(bif x12.1 then(zi { b with i:=x12.2,n3:=x1.2.2 } (w64 (x8.2+1)) 1073741824).bind fun x13=>some (x13.2,x13.1)else some (x12.2,0))).bind fun x11=>((zw { b with i:=x11.1,n3:=x1.2.2 } zbo).bind fun x15=>(bif x15.1 then(zi { b with i:=x15.2,n3:=x1.2.2 } 0 1073741824).bind fun x16=>some (x16.2,x16.1)else some (x15.2,0))).bind fun x14=>(zw { b with i:=x14.1,n3:=x1.2.2 } zk4).bind fun x17=>(zt { b with i:=x17.2,n3:=x1.2.2 } Jm).bind fun x18=>((zw { b with i:=x18,n3:=x1.2.2 } zbq).bind fun x20=>(bif x20.1 then(zi { b with i:=x20.2,n3:=x1.2.2 } 0 3).bind fun x21=>(zt { b with i:=x21.2,n3:=x1.2.2 } zez).bind fun x22=>(zi { b with i:=x22,n3:=x1.2.2 } 0 4096).bind fun x23=>(zt { b with i:=x23.2,n3:=x1.2.2 } VR).bind fun x24=>(zi { b with i:=x24,n3:=x1.2.2 } 0 4096).bind fun x25=>(zi { b with i:=x25.2,n3:=x1.2.2 } 1 4096).bind fun x26=>(zt { b with i:=x26.2,n3:=x1.2.2 } wC).bind fun x27=>some (x27,1,0,0,([]:Bs8),([]:Bs8),[],x21.1,x23.1,x25.1,x26.1,0,0,0)else(zw { b with i:=x20.2,n3:=x1.2.2 } zk3).bind fun x28=>(bif x28.1 then(zih { b with i:=x28.2,n3:=x1.2.2 }).bind fun x29=>(zt { b with i:=x29.2,n3:=x1.2.2 } wC).bind fun x30=>some (x30,2,0,0,([]:Bs8),([]:Bs8),[],0,0,0,0,x29.1,0,0)else(zw { b with i:=x28.2,n3:=x1.2.2 } zbn).bind fun x31=>(bif x31.1 then(xk { b with i:=x31.2,n3:=x1.2.2 } zj).bind fun x32=>(xk { b with i:=x32.2,n3:=x1.2.2 } zj).bind fun x33=>(zi { b with i:=x33.2,n3:=x1.2.2 } 0 1048576).bind fun x34=>(zt { b with i:=x34.2,n3:=x1.2.2 } wC).bind fun x35=>some (x35,3,0,0,([]:Bs8),([]:Bs8),[],0,0,0,0,x32.1,x33.1,x34.1)else(zW KK { b with i:=x31.2,n3:=x1.2.2 } 0).bind fun x36=>(wj KK (Expr.mk x36.2.1 x36.2.2.1 x36.2.2.2.1 x36.2.2.2.2.1 x36.2.2.2.2.2)).bind fun x37=>(vK { b with i:=x36.1,n3:=x1.2.2 } (decide (x37≤12)) 6).bind fun x38=>some (x38,0,x36.2.1,x36.2.2.1,x36.2.2.2.1,x36.2.2.2.2.1,x36.2.2.2.2.2,0,0,0,0,0,0,0))))).bind fun x19=>(grd (List.length (b.R++([(yz.mk x1.1 x2.2 x5.2 x8.2 x11.2 x14.2 x17.1 x19.2.1 (Expr.mk x19.2.2.1 x19.2.2.2.1 x19.2.2.2.2.1 x19.2.2.2.2.2.1 x19.2.2.2.2.2.2.1) (zP.mk x19.2.2.2.2.2.2.2.1 x19.2.2.2.2.2.2.2.2.1 x19.2.2.2.2.2.2.2.2.2.1 x19.2.2.2.2.2.2.2.2.2.2.1) x19.2.2.2.2.2.2.2.2.2.2.2.1 x19.2.2.2.2.2.2.2.2.2.2.2.2.1 x19.2.2.2.2.2.2.2.2.2.2.2.2.2)]:List yz))*232≤140737488355328)).bind fun _=>some (x19.1,(b.R++([(yz.mk x1.1 x2.2 x5.2 x8.2 x11.2 x14.2 x17.1 x19.2.1 (Expr.mk x19.2.2.1 x19.2.2.2.1 x19.2.2.2.2.1 x19.2.2.2.2.2.1 x19.2.2.2.2.2.2.1) (zP.mk x19.2.2.2.2.2.2.2.1 x19.2.2.2.2.2.2.2.2.1 x19.2.2.2.2.2.2.2.2.2.1 x19.2.2.2.2.2.2.2.2.2.2.1) x19.2.2.2.2.2.2.2.2.2.2.2.1 x19.2.2.2.2.2.2.2.2.2.2.2.2.1 x19.2.2.2.2.2.2.2.2.2.2.2.2.2)]:List yz)),x1.2.2)
def A9(b:BB):Option (Bs8×Int×(List Mb8)) :=
 (zE b).bind fun x1=>(zf b x1 14).bind fun _=>(zl b).bind fun x3=>(JP b.n4).bind fun x4=>(zf { b with n4:=[x4] } (!((xF x3.2.1 x4).getD false)) 5).bind fun _=>(zl { b with n4:=[x4] }).bind fun x6=>(JP [x4]).bind fun x7=>(zG { b with n4:=[ug x6.2.1 true x7] }).bind fun x8=>some (x8.1,x8.2,[ug x6.2.1 true x7])
def oS(b:BB):Option (Bs8×Int×(List Mb8)) :=
 ((bif (List.isEmpty b.n4)then some ([([]:List (Bs8×Bool))]:List Mb8)else some b.n4)).bind fun x1=>(A9 { b with n4:=x1 }).bind fun x2=>some (x2.1,x2.2.1,x2.2.2)
def Ha(b:BB):Option (Bs8×Int×(List Mb8)) :=
 (zE b).bind fun x1=>(zf b x1 14).bind fun _=>(zl b).bind fun x3=>(JP b.n5).bind fun x4=>(zf { b with n5:=[x4] } (!((xF x3.2.1 x4).getD false)) 5).bind fun _=>(zl { b with n5:=[x4] }).bind fun x6=>(JP [x4]).bind fun x7=>(zG { b with n5:=[ug x6.2.1 true x7] }).bind fun x8=>some (x8.1,x8.2,[ug x6.2.1 true x7])
def VY(b:BB):Option (Bs8×Int×(List Mb8)) :=
 ((bif (List.isEmpty b.n5)then some ([([]:List (Bs8×Bool))]:List Mb8)else some b.n5)).bind fun x1=>(Ha { b with n5:=x1 }).bind fun x2=>some (x2.1,x2.2.1,x2.2.2)
def kp(b:BB):Option (Int×Int×Int×Int) :=
 (zi b 0 1048576).bind fun x1=>(zi { b with i:=x1.2 } 0 1048576).bind fun x2=>(zi { b with i:=x2.2 } 0 4096).bind fun x3=>some (x3.2,x1.1,x2.1,x3.1)
def Hb(b:BB)(c15:(List Mb8))(c16:Bs8)(c17:Int)(c18:Int)(c19:Int)(c20:Int):Nat→(Int×(List zn))→Option (Int×(List zn))
 |0,_=>none
 |K+1,q=>(ye { b with i:=q.1,n5:=c15 }).bind fun x1=>(bif x1 then(zf { b with i:=q.1,n5:=c15 } (decide ((((List.length q.2):Nat):Int)<20)) 6).bind fun _=>(kp { b with i:=q.1,n5:=c15 }).bind fun x3=>(grd (List.length (q.2++([(zn.mk x3.2.1 x3.2.2.1 x3.2.2.2)]:List zn))*24≤140737488355328)).bind fun _=>Hb b c15 c16 c17 c18 c19 c20 K (x3.1,(q.2++([(zn.mk x3.2.1 x3.2.2.1 x3.2.2.2)]:List zn)))else some (q.1,q.2))
def Jq(b:BB):Option (Int×(List View)×(List Mb8)) :=
 (VY b).bind fun x1=>(kp { b with i:=x1.2.1,n5:=x1.2.2 }).bind fun x2=>(zt { b with i:=x2.1,n5:=x1.2.2 } VP).bind fun x3=>(zi { b with i:=x3,n5:=x1.2.2 } 0 20).bind fun x4=>(zt { b with i:=x4.2,n5:=x1.2.2 } Jm).bind fun x5=>(kp { b with i:=x5,n5:=x1.2.2 }).bind fun x6=>(grd (List.length (([]:List zn)++([(zn.mk x6.2.1 x6.2.2.1 x6.2.2.2)]:List zn))*24≤140737488355328)).bind fun _=>(Hb { b with i:=0,n5:=[] } x1.2.2 x1.1 x2.2.1 x2.2.2.1 x2.2.2.2 x4.1 KK (x6.1,(([]:List zn)++([(zn.mk x6.2.1 x6.2.2.1 x6.2.2.2)]:List zn)))).bind fun x8=>(zt { b with i:=x8.1,n5:=x1.2.2 } wC).bind fun x9=>(grd (List.length (b.V++([(View.mk x1.1 (zn.mk x2.2.1 x2.2.2.1 x2.2.2.2) x4.1 x8.2)]:List View))*72≤140737488355328)).bind fun _=>some (x9,(b.V++([(View.mk x1.1 (zn.mk x2.2.1 x2.2.2.1 x2.2.2.2) x4.1 x8.2)]:List View)),x1.2.2)
def Ka(b:BB):Nat→(Int×(List zn)×Bool)→Option (Int×(List zn))
 |0,_=>none
 |K+1,q=>(bif q.2.2 then((wL { b with i:=q.1,S:=q.2.1 } xA).bind fun x2=>(bif x2 then(zf { b with i:=q.1,S:=q.2.1 } true 14).bind fun _=>some ()else(ye { b with i:=q.1,S:=q.2.1 }).bind fun x4=>(zf { b with i:=q.1,S:=q.2.1 } x4 14).bind fun _=>some ())).bind fun _=>(zf { b with i:=q.1,S:=q.2.1 } (decide ((((List.length q.2.1):Nat):Int)<24)) 6).bind fun _=>(wk { b with i:=q.1,S:=q.2.1 } 4096).bind fun x7=>(wk { b with i:=x7.2,S:=q.2.1 } 4096).bind fun x8=>(zi { b with i:=x8.2,S:=q.2.1 } 1 4096).bind fun x9=>(grd (List.length (q.2.1++([(zn.mk x7.1 x8.1 x9.1)]:List zn))*24≤140737488355328)).bind fun _=>(zw { b with i:=x9.2,S:=(q.2.1++([(zn.mk x7.1 x8.1 x9.1)]:List zn)) } zbs).bind fun x11=>Ka b K (x11.2,(q.2.1++([(zn.mk x7.1 x8.1 x9.1)]:List zn)),x11.1)else some (q.1,q.2.1))
def VZ(b:BB):Option (Int×(List zn)) :=
 (Ka { b with i:=0,S:=[] } KK (b.i,b.S,true)).bind fun x1=>(zt { b with i:=x1.1,S:=x1.2 } wC).bind fun x2=>some (x2,x1.2)
def zb(b:BB)(q:Int×Int×Bool×(List Def)×(List Table)×(List xE)×(List yz)×(List Cap)×(List View)×(List zn)×(List Mb8)×(List Mb8)×(List Mb8)×(List Mb8)×(List Mb8)×(List Mb8)):BB:={ b with i:=q.1,H:=q.2.1,h:=q.2.2.1,D:=q.2.2.2.1,T:=q.2.2.2.2.1,Z:=q.2.2.2.2.2.1,R:=q.2.2.2.2.2.2.1,C:=q.2.2.2.2.2.2.2.1,V:=q.2.2.2.2.2.2.2.2.1,S:=q.2.2.2.2.2.2.2.2.2.1,n0:=q.2.2.2.2.2.2.2.2.2.2.1,n1:=q.2.2.2.2.2.2.2.2.2.2.2.1,n2:=q.2.2.2.2.2.2.2.2.2.2.2.2.1,n3:=q.2.2.2.2.2.2.2.2.2.2.2.2.2.1,n4:=q.2.2.2.2.2.2.2.2.2.2.2.2.2.2.1,n5:=q.2.2.2.2.2.2.2.2.2.2.2.2.2.2.2 }
def yb(b:BB):Nat→(Int×Int×Bool×(List Def)×(List Table)×(List xE)×(List yz)×(List Cap)×(List View)×(List zn)×(List Mb8)×(List Mb8)×(List Mb8)×(List Mb8)×(List Mb8)×(List Mb8))→Option (Int×Int×Bool×(List Def)×(List Table)×(List xE)×(List yz)×(List Cap)×(List View)×(List zn)×(List Mb8)×(List Mb8)×(List Mb8)×(List Mb8)×(List Mb8)×(List Mb8))
 |0,_=>none
 |K+1,q=>(zl { (zb b q)with l:=b.l }).bind fun x1=>(bif (!(decide (x1.1=3)))then(zl { (zb b q)with l:=b.l }).bind fun x2=>(bif (decide (x2.2.1=QT))then(yy { (zb b q)with l:=b.l } (((List.length ((zb b q).D)):Nat):Int) 60).bind fun x3=>(J8 { (zb b q)with l:=b.l,i:=x3 }).bind fun x4=>yb b K (x4.1,(zb b q).H,(zb b q).h,x4.2.1,(zb b q).T,(zb b q).Z,(zb b q).R,(zb b q).C,(zb b q).V,(zb b q).S,x4.2.2,(zb b q).n1,(zb b q).n2,(zb b q).n3,(zb b q).n4,(zb b q).n5)else(bif (decide (x2.2.1=xb))then(yy { (zb b q)with l:=b.l } (((List.length ((zb b q).T)):Nat):Int) 60).bind fun x5=>(VU { (zb b q)with l:=b.l,i:=x5 }).bind fun x6=>yb b K (x6.1,(zb b q).H,(zb b q).h,(zb b q).D,x6.2.1,(zb b q).Z,(zb b q).R,(zb b q).C,(zb b q).V,(zb b q).S,(zb b q).n0,x6.2.2,(zb b q).n2,(zb b q).n3,(zb b q).n4,(zb b q).n5)else(bif (decide (x2.2.1=xU))then(bif (decide (x2.2.1=xU))then(wL { (zb b q)with l:=b.l } ji).bind fun x7=>(yy { (zb b q)with l:=b.l } (((List.length ((zb b q).Z)):Nat):Int) 60).bind fun x8=>(oO { (zb b q)with l:=b.l,i:=x8 }).bind fun x9=>(wm { (zb b q)with l:=b.l,i:=x9.2.1,n2:=x9.2.2 }).bind fun x10=>(vk x10.1).bind fun x11=>(vK { (zb b q)with l:=b.l,i:=x10.2,n2:=x9.2.2 } x11 10).bind fun x12=>(grd (List.length ((zb b q).Z++([(xE.mk x9.1 x7 x10.1)]:List xE))*48≤140737488355328)).bind fun _=>yb b K (x12,(zb b q).H,(zb b q).h,(zb b q).D,(zb b q).T,((zb b q).Z++([(xE.mk x9.1 x7 x10.1)]:List xE)),(zb b q).R,(zb b q).C,(zb b q).V,(zb b q).S,(zb b q).n0,(zb b q).n1,x9.2.2,(zb b q).n3,(zb b q).n4,(zb b q).n5)else(bif (decide (x2.2.1=VQ))then(yy { (zb b q)with l:=b.l } (((List.length ((zb b q).R)):Nat):Int) 200).bind fun x14=>(Jp { (zb b q)with l:=b.l,i:=x14 }).bind fun x15=>yb b K (x15.1,(zb b q).H,(zb b q).h,(zb b q).D,(zb b q).T,(zb b q).Z,x15.2.1,(zb b q).C,(zb b q).V,(zb b q).S,(zb b q).n0,(zb b q).n1,(zb b q).n2,x15.2.2,(zb b q).n4,(zb b q).n5)else(bif (decide (x2.2.1=zn3))then(yy { (zb b q)with l:=b.l } (((List.length ((zb b q).C)):Nat):Int) 30).bind fun x16=>(oS { (zb b q)with l:=b.l,i:=x16 }).bind fun x17=>(xk { (zb b q)with l:=b.l,i:=x17.2.1,n4:=x17.2.2 } zU).bind fun x18=>(zi { (zb b q)with l:=b.l,i:=x18.2,n4:=x17.2.2 } 0 1099511627776).bind fun x19=>(wm { (zb b q)with l:=b.l,i:=x19.2,n4:=x17.2.2 }).bind fun x20=>(vk x20.1).bind fun x21=>(vK { (zb b q)with l:=b.l,i:=x20.2,n4:=x17.2.2 } x21 10).bind fun x22=>(grd (List.length ((zb b q).C++([(Cap.mk x17.1 x18.1 x19.1 x20.1)]:List Cap))*56≤140737488355328)).bind fun _=>yb b K (x22,(zb b q).H,(zb b q).h,(zb b q).D,(zb b q).T,(zb b q).Z,(zb b q).R,((zb b q).C++([(Cap.mk x17.1 x18.1 x19.1 x20.1)]:List Cap)),(zb b q).V,(zb b q).S,(zb b q).n0,(zb b q).n1,(zb b q).n2,(zb b q).n3,x17.2.2,(zb b q).n5)else(bif (decide (x2.2.1=Y5))then(yy { (zb b q)with l:=b.l } (((List.length ((zb b q).V)):Nat):Int) 60).bind fun x24=>(Jq { (zb b q)with l:=b.l,i:=x24 }).bind fun x25=>yb b K (x25.1,(zb b q).H,(zb b q).h,(zb b q).D,(zb b q).T,(zb b q).Z,(zb b q).R,(zb b q).C,x25.2.1,(zb b q).S,(zb b q).n0,(zb b q).n1,(zb b q).n2,(zb b q).n3,(zb b q).n4,x25.2.2)else(bif (decide (x2.2.1=zn4))then(zf { (zb b q)with l:=b.l } (decide (((List.length ((zb b q).S)):Nat)=0)) 5).bind fun _=>(VZ { (zb b q)with l:=b.l,i:=(w64 ((zb b q).i+1)) }).bind fun x27=>yb b K (x27.1,(zb b q).H,(zb b q).h,(zb b q).D,(zb b q).T,(zb b q).Z,(zb b q).R,(zb b q).C,(zb b q).V,x27.2,(zb b q).n0,(zb b q).n1,(zb b q).n2,(zb b q).n3,(zb b q).n4,(zb b q).n5)else(bif (decide (x2.2.1=J7))then(zf { (zb b q)with l:=b.l } (!(zb b q).h) 5).bind fun _=>(zi { (zb b q)with l:=b.l,i:=(w64 ((zb b q).i+1)) } 0 24).bind fun x29=>(zt { (zb b q)with l:=b.l,i:=x29.2,H:=x29.1,h:=true } wC).bind fun x30=>yb b K (x30,x29.1,true,(zb b q).D,(zb b q).T,(zb b q).Z,(zb b q).R,(zb b q).C,(zb b q).V,(zb b q).S,(zb b q).n0,(zb b q).n1,(zb b q).n2,(zb b q).n3,(zb b q).n4,(zb b q).n5)else none))))))else(bif (decide (x2.2.1=ji))then(wL { (zb b q)with l:=b.l } ji).bind fun x31=>(yy { (zb b q)with l:=b.l } (((List.length ((zb b q).Z)):Nat):Int) 60).bind fun x32=>(oO { (zb b q)with l:=b.l,i:=x32 }).bind fun x33=>(wm { (zb b q)with l:=b.l,i:=x33.2.1,n2:=x33.2.2 }).bind fun x34=>(vk x34.1).bind fun x35=>(vK { (zb b q)with l:=b.l,i:=x34.2,n2:=x33.2.2 } x35 10).bind fun x36=>(grd (List.length ((zb b q).Z++([(xE.mk x33.1 x31 x34.1)]:List xE))*48≤140737488355328)).bind fun _=>yb b K (x36,(zb b q).H,(zb b q).h,(zb b q).D,(zb b q).T,((zb b q).Z++([(xE.mk x33.1 x31 x34.1)]:List xE)),(zb b q).R,(zb b q).C,(zb b q).V,(zb b q).S,(zb b q).n0,(zb b q).n1,x33.2.2,(zb b q).n3,(zb b q).n4,(zb b q).n5)else(bif (decide (x2.2.1=VQ))then(yy { (zb b q)with l:=b.l } (((List.length ((zb b q).R)):Nat):Int) 200).bind fun x38=>(Jp { (zb b q)with l:=b.l,i:=x38 }).bind fun x39=>yb b K (x39.1,(zb b q).H,(zb b q).h,(zb b q).D,(zb b q).T,(zb b q).Z,x39.2.1,(zb b q).C,(zb b q).V,(zb b q).S,(zb b q).n0,(zb b q).n1,(zb b q).n2,x39.2.2,(zb b q).n4,(zb b q).n5)else(bif (decide (x2.2.1=zn3))then(yy { (zb b q)with l:=b.l } (((List.length ((zb b q).C)):Nat):Int) 30).bind fun x40=>(oS { (zb b q)with l:=b.l,i:=x40 }).bind fun x41=>(xk { (zb b q)with l:=b.l,i:=x41.2.1,n4:=x41.2.2 } zU).bind fun x42=>(zi { (zb b q)with l:=b.l,i:=x42.2,n4:=x41.2.2 } 0 1099511627776).bind fun x43=>(wm { (zb b q)with l:=b.l,i:=x43.2,n4:=x41.2.2 }).bind fun x44=>(vk x44.1).bind fun x45=>(vK { (zb b q)with l:=b.l,i:=x44.2,n4:=x41.2.2 } x45 10).bind fun x46=>(grd (List.length ((zb b q).C++([(Cap.mk x41.1 x42.1 x43.1 x44.1)]:List Cap))*56≤140737488355328)).bind fun _=>yb b K (x46,(zb b q).H,(zb b q).h,(zb b q).D,(zb b q).T,(zb b q).Z,(zb b q).R,((zb b q).C++([(Cap.mk x41.1 x42.1 x43.1 x44.1)]:List Cap)),(zb b q).V,(zb b q).S,(zb b q).n0,(zb b q).n1,(zb b q).n2,(zb b q).n3,x41.2.2,(zb b q).n5)else(bif (decide (x2.2.1=Y5))then(yy { (zb b q)with l:=b.l } (((List.length ((zb b q).V)):Nat):Int) 60).bind fun x48=>(Jq { (zb b q)with l:=b.l,i:=x48 }).bind fun x49=>yb b K (x49.1,(zb b q).H,(zb b q).h,(zb b q).D,(zb b q).T,(zb b q).Z,(zb b q).R,(zb b q).C,x49.2.1,(zb b q).S,(zb b q).n0,(zb b q).n1,(zb b q).n2,(zb b q).n3,(zb b q).n4,x49.2.2)else(bif (decide (x2.2.1=zn4))then(zf { (zb b q)with l:=b.l } (decide (((List.length ((zb b q).S)):Nat)=0)) 5).bind fun _=>(VZ { (zb b q)with l:=b.l,i:=(w64 ((zb b q).i+1)) }).bind fun x51=>yb b K (x51.1,(zb b q).H,(zb b q).h,(zb b q).D,(zb b q).T,(zb b q).Z,(zb b q).R,(zb b q).C,(zb b q).V,x51.2,(zb b q).n0,(zb b q).n1,(zb b q).n2,(zb b q).n3,(zb b q).n4,(zb b q).n5)else(bif (decide (x2.2.1=J7))then(zf { (zb b q)with l:=b.l } (!(zb b q).h) 5).bind fun _=>(zi { (zb b q)with l:=b.l,i:=(w64 ((zb b q).i+1)) } 0 24).bind fun x53=>(zt { (zb b q)with l:=b.l,i:=x53.2,H:=x53.1,h:=true } wC).bind fun x54=>yb b K (x54,x53.1,true,(zb b q).D,(zb b q).T,(zb b q).Z,(zb b q).R,(zb b q).C,(zb b q).V,(zb b q).S,(zb b q).n0,(zb b q).n1,(zb b q).n2,(zb b q).n3,(zb b q).n4,(zb b q).n5)else none)))))))))else some ((zb b q).i,(zb b q).H,(zb b q).h,(zb b q).D,(zb b q).T,(zb b q).Z,(zb b q).R,(zb b q).C,(zb b q).V,(zb b q).S,(zb b q).n0,(zb b q).n1,(zb b q).n2,(zb b q).n3,(zb b q).n4,(zb b q).n5))
def zk6(b:BB):Option (Int×Int×Bool×(List Def)×(List Table)×(List xE)×(List yz)×(List Cap)×(List View)×(List zn)×(List Mb8)×(List Mb8)×(List Mb8)×(List Mb8)×(List Mb8)×(List Mb8)) :=
 (yb { b with i:=0,D:=[],T:=[],Z:=[],R:=[],C:=[],V:=[],S:=[],H:=0,n0:=[],n1:=[],n2:=[],n3:=[],n4:=[],n5:=[],h:=false } KK (b.i,b.H,b.h,b.D,b.T,b.Z,b.R,b.C,b.V,b.S,b.n0,b.n1,b.n2,b.n3,b.n4,b.n5)).bind fun x1=>some (x1.1,x1.2.1,x1.2.2.1,x1.2.2.2.1,x1.2.2.2.2.1,x1.2.2.2.2.2.1,x1.2.2.2.2.2.2.1,x1.2.2.2.2.2.2.2.1,x1.2.2.2.2.2.2.2.2.1,x1.2.2.2.2.2.2.2.2.2.1,x1.2.2.2.2.2.2.2.2.2.2.1,x1.2.2.2.2.2.2.2.2.2.2.2.1,x1.2.2.2.2.2.2.2.2.2.2.2.2.1,x1.2.2.2.2.2.2.2.2.2.2.2.2.2.1,x1.2.2.2.2.2.2.2.2.2.2.2.2.2.2.1,x1.2.2.2.2.2.2.2.2.2.2.2.2.2.2.2)
def As(b:BB)(err:Int):Option (Int×Int) :=
 (zl b).bind fun x1=>some (x1.2.2.2,err)
def zr(b:BB)(is:Bool)(err:Int):Option (Int×Int) :=
 (bif (!is)then(orC (As b err) (fun x1=>some x1) none)else none)
def vl(b:BB)(have_:Int)(most:Int):Option (Int×Int) :=
 (orC (zr b (decide (have_<most)) 6) (fun x1=>some x1) ((zf b (decide (have_<most)) 6).bind fun _=>none))
def yF(b:BB):Option (Int×Int) :=
 (zE b).bind fun x1=>(orC (zr b x1 14) (fun x2=>some x2) ((zf b x1 14).bind fun _=>(idx b.l (w64 ((w64 (b.i+1))-1))).bind fun _=>none))
def ze1(b:BB):Option (Int×Int) :=
 (zE b).bind fun x1=>(orC (zr b x1 14) (fun x2=>some x2) ((zf b x1 14).bind fun _=>(zl b).bind fun x4=>(JP b.n0).bind fun x5=>(orC (zr { b with n0:=[x5] } (!((xF x4.2.1 x5).getD false)) 5) (fun x6=>some x6) ((zf { b with n0:=[x5] } (!((xF x4.2.1 x5).getD false)) 5).bind fun _=>(zl { b with n0:=[x5] }).bind fun x8=>(JP [x5]).bind fun x9=>(orC (yF { b with n0:=[ug x8.2.1 true x9] }) (fun x10=>some x10) ((zG { b with n0:=[ug x8.2.1 true x9] }).bind fun _=>none))))))
def zsb(b:BB):Option (Int×Int) :=
 ((bif (List.isEmpty b.n0)then some ([([]:List (Bs8×Bool))]:List Mb8)else some b.n0)).bind fun x1=>(orC (ze1 { b with n0:=x1 }) (fun x2=>some x2) ((VS { b with n0:=x1 }).bind fun _=>none))
def z8(b:BB)(s:Bs8):Option (Int×Int) :=
 (zw b s).bind fun x1=>(orC (zr { b with i:=x1.2 } x1.1 14) (fun x2=>some x2) ((zf { b with i:=x1.2 } x1.1 14).bind fun _=>none))
def zy(b:BB)(from_:Int)(to_:Int):Option (Int×Int) :=
 (ye b).bind fun x1=>(orC (zr b x1 14) (fun x2=>some x2) ((zf b x1 14).bind fun _=>(zl b).bind fun x4=>((bif (decide (x4.2.2.1≥from_))then(orC (zr b (decide (x4.2.2.1≤to_)) 3) (fun x6=>some (Sum.inl x6)) ((zf b (decide (x4.2.2.1≤to_)) 3).bind fun _=>some (Sum.inr ())))else(orC (zr b false 3) (fun x8=>some (Sum.inl x8)) ((zf b false 3).bind fun _=>some (Sum.inr ()))))).bind (xR some fun _=>none)))
def uM(b:BB)(c1:Int)(c17:Int)(c18:Int)(c19:List zd)(c20:Int)(c21:Int)(c22:Bs8)(c23:List Expr)(c24:Int)(c25:Int)(c26:Bs8)(c27:Bs8)(c28:List Expr):Nat→(Int×Bs8×Int×Int)→Option (Bs8×Int×Int)
 |0,_=>none
 |K+1,q=>(bif (decide (q.1<c20))then((idx c19 q.1).bind fun x2=>(wL { b with i:=c1 } x2.text).bind fun x3=>(bif x3 then some (x2.text,x2.op,x2.form)else some (q.2.1,q.2.2.1,q.2.2.2))).bind fun x1=>uM b c1 c17 c18 c19 c20 c21 c22 c23 c24 c25 c26 c27 c28 K ((w64 (q.1+1)),x1.1,x1.2.1,x1.2.2)else some (q.2.1,q.2.2.1,q.2.2.2))
def uN(r_p_q_expr_2:BB→Int→Option (Int×Int))(b:BB)(c16:Int)(c17:Int)(c18:Bs8)(c19:List Expr):Nat→(Int×Int×Int×Int×Bs8×Bs8×(List Expr))→Option ((Int×Int)⊕(Unit))
 |0,_=>none
 |K+1,q=>(xB).bind fun x1=>(uM { b with i:=0 } q.1 c16 q.2.1 x1 (x1.length:Int) c17 c18 c19 q.2.2.1 q.2.2.2.1 q.2.2.2.2.1 q.2.2.2.2.2.1 q.2.2.2.2.2.2 KK (0,([]:Bs8),0,0)).bind fun x2=>((bif (decide (x2.1=([]:Bs8)))then some true else(bif (decide (x2.2.2<c16))then some true else(bif (decide (q.2.1<x2.2.2))then some true else(bif (decide (q.2.1=4))then some (decide (x2.2.2=4))else some false))))).bind fun x3=>(bif x3 then none else(orC (r_p_q_expr_2 { b with i:=(w64 (q.1+1)) } (w64 (x2.2.2+1))) (fun x4=>some (Sum.inl x4)) ((zW KK { b with i:=(w64 (q.1+1)) } (w64 (x2.2.2+1))).bind fun x5=>uN r_p_q_expr_2 b c16 c17 c18 c19 K (x5.1,x2.2.2,x2.2.1,0,([]:Bs8),([]:Bs8),([(Expr.mk q.2.2.1 q.2.2.2.1 q.2.2.2.2.1 q.2.2.2.2.2.1 q.2.2.2.2.2.2),(Expr.mk x5.2.1 x5.2.2.1 x5.2.2.2.1 x5.2.2.2.2.1 x5.2.2.2.2.2)]:List Expr)))))
mutual
def K7:Nat→BB→Int→Option (Int×Int)
 |0,_,_=>none
 |RK+1,b,form=>((bif (decide (form≤0))then(zw b Jk).bind fun x2=>some (x2.2,x2.1)else some (b.i,false))).bind fun x1=>(bif x1.2 then(orC (xl RK { b with i:=x1.1 } 0) (fun x3=>some x3) ((zW KK { b with i:=x1.1 } 0).bind fun x4=>(orC (z8 { b with i:=x4.1 } jj) (fun x5=>some x5) ((zt { b with i:=x4.1 } jj).bind fun x6=>(orC (xl RK { b with i:=x6 } 0) (fun x7=>some x7) ((zW KK { b with i:=x6 } 0).bind fun x8=>(orC (z8 { b with i:=x8.1 } wx) (fun x9=>some x9) ((zt { b with i:=x8.1 } wx).bind fun x10=>(orC (xl RK { b with i:=x10 } 0) (fun x11=>some x11) ((zW KK { b with i:=x10 } 0).bind fun _=>none))))))))))else((bif (decide (form≤3))then(zw { b with i:=x1.1 } jh).bind fun x14=>some (x14.2,x14.1)else some (x1.1,false))).bind fun x13=>(bif x13.2 then(orC (xl RK { b with i:=x13.1 } 3) (fun x15=>some x15) ((zW KK { b with i:=x13.1 } 3).bind fun _=>none))else((bif (decide (form≤7))then(zw { b with i:=x13.1 } xA).bind fun x18=>some (x18.2,x18.1)else some (x13.1,false))).bind fun x17=>(bif x17.2 then(orC (xl RK { b with i:=x17.1 } 7) (fun x19=>some x19) ((zW KK { b with i:=x17.1 } 7).bind fun _=>none))else(ye { b with i:=x17.1 }).bind fun x21=>(bif x21 then(orC (zy { b with i:=x17.1 } 0 1099511627776) (fun x22=>some x22) ((zi { b with i:=x17.1 } 0 1099511627776).bind fun _=>none))else(zw { b with i:=x17.1 } xb).bind fun x24=>(bif x24.1 then(orC (yF { b with i:=x24.2 }) (fun x25=>some x25) ((zG { b with i:=x24.2 }).bind fun x26=>(orC (yF { b with i:=x26.2 }) (fun x27=>some x27) ((zG { b with i:=x26.2 }).bind fun _=>none))))else(zw { b with i:=x24.2 } xU).bind fun x29=>(bif x29.1 then(orC (yF { b with i:=x29.2 }) (fun x30=>some x30) ((zG { b with i:=x29.2 }).bind fun _=>none))else(zw { b with i:=x29.2 } wB).bind fun x32=>(bif x32.1 then(orC (xl RK { b with i:=x32.2 } 0) (fun x33=>some x33) ((zW KK { b with i:=x32.2 } 0).bind fun x34=>(orC (z8 { b with i:=x34.1 } xL) (fun x35=>some x35) ((zt { b with i:=x34.1 } xL).bind fun _=>none))))else(orC (yF { b with i:=x32.2 }) (fun x37=>some x37) ((zG { b with i:=x32.2 }).bind fun _=>none)))))))))
def xl:Nat→BB→Int→Option (Int×Int)
 |0,_,_=>none
 |RK+1,b,form=>(orC (K7 RK b form) (fun x1=>some x1) ((oM KK b form).bind fun x2=>(uN (xl RK) { b with i:=0 } form 0 ([]:Bs8) [] KK (x2.2.1,x2.1,x2.2.2.1,x2.2.2.2.1,x2.2.2.2.2.1,x2.2.2.2.2.2.1,x2.2.2.2.2.2.2)).bind (xR some fun _=>none)))
end
def Hc(b:BB)(is:Bool)(err:Int):Option (Int×Int) :=
 (wL b wC).bind fun x1=>(orC (zr b x1 14) (fun x2=>some x2) ((zf b x1 14).bind fun _=>(orC (zr b is err) (fun x4=>some x4) ((zf b is err).bind fun _=>none))))
def Za(b:BB):Option (Int×Int) :=
 (orC (zsb b) (fun x1=>some x1) ((zig b).bind fun x2=>(orC (z8 { b with i:=x2.2.1,n0:=x2.2.2 } Yp) (fun x3=>some x3) ((zt { b with i:=x2.2.1,n0:=x2.2.2 } Yp).bind fun x4=>(orC (xl KK { b with i:=x4,n0:=x2.2.2 } 0) (fun x5=>some x5) ((zW KK { b with i:=x4,n0:=x2.2.2 } 0).bind fun x6=>(wj KK (Expr.mk x6.2.1 x6.2.2.1 x6.2.2.2.1 x6.2.2.2.2.1 x6.2.2.2.2.2)).bind fun x7=>(orC (Hc { b with i:=x6.1,n0:=x2.2.2 } (decide (x7≤12)) 6) (fun x8=>some x8) ((vK { b with i:=x6.1,n0:=x2.2.2 } (decide (x7≤12)) 6).bind fun _=>(grd (List.length (b.D++([(Def.mk x2.1 (Expr.mk x6.2.1 x6.2.2.1 x6.2.2.2.1 x6.2.2.2.2.1 x6.2.2.2.2.2))]:List Def))*88≤140737488355328)).bind fun _=>none))))))))
def V0(b:BB):Option (Int×Int) :=
 (zE b).bind fun x1=>(orC (zr b x1 14) (fun x2=>some x2) ((zf b x1 14).bind fun _=>(zl b).bind fun x4=>(JP b.n1).bind fun x5=>(orC (zr { b with n1:=[x5] } (!((xF x4.2.1 x5).getD false)) 5) (fun x6=>some x6) ((zf { b with n1:=[x5] } (!((xF x4.2.1 x5).getD false)) 5).bind fun _=>(zl { b with n1:=[x5] }).bind fun x8=>(JP [x5]).bind fun x9=>(orC (yF { b with n1:=[ug x8.2.1 true x9] }) (fun x10=>some x10) ((zG { b with n1:=[ug x8.2.1 true x9] }).bind fun _=>none))))))
def ze2(b:BB):Option (Int×Int) :=
 ((bif (List.isEmpty b.n1)then some ([([]:List (Bs8×Bool))]:List Mb8)else some b.n1)).bind fun x1=>(orC (V0 { b with n1:=x1 }) (fun x2=>some x2) ((A2 { b with n1:=x1 }).bind fun _=>none))
def V1(b:BB)(known:Mb8):Option (Int×Int) :=
 (zE b).bind fun x1=>(orC (zr b x1 14) (fun x2=>some x2) ((zf b x1 14).bind fun _=>(zl b).bind fun x4=>(orC (zr b (!((xF x4.2.1 known).getD false)) 5) (fun x5=>some x5) ((zf b (!((xF x4.2.1 known).getD false)) 5).bind fun _=>(zl b).bind fun _=>(orC (yF b) (fun x8=>some x8) ((zG b).bind fun _=>none))))))
def qO(b:BB)(most:Int):Option (Int×Int) :=
 (zw b xA).bind fun x1=>(bif x1.1 then(orC (zy { b with i:=x1.2 } 0 most) (fun x2=>some x2) ((zi { b with i:=x1.2 } 0 most).bind fun _=>none))else(orC (zy { b with i:=x1.2 } 0 most) (fun x4=>some x4) ((zi { b with i:=x1.2 } 0 most).bind fun _=>none)))
def oT(b:BB)(c15:(List Mb8))(c16:Bs8)(c17:Int):Nat→(Int×Mb8×(List Entry))→Option ((Int×Int)⊕(Int×(List Entry)))
 |0,_=>none
 |K+1,q=>(zE { b with i:=q.1,n1:=c15 }).bind fun x1=>(bif x1 then(orC (zr { b with i:=q.1,n1:=c15 } (decide ((((List.length q.2.2):Nat):Int)<60)) 6) (fun x2=>some (Sum.inl x2)) ((zf { b with i:=q.1,n1:=c15 } (decide ((((List.length q.2.2):Nat):Int)<60)) 6).bind fun _=>(orC (V1 { b with i:=q.1,n1:=c15 } q.2.1) (fun x4=>some (Sum.inl x4)) ((A3 { b with i:=q.1,n1:=c15 } q.2.1).bind fun x5=>(orC (qO { b with i:=x5.2.1,n1:=c15 } 1099511627776) (fun x6=>some (Sum.inl x6)) ((wk { b with i:=x5.2.1,n1:=c15 } 1099511627776).bind fun x7=>(grd (List.length (q.2.2++([(Entry.mk x5.1 x7.1)]:List Entry))*24≤140737488355328)).bind fun _=>oT b c15 c16 c17 K (x7.2,x5.2.2,(q.2.2++([(Entry.mk x5.1 x7.1)]:List Entry)))))))))else some (Sum.inr (q.1,q.2.2)))
def ze3(b:BB):Option (Int×Int) :=
 (orC (ze2 b) (fun x1=>some x1) ((VT b).bind fun x2=>(oT { b with i:=0,n1:=[] } x2.2.2 x2.1 0 KK (x2.2.1,([]:List (Bs8×Bool)),([]:List Entry))).bind (xR some fun x3=>(orC (z8 { b with i:=x3.1,n1:=x2.2.2 } wx) (fun x4=>some x4) ((zt { b with i:=x3.1,n1:=x2.2.2 } wx).bind fun x5=>(orC (qO { b with i:=x5,n1:=x2.2.2 } 1099511627776) (fun x6=>some x6) ((wk { b with i:=x5,n1:=x2.2.2 } 1099511627776).bind fun x7=>(orC (z8 { b with i:=x7.2,n1:=x2.2.2 } wC) (fun x8=>some x8) ((zt { b with i:=x7.2,n1:=x2.2.2 } wC).bind fun _=>(grd (List.length (b.T++([(Table.mk x2.1 x3.2 x7.1)]:List Table))*48≤140737488355328)).bind fun _=>none)))))))))
def V2(b:BB):Option (Int×Int) :=
 (zE b).bind fun x1=>(orC (zr b x1 14) (fun x2=>some x2) ((zf b x1 14).bind fun _=>(zl b).bind fun x4=>(JP b.n2).bind fun x5=>(orC (zr { b with n2:=[x5] } (!((xF x4.2.1 x5).getD false)) 5) (fun x6=>some x6) ((zf { b with n2:=[x5] } (!((xF x4.2.1 x5).getD false)) 5).bind fun _=>(zl { b with n2:=[x5] }).bind fun x8=>(JP [x5]).bind fun x9=>(orC (yF { b with n2:=[ug x8.2.1 true x9] }) (fun x10=>some x10) ((zG { b with n2:=[ug x8.2.1 true x9] }).bind fun _=>none))))))
def V3(b:BB):Option (Int×Int) :=
 ((bif (List.isEmpty b.n2)then some ([([]:List (Bs8×Bool))]:List Mb8)else some b.n2)).bind fun x1=>(orC (V2 { b with n2:=x1 }) (fun x2=>some x2) ((A4 { b with n2:=x1 }).bind fun _=>none))
def uO(b:BB):Nat→(Int×(List yP))→Option ((Int×Int)⊕(Unit))
 |0,_=>none
 |K+1,q=>(orC (zy { b with i:=q.1 } 0 1048576) (fun x1=>some (Sum.inl x1)) ((zi { b with i:=q.1 } 0 1048576).bind fun x2=>(orC (zy { b with i:=x2.2 } 0 1048576) (fun x3=>some (Sum.inl x3)) ((zi { b with i:=x2.2 } 0 1048576).bind fun x4=>(grd (List.length (q.2++([(yP.mk x2.1 x4.1)]:List yP))*16≤140737488355328)).bind fun _=>(ye { b with i:=x4.2 }).bind fun x6=>(bif (!x6)then none else uO b K (x4.2,(q.2++([(yP.mk x2.1 x4.1)]:List yP))))))))
def qP(b:BB):Option (Int×Int) :=
 (uO { b with i:=0 } KK (b.i,[])).bind (xR some fun _=>none)
def V4(b:BB):Option (Int×Int) :=
 (zE b).bind fun x1=>(orC (zr b x1 14) (fun x2=>some x2) ((zf b x1 14).bind fun _=>(zl b).bind fun x4=>(JP b.n3).bind fun x5=>(orC (zr { b with n3:=[x5] } (!((xF x4.2.1 x5).getD false)) 5) (fun x6=>some x6) ((zf { b with n3:=[x5] } (!((xF x4.2.1 x5).getD false)) 5).bind fun _=>(zl { b with n3:=[x5] }).bind fun x8=>(JP [x5]).bind fun x9=>(orC (yF { b with n3:=[ug x8.2.1 true x9] }) (fun x10=>some x10) ((zG { b with n3:=[ug x8.2.1 true x9] }).bind fun _=>none))))))
def ze4(b:BB):Option (Int×Int) :=
 ((bif (List.isEmpty b.n3)then some ([([]:List (Bs8×Bool))]:List Mb8)else some b.n3)).bind fun x1=>(orC (V4 { b with n3:=x1 }) (fun x2=>some x2) ((A7 { b with n3:=x1 }).bind fun _=>none))
def Hd(b:BB):Nat→(Int×(List Bs8))→Option ((Int×Int)⊕(Int×(List Bs8)))
 |0,_=>none
 |K+1,q=>(zE { b with i:=q.1 }).bind fun x1=>(bif x1 then(orC (yF { b with i:=q.1 }) (fun x2=>some (Sum.inl x2)) ((zG { b with i:=q.1 }).bind fun x3=>(grd (List.length (q.2++([x3.1]:List Bs8))*16≤140737488355328)).bind fun _=>Hd b K (x3.2,(q.2++([x3.1]:List Bs8)))))else some (Sum.inr (q.1,q.2)))
def zbt(b:BB):Option (Int×Int) :=
 (orC (yF b) (fun x1=>some x1) ((zG b).bind fun x2=>(Hd { b with i:=0 } KK (x2.2,([x2.1]:List Bs8))).bind (xR some fun x3=>none)))
def j7(b:BB)(list:Bs8):Option (Int×Int) :=
 (zl b).bind fun x1=>(VX list x1.2.1).bind fun x2=>((zl b).bind fun x4=>(bif (decide (x4.1=0))then(orC (zr b (decide (x2≥0)) 14) (fun x5=>some (Sum.inl x5)) ((zf b (decide (x2≥0)) 14).bind fun _=>some (Sum.inr ())))else(orC (zr b false 14) (fun x7=>some (Sum.inl x7)) ((zf b false 14).bind fun _=>some (Sum.inr ()))))).bind (xR some fun _=>none)
def Kb(b:BB):Nat→(Int×Int)→Option ((Int×Int)⊕(Unit))
 |0,_=>none
 | K+1,q=>(zl { b with i:=q.1 }).bind fun x1=>(VX zj x1.2.1).bind fun x2=>((bif (decide (q.2>0))then(bif (decide (x2<0))then some true else(zl { b with i:=q.1 }).bind fun x4=>some (!(decide (x4.1=0))))else some false)).bind fun x3=>(bif x3 then none else((bif (decide (x2<0))then(orC (zr { b with i:=q.1 } true 5) (fun x6=>some (Sum.inl x6)) ((zf { b with i:=q.1 } true 5).bind fun _=>some (Sum.inr ())))else(grd (0≤x2)).bind fun _=>(orC (zr { b with i:=q.1 } (decide ((IntKind.i64.wrap ((BitVec.ofInt IntKind.i64.bits (Int.fdiv q.2 (2 ^ (min (Int.toNat x2) IntKind.i64.bits))) &&& BitVec.ofInt IntKind.i64.bits 1).toNat:Int))=0)) 5) (fun x9=>some (Sum.inl x9)) ((zf { b with i:=q.1 } (decide ((IntKind.i64.wrap ((BitVec.ofInt IntKind.i64.bits (Int.fdiv q.2 (2 ^ (min (Int.toNat x2) IntKind.i64.bits))) &&& BitVec.ofInt IntKind.i64.bits 1).toNat:Int))=0)) 5).bind fun _=>some (Sum.inr ()))))).bind (xR (fun q=>some (Sum.inl q)) fun _=>(orC (j7 { b with i:=q.1 } zj) (fun x11=>some (Sum.inl x11)) ((xk { b with i:=q.1 } zj).bind fun x12=>(grd (0≤x12.1)).bind fun _=>Kb b K (x12.2,(IntKind.i64.wrap ((BitVec.ofInt IntKind.i64.bits q.2 ||| BitVec.ofInt IntKind.i64.bits (w64 (1*2 ^ (min (Int.toNat x12.1) IntKind.i64.bits)))).toNat:Int)))))))
def zsc(b:BB):Option (Int×Int) :=
 (Kb { b with i:=0 } KK (b.i,0)).bind (xR some fun _=>none)
def zbu(b:BB):Option (Int×Int) :=
 (orC (ze4 b) (fun x1=>some x1) ((VW b).bind fun x2=>((zw { b with i:=x2.2.1,n3:=x2.2.2 } zIk).bind fun x4=>(bif x4.1 then(orC (zbt { b with i:=x4.2,n3:=x2.2.2 }) (fun x5=>some (Sum.inl x5)) ((Jo { b with i:=x4.2,n3:=x2.2.2 }).bind fun x6=>some (Sum.inr (x6.2,x6.1))))else some (Sum.inr (x4.2,[])))).bind (xR some fun x3=>((zw { b with i:=x3.1,n3:=x2.2.2 } QU).bind fun x8=>(bif x8.1 then(orC (zbt { b with i:=x8.2,n3:=x2.2.2 }) (fun x9=>some (Sum.inl x9)) ((Jo { b with i:=x8.2,n3:=x2.2.2 }).bind fun x10=>some (Sum.inr (x10.2,x10.1))))else some (Sum.inr (x8.2,[])))).bind (xR some fun x7=>((zw { b with i:=x7.1,n3:=x2.2.2 } zk2).bind fun x12=>(bif x12.1 then(orC (zy { b with i:=x12.2,n3:=x2.2.2 } 0 1073741824) (fun x13=>some (Sum.inl x13)) ((zi { b with i:=x12.2,n3:=x2.2.2 } 0 1073741824).bind fun x14=>some (Sum.inr (x14.2,x14.1))))else some (Sum.inr (x12.2,0)))).bind (xR some fun x11=>((zw { b with i:=x11.1,n3:=x2.2.2 } zbr).bind fun x16=>(bif x16.1 then(orC (zy { b with i:=x16.2,n3:=x2.2.2 } (w64 (x11.2+1)) 1073741824) (fun x17=>some (Sum.inl x17)) ((zi { b with i:=x16.2,n3:=x2.2.2 } (w64 (x11.2+1)) 1073741824).bind fun x18=>some (Sum.inr (x18.2,x18.1))))else some (Sum.inr (x16.2,0)))).bind (xR some fun x15=>((zw { b with i:=x15.1,n3:=x2.2.2 } zbo).bind fun x20=>(bif x20.1 then(orC (zy { b with i:=x20.2,n3:=x2.2.2 } 0 1073741824) (fun x21=>some (Sum.inl x21)) ((zi { b with i:=x20.2,n3:=x2.2.2 } 0 1073741824).bind fun x22=>some (Sum.inr (x22.2,x22.1))))else some (Sum.inr (x20.2,0)))).bind (xR some fun x19=>(zw { b with i:=x19.1,n3:=x2.2.2 } zk4).bind fun x23=>(orC (z8 { b with i:=x23.2,n3:=x2.2.2 } Jm) (fun x24=>some x24) ((zt { b with i:=x23.2,n3:=x2.2.2 } Jm).bind fun x25=>((zw { b with i:=x25,n3:=x2.2.2 } zbq).bind fun x27=>(bif x27.1 then(orC (zy { b with i:=x27.2,n3:=x2.2.2 } 0 3) (fun x28=>some (Sum.inl x28)) ((zi { b with i:=x27.2,n3:=x2.2.2 } 0 3).bind fun x29=>(orC (z8 { b with i:=x29.2,n3:=x2.2.2 } zez) (fun x30=>some (Sum.inl x30)) ((zt { b with i:=x29.2,n3:=x2.2.2 } zez).bind fun x31=>(orC (zy { b with i:=x31,n3:=x2.2.2 } 0 4096) (fun x32=>some (Sum.inl x32)) ((zi { b with i:=x31,n3:=x2.2.2 } 0 4096).bind fun x33=>(orC (z8 { b with i:=x33.2,n3:=x2.2.2 } VR) (fun x34=>some (Sum.inl x34)) ((zt { b with i:=x33.2,n3:=x2.2.2 } VR).bind fun x35=>(orC (zy { b with i:=x35,n3:=x2.2.2 } 0 4096) (fun x36=>some (Sum.inl x36)) ((zi { b with i:=x35,n3:=x2.2.2 } 0 4096).bind fun x37=>(orC (zy { b with i:=x37.2,n3:=x2.2.2 } 1 4096) (fun x38=>some (Sum.inl x38)) ((zi { b with i:=x37.2,n3:=x2.2.2 } 1 4096).bind fun x39=>(orC (z8 { b with i:=x39.2,n3:=x2.2.2 } wC) (fun x40=>some (Sum.inl x40)) ((zt { b with i:=x39.2,n3:=x2.2.2 } wC).bind fun x41=>some (Sum.inr (x41,1,0,0,([]:Bs8),([]:Bs8),[],x29.1,x33.1,x37.1,x39.1,0,0,0))))))))))))))))else(zw { b with i:=x27.2,n3:=x2.2.2 } zk3).bind fun x42=>(bif x42.1 then(orC (zsc { b with i:=x42.2,n3:=x2.2.2 }) (fun x43=>some (Sum.inl x43)) ((zih { b with i:=x42.2,n3:=x2.2.2 }).bind fun x44=>(orC (z8 { b with i:=x44.2,n3:=x2.2.2 } wC) (fun x45=>some (Sum.inl x45)) ((zt { b with i:=x44.2,n3:=x2.2.2 } wC).bind fun x46=>some (Sum.inr (x46,2,0,0,([]:Bs8),([]:Bs8),[],0,0,0,0,x44.1,0,0))))))else(zw { b with i:=x42.2,n3:=x2.2.2 } zbn).bind fun x47=>(bif x47.1 then(orC (j7 { b with i:=x47.2,n3:=x2.2.2 } zj) (fun x48=>some (Sum.inl x48)) ((xk { b with i:=x47.2,n3:=x2.2.2 } zj).bind fun x49=>(orC (j7 { b with i:=x49.2,n3:=x2.2.2 } zj) (fun x50=>some (Sum.inl x50)) ((xk { b with i:=x49.2,n3:=x2.2.2 } zj).bind fun x51=>(orC (zy { b with i:=x51.2,n3:=x2.2.2 } 0 1048576) (fun x52=>some (Sum.inl x52)) ((zi { b with i:=x51.2,n3:=x2.2.2 } 0 1048576).bind fun x53=>(orC (z8 { b with i:=x53.2,n3:=x2.2.2 } wC) (fun x54=>some (Sum.inl x54)) ((zt { b with i:=x53.2,n3:=x2.2.2 } wC).bind fun x55=>some (Sum.inr (x55,3,0,0,([]:Bs8),([]:Bs8),[],0,0,0,0,x49.1,x51.1,x53.1))))))))))else(orC (xl KK { b with i:=x47.2,n3:=x2.2.2 } 0) (fun x56=>some (Sum.inl x56)) ((zW KK { b with i:=x47.2,n3:=x2.2.2 } 0).bind fun x57=>(wj KK (Expr.mk x57.2.1 x57.2.2.1 x57.2.2.2.1 x57.2.2.2.2.1 x57.2.2.2.2.2)).bind fun x58=>(orC (Hc { b with i:=x57.1,n3:=x2.2.2 } (decide (x58≤12)) 6) (fun x59=>some (Sum.inl x59)) ((vK { b with i:=x57.1,n3:=x2.2.2 } (decide (x58≤12)) 6).bind fun x60=>some (Sum.inr (x60,0,x57.2.1,x57.2.2.1,x57.2.2.2.1,x57.2.2.2.2.1,x57.2.2.2.2.2,0,0,0,0,0,0,0)))))))))).bind (xR some fun x26=>(grd (List.length (b.R++([(yz.mk x2.1 x3.2 x7.2 x11.2 x15.2 x19.2 x23.1 x26.2.1 (Expr.mk x26.2.2.1 x26.2.2.2.1 x26.2.2.2.2.1 x26.2.2.2.2.2.1 x26.2.2.2.2.2.2.1) (zP.mk x26.2.2.2.2.2.2.2.1 x26.2.2.2.2.2.2.2.2.1 x26.2.2.2.2.2.2.2.2.2.1 x26.2.2.2.2.2.2.2.2.2.2.1) x26.2.2.2.2.2.2.2.2.2.2.2.1 x26.2.2.2.2.2.2.2.2.2.2.2.2.1 x26.2.2.2.2.2.2.2.2.2.2.2.2.2)]:List yz))*232≤140737488355328)).bind fun _=>none))))))))))
def V5(b:BB):Option (Int×Int) :=
 (zE b).bind fun x1=>(orC (zr b x1 14) (fun x2=>some x2) ((zf b x1 14).bind fun _=>(zl b).bind fun x4=>(JP b.n4).bind fun x5=>(orC (zr { b with n4:=[x5] } (!((xF x4.2.1 x5).getD false)) 5) (fun x6=>some x6) ((zf { b with n4:=[x5] } (!((xF x4.2.1 x5).getD false)) 5).bind fun _=>(zl { b with n4:=[x5] }).bind fun x8=>(JP [x5]).bind fun x9=>(orC (yF { b with n4:=[ug x8.2.1 true x9] }) (fun x10=>some x10) ((zG { b with n4:=[ug x8.2.1 true x9] }).bind fun _=>none))))))
def V6(b:BB):Option (Int×Int) :=
 ((bif (List.isEmpty b.n4)then some ([([]:List (Bs8×Bool))]:List Mb8)else some b.n4)).bind fun x1=>(orC (V5 { b with n4:=x1 }) (fun x2=>some x2) ((A9 { b with n4:=x1 }).bind fun _=>none))
def V7(b:BB):Option (Int×Int) :=
 (zE b).bind fun x1=>(orC (zr b x1 14) (fun x2=>some x2) ((zf b x1 14).bind fun _=>(zl b).bind fun x4=>(JP b.n5).bind fun x5=>(orC (zr { b with n5:=[x5] } (!((xF x4.2.1 x5).getD false)) 5) (fun x6=>some x6) ((zf { b with n5:=[x5] } (!((xF x4.2.1 x5).getD false)) 5).bind fun _=>(zl { b with n5:=[x5] }).bind fun x8=>(JP [x5]).bind fun x9=>(orC (yF { b with n5:=[ug x8.2.1 true x9] }) (fun x10=>some x10) ((zG { b with n5:=[ug x8.2.1 true x9] }).bind fun _=>none))))))
def ze5(b:BB):Option (Int×Int) :=
 ((bif (List.isEmpty b.n5)then some ([([]:List (Bs8×Bool))]:List Mb8)else some b.n5)).bind fun x1=>(orC (V7 { b with n5:=x1 }) (fun x2=>some x2) ((Ha { b with n5:=x1 }).bind fun _=>none))
def Jr(b:BB):Option (Int×Int) :=
 (orC (zy b 0 1048576) (fun x1=>some x1) ((zi b 0 1048576).bind fun x2=>(orC (zy { b with i:=x2.2 } 0 1048576) (fun x3=>some x3) ((zi { b with i:=x2.2 } 0 1048576).bind fun x4=>(orC (zy { b with i:=x4.2 } 0 4096) (fun x5=>some x5) ((zi { b with i:=x4.2 } 0 4096).bind fun _=>none))))))
def He(b:BB)(c15:(List Mb8))(c16:Bs8)(c17:Int)(c18:Int)(c19:Int)(c20:Int):Nat→(Int×(List zn))→Option ((Int×Int)⊕(Int×(List zn)))
 |0,_=>none
 |K+1,q=>(ye { b with i:=q.1,n5:=c15 }).bind fun x1=>(bif x1 then(orC (zr { b with i:=q.1,n5:=c15 } (decide ((((List.length q.2):Nat):Int)<20)) 6) (fun x2=>some (Sum.inl x2)) ((zf { b with i:=q.1,n5:=c15 } (decide ((((List.length q.2):Nat):Int)<20)) 6).bind fun _=>(orC (Jr { b with i:=q.1,n5:=c15 }) (fun x4=>some (Sum.inl x4)) ((kp { b with i:=q.1,n5:=c15 }).bind fun x5=>(grd (List.length (q.2++([(zn.mk x5.2.1 x5.2.2.1 x5.2.2.2)]:List zn))*24≤140737488355328)).bind fun _=>He b c15 c16 c17 c18 c19 c20 K (x5.1,(q.2++([(zn.mk x5.2.1 x5.2.2.1 x5.2.2.2)]:List zn)))))))else some (Sum.inr (q.1,q.2)))
def zbv(b:BB):Option (Int×Int) :=
 (orC (ze5 b) (fun x1=>some x1) ((VY b).bind fun x2=>(orC (Jr { b with i:=x2.2.1,n5:=x2.2.2 }) (fun x3=>some x3) ((kp { b with i:=x2.2.1,n5:=x2.2.2 }).bind fun x4=>(orC (z8 { b with i:=x4.1,n5:=x2.2.2 } VP) (fun x5=>some x5) ((zt { b with i:=x4.1,n5:=x2.2.2 } VP).bind fun x6=>(orC (zy { b with i:=x6,n5:=x2.2.2 } 0 20) (fun x7=>some x7) ((zi { b with i:=x6,n5:=x2.2.2 } 0 20).bind fun x8=>(orC (z8 { b with i:=x8.2,n5:=x2.2.2 } Jm) (fun x9=>some x9) ((zt { b with i:=x8.2,n5:=x2.2.2 } Jm).bind fun x10=>(orC (Jr { b with i:=x10,n5:=x2.2.2 }) (fun x11=>some x11) ((kp { b with i:=x10,n5:=x2.2.2 }).bind fun x12=>(grd (List.length (([]:List zn)++([(zn.mk x12.2.1 x12.2.2.1 x12.2.2.2)]:List zn))*24≤140737488355328)).bind fun _=>(He { b with i:=0,n5:=[] } x2.2.2 x2.1 x4.2.1 x4.2.2.1 x4.2.2.2 x8.1 KK (x12.1,(([]:List zn)++([(zn.mk x12.2.1 x12.2.2.1 x12.2.2.2)]:List zn)))).bind (xR some fun x14=>(orC (z8 { b with i:=x14.1,n5:=x2.2.2 } wC) (fun x15=>some x15) ((zt { b with i:=x14.1,n5:=x2.2.2 } wC).bind fun _=>(grd (List.length (b.V++([(View.mk x2.1 (zn.mk x4.2.1 x4.2.2.1 x4.2.2.2) x8.1 x14.2)]:List View))*72≤140737488355328)).bind fun _=>none)))))))))))))))
def Kc(b:BB):Nat→(Int×(List zn)×Bool)→Option ((Int×Int)⊕(Int×(List zn)))
 |0,_=>none
 |K+1,q=>(bif q.2.2 then((wL { b with i:=q.1,S:=q.2.1 } xA).bind fun x2=>(bif x2 then(orC (zr { b with i:=q.1,S:=q.2.1 } true 14) (fun x3=>some (Sum.inl x3)) ((zf { b with i:=q.1,S:=q.2.1 } true 14).bind fun _=>some (Sum.inr ())))else(ye { b with i:=q.1,S:=q.2.1 }).bind fun x5=>(orC (zr { b with i:=q.1,S:=q.2.1 } x5 14) (fun x6=>some (Sum.inl x6)) ((zf { b with i:=q.1,S:=q.2.1 } x5 14).bind fun _=>some (Sum.inr ()))))).bind (xR (fun q=>some (Sum.inl q)) fun _=>(orC (zr { b with i:=q.1,S:=q.2.1 } (decide ((((List.length q.2.1):Nat):Int)<24)) 6) (fun x8=>some (Sum.inl x8)) ((zf { b with i:=q.1,S:=q.2.1 } (decide ((((List.length q.2.1):Nat):Int)<24)) 6).bind fun _=>(orC (qO { b with i:=q.1,S:=q.2.1 } 4096) (fun x10=>some (Sum.inl x10)) ((wk { b with i:=q.1,S:=q.2.1 } 4096).bind fun x11=>(orC (qO { b with i:=x11.2,S:=q.2.1 } 4096) (fun x12=>some (Sum.inl x12)) ((wk { b with i:=x11.2,S:=q.2.1 } 4096).bind fun x13=>(orC (zy { b with i:=x13.2,S:=q.2.1 } 1 4096) (fun x14=>some (Sum.inl x14)) ((zi { b with i:=x13.2,S:=q.2.1 } 1 4096).bind fun x15=>(grd (List.length (q.2.1++([(zn.mk x11.1 x13.1 x15.1)]:List zn))*24≤140737488355328)).bind fun _=>(zw { b with i:=x15.2,S:=(q.2.1++([(zn.mk x11.1 x13.1 x15.1)]:List zn)) } zbs).bind fun x17=>Kc b K (x17.2,(q.2.1++([(zn.mk x11.1 x13.1 x15.1)]:List zn)),x17.1))))))))))else some (Sum.inr (q.1,q.2.1)))
def zii(b:BB):Option (Int×Int) :=
 (Kc { b with i:=0,S:=[] } KK (b.i,b.S,true)).bind (xR some fun x1=>(orC (z8 { b with i:=x1.1,S:=x1.2 } wC) (fun x2=>some x2) ((zt { b with i:=x1.1,S:=x1.2 } wC).bind fun _=>none)))
def za(b:BB)(q:Int×Int×Bool×(List Def)×(List Table)×(List xE)×(List yz)×(List Cap)×(List View)×(List zn)×(List Mb8)×(List Mb8)×(List Mb8)×(List Mb8)×(List Mb8)×(List Mb8)):BB:={ b with i:=q.1,H:=q.2.1,h:=q.2.2.1,D:=q.2.2.2.1,T:=q.2.2.2.2.1,Z:=q.2.2.2.2.2.1,R:=q.2.2.2.2.2.2.1,C:=q.2.2.2.2.2.2.2.1,V:=q.2.2.2.2.2.2.2.2.1,S:=q.2.2.2.2.2.2.2.2.2.1,n0:=q.2.2.2.2.2.2.2.2.2.2.1,n1:=q.2.2.2.2.2.2.2.2.2.2.2.1,n2:=q.2.2.2.2.2.2.2.2.2.2.2.2.1,n3:=q.2.2.2.2.2.2.2.2.2.2.2.2.2.1,n4:=q.2.2.2.2.2.2.2.2.2.2.2.2.2.2.1,n5:=q.2.2.2.2.2.2.2.2.2.2.2.2.2.2.2 }
def yc(b:BB):Nat→(Int×Int×Bool×(List Def)×(List Table)×(List xE)×(List yz)×(List Cap)×(List View)×(List zn)×(List Mb8)×(List Mb8)×(List Mb8)×(List Mb8)×(List Mb8)×(List Mb8))→Option ((Int×Int)⊕(Int×Int×Bool×(List Def)×(List Table)×(List xE)×(List yz)×(List Cap)×(List View)×(List zn)×(List Mb8)×(List Mb8)×(List Mb8)×(List Mb8)×(List Mb8)×(List Mb8)))
 |0,_=>none
 |K+1,q=>(zl { (za b q)with l:=b.l }).bind fun x1=>(bif (!(decide (x1.1=3)))then(zl { (za b q)with l:=b.l }).bind fun x2=>(bif (decide (x2.2.1=QT))then(orC (vl { (za b q)with l:=b.l } (((List.length ((za b q).D)):Nat):Int) 60) (fun x3=>some (Sum.inl x3)) ((yy { (za b q)with l:=b.l } (((List.length ((za b q).D)):Nat):Int) 60).bind fun x4=>(orC (Za { (za b q)with l:=b.l,i:=x4 }) (fun x5=>some (Sum.inl x5)) ((J8 { (za b q)with l:=b.l,i:=x4 }).bind fun x6=>yc b K (x6.1,(za b q).H,(za b q).h,x6.2.1,(za b q).T,(za b q).Z,(za b q).R,(za b q).C,(za b q).V,(za b q).S,x6.2.2,(za b q).n1,(za b q).n2,(za b q).n3,(za b q).n4,(za b q).n5)))))else(bif (decide (x2.2.1=xb))then(orC (vl { (za b q)with l:=b.l } (((List.length ((za b q).T)):Nat):Int) 60) (fun x7=>some (Sum.inl x7)) ((yy { (za b q)with l:=b.l } (((List.length ((za b q).T)):Nat):Int) 60).bind fun x8=>(orC (ze3 { (za b q)with l:=b.l,i:=x8 }) (fun x9=>some (Sum.inl x9)) ((VU { (za b q)with l:=b.l,i:=x8 }).bind fun x10=>yc b K (x10.1,(za b q).H,(za b q).h,(za b q).D,x10.2.1,(za b q).Z,(za b q).R,(za b q).C,(za b q).V,(za b q).S,(za b q).n0,x10.2.2,(za b q).n2,(za b q).n3,(za b q).n4,(za b q).n5)))))else(bif (decide (x2.2.1=xU))then(bif (decide (x2.2.1=xU))then(wL { (za b q)with l:=b.l } ji).bind fun x11=>(orC (vl { (za b q)with l:=b.l } (((List.length ((za b q).Z)):Nat):Int) 60) (fun x12=>some (Sum.inl x12)) ((yy { (za b q)with l:=b.l } (((List.length ((za b q).Z)):Nat):Int) 60).bind fun x13=>(orC (V3 { (za b q)with l:=b.l,i:=x13 }) (fun x14=>some (Sum.inl x14)) ((oO { (za b q)with l:=b.l,i:=x13 }).bind fun x15=>(orC (qP { (za b q)with l:=b.l,i:=x15.2.1,n2:=x15.2.2 }) (fun x16=>some (Sum.inl x16)) ((wm { (za b q)with l:=b.l,i:=x15.2.1,n2:=x15.2.2 }).bind fun x17=>(vk x17.1).bind fun x18=>(orC (Hc { (za b q)with l:=b.l,i:=x17.2,n2:=x15.2.2 } x18 10) (fun x19=>some (Sum.inl x19)) ((vK { (za b q)with l:=b.l,i:=x17.2,n2:=x15.2.2 } x18 10).bind fun x20=>(grd (List.length ((za b q).Z++([(xE.mk x15.1 x11 x17.1)]:List xE))*48≤140737488355328)).bind fun _=>yc b K (x20,(za b q).H,(za b q).h,(za b q).D,(za b q).T,((za b q).Z++([(xE.mk x15.1 x11 x17.1)]:List xE)),(za b q).R,(za b q).C,(za b q).V,(za b q).S,(za b q).n0,(za b q).n1,x15.2.2,(za b q).n3,(za b q).n4,(za b q).n5)))))))))else(bif (decide (x2.2.1=VQ))then(orC (vl { (za b q)with l:=b.l } (((List.length ((za b q).R)):Nat):Int) 200) (fun x22=>some (Sum.inl x22)) ((yy { (za b q)with l:=b.l } (((List.length ((za b q).R)):Nat):Int) 200).bind fun x23=>(orC (zbu { (za b q)with l:=b.l,i:=x23 }) (fun x24=>some (Sum.inl x24)) ((Jp { (za b q)with l:=b.l,i:=x23 }).bind fun x25=>yc b K (x25.1,(za b q).H,(za b q).h,(za b q).D,(za b q).T,(za b q).Z,x25.2.1,(za b q).C,(za b q).V,(za b q).S,(za b q).n0,(za b q).n1,(za b q).n2,x25.2.2,(za b q).n4,(za b q).n5)))))else(bif (decide (x2.2.1=zn3))then(orC (vl { (za b q)with l:=b.l } (((List.length ((za b q).C)):Nat):Int) 30) (fun x26=>some (Sum.inl x26)) ((yy { (za b q)with l:=b.l } (((List.length ((za b q).C)):Nat):Int) 30).bind fun x27=>(orC (V6 { (za b q)with l:=b.l,i:=x27 }) (fun x28=>some (Sum.inl x28)) ((oS { (za b q)with l:=b.l,i:=x27 }).bind fun x29=>(orC (j7 { (za b q)with l:=b.l,i:=x29.2.1,n4:=x29.2.2 } zU) (fun x30=>some (Sum.inl x30)) ((xk { (za b q)with l:=b.l,i:=x29.2.1,n4:=x29.2.2 } zU).bind fun x31=>(orC (zy { (za b q)with l:=b.l,i:=x31.2,n4:=x29.2.2 } 0 1099511627776) (fun x32=>some (Sum.inl x32)) ((zi { (za b q)with l:=b.l,i:=x31.2,n4:=x29.2.2 } 0 1099511627776).bind fun x33=>(orC (qP { (za b q)with l:=b.l,i:=x33.2,n4:=x29.2.2 }) (fun x34=>some (Sum.inl x34)) ((wm { (za b q)with l:=b.l,i:=x33.2,n4:=x29.2.2 }).bind fun x35=>(vk x35.1).bind fun x36=>(orC (Hc { (za b q)with l:=b.l,i:=x35.2,n4:=x29.2.2 } x36 10) (fun x37=>some (Sum.inl x37)) ((vK { (za b q)with l:=b.l,i:=x35.2,n4:=x29.2.2 } x36 10).bind fun x38=>(grd (List.length ((za b q).C++([(Cap.mk x29.1 x31.1 x33.1 x35.1)]:List Cap))*56≤140737488355328)).bind fun _=>yc b K (x38,(za b q).H,(za b q).h,(za b q).D,(za b q).T,(za b q).Z,(za b q).R,((za b q).C++([(Cap.mk x29.1 x31.1 x33.1 x35.1)]:List Cap)),(za b q).V,(za b q).S,(za b q).n0,(za b q).n1,(za b q).n2,(za b q).n3,x29.2.2,(za b q).n5)))))))))))))else(bif (decide (x2.2.1=Y5))then(orC (vl { (za b q)with l:=b.l } (((List.length ((za b q).V)):Nat):Int) 60) (fun x40=>some (Sum.inl x40)) ((yy { (za b q)with l:=b.l } (((List.length ((za b q).V)):Nat):Int) 60).bind fun x41=>(orC (zbv { (za b q)with l:=b.l,i:=x41 }) (fun x42=>some (Sum.inl x42)) ((Jq { (za b q)with l:=b.l,i:=x41 }).bind fun x43=>yc b K (x43.1,(za b q).H,(za b q).h,(za b q).D,(za b q).T,(za b q).Z,(za b q).R,(za b q).C,x43.2.1,(za b q).S,(za b q).n0,(za b q).n1,(za b q).n2,(za b q).n3,(za b q).n4,x43.2.2)))))else(bif (decide (x2.2.1=zn4))then(orC (zr { (za b q)with l:=b.l } (decide (((List.length ((za b q).S)):Nat)=0)) 5) (fun x44=>some (Sum.inl x44)) ((zf { (za b q)with l:=b.l } (decide (((List.length ((za b q).S)):Nat)=0)) 5).bind fun _=>(orC (zii { (za b q)with l:=b.l,i:=(w64 ((za b q).i+1)) }) (fun x46=>some (Sum.inl x46)) ((VZ { (za b q)with l:=b.l,i:=(w64 ((za b q).i+1)) }).bind fun x47=>yc b K (x47.1,(za b q).H,(za b q).h,(za b q).D,(za b q).T,(za b q).Z,(za b q).R,(za b q).C,(za b q).V,x47.2,(za b q).n0,(za b q).n1,(za b q).n2,(za b q).n3,(za b q).n4,(za b q).n5)))))else(bif (decide (x2.2.1=J7))then(orC (zr { (za b q)with l:=b.l } (!(za b q).h) 5) (fun x48=>some (Sum.inl x48)) ((zf { (za b q)with l:=b.l } (!(za b q).h) 5).bind fun _=>(orC (zy { (za b q)with l:=b.l,i:=(w64 ((za b q).i+1)) } 0 24) (fun x50=>some (Sum.inl x50)) ((zi { (za b q)with l:=b.l,i:=(w64 ((za b q).i+1)) } 0 24).bind fun x51=>(orC (z8 { (za b q)with l:=b.l,i:=x51.2,H:=x51.1,h:=true } wC) (fun x52=>some (Sum.inl x52)) ((zt { (za b q)with l:=b.l,i:=x51.2,H:=x51.1,h:=true } wC).bind fun x53=>yc b K (x53,x51.1,true,(za b q).D,(za b q).T,(za b q).Z,(za b q).R,(za b q).C,(za b q).V,(za b q).S,(za b q).n0,(za b q).n1,(za b q).n2,(za b q).n3,(za b q).n4,(za b q).n5)))))))else(orC (As { (za b q)with l:=b.l } 14) (fun x54=>some (Sum.inl x54)) none)))))))else(bif (decide (x2.2.1=ji))then(wL { (za b q)with l:=b.l } ji).bind fun x55=>(orC (vl { (za b q)with l:=b.l } (((List.length ((za b q).Z)):Nat):Int) 60) (fun x56=>some (Sum.inl x56)) ((yy { (za b q)with l:=b.l } (((List.length ((za b q).Z)):Nat):Int) 60).bind fun x57=>(orC (V3 { (za b q)with l:=b.l,i:=x57 }) (fun x58=>some (Sum.inl x58)) ((oO { (za b q)with l:=b.l,i:=x57 }).bind fun x59=>(orC (qP { (za b q)with l:=b.l,i:=x59.2.1,n2:=x59.2.2 }) (fun x60=>some (Sum.inl x60)) ((wm { (za b q)with l:=b.l,i:=x59.2.1,n2:=x59.2.2 }).bind fun x61=>(vk x61.1).bind fun x62=>(orC (Hc { (za b q)with l:=b.l,i:=x61.2,n2:=x59.2.2 } x62 10) (fun x63=>some (Sum.inl x63)) ((vK { (za b q)with l:=b.l,i:=x61.2,n2:=x59.2.2 } x62 10).bind fun x64=>(grd (List.length ((za b q).Z++([(xE.mk x59.1 x55 x61.1)]:List xE))*48≤140737488355328)).bind fun _=>yc b K (x64,(za b q).H,(za b q).h,(za b q).D,(za b q).T,((za b q).Z++([(xE.mk x59.1 x55 x61.1)]:List xE)),(za b q).R,(za b q).C,(za b q).V,(za b q).S,(za b q).n0,(za b q).n1,x59.2.2,(za b q).n3,(za b q).n4,(za b q).n5)))))))))else(bif (decide (x2.2.1=VQ))then(orC (vl { (za b q)with l:=b.l } (((List.length ((za b q).R)):Nat):Int) 200) (fun x66=>some (Sum.inl x66)) ((yy { (za b q)with l:=b.l } (((List.length ((za b q).R)):Nat):Int) 200).bind fun x67=>(orC (zbu { (za b q)with l:=b.l,i:=x67 }) (fun x68=>some (Sum.inl x68)) ((Jp { (za b q)with l:=b.l,i:=x67 }).bind fun x69=>yc b K (x69.1,(za b q).H,(za b q).h,(za b q).D,(za b q).T,(za b q).Z,x69.2.1,(za b q).C,(za b q).V,(za b q).S,(za b q).n0,(za b q).n1,(za b q).n2,x69.2.2,(za b q).n4,(za b q).n5)))))else(bif (decide (x2.2.1=zn3))then(orC (vl { (za b q)with l:=b.l } (((List.length ((za b q).C)):Nat):Int) 30) (fun x70=>some (Sum.inl x70)) ((yy { (za b q)with l:=b.l } (((List.length ((za b q).C)):Nat):Int) 30).bind fun x71=>(orC (V6 { (za b q)with l:=b.l,i:=x71 }) (fun x72=>some (Sum.inl x72)) ((oS { (za b q)with l:=b.l,i:=x71 }).bind fun x73=>(orC (j7 { (za b q)with l:=b.l,i:=x73.2.1,n4:=x73.2.2 } zU) (fun x74=>some (Sum.inl x74)) ((xk { (za b q)with l:=b.l,i:=x73.2.1,n4:=x73.2.2 } zU).bind fun x75=>(orC (zy { (za b q)with l:=b.l,i:=x75.2,n4:=x73.2.2 } 0 1099511627776) (fun x76=>some (Sum.inl x76)) ((zi { (za b q)with l:=b.l,i:=x75.2,n4:=x73.2.2 } 0 1099511627776).bind fun x77=>(orC (qP { (za b q)with l:=b.l,i:=x77.2,n4:=x73.2.2 }) (fun x78=>some (Sum.inl x78)) ((wm { (za b q)with l:=b.l,i:=x77.2,n4:=x73.2.2 }).bind fun x79=>(vk x79.1).bind fun x80=>(orC (Hc { (za b q)with l:=b.l,i:=x79.2,n4:=x73.2.2 } x80 10) (fun x81=>some (Sum.inl x81)) ((vK { (za b q)with l:=b.l,i:=x79.2,n4:=x73.2.2 } x80 10).bind fun x82=>(grd (List.length ((za b q).C++([(Cap.mk x73.1 x75.1 x77.1 x79.1)]:List Cap))*56≤140737488355328)).bind fun _=>yc b K (x82,(za b q).H,(za b q).h,(za b q).D,(za b q).T,(za b q).Z,(za b q).R,((za b q).C++([(Cap.mk x73.1 x75.1 x77.1 x79.1)]:List Cap)),(za b q).V,(za b q).S,(za b q).n0,(za b q).n1,(za b q).n2,(za b q).n3,x73.2.2,(za b q).n5)))))))))))))else(bif (decide (x2.2.1=Y5))then(orC (vl { (za b q)with l:=b.l } (((List.length ((za b q).V)):Nat):Int) 60) (fun x84=>some (Sum.inl x84)) ((yy { (za b q)with l:=b.l } (((List.length ((za b q).V)):Nat):Int) 60).bind fun x85=>(orC (zbv { (za b q)with l:=b.l,i:=x85 }) (fun x86=>some (Sum.inl x86)) ((Jq { (za b q)with l:=b.l,i:=x85 }).bind fun x87=>yc b K (x87.1,(za b q).H,(za b q).h,(za b q).D,(za b q).T,(za b q).Z,(za b q).R,(za b q).C,x87.2.1,(za b q).S,(za b q).n0,(za b q).n1,(za b q).n2,(za b q).n3,(za b q).n4,x87.2.2)))))else(bif (decide (x2.2.1=zn4))then(orC (zr { (za b q)with l:=b.l } (decide (((List.length ((za b q).S)):Nat)=0)) 5) (fun x88=>some (Sum.inl x88)) ((zf { (za b q)with l:=b.l } (decide (((List.length ((za b q).S)):Nat)=0)) 5).bind fun _=>(orC (zii { (za b q)with l:=b.l,i:=(w64 ((za b q).i+1)) }) (fun x90=>some (Sum.inl x90)) ((VZ { (za b q)with l:=b.l,i:=(w64 ((za b q).i+1)) }).bind fun x91=>yc b K (x91.1,(za b q).H,(za b q).h,(za b q).D,(za b q).T,(za b q).Z,(za b q).R,(za b q).C,(za b q).V,x91.2,(za b q).n0,(za b q).n1,(za b q).n2,(za b q).n3,(za b q).n4,(za b q).n5)))))else(bif (decide (x2.2.1=J7))then(orC (zr { (za b q)with l:=b.l } (!(za b q).h) 5) (fun x92=>some (Sum.inl x92)) ((zf { (za b q)with l:=b.l } (!(za b q).h) 5).bind fun _=>(orC (zy { (za b q)with l:=b.l,i:=(w64 ((za b q).i+1)) } 0 24) (fun x94=>some (Sum.inl x94)) ((zi { (za b q)with l:=b.l,i:=(w64 ((za b q).i+1)) } 0 24).bind fun x95=>(orC (z8 { (za b q)with l:=b.l,i:=x95.2,H:=x95.1,h:=true } wC) (fun x96=>some (Sum.inl x96)) ((zt { (za b q)with l:=b.l,i:=x95.2,H:=x95.1,h:=true } wC).bind fun x97=>yc b K (x97,x95.1,true,(za b q).D,(za b q).T,(za b q).Z,(za b q).R,(za b q).C,(za b q).V,(za b q).S,(za b q).n0,(za b q).n1,(za b q).n2,(za b q).n3,(za b q).n4,(za b q).n5)))))))else(orC (As { (za b q)with l:=b.l } 14) (fun x98=>some (Sum.inl x98)) none))))))))))else some (Sum.inr ((za b q).i,(za b q).H,(za b q).h,(za b q).D,(za b q).T,(za b q).Z,(za b q).R,(za b q).C,(za b q).V,(za b q).S,(za b q).n0,(za b q).n1,(za b q).n2,(za b q).n3,(za b q).n4,(za b q).n5)))
def zk7(b:BB):Option (Int×Int) :=
 (yc { b with i:=0,D:=[],T:=[],Z:=[],R:=[],C:=[],V:=[],S:=[],H:=0,n0:=[],n1:=[],n2:=[],n3:=[],n4:=[],n5:=[],h:=false } KK (b.i,b.H,b.h,b.D,b.T,b.Z,b.R,b.C,b.V,b.S,b.n0,b.n1,b.n2,b.n3,b.n4,b.n5)).bind (xR some fun x1=>none)
def K8(b:BB):Option (Int×Int×Int×Int×Bool×(List Def)×(List Table)×(List xE)×(List yz)×(List Cap)×(List View)×(List zn)×(List Mb8)×(List Mb8)×(List Mb8)×(List Mb8)×(List Mb8)×(List Mb8)):=(zk6 b).bind fun q=>some ((0:Int),(0:Int),q)
def Js(b:BB):Option (Int×Int):=zk7 b
def Hf(s:Bs8):Option (Int×Int×(List zn)×Int×(List Def)×(List Table)×(List xE)×(List yz)×(List Cap)×(List View)) :=
 (oL s).bind fun x1=>(bif (!(decide (x1.2.2=0)))then some (x1.2.1,x1.2.2,[],0,([]:List Def),([]:List Table),([]:List xE),([]:List yz),([]:List Cap),([]:List View))else(orC (K8 (BB.mk x1.1 0 ([]:List Def) ([]:List Table) ([]:List xE) ([]:List yz) ([]:List Cap) ([]:List View) ([]:List zn) 0 ([]:List Mb8) ([]:List Mb8) ([]:List Mb8) ([]:List Mb8) ([]:List Mb8) ([]:List Mb8) false)) (fun x3=>(bif (!(decide (x3.2.1=0)))then some (x3.1,x3.2.1,[],0,([]:List Def),([]:List Table),([]:List xE),([]:List yz),([]:List Cap),([]:List View))else some (0,0,x3.2.2.2.2.2.2.2.2.2.2.2.1,x3.2.2.2.1,x3.2.2.2.2.2.1,x3.2.2.2.2.2.2.1,x3.2.2.2.2.2.2.2.1,x3.2.2.2.2.2.2.2.2.1,x3.2.2.2.2.2.2.2.2.2.1,x3.2.2.2.2.2.2.2.2.2.2.1))) (orC (Js (BB.mk x1.1 0 ([]:List Def) ([]:List Table) ([]:List xE) ([]:List yz) ([]:List Cap) ([]:List View) ([]:List zn) 0 ([]:List Mb8) ([]:List Mb8) ([]:List Mb8) ([]:List Mb8) ([]:List Mb8) ([]:List Mb8) false)) (fun x2=>(bif (!(decide (x2.2=0)))then some (x2.1,x2.2,[],0,([]:List Def),([]:List Table),([]:List xE),([]:List yz),([]:List Cap),([]:List View))else none)) none)))
def ze6(x_:Def):Option (Bs8) :=
 some x_.Name
def Kd(c0:Bool)(c1:List Bs8)(c2:Int):Nat→(Int×Mb8)→Option ((Bool)⊕(Unit))
 |0,_=>none
 |K+1,q=>(bif (decide (q.1<c2))then(idx c1 q.1).bind fun x1=>((AL x1).bind fun x3=>(bif (!x3)then some true else(bif c0 then some ((xF x1 q.2).getD false)else some false))).bind fun x2=>(bif x2 then some (Sum.inl false)else Kd c0 c1 c2 K ((w64 (q.1+1)),(ug x1 true q.2)))else some (Sum.inr ()))
def kZ(l:List Bs8)(unique:Bool):Option (Bool) :=
 (Kd unique l (l.length:Int) KK (0,([]:List (Bs8×Bool)))).bind (xR some fun _=>some true)
def Hg(c0:List Def)(c1:Int)(c2:Int):Nat→(Int×(List Bs8))→Option ((List Bs8))
 |0,_=>none
 |K+1,q=>(bif (decide (q.1<c2))then(idx c0 q.1).bind fun x1=>(ze6 (Def.mk x1.Name (Expr.mk x1.Body.Op x1.Body.N x1.Body.S x1.Body.Key x1.Body.Args))).bind fun x2=>(grd (List.length (q.2++([x2]:List Bs8))*16≤140737488355328)).bind fun _=>Hg c0 c1 c2 K ((w64 (q.1+1)),(q.2++([x2]:List Bs8)))else some q.2)
def zk8(l:List Def)(most:Int):Option (Bool) :=
 (Hg l most (l.length:Int) KK (0,[])).bind fun x1=>(bif (decide ((l.length:Int)≤most))then(kZ x1 true).bind fun x2=>some x2 else some false)
def ze7(x_:Table):Option (Bs8) :=
 some x_.Name
def uP(c0:List Table)(c1:Int)(c2:Int):Nat→(Int×(List Bs8))→Option ((List Bs8))
 |0,_=>none
 |K+1,q=>(bif (decide (q.1<c2))then(idx c0 q.1).bind fun x1=>(ze7 x1).bind fun x2=>(grd (List.length (q.2++([x2]:List Bs8))*16≤140737488355328)).bind fun _=>uP c0 c1 c2 K ((w64 (q.1+1)),(q.2++([x2]:List Bs8)))else some q.2)
def Zb(l:List Table)(most:Int):Option (Bool) :=
 (uP l most (l.length:Int) KK (0,[])).bind fun x1=>(bif (decide ((l.length:Int)≤most))then(kZ x1 true).bind fun x2=>some x2 else some false)
def ze8(x_:xE):Option (Bs8) :=
 some x_.Name
def uQ(c0:List xE)(c1:Int)(c2:Int):Nat→(Int×(List Bs8))→Option ((List Bs8))
 |0,_=>none
 |K+1,q=>(bif (decide (q.1<c2))then(idx c0 q.1).bind fun x1=>(ze8 x1).bind fun x2=>(grd (List.length (q.2++([x2]:List Bs8))*16≤140737488355328)).bind fun _=>uQ c0 c1 c2 K ((w64 (q.1+1)),(q.2++([x2]:List Bs8)))else some q.2)
def Zc(l:List xE)(most:Int):Option (Bool) :=
 (uQ l most (l.length:Int) KK (0,[])).bind fun x1=>(bif (decide ((l.length:Int)≤most))then(kZ x1 true).bind fun x2=>some x2 else some false)
def ze9(x_:yz):Option (Bs8) :=
 some x_.Name
def uR(c0:List yz)(c1:Int)(c2:Int):Nat→(Int×(List Bs8))→Option ((List Bs8))
 |0,_=>none
 |K+1,q=>(bif (decide (q.1<c2))then(idx c0 q.1).bind fun x1=>(ze9 (yz.mk x1.Name x1.Zones x1.Except x1.From x1.Until x1.Grace x1.Vary x1.Kind (Expr.mk x1.Test.Op x1.Test.N x1.Test.S x1.Test.Key x1.Test.Args) x1.zP x1.Uses x1.Other x1.N)).bind fun x2=>(grd (List.length (q.2++([x2]:List Bs8))*16≤140737488355328)).bind fun _=>uR c0 c1 c2 K ((w64 (q.1+1)),(q.2++([x2]:List Bs8)))else some q.2)
def Zd(l:List yz)(most:Int):Option (Bool) :=
 (uR l most (l.length:Int) KK (0,[])).bind fun x1=>(bif (decide ((l.length:Int)≤most))then(kZ x1 true).bind fun x2=>some x2 else some false)
def zfa(x_:Cap):Option (Bs8) :=
 some x_.Name
def uS(c0:List Cap)(c1:Int)(c2:Int):Nat→(Int×(List Bs8))→Option ((List Bs8))
 |0,_=>none
 |K+1,q=>(bif (decide (q.1<c2))then(idx c0 q.1).bind fun x1=>(zfa x1).bind fun x2=>(grd (List.length (q.2++([x2]:List Bs8))*16≤140737488355328)).bind fun _=>uS c0 c1 c2 K ((w64 (q.1+1)),(q.2++([x2]:List Bs8)))else some q.2)
def Ze(l:List Cap)(most:Int):Option (Bool) :=
 (uS l most (l.length:Int) KK (0,[])).bind fun x1=>(bif (decide ((l.length:Int)≤most))then(kZ x1 true).bind fun x2=>some x2 else some false)
def zfb(x_:View):Option (Bs8) :=
 some x_.Name
def uT(c0:List View)(c1:Int)(c2:Int):Nat→(Int×(List Bs8))→Option ((List Bs8))
 |0,_=>none
 |K+1,q=>(bif (decide (q.1<c2))then(idx c0 q.1).bind fun x1=>(zfb x1).bind fun x2=>(grd (List.length (q.2++([x2]:List Bs8))*16≤140737488355328)).bind fun _=>uT c0 c1 c2 K ((w64 (q.1+1)),(q.2++([x2]:List Bs8)))else some q.2)
def Zf(l:List View)(most:Int):Option (Bool) :=
 (uT l most (l.length:Int) KK (0,[])).bind fun x1=>(bif (decide ((l.length:Int)≤most))then(kZ x1 true).bind fun x2=>some x2 else some false)
def zfc(x_:Entry):Option (Bs8) :=
 some x_.Name
def uU(c0:List Entry)(c1:Int)(c2:Int):Nat→(Int×(List Bs8))→Option ((List Bs8))
 |0,_=>none
 |K+1,q=>(bif (decide (q.1<c2))then(idx c0 q.1).bind fun x1=>(zfc x1).bind fun x2=>(grd (List.length (q.2++([x2]:List Bs8))*16≤140737488355328)).bind fun _=>uU c0 c1 c2 K ((w64 (q.1+1)),(q.2++([x2]:List Bs8)))else some q.2)
def Zg(l:List Entry)(most:Int):Option (Bool) :=
 (uU l most (l.length:Int) KK (0,[])).bind fun x1=>(bif (decide ((l.length:Int)≤most))then(kZ x1 true).bind fun x2=>some x2 else some false)
def Hh(c0:Int)(c1:Int)(c2:List Int)(c3:Int):Nat→(Int)→Option ((Bool)⊕(Unit))
 |0,_=>none
 |K+1,q=>(bif (decide (q<c3))then(idx c2 q).bind fun x1=>((bif (decide (x1<c0))then some true else some (decide (x1>c1)))).bind fun x2=>(bif x2 then some (Sum.inl false)else Hh c0 c1 c2 c3 K (w64 (q+1)))else some (Sum.inr ()))
def yS(from_:Int)(to_:Int)(l:List Int):Option (Bool) :=
 (Hh from_ to_ l (l.length:Int) KK 0).bind (xR some fun _=>some true)
def vM(c0:List Bs8)(c1:List Bs8)(c2:Int):Nat→(Int)→Option ((Bool)⊕(Unit))
 |0,_=>none
 |K+1,q=>(bif (decide (q<c2))then(idx c0 q).bind fun x1=>(idx c1 q).bind fun x2=>(bif (!(decide (x1=x2)))then some (Sum.inl false)else vM c0 c1 c2 K (w64 (q+1)))else some (Sum.inr ()))
def k8(s1:List Bs8)(s2:List Bs8):Option (Bool) :=
 (bif (!(decide ((s1.length:Int)=(s2.length:Int))))then some false else(vM s1 s2 (s1.length:Int) KK 0).bind (xR some fun _=>some true))
def xV(r_sameExpr:Expr→Expr→Option (Bool))(c0:List Expr)(c1:List Expr)(c2:Int):Nat→(Int)→Option ((Bool)⊕(Unit))
 |0,_=>none
 |K+1,q=>(bif (decide (q<c2))then(idx c1 q).bind fun x1=>(idx c0 q).bind fun x2=>(r_sameExpr (Expr.mk x1.Op x1.N x1.S x1.Key x1.Args) (Expr.mk x2.Op x2.N x2.S x2.Key x2.Args)).bind fun x3=>(bif (!x3)then some (Sum.inl false)else xV r_sameExpr c0 c1 c2 K (w64 (q+1)))else some (Sum.inr ()))
mutual
def kI:Nat→(List Expr)→(List Expr)→Option (Bool)
 |0,_,_=>none
 |RK+1,s1,s2=>(bif (!(decide ((s1.length:Int)=(s2.length:Int))))then some false else(xV (At RK) s2 s1 (s1.length:Int) KK 0).bind (xR some fun _=>some true))
def At:Nat→Expr→Expr→Option (Bool)
 |0,_,_=>none
 |RK+1,a,b=>(bif (decide (a.Op=b.Op))then(bif (decide (a.N=b.N))then(bif (decide (a.S=b.S))then(bif (decide (a.Key=b.Key))then(kI RK a.Args b.Args).bind fun x1=>some x1 else some false)else some false)else some false)else some false)
end
def Zh(a:yz)(b:yz):Option (Bool) :=
 ((k8 a.Zones b.Zones).bind fun x2=>(bif (!x2)then some true else(k8 a.Except b.Except).bind fun x3=>(bif (!x3)then some true else(At KK (Expr.mk a.Test.Op a.Test.N a.Test.S a.Test.Key a.Test.Args) (Expr.mk b.Test.Op b.Test.N b.Test.S b.Test.Key b.Test.Args)).bind fun x4=>some (!x4)))).bind fun x1=>(bif x1 then some false else((bif (decide (a.Name=b.Name))then(bif (decide (a.From=b.From))then(bif (decide (a.Until=b.Until))then(bif (decide (a.Grace=b.Grace))then some (a.Vary==b.Vary)else some false)else some false)else some false)else some false)).bind fun x5=>(bif x5 then(bif (decide (a.Kind=b.Kind))then(bif (decide (a.zP.Side=b.zP.Side)&&(decide (a.zP.Base=b.zP.Base)&&(decide (a.zP.Num=b.zP.Num)&&(decide (a.zP.Den=b.zP.Den)))))then(bif (decide (a.Uses=b.Uses))then(bif (decide (a.Other=b.Other))then some (decide (a.N=b.N))else some false)else some false)else some false)else some false)else some false))
def V8(r_:yz):Option (Bool) :=
 ((kZ r_.Zones false).bind fun x2=>(bif (!x2)then some true else(kZ r_.Except false).bind fun x3=>(bif (!x3)then some true else(yS 0 1073741824 ([r_.From,r_.Grace,r_.Until]:List Int)).bind fun x4=>(bif (!x4)then some true else(bif (!(decide (r_.Until=0)))then some (decide (r_.Until≤r_.From))else some false))))).bind fun x1=>(bif x1 then some false else((bif (decide (r_.Kind=0))then(wO (Expr.mk r_.Test.Op r_.Test.N r_.Test.S r_.Test.Key r_.Test.Args)).bind fun x6=>some (x6,r_.Test.Op,r_.Test.N,r_.Test.S,r_.Test.Key,r_.Test.Args,0,0,0,0,0,0,0)else(bif (decide (r_.Kind=1))then(yS 0 3 ([r_.zP.Side]:List Int)).bind fun x7=>(bif x7 then(yS 0 4096 ([r_.zP.Base,r_.zP.Num]:List Int)).bind fun x8=>(bif x8 then(yS 1 4096 ([r_.zP.Den]:List Int)).bind fun x9=>some (x9,0,0,([]:Bs8),([]:Bs8),[],r_.zP.Side,r_.zP.Base,r_.zP.Num,r_.zP.Den,0,0,0)else some (false,0,0,([]:Bs8),([]:Bs8),[],r_.zP.Side,r_.zP.Base,r_.zP.Num,r_.zP.Den,0,0,0))else some (false,0,0,([]:Bs8),([]:Bs8),[],r_.zP.Side,r_.zP.Base,r_.zP.Num,r_.zP.Den,0,0,0))else(bif (decide (r_.Kind=2))then(yS 1 63 ([r_.Uses]:List Int)).bind fun x10=>some (x10,0,0,([]:Bs8),([]:Bs8),[],0,0,0,0,r_.Uses,0,0)else(bif (decide (r_.Kind=3))then(yS 0 5 ([r_.Uses,r_.Other]:List Int)).bind fun x11=>(bif x11 then(yS 0 1048576 ([r_.N]:List Int)).bind fun x12=>some (x12,0,0,([]:Bs8),([]:Bs8),[],0,0,0,0,r_.Uses,r_.Other,r_.N)else some (false,0,0,([]:Bs8),([]:Bs8),[],0,0,0,0,r_.Uses,r_.Other,r_.N))else some (false,0,0,([]:Bs8),([]:Bs8),[],0,0,0,0,0,0,0)))))).bind fun x5=>(bif x5.1 then(Zh (yz.mk r_.Name r_.Zones r_.Except r_.From r_.Until r_.Grace r_.Vary r_.Kind (Expr.mk r_.Test.Op r_.Test.N r_.Test.S r_.Test.Key r_.Test.Args) r_.zP r_.Uses r_.Other r_.N) (yz.mk r_.Name r_.Zones r_.Except r_.From r_.Until r_.Grace r_.Vary r_.Kind (Expr.mk x5.2.1 x5.2.2.1 x5.2.2.2.1 x5.2.2.2.2.1 x5.2.2.2.2.2.1) (zP.mk x5.2.2.2.2.2.2.1 x5.2.2.2.2.2.2.2.1 x5.2.2.2.2.2.2.2.2.1 x5.2.2.2.2.2.2.2.2.2.1) x5.2.2.2.2.2.2.2.2.2.2.1 x5.2.2.2.2.2.2.2.2.2.2.2.1 x5.2.2.2.2.2.2.2.2.2.2.2.2)).bind fun x13=>some x13 else some false))
def Ke(c0:List Def)(c1:Int)(c2:List Table)(c3:List xE)(c4:List yz)(c5:List Cap)(c6:List View)(c7:List zn)(c8:Int):Nat→(Int)→Option ((Bool)⊕(Unit))
 |0,_=>none
 |K+1,q=>(bif (decide (q<c1))then(idx c0 q).bind fun x1=>(wO (Expr.mk x1.Body.Op x1.Body.N x1.Body.S x1.Body.Key x1.Body.Args)).bind fun x2=>(bif (!x2)then some (Sum.inl false)else Ke c0 c1 c2 c3 c4 c5 c6 c7 c8 K (w64 (q+1)))else some (Sum.inr ()))
def Kf(c0:List Table)(c1:Int)(c2:Int)(c3:List Entry)(c4:Int)(c5:List Def)(c6:List xE)(c7:List yz)(c8:List Cap)(c9:List View)(c10:List zn)(c11:Int):Nat→(Int)→Option ((Bool)⊕(Unit))
 |0,_=>none
 |K+1,q=>(bif (decide (q<c4))then(idx c3 q).bind fun x1=>(yS (-1099511627776) 1099511627776 ([x1.N]:List Int)).bind fun x2=>(bif (!x2)then some (Sum.inl false)else Kf c0 c1 c2 c3 c4 c5 c6 c7 c8 c9 c10 c11 K (w64 (q+1)))else some (Sum.inr ()))
def Kg(c0:List Table)(c1:Int)(c2:List Def)(c3:List xE)(c4:List yz)(c5:List Cap)(c6:List View)(c7:List zn)(c8:Int):Nat→(Int)→Option ((Bool)⊕(Unit))
 |0,_=>none
 |K+1,q=>(bif (decide (q<c1))then(idx c0 q).bind fun x1=>((Zg x1.Rows 60).bind fun x3=>(bif (!x3)then some true else(yS (-1099511627776) 1099511627776 ([x1.Else]:List Int)).bind fun x4=>some (!x4))).bind fun x2=>(bif x2 then some (Sum.inl false)else(Kf c0 c1 q x1.Rows (x1.Rows.length:Int) c2 c3 c4 c5 c6 c7 c8 KK 0).bind (xR (fun q=>some (Sum.inl q)) fun _=>Kg c0 c1 c2 c3 c4 c5 c6 c7 c8 K (w64 (q+1))))else some (Sum.inr ()))
def Kh(c0:List xE)(c1:Int)(c2:List Def)(c3:List Table)(c4:List yz)(c5:List Cap)(c6:List View)(c7:List zn)(c8:Int):Nat→(Int)→Option ((Bool)⊕(Unit))
 |0,_=>none
 |K+1,q=>(bif (decide (q<c1))then(idx c0 q).bind fun x1=>(vk x1.Corners).bind fun x2=>(bif (!x2)then some (Sum.inl false)else Kh c0 c1 c2 c3 c4 c5 c6 c7 c8 K (w64 (q+1)))else some (Sum.inr ()))
def Ki(c0:List yz)(c1:Int)(c2:List Def)(c3:List Table)(c4:List xE)(c5:List Cap)(c6:List View)(c7:List zn)(c8:Int):Nat→(Int)→Option ((Bool)⊕(Unit))
 |0,_=>none
 |K+1,q=>(bif (decide (q<c1))then(idx c0 q).bind fun x1=>(V8 (yz.mk x1.Name x1.Zones x1.Except x1.From x1.Until x1.Grace x1.Vary x1.Kind (Expr.mk x1.Test.Op x1.Test.N x1.Test.S x1.Test.Key x1.Test.Args) x1.zP x1.Uses x1.Other x1.N)).bind fun x2=>(bif (!x2)then some (Sum.inl false)else Ki c0 c1 c2 c3 c4 c5 c6 c7 c8 K (w64 (q+1)))else some (Sum.inr ()))
def Kj(c0:List Cap)(c1:Int)(c2:List Def)(c3:List Table)(c4:List xE)(c5:List yz)(c6:List View)(c7:List zn)(c8:Int):Nat→(Int)→Option ((Bool)⊕(Unit))
 |0,_=>none
 |K+1,q=>(bif (decide (q<c1))then(idx c0 q).bind fun x1=>((yS 0 2 ([x1.Load]:List Int)).bind fun x3=>(bif (!x3)then some true else(yS 0 1099511627776 ([x1.Limit]:List Int)).bind fun x4=>(bif (!x4)then some true else(vk x1.Corners).bind fun x5=>some (!x5)))).bind fun x2=>(bif x2 then some (Sum.inl false)else Kj c0 c1 c2 c3 c4 c5 c6 c7 c8 K (w64 (q+1)))else some (Sum.inr ()))
def Kk(c0:List View)(c1:Int)(c2:Int)(c3:Int)(c4:List Def)(c5:List Table)(c6:List xE)(c7:List yz)(c8:List Cap)(c9:List zn)(c10:Int)(c11:List zn):Nat→(Int)→Option ((Bool)⊕(Unit))
 |0,_=>none
 |K+1,q=>(bif (decide (q<c3))then(grd (0≤q∧q<(((List.length c11):Nat):Int))).bind fun _=>((c11)[(Int.toNat q)]?).bind fun x2=>((yS 0 1048576 ([x2.X,x2.Y]:List Int)).bind fun x4=>(bif (!x4)then some true else(yS 0 4096 ([x2.Z_]:List Int)).bind fun x5=>some (!x5))).bind fun x3=>(bif x3 then some (Sum.inl false)else Kk c0 c1 c2 c3 c4 c5 c6 c7 c8 c9 c10 c11 K (w64 (q+1)))else some (Sum.inr ()))
def Kl(c0:List View)(c1:Int)(c2:List Def)(c3:List Table)(c4:List xE)(c5:List yz)(c6:List Cap)(c7:List zn)(c8:Int):Nat→(Int)→Option ((Bool)⊕(Unit))
 |0,_=>none
 |K+1,q=>(bif (decide (q<c1))then(idx c0 q).bind fun x1=>((yS 0 20 ([x1.Least]:List Int)).bind fun x3=>(bif (!x3)then some true else(yS 1 20 ([(x1.Targets.length:Int)]:List Int)).bind fun x4=>some (!x4))).bind fun x2=>(bif x2 then some (Sum.inl false)else(grd (List.length (([x1.Eye]:List zn)++x1.Targets)*24≤140737488355328)).bind fun _=>(Kk c0 c1 q (((List.length (([x1.Eye]:List zn)++x1.Targets)):Nat):Int) c2 c3 c4 c5 c6 c7 c8 (([x1.Eye]:List zn)++x1.Targets) KK 0).bind (xR (fun q=>some (Sum.inl q)) fun _=>Kl c0 c1 c2 c3 c4 c5 c6 c7 c8 K (w64 (q+1))))else some (Sum.inr ()))
def Km(c0:List zn)(c1:Int)(c2:List Def)(c3:List Table)(c4:List xE)(c5:List yz)(c6:List Cap)(c7:List View)(c8:Int):Nat→(Int)→Option ((Bool)⊕(Unit))
 |0,_=>none
 |K+1,q=>(bif (decide (q<c1))then(idx c0 q).bind fun x1=>((yS (-4096) 4096 ([x1.X,x1.Y]:List Int)).bind fun x3=>(bif (!x3)then some true else(yS 1 4096 ([x1.Z_]:List Int)).bind fun x4=>some (!x4))).bind fun x2=>(bif x2 then some (Sum.inl false)else Km c0 c1 c2 c3 c4 c5 c6 c7 c8 K (w64 (q+1)))else some (Sum.inr ()))
def zbw(p:J6):Option (Bool) :=
 ((zk8 p.Defs 60).bind fun x2=>(bif (!x2)then some true else(Zb p.Tables 60).bind fun x3=>(bif (!x3)then some true else(Zc p.Zones 60).bind fun x4=>(bif (!x4)then some true else(Zd p.Rules 200).bind fun x5=>(bif (!x5)then some true else(Ze p.Caps 30).bind fun x6=>(bif (!x6)then some true else(Zf p.Views 60).bind fun x7=>some (!x7))))))).bind fun x1=>(bif x1 then some false else(Ke p.Defs (p.Defs.length:Int) p.Tables p.Zones p.Rules p.Caps p.Views p.Sun p.Hours KK 0).bind (xR some fun _=>(Kg p.Tables (p.Tables.length:Int) p.Defs p.Zones p.Rules p.Caps p.Views p.Sun p.Hours KK 0).bind (xR some fun _=>(Kh p.Zones (p.Zones.length:Int) p.Defs p.Tables p.Rules p.Caps p.Views p.Sun p.Hours KK 0).bind (xR some fun _=>(Ki p.Rules (p.Rules.length:Int) p.Defs p.Tables p.Zones p.Caps p.Views p.Sun p.Hours KK 0).bind (xR some fun _=>(Kj p.Caps (p.Caps.length:Int) p.Defs p.Tables p.Zones p.Rules p.Views p.Sun p.Hours KK 0).bind (xR some fun _=>(Kl p.Views (p.Views.length:Int) p.Defs p.Tables p.Zones p.Rules p.Caps p.Sun p.Hours KK 0).bind (xR some fun _=>(Km p.Sun (p.Sun.length:Int) p.Defs p.Tables p.Zones p.Rules p.Caps p.Views p.Hours KK 0).bind (xR some fun _=>(yS 0 24 ([p.Hours,(p.Sun.length:Int)]:List Int)).bind fun x15=>some x15))))))))
def Ko(a0:Bs8):Option (Bs8):=some a0
def zbx(a0:Bs8)(a1:Int):Option (Bs8):=zzo a0 a1
def zby(a0:Bs8)(a1:Bs8):Option (Int×Bs8):=(grd (List.length a0+List.length a1≤140737488355328)).bind fun _=>some ((a1.length:Int),a0++a1)
def Kp(c0:List (Int⊕Bs8))(c1:Int):Nat→(Bs8×Int)→Option (Bs8)
 |0,_=>none
 |K+1,q=>(bif (decide (q.2<c1))then((idx c0 q.2).bind fun x2=>((Ko q.1).bind fun x4=>((bif (!(decide (x4=([]:Bs8))))then(idx x4 (w64 ((x4.length:Int)-1))).bind fun x6=>some (!(decide (((x6.toNat:Nat):Int)=10)))else some false)).bind fun x5=>(bif x5 then(zbx q.1 32).bind fun x7=>some x7 else some q.1)).bind fun x3=>(bif (zIg x2)then(zby x3 (anyS x2)).bind fun x8=>some x8.2 else(bif (!(zIg x2))then((bif (decide ((anyI x2)<0))then(zby x3 Jl).bind fun x10=>some (x10.2,(w64 (0-(anyI x2))))else some (x3,(anyI x2)))).bind fun x9=>(Y7 x9.2).bind fun x11=>(zby x9.1 x11).bind fun x12=>some x12.2 else some x3))).bind fun x1=>Kp c0 c1 K (x1,(w64 (q.2+1)))else some q.1)
def yZ(b:Bs8)(l:List (Int⊕Bs8)):Option (Bs8) :=
 (Kp l (l.length:Int) KK (b,0)).bind fun x1=>some x1
def oU(b:Bs8):Option (Bs8) :=
 (yZ b ([(Sum.inr wC)]:List (Int⊕Bs8))).bind fun x1=>(zbx x1 10).bind fun x2=>some x2
def zbz(b:Bs8)(e:Expr):Option (Bs8) :=
 (y3 KK ([]:Bs8) (Expr.mk e.Op e.N e.S e.Key e.Args) 0).bind fun x1=>(vC x1).bind fun x2=>(yZ b ([(Sum.inr x2)]:List (Int⊕Bs8))).bind fun x3=>(oU x3).bind fun x4=>some x4
def uV(c0:List yP)(c1:Int):Nat→(Bs8×Int)→Option (Bs8)
 |0,_=>none
 |K+1,q=>(bif (decide (q.2<c1))then(idx c0 q.2).bind fun x1=>(yZ q.1 ([(Sum.inl x1.X),(Sum.inl x1.Y)]:List (Int⊕Bs8))).bind fun x2=>uV c0 c1 K (x2,(w64 (q.2+1)))else some q.1)
def Kq(b:Bs8)(l:List yP):Option (Bs8) :=
 (uV l (l.length:Int) KK (b,0)).bind fun x1=>(oU x1).bind fun x2=>some x2
def V9(a0:List Bs8)(a1:Bs8):Option (Bs8):=J.wG a0 a1
def Hi(c0:Int)(c1:Bs8)(c2:List Bs8)(c3:List Bs8)(c4:Int)(c5:Int)(c6:Int)(c7:Bool)(c8:Int)(c9:Int)(c10:Int)(c11:Bs8)(c12:Bs8)(c13:List Expr)(c14:Int)(c15:Int)(c16:Int)(c17:Int)(c18:Int)(c19:Int)(c20:Int)(c21:(List (List Bs8))):Nat→(Bs8×Int)→Option (Bs8)
 |0,_=>none
 |K+1,q=>(bif (decide (q.2<c0))then((grd (0≤q.2∧q.2<(((List.length c21):Nat):Int))).bind fun _=>((c21)[(Int.toNat q.2)]?).bind fun x3=>(bif (decide ((x3.length:Int)>0))then(grd (0≤q.2∧q.2<((2:Nat):Int))).bind fun _=>((([zIk,QU]:List Bs8))[(Int.toNat q.2)]?).bind fun x5=>(V9 x3 t__).bind fun x6=>(yZ q.1 ([(Sum.inr x5),(Sum.inr x6)]:List (Int⊕Bs8))).bind fun x7=>some x7 else some q.1)).bind fun x1=>Hi c0 c1 c2 c3 c4 c5 c6 c7 c8 c9 c10 c11 c12 c13 c14 c15 c16 c17 c18 c19 c20 c21 K (x1,(w64 (q.2+1)))else some q.1)
def Hj(c0:Int)(c1:Bs8)(c2:List Bs8)(c3:List Bs8)(c4:Int)(c5:Int)(c6:Int)(c7:Bool)(c8:Int)(c9:Int)(c10:Int)(c11:Bs8)(c12:Bs8)(c13:List Expr)(c14:Int)(c15:Int)(c16:Int)(c17:Int)(c18:Int)(c19:Int)(c20:Int)(c21:List Int):Nat→(Bs8×Int)→Option (Bs8)
 |0,_=>none
 |K+1,q=>(bif (decide (q.2<c0))then((grd (0≤q.2∧q.2<(((List.length c21):Nat):Int))).bind fun _=>((c21)[(Int.toNat q.2)]?).bind fun x3=>(bif (!(decide (x3=0)))then(grd (0≤q.2∧q.2<((3:Nat):Int))).bind fun _=>((([zk2,zbr,zbo]:List Bs8))[(Int.toNat q.2)]?).bind fun x5=>(yZ q.1 ([(Sum.inr x5),(Sum.inl x3)]:List (Int⊕Bs8))).bind fun x6=>some x6 else some q.1)).bind fun x1=>Hj c0 c1 c2 c3 c4 c5 c6 c7 c8 c9 c10 c11 c12 c13 c14 c15 c16 c17 c18 c19 c20 c21 K (x1,(w64 (q.2+1)))else some q.1)
def Hk(c0:Int)(c1:Bs8)(c2:List Bs8)(c3:List Bs8)(c4:Int)(c5:Int)(c6:Int)(c7:Bool)(c8:Int)(c9:Int)(c10:Int)(c11:Bs8)(c12:Bs8)(c13:List Expr)(c14:Int)(c15:Int)(c16:Int)(c17:Int)(c18:Int)(c19:Int)(c20:Int)(c21:List Bs8):Nat→(Bs8×Int)→Option (Bs8)
 |0,_=>none
 |K+1,q=>(bif (decide (q.2<c0))then((grd (0≤q.2∧q.2<(((List.length c21):Nat):Int))).bind fun _=>((c21)[(Int.toNat q.2)]?).bind fun x3=>(grd (0≤q.2)).bind fun _=>(bif (decide ((IntKind.i64.wrap ((BitVec.ofInt IntKind.i64.bits (Int.fdiv c18 (2 ^ (min (Int.toNat q.2) IntKind.i64.bits))) &&& BitVec.ofInt IntKind.i64.bits 1).toNat:Int))=1))then(yZ q.1 ([(Sum.inr x3)]:List (Int⊕Bs8))).bind fun x5=>some x5 else some q.1)).bind fun x1=>Hk c0 c1 c2 c3 c4 c5 c6 c7 c8 c9 c10 c11 c12 c13 c14 c15 c16 c17 c18 c19 c20 c21 K (x1,(w64 (q.2+1)))else some q.1)
def zk9(b:Bs8)(r_:yz):Option (Bs8) :=
 (yZ b ([(Sum.inr VQ),(Sum.inr r_.Name)]:List (Int⊕Bs8))).bind fun x1=>(Hi ((2:Nat):Int) r_.Name r_.Zones r_.Except r_.From r_.Until r_.Grace r_.Vary r_.Kind r_.Test.Op r_.Test.N r_.Test.S r_.Test.Key r_.Test.Args r_.zP.Side r_.zP.Base r_.zP.Num r_.zP.Den r_.Uses r_.Other r_.N ([r_.Zones,r_.Except]:List (List Bs8)) KK (x1,0)).bind fun x2=>(Hj ((3:Nat):Int) r_.Name r_.Zones r_.Except r_.From r_.Until r_.Grace r_.Vary r_.Kind r_.Test.Op r_.Test.N r_.Test.S r_.Test.Key r_.Test.Args r_.zP.Side r_.zP.Base r_.zP.Num r_.zP.Den r_.Uses r_.Other r_.N ([r_.From,r_.Until,r_.Grace]:List Int) KK (x2,0)).bind fun x3=>((bif r_.Vary then(yZ x3 ([(Sum.inr zk4)]:List (Int⊕Bs8))).bind fun x5=>some x5 else some x3)).bind fun x4=>(yZ x4 ([(Sum.inr Jm)]:List (Int⊕Bs8))).bind fun x6=>(QY zj).bind fun x7=>((bif (decide (r_.Kind=0))then(zbz x6 (Expr.mk r_.Test.Op r_.Test.N r_.Test.S r_.Test.Key r_.Test.Args)).bind fun x9=>some (Sum.inl x9)else(bif (decide (r_.Kind=1))then(yZ x6 ([(Sum.inr zbq),(Sum.inl r_.zP.Side),(Sum.inr zez),(Sum.inl r_.zP.Base),(Sum.inr VR),(Sum.inl r_.zP.Num),(Sum.inl r_.zP.Den)]:List (Int⊕Bs8))).bind fun x10=>some (Sum.inr x10)else(bif (decide (r_.Kind=3))then(grd (0≤r_.Uses∧r_.Uses<(((List.length x7):Nat):Int))).bind fun _=>((x7)[(Int.toNat r_.Uses)]?).bind fun x12=>(grd (0≤r_.Other∧r_.Other<(((List.length x7):Nat):Int))).bind fun _=>((x7)[(Int.toNat r_.Other)]?).bind fun x14=>(yZ x6 ([(Sum.inr zbn),(Sum.inr x12),(Sum.inr x14),(Sum.inl r_.N)]:List (Int⊕Bs8))).bind fun x15=>some (Sum.inr x15)else(bif (decide (r_.Kind=2))then(yZ x6 ([(Sum.inr zk3)]:List (Int⊕Bs8))).bind fun x16=>(Hk (((List.length x7):Nat):Int) r_.Name r_.Zones r_.Except r_.From r_.Until r_.Grace r_.Vary r_.Kind r_.Test.Op r_.Test.N r_.Test.S r_.Test.Key r_.Test.Args r_.zP.Side r_.zP.Base r_.zP.Num r_.zP.Den r_.Uses r_.Other r_.N x7 KK (x16,0)).bind fun x17=>some (Sum.inr x17)else some (Sum.inr x6)))))).bind (xR some fun x8=>(oU x8).bind fun x18=>some x18)
def zsd(a0:Bs8):Option (Int):=some (a0.length:Int)
def Kr(c0:List Def)(c1:Int)(c2:List Table)(c3:List xE)(c4:List yz)(c5:List Cap)(c6:List View)(c7:List zn)(c8:Int):Nat→(Int×Bs8)→Option (Bs8)
 |0,_=>none
 |K+1,q=>(bif (decide (q.1<c1))then(idx c0 q.1).bind fun x1=>(yZ q.2 ([(Sum.inr QT),(Sum.inr x1.Name),(Sum.inr Yp)]:List (Int⊕Bs8))).bind fun x2=>(zbz x2 (Expr.mk x1.Body.Op x1.Body.N x1.Body.S x1.Body.Key x1.Body.Args)).bind fun x3=>Kr c0 c1 c2 c3 c4 c5 c6 c7 c8 K ((w64 (q.1+1)),x3)else some q.2)
def Ks(c0:List Table)(c1:Int)(c2:Int)(c3:List Entry)(c4:Int)(c5:List Def)(c6:List xE)(c7:List yz)(c8:List Cap)(c9:List View)(c10:List zn)(c11:Int)(c12:Bs8)(c13:Int):Nat→(Int×Bs8)→Option (Bs8)
 |0,_=>none
 |K+1,q=>(bif (decide (q.1<c4))then(idx c3 q.1).bind fun x1=>(yZ q.2 ([(Sum.inr x1.Name),(Sum.inl x1.N)]:List (Int⊕Bs8))).bind fun x2=>Ks c0 c1 c2 c3 c4 c5 c6 c7 c8 c9 c10 c11 c12 c13 K ((w64 (q.1+1)),x2)else some q.2)
def Kt(c0:List Table)(c1:Int)(c2:List Def)(c3:List xE)(c4:List yz)(c5:List Cap)(c6:List View)(c7:List zn)(c8:Int):Nat→(Int×Bs8)→Option (Bs8)
 |0,_=>none
 |K+1,q=>(bif (decide (q.1<c1))then(idx c0 q.1).bind fun x1=>(yZ q.2 ([(Sum.inr xb),(Sum.inr x1.Name)]:List (Int⊕Bs8))).bind fun x2=>(Ks c0 c1 q.1 x1.Rows (x1.Rows.length:Int) c2 c3 c4 c5 c6 c7 c8 x1.Name x1.Else KK (0,x2)).bind fun x3=>(yZ x3 ([(Sum.inr wx),(Sum.inl x1.Else)]:List (Int⊕Bs8))).bind fun x4=>(oU x4).bind fun x5=>Kt c0 c1 c2 c3 c4 c5 c6 c7 c8 K ((w64 (q.1+1)),x5)else some q.2)
def Ku(c0:List xE)(c1:Int)(c2:List Def)(c3:List Table)(c4:List yz)(c5:List Cap)(c6:List View)(c7:List zn)(c8:Int):Nat→(Int×Bs8)→Option (Bs8)
 |0,_=>none
 |K+1,q=>(bif (decide (q.1<c1))then(idx c0 q.1).bind fun x1=>((bif x1.Overlay then some ji else some xU)).bind fun x2=>(yZ q.2 ([(Sum.inr x2),(Sum.inr x1.Name)]:List (Int⊕Bs8))).bind fun x3=>(Kq x3 x1.Corners).bind fun x4=>Ku c0 c1 c2 c3 c4 c5 c6 c7 c8 K ((w64 (q.1+1)),x4)else some q.2)
def Kv(c0:List yz)(c1:Int)(c2:List Def)(c3:List Table)(c4:List xE)(c5:List Cap)(c6:List View)(c7:List zn)(c8:Int):Nat→(Int×Bs8)→Option (Bs8)
 |0,_=>none
 |K+1,q=>(bif (decide (q.1<c1))then(idx c0 q.1).bind fun x1=>(zk9 q.2 (yz.mk x1.Name x1.Zones x1.Except x1.From x1.Until x1.Grace x1.Vary x1.Kind (Expr.mk x1.Test.Op x1.Test.N x1.Test.S x1.Test.Key x1.Test.Args) x1.zP x1.Uses x1.Other x1.N)).bind fun x2=>Kv c0 c1 c2 c3 c4 c5 c6 c7 c8 K ((w64 (q.1+1)),x2)else some q.2)
def Kw(c0:List Cap)(c1:Int)(c2:List Def)(c3:List Table)(c4:List xE)(c5:List yz)(c6:List View)(c7:List zn)(c8:Int):Nat→(Int×Bs8)→Option (Bs8)
 |0,_=>none
 |K+1,q=>(bif (decide (q.1<c1))then(idx c0 q.1).bind fun x1=>(QY zU).bind fun x2=>(grd (0≤x1.Load∧x1.Load<(((List.length x2):Nat):Int))).bind fun _=>((x2)[(Int.toNat x1.Load)]?).bind fun x4=>(yZ q.2 ([(Sum.inr zn3),(Sum.inr x1.Name),(Sum.inr x4),(Sum.inl x1.Limit)]:List (Int⊕Bs8))).bind fun x5=>(Kq x5 x1.Corners).bind fun x6=>Kw c0 c1 c2 c3 c4 c5 c6 c7 c8 K ((w64 (q.1+1)),x6)else some q.2)
def Kx(c0:List View)(c1:Int)(c2:Int)(c3:List zn)(c4:Int)(c5:List Def)(c6:List Table)(c7:List xE)(c8:List yz)(c9:List Cap)(c10:List zn)(c11:Int):Nat→(Int×Bs8)→Option (Bs8)
 |0,_=>none
 |K+1,q=>(bif (decide (q.1<c4))then(idx c3 q.1).bind fun x1=>(yZ q.2 ([(Sum.inl x1.X),(Sum.inl x1.Y),(Sum.inl x1.Z_)]:List (Int⊕Bs8))).bind fun x2=>Kx c0 c1 c2 c3 c4 c5 c6 c7 c8 c9 c10 c11 K ((w64 (q.1+1)),x2)else some q.2)
def Ky(c0:List View)(c1:Int)(c2:List Def)(c3:List Table)(c4:List xE)(c5:List yz)(c6:List Cap)(c7:List zn)(c8:Int):Nat→(Int×Bs8)→Option (Bs8)
 |0,_=>none
 |K+1,q=>(bif (decide (q.1<c1))then(idx c0 q.1).bind fun x1=>(yZ q.2 ([(Sum.inr Y5),(Sum.inr x1.Name),(Sum.inl x1.Eye.X),(Sum.inl x1.Eye.Y),(Sum.inl x1.Eye.Z_),(Sum.inr VP),(Sum.inl x1.Least),(Sum.inr Jm)]:List (Int⊕Bs8))).bind fun x2=>(Kx c0 c1 q.1 x1.Targets (x1.Targets.length:Int) c2 c3 c4 c5 c6 c7 c8 KK (0,x2)).bind fun x3=>(oU x3).bind fun x4=>Ky c0 c1 c2 c3 c4 c5 c6 c7 c8 K ((w64 (q.1+1)),x4)else some q.2)
def Kz(c0:List zn)(c1:Int)(c2:List Def)(c3:List Table)(c4:List xE)(c5:List yz)(c6:List Cap)(c7:List View)(c8:Int):Nat→(Int×Bs8)→Option (Bs8)
 |0,_=>none
 |K+1,q=>(bif (decide (q.1<c1))then(idx c0 q.1).bind fun x1=>(grd (0≤(min q.1 1)∧(min q.1 1)<((2:Nat):Int))).bind fun _=>((([zn4,zbs]:List Bs8))[(Int.toNat (min q.1 1))]?).bind fun x3=>(yZ q.2 ([(Sum.inr x3),(Sum.inl x1.X),(Sum.inl x1.Y),(Sum.inl x1.Z_)]:List (Int⊕Bs8))).bind fun x4=>Kz c0 c1 c2 c3 c4 c5 c6 c7 c8 K ((w64 (q.1+1)),x4)else some q.2)
def zse(p:J6):Option (Bs8×Int) :=
 (zbw p).bind fun x1=>(bif (!x1)then some (([]:Bs8),1)else(Kr p.Defs (p.Defs.length:Int) p.Tables p.Zones p.Rules p.Caps p.Views p.Sun p.Hours KK (0,([]:Bs8))).bind fun x2=>(Kt p.Tables (p.Tables.length:Int) p.Defs p.Zones p.Rules p.Caps p.Views p.Sun p.Hours KK (0,x2)).bind fun x3=>(Ku p.Zones (p.Zones.length:Int) p.Defs p.Tables p.Rules p.Caps p.Views p.Sun p.Hours KK (0,x3)).bind fun x4=>(Kv p.Rules (p.Rules.length:Int) p.Defs p.Tables p.Zones p.Caps p.Views p.Sun p.Hours KK (0,x4)).bind fun x5=>(Kw p.Caps (p.Caps.length:Int) p.Defs p.Tables p.Zones p.Rules p.Views p.Sun p.Hours KK (0,x5)).bind fun x6=>(Ky p.Views (p.Views.length:Int) p.Defs p.Tables p.Zones p.Rules p.Caps p.Sun p.Hours KK (0,x6)).bind fun x7=>(Kz p.Sun (p.Sun.length:Int) p.Defs p.Tables p.Zones p.Rules p.Caps p.Views p.Hours KK (0,x7)).bind fun x8=>((bif (decide ((p.Sun.length:Int)>0))then(oU x8).bind fun x10=>some x10 else some x8)).bind fun x9=>((bif (!(decide (p.Hours=0)))then(yZ x9 ([(Sum.inr J7),(Sum.inl p.Hours)]:List (Int⊕Bs8))).bind fun x12=>(oU x12).bind fun x13=>some x13 else some x9)).bind fun x11=>(zsd x11).bind fun x14=>(bif (decide (x14>8000))then some (([]:Bs8),6)else(Ko x11).bind fun x15=>some (x15,0)))
def uW:Option (Bool) :=
 (xd VO).bind fun x1=>(vJ (Expr.mk x1.2.2.1 x1.2.2.2.1 x1.2.2.2.2.1 x1.2.2.2.2.2.1 x1.2.2.2.2.2.2)).bind fun x2=>(vJ (Expr.mk 6 0 ([]:Bs8) ([]:Bs8) ([(Expr.mk 0 2 ([]:Bs8) ([]:Bs8) []),(Expr.mk 4 0 ([]:Bs8) ([]:Bs8) ([(Expr.mk 1 0 t_a ([]:Bs8) []),(Expr.mk 1 0 t_b ([]:Bs8) [])]:List Expr))]:List Expr))).bind fun x3=>(Hf jk).bind fun x4=>(Hf zbp).bind fun x5=>(Hf Az).bind fun x6=>(Hf Jj).bind fun x7=>(Hf uD).bind fun x8=>(Hf jA).bind fun x9=>((bif (decide (x1.2.1=0))then(bif (decide (x2.2=0))then(bif (decide (x2.1=oJ))then(bif (decide (x3.2=0))then(bif (decide (x3.1=uC))then(bif (decide (x4.2.1=0))then(bif (decide ((((List.length x4.2.2.2.2.2.2.1):Nat):Int)=1))then(grd ((0:Int)≤0∧0<(((List.length x4.2.2.2.2.2.2.1):Nat):Int))).bind fun _=>((x4.2.2.2.2.2.2.1)[(Int.toNat 0)]?).bind fun x12=>some (decide ((x12.Corners.length:Int)=4))else some false)else some false)else some false)else some false)else some false)else some false)else some false)).bind fun x10=>((bif (decide (x5.1=6))then(bif (decide (x5.2.1=3))then(bif (decide (x6.1=7))then(bif (decide (x6.2.1=14))then(bif (decide (x7.1=11))then(bif (decide (x7.2.1=14))then(bif (decide (x8.1=18))then(bif (decide (x8.2.1=10))then(bif (decide (x9.1=18))then some (decide (x9.2.1=5))else some false)else some false)else some false)else some false)else some false)else some false)else some false)else some false)else some false)).bind fun x13=>(zse (J6.mk x4.2.2.2.2.1 x4.2.2.2.2.2.1 x4.2.2.2.2.2.2.1 x4.2.2.2.2.2.2.2.1 x4.2.2.2.2.2.2.2.2.1 x4.2.2.2.2.2.2.2.2.2 x4.2.2.1 x4.2.2.2.1)).bind fun x14=>(bif x10 then(bif x13 then(bif (decide (x14.2=0))then(bif (decide (x14.1=va))then(zbw (J6.mk x4.2.2.2.2.1 x4.2.2.2.2.2.1 x4.2.2.2.2.2.2.1 x4.2.2.2.2.2.2.2.1 x4.2.2.2.2.2.2.2.2.1 x4.2.2.2.2.2.2.2.2.2 x4.2.2.1 x4.2.2.2.1)).bind fun x15=>(bif x15 then(zbw (J6.mk [] [] [] [] [] [] [] 25)).bind fun x16=>(bif (!x16)then(AL t_a1).bind fun x17=>(bif x17 then(AL VQ).bind fun x18=>some (!x18)else some false)else some false)else some false)else some false)else some false)else some false)else some false)
def zsf(c_:Int):Option (Bool) :=
 (bif (decide (c_=9))then some true else(bif (decide (c_=10))then some true else some (decide (c_=32))))
def Zi(c_:Int):Option (Bool) :=
 (bif (decide (c_≥97))then some (decide (c_≤122))else some false)
def Jt(c_:Int):Option (Bool) :=
 (bif (decide (c_≥48))then some (decide (c_≤57))else some false)
def Ju(c0:Bs8):Nat→(Int×Int)→Option ((Int×Bool)⊕(Int))
 |0,_=>none
 |K+1,q=>(bif (decide (q.2<(c0.length:Int)))then((idx c0 q.2).bind fun x2=>(Jt ((x2.toNat:Nat):Int)).bind fun x3=>(bif (!x3)then some (q.2,true)else some (q.2,(decide (q.1>1099511627776))))).bind fun x1=>(bif x1.2 then some (Sum.inl (0,false))else(idx c0 x1.1).bind fun x4=>Ju c0 K ((w64 ((w64 ((w64 (10*q.1))+(w64 (((x4.toNat:Nat):Int)))))-48)),(w64 (x1.1+1))))else some (Sum.inr q.1))
def zn5(s:Bs8):Option (Int×Bool) :=
 (Ju s KK (0,0)).bind (xR some fun x1=>((bif (decide ((s.length:Int)<1))then some true else(bif (decide ((s.length:Int)>1))then(idx s 0).bind fun x3=>(bif (decide (((x3.toNat:Nat):Int)=48))then some true else some (decide (x1>1099511627776)))else some (decide (x1>1099511627776))))).bind fun x2=>(bif x2 then some (0,false)else some (x1,true)))
def Wa(c0:Bs8)(c1:Int)(c2:Bs8):Nat→(Int)→Option ((Int)⊕(Unit))
 |0,_=>none
 |K+1,q=>(bif (decide (q<(c2.length:Int)))then(idx c0 c1).bind fun x1=>(idx c2 q).bind fun x2=>(bif (decide (((x1.toNat:Nat):Int)=((x2.toNat:Nat):Int)))then some (Sum.inl 1)else Wa c0 c1 c2 K (w64 (q+1)))else some (Sum.inr ()))
def zxb(s:Bs8)(at_:Int):Option (Int) :=
 ((bif (decide ((w64 (at_+1))<(s.length:Int)))then(idx s (w64 (at_+1))).bind fun x2=>(bif (decide (((x2.toNat:Nat):Int)=61))then(idx s at_).bind fun x3=>(bif (decide (((x3.toNat:Nat):Int)=60))then some true else(idx s at_).bind fun x4=>some (decide (((x4.toNat:Nat):Int)=61)))else some false)else some false)).bind fun x1=>(bif x1 then some 2 else(Wa s at_ z7 KK 0).bind (xR some fun _=>some 0))
def K9(c0:Bs8)(c1:Int)(c2:Int)(c3:Bs8):Nat→(Int)→Option (Int)
 |0,_=>none
 |K+1,q=>((bif (decide (q<(c0.length:Int)))then(idx c0 q).bind fun x2=>(Zi ((x2.toNat:Nat):Int)).bind fun x3=>(bif x3 then some true else(idx c0 q).bind fun x4=>(Jt ((x4.toNat:Nat):Int)).bind fun x5=>some x5)else some false)).bind fun x1=>(bif x1 then K9 c0 c1 c2 c3 K (w64 (q+1))else some q)
def Qa(c0:Bs8)(c1:Int)(c2:Int)(c3:Bs8):Nat→(Int)→Option (Int)
 |0,_=>none
 |K+1,q=>((bif (decide (q<(c0.length:Int)))then(idx c0 q).bind fun x2=>(Jt ((x2.toNat:Nat):Int)).bind fun x3=>some x3 else some false)).bind fun x1=>(bif x1 then Qa c0 c1 c2 c3 K (w64 (q+1))else some q)
def zsg(s:Bs8)(at_:Int):Option (Int×Int×Bs8×Int×Int) :=
 (idx s at_).bind fun x1=>(Zi ((x1.toNat:Nat):Int)).bind fun x2=>(bif x2 then(K9 s at_ 0 ([]:Bs8) KK (w64 (at_+1))).bind fun x3=>(bif (decide ((w64 (x3-at_))>20))then some (15,0,([]:Bs8),0,0)else(cut s at_ x3).bind fun x4=>some (0,0,x4,0,at_))else(idx s at_).bind fun x5=>(Jt ((x5.toNat:Nat):Int)).bind fun x6=>(bif x6 then(Qa s at_ 0 ([]:Bs8) KK (w64 (at_+1))).bind fun x7=>(cut s at_ x7).bind fun x8=>(zn5 x8).bind fun x9=>(bif (!x9.2)then some (3,0,([]:Bs8),0,0)else(cut s at_ x7).bind fun x10=>some (0,1,x10,x9.1,at_))else(zxb s at_).bind fun x11=>(bif (decide (x11=0))then some (13,0,([]:Bs8),0,0)else(cut s at_ (w64 (at_+x11))).bind fun x12=>some (0,2,x12,0,at_))))
def KA(c0:Bs8):Nat→(Int×(List Token))→Option (((List Token)×Int×Int)⊕((List Token)))
 |0,_=>none
 |K+1,q=>(bif (decide (q.1<(c0.length:Int)))then(idx c0 q.1).bind fun x1=>(zsf ((x1.toNat:Nat):Int)).bind fun x2=>(bif x2 then KA c0 K ((w64 (q.1+1)),q.2)else(zsg c0 q.1).bind fun x3=>(bif (!(decide (x3.1=0)))then some (Sum.inl ([],q.1,x3.1))else(grd (List.length (q.2++([(Token.mk x3.2.1 x3.2.2.1 x3.2.2.2.1 x3.2.2.2.2)]:List Token))*40≤140737488355328)).bind fun _=>KA c0 K ((w64 (q.1+(x3.2.2.1.length:Int))),(q.2++([(Token.mk x3.2.1 x3.2.2.1 x3.2.2.2.1 x3.2.2.2.2)]:List Token)))))else some (Sum.inr q.2))
def zsh(s:Bs8):Option ((List Token)×Int×Int) :=
 (bif (decide ((s.length:Int)>8000))then some ([],0,6)else(KA s KK (0,[])).bind (xR some fun x1=>(grd (List.length (x1++([(Token.mk 3 ([]:Bs8) 0 (s.length:Int))]:List Token))*40≤140737488355328)).bind fun _=>some ((x1++([(Token.mk 3 ([]:Bs8) 0 (s.length:Int))]:List Token)),0,0)))
def vm(r_R_SameExpr:Expr→Expr→Option (Bool))(c0:Int)(c1:Int)(c2:Bs8)(c3:Bs8)(c4:List Expr)(c5:Int)(c6:Int)(c7:Bs8)(c8:Bs8)(c9:List Expr):Nat→(Int)→Option ((Bool)⊕(Unit))
 |0,_=>none
 |K+1,q=>(bif (decide (q<(c4.length:Int)))then(idx c4 q).bind fun x1=>(idx c9 q).bind fun x2=>(r_R_SameExpr x1 x2).bind fun x3=>(bif (!x3)then some (Sum.inl false)else vm r_R_SameExpr c0 c1 c2 c3 c4 c5 c6 c7 c8 c9 K (w64 (q+1)))else some (Sum.inr ()))
def yk:Nat→Expr→Expr→Option (Bool)
 |0,_,_=>none
 |RK+1,a,b=>((bif (!(decide (a.Op=b.Op)))then some true else(bif (!(decide (a.N=b.N)))then some true else(bif (!(decide (a.S=b.S)))then some true else(bif (!(decide (a.Key=b.Key)))then some true else some (!(decide ((a.Args.length:Int)=(b.Args.length:Int))))))))).bind fun x1=>(bif x1 then some false else(vm (yk RK) a.Op a.N a.S a.Key a.Args b.Op b.N b.S b.Key b.Args KK 0).bind (xR some fun _=>some true))
def xI(r_law_nodes:Expr→Int→Option (Int))(c0:Int)(c1:Int)(c2:Int)(c3:Bs8)(c4:Bs8)(c5:List Expr):Nat→(Int×Int)→Option (Int)
 |0,_=>none
 |K+1,q=>((bif (decide (q.2<(c5.length:Int)))then some (decide (q.1≤c0))else some false)).bind fun x1=>(bif x1 then(idx c5 q.2).bind fun x2=>(r_law_nodes x2 (w64 (c0-q.1))).bind fun x3=>xI r_law_nodes c0 c1 c2 c3 c4 c5 K ((w64 (q.1+x3)),(w64 (q.2+1)))else some q.1)
def xW:Nat→Expr→Int→Option (Int)
 |0,_,_=>none
 |RK+1,e,most=>(xI (xW RK) most e.Op e.N e.S e.Key e.Args KK (1,0)).bind fun x1=>some x1
def vW(r_law_short:Expr→Option (Bool))(c0:Int)(c1:Int)(c2:Bs8)(c3:Bs8)(c4:List Expr):Nat→(Int)→Option ((Bool)⊕(Unit))
 |0,_=>none
 |K+1,q=>(bif (decide (q<(c4.length:Int)))then(idx c4 q).bind fun x1=>(r_law_short x1).bind fun x2=>(bif (!x2)then some (Sum.inl false)else vW r_law_short c0 c1 c2 c3 c4 K (w64 (q+1)))else some (Sum.inr ()))
def wP:Nat→Expr→Option (Bool)
 |0,_=>none
 |RK+1,e=>(vW (wP RK) e.Op e.N e.S e.Key e.Args KK 0).bind (xR some fun _=>(bif (decide ((e.S.length:Int)≤30))then some (decide ((e.Key.length:Int)≤30))else some false))
def jN(e:Expr):Option (Bool) :=
 (xW KK (Expr.mk e.Op e.N e.S e.Key e.Args) 200).bind fun x1=>(bif (decide (x1≤200))then(wP KK (Expr.mk e.Op e.N e.S e.Key e.Args)).bind fun x2=>some x2 else some false)
def xX(c0:List Token)(c1:Int):Nat→(Int×(List Bs8))→Option ((List Bs8))
 |0,_=>none
 |K+1,q=>(bif (decide (q.1<c1))then((idx c0 q.1).bind fun x2=>(bif (!(decide (x2.Kind=3)))then(grd (List.length (q.2++([x2.Text]:List Bs8))*16≤140737488355328)).bind fun _=>some (q.2++([x2.Text]:List Bs8))else some q.2)).bind fun x1=>xX c0 c1 K ((w64 (q.1+1)),x1)else some q.2)
def Jv(l:List Token):Option (Bs8) :=
 (xX l (l.length:Int) KK (0,[])).bind fun x1=>(V9 x1 t__).bind fun x2=>some x2
def yM(c0:List Token)(c1:Int):Nat→(Int×Int)→Option ((Int)⊕(Unit))
 |0,_=>none
 |K+1,q=>(bif (decide (q.2<(c0.length:Int)))then((idx c0 q.2).bind fun x2=>(bif (decide (x2.Text=wB))then some ((w64 (q.1+1)),q.2)else some (q.1,q.2))).bind fun x1=>((idx c0 x1.2).bind fun x4=>(bif (decide (x4.Text=xL))then some ((w64 (x1.1-1)),x1.2)else some (x1.1,x1.2))).bind fun x3=>(bif (decide (x3.1=0))then some (Sum.inl x3.2)else yM c0 c1 K (x3.1,(w64 (x3.2+1))))else some (Sum.inr ()))
def jO(l:List Token)(i:Int):Option (Int) :=
 (yM l i KK (0,i)).bind (xR some fun _=>some i)
def y5(c0:List Token)(c1:Int)(c2:Int):Nat→(Int×(List Token))→Option ((List Token))
 |0,_=>none
 |K+1,q=>(bif (decide (q.1<(c0.length:Int)))then(((bif (!(decide (q.1=c1)))then some (!(decide (q.1=c2)))else some false)).bind fun x2=>(bif x2 then(idx c0 q.1).bind fun x3=>(grd (List.length (q.2++([x3]:List Token))*40≤140737488355328)).bind fun _=>some (q.2++([x3]:List Token))else some q.2)).bind fun x1=>y5 c0 c1 c2 K ((w64 (q.1+1)),x1)else some q.2)
def jP(l:List Token)(i:Int)(k:Int):Option (Bs8) :=
 (y5 l i k KK (0,[])).bind fun x1=>(Jv x1).bind fun x2=>some x2
def zN(c0:Bool)(c1:List Token)(c2:Int)(c3:Int)(c4:Bs8)(c5:Bs8)(c6:List Expr):Nat→(Int)→Option ((Bool)⊕(Unit))
 |0,_=>none
 |K+1,q=>(bif (decide (q<(c1.length:Int)))then((idx c1 q).bind fun x2=>(bif (!(decide (x2.Text=wB)))then some (Sum.inr ())else(jO c1 q).bind fun x3=>(jP c1 q x3).bind fun x4=>(xd x4).bind fun x5=>((bif (decide (x5.2.1=0))then(yk KK (Expr.mk x5.2.2.1 x5.2.2.2.1 x5.2.2.2.2.1 x5.2.2.2.2.2.1 x5.2.2.2.2.2.2) (Expr.mk c2 c3 c4 c5 c6)).bind fun x7=>some x7 else some false)).bind fun x6=>(bif x6 then some (Sum.inl false)else some (Sum.inr ())))).bind (xR (fun q=>some (Sum.inl q)) fun _=>zN c0 c1 c2 c3 c4 c5 c6 K (w64 (q+1)))else some (Sum.inr ()))
def yT(e:Expr):Option (Bool) :=
 (uW).bind fun x1=>(jN (Expr.mk e.Op e.N e.S e.Key e.Args)).bind fun x2=>(bif (!x2)then some x1 else(vJ (Expr.mk e.Op e.N e.S e.Key e.Args)).bind fun x3=>(bif (!(decide (x3.2=0)))then(bif x1 then(bif (decide (x3.1=([]:Bs8)))then(bif (decide (x3.2=6))then some true else(bif (decide (x3.2=1))then(wO (Expr.mk e.Op e.N e.S e.Key e.Args)).bind fun x4=>some (!x4)else some false))else some false)else some false)else(xd x3.1).bind fun x5=>(grd (List.length og+List.length x3.1≤9223372036854775807)).bind fun _=>(grd (List.length (og++x3.1)+List.length oI≤9223372036854775807)).bind fun _=>(xd ((og++x3.1)++oI)).bind fun x8=>((bif (!(decide (x5.2.1=0)))then some true else(bif (!(decide (x5.1=0)))then some true else(yk KK (Expr.mk x5.2.2.1 x5.2.2.2.1 x5.2.2.2.2.1 x5.2.2.2.2.2.1 x5.2.2.2.2.2.2) (Expr.mk e.Op e.N e.S e.Key e.Args)).bind fun x10=>(bif (!x10)then some true else(bif (decide ((x3.1.length:Int)<7996))then(bif (!(decide (x8.2.1=0)))then some true else(yk KK (Expr.mk x8.2.2.1 x8.2.2.2.1 x8.2.2.2.2.1 x8.2.2.2.2.2.1 x8.2.2.2.2.2.2) (Expr.mk e.Op e.N e.S e.Key e.Args)).bind fun x11=>some (!x11))else some false))))).bind fun x9=>(bif x9 then some false else(oL x3.1).bind fun x12=>((bif (!(decide (x12.2.2=0)))then some true else(Jv x12.1).bind fun x14=>some (!(decide (x14=x3.1))))).bind fun x13=>(bif x13 then some false else(zN x1 x12.1 e.Op e.N e.S e.Key e.Args KK 0).bind (xR some fun _=>some x1)))))
end Go.Proofs.YtffencjoddkghaaGreatDoor
