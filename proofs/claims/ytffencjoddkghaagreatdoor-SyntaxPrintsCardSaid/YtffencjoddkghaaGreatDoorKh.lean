/- texts that the proof of SyntaxPrints reaches, part 8 -/
import Derived.Test.YtffencjoddkghaaGreatDoorKg
set_option linter.all false
set_option maxRecDepth 100000
namespace Go.Proofs.YtffencjoddkghaaGreatDoor
open Go Go.RowKit Go.Eng Go.EV Go.EQ
abbrev Bs8:=List UInt8
abbrev Mb8:=List (Bs8×Bool)
structure Expr where
 Op:Int
 N:Int
 S:Bs8
 Key:Bs8
 Args:(List Expr)
instance:Inhabited Expr:=⟨⟨0,0,[],[],[]⟩⟩
mutual
def oy:Expr→List V
 |⟨a0,a1,a2,a3,a4⟩=>[.int .i64 a0,.int .i64 a1,.str a2,.str a3,.vs 5 (yF a4)]
def yF:List Expr→List (List V)
 |[]=>[]
 |x::r=>oy x::yF r
end
def vf(x:Expr):List V:=[.int .i64 x.Op,.int .i64 x.N,.str x.S,.str x.Key,.vs 5 (yF x.Args)]
theorem JH(x:Expr):oy x=vf x:=by cases x;rw[oy];rfl
theorem jK:∀l:List Expr,yF l=l.map vf
 |[]=>by rw[yF];rfl
 |x::r=>by rw[yF,JH,jK r];rfl
structure Def where
 Name:Bs8
 Body:Expr
 deriving Inhabited
def QP(x:Def):List V:=[.str x.Name,.int .i64 x.Body.Op,.int .i64 x.Body.N,.str x.Body.S,.str x.Body.Key,.vs 5 (yF x.Body.Args)]
structure Entry where
 Name:Bs8
 N:Int
 deriving Inhabited,DecidableEq
def qO(x:Entry):List V:=[.str x.Name,.int .i64 x.N]
structure Table where
 Name:Bs8
 Rows:(List Entry)
 Else:Int
 deriving Inhabited,DecidableEq
def oz(x:Table):List V:=[.str x.Name,.vs 2 (List.map qO x.Rows),.int .i64 x.Else]
structure zG where
 X:Int
 Y:Int
 deriving Inhabited,DecidableEq
def jm(x:zG):List V:=[.int .i64 x.X,.int .i64 x.Y]
structure zY where
 Name:Bs8
 Overlay:Bool
 Corners:(List zG)
 deriving Inhabited,DecidableEq
def HA(x:zY):List V:=[.str x.Name,.bool x.Overlay,.vs 2 (List.map jm x.Corners)]
structure zt where
 Side:Int
 Base:Int
 Num:Int
 Den:Int
 deriving Inhabited,DecidableEq
def JI(x:zt):List V:=[.int .i64 x.Side,.int .i64 x.Base,.int .i64 x.Num,.int .i64 x.Den]
structure zB where
 Name:Bs8
 Zones:List Bs8
 Except:List Bs8
 From:Int
 Until:Int
 Grace:Int
 Vary:Bool
 Kind:Int
 Test:Expr
 zt:zt
 Uses:Int
 Other:Int
 N:Int
 deriving Inhabited
def HB(x:zB):List V:=[.str x.Name,.vs 1 (List.map EV.zKs x.Zones),.vs 1 (List.map EV.zKs x.Except),.int .i64 x.From,.int .i64 x.Until,.int .i64 x.Grace,.bool x.Vary,.int .i64 x.Kind,.int .i64 x.Test.Op,.int .i64 x.Test.N,.str x.Test.S,.str x.Test.Key,.vs 5 (yF x.Test.Args),.int .i64 x.zt.Side,.int .i64 x.zt.Base,.int .i64 x.zt.Num,.int .i64 x.zt.Den,.int .i64 x.Uses,.int .i64 x.Other,.int .i64 x.N]
structure Cap where
 Name:Bs8
 Load:Int
 Limit:Int
 Corners:(List zG)
 deriving Inhabited,DecidableEq
def QQ(x:Cap):List V:=[.str x.Name,.int .i64 x.Load,.int .i64 x.Limit,.vs 2 (List.map jm x.Corners)]
structure zf where
 X:Int
 Y:Int
 Z_:Int
 deriving Inhabited,DecidableEq
def vI(x:zf):List V:=[.int .i64 x.X,.int .i64 x.Y,.int .i64 x.Z_]
structure View where
 Name:Bs8
 Eye:zf
 Least:Int
 Targets:(List zf)
 deriving Inhabited,DecidableEq
def HC(x:View):List V:=[.str x.Name,.int .i64 x.Eye.X,.int .i64 x.Eye.Y,.int .i64 x.Eye.Z_,.int .i64 x.Least,.vs 3 (List.map vI x.Targets)]
structure Token where
 Kind:Int
 Text:Bs8
 N:Int
 Pos:Int
 deriving Inhabited,DecidableEq
def Wd(x:Token):List V:=[.int .i64 x.Kind,.str x.Text,.int .i64 x.N,.int .i64 x.Pos]
structure zj where
 text:Bs8
 op:Int
 form:Int
 deriving Inhabited,DecidableEq
def oA(x:zj):List V:=[.str x.text,.int .i64 x.op,.int .i64 x.form]
structure zI where
 a:zG
 b:zG
 deriving Inhabited,DecidableEq
def Jn(x:zI):List V:=[.int .i64 x.a.X,.int .i64 x.a.Y,.int .i64 x.b.X,.int .i64 x.b.Y]
structure vg where
 Defs:(List Def)
 Tables:(List Table)
 Zones:(List zY)
 Rules:(List zB)
 Caps:(List Cap)
 Views:(List View)
 Sun:(List zf)
 Hours:Int
 deriving Inhabited
def Ab(x:vg):List V:=[.vs 6 (List.map QP x.Defs),.vs 3 (List.map oz x.Tables),.vs 3 (List.map HA x.Zones),.vs 20 (List.map HB x.Rules),.vs 4 (List.map QQ x.Caps),.vs 6 (List.map HC x.Views),.vs 3 (List.map vI x.Sun),.int .i64 x.Hours]
instance:Inhabited (Int⊕Bs8):=⟨.inl 0⟩
def ztm(s:Bs8)(n:Int):Option Bs8:=(grd (0≤n∧n<256∧List.length s+1≤140737488355328)).bind fun _=>some (s++[UInt8.ofNat (Int.toNat n)])
structure BB where
 l:(List Token)
 i:Int
 D:(List Def)
 T:(List Table)
 Z:(List zY)
 R:(List zB)
 C:(List Cap)
 V:(List View)
 S:(List zf)
 H:Int
 n0:(List Mb8)
 n1:(List Mb8)
 n2:(List Mb8)
 n3:(List Mb8)
 n4:(List Mb8)
 n5:(List Mb8)
 h:Bool
def xb(x:(List Token)×Int×(List Def)×(List Table)×(List zY)×(List zB)×(List Cap)×(List View)×(List zf)×Int×(List Mb8)×(List Mb8)×(List Mb8)×(List Mb8)×(List Mb8)×(List Mb8)×Bool):BB:=⟨x.1,x.2.1,x.2.2.1,x.2.2.2.1,x.2.2.2.2.1,x.2.2.2.2.2.1,x.2.2.2.2.2.2.1,x.2.2.2.2.2.2.2.1,x.2.2.2.2.2.2.2.2.1,x.2.2.2.2.2.2.2.2.2.1,x.2.2.2.2.2.2.2.2.2.2.1,x.2.2.2.2.2.2.2.2.2.2.2.1,x.2.2.2.2.2.2.2.2.2.2.2.2.1,x.2.2.2.2.2.2.2.2.2.2.2.2.2.1,x.2.2.2.2.2.2.2.2.2.2.2.2.2.2.1,x.2.2.2.2.2.2.2.2.2.2.2.2.2.2.2.1,x.2.2.2.2.2.2.2.2.2.2.2.2.2.2.2.2⟩
def zbv{R:Type}(x:(List Token)×Int×(List Def)×(List Table)×(List zY)×(List zB)×(List Cap)×(List View)×(List zf)×Int×(List Mb8)×(List Mb8)×(List Mb8)×(List Mb8)×(List Mb8)×(List Mb8)×Bool×R):BB:=⟨x.1,x.2.1,x.2.2.1,x.2.2.2.1,x.2.2.2.2.1,x.2.2.2.2.2.1,x.2.2.2.2.2.2.1,x.2.2.2.2.2.2.2.1,x.2.2.2.2.2.2.2.2.1,x.2.2.2.2.2.2.2.2.2.1,x.2.2.2.2.2.2.2.2.2.2.1,x.2.2.2.2.2.2.2.2.2.2.2.1,x.2.2.2.2.2.2.2.2.2.2.2.2.1,x.2.2.2.2.2.2.2.2.2.2.2.2.2.1,x.2.2.2.2.2.2.2.2.2.2.2.2.2.2.1,x.2.2.2.2.2.2.2.2.2.2.2.2.2.2.2.1,x.2.2.2.2.2.2.2.2.2.2.2.2.2.2.2.2.1⟩
def rBB{R:Type}(x:(List Token)×Int×(List Def)×(List Table)×(List zY)×(List zB)×(List Cap)×(List View)×(List zf)×Int×(List Mb8)×(List Mb8)×(List Mb8)×(List Mb8)×(List Mb8)×(List Mb8)×Bool×R):R:=x.2.2.2.2.2.2.2.2.2.2.2.2.2.2.2.2.2
def t_0:Bs8:=[48]
def HG:Bs8:=[50,32,42,32,40,32,97,32,43,32,98,32,41]
def t__:Bs8:=[32]
def zh:Bs8:=[32,97,110,100,32,97,112,97,114,116,32,98,97,115,101,32,99,97,112,32,100,101,102,105,110,101,32,101,108,115,101,32,101,120,99,101,112,116,32,102,114,111,109,32,103,114,97,99,101,32,104,111,117,114,115,32,105,102,32,105,110,32,108,101,97,115,116,32,110,111,116,32,111,114,32,111,118,101,114,108,97,121,32,112,108,97,110,101,32,114,117,108,101,32,115,108,111,112,101,32,115,117,110,32,116,97,98,108,101,32,116,104,101,110,32,117,110,116,105,108,32,117,115,101,115,32,118,97,114,121,32,118,105,101,119,32,122,111,110,101,32]
def qP:Bs8:=[32,97,112,97,114,116,32]
def JJ:Bs8:=[32,98,97,115,101]
def QR:Bs8:=[32,101,108,115,101]
def yD:Bs8:=[32,101,108,115,101,32]
def uy:Bs8:=[32,108,101,97,115,116]
def qy:Bs8:=[32,112,108,97,110,101]
def Km:Bs8:=[32,115,108,111,112,101]
def yr:Bs8:=[32,116,104,101,110,32]
def zbw:Bs8:=[32,117,115,101,115]
def Ym:Bs8:=[32,118,97,114,121]
def Y0:Bs8:=[32,41]
def zgf:Bs8:=[32,44]
def zqv:Bs8:=[32,45,32]
def xy:Bs8:=[32,58]
def z7:Bs8:=[32,59,10]
def QS:Bs8:=[32,61,32]
def t_a:Bs8:=[97]
def t_a1:Bs8:=[97,49]
def JK:Bs8:=[97,32,43,32,98,32,42,32,50,32,60,32,99]
def zws:Bs8:=[97,110,100]
def HH:Bs8:=[97,112,97,114,116]
def zbx:Bs8:=[97,43,98,42,50,60,99]
def t_b:Bs8:=[98]
def K1:Bs8:=[98,97,115,101]
def zby:Bs8:=[99,97,112]
def JL:Bs8:=[99,97,112,32]
def uz:Bs8:=[100,101,102,105,110,101]
def ko:Bs8:=[100,101,102,105,110,101,32]
def Wf:Bs8:=[100,101,102,105,110,101,32,97,32,61,32,59]
def KO:Bs8:=[100,101,102,105,110,101,32,105,102,32,61,32,49,59]
def kp:Bs8:=[101,108,115,101]
def yy:Bs8:=[101,120,99,101,112,116]
def wc:Bs8:=[102,114,111,109]
def yW:Bs8:=[103,114,97,99,101]
def zbz:Bs8:=[104,97,108,108]
def zb0:Bs8:=[104,111,109,101]
def zm:Bs8:=[104,111,109,101,32,115,104,111,112,32,119,111,114,107,32,112,97,114,107,32,112,108,97,110,116,32,104,97,108,108]
def zjl:Bs8:=[104,111,109,101,115]
def zZ:Bs8:=[104,111,109,101,115,32,116,114,97,102,102,105,99,32,114,117,110,111,102,102]
def xO:Bs8:=[104,111,117,114,115]
def zjm:Bs8:=[104,111,117,114,115,32,50,53,59]
def zOi:Bs8:=[105,102]
def kX:Bs8:=[105,102,32]
def ZA:Bs8:=[105,110]
def AL:Bs8:=[108,101,97,115,116]
def zwt:Bs8:=[110,111,116]
def Wg:Bs8:=[110,111,116,32]
def zOj:Bs8:=[111,114]
def yX:Bs8:=[111,118,101,114,108,97,121]
def vJ:Bs8:=[111,118,101,114,108,97,121,32]
def zb1:Bs8:=[112,97,114,107]
def HI:Bs8:=[112,108,97,110,101]
def QT:Bs8:=[112,108,97,110,116]
def qQ:Bs8:=[114,117,108,101]
def vc:Bs8:=[114,117,108,101,32]
def ua:Bs8:=[114,117,108,101,32,114,58,32,117,115,101,115,32,104,111,109,101,32,104,111,109,101,59]
def ZU:Bs8:=[114,117,110,111,102,102]
def zb2:Bs8:=[115,104,111,112]
def AM:Bs8:=[115,108,111,112,101]
def oB:Bs8:=[115,117,110]
def wC:Bs8:=[116,97,98,108,101]
def yG:Bs8:=[116,97,98,108,101,32]
def Y1:Bs8:=[116,104,101,110]
def Wh:Bs8:=[116,114,97,102,102,105,99]
def yQ:Bs8:=[117,110,116,105,108]
def JM:Bs8:=[117,115,101,115]
def K2:Bs8:=[118,97,114,121]
def JN:Bs8:=[118,105,101,119]
def ub:Bs8:=[118,105,101,119,32]
def zb3:Bs8:=[119,111,114,107]
def zA6:Bs8:=[37]
def zA7:Bs8:=[40]
def Wi:Bs8:=[40,32]
def zqw:Bs8:=[41]
def zA8:Bs8:=[42]
def zA9:Bs8:=[43]
def zb4:Bs8:=[44]
def Yn:Bs8:=[45]
def Jo:Bs8:=[45,32]
def zBa:Bs8:=[47]
def o5:Bs8:=[58]
def jg:Bs8:=[59]
def zBb:Bs8:=[60]
def Wj:Bs8:=[60,61]
def zjn:Bs8:=[61]
def Wk:Bs8:=[61,61]
def kq:Bs8:=[122,111,110,101]
def we:Bs8:=[122,111,110,101,32]
def HJ:Bs8:=[122,111,110,101,32,97,32,48,32,48,32,52,32,48,32,52,32,52,59]
def ka:Bs8:=[122,111,110,101,32,99,111,114,101,32,48,32,48,32,52,32,48,32,52,32,52,32,48,32,52,32,59,10]
def qR:Bs8:=[122,111,110,101,32,99,111,114,101,32,48,32,48,32,52,32,48,32,52,32,52,32,48,32,52,59]
variable[Fuel]
def zmx(c_:Int):Option (Bool) :=
 (bif (decide (c_=32))then some true else(bif (decide (c_=9))then some true else some (decide (c_=10))))
def QU(c0:Bs8):Nat→(Int)→Option (Int)
 |0,_=>none
 |K+1,q=>((bif (decide (q<(c0.length:Int)))then(idx c0 q).bind fun x2=>(zmx ((x2.toNat:Nat):Int)).bind fun x3=>some x3 else some false)).bind fun x1=>(bif x1 then QU c0 K (w64 (q+1))else some q)
def ztn(s:Bs8):Option (Int) :=
 (QU s KK 0).bind fun x1=>some x1
def kY(c_:Int):Option (Bool) :=
 (bif (decide (c_≥97))then some (decide (c_≤122))else some false)
def oC(c_:Int):Option (Bool) :=
 (bif (decide (c_≥48))then some (decide (c_≤57))else some false)
def zgg(c_:Int):Option (Bool) :=
 (kY c_).bind fun x1=>(bif x1 then some true else(oC c_).bind fun x2=>some x2)
def HK(c0:Bs8):Nat→(Int)→Option (Int)
 |0,_=>none
 |K+1,q=>((bif (decide (q<(c0.length:Int)))then(idx c0 q).bind fun x2=>(zgg ((x2.toNat:Nat):Int)).bind fun x3=>some x3 else some false)).bind fun x1=>(bif x1 then HK c0 K (w64 (q+1))else some q)
def zgh(s:Bs8):Option (Int) :=
 (HK s KK 0).bind fun x1=>some x1
def AZ(c_:Int):Option (Bool) :=
 (kY c_).bind fun x1=>(bif x1 then some true else(oC c_).bind fun x2=>some x2)
def uA(c0:Bs8):Nat→(Int)→Option (Int)
 |0,_=>none
 |K+1,q=>((bif (decide (q<(c0.length:Int)))then(idx c0 q).bind fun x2=>(AZ ((x2.toNat:Nat):Int)).bind fun x3=>some x3 else some false)).bind fun x1=>(bif x1 then uA c0 K (w64 (q+1))else some q)
def Ko(s:Bs8):Option (Int) :=
 (uA s KK 0).bind fun x1=>some x1
def Wl(s:Bs8):Option (Bool) :=
 ((bif (decide (s=([]:Bs8)))then some true else(idx s 0).bind fun x2=>(kY ((x2.toNat:Nat):Int)).bind fun x3=>(bif (!x3)then some true else some (decide ((s.length:Int)>20))))).bind fun x1=>(bif x1 then some false else(Ko s).bind fun x4=>some (decide (x4=(s.length:Int))))
def HM(c0:Bs8):Nat→(Int)→Option (Int)
 |0,_=>none
 |K+1,q=>((bif (decide (q<(c0.length:Int)))then(idx c0 q).bind fun x2=>(oC ((x2.toNat:Nat):Int)).bind fun x3=>some x3 else some false)).bind fun x1=>(bif x1 then HM c0 K (w64 (q+1))else some q)
def Yo(s:Bs8):Option (Int) :=
 (HM s KK 0).bind fun x1=>some x1
def HN(c0:Bs8)(c1:Int):Nat→(Int×Int)→Option (Int)
 |0,_=>none
 |K+1,q=>(bif (decide (q.2<c1))then(idx c0 q.2).bind fun x1=>HN c0 c1 K ((w64 ((w64 (10*q.1))+(w64 ((IntKind.u8.wrap (((x1.toNat:Nat):Int)-48)))))),(w64 (q.2+1)))else some q.1)
def zgi(s:Bs8):Option (Int×Bool) :=
 ((bif (decide (s=([]:Bs8)))then some true else(Yo s).bind fun x2=>(bif (!(decide (x2=(s.length:Int))))then some true else(idx s 0).bind fun x3=>(bif (decide (((x3.toNat:Nat):Int)=48))then(bif (!(decide (s=t_0)))then some true else some (decide ((s.length:Int)>13)))else some (decide ((s.length:Int)>13)))))).bind fun x1=>(bif x1 then some (0,false)else(HN s (s.length:Int) KK (0,0)).bind fun x4=>(bif (decide (x4>1099511627776))then some (0,false)else some (x4,true)))
def zb5(a0:Bs8)(a1:Bs8):Option (Bool):=zbq a0 a1
def QV(c0:Bs8)(c1:Bs8)(c2:Bs8)(c3:Bs8)(c4:Bs8)(c5:Bs8)(c6:Bs8)(c7:Bs8)(c8:Bs8)(c9:Bs8)(c10:Bs8)(c11:Bs8)(c12:Bs8)(c13:Bs8)(c14:Bs8)(c15:Int)(c16:Bs8):Nat→(Int)→Option ((Int×Int×Bs8×Int×Int)⊕(Unit))
 |0,_=>none
 |K+1,q=>(bif (decide (q<14))then(idx (α:=Bs8) ([c1,c2,c3,c4,c5,c6,c7,c8,c9,c10,c11,c12,c13,c14]:List Bs8) q).bind fun x1=>(zb5 c0 x1).bind fun x2=>(bif x2 then some (Sum.inl (0,2,x1,0,0))else QV c0 c1 c2 c3 c4 c5 c6 c7 c8 c9 c10 c11 c12 c13 c14 c15 c16 K (w64 (q+1)))else some (Sum.inr ()))
def zto(s:Bs8):Option (Int×Int×Bs8×Int×Int) :=
 (idx s 0).bind fun x1=>(kY ((x1.toNat:Nat):Int)).bind fun x2=>(bif x2 then(zgh s).bind fun x3=>(cut s 0 x3).bind fun x4=>(Wl x4).bind fun x5=>(bif (!x5)then some (15,0,([]:Bs8),0,0)else some (0,0,x4,0,0))else(idx s 0).bind fun x6=>(oC ((x6.toNat:Nat):Int)).bind fun x7=>(bif x7 then(Yo s).bind fun x8=>(cut s 0 x8).bind fun x9=>(zgi x9).bind fun x10=>(bif (!x10.2)then some (3,0,([]:Bs8),0,0)else some (0,1,x9,x10.1,0))else(QV s Wj Wk jg zb4 o5 zjn zBb zA9 Yn zA8 zBa zA6 zA7 zqw 0 ([]:Bs8) KK 0).bind (yA some fun _=>some (13,0,([]:Bs8),0,0))))
def Yp(c0:Bs8):Nat→(Int×(List Token))→Option (((List Token)×Int×Int)⊕(Unit))
 |0,_=>none
 |K+1,q=>(cut c0 q.1 (c0.length:Int)).bind fun x1=>(ztn x1).bind fun x2=>(bif (decide ((w64 (q.1+x2))=(c0.length:Int)))then(grd (List.length (q.2++([(Token.mk 3 ([]:Bs8) 0 (w64 (q.1+x2)))]:List Token))*40≤140737488355328)).bind fun _=>some (Sum.inl ((q.2++([(Token.mk 3 ([]:Bs8) 0 (w64 (q.1+x2)))]:List Token)),0,0))else(cut c0 (w64 (q.1+x2)) (c0.length:Int)).bind fun x4=>(zto x4).bind fun x5=>(bif (!(decide (x5.1=0)))then some (Sum.inl ([],(w64 (q.1+x2)),x5.1))else(grd (List.length (q.2++([(Token.mk x5.2.1 x5.2.2.1 x5.2.2.2.1 (w64 (q.1+x2)))]:List Token))*40≤140737488355328)).bind fun _=>Yp c0 K ((w64 ((w64 (q.1+x2))+(x5.2.2.1.length:Int))),(q.2++([(Token.mk x5.2.1 x5.2.2.1 x5.2.2.2.1 (w64 (q.1+x2)))]:List Token)))))
def zqx(s:Bs8):Option ((List Token)×Int×Int) :=
 (bif (decide ((s.length:Int)>8000))then some ([],0,6)else(Yp s KK (0,[])).bind (yA some fun _=>none))
def kr(p_l:List Token)(p_at_:Int):Option (Int×Bs8×Int×Int) :=
 (idx p_l p_at_).bind fun x1=>some (x1.Kind,x1.Text,x1.N,x1.Pos)
def ztp(p_l:List Token)(p_at_:Int)(s:Bs8):Option (Bool) :=
 (kr p_l p_at_).bind fun x1=>(bif (!(decide (x1.1=3)))then(kr p_l p_at_).bind fun x2=>some (decide (x2.2.1=s))else some false)
def jz(p_l:List Token)(p_at_:Int)(s:Bs8):Option (Bool×Int) :=
 (ztp p_l p_at_ s).bind fun x1=>(bif (!x1)then some (false,p_at_)else some (true,(w64 (p_at_+1))))
def qS(p_l:List Token)(p_at_:Int):Option (Bool) :=
 (kr p_l p_at_).bind fun x1=>some (decide (x1.1=1))
def xr(p_l:List Token)(p_at_:Int)(is:Bool)(err:Int):Option (Unit) :=
 (bif (!is)then none else some ())
def Yq(p_l:List Token)(p_at_:Int)(from_:Int)(to_:Int):Option (Int×Int) :=
 (qS p_l p_at_).bind fun x1=>(xr p_l p_at_ x1 14).bind fun _=>(kr p_l p_at_).bind fun x3=>((bif (decide (x3.2.2.1≥from_))then(xr p_l p_at_ (decide (x3.2.2.1≤to_)) 3).bind fun _=>some ()else(xr p_l p_at_ false 3).bind fun _=>some ())).bind fun _=>some (x3.2.2.1,(w64 (p_at_+1)))
def Kp(a0:Bs8)(a1:Bs8):Option (Bool):=Kl a0 a1
def K3(s:Bs8):Option (Bool) :=
 (Wl s).bind fun x1=>(bif x1 then(grd (List.length t__+List.length s≤9223372036854775807)).bind fun _=>(grd (List.length (t__++s)+List.length t__≤9223372036854775807)).bind fun _=>(Kp zh ((t__++s)++t__)).bind fun x4=>some (!x4)else some false)
def Yr(p_l:List Token)(p_at_:Int):Option (Bool) :=
 (kr p_l p_at_).bind fun x1=>(bif (decide (x1.1=0))then(kr p_l p_at_).bind fun x2=>(K3 x2.2.1).bind fun x3=>some x3 else some false)
def uB(p_l:List Token)(p_at_:Int):Option (Bs8×Int) :=
 (Yr p_l p_at_).bind fun x1=>(xr p_l p_at_ x1 14).bind fun _=>(idx p_l (w64 ((w64 (p_at_+1))-1))).bind fun x3=>some (x3.Text,(w64 (p_at_+1)))
def jA:Option ((List zj)) :=
 some ([(zj.mk zOj 14 1),(zj.mk zws 13 2),(zj.mk Wk 10 4),(zj.mk zBb 11 4),(zj.mk Wj 12 4),(zj.mk zA9 4 5),(zj.mk Yn 5 5),(zj.mk zA8 6 6),(zj.mk zBa 7 6),(zj.mk zA6 8 6)]:List zj)
def HO(p_l:List Token)(p_at_:Int)(s:Bs8):Option (Int) :=
 (jz p_l p_at_ s).bind fun x1=>(xr p_l x1.2 x1.1 14).bind fun _=>some x1.2
def QW(c0:List Token)(c1:Int)(c2:Int)(c3:Int)(c4:List zj)(c5:Int)(c6:Int)(c7:Bs8)(c8:List Expr)(c9:Int)(c10:Int)(c11:Bs8)(c12:Bs8)(c13:List Expr):Nat→(Int×Bs8×Int×Int)→Option (Bs8×Int×Int)
 |0,_=>none
 |K+1,q=>(bif (decide (q.1<c5))then((idx c4 q.1).bind fun x2=>(ztp c0 c1 x2.text).bind fun x3=>(bif x3 then some (x2.text,x2.op,x2.form)else some (q.2.1,q.2.2.1,q.2.2.2))).bind fun x1=>QW c0 c1 c2 c3 c4 c5 c6 c7 c8 c9 c10 c11 c12 c13 K ((w64 (q.1+1)),x1.1,x1.2.1,x1.2.2)else some (q.2.1,q.2.2.1,q.2.2.2))
def QX(r_q_expr:(List Token)→Int→Int→Option (Int×Int×Int×Bs8×Bs8×(List Expr)))(c0:List Token)(c1:Int)(c2:Int)(c3:Bs8)(c4:List Expr):Nat→(Int×Int×Int×Int×Bs8×Bs8×(List Expr))→Option ((Int×Int×Int×Bs8×Bs8×(List Expr))⊕(Unit))
 |0,_=>none
 |K+1,q=>(jA).bind fun x1=>(QW c0 q.1 c1 q.2.1 x1 (x1.length:Int) c2 c3 c4 q.2.2.1 q.2.2.2.1 q.2.2.2.2.1 q.2.2.2.2.2.1 q.2.2.2.2.2.2 KK (0,([]:Bs8),0,0)).bind fun x2=>((bif (decide (x2.1=([]:Bs8)))then some true else(bif (decide (x2.2.2<c1))then some true else(bif (decide (q.2.1<x2.2.2))then some true else(bif (decide (q.2.1=4))then some (decide (x2.2.2=4))else some false))))).bind fun x3=>(bif x3 then some (Sum.inl (q.1,q.2.2.1,q.2.2.2.1,q.2.2.2.2.1,q.2.2.2.2.2.1,q.2.2.2.2.2.2))else(r_q_expr c0 (w64 (q.1+1)) (w64 (x2.2.2+1))).bind fun x4=>QX r_q_expr c0 c1 c2 c3 c4 K (x4.1,x2.2.2,x2.2.1,0,([]:Bs8),([]:Bs8),([(Expr.mk q.2.2.1 q.2.2.2.1 q.2.2.2.2.1 q.2.2.2.2.2.1 q.2.2.2.2.2.2),(Expr.mk x4.2.1 x4.2.2.1 x4.2.2.2.1 x4.2.2.2.2.1 x4.2.2.2.2.2)]:List Expr)))
mutual
def Ys:Nat→(List Token)→Int→Int→Option (Int×Int×Int×Int×Bs8×Bs8×(List Expr))
 |0,_,_,_=>none
 |RK+1,p_l,p_at_,form=>((bif (decide (form≤0))then(jz p_l p_at_ zOi).bind fun x2=>some (x2.2,x2.1)else some (p_at_,false))).bind fun x1=>(bif x1.2 then(xv RK p_l x1.1 0).bind fun x3=>(HO p_l x3.1 Y1).bind fun x4=>(xv RK p_l x4 0).bind fun x5=>(HO p_l x5.1 kp).bind fun x6=>(xv RK p_l x6 0).bind fun x7=>some (0,x7.1,16,0,([]:Bs8),([]:Bs8),([(Expr.mk x3.2.1 x3.2.2.1 x3.2.2.2.1 x3.2.2.2.2.1 x3.2.2.2.2.2),(Expr.mk x5.2.1 x5.2.2.1 x5.2.2.2.1 x5.2.2.2.2.1 x5.2.2.2.2.2),(Expr.mk x7.2.1 x7.2.2.1 x7.2.2.2.1 x7.2.2.2.2.1 x7.2.2.2.2.2)]:List Expr))else((bif (decide (form≤3))then(jz p_l x1.1 zwt).bind fun x9=>some (x9.2,x9.1)else some (x1.1,false))).bind fun x8=>(bif x8.2 then(xv RK p_l x8.1 3).bind fun x10=>some (3,x10.1,15,0,([]:Bs8),([]:Bs8),([(Expr.mk x10.2.1 x10.2.2.1 x10.2.2.2.1 x10.2.2.2.2.1 x10.2.2.2.2.2)]:List Expr))else((bif (decide (form≤7))then(jz p_l x8.1 Yn).bind fun x12=>some (x12.2,x12.1)else some (x8.1,false))).bind fun x11=>(bif x11.2 then(xv RK p_l x11.1 7).bind fun x13=>some (7,x13.1,9,0,([]:Bs8),([]:Bs8),([(Expr.mk x13.2.1 x13.2.2.1 x13.2.2.2.1 x13.2.2.2.2.1 x13.2.2.2.2.2)]:List Expr))else(qS p_l x11.1).bind fun x14=>(bif x14 then(Yq p_l x11.1 0 1099511627776).bind fun x15=>some (8,x15.2,0,x15.1,([]:Bs8),([]:Bs8),[])else(jz p_l x11.1 wC).bind fun x16=>(bif x16.1 then(uB p_l x16.2).bind fun x17=>(uB p_l x17.2).bind fun x18=>some (8,x18.2,2,0,x17.1,x18.1,[])else(jz p_l x16.2 kq).bind fun x19=>(bif x19.1 then(uB p_l x19.2).bind fun x20=>some (8,x20.2,3,0,x20.1,([]:Bs8),[])else(jz p_l x19.2 zA7).bind fun x21=>(bif x21.1 then(xv RK p_l x21.2 0).bind fun x22=>(HO p_l x22.1 zqw).bind fun x23=>some (8,x23,x22.2.1,x22.2.2.1,x22.2.2.2.1,x22.2.2.2.2.1,x22.2.2.2.2.2)else(uB p_l x21.2).bind fun x24=>some (8,x24.2,1,0,x24.1,([]:Bs8),[]))))))))
def xv:Nat→(List Token)→Int→Int→Option (Int×Int×Int×Bs8×Bs8×(List Expr))
 |0,_,_,_=>none
 |RK+1,p_l,p_at_,form=>(Ys RK p_l p_at_ form).bind fun x1=>(QX (xv RK) p_l form 0 ([]:Bs8) [] KK (x1.2.1,x1.1,x1.2.2.1,x1.2.2.2.1,x1.2.2.2.2.1,x1.2.2.2.2.2.1,x1.2.2.2.2.2.2)).bind (yA some fun _=>none)
end
def QY(r_levels:Expr→Option (Int))(c0:List Expr)(c1:Int):Nat→(Int×Int)→Option (Int)
 |0,_=>none
 |K+1,q=>(bif (decide (q.2<c1))then(idx c0 q.2).bind fun x1=>(r_levels (Expr.mk x1.Op x1.N x1.S x1.Key x1.Args)).bind fun x2=>QY r_levels c0 c1 K ((max q.1 x2),(w64 (q.2+1)))else some q.1)
def uC:Nat→Expr→Option (Int)
 |0,_=>none
 |RK+1,e=>(QY (uC RK) e.Args (e.Args.length:Int) KK (0,0)).bind fun x1=>some (w64 (x1+1))
def Wm(p_l:List Token)(p_at_:Int)(c_1_Op:Int)(c_1_N:Int)(c_1_S:Bs8)(c_1_Key:Bs8)(c_1_Args:List Expr):Option (Int×Int×Int×Bs8×Bs8×(List Expr)) :=
 (xv KK p_l p_at_ 0).bind fun x1=>(kr p_l x1.1).bind fun x2=>(xr p_l x1.1 (decide (x2.1=3)) 14).bind fun _=>(uC KK (Expr.mk x1.2.1 x1.2.2.1 x1.2.2.2.1 x1.2.2.2.2.1 x1.2.2.2.2.2)).bind fun x4=>(xr p_l x1.1 (decide (x4≤12)) 6).bind fun _=>some (x1.1,x1.2.1,x1.2.2.1,x1.2.2.2.1,x1.2.2.2.2.1,x1.2.2.2.2.2)
def ztq(p_l:List Token)(p_at_:Int)(err:Int):Option (Int×Int) :=
 (kr p_l p_at_).bind fun x1=>some (x1.2.2.2,err)
def qT(p_l:List Token)(p_at_:Int)(is:Bool)(err:Int):Option (Int×Int) :=
 (bif (!is)then(orC (ztq p_l p_at_ err) (fun x1=>some x1) none)else none)
def ZV(p_l:List Token)(p_at_:Int)(s:Bs8):Option (Int×Int) :=
 (jz p_l p_at_ s).bind fun x1=>(orC (qT p_l x1.2 x1.1 14) (fun x2=>some x2) ((xr p_l x1.2 x1.1 14).bind fun _=>none))
def zgj(p_l:List Token)(p_at_:Int)(from_:Int)(to_:Int):Option (Int×Int) :=
 (qS p_l p_at_).bind fun x1=>(orC (qT p_l p_at_ x1 14) (fun x2=>some x2) ((xr p_l p_at_ x1 14).bind fun _=>(kr p_l p_at_).bind fun x4=>((bif (decide (x4.2.2.1≥from_))then(orC (qT p_l p_at_ (decide (x4.2.2.1≤to_)) 3) (fun x6=>some (Sum.inl x6)) ((xr p_l p_at_ (decide (x4.2.2.1≤to_)) 3).bind fun _=>some (Sum.inr ())))else(orC (qT p_l p_at_ false 3) (fun x8=>some (Sum.inl x8)) ((xr p_l p_at_ false 3).bind fun _=>some (Sum.inr ()))))).bind (yA some fun _=>none)))
def Wn(p_l:List Token)(p_at_:Int):Option (Int×Int) :=
 (Yr p_l p_at_).bind fun x1=>(orC (qT p_l p_at_ x1 14) (fun x2=>some x2) ((xr p_l p_at_ x1 14).bind fun _=>(idx p_l (w64 ((w64 (p_at_+1))-1))).bind fun _=>none))
def QZ(c0:List Token)(c1:Int)(c2:Int)(c3:Int)(c4:List zj)(c5:Int)(c6:Int)(c7:Bs8)(c8:List Expr)(c9:Int)(c10:Int)(c11:Bs8)(c12:Bs8)(c13:List Expr):Nat→(Int×Bs8×Int×Int)→Option (Bs8×Int×Int)
 |0,_=>none
 |K+1,q=>(bif (decide (q.1<c5))then((idx c4 q.1).bind fun x2=>(ztp c0 c1 x2.text).bind fun x3=>(bif x3 then some (x2.text,x2.op,x2.form)else some (q.2.1,q.2.2.1,q.2.2.2))).bind fun x1=>QZ c0 c1 c2 c3 c4 c5 c6 c7 c8 c9 c10 c11 c12 c13 K ((w64 (q.1+1)),x1.1,x1.2.1,x1.2.2)else some (q.2.1,q.2.2.1,q.2.2.2))
def Q0(r_p_q_expr:(List Token)→Int→Int→Option (Int×Int))(c0:List Token)(c1:Int)(c2:Int)(c3:Bs8)(c4:List Expr):Nat→(Int×Int×Int×Int×Bs8×Bs8×(List Expr))→Option ((Int×Int)⊕(Unit))
 |0,_=>none
 |K+1,q=>(jA).bind fun x1=>(QZ c0 q.1 c1 q.2.1 x1 (x1.length:Int) c2 c3 c4 q.2.2.1 q.2.2.2.1 q.2.2.2.2.1 q.2.2.2.2.2.1 q.2.2.2.2.2.2 KK (0,([]:Bs8),0,0)).bind fun x2=>((bif (decide (x2.1=([]:Bs8)))then some true else(bif (decide (x2.2.2<c1))then some true else(bif (decide (q.2.1<x2.2.2))then some true else(bif (decide (q.2.1=4))then some (decide (x2.2.2=4))else some false))))).bind fun x3=>(bif x3 then none else(orC (r_p_q_expr c0 (w64 (q.1+1)) (w64 (x2.2.2+1))) (fun x4=>some (Sum.inl x4)) ((xv KK c0 (w64 (q.1+1)) (w64 (x2.2.2+1))).bind fun x5=>Q0 r_p_q_expr c0 c1 c2 c3 c4 K (x5.1,x2.2.2,x2.2.1,0,([]:Bs8),([]:Bs8),([(Expr.mk q.2.2.1 q.2.2.2.1 q.2.2.2.2.1 q.2.2.2.2.2.1 q.2.2.2.2.2.2),(Expr.mk x5.2.1 x5.2.2.1 x5.2.2.2.1 x5.2.2.2.2.1 x5.2.2.2.2.2)]:List Expr)))))
mutual
def zgk:Nat→(List Token)→Int→Int→Option (Int×Int)
 |0,_,_,_=>none
 |RK+1,p_l,p_at_,form=>((bif (decide (form≤0))then(jz p_l p_at_ zOi).bind fun x2=>some (x2.2,x2.1)else some (p_at_,false))).bind fun x1=>(bif x1.2 then(orC (qz RK p_l x1.1 0) (fun x3=>some x3) ((xv KK p_l x1.1 0).bind fun x4=>(orC (ZV p_l x4.1 Y1) (fun x5=>some x5) ((HO p_l x4.1 Y1).bind fun x6=>(orC (qz RK p_l x6 0) (fun x7=>some x7) ((xv KK p_l x6 0).bind fun x8=>(orC (ZV p_l x8.1 kp) (fun x9=>some x9) ((HO p_l x8.1 kp).bind fun x10=>(orC (qz RK p_l x10 0) (fun x11=>some x11) ((xv KK p_l x10 0).bind fun _=>none))))))))))else((bif (decide (form≤3))then(jz p_l x1.1 zwt).bind fun x14=>some (x14.2,x14.1)else some (x1.1,false))).bind fun x13=>(bif x13.2 then(orC (qz RK p_l x13.1 3) (fun x15=>some x15) ((xv KK p_l x13.1 3).bind fun _=>none))else((bif (decide (form≤7))then(jz p_l x13.1 Yn).bind fun x18=>some (x18.2,x18.1)else some (x13.1,false))).bind fun x17=>(bif x17.2 then(orC (qz RK p_l x17.1 7) (fun x19=>some x19) ((xv KK p_l x17.1 7).bind fun _=>none))else(qS p_l x17.1).bind fun x21=>(bif x21 then(orC (zgj p_l x17.1 0 1099511627776) (fun x22=>some x22) ((Yq p_l x17.1 0 1099511627776).bind fun _=>none))else(jz p_l x17.1 wC).bind fun x24=>(bif x24.1 then(orC (Wn p_l x24.2) (fun x25=>some x25) ((uB p_l x24.2).bind fun x26=>(orC (Wn p_l x26.2) (fun x27=>some x27) ((uB p_l x26.2).bind fun _=>none))))else(jz p_l x24.2 kq).bind fun x29=>(bif x29.1 then(orC (Wn p_l x29.2) (fun x30=>some x30) ((uB p_l x29.2).bind fun _=>none))else(jz p_l x29.2 zA7).bind fun x32=>(bif x32.1 then(orC (qz RK p_l x32.2 0) (fun x33=>some x33) ((xv KK p_l x32.2 0).bind fun x34=>(orC (ZV p_l x34.1 zqw) (fun x35=>some x35) ((HO p_l x34.1 zqw).bind fun _=>none))))else(orC (Wn p_l x32.2) (fun x37=>some x37) ((uB p_l x32.2).bind fun _=>none)))))))))
def qz:Nat→(List Token)→Int→Int→Option (Int×Int)
 |0,_,_,_=>none
 |RK+1,p_l,p_at_,form=>(orC (zgk RK p_l p_at_ form) (fun x1=>some x1) ((Ys KK p_l p_at_ form).bind fun x2=>(Q0 (qz RK) p_l form 0 ([]:Bs8) [] KK (x2.2.1,x2.1,x2.2.2.1,x2.2.2.2.1,x2.2.2.2.2.1,x2.2.2.2.2.2.1,x2.2.2.2.2.2.2)).bind (yA some fun _=>none)))
end
def Wo(p_l:List Token)(p_at_:Int)(c_1_Op:Int)(c_1_N:Int)(c_1_S:Bs8)(c_1_Key:Bs8)(c_1_Args:List Expr):Option (Int×Int) :=
 (orC (qz KK p_l p_at_ 0) (fun x1=>some x1) ((xv KK p_l p_at_ 0).bind fun x2=>(kr p_l x2.1).bind fun x3=>(orC (qT p_l x2.1 (decide (x3.1=3)) 14) (fun x4=>some x4) ((xr p_l x2.1 (decide (x3.1=3)) 14).bind fun _=>(uC KK (Expr.mk x2.2.1 x2.2.2.1 x2.2.2.2.1 x2.2.2.2.2.1 x2.2.2.2.2.2)).bind fun x6=>(orC (qT p_l x2.1 (decide (x6≤12)) 6) (fun x7=>some x7) ((xr p_l x2.1 (decide (x6≤12)) 6).bind fun _=>none))))))
def A0(a0:List Token)(a1:Int)(a2:Int)(a3:Int)(a4:Bs8)(a5:Bs8)(a6:List Expr):Option (Int×Int×Int×Int×Int×Bs8×Bs8×(List Expr)):=(Wm a0 a1 a2 a3 a4 a5 a6).bind fun q=>some ((0:Int),(0:Int),q)
def Ac(a0:List Token)(a1:Int)(a2:Int)(a3:Int)(a4:Bs8)(a5:Bs8)(a6:List Expr):Option (Int×Int):=Wo a0 a1 a2 a3 a4 a5 a6
def zb6(s:Bs8):Option (Int×Int×Int×Int×Bs8×Bs8×(List Expr)) :=
 (zqx s).bind fun x1=>(bif (!(decide (x1.2.2=0)))then some (x1.2.1,x1.2.2,0,0,([]:Bs8),([]:Bs8),[])else(orC (A0 x1.1 0 0 0 ([]:Bs8) ([]:Bs8) []) (fun x3=>(bif (!(decide (x3.2.1=0)))then some (x3.1,x3.2.1,0,0,([]:Bs8),([]:Bs8),[])else some (0,0,x3.2.2.2.1,x3.2.2.2.2.1,x3.2.2.2.2.2.1,x3.2.2.2.2.2.2.1,x3.2.2.2.2.2.2.2))) (orC (Ac x1.1 0 0 0 ([]:Bs8) ([]:Bs8) []) (fun x2=>(bif (!(decide (x2.2=0)))then some (x2.1,x2.2,0,0,([]:Bs8),([]:Bs8),[])else none)) none)))
def xn(r_right:Expr→Int→Option (Bool))(c0:Int)(c1:List Expr)(c2:Int):Nat→(Int)→Option ((Bool)⊕(Unit))
 |0,_=>none
 |K+1,q=>(bif (decide (q<c2))then(idx c1 q).bind fun x1=>(r_right (Expr.mk x1.Op x1.N x1.S x1.Key x1.Args) (w64 (c0-1))).bind fun x2=>(bif (!x2)then some (Sum.inl false)else xn r_right c0 c1 c2 K (w64 (q+1)))else some (Sum.inr ()))
def yg:Nat→Expr→Int→Option (Bool)
 |0,_,_=>none
 |RK+1,e,depth=>((bif (decide (depth=0))then some true else(bif (decide (e.Op<0))then some true else some (decide (e.Op≥17))))).bind fun x1=>(bif x1 then some false else((bif (decide (e.Op=0))then some (Sum.inr (0,(min (max e.N 0) 1099511627776),([]:Bs8),([]:Bs8)))else((bif (decide (e.Op=1))then some (decide (e.Op=1))else some (decide (e.Op=3)))).bind fun x3=>(bif x3 then some (Sum.inr (0,0,e.S,([]:Bs8)))else(bif (decide (e.Op=2))then(K3 e.Key).bind fun x4=>(bif (!x4)then some (Sum.inl false)else some (Sum.inr (0,0,e.S,e.Key)))else((bif (decide (e.Op=9))then some (decide (e.Op=9))else some (decide (e.Op=15)))).bind fun x5=>(bif x5 then some (Sum.inr (1,0,([]:Bs8),([]:Bs8)))else(bif (decide (e.Op=16))then some (Sum.inr (3,0,([]:Bs8),([]:Bs8)))else some (Sum.inr (2,0,([]:Bs8),([]:Bs8))))))))).bind (yA some fun x2=>((bif (!(decide ((e.Args.length:Int)=x2.1)))then some true else(bif (!(decide (x2.2.1=e.N)))then some true else(bif (!(decide (x2.2.2.1=e.S)))then some true else(bif (!(decide (x2.2.2.2=e.Key)))then some true else(bif (decide (x2.1=0))then(bif (!(decide (e.Op=0)))then(K3 e.S).bind fun x7=>some (!x7)else some false)else some false)))))).bind fun x6=>(bif x6 then some false else(xn (yg RK) depth e.Args (e.Args.length:Int) KK 0).bind (yA some fun _=>some true))))
def vr(e:Expr):Option (Bool) :=
 (yg KK (Expr.mk e.Op e.N e.S e.Key e.Args) 12).bind fun x1=>some x1
def HP(c0:List zj)(c1:Int)(c2:Int)(c3:Int)(c4:Bs8)(c5:Bs8)(c6:List Expr):Nat→(Int)→Option ((Int×Bs8)⊕(Unit))
 |0,_=>none
 |K+1,q=>(bif (decide (q<c1))then(idx c0 q).bind fun x1=>(bif (decide (x1.op=c2))then some (Sum.inl (x1.form,x1.text))else HP c0 c1 c2 c3 c4 c5 c6 K (w64 (q+1)))else some (Sum.inr ()))
def ZW(e:Expr):Option (Int×Bs8) :=
 (jA).bind fun x1=>(HP x1 (x1.length:Int) e.Op e.N e.S e.Key e.Args KK 0).bind (yA some fun _=>(bif (decide (e.Op=16))then some (0,([]:Bs8))else(bif (decide (e.Op=15))then some (3,([]:Bs8))else(bif (decide (e.Op=9))then some (7,([]:Bs8))else some (8,([]:Bs8))))))
def yM(a0:Bs8)(a1:Bs8):Option (Int×Bs8):=(grd (List.length a0+List.length a1≤140737488355328)).bind fun _=>some ((a1.length:Int),a0++a1)
def Y2(a0:Int):Option (Bs8):=zti a0
def jN(r_write:Bs8→Expr→Int→Option (Bs8))(c0:Int)(c1:Int)(c2:Int)(c3:Bs8)(c4:Bs8)(c5:List Expr)(c6:List Bs8):Nat→(Bs8×Int)→Option (Bs8)
 |0,_=>none
 |K+1,q=>(bif (decide (q.2<c0))then(grd (0≤q.2∧q.2<(((List.length c6):Nat):Int))).bind fun _=>((c6)[(Int.toNat q.2)]?).bind fun x2=>(yM q.1 x2).bind fun x3=>(idx c5 q.2).bind fun x4=>(r_write x3.2 x4 0).bind fun x5=>jN r_write c0 c1 c2 c3 c4 c5 c6 K (x5,(w64 (q.2+1)))else some q.1)
def jO(r_write:Bs8→Expr→Int→Option (Bs8))(c0:Int)(c1:Int)(c2:Int)(c3:Bs8)(c4:Bs8)(c5:List Expr)(c6:List Bs8):Nat→(Bs8×Int)→Option (Bs8)
 |0,_=>none
 |K+1,q=>(bif (decide (q.2<c0))then(grd (0≤q.2∧q.2<(((List.length c6):Nat):Int))).bind fun _=>((c6)[(Int.toNat q.2)]?).bind fun x2=>(yM q.1 x2).bind fun x3=>(idx c5 q.2).bind fun x4=>(r_write x3.2 x4 0).bind fun x5=>jO r_write c0 c1 c2 c3 c4 c5 c6 K (x5,(w64 (q.2+1)))else some q.1)
def xz:Nat→Bs8→Expr→Int→Option (Bs8)
 |0,_,_,_=>none
 |RK+1,b,e,form=>(ZW (Expr.mk e.Op e.N e.S e.Key e.Args)).bind fun x1=>(bif (decide (x1.1<form))then(yM b Wi).bind fun x2=>(bif (decide (e.Op=0))then(Y2 e.N).bind fun x3=>(yM x2.2 x3).bind fun x4=>(zx0 x4.2).bind fun x5=>some x5 else(bif (decide (e.Op=1))then(yM x2.2 e.S).bind fun x6=>(zx0 x6.2).bind fun x7=>some x7 else(bif (decide (e.Op=2))then(grd (List.length yG+List.length e.S≤9223372036854775807)).bind fun _=>(grd (List.length (yG++e.S)+List.length t__≤9223372036854775807)).bind fun _=>(grd (List.length ((yG++e.S)++t__)+List.length e.Key≤9223372036854775807)).bind fun _=>(yM x2.2 (((yG++e.S)++t__)++e.Key)).bind fun x11=>(zx0 x11.2).bind fun x12=>some x12 else(bif (decide (e.Op=3))then(grd (List.length we+List.length e.S≤9223372036854775807)).bind fun _=>(yM x2.2 (we++e.S)).bind fun x14=>(zx0 x14.2).bind fun x15=>some x15 else(bif (decide (e.Op=16))then(jN (xz RK) ((3:Nat):Int) e.Op e.N e.S e.Key e.Args ([kX,yr,yD]:List Bs8) KK (x2.2,0)).bind fun x16=>(zx0 x16).bind fun x17=>some x17 else(bif (decide (e.Op=15))then(yM x2.2 Wg).bind fun x18=>(idx e.Args 0).bind fun x19=>(xz RK x18.2 x19 x1.1).bind fun x20=>(zx0 x20).bind fun x21=>some x21 else(bif (decide (e.Op=9))then(yM x2.2 Jo).bind fun x22=>(idx e.Args 0).bind fun x23=>(xz RK x22.2 x23 x1.1).bind fun x24=>(zx0 x24).bind fun x25=>some x25 else((bif (decide (x1.1=4))then some (w64 (x1.1+1))else some x1.1)).bind fun x26=>(idx e.Args 0).bind fun x27=>(xz RK x2.2 x27 x26).bind fun x28=>(grd (List.length t__+List.length x1.2≤9223372036854775807)).bind fun _=>(grd (List.length (t__++x1.2)+List.length t__≤9223372036854775807)).bind fun _=>(yM x28 ((t__++x1.2)++t__)).bind fun x31=>(idx e.Args 1).bind fun x32=>(xz RK x31.2 x32 (w64 (x1.1+1))).bind fun x33=>(zx0 x33).bind fun x34=>some x34)))))))else(bif (decide (e.Op=0))then(Y2 e.N).bind fun x35=>(yM b x35).bind fun x36=>some x36.2 else(bif (decide (e.Op=1))then(yM b e.S).bind fun x37=>some x37.2 else(bif (decide (e.Op=2))then(grd (List.length yG+List.length e.S≤9223372036854775807)).bind fun _=>(grd (List.length (yG++e.S)+List.length t__≤9223372036854775807)).bind fun _=>(grd (List.length ((yG++e.S)++t__)+List.length e.Key≤9223372036854775807)).bind fun _=>(yM b (((yG++e.S)++t__)++e.Key)).bind fun x41=>some x41.2 else(bif (decide (e.Op=3))then(grd (List.length we+List.length e.S≤9223372036854775807)).bind fun _=>(yM b (we++e.S)).bind fun x43=>some x43.2 else(bif (decide (e.Op=16))then(jO (xz RK) ((3:Nat):Int) e.Op e.N e.S e.Key e.Args ([kX,yr,yD]:List Bs8) KK (b,0)).bind fun x44=>some x44 else(bif (decide (e.Op=15))then(yM b Wg).bind fun x45=>(idx e.Args 0).bind fun x46=>(xz RK x45.2 x46 x1.1).bind fun x47=>some x47 else(bif (decide (e.Op=9))then(yM b Jo).bind fun x48=>(idx e.Args 0).bind fun x49=>(xz RK x48.2 x49 x1.1).bind fun x50=>some x50 else((bif (decide (x1.1=4))then some (w64 (x1.1+1))else some x1.1)).bind fun x51=>(idx e.Args 0).bind fun x52=>(xz RK b x52 x51).bind fun x53=>(grd (List.length t__+List.length x1.2≤9223372036854775807)).bind fun _=>(grd (List.length (t__++x1.2)+List.length t__≤9223372036854775807)).bind fun _=>(yM x53 ((t__++x1.2)++t__)).bind fun x56=>(idx e.Args 1).bind fun x57=>(xz RK x56.2 x57 (w64 (x1.1+1))).bind fun x58=>some x58))))))))
def zqy(a0:Bs8):Option (Int):=some (a0.length:Int)
def jL(a0:Bs8):Option (Bs8):=some a0
def kZ(e:Expr):Option (Bs8×Int) :=
 (vr (Expr.mk e.Op e.N e.S e.Key e.Args)).bind fun x1=>(bif (!x1)then some (([]:Bs8),1)else(xz KK ([]:Bs8) (Expr.mk e.Op e.N e.S e.Key e.Args) 0).bind fun x2=>(zqy x2).bind fun x3=>(bif (decide (x3>8000))then some (([]:Bs8),6)else(jL x2).bind fun x4=>some (x4,0)))
def zr(b:BB):Option (Int×Bs8×Int×Int) :=
 (idx b.l b.i).bind fun x1=>some (x1.Kind,x1.Text,x1.N,x1.Pos)
def zg(b:BB)(is:Bool)(err:Int):Option (Unit) :=
 (bif (!is)then none else some ())
def yU(b:BB)(have_:Int)(most:Int):Option (Int) :=
 (zg b (decide (have_<most)) 6).bind fun _=>some (w64 (b.i+1))
def zO(b:BB):Option (Bool) :=
 (zr b).bind fun x1=>(bif (decide (x1.1=0))then(zr b).bind fun x2=>(K3 x2.2.1).bind fun x3=>some x3 else some false)
def zQ(b:BB):Option (Bs8×Int) :=
 (zO b).bind fun x1=>(zg b x1 14).bind fun _=>(idx b.l (w64 ((w64 (b.i+1))-1))).bind fun x3=>some (x3.Text,(w64 (b.i+1)))
def zb7(b:BB):Option (Bs8×Int×(List Mb8)) :=
 (zO b).bind fun x1=>(zg b x1 14).bind fun _=>(zr b).bind fun x3=>(W3 b.n0).bind fun x4=>(zg { b with n0:=[x4] } (!((xw x3.2.1 x4).getD false)) 5).bind fun _=>(zr { b with n0:=[x4] }).bind fun x6=>(W3 [x4]).bind fun x7=>(zQ { b with n0:=[AJ x6.2.1 true x7] }).bind fun x8=>some (x8.1,x8.2,[AJ x6.2.1 true x7])
def zqz(b:BB):Option (Bs8×Int×(List Mb8)) :=
 ((bif (List.isEmpty b.n0)then some ([([]:List (Bs8×Bool))]:List Mb8)else some b.n0)).bind fun x1=>(zb7 { b with n0:=x1 }).bind fun x2=>some (x2.1,x2.2.1,x2.2.2)
def jw(b:BB)(s:Bs8):Option (Bool) :=
 (zr b).bind fun x1=>(bif (!(decide (x1.1=3)))then(zr b).bind fun x2=>some (decide (x2.2.1=s))else some false)
def zD(b:BB)(s:Bs8):Option (Bool×Int) :=
 (jw b s).bind fun x1=>(bif (!x1)then some (false,b.i)else some (true,(w64 (b.i+1))))
def zA(b:BB)(s:Bs8):Option (Int) :=
 (zD b s).bind fun x1=>(zg { b with i:=x1.2 } x1.1 14).bind fun _=>some x1.2
def yt(b:BB):Option (Bool) :=
 (zr b).bind fun x1=>some (decide (x1.1=1))
def zl(b:BB)(from_:Int)(to_:Int):Option (Int×Int) :=
 (yt b).bind fun x1=>(zg b x1 14).bind fun _=>(zr b).bind fun x3=>((bif (decide (x3.2.2.1≥from_))then(zg b (decide (x3.2.2.1≤to_)) 3).bind fun _=>some ()else(zg b false 3).bind fun _=>some ())).bind fun _=>some (x3.2.2.1,(w64 (b.i+1)))
def HQ(b:BB)(c1:Int)(c17:Int)(c18:Int)(c19:List zj)(c20:Int)(c21:Int)(c22:Bs8)(c23:List Expr)(c24:Int)(c25:Int)(c26:Bs8)(c27:Bs8)(c28:List Expr):Nat→(Int×Bs8×Int×Int)→Option (Bs8×Int×Int)
 |0,_=>none
 |K+1,q=>(bif (decide (q.1<c20))then((idx c19 q.1).bind fun x2=>(jw { b with i:=c1 } x2.text).bind fun x3=>(bif x3 then some (x2.text,x2.op,x2.form)else some (q.2.1,q.2.2.1,q.2.2.2))).bind fun x1=>HQ b c1 c17 c18 c19 c20 c21 c22 c23 c24 c25 c26 c27 c28 K ((w64 (q.1+1)),x1.1,x1.2.1,x1.2.2)else some (q.2.1,q.2.2.1,q.2.2.2))
def HR(r_q_expr_2:BB→Int→Option (Int×Int×Int×Bs8×Bs8×(List Expr)))(b:BB)(c16:Int)(c17:Int)(c18:Bs8)(c19:List Expr):Nat→(Int×Int×Int×Int×Bs8×Bs8×(List Expr))→Option ((Int×Int×Int×Bs8×Bs8×(List Expr))⊕(Unit))
 |0,_=>none
 |K+1,q=>(jA).bind fun x1=>(HQ { b with i:=0 } q.1 c16 q.2.1 x1 (x1.length:Int) c17 c18 c19 q.2.2.1 q.2.2.2.1 q.2.2.2.2.1 q.2.2.2.2.2.1 q.2.2.2.2.2.2 KK (0,([]:Bs8),0,0)).bind fun x2=>((bif (decide (x2.1=([]:Bs8)))then some true else(bif (decide (x2.2.2<c16))then some true else(bif (decide (q.2.1<x2.2.2))then some true else(bif (decide (q.2.1=4))then some (decide (x2.2.2=4))else some false))))).bind fun x3=>(bif x3 then some (Sum.inl (q.1,q.2.2.1,q.2.2.2.1,q.2.2.2.2.1,q.2.2.2.2.2.1,q.2.2.2.2.2.2))else(r_q_expr_2 { b with i:=(w64 (q.1+1)) } (w64 (x2.2.2+1))).bind fun x4=>HR r_q_expr_2 b c16 c17 c18 c19 K (x4.1,x2.2.2,x2.2.1,0,([]:Bs8),([]:Bs8),([(Expr.mk q.2.2.1 q.2.2.2.1 q.2.2.2.2.1 q.2.2.2.2.2.1 q.2.2.2.2.2.2),(Expr.mk x4.2.1 x4.2.2.1 x4.2.2.2.1 x4.2.2.2.2.1 x4.2.2.2.2.2)]:List Expr)))
mutual
def JO:Nat→BB→Int→Option (Int×Int×Int×Int×Bs8×Bs8×(List Expr))
 |0,_,_=>none
 |RK+1,b,form=>((bif (decide (form≤0))then(zD b zOi).bind fun x2=>some (x2.2,x2.1)else some (b.i,false))).bind fun x1=>(bif x1.2 then(ye RK { b with i:=x1.1 } 0).bind fun x3=>(zA { b with i:=x3.1 } Y1).bind fun x4=>(ye RK { b with i:=x4 } 0).bind fun x5=>(zA { b with i:=x5.1 } kp).bind fun x6=>(ye RK { b with i:=x6 } 0).bind fun x7=>some (0,x7.1,16,0,([]:Bs8),([]:Bs8),([(Expr.mk x3.2.1 x3.2.2.1 x3.2.2.2.1 x3.2.2.2.2.1 x3.2.2.2.2.2),(Expr.mk x5.2.1 x5.2.2.1 x5.2.2.2.1 x5.2.2.2.2.1 x5.2.2.2.2.2),(Expr.mk x7.2.1 x7.2.2.1 x7.2.2.2.1 x7.2.2.2.2.1 x7.2.2.2.2.2)]:List Expr))else((bif (decide (form≤3))then(zD { b with i:=x1.1 } zwt).bind fun x9=>some (x9.2,x9.1)else some (x1.1,false))).bind fun x8=>(bif x8.2 then(ye RK { b with i:=x8.1 } 3).bind fun x10=>some (3,x10.1,15,0,([]:Bs8),([]:Bs8),([(Expr.mk x10.2.1 x10.2.2.1 x10.2.2.2.1 x10.2.2.2.2.1 x10.2.2.2.2.2)]:List Expr))else((bif (decide (form≤7))then(zD { b with i:=x8.1 } Yn).bind fun x12=>some (x12.2,x12.1)else some (x8.1,false))).bind fun x11=>(bif x11.2 then(ye RK { b with i:=x11.1 } 7).bind fun x13=>some (7,x13.1,9,0,([]:Bs8),([]:Bs8),([(Expr.mk x13.2.1 x13.2.2.1 x13.2.2.2.1 x13.2.2.2.2.1 x13.2.2.2.2.2)]:List Expr))else(yt { b with i:=x11.1 }).bind fun x14=>(bif x14 then(zl { b with i:=x11.1 } 0 1099511627776).bind fun x15=>some (8,x15.2,0,x15.1,([]:Bs8),([]:Bs8),[])else(zD { b with i:=x11.1 } wC).bind fun x16=>(bif x16.1 then(zQ { b with i:=x16.2 }).bind fun x17=>(zQ { b with i:=x17.2 }).bind fun x18=>some (8,x18.2,2,0,x17.1,x18.1,[])else(zD { b with i:=x16.2 } kq).bind fun x19=>(bif x19.1 then(zQ { b with i:=x19.2 }).bind fun x20=>some (8,x20.2,3,0,x20.1,([]:Bs8),[])else(zD { b with i:=x19.2 } zA7).bind fun x21=>(bif x21.1 then(ye RK { b with i:=x21.2 } 0).bind fun x22=>(zA { b with i:=x22.1 } zqw).bind fun x23=>some (8,x23,x22.2.1,x22.2.2.1,x22.2.2.2.1,x22.2.2.2.2.1,x22.2.2.2.2.2)else(zQ { b with i:=x21.2 }).bind fun x24=>some (8,x24.2,1,0,x24.1,([]:Bs8),[]))))))))
def ye:Nat→BB→Int→Option (Int×Int×Int×Bs8×Bs8×(List Expr))
 |0,_,_=>none
 |RK+1,b,form=>(JO RK b form).bind fun x1=>(HR (ye RK) { b with i:=0 } form 0 ([]:Bs8) [] KK (x1.2.1,x1.1,x1.2.2.1,x1.2.2.2.1,x1.2.2.2.2.1,x1.2.2.2.2.2.1,x1.2.2.2.2.2.2)).bind (yA some fun _=>none)
end
def qa(b:BB)(is:Bool)(err:Int):Option (Int) :=
 (jw b jg).bind fun x1=>(zg b x1 14).bind fun _=>(zg b is err).bind fun _=>some (w64 (b.i+1))
def Yt(b:BB):Option (Int×(List Def)×(List Mb8)) :=
 (zqz b).bind fun x1=>(zA { b with i:=x1.2.1,n0:=x1.2.2 } zjn).bind fun x2=>(ye KK { b with i:=x2,n0:=x1.2.2 } 0).bind fun x3=>(uC KK (Expr.mk x3.2.1 x3.2.2.1 x3.2.2.2.1 x3.2.2.2.2.1 x3.2.2.2.2.2)).bind fun x4=>(qa { b with i:=x3.1,n0:=x1.2.2 } (decide (x4≤12)) 6).bind fun x5=>(grd (List.length (b.D++([(Def.mk x1.1 (Expr.mk x3.2.1 x3.2.2.1 x3.2.2.2.1 x3.2.2.2.2.1 x3.2.2.2.2.2))]:List Def))*88≤140737488355328)).bind fun _=>some (x5,(b.D++([(Def.mk x1.1 (Expr.mk x3.2.1 x3.2.2.1 x3.2.2.2.1 x3.2.2.2.2.1 x3.2.2.2.2.2))]:List Def)),x1.2.2)
def Q1(b:BB):Option (Bs8×Int×(List Mb8)) :=
 (zO b).bind fun x1=>(zg b x1 14).bind fun _=>(zr b).bind fun x3=>(W3 b.n1).bind fun x4=>(zg { b with n1:=[x4] } (!((xw x3.2.1 x4).getD false)) 5).bind fun _=>(zr { b with n1:=[x4] }).bind fun x6=>(W3 [x4]).bind fun x7=>(zQ { b with n1:=[AJ x6.2.1 true x7] }).bind fun x8=>some (x8.1,x8.2,[AJ x6.2.1 true x7])
def zb8(b:BB):Option (Bs8×Int×(List Mb8)) :=
 ((bif (List.isEmpty b.n1)then some ([([]:List (Bs8×Bool))]:List Mb8)else some b.n1)).bind fun x1=>(Q1 { b with n1:=x1 }).bind fun x2=>some (x2.1,x2.2.1,x2.2.2)
def Q2(b:BB)(known:Mb8):Option (Bs8×Int×Mb8) :=
 (zO b).bind fun x1=>(zg b x1 14).bind fun _=>(zr b).bind fun x3=>(zg b (!((xw x3.2.1 known).getD false)) 5).bind fun _=>(zr b).bind fun x5=>(zQ b).bind fun x6=>some (x6.1,x6.2,(AJ x5.2.1 true known))
def vK(b:BB)(most:Int):Option (Int×Int) :=
 (zD b Yn).bind fun x1=>(bif x1.1 then(zl { b with i:=x1.2 } 0 most).bind fun x2=>some ((w64 (0-x2.1)),x2.2)else(zl { b with i:=x1.2 } 0 most).bind fun x3=>some (x3.1,x3.2))
def JP(b:BB)(c15:(List Mb8))(c16:Bs8)(c17:Int):Nat→(Int×Mb8×(List Entry))→Option (Int×(List Entry))
 |0,_=>none
 |K+1,q=>(zO { b with i:=q.1,n1:=c15 }).bind fun x1=>(bif x1 then(zg { b with i:=q.1,n1:=c15 } (decide ((((List.length q.2.2):Nat):Int)<60)) 6).bind fun _=>(Q2 { b with i:=q.1,n1:=c15 } q.2.1).bind fun x3=>(vK { b with i:=x3.2.1,n1:=c15 } 1099511627776).bind fun x4=>(grd (List.length (q.2.2++([(Entry.mk x3.1 x4.1)]:List Entry))*24≤140737488355328)).bind fun _=>JP b c15 c16 c17 K (x4.2,x3.2.2,(q.2.2++([(Entry.mk x3.1 x4.1)]:List Entry)))else some (q.1,q.2.2))
def zb9(b:BB):Option (Int×(List Table)×(List Mb8)) :=
 (zb8 b).bind fun x1=>(JP { b with i:=0,n1:=[] } x1.2.2 x1.1 0 KK (x1.2.1,([]:List (Bs8×Bool)),([]:List Entry))).bind fun x2=>(zA { b with i:=x2.1,n1:=x1.2.2 } kp).bind fun x3=>(vK { b with i:=x3,n1:=x1.2.2 } 1099511627776).bind fun x4=>(zA { b with i:=x4.2,n1:=x1.2.2 } jg).bind fun x5=>(grd (List.length (b.T++([(Table.mk x1.1 x2.2 x4.1)]:List Table))*48≤140737488355328)).bind fun _=>some (x5,(b.T++([(Table.mk x1.1 x2.2 x4.1)]:List Table)),x1.2.2)
def Q3(b:BB):Option (Bs8×Int×(List Mb8)) :=
 (zO b).bind fun x1=>(zg b x1 14).bind fun _=>(zr b).bind fun x3=>(W3 b.n2).bind fun x4=>(zg { b with n2:=[x4] } (!((xw x3.2.1 x4).getD false)) 5).bind fun _=>(zr { b with n2:=[x4] }).bind fun x6=>(W3 [x4]).bind fun x7=>(zQ { b with n2:=[AJ x6.2.1 true x7] }).bind fun x8=>some (x8.1,x8.2,[AJ x6.2.1 true x7])
def JQ(b:BB):Option (Bs8×Int×(List Mb8)) :=
 ((bif (List.isEmpty b.n2)then some ([([]:List (Bs8×Bool))]:List Mb8)else some b.n2)).bind fun x1=>(Q3 { b with n2:=x1 }).bind fun x2=>some (x2.1,x2.2.1,x2.2.2)
def HS(b:BB):Nat→(Int×(List zG))→Option (((List zG)×Int)⊕(Unit))
 |0,_=>none
 |K+1,q=>(zl { b with i:=q.1 } 0 1048576).bind fun x1=>(zl { b with i:=x1.2 } 0 1048576).bind fun x2=>(grd (List.length (q.2++([(zG.mk x1.1 x2.1)]:List zG))*16≤140737488355328)).bind fun _=>(yt { b with i:=x2.2 }).bind fun x4=>(bif (!x4)then some (Sum.inl ((q.2++([(zG.mk x1.1 x2.1)]:List zG)),x2.2))else HS b K (x2.2,(q.2++([(zG.mk x1.1 x2.1)]:List zG))))
def vL(b:BB):Option ((List zG)×Int) :=
 (HS { b with i:=0 } KK (b.i,[])).bind (yA some fun _=>none)
def wD(c0:List zG)(c1:Int):Nat→(Int×(List zI))→Option ((List zI))
 |0,_=>none
 |K+1,q=>(bif (decide (q.1<c1))then(idx c0 q.1).bind fun x1=>(grd ((c0.length:Int)≠0)).bind fun _=>(idx c0 (Int.tmod (w64 (q.1+1)) (c0.length:Int))).bind fun x3=>(grd (0≤q.1∧q.1<(((List.length q.2):Nat):Int))).bind fun _=>((q.2)[(Int.toNat q.1)]?).bind fun _=>wD c0 c1 K ((w64 (q.1+1)),(List.set q.2 (Int.toNat q.1) (zI.mk x1 x3)))else some q.2)
def Kq(p:List zG):Option ((List zI)) :=
 (grd (0≤(p.length:Int)∧(p.length:Int)*((32:Nat):Int)≤281474976710656∧(p.length:Int)≤9223372036854775807)).bind fun _=>(wD p (p.length:Int) KK (0,(List.replicate (Int.toNat (p.length:Int)) (zI.mk (zG.mk 0 0) (zG.mk 0 0))))).bind fun x2=>some x2
def Yu(p:zG):Option (Bool) :=
 (bif (decide (0≤p.X))then(bif (decide (p.X≤1048576))then(bif (decide (0≤p.Y))then some (decide (p.Y≤1048576))else some false)else some false)else some false)
def xd(s:zI):Option (Bool) :=
 some (decide (s.a.X=s.b.X))
def HU(x_:Int):Option (Bool) :=
 some (!(decide (x_=x_)))
def ku(x_:Int)(y:Int):Option (Int) :=
 (HU x_).bind fun x1=>(HU y).bind fun x2=>(bif x1 then(bif x2 then some 0 else some (-1))else(bif x2 then some 1 else(bif (decide (x_<y))then some (-1)else(bif (decide (x_>y))then some 1 else some 0))))
def qb(c0:Int)(c1:List Int)(c2:Int):Nat→(Int)→Option ((Int)⊕(Unit))
 |0,_=>none
 |K+1,q=>(bif (decide (q<c2))then(idx c1 q).bind fun x1=>(bif (!(decide (x1=c0)))then some (Sum.inl x1)else qb c0 c1 c2 K (w64 (q+1)))else some (Sum.inr ()))
def ZX(vals:List Int):Option (Int) :=
 (qb 0 vals (vals.length:Int) KK 0).bind (yA some fun _=>some 0)
def HV(a:zG)(b:zG):Option (Int) :=
 (ku a.X b.X).bind fun x1=>(ku a.Y b.Y).bind fun x2=>(ZX ([x1,x2]:List Int)).bind fun x3=>some x3
def Jp(s:zI)(t:zI):Option (Bool) :=
 (bif (decide ((max (min s.a.X s.b.X) (min t.a.X t.b.X))≤(min (max s.a.X s.b.X) (max t.a.X t.b.X))))then some (decide ((max (min s.a.Y s.b.Y) (min t.a.Y t.b.Y))≤(min (max s.a.Y s.b.Y) (max t.a.Y t.b.Y))))else some false)
def jP(c0:List zG)(c1:List zI)(c2:Int):Nat→(Int)→Option ((Bool)⊕(Unit))
 |0,_=>none
 |K+1,q=>(bif (decide (q<c2))then(idx c1 q).bind fun x1=>(grd ((c1.length:Int)≠0)).bind fun _=>(idx c1 (Int.tmod (w64 (q+1)) (c1.length:Int))).bind fun x3=>((Yu x1.a).bind fun x5=>(bif (!x5)then some true else(bif ((decide (x1.a.X=x1.b.X))==(decide (x1.a.Y=x1.b.Y)))then some true else(xd x1).bind fun x6=>(xd x3).bind fun x7=>some (x6==x7)))).bind fun x4=>(bif x4 then some (Sum.inl false)else((bif (decide (q>0))then(idx c0 0).bind fun x9=>(idx c0 q).bind fun x10=>(HV x9 x10).bind fun x11=>some (decide (x11≥0))else some false)).bind fun x8=>(bif x8 then some (Sum.inl false)else jP c0 c1 c2 K (w64 (q+1))))else some (Sum.inr ()))
def jQ(c0:List zI)(c1:Int)(c2:Int):Nat→(Int)→Option ((Bool)⊕(Unit))
 |0,_=>none
 |K+1,q=>(bif (decide (q<(c0.length:Int)))then((bif (decide ((w64 ((w64 (c1+(c0.length:Int)))-q))>1))then(idx c0 c1).bind fun x2=>(idx c0 q).bind fun x3=>(Jp x2 x3).bind fun x4=>some x4 else some false)).bind fun x1=>(bif x1 then some (Sum.inl false)else jQ c0 c1 c2 K (w64 (q+1)))else some (Sum.inr ()))
def jR(c0:List zI)(c1:Int):Nat→(Int)→Option ((Bool)⊕(Unit))
 |0,_=>none
 |K+1,q=>(bif (decide (q<c1))then(jQ c0 q c1 KK (w64 (q+2))).bind (yA (fun q=>some (Sum.inl q)) fun _=>jR c0 c1 K (w64 (q+1)))else some (Sum.inr ()))
def zca(p:List zG):Option (Bool) :=
 ((bif (decide ((p.length:Int)<4))then some true else some (decide ((p.length:Int)>60)))).bind fun x1=>(bif x1 then some false else(Kq p).bind fun x2=>(jP p x2 (x2.length:Int) KK 0).bind (yA some fun _=>(jR x2 (x2.length:Int) KK 0).bind (yA some fun _=>(idx x2 0).bind fun x5=>(xd x5).bind fun x6=>some (!x6))))
def wE(l:List zG):Option (Bool) :=
 (zca l).bind fun x1=>some x1
def Q4(b:BB):Option (Bs8×Int×(List Mb8)) :=
 (zO b).bind fun x1=>(zg b x1 14).bind fun _=>(zr b).bind fun x3=>(W3 b.n3).bind fun x4=>(zg { b with n3:=[x4] } (!((xw x3.2.1 x4).getD false)) 5).bind fun _=>(zr { b with n3:=[x4] }).bind fun x6=>(W3 [x4]).bind fun x7=>(zQ { b with n3:=[AJ x6.2.1 true x7] }).bind fun x8=>some (x8.1,x8.2,[AJ x6.2.1 true x7])
def zcb(b:BB):Option (Bs8×Int×(List Mb8)) :=
 ((bif (List.isEmpty b.n3)then some ([([]:List (Bs8×Bool))]:List Mb8)else some b.n3)).bind fun x1=>(Q4 { b with n3:=x1 }).bind fun x2=>some (x2.1,x2.2.1,x2.2.2)
def Q5(b:BB):Nat→(Int×(List Bs8))→Option (Int×(List Bs8))
 |0,_=>none
 |K+1,q=>(zO { b with i:=q.1 }).bind fun x1=>(bif x1 then(zQ { b with i:=q.1 }).bind fun x2=>(grd (List.length (q.2++([x2.1]:List Bs8))*16≤140737488355328)).bind fun _=>Q5 b K (x2.2,(q.2++([x2.1]:List Bs8)))else some (q.1,q.2))
def Wq(b:BB):Option ((List Bs8)×Int) :=
 (zQ b).bind fun x1=>(Q5 { b with i:=0 } KK (x1.2,([x1.1]:List Bs8))).bind fun x2=>some (x2.2,x2.1)
def Ad(a0:Bs8):Option ((List Bs8)):=V1 a0
def qc(c0:List Bs8)(c1:Bs8)(c2:Int):Nat→(Int)→Option ((Int)⊕(Unit))
 |0,_=>none
 |K+1,q=>(bif (decide (q<c2))then(idx c0 q).bind fun x1=>(bif (decide (c1=x1))then some (Sum.inl q)else qc c0 c1 c2 K (w64 (q+1)))else some (Sum.inr ()))
def K4(s:List Bs8)(v:Bs8):Option (Int) :=
 (qc s v (s.length:Int) KK 0).bind (yA some fun _=>some (-1))
def zcc(list:Bs8)(s:Bs8):Option (Int) :=
 (Ad list).bind fun x1=>(K4 x1 s).bind fun x2=>some x2
def wg(b:BB)(list:Bs8):Option (Int×Int) :=
 (zr b).bind fun x1=>(zcc list x1.2.1).bind fun x2=>((zr b).bind fun x4=>(bif (decide (x4.1=0))then(zg b (decide (x2≥0)) 14).bind fun _=>some ()else(zg b false 14).bind fun _=>some ())).bind fun _=>some (x2,(w64 (b.i+1)))
def Yv(b:BB):Nat→(Int×Int)→Option ((Int×Int)⊕(Unit))
 |0,_=>none
 | K+1,q=>(zr { b with i:=q.1 }).bind fun x1=>(zcc zm x1.2.1).bind fun x2=>((bif (decide (q.2>0))then(bif (decide (x2<0))then some true else(zr { b with i:=q.1 }).bind fun x4=>some (!(decide (x4.1=0))))else some false)).bind fun x3=>(bif x3 then some (Sum.inl (q.2,q.1))else((bif (decide (x2<0))then(zg { b with i:=q.1 } true 5).bind fun _=>some ()else(grd (0≤x2)).bind fun _=>(zg { b with i:=q.1 } (decide ((IntKind.i64.wrap ((BitVec.ofInt IntKind.i64.bits (Int.fdiv q.2 (2 ^ (min (Int.toNat x2) IntKind.i64.bits))) &&& BitVec.ofInt IntKind.i64.bits 1).toNat:Int))=0)) 5).bind fun _=>some ())).bind fun _=>(wg { b with i:=q.1 } zm).bind fun x9=>(grd (0≤x9.1)).bind fun _=>Yv b K (x9.2,(IntKind.i64.wrap ((BitVec.ofInt IntKind.i64.bits q.2 ||| BitVec.ofInt IntKind.i64.bits (w64 (1*2 ^ (min (Int.toNat x9.1) IntKind.i64.bits)))).toNat:Int))))
def zq0(b:BB):Option (Int×Int) :=
 (Yv { b with i:=0 } KK (b.i,0)).bind (yA some fun _=>none)
def Wr(b:BB):Option (Int×(List zB)×(List Mb8)) :=
 (zcb b).bind fun x1=>((zD { b with i:=x1.2.1,n3:=x1.2.2 } ZA).bind fun x3=>(bif x3.1 then(Wq { b with i:=x3.2,n3:=x1.2.2 }).bind fun x4=>some (x4.2,x4.1)else some (x3.2,[]))).bind fun x2=>((zD { b with i:=x2.1,n3:=x1.2.2 } yy).bind fun x6=>(bif x6.1 then(Wq { b with i:=x6.2,n3:=x1.2.2 }).bind fun x7=>some (x7.2,x7.1)else some (x6.2,[]))).bind fun x5=>((zD { b with i:=x5.1,n3:=x1.2.2 } wc).bind fun x9=>(bif x9.1 then(zl { b with i:=x9.2,n3:=x1.2.2 } 0 1073741824).bind fun x10=>some (x10.2,x10.1)else some (x9.2,0))).bind fun x8=>((zD { b with i:=x8.1,n3:=x1.2.2 } yQ).bind fun x12=>(bif x12.1 then(zl { b with i:=x12.2,n3:=x1.2.2 } (w64 (x8.2+1)) 1073741824).bind fun x13=>some (x13.2,x13.1)else some (x12.2,0))).bind fun x11=>((zD { b with i:=x11.1,n3:=x1.2.2 } yW).bind fun x15=>(bif x15.1 then(zl { b with i:=x15.2,n3:=x1.2.2 } 0 1073741824).bind fun x16=>some (x16.2,x16.1)else some (x15.2,0))).bind fun x14=>(zD { b with i:=x14.1,n3:=x1.2.2 } K2).bind fun x17=>(zA { b with i:=x17.2,n3:=x1.2.2 } o5).bind fun x18=>((zD { b with i:=x18,n3:=x1.2.2 } HI).bind fun x20=>(bif x20.1 then(zl { b with i:=x20.2,n3:=x1.2.2 } 0 3).bind fun x21=>(zA { b with i:=x21.2,n3:=x1.2.2 } K1).bind fun x22=>(zl { b with i:=x22,n3:=x1.2.2 } 0 4096).bind fun x23=>(zA { b with i:=x23.2,n3:=x1.2.2 } AM).bind fun x24=>(zl { b with i:=x24,n3:=x1.2.2 } 0 4096).bind fun x25=>(zl { b with i:=x25.2,n3:=x1.2.2 } 1 4096).bind fun x26=>(zA { b with i:=x26.2,n3:=x1.2.2 } jg).bind fun x27=>some (x27,1,0,0,([]:Bs8),([]:Bs8),[],x21.1,x23.1,x25.1,x26.1,0,0,0)else(zD { b with i:=x20.2,n3:=x1.2.2 } JM).bind fun x28=>(bif x28.1 then(zq0 { b with i:=x28.2,n3:=x1.2.2 }).bind fun x29=>(zA { b with i:=x29.2,n3:=x1.2.2 } jg).bind fun x30=>some (x30,2,0,0,([]:Bs8),([]:Bs8),[],0,0,0,0,x29.1,0,0)else(zD { b with i:=x28.2,n3:=x1.2.2 } HH).bind fun x31=>(bif x31.1 then(wg { b with i:=x31.2,n3:=x1.2.2 } zm).bind fun x32=>(wg { b with i:=x32.2,n3:=x1.2.2 } zm).bind fun x33=>(zl { b with i:=x33.2,n3:=x1.2.2 } 0 1048576).bind fun x34=>(zA { b with i:=x34.2,n3:=x1.2.2 } jg).bind fun x35=>some (x35,3,0,0,([]:Bs8),([]:Bs8),[],0,0,0,0,x32.1,x33.1,x34.1)else(ye KK { b with i:=x31.2,n3:=x1.2.2 } 0).bind fun x36=>(uC KK (Expr.mk x36.2.1 x36.2.2.1 x36.2.2.2.1 x36.2.2.2.2.1 x36.2.2.2.2.2)).bind fun x37=>(qa { b with i:=x36.1,n3:=x1.2.2 } (decide (x37≤12)) 6).bind fun x38=>some (x38,0,x36.2.1,x36.2.2.1,x36.2.2.2.1,x36.2.2.2.2.1,x36.2.2.2.2.2,0,0,0,0,0,0,0))))).bind fun x19=>(grd (List.length (b.R++([(zB.mk x1.1 x2.2 x5.2 x8.2 x11.2 x14.2 x17.1 x19.2.1 (Expr.mk x19.2.2.1 x19.2.2.2.1 x19.2.2.2.2.1 x19.2.2.2.2.2.1 x19.2.2.2.2.2.2.1) (zt.mk x19.2.2.2.2.2.2.2.1 x19.2.2.2.2.2.2.2.2.1 x19.2.2.2.2.2.2.2.2.2.1 x19.2.2.2.2.2.2.2.2.2.2.1) x19.2.2.2.2.2.2.2.2.2.2.2.1 x19.2.2.2.2.2.2.2.2.2.2.2.2.1 x19.2.2.2.2.2.2.2.2.2.2.2.2.2)]:List zB))*232≤140737488355328)).bind fun _=>some (x19.1,(b.R++([(zB.mk x1.1 x2.2 x5.2 x8.2 x11.2 x14.2 x17.1 x19.2.1 (Expr.mk x19.2.2.1 x19.2.2.2.1 x19.2.2.2.2.1 x19.2.2.2.2.2.1 x19.2.2.2.2.2.2.1) (zt.mk x19.2.2.2.2.2.2.2.1 x19.2.2.2.2.2.2.2.2.1 x19.2.2.2.2.2.2.2.2.2.1 x19.2.2.2.2.2.2.2.2.2.2.1) x19.2.2.2.2.2.2.2.2.2.2.2.1 x19.2.2.2.2.2.2.2.2.2.2.2.2.1 x19.2.2.2.2.2.2.2.2.2.2.2.2.2)]:List zB)),x1.2.2)
def Q6(b:BB):Option (Bs8×Int×(List Mb8)) :=
 (zO b).bind fun x1=>(zg b x1 14).bind fun _=>(zr b).bind fun x3=>(W3 b.n4).bind fun x4=>(zg { b with n4:=[x4] } (!((xw x3.2.1 x4).getD false)) 5).bind fun _=>(zr { b with n4:=[x4] }).bind fun x6=>(W3 [x4]).bind fun x7=>(zQ { b with n4:=[AJ x6.2.1 true x7] }).bind fun x8=>some (x8.1,x8.2,[AJ x6.2.1 true x7])
def JR(b:BB):Option (Bs8×Int×(List Mb8)) :=
 ((bif (List.isEmpty b.n4)then some ([([]:List (Bs8×Bool))]:List Mb8)else some b.n4)).bind fun x1=>(Q6 { b with n4:=x1 }).bind fun x2=>some (x2.1,x2.2.1,x2.2.2)
def Q7(b:BB):Option (Bs8×Int×(List Mb8)) :=
 (zO b).bind fun x1=>(zg b x1 14).bind fun _=>(zr b).bind fun x3=>(W3 b.n5).bind fun x4=>(zg { b with n5:=[x4] } (!((xw x3.2.1 x4).getD false)) 5).bind fun _=>(zr { b with n5:=[x4] }).bind fun x6=>(W3 [x4]).bind fun x7=>(zQ { b with n5:=[AJ x6.2.1 true x7] }).bind fun x8=>some (x8.1,x8.2,[AJ x6.2.1 true x7])
def zcd(b:BB):Option (Bs8×Int×(List Mb8)) :=
 ((bif (List.isEmpty b.n5)then some ([([]:List (Bs8×Bool))]:List Mb8)else some b.n5)).bind fun x1=>(Q7 { b with n5:=x1 }).bind fun x2=>some (x2.1,x2.2.1,x2.2.2)
def oD(b:BB):Option (Int×Int×Int×Int) :=
 (zl b 0 1048576).bind fun x1=>(zl { b with i:=x1.2 } 0 1048576).bind fun x2=>(zl { b with i:=x2.2 } 0 4096).bind fun x3=>some (x3.2,x1.1,x2.1,x3.1)
def Q8(b:BB)(c15:(List Mb8))(c16:Bs8)(c17:Int)(c18:Int)(c19:Int)(c20:Int):Nat→(Int×(List zf))→Option (Int×(List zf))
 |0,_=>none
 |K+1,q=>(yt { b with i:=q.1,n5:=c15 }).bind fun x1=>(bif x1 then(zg { b with i:=q.1,n5:=c15 } (decide ((((List.length q.2):Nat):Int)<20)) 6).bind fun _=>(oD { b with i:=q.1,n5:=c15 }).bind fun x3=>(grd (List.length (q.2++([(zf.mk x3.2.1 x3.2.2.1 x3.2.2.2)]:List zf))*24≤140737488355328)).bind fun _=>Q8 b c15 c16 c17 c18 c19 c20 K (x3.1,(q.2++([(zf.mk x3.2.1 x3.2.2.1 x3.2.2.2)]:List zf)))else some (q.1,q.2))
def Ws(b:BB):Option (Int×(List View)×(List Mb8)) :=
 (zcd b).bind fun x1=>(oD { b with i:=x1.2.1,n5:=x1.2.2 }).bind fun x2=>(zA { b with i:=x2.1,n5:=x1.2.2 } AL).bind fun x3=>(zl { b with i:=x3,n5:=x1.2.2 } 0 20).bind fun x4=>(zA { b with i:=x4.2,n5:=x1.2.2 } o5).bind fun x5=>(oD { b with i:=x5,n5:=x1.2.2 }).bind fun x6=>(grd (List.length (([]:List zf)++([(zf.mk x6.2.1 x6.2.2.1 x6.2.2.2)]:List zf))*24≤140737488355328)).bind fun _=>(Q8 { b with i:=0,n5:=[] } x1.2.2 x1.1 x2.2.1 x2.2.2.1 x2.2.2.2 x4.1 KK (x6.1,(([]:List zf)++([(zf.mk x6.2.1 x6.2.2.1 x6.2.2.2)]:List zf)))).bind fun x8=>(zA { b with i:=x8.1,n5:=x1.2.2 } jg).bind fun x9=>(grd (List.length (b.V++([(View.mk x1.1 (zf.mk x2.2.1 x2.2.2.1 x2.2.2.2) x4.1 x8.2)]:List View))*72≤140737488355328)).bind fun _=>some (x9,(b.V++([(View.mk x1.1 (zf.mk x2.2.1 x2.2.2.1 x2.2.2.2) x4.1 x8.2)]:List View)),x1.2.2)
def Yw(b:BB):Nat→(Int×(List zf)×Bool)→Option (Int×(List zf))
 |0,_=>none
 |K+1,q=>(bif q.2.2 then((jw { b with i:=q.1,S:=q.2.1 } Yn).bind fun x2=>(bif x2 then(zg { b with i:=q.1,S:=q.2.1 } true 14).bind fun _=>some ()else(yt { b with i:=q.1,S:=q.2.1 }).bind fun x4=>(zg { b with i:=q.1,S:=q.2.1 } x4 14).bind fun _=>some ())).bind fun _=>(zg { b with i:=q.1,S:=q.2.1 } (decide ((((List.length q.2.1):Nat):Int)<24)) 6).bind fun _=>(vK { b with i:=q.1,S:=q.2.1 } 4096).bind fun x7=>(vK { b with i:=x7.2,S:=q.2.1 } 4096).bind fun x8=>(zl { b with i:=x8.2,S:=q.2.1 } 1 4096).bind fun x9=>(grd (List.length (q.2.1++([(zf.mk x7.1 x8.1 x9.1)]:List zf))*24≤140737488355328)).bind fun _=>(zD { b with i:=x9.2,S:=(q.2.1++([(zf.mk x7.1 x8.1 x9.1)]:List zf)) } zb4).bind fun x11=>Yw b K (x11.2,(q.2.1++([(zf.mk x7.1 x8.1 x9.1)]:List zf)),x11.1)else some (q.1,q.2.1))
def zce(b:BB):Option (Int×(List zf)) :=
 (Yw { b with i:=0,S:=[] } KK (b.i,b.S,true)).bind fun x1=>(zA { b with i:=x1.1,S:=x1.2 } jg).bind fun x2=>some (x2,x1.2)
def zb(b:BB)(q:Int×Int×Bool×(List Def)×(List Table)×(List zY)×(List zB)×(List Cap)×(List View)×(List zf)×(List Mb8)×(List Mb8)×(List Mb8)×(List Mb8)×(List Mb8)×(List Mb8)):BB:={ b with i:=q.1,H:=q.2.1,h:=q.2.2.1,D:=q.2.2.2.1,T:=q.2.2.2.2.1,Z:=q.2.2.2.2.2.1,R:=q.2.2.2.2.2.2.1,C:=q.2.2.2.2.2.2.2.1,V:=q.2.2.2.2.2.2.2.2.1,S:=q.2.2.2.2.2.2.2.2.2.1,n0:=q.2.2.2.2.2.2.2.2.2.2.1,n1:=q.2.2.2.2.2.2.2.2.2.2.2.1,n2:=q.2.2.2.2.2.2.2.2.2.2.2.2.1,n3:=q.2.2.2.2.2.2.2.2.2.2.2.2.2.1,n4:=q.2.2.2.2.2.2.2.2.2.2.2.2.2.2.1,n5:=q.2.2.2.2.2.2.2.2.2.2.2.2.2.2.2 }
def yo(b:BB):Nat→(Int×Int×Bool×(List Def)×(List Table)×(List zY)×(List zB)×(List Cap)×(List View)×(List zf)×(List Mb8)×(List Mb8)×(List Mb8)×(List Mb8)×(List Mb8)×(List Mb8))→Option (Int×Int×Bool×(List Def)×(List Table)×(List zY)×(List zB)×(List Cap)×(List View)×(List zf)×(List Mb8)×(List Mb8)×(List Mb8)×(List Mb8)×(List Mb8)×(List Mb8))
 |0,_=>none
 |K+1,q=>(zr { (zb b q)with l:=b.l }).bind fun x1=>(bif (!(decide (x1.1=3)))then(zr { (zb b q)with l:=b.l }).bind fun x2=>(bif (decide (x2.2.1=uz))then(yU { (zb b q)with l:=b.l } (((List.length ((zb b q).D)):Nat):Int) 60).bind fun x3=>(Yt { (zb b q)with l:=b.l,i:=x3 }).bind fun x4=>yo b K (x4.1,(zb b q).H,(zb b q).h,x4.2.1,(zb b q).T,(zb b q).Z,(zb b q).R,(zb b q).C,(zb b q).V,(zb b q).S,x4.2.2,(zb b q).n1,(zb b q).n2,(zb b q).n3,(zb b q).n4,(zb b q).n5)else(bif (decide (x2.2.1=wC))then(yU { (zb b q)with l:=b.l } (((List.length ((zb b q).T)):Nat):Int) 60).bind fun x5=>(zb9 { (zb b q)with l:=b.l,i:=x5 }).bind fun x6=>yo b K (x6.1,(zb b q).H,(zb b q).h,(zb b q).D,x6.2.1,(zb b q).Z,(zb b q).R,(zb b q).C,(zb b q).V,(zb b q).S,(zb b q).n0,x6.2.2,(zb b q).n2,(zb b q).n3,(zb b q).n4,(zb b q).n5)else(bif (decide (x2.2.1=kq))then(bif (decide (x2.2.1=kq))then(jw { (zb b q)with l:=b.l } yX).bind fun x7=>(yU { (zb b q)with l:=b.l } (((List.length ((zb b q).Z)):Nat):Int) 60).bind fun x8=>(JQ { (zb b q)with l:=b.l,i:=x8 }).bind fun x9=>(vL { (zb b q)with l:=b.l,i:=x9.2.1,n2:=x9.2.2 }).bind fun x10=>(wE x10.1).bind fun x11=>(qa { (zb b q)with l:=b.l,i:=x10.2,n2:=x9.2.2 } x11 10).bind fun x12=>(grd (List.length ((zb b q).Z++([(zY.mk x9.1 x7 x10.1)]:List zY))*48≤140737488355328)).bind fun _=>yo b K (x12,(zb b q).H,(zb b q).h,(zb b q).D,(zb b q).T,((zb b q).Z++([(zY.mk x9.1 x7 x10.1)]:List zY)),(zb b q).R,(zb b q).C,(zb b q).V,(zb b q).S,(zb b q).n0,(zb b q).n1,x9.2.2,(zb b q).n3,(zb b q).n4,(zb b q).n5)else(bif (decide (x2.2.1=qQ))then(yU { (zb b q)with l:=b.l } (((List.length ((zb b q).R)):Nat):Int) 200).bind fun x14=>(Wr { (zb b q)with l:=b.l,i:=x14 }).bind fun x15=>yo b K (x15.1,(zb b q).H,(zb b q).h,(zb b q).D,(zb b q).T,(zb b q).Z,x15.2.1,(zb b q).C,(zb b q).V,(zb b q).S,(zb b q).n0,(zb b q).n1,(zb b q).n2,x15.2.2,(zb b q).n4,(zb b q).n5)else(bif (decide (x2.2.1=zby))then(yU { (zb b q)with l:=b.l } (((List.length ((zb b q).C)):Nat):Int) 30).bind fun x16=>(JR { (zb b q)with l:=b.l,i:=x16 }).bind fun x17=>(wg { (zb b q)with l:=b.l,i:=x17.2.1,n4:=x17.2.2 } zZ).bind fun x18=>(zl { (zb b q)with l:=b.l,i:=x18.2,n4:=x17.2.2 } 0 1099511627776).bind fun x19=>(vL { (zb b q)with l:=b.l,i:=x19.2,n4:=x17.2.2 }).bind fun x20=>(wE x20.1).bind fun x21=>(qa { (zb b q)with l:=b.l,i:=x20.2,n4:=x17.2.2 } x21 10).bind fun x22=>(grd (List.length ((zb b q).C++([(Cap.mk x17.1 x18.1 x19.1 x20.1)]:List Cap))*56≤140737488355328)).bind fun _=>yo b K (x22,(zb b q).H,(zb b q).h,(zb b q).D,(zb b q).T,(zb b q).Z,(zb b q).R,((zb b q).C++([(Cap.mk x17.1 x18.1 x19.1 x20.1)]:List Cap)),(zb b q).V,(zb b q).S,(zb b q).n0,(zb b q).n1,(zb b q).n2,(zb b q).n3,x17.2.2,(zb b q).n5)else(bif (decide (x2.2.1=JN))then(yU { (zb b q)with l:=b.l } (((List.length ((zb b q).V)):Nat):Int) 60).bind fun x24=>(Ws { (zb b q)with l:=b.l,i:=x24 }).bind fun x25=>yo b K (x25.1,(zb b q).H,(zb b q).h,(zb b q).D,(zb b q).T,(zb b q).Z,(zb b q).R,(zb b q).C,x25.2.1,(zb b q).S,(zb b q).n0,(zb b q).n1,(zb b q).n2,(zb b q).n3,(zb b q).n4,x25.2.2)else(bif (decide (x2.2.1=oB))then(zg { (zb b q)with l:=b.l } (decide (((List.length ((zb b q).S)):Nat)=0)) 5).bind fun _=>(zce { (zb b q)with l:=b.l,i:=(w64 ((zb b q).i+1)) }).bind fun x27=>yo b K (x27.1,(zb b q).H,(zb b q).h,(zb b q).D,(zb b q).T,(zb b q).Z,(zb b q).R,(zb b q).C,(zb b q).V,x27.2,(zb b q).n0,(zb b q).n1,(zb b q).n2,(zb b q).n3,(zb b q).n4,(zb b q).n5)else(bif (decide (x2.2.1=xO))then(zg { (zb b q)with l:=b.l } (!(zb b q).h) 5).bind fun _=>(zl { (zb b q)with l:=b.l,i:=(w64 ((zb b q).i+1)) } 0 24).bind fun x29=>(zA { (zb b q)with l:=b.l,i:=x29.2,H:=x29.1,h:=true } jg).bind fun x30=>yo b K (x30,x29.1,true,(zb b q).D,(zb b q).T,(zb b q).Z,(zb b q).R,(zb b q).C,(zb b q).V,(zb b q).S,(zb b q).n0,(zb b q).n1,(zb b q).n2,(zb b q).n3,(zb b q).n4,(zb b q).n5)else none))))))else(bif (decide (x2.2.1=yX))then(jw { (zb b q)with l:=b.l } yX).bind fun x31=>(yU { (zb b q)with l:=b.l } (((List.length ((zb b q).Z)):Nat):Int) 60).bind fun x32=>(JQ { (zb b q)with l:=b.l,i:=x32 }).bind fun x33=>(vL { (zb b q)with l:=b.l,i:=x33.2.1,n2:=x33.2.2 }).bind fun x34=>(wE x34.1).bind fun x35=>(qa { (zb b q)with l:=b.l,i:=x34.2,n2:=x33.2.2 } x35 10).bind fun x36=>(grd (List.length ((zb b q).Z++([(zY.mk x33.1 x31 x34.1)]:List zY))*48≤140737488355328)).bind fun _=>yo b K (x36,(zb b q).H,(zb b q).h,(zb b q).D,(zb b q).T,((zb b q).Z++([(zY.mk x33.1 x31 x34.1)]:List zY)),(zb b q).R,(zb b q).C,(zb b q).V,(zb b q).S,(zb b q).n0,(zb b q).n1,x33.2.2,(zb b q).n3,(zb b q).n4,(zb b q).n5)else(bif (decide (x2.2.1=qQ))then(yU { (zb b q)with l:=b.l } (((List.length ((zb b q).R)):Nat):Int) 200).bind fun x38=>(Wr { (zb b q)with l:=b.l,i:=x38 }).bind fun x39=>yo b K (x39.1,(zb b q).H,(zb b q).h,(zb b q).D,(zb b q).T,(zb b q).Z,x39.2.1,(zb b q).C,(zb b q).V,(zb b q).S,(zb b q).n0,(zb b q).n1,(zb b q).n2,x39.2.2,(zb b q).n4,(zb b q).n5)else(bif (decide (x2.2.1=zby))then(yU { (zb b q)with l:=b.l } (((List.length ((zb b q).C)):Nat):Int) 30).bind fun x40=>(JR { (zb b q)with l:=b.l,i:=x40 }).bind fun x41=>(wg { (zb b q)with l:=b.l,i:=x41.2.1,n4:=x41.2.2 } zZ).bind fun x42=>(zl { (zb b q)with l:=b.l,i:=x42.2,n4:=x41.2.2 } 0 1099511627776).bind fun x43=>(vL { (zb b q)with l:=b.l,i:=x43.2,n4:=x41.2.2 }).bind fun x44=>(wE x44.1).bind fun x45=>(qa { (zb b q)with l:=b.l,i:=x44.2,n4:=x41.2.2 } x45 10).bind fun x46=>(grd (List.length ((zb b q).C++([(Cap.mk x41.1 x42.1 x43.1 x44.1)]:List Cap))*56≤140737488355328)).bind fun _=>yo b K (x46,(zb b q).H,(zb b q).h,(zb b q).D,(zb b q).T,(zb b q).Z,(zb b q).R,((zb b q).C++([(Cap.mk x41.1 x42.1 x43.1 x44.1)]:List Cap)),(zb b q).V,(zb b q).S,(zb b q).n0,(zb b q).n1,(zb b q).n2,(zb b q).n3,x41.2.2,(zb b q).n5)else(bif (decide (x2.2.1=JN))then(yU { (zb b q)with l:=b.l } (((List.length ((zb b q).V)):Nat):Int) 60).bind fun x48=>(Ws { (zb b q)with l:=b.l,i:=x48 }).bind fun x49=>yo b K (x49.1,(zb b q).H,(zb b q).h,(zb b q).D,(zb b q).T,(zb b q).Z,(zb b q).R,(zb b q).C,x49.2.1,(zb b q).S,(zb b q).n0,(zb b q).n1,(zb b q).n2,(zb b q).n3,(zb b q).n4,x49.2.2)else(bif (decide (x2.2.1=oB))then(zg { (zb b q)with l:=b.l } (decide (((List.length ((zb b q).S)):Nat)=0)) 5).bind fun _=>(zce { (zb b q)with l:=b.l,i:=(w64 ((zb b q).i+1)) }).bind fun x51=>yo b K (x51.1,(zb b q).H,(zb b q).h,(zb b q).D,(zb b q).T,(zb b q).Z,(zb b q).R,(zb b q).C,(zb b q).V,x51.2,(zb b q).n0,(zb b q).n1,(zb b q).n2,(zb b q).n3,(zb b q).n4,(zb b q).n5)else(bif (decide (x2.2.1=xO))then(zg { (zb b q)with l:=b.l } (!(zb b q).h) 5).bind fun _=>(zl { (zb b q)with l:=b.l,i:=(w64 ((zb b q).i+1)) } 0 24).bind fun x53=>(zA { (zb b q)with l:=b.l,i:=x53.2,H:=x53.1,h:=true } jg).bind fun x54=>yo b K (x54,x53.1,true,(zb b q).D,(zb b q).T,(zb b q).Z,(zb b q).R,(zb b q).C,(zb b q).V,(zb b q).S,(zb b q).n0,(zb b q).n1,(zb b q).n2,(zb b q).n3,(zb b q).n4,(zb b q).n5)else none)))))))))else some ((zb b q).i,(zb b q).H,(zb b q).h,(zb b q).D,(zb b q).T,(zb b q).Z,(zb b q).R,(zb b q).C,(zb b q).V,(zb b q).S,(zb b q).n0,(zb b q).n1,(zb b q).n2,(zb b q).n3,(zb b q).n4,(zb b q).n5))
def ztr(b:BB):Option (Int×Int×Bool×(List Def)×(List Table)×(List zY)×(List zB)×(List Cap)×(List View)×(List zf)×(List Mb8)×(List Mb8)×(List Mb8)×(List Mb8)×(List Mb8)×(List Mb8)) :=
 (yo { b with i:=0,D:=[],T:=[],Z:=[],R:=[],C:=[],V:=[],S:=[],H:=0,n0:=[],n1:=[],n2:=[],n3:=[],n4:=[],n5:=[],h:=false } KK (b.i,b.H,b.h,b.D,b.T,b.Z,b.R,b.C,b.V,b.S,b.n0,b.n1,b.n2,b.n3,b.n4,b.n5)).bind fun x1=>some (x1.1,x1.2.1,x1.2.2.1,x1.2.2.2.1,x1.2.2.2.2.1,x1.2.2.2.2.2.1,x1.2.2.2.2.2.2.1,x1.2.2.2.2.2.2.2.1,x1.2.2.2.2.2.2.2.2.1,x1.2.2.2.2.2.2.2.2.2.1,x1.2.2.2.2.2.2.2.2.2.2.1,x1.2.2.2.2.2.2.2.2.2.2.2.1,x1.2.2.2.2.2.2.2.2.2.2.2.2.1,x1.2.2.2.2.2.2.2.2.2.2.2.2.2.1,x1.2.2.2.2.2.2.2.2.2.2.2.2.2.2.1,x1.2.2.2.2.2.2.2.2.2.2.2.2.2.2.2)
def Kr(b:BB)(err:Int):Option (Int×Int) :=
 (zr b).bind fun x1=>some (x1.2.2.2,err)
def zx(b:BB)(is:Bool)(err:Int):Option (Int×Int) :=
 (bif (!is)then(orC (Kr b err) (fun x1=>some x1) none)else none)
def kv(b:BB)(have_:Int)(most:Int):Option (Int×Int) :=
 (orC (zx b (decide (have_<most)) 6) (fun x1=>some x1) ((zg b (decide (have_<most)) 6).bind fun _=>none))
def y5(b:BB):Option (Int×Int) :=
 (zO b).bind fun x1=>(orC (zx b x1 14) (fun x2=>some x2) ((zg b x1 14).bind fun _=>(idx b.l (w64 ((w64 (b.i+1))-1))).bind fun _=>none))
def zmy(b:BB):Option (Int×Int) :=
 (zO b).bind fun x1=>(orC (zx b x1 14) (fun x2=>some x2) ((zg b x1 14).bind fun _=>(zr b).bind fun x4=>(W3 b.n0).bind fun x5=>(orC (zx { b with n0:=[x5] } (!((xw x4.2.1 x5).getD false)) 5) (fun x6=>some x6) ((zg { b with n0:=[x5] } (!((xw x4.2.1 x5).getD false)) 5).bind fun _=>(zr { b with n0:=[x5] }).bind fun x8=>(W3 [x5]).bind fun x9=>(orC (y5 { b with n0:=[AJ x8.2.1 true x9] }) (fun x10=>some x10) ((zQ { b with n0:=[AJ x8.2.1 true x9] }).bind fun _=>none))))))
def zBc(b:BB):Option (Int×Int) :=
 ((bif (List.isEmpty b.n0)then some ([([]:List (Bs8×Bool))]:List Mb8)else some b.n0)).bind fun x1=>(orC (zmy { b with n0:=x1 }) (fun x2=>some x2) ((zb7 { b with n0:=x1 }).bind fun _=>none))
def yj(b:BB)(s:Bs8):Option (Int×Int) :=
 (zD b s).bind fun x1=>(orC (zx { b with i:=x1.2 } x1.1 14) (fun x2=>some x2) ((zg { b with i:=x1.2 } x1.1 14).bind fun _=>none))
def zJ(b:BB)(from_:Int)(to_:Int):Option (Int×Int) :=
 (yt b).bind fun x1=>(orC (zx b x1 14) (fun x2=>some x2) ((zg b x1 14).bind fun _=>(zr b).bind fun x4=>((bif (decide (x4.2.2.1≥from_))then(orC (zx b (decide (x4.2.2.1≤to_)) 3) (fun x6=>some (Sum.inl x6)) ((zg b (decide (x4.2.2.1≤to_)) 3).bind fun _=>some (Sum.inr ())))else(orC (zx b false 3) (fun x8=>some (Sum.inl x8)) ((zg b false 3).bind fun _=>some (Sum.inr ()))))).bind (yA some fun _=>none)))
def HW(b:BB)(c1:Int)(c17:Int)(c18:Int)(c19:List zj)(c20:Int)(c21:Int)(c22:Bs8)(c23:List Expr)(c24:Int)(c25:Int)(c26:Bs8)(c27:Bs8)(c28:List Expr):Nat→(Int×Bs8×Int×Int)→Option (Bs8×Int×Int)
 |0,_=>none
 |K+1,q=>(bif (decide (q.1<c20))then((idx c19 q.1).bind fun x2=>(jw { b with i:=c1 } x2.text).bind fun x3=>(bif x3 then some (x2.text,x2.op,x2.form)else some (q.2.1,q.2.2.1,q.2.2.2))).bind fun x1=>HW b c1 c17 c18 c19 c20 c21 c22 c23 c24 c25 c26 c27 c28 K ((w64 (q.1+1)),x1.1,x1.2.1,x1.2.2)else some (q.2.1,q.2.2.1,q.2.2.2))
def HX(r_p_q_expr_2:BB→Int→Option (Int×Int))(b:BB)(c16:Int)(c17:Int)(c18:Bs8)(c19:List Expr):Nat→(Int×Int×Int×Int×Bs8×Bs8×(List Expr))→Option ((Int×Int)⊕(Unit))
 |0,_=>none
 |K+1,q=>(jA).bind fun x1=>(HW { b with i:=0 } q.1 c16 q.2.1 x1 (x1.length:Int) c17 c18 c19 q.2.2.1 q.2.2.2.1 q.2.2.2.2.1 q.2.2.2.2.2.1 q.2.2.2.2.2.2 KK (0,([]:Bs8),0,0)).bind fun x2=>((bif (decide (x2.1=([]:Bs8)))then some true else(bif (decide (x2.2.2<c16))then some true else(bif (decide (q.2.1<x2.2.2))then some true else(bif (decide (q.2.1=4))then some (decide (x2.2.2=4))else some false))))).bind fun x3=>(bif x3 then none else(orC (r_p_q_expr_2 { b with i:=(w64 (q.1+1)) } (w64 (x2.2.2+1))) (fun x4=>some (Sum.inl x4)) ((ye KK { b with i:=(w64 (q.1+1)) } (w64 (x2.2.2+1))).bind fun x5=>HX r_p_q_expr_2 b c16 c17 c18 c19 K (x5.1,x2.2.2,x2.2.1,0,([]:Bs8),([]:Bs8),([(Expr.mk q.2.2.1 q.2.2.2.1 q.2.2.2.2.1 q.2.2.2.2.2.1 q.2.2.2.2.2.2),(Expr.mk x5.2.1 x5.2.2.1 x5.2.2.2.1 x5.2.2.2.2.1 x5.2.2.2.2.2)]:List Expr)))))
mutual
def Y3:Nat→BB→Int→Option (Int×Int)
 |0,_,_=>none
 |RK+1,b,form=>((bif (decide (form≤0))then(zD b zOi).bind fun x2=>some (x2.2,x2.1)else some (b.i,false))).bind fun x1=>(bif x1.2 then(orC (wh RK { b with i:=x1.1 } 0) (fun x3=>some x3) ((ye KK { b with i:=x1.1 } 0).bind fun x4=>(orC (yj { b with i:=x4.1 } Y1) (fun x5=>some x5) ((zA { b with i:=x4.1 } Y1).bind fun x6=>(orC (wh RK { b with i:=x6 } 0) (fun x7=>some x7) ((ye KK { b with i:=x6 } 0).bind fun x8=>(orC (yj { b with i:=x8.1 } kp) (fun x9=>some x9) ((zA { b with i:=x8.1 } kp).bind fun x10=>(orC (wh RK { b with i:=x10 } 0) (fun x11=>some x11) ((ye KK { b with i:=x10 } 0).bind fun _=>none))))))))))else((bif (decide (form≤3))then(zD { b with i:=x1.1 } zwt).bind fun x14=>some (x14.2,x14.1)else some (x1.1,false))).bind fun x13=>(bif x13.2 then(orC (wh RK { b with i:=x13.1 } 3) (fun x15=>some x15) ((ye KK { b with i:=x13.1 } 3).bind fun _=>none))else((bif (decide (form≤7))then(zD { b with i:=x13.1 } Yn).bind fun x18=>some (x18.2,x18.1)else some (x13.1,false))).bind fun x17=>(bif x17.2 then(orC (wh RK { b with i:=x17.1 } 7) (fun x19=>some x19) ((ye KK { b with i:=x17.1 } 7).bind fun _=>none))else(yt { b with i:=x17.1 }).bind fun x21=>(bif x21 then(orC (zJ { b with i:=x17.1 } 0 1099511627776) (fun x22=>some x22) ((zl { b with i:=x17.1 } 0 1099511627776).bind fun _=>none))else(zD { b with i:=x17.1 } wC).bind fun x24=>(bif x24.1 then(orC (y5 { b with i:=x24.2 }) (fun x25=>some x25) ((zQ { b with i:=x24.2 }).bind fun x26=>(orC (y5 { b with i:=x26.2 }) (fun x27=>some x27) ((zQ { b with i:=x26.2 }).bind fun _=>none))))else(zD { b with i:=x24.2 } kq).bind fun x29=>(bif x29.1 then(orC (y5 { b with i:=x29.2 }) (fun x30=>some x30) ((zQ { b with i:=x29.2 }).bind fun _=>none))else(zD { b with i:=x29.2 } zA7).bind fun x32=>(bif x32.1 then(orC (wh RK { b with i:=x32.2 } 0) (fun x33=>some x33) ((ye KK { b with i:=x32.2 } 0).bind fun x34=>(orC (yj { b with i:=x34.1 } zqw) (fun x35=>some x35) ((zA { b with i:=x34.1 } zqw).bind fun _=>none))))else(orC (y5 { b with i:=x32.2 }) (fun x37=>some x37) ((zQ { b with i:=x32.2 }).bind fun _=>none)))))))))
def wh:Nat→BB→Int→Option (Int×Int)
 |0,_,_=>none
 |RK+1,b,form=>(orC (Y3 RK b form) (fun x1=>some x1) ((JO KK b form).bind fun x2=>(HX (wh RK) { b with i:=0 } form 0 ([]:Bs8) [] KK (x2.2.1,x2.1,x2.2.2.1,x2.2.2.2.1,x2.2.2.2.2.1,x2.2.2.2.2.2.1,x2.2.2.2.2.2.2)).bind (yA some fun _=>none)))
end
def Q9(b:BB)(is:Bool)(err:Int):Option (Int×Int) :=
 (jw b jg).bind fun x1=>(orC (zx b x1 14) (fun x2=>some x2) ((zg b x1 14).bind fun _=>(orC (zx b is err) (fun x4=>some x4) ((zg b is err).bind fun _=>none))))
def zgl(b:BB):Option (Int×Int) :=
 (orC (zBc b) (fun x1=>some x1) ((zqz b).bind fun x2=>(orC (yj { b with i:=x2.2.1,n0:=x2.2.2 } zjn) (fun x3=>some x3) ((zA { b with i:=x2.2.1,n0:=x2.2.2 } zjn).bind fun x4=>(orC (wh KK { b with i:=x4,n0:=x2.2.2 } 0) (fun x5=>some x5) ((ye KK { b with i:=x4,n0:=x2.2.2 } 0).bind fun x6=>(uC KK (Expr.mk x6.2.1 x6.2.2.1 x6.2.2.2.1 x6.2.2.2.2.1 x6.2.2.2.2.2)).bind fun x7=>(orC (Q9 { b with i:=x6.1,n0:=x2.2.2 } (decide (x7≤12)) 6) (fun x8=>some x8) ((qa { b with i:=x6.1,n0:=x2.2.2 } (decide (x7≤12)) 6).bind fun _=>(grd (List.length (b.D++([(Def.mk x2.1 (Expr.mk x6.2.1 x6.2.2.1 x6.2.2.2.1 x6.2.2.2.2.1 x6.2.2.2.2.2))]:List Def))*88≤140737488355328)).bind fun _=>none))))))))
def zcf(b:BB):Option (Int×Int) :=
 (zO b).bind fun x1=>(orC (zx b x1 14) (fun x2=>some x2) ((zg b x1 14).bind fun _=>(zr b).bind fun x4=>(W3 b.n1).bind fun x5=>(orC (zx { b with n1:=[x5] } (!((xw x4.2.1 x5).getD false)) 5) (fun x6=>some x6) ((zg { b with n1:=[x5] } (!((xw x4.2.1 x5).getD false)) 5).bind fun _=>(zr { b with n1:=[x5] }).bind fun x8=>(W3 [x5]).bind fun x9=>(orC (y5 { b with n1:=[AJ x8.2.1 true x9] }) (fun x10=>some x10) ((zQ { b with n1:=[AJ x8.2.1 true x9] }).bind fun _=>none))))))
def zmz(b:BB):Option (Int×Int) :=
 ((bif (List.isEmpty b.n1)then some ([([]:List (Bs8×Bool))]:List Mb8)else some b.n1)).bind fun x1=>(orC (zcf { b with n1:=x1 }) (fun x2=>some x2) ((Q1 { b with n1:=x1 }).bind fun _=>none))
def zcg(b:BB)(known:Mb8):Option (Int×Int) :=
 (zO b).bind fun x1=>(orC (zx b x1 14) (fun x2=>some x2) ((zg b x1 14).bind fun _=>(zr b).bind fun x4=>(orC (zx b (!((xw x4.2.1 known).getD false)) 5) (fun x5=>some x5) ((zg b (!((xw x4.2.1 known).getD false)) 5).bind fun _=>(zr b).bind fun _=>(orC (y5 b) (fun x8=>some x8) ((zQ b).bind fun _=>none))))))
def A1(b:BB)(most:Int):Option (Int×Int) :=
 (zD b Yn).bind fun x1=>(bif x1.1 then(orC (zJ { b with i:=x1.2 } 0 most) (fun x2=>some x2) ((zl { b with i:=x1.2 } 0 most).bind fun _=>none))else(orC (zJ { b with i:=x1.2 } 0 most) (fun x4=>some x4) ((zl { b with i:=x1.2 } 0 most).bind fun _=>none)))
def JS(b:BB)(c15:(List Mb8))(c16:Bs8)(c17:Int):Nat→(Int×Mb8×(List Entry))→Option ((Int×Int)⊕(Int×(List Entry)))
 |0,_=>none
 |K+1,q=>(zO { b with i:=q.1,n1:=c15 }).bind fun x1=>(bif x1 then(orC (zx { b with i:=q.1,n1:=c15 } (decide ((((List.length q.2.2):Nat):Int)<60)) 6) (fun x2=>some (Sum.inl x2)) ((zg { b with i:=q.1,n1:=c15 } (decide ((((List.length q.2.2):Nat):Int)<60)) 6).bind fun _=>(orC (zcg { b with i:=q.1,n1:=c15 } q.2.1) (fun x4=>some (Sum.inl x4)) ((Q2 { b with i:=q.1,n1:=c15 } q.2.1).bind fun x5=>(orC (A1 { b with i:=x5.2.1,n1:=c15 } 1099511627776) (fun x6=>some (Sum.inl x6)) ((vK { b with i:=x5.2.1,n1:=c15 } 1099511627776).bind fun x7=>(grd (List.length (q.2.2++([(Entry.mk x5.1 x7.1)]:List Entry))*24≤140737488355328)).bind fun _=>JS b c15 c16 c17 K (x7.2,x5.2.2,(q.2.2++([(Entry.mk x5.1 x7.1)]:List Entry)))))))))else some (Sum.inr (q.1,q.2.2)))
def zm0(b:BB):Option (Int×Int) :=
 (orC (zmz b) (fun x1=>some x1) ((zb8 b).bind fun x2=>(JS { b with i:=0,n1:=[] } x2.2.2 x2.1 0 KK (x2.2.1,([]:List (Bs8×Bool)),([]:List Entry))).bind (yA some fun x3=>(orC (yj { b with i:=x3.1,n1:=x2.2.2 } kp) (fun x4=>some x4) ((zA { b with i:=x3.1,n1:=x2.2.2 } kp).bind fun x5=>(orC (A1 { b with i:=x5,n1:=x2.2.2 } 1099511627776) (fun x6=>some x6) ((vK { b with i:=x5,n1:=x2.2.2 } 1099511627776).bind fun x7=>(orC (yj { b with i:=x7.2,n1:=x2.2.2 } jg) (fun x8=>some x8) ((zA { b with i:=x7.2,n1:=x2.2.2 } jg).bind fun _=>(grd (List.length (b.T++([(Table.mk x2.1 x3.2 x7.1)]:List Table))*48≤140737488355328)).bind fun _=>none)))))))))
def zch(b:BB):Option (Int×Int) :=
 (zO b).bind fun x1=>(orC (zx b x1 14) (fun x2=>some x2) ((zg b x1 14).bind fun _=>(zr b).bind fun x4=>(W3 b.n2).bind fun x5=>(orC (zx { b with n2:=[x5] } (!((xw x4.2.1 x5).getD false)) 5) (fun x6=>some x6) ((zg { b with n2:=[x5] } (!((xw x4.2.1 x5).getD false)) 5).bind fun _=>(zr { b with n2:=[x5] }).bind fun x8=>(W3 [x5]).bind fun x9=>(orC (y5 { b with n2:=[AJ x8.2.1 true x9] }) (fun x10=>some x10) ((zQ { b with n2:=[AJ x8.2.1 true x9] }).bind fun _=>none))))))
def zci(b:BB):Option (Int×Int) :=
 ((bif (List.isEmpty b.n2)then some ([([]:List (Bs8×Bool))]:List Mb8)else some b.n2)).bind fun x1=>(orC (zch { b with n2:=x1 }) (fun x2=>some x2) ((Q3 { b with n2:=x1 }).bind fun _=>none))
def HY(b:BB):Nat→(Int×(List zG))→Option ((Int×Int)⊕(Unit))
 |0,_=>none
 |K+1,q=>(orC (zJ { b with i:=q.1 } 0 1048576) (fun x1=>some (Sum.inl x1)) ((zl { b with i:=q.1 } 0 1048576).bind fun x2=>(orC (zJ { b with i:=x2.2 } 0 1048576) (fun x3=>some (Sum.inl x3)) ((zl { b with i:=x2.2 } 0 1048576).bind fun x4=>(grd (List.length (q.2++([(zG.mk x2.1 x4.1)]:List zG))*16≤140737488355328)).bind fun _=>(yt { b with i:=x4.2 }).bind fun x6=>(bif (!x6)then none else HY b K (x4.2,(q.2++([(zG.mk x2.1 x4.1)]:List zG))))))))
def A2(b:BB):Option (Int×Int) :=
 (HY { b with i:=0 } KK (b.i,[])).bind (yA some fun _=>none)
def zcj(b:BB):Option (Int×Int) :=
 (zO b).bind fun x1=>(orC (zx b x1 14) (fun x2=>some x2) ((zg b x1 14).bind fun _=>(zr b).bind fun x4=>(W3 b.n3).bind fun x5=>(orC (zx { b with n3:=[x5] } (!((xw x4.2.1 x5).getD false)) 5) (fun x6=>some x6) ((zg { b with n3:=[x5] } (!((xw x4.2.1 x5).getD false)) 5).bind fun _=>(zr { b with n3:=[x5] }).bind fun x8=>(W3 [x5]).bind fun x9=>(orC (y5 { b with n3:=[AJ x8.2.1 true x9] }) (fun x10=>some x10) ((zQ { b with n3:=[AJ x8.2.1 true x9] }).bind fun _=>none))))))
def zm1(b:BB):Option (Int×Int) :=
 ((bif (List.isEmpty b.n3)then some ([([]:List (Bs8×Bool))]:List Mb8)else some b.n3)).bind fun x1=>(orC (zcj { b with n3:=x1 }) (fun x2=>some x2) ((Q4 { b with n3:=x1 }).bind fun _=>none))
def Va(b:BB):Nat→(Int×(List Bs8))→Option ((Int×Int)⊕(Int×(List Bs8)))
 |0,_=>none
 |K+1,q=>(zO { b with i:=q.1 }).bind fun x1=>(bif x1 then(orC (y5 { b with i:=q.1 }) (fun x2=>some (Sum.inl x2)) ((zQ { b with i:=q.1 }).bind fun x3=>(grd (List.length (q.2++([x3.1]:List Bs8))*16≤140737488355328)).bind fun _=>Va b K (x3.2,(q.2++([x3.1]:List Bs8)))))else some (Sum.inr (q.1,q.2)))
def zjo(b:BB):Option (Int×Int) :=
 (orC (y5 b) (fun x1=>some x1) ((zQ b).bind fun x2=>(Va { b with i:=0 } KK (x2.2,([x2.1]:List Bs8))).bind (yA some fun x3=>none)))
def uX(b:BB)(list:Bs8):Option (Int×Int) :=
 (zr b).bind fun x1=>(zcc list x1.2.1).bind fun x2=>((zr b).bind fun x4=>(bif (decide (x4.1=0))then(orC (zx b (decide (x2≥0)) 14) (fun x5=>some (Sum.inl x5)) ((zg b (decide (x2≥0)) 14).bind fun _=>some (Sum.inr ())))else(orC (zx b false 14) (fun x7=>some (Sum.inl x7)) ((zg b false 14).bind fun _=>some (Sum.inr ()))))).bind (yA some fun _=>none)
def Yx(b:BB):Nat→(Int×Int)→Option ((Int×Int)⊕(Unit))
 |0,_=>none
 | K+1,q=>(zr { b with i:=q.1 }).bind fun x1=>(zcc zm x1.2.1).bind fun x2=>((bif (decide (q.2>0))then(bif (decide (x2<0))then some true else(zr { b with i:=q.1 }).bind fun x4=>some (!(decide (x4.1=0))))else some false)).bind fun x3=>(bif x3 then none else((bif (decide (x2<0))then(orC (zx { b with i:=q.1 } true 5) (fun x6=>some (Sum.inl x6)) ((zg { b with i:=q.1 } true 5).bind fun _=>some (Sum.inr ())))else(grd (0≤x2)).bind fun _=>(orC (zx { b with i:=q.1 } (decide ((IntKind.i64.wrap ((BitVec.ofInt IntKind.i64.bits (Int.fdiv q.2 (2 ^ (min (Int.toNat x2) IntKind.i64.bits))) &&& BitVec.ofInt IntKind.i64.bits 1).toNat:Int))=0)) 5) (fun x9=>some (Sum.inl x9)) ((zg { b with i:=q.1 } (decide ((IntKind.i64.wrap ((BitVec.ofInt IntKind.i64.bits (Int.fdiv q.2 (2 ^ (min (Int.toNat x2) IntKind.i64.bits))) &&& BitVec.ofInt IntKind.i64.bits 1).toNat:Int))=0)) 5).bind fun _=>some (Sum.inr ()))))).bind (yA (fun q=>some (Sum.inl q)) fun _=>(orC (uX { b with i:=q.1 } zm) (fun x11=>some (Sum.inl x11)) ((wg { b with i:=q.1 } zm).bind fun x12=>(grd (0≤x12.1)).bind fun _=>Yx b K (x12.2,(IntKind.i64.wrap ((BitVec.ofInt IntKind.i64.bits q.2 ||| BitVec.ofInt IntKind.i64.bits (w64 (1*2 ^ (min (Int.toNat x12.1) IntKind.i64.bits)))).toNat:Int)))))))
def zBd(b:BB):Option (Int×Int) :=
 (Yx { b with i:=0 } KK (b.i,0)).bind (yA some fun _=>none)
def zjp(b:BB):Option (Int×Int) :=
 (orC (zm1 b) (fun x1=>some x1) ((zcb b).bind fun x2=>((zD { b with i:=x2.2.1,n3:=x2.2.2 } ZA).bind fun x4=>(bif x4.1 then(orC (zjo { b with i:=x4.2,n3:=x2.2.2 }) (fun x5=>some (Sum.inl x5)) ((Wq { b with i:=x4.2,n3:=x2.2.2 }).bind fun x6=>some (Sum.inr (x6.2,x6.1))))else some (Sum.inr (x4.2,[])))).bind (yA some fun x3=>((zD { b with i:=x3.1,n3:=x2.2.2 } yy).bind fun x8=>(bif x8.1 then(orC (zjo { b with i:=x8.2,n3:=x2.2.2 }) (fun x9=>some (Sum.inl x9)) ((Wq { b with i:=x8.2,n3:=x2.2.2 }).bind fun x10=>some (Sum.inr (x10.2,x10.1))))else some (Sum.inr (x8.2,[])))).bind (yA some fun x7=>((zD { b with i:=x7.1,n3:=x2.2.2 } wc).bind fun x12=>(bif x12.1 then(orC (zJ { b with i:=x12.2,n3:=x2.2.2 } 0 1073741824) (fun x13=>some (Sum.inl x13)) ((zl { b with i:=x12.2,n3:=x2.2.2 } 0 1073741824).bind fun x14=>some (Sum.inr (x14.2,x14.1))))else some (Sum.inr (x12.2,0)))).bind (yA some fun x11=>((zD { b with i:=x11.1,n3:=x2.2.2 } yQ).bind fun x16=>(bif x16.1 then(orC (zJ { b with i:=x16.2,n3:=x2.2.2 } (w64 (x11.2+1)) 1073741824) (fun x17=>some (Sum.inl x17)) ((zl { b with i:=x16.2,n3:=x2.2.2 } (w64 (x11.2+1)) 1073741824).bind fun x18=>some (Sum.inr (x18.2,x18.1))))else some (Sum.inr (x16.2,0)))).bind (yA some fun x15=>((zD { b with i:=x15.1,n3:=x2.2.2 } yW).bind fun x20=>(bif x20.1 then(orC (zJ { b with i:=x20.2,n3:=x2.2.2 } 0 1073741824) (fun x21=>some (Sum.inl x21)) ((zl { b with i:=x20.2,n3:=x2.2.2 } 0 1073741824).bind fun x22=>some (Sum.inr (x22.2,x22.1))))else some (Sum.inr (x20.2,0)))).bind (yA some fun x19=>(zD { b with i:=x19.1,n3:=x2.2.2 } K2).bind fun x23=>(orC (yj { b with i:=x23.2,n3:=x2.2.2 } o5) (fun x24=>some x24) ((zA { b with i:=x23.2,n3:=x2.2.2 } o5).bind fun x25=>((zD { b with i:=x25,n3:=x2.2.2 } HI).bind fun x27=>(bif x27.1 then(orC (zJ { b with i:=x27.2,n3:=x2.2.2 } 0 3) (fun x28=>some (Sum.inl x28)) ((zl { b with i:=x27.2,n3:=x2.2.2 } 0 3).bind fun x29=>(orC (yj { b with i:=x29.2,n3:=x2.2.2 } K1) (fun x30=>some (Sum.inl x30)) ((zA { b with i:=x29.2,n3:=x2.2.2 } K1).bind fun x31=>(orC (zJ { b with i:=x31,n3:=x2.2.2 } 0 4096) (fun x32=>some (Sum.inl x32)) ((zl { b with i:=x31,n3:=x2.2.2 } 0 4096).bind fun x33=>(orC (yj { b with i:=x33.2,n3:=x2.2.2 } AM) (fun x34=>some (Sum.inl x34)) ((zA { b with i:=x33.2,n3:=x2.2.2 } AM).bind fun x35=>(orC (zJ { b with i:=x35,n3:=x2.2.2 } 0 4096) (fun x36=>some (Sum.inl x36)) ((zl { b with i:=x35,n3:=x2.2.2 } 0 4096).bind fun x37=>(orC (zJ { b with i:=x37.2,n3:=x2.2.2 } 1 4096) (fun x38=>some (Sum.inl x38)) ((zl { b with i:=x37.2,n3:=x2.2.2 } 1 4096).bind fun x39=>(orC (yj { b with i:=x39.2,n3:=x2.2.2 } jg) (fun x40=>some (Sum.inl x40)) ((zA { b with i:=x39.2,n3:=x2.2.2 } jg).bind fun x41=>some (Sum.inr (x41,1,0,0,([]:Bs8),([]:Bs8),[],x29.1,x33.1,x37.1,x39.1,0,0,0))))))))))))))))else(zD { b with i:=x27.2,n3:=x2.2.2 } JM).bind fun x42=>(bif x42.1 then(orC (zBd { b with i:=x42.2,n3:=x2.2.2 }) (fun x43=>some (Sum.inl x43)) ((zq0 { b with i:=x42.2,n3:=x2.2.2 }).bind fun x44=>(orC (yj { b with i:=x44.2,n3:=x2.2.2 } jg) (fun x45=>some (Sum.inl x45)) ((zA { b with i:=x44.2,n3:=x2.2.2 } jg).bind fun x46=>some (Sum.inr (x46,2,0,0,([]:Bs8),([]:Bs8),[],0,0,0,0,x44.1,0,0))))))else(zD { b with i:=x42.2,n3:=x2.2.2 } HH).bind fun x47=>(bif x47.1 then(orC (uX { b with i:=x47.2,n3:=x2.2.2 } zm) (fun x48=>some (Sum.inl x48)) ((wg { b with i:=x47.2,n3:=x2.2.2 } zm).bind fun x49=>(orC (uX { b with i:=x49.2,n3:=x2.2.2 } zm) (fun x50=>some (Sum.inl x50)) ((wg { b with i:=x49.2,n3:=x2.2.2 } zm).bind fun x51=>(orC (zJ { b with i:=x51.2,n3:=x2.2.2 } 0 1048576) (fun x52=>some (Sum.inl x52)) ((zl { b with i:=x51.2,n3:=x2.2.2 } 0 1048576).bind fun x53=>(orC (yj { b with i:=x53.2,n3:=x2.2.2 } jg) (fun x54=>some (Sum.inl x54)) ((zA { b with i:=x53.2,n3:=x2.2.2 } jg).bind fun x55=>some (Sum.inr (x55,3,0,0,([]:Bs8),([]:Bs8),[],0,0,0,0,x49.1,x51.1,x53.1))))))))))else(orC (wh KK { b with i:=x47.2,n3:=x2.2.2 } 0) (fun x56=>some (Sum.inl x56)) ((ye KK { b with i:=x47.2,n3:=x2.2.2 } 0).bind fun x57=>(uC KK (Expr.mk x57.2.1 x57.2.2.1 x57.2.2.2.1 x57.2.2.2.2.1 x57.2.2.2.2.2)).bind fun x58=>(orC (Q9 { b with i:=x57.1,n3:=x2.2.2 } (decide (x58≤12)) 6) (fun x59=>some (Sum.inl x59)) ((qa { b with i:=x57.1,n3:=x2.2.2 } (decide (x58≤12)) 6).bind fun x60=>some (Sum.inr (x60,0,x57.2.1,x57.2.2.1,x57.2.2.2.1,x57.2.2.2.2.1,x57.2.2.2.2.2,0,0,0,0,0,0,0)))))))))).bind (yA some fun x26=>(grd (List.length (b.R++([(zB.mk x2.1 x3.2 x7.2 x11.2 x15.2 x19.2 x23.1 x26.2.1 (Expr.mk x26.2.2.1 x26.2.2.2.1 x26.2.2.2.2.1 x26.2.2.2.2.2.1 x26.2.2.2.2.2.2.1) (zt.mk x26.2.2.2.2.2.2.2.1 x26.2.2.2.2.2.2.2.2.1 x26.2.2.2.2.2.2.2.2.2.1 x26.2.2.2.2.2.2.2.2.2.2.1) x26.2.2.2.2.2.2.2.2.2.2.2.1 x26.2.2.2.2.2.2.2.2.2.2.2.2.1 x26.2.2.2.2.2.2.2.2.2.2.2.2.2)]:List zB))*232≤140737488355328)).bind fun _=>none))))))))))
def zck(b:BB):Option (Int×Int) :=
 (zO b).bind fun x1=>(orC (zx b x1 14) (fun x2=>some x2) ((zg b x1 14).bind fun _=>(zr b).bind fun x4=>(W3 b.n4).bind fun x5=>(orC (zx { b with n4:=[x5] } (!((xw x4.2.1 x5).getD false)) 5) (fun x6=>some x6) ((zg { b with n4:=[x5] } (!((xw x4.2.1 x5).getD false)) 5).bind fun _=>(zr { b with n4:=[x5] }).bind fun x8=>(W3 [x5]).bind fun x9=>(orC (y5 { b with n4:=[AJ x8.2.1 true x9] }) (fun x10=>some x10) ((zQ { b with n4:=[AJ x8.2.1 true x9] }).bind fun _=>none))))))
def zcl(b:BB):Option (Int×Int) :=
 ((bif (List.isEmpty b.n4)then some ([([]:List (Bs8×Bool))]:List Mb8)else some b.n4)).bind fun x1=>(orC (zck { b with n4:=x1 }) (fun x2=>some x2) ((Q6 { b with n4:=x1 }).bind fun _=>none))
def zcm(b:BB):Option (Int×Int) :=
 (zO b).bind fun x1=>(orC (zx b x1 14) (fun x2=>some x2) ((zg b x1 14).bind fun _=>(zr b).bind fun x4=>(W3 b.n5).bind fun x5=>(orC (zx { b with n5:=[x5] } (!((xw x4.2.1 x5).getD false)) 5) (fun x6=>some x6) ((zg { b with n5:=[x5] } (!((xw x4.2.1 x5).getD false)) 5).bind fun _=>(zr { b with n5:=[x5] }).bind fun x8=>(W3 [x5]).bind fun x9=>(orC (y5 { b with n5:=[AJ x8.2.1 true x9] }) (fun x10=>some x10) ((zQ { b with n5:=[AJ x8.2.1 true x9] }).bind fun _=>none))))))
def zm2(b:BB):Option (Int×Int) :=
 ((bif (List.isEmpty b.n5)then some ([([]:List (Bs8×Bool))]:List Mb8)else some b.n5)).bind fun x1=>(orC (zcm { b with n5:=x1 }) (fun x2=>some x2) ((Q7 { b with n5:=x1 }).bind fun _=>none))
def Wt(b:BB):Option (Int×Int) :=
 (orC (zJ b 0 1048576) (fun x1=>some x1) ((zl b 0 1048576).bind fun x2=>(orC (zJ { b with i:=x2.2 } 0 1048576) (fun x3=>some x3) ((zl { b with i:=x2.2 } 0 1048576).bind fun x4=>(orC (zJ { b with i:=x4.2 } 0 4096) (fun x5=>some x5) ((zl { b with i:=x4.2 } 0 4096).bind fun _=>none))))))
def Vb(b:BB)(c15:(List Mb8))(c16:Bs8)(c17:Int)(c18:Int)(c19:Int)(c20:Int):Nat→(Int×(List zf))→Option ((Int×Int)⊕(Int×(List zf)))
 |0,_=>none
 |K+1,q=>(yt { b with i:=q.1,n5:=c15 }).bind fun x1=>(bif x1 then(orC (zx { b with i:=q.1,n5:=c15 } (decide ((((List.length q.2):Nat):Int)<20)) 6) (fun x2=>some (Sum.inl x2)) ((zg { b with i:=q.1,n5:=c15 } (decide ((((List.length q.2):Nat):Int)<20)) 6).bind fun _=>(orC (Wt { b with i:=q.1,n5:=c15 }) (fun x4=>some (Sum.inl x4)) ((oD { b with i:=q.1,n5:=c15 }).bind fun x5=>(grd (List.length (q.2++([(zf.mk x5.2.1 x5.2.2.1 x5.2.2.2)]:List zf))*24≤140737488355328)).bind fun _=>Vb b c15 c16 c17 c18 c19 c20 K (x5.1,(q.2++([(zf.mk x5.2.1 x5.2.2.1 x5.2.2.2)]:List zf)))))))else some (Sum.inr (q.1,q.2)))
def zjq(b:BB):Option (Int×Int) :=
 (orC (zm2 b) (fun x1=>some x1) ((zcd b).bind fun x2=>(orC (Wt { b with i:=x2.2.1,n5:=x2.2.2 }) (fun x3=>some x3) ((oD { b with i:=x2.2.1,n5:=x2.2.2 }).bind fun x4=>(orC (yj { b with i:=x4.1,n5:=x2.2.2 } AL) (fun x5=>some x5) ((zA { b with i:=x4.1,n5:=x2.2.2 } AL).bind fun x6=>(orC (zJ { b with i:=x6,n5:=x2.2.2 } 0 20) (fun x7=>some x7) ((zl { b with i:=x6,n5:=x2.2.2 } 0 20).bind fun x8=>(orC (yj { b with i:=x8.2,n5:=x2.2.2 } o5) (fun x9=>some x9) ((zA { b with i:=x8.2,n5:=x2.2.2 } o5).bind fun x10=>(orC (Wt { b with i:=x10,n5:=x2.2.2 }) (fun x11=>some x11) ((oD { b with i:=x10,n5:=x2.2.2 }).bind fun x12=>(grd (List.length (([]:List zf)++([(zf.mk x12.2.1 x12.2.2.1 x12.2.2.2)]:List zf))*24≤140737488355328)).bind fun _=>(Vb { b with i:=0,n5:=[] } x2.2.2 x2.1 x4.2.1 x4.2.2.1 x4.2.2.2 x8.1 KK (x12.1,(([]:List zf)++([(zf.mk x12.2.1 x12.2.2.1 x12.2.2.2)]:List zf)))).bind (yA some fun x14=>(orC (yj { b with i:=x14.1,n5:=x2.2.2 } jg) (fun x15=>some x15) ((zA { b with i:=x14.1,n5:=x2.2.2 } jg).bind fun _=>(grd (List.length (b.V++([(View.mk x2.1 (zf.mk x4.2.1 x4.2.2.1 x4.2.2.2) x8.1 x14.2)]:List View))*72≤140737488355328)).bind fun _=>none)))))))))))))))
def Yy(b:BB):Nat→(Int×(List zf)×Bool)→Option ((Int×Int)⊕(Int×(List zf)))
 |0,_=>none
 |K+1,q=>(bif q.2.2 then((jw { b with i:=q.1,S:=q.2.1 } Yn).bind fun x2=>(bif x2 then(orC (zx { b with i:=q.1,S:=q.2.1 } true 14) (fun x3=>some (Sum.inl x3)) ((zg { b with i:=q.1,S:=q.2.1 } true 14).bind fun _=>some (Sum.inr ())))else(yt { b with i:=q.1,S:=q.2.1 }).bind fun x5=>(orC (zx { b with i:=q.1,S:=q.2.1 } x5 14) (fun x6=>some (Sum.inl x6)) ((zg { b with i:=q.1,S:=q.2.1 } x5 14).bind fun _=>some (Sum.inr ()))))).bind (yA (fun q=>some (Sum.inl q)) fun _=>(orC (zx { b with i:=q.1,S:=q.2.1 } (decide ((((List.length q.2.1):Nat):Int)<24)) 6) (fun x8=>some (Sum.inl x8)) ((zg { b with i:=q.1,S:=q.2.1 } (decide ((((List.length q.2.1):Nat):Int)<24)) 6).bind fun _=>(orC (A1 { b with i:=q.1,S:=q.2.1 } 4096) (fun x10=>some (Sum.inl x10)) ((vK { b with i:=q.1,S:=q.2.1 } 4096).bind fun x11=>(orC (A1 { b with i:=x11.2,S:=q.2.1 } 4096) (fun x12=>some (Sum.inl x12)) ((vK { b with i:=x11.2,S:=q.2.1 } 4096).bind fun x13=>(orC (zJ { b with i:=x13.2,S:=q.2.1 } 1 4096) (fun x14=>some (Sum.inl x14)) ((zl { b with i:=x13.2,S:=q.2.1 } 1 4096).bind fun x15=>(grd (List.length (q.2.1++([(zf.mk x11.1 x13.1 x15.1)]:List zf))*24≤140737488355328)).bind fun _=>(zD { b with i:=x15.2,S:=(q.2.1++([(zf.mk x11.1 x13.1 x15.1)]:List zf)) } zb4).bind fun x17=>Yy b K (x17.2,(q.2.1++([(zf.mk x11.1 x13.1 x15.1)]:List zf)),x17.1))))))))))else some (Sum.inr (q.1,q.2.1)))
def zq1(b:BB):Option (Int×Int) :=
 (Yy { b with i:=0,S:=[] } KK (b.i,b.S,true)).bind (yA some fun x1=>(orC (yj { b with i:=x1.1,S:=x1.2 } jg) (fun x2=>some x2) ((zA { b with i:=x1.1,S:=x1.2 } jg).bind fun _=>none)))
def za(b:BB)(q:Int×Int×Bool×(List Def)×(List Table)×(List zY)×(List zB)×(List Cap)×(List View)×(List zf)×(List Mb8)×(List Mb8)×(List Mb8)×(List Mb8)×(List Mb8)×(List Mb8)):BB:={ b with i:=q.1,H:=q.2.1,h:=q.2.2.1,D:=q.2.2.2.1,T:=q.2.2.2.2.1,Z:=q.2.2.2.2.2.1,R:=q.2.2.2.2.2.2.1,C:=q.2.2.2.2.2.2.2.1,V:=q.2.2.2.2.2.2.2.2.1,S:=q.2.2.2.2.2.2.2.2.2.1,n0:=q.2.2.2.2.2.2.2.2.2.2.1,n1:=q.2.2.2.2.2.2.2.2.2.2.2.1,n2:=q.2.2.2.2.2.2.2.2.2.2.2.2.1,n3:=q.2.2.2.2.2.2.2.2.2.2.2.2.2.1,n4:=q.2.2.2.2.2.2.2.2.2.2.2.2.2.2.1,n5:=q.2.2.2.2.2.2.2.2.2.2.2.2.2.2.2 }
def yp(b:BB):Nat→(Int×Int×Bool×(List Def)×(List Table)×(List zY)×(List zB)×(List Cap)×(List View)×(List zf)×(List Mb8)×(List Mb8)×(List Mb8)×(List Mb8)×(List Mb8)×(List Mb8))→Option ((Int×Int)⊕(Int×Int×Bool×(List Def)×(List Table)×(List zY)×(List zB)×(List Cap)×(List View)×(List zf)×(List Mb8)×(List Mb8)×(List Mb8)×(List Mb8)×(List Mb8)×(List Mb8)))
 |0,_=>none
 |K+1,q=>(zr { (za b q)with l:=b.l }).bind fun x1=>(bif (!(decide (x1.1=3)))then(zr { (za b q)with l:=b.l }).bind fun x2=>(bif (decide (x2.2.1=uz))then(orC (kv { (za b q)with l:=b.l } (((List.length ((za b q).D)):Nat):Int) 60) (fun x3=>some (Sum.inl x3)) ((yU { (za b q)with l:=b.l } (((List.length ((za b q).D)):Nat):Int) 60).bind fun x4=>(orC (zgl { (za b q)with l:=b.l,i:=x4 }) (fun x5=>some (Sum.inl x5)) ((Yt { (za b q)with l:=b.l,i:=x4 }).bind fun x6=>yp b K (x6.1,(za b q).H,(za b q).h,x6.2.1,(za b q).T,(za b q).Z,(za b q).R,(za b q).C,(za b q).V,(za b q).S,x6.2.2,(za b q).n1,(za b q).n2,(za b q).n3,(za b q).n4,(za b q).n5)))))else(bif (decide (x2.2.1=wC))then(orC (kv { (za b q)with l:=b.l } (((List.length ((za b q).T)):Nat):Int) 60) (fun x7=>some (Sum.inl x7)) ((yU { (za b q)with l:=b.l } (((List.length ((za b q).T)):Nat):Int) 60).bind fun x8=>(orC (zm0 { (za b q)with l:=b.l,i:=x8 }) (fun x9=>some (Sum.inl x9)) ((zb9 { (za b q)with l:=b.l,i:=x8 }).bind fun x10=>yp b K (x10.1,(za b q).H,(za b q).h,(za b q).D,x10.2.1,(za b q).Z,(za b q).R,(za b q).C,(za b q).V,(za b q).S,(za b q).n0,x10.2.2,(za b q).n2,(za b q).n3,(za b q).n4,(za b q).n5)))))else(bif (decide (x2.2.1=kq))then(bif (decide (x2.2.1=kq))then(jw { (za b q)with l:=b.l } yX).bind fun x11=>(orC (kv { (za b q)with l:=b.l } (((List.length ((za b q).Z)):Nat):Int) 60) (fun x12=>some (Sum.inl x12)) ((yU { (za b q)with l:=b.l } (((List.length ((za b q).Z)):Nat):Int) 60).bind fun x13=>(orC (zci { (za b q)with l:=b.l,i:=x13 }) (fun x14=>some (Sum.inl x14)) ((JQ { (za b q)with l:=b.l,i:=x13 }).bind fun x15=>(orC (A2 { (za b q)with l:=b.l,i:=x15.2.1,n2:=x15.2.2 }) (fun x16=>some (Sum.inl x16)) ((vL { (za b q)with l:=b.l,i:=x15.2.1,n2:=x15.2.2 }).bind fun x17=>(wE x17.1).bind fun x18=>(orC (Q9 { (za b q)with l:=b.l,i:=x17.2,n2:=x15.2.2 } x18 10) (fun x19=>some (Sum.inl x19)) ((qa { (za b q)with l:=b.l,i:=x17.2,n2:=x15.2.2 } x18 10).bind fun x20=>(grd (List.length ((za b q).Z++([(zY.mk x15.1 x11 x17.1)]:List zY))*48≤140737488355328)).bind fun _=>yp b K (x20,(za b q).H,(za b q).h,(za b q).D,(za b q).T,((za b q).Z++([(zY.mk x15.1 x11 x17.1)]:List zY)),(za b q).R,(za b q).C,(za b q).V,(za b q).S,(za b q).n0,(za b q).n1,x15.2.2,(za b q).n3,(za b q).n4,(za b q).n5)))))))))else(bif (decide (x2.2.1=qQ))then(orC (kv { (za b q)with l:=b.l } (((List.length ((za b q).R)):Nat):Int) 200) (fun x22=>some (Sum.inl x22)) ((yU { (za b q)with l:=b.l } (((List.length ((za b q).R)):Nat):Int) 200).bind fun x23=>(orC (zjp { (za b q)with l:=b.l,i:=x23 }) (fun x24=>some (Sum.inl x24)) ((Wr { (za b q)with l:=b.l,i:=x23 }).bind fun x25=>yp b K (x25.1,(za b q).H,(za b q).h,(za b q).D,(za b q).T,(za b q).Z,x25.2.1,(za b q).C,(za b q).V,(za b q).S,(za b q).n0,(za b q).n1,(za b q).n2,x25.2.2,(za b q).n4,(za b q).n5)))))else(bif (decide (x2.2.1=zby))then(orC (kv { (za b q)with l:=b.l } (((List.length ((za b q).C)):Nat):Int) 30) (fun x26=>some (Sum.inl x26)) ((yU { (za b q)with l:=b.l } (((List.length ((za b q).C)):Nat):Int) 30).bind fun x27=>(orC (zcl { (za b q)with l:=b.l,i:=x27 }) (fun x28=>some (Sum.inl x28)) ((JR { (za b q)with l:=b.l,i:=x27 }).bind fun x29=>(orC (uX { (za b q)with l:=b.l,i:=x29.2.1,n4:=x29.2.2 } zZ) (fun x30=>some (Sum.inl x30)) ((wg { (za b q)with l:=b.l,i:=x29.2.1,n4:=x29.2.2 } zZ).bind fun x31=>(orC (zJ { (za b q)with l:=b.l,i:=x31.2,n4:=x29.2.2 } 0 1099511627776) (fun x32=>some (Sum.inl x32)) ((zl { (za b q)with l:=b.l,i:=x31.2,n4:=x29.2.2 } 0 1099511627776).bind fun x33=>(orC (A2 { (za b q)with l:=b.l,i:=x33.2,n4:=x29.2.2 }) (fun x34=>some (Sum.inl x34)) ((vL { (za b q)with l:=b.l,i:=x33.2,n4:=x29.2.2 }).bind fun x35=>(wE x35.1).bind fun x36=>(orC (Q9 { (za b q)with l:=b.l,i:=x35.2,n4:=x29.2.2 } x36 10) (fun x37=>some (Sum.inl x37)) ((qa { (za b q)with l:=b.l,i:=x35.2,n4:=x29.2.2 } x36 10).bind fun x38=>(grd (List.length ((za b q).C++([(Cap.mk x29.1 x31.1 x33.1 x35.1)]:List Cap))*56≤140737488355328)).bind fun _=>yp b K (x38,(za b q).H,(za b q).h,(za b q).D,(za b q).T,(za b q).Z,(za b q).R,((za b q).C++([(Cap.mk x29.1 x31.1 x33.1 x35.1)]:List Cap)),(za b q).V,(za b q).S,(za b q).n0,(za b q).n1,(za b q).n2,(za b q).n3,x29.2.2,(za b q).n5)))))))))))))else(bif (decide (x2.2.1=JN))then(orC (kv { (za b q)with l:=b.l } (((List.length ((za b q).V)):Nat):Int) 60) (fun x40=>some (Sum.inl x40)) ((yU { (za b q)with l:=b.l } (((List.length ((za b q).V)):Nat):Int) 60).bind fun x41=>(orC (zjq { (za b q)with l:=b.l,i:=x41 }) (fun x42=>some (Sum.inl x42)) ((Ws { (za b q)with l:=b.l,i:=x41 }).bind fun x43=>yp b K (x43.1,(za b q).H,(za b q).h,(za b q).D,(za b q).T,(za b q).Z,(za b q).R,(za b q).C,x43.2.1,(za b q).S,(za b q).n0,(za b q).n1,(za b q).n2,(za b q).n3,(za b q).n4,x43.2.2)))))else(bif (decide (x2.2.1=oB))then(orC (zx { (za b q)with l:=b.l } (decide (((List.length ((za b q).S)):Nat)=0)) 5) (fun x44=>some (Sum.inl x44)) ((zg { (za b q)with l:=b.l } (decide (((List.length ((za b q).S)):Nat)=0)) 5).bind fun _=>(orC (zq1 { (za b q)with l:=b.l,i:=(w64 ((za b q).i+1)) }) (fun x46=>some (Sum.inl x46)) ((zce { (za b q)with l:=b.l,i:=(w64 ((za b q).i+1)) }).bind fun x47=>yp b K (x47.1,(za b q).H,(za b q).h,(za b q).D,(za b q).T,(za b q).Z,(za b q).R,(za b q).C,(za b q).V,x47.2,(za b q).n0,(za b q).n1,(za b q).n2,(za b q).n3,(za b q).n4,(za b q).n5)))))else(bif (decide (x2.2.1=xO))then(orC (zx { (za b q)with l:=b.l } (!(za b q).h) 5) (fun x48=>some (Sum.inl x48)) ((zg { (za b q)with l:=b.l } (!(za b q).h) 5).bind fun _=>(orC (zJ { (za b q)with l:=b.l,i:=(w64 ((za b q).i+1)) } 0 24) (fun x50=>some (Sum.inl x50)) ((zl { (za b q)with l:=b.l,i:=(w64 ((za b q).i+1)) } 0 24).bind fun x51=>(orC (yj { (za b q)with l:=b.l,i:=x51.2,H:=x51.1,h:=true } jg) (fun x52=>some (Sum.inl x52)) ((zA { (za b q)with l:=b.l,i:=x51.2,H:=x51.1,h:=true } jg).bind fun x53=>yp b K (x53,x51.1,true,(za b q).D,(za b q).T,(za b q).Z,(za b q).R,(za b q).C,(za b q).V,(za b q).S,(za b q).n0,(za b q).n1,(za b q).n2,(za b q).n3,(za b q).n4,(za b q).n5)))))))else(orC (Kr { (za b q)with l:=b.l } 14) (fun x54=>some (Sum.inl x54)) none)))))))else(bif (decide (x2.2.1=yX))then(jw { (za b q)with l:=b.l } yX).bind fun x55=>(orC (kv { (za b q)with l:=b.l } (((List.length ((za b q).Z)):Nat):Int) 60) (fun x56=>some (Sum.inl x56)) ((yU { (za b q)with l:=b.l } (((List.length ((za b q).Z)):Nat):Int) 60).bind fun x57=>(orC (zci { (za b q)with l:=b.l,i:=x57 }) (fun x58=>some (Sum.inl x58)) ((JQ { (za b q)with l:=b.l,i:=x57 }).bind fun x59=>(orC (A2 { (za b q)with l:=b.l,i:=x59.2.1,n2:=x59.2.2 }) (fun x60=>some (Sum.inl x60)) ((vL { (za b q)with l:=b.l,i:=x59.2.1,n2:=x59.2.2 }).bind fun x61=>(wE x61.1).bind fun x62=>(orC (Q9 { (za b q)with l:=b.l,i:=x61.2,n2:=x59.2.2 } x62 10) (fun x63=>some (Sum.inl x63)) ((qa { (za b q)with l:=b.l,i:=x61.2,n2:=x59.2.2 } x62 10).bind fun x64=>(grd (List.length ((za b q).Z++([(zY.mk x59.1 x55 x61.1)]:List zY))*48≤140737488355328)).bind fun _=>yp b K (x64,(za b q).H,(za b q).h,(za b q).D,(za b q).T,((za b q).Z++([(zY.mk x59.1 x55 x61.1)]:List zY)),(za b q).R,(za b q).C,(za b q).V,(za b q).S,(za b q).n0,(za b q).n1,x59.2.2,(za b q).n3,(za b q).n4,(za b q).n5)))))))))else(bif (decide (x2.2.1=qQ))then(orC (kv { (za b q)with l:=b.l } (((List.length ((za b q).R)):Nat):Int) 200) (fun x66=>some (Sum.inl x66)) ((yU { (za b q)with l:=b.l } (((List.length ((za b q).R)):Nat):Int) 200).bind fun x67=>(orC (zjp { (za b q)with l:=b.l,i:=x67 }) (fun x68=>some (Sum.inl x68)) ((Wr { (za b q)with l:=b.l,i:=x67 }).bind fun x69=>yp b K (x69.1,(za b q).H,(za b q).h,(za b q).D,(za b q).T,(za b q).Z,x69.2.1,(za b q).C,(za b q).V,(za b q).S,(za b q).n0,(za b q).n1,(za b q).n2,x69.2.2,(za b q).n4,(za b q).n5)))))else(bif (decide (x2.2.1=zby))then(orC (kv { (za b q)with l:=b.l } (((List.length ((za b q).C)):Nat):Int) 30) (fun x70=>some (Sum.inl x70)) ((yU { (za b q)with l:=b.l } (((List.length ((za b q).C)):Nat):Int) 30).bind fun x71=>(orC (zcl { (za b q)with l:=b.l,i:=x71 }) (fun x72=>some (Sum.inl x72)) ((JR { (za b q)with l:=b.l,i:=x71 }).bind fun x73=>(orC (uX { (za b q)with l:=b.l,i:=x73.2.1,n4:=x73.2.2 } zZ) (fun x74=>some (Sum.inl x74)) ((wg { (za b q)with l:=b.l,i:=x73.2.1,n4:=x73.2.2 } zZ).bind fun x75=>(orC (zJ { (za b q)with l:=b.l,i:=x75.2,n4:=x73.2.2 } 0 1099511627776) (fun x76=>some (Sum.inl x76)) ((zl { (za b q)with l:=b.l,i:=x75.2,n4:=x73.2.2 } 0 1099511627776).bind fun x77=>(orC (A2 { (za b q)with l:=b.l,i:=x77.2,n4:=x73.2.2 }) (fun x78=>some (Sum.inl x78)) ((vL { (za b q)with l:=b.l,i:=x77.2,n4:=x73.2.2 }).bind fun x79=>(wE x79.1).bind fun x80=>(orC (Q9 { (za b q)with l:=b.l,i:=x79.2,n4:=x73.2.2 } x80 10) (fun x81=>some (Sum.inl x81)) ((qa { (za b q)with l:=b.l,i:=x79.2,n4:=x73.2.2 } x80 10).bind fun x82=>(grd (List.length ((za b q).C++([(Cap.mk x73.1 x75.1 x77.1 x79.1)]:List Cap))*56≤140737488355328)).bind fun _=>yp b K (x82,(za b q).H,(za b q).h,(za b q).D,(za b q).T,(za b q).Z,(za b q).R,((za b q).C++([(Cap.mk x73.1 x75.1 x77.1 x79.1)]:List Cap)),(za b q).V,(za b q).S,(za b q).n0,(za b q).n1,(za b q).n2,(za b q).n3,x73.2.2,(za b q).n5)))))))))))))else(bif (decide (x2.2.1=JN))then(orC (kv { (za b q)with l:=b.l } (((List.length ((za b q).V)):Nat):Int) 60) (fun x84=>some (Sum.inl x84)) ((yU { (za b q)with l:=b.l } (((List.length ((za b q).V)):Nat):Int) 60).bind fun x85=>(orC (zjq { (za b q)with l:=b.l,i:=x85 }) (fun x86=>some (Sum.inl x86)) ((Ws { (za b q)with l:=b.l,i:=x85 }).bind fun x87=>yp b K (x87.1,(za b q).H,(za b q).h,(za b q).D,(za b q).T,(za b q).Z,(za b q).R,(za b q).C,x87.2.1,(za b q).S,(za b q).n0,(za b q).n1,(za b q).n2,(za b q).n3,(za b q).n4,x87.2.2)))))else(bif (decide (x2.2.1=oB))then(orC (zx { (za b q)with l:=b.l } (decide (((List.length ((za b q).S)):Nat)=0)) 5) (fun x88=>some (Sum.inl x88)) ((zg { (za b q)with l:=b.l } (decide (((List.length ((za b q).S)):Nat)=0)) 5).bind fun _=>(orC (zq1 { (za b q)with l:=b.l,i:=(w64 ((za b q).i+1)) }) (fun x90=>some (Sum.inl x90)) ((zce { (za b q)with l:=b.l,i:=(w64 ((za b q).i+1)) }).bind fun x91=>yp b K (x91.1,(za b q).H,(za b q).h,(za b q).D,(za b q).T,(za b q).Z,(za b q).R,(za b q).C,(za b q).V,x91.2,(za b q).n0,(za b q).n1,(za b q).n2,(za b q).n3,(za b q).n4,(za b q).n5)))))else(bif (decide (x2.2.1=xO))then(orC (zx { (za b q)with l:=b.l } (!(za b q).h) 5) (fun x92=>some (Sum.inl x92)) ((zg { (za b q)with l:=b.l } (!(za b q).h) 5).bind fun _=>(orC (zJ { (za b q)with l:=b.l,i:=(w64 ((za b q).i+1)) } 0 24) (fun x94=>some (Sum.inl x94)) ((zl { (za b q)with l:=b.l,i:=(w64 ((za b q).i+1)) } 0 24).bind fun x95=>(orC (yj { (za b q)with l:=b.l,i:=x95.2,H:=x95.1,h:=true } jg) (fun x96=>some (Sum.inl x96)) ((zA { (za b q)with l:=b.l,i:=x95.2,H:=x95.1,h:=true } jg).bind fun x97=>yp b K (x97,x95.1,true,(za b q).D,(za b q).T,(za b q).Z,(za b q).R,(za b q).C,(za b q).V,(za b q).S,(za b q).n0,(za b q).n1,(za b q).n2,(za b q).n3,(za b q).n4,(za b q).n5)))))))else(orC (Kr { (za b q)with l:=b.l } 14) (fun x98=>some (Sum.inl x98)) none))))))))))else some (Sum.inr ((za b q).i,(za b q).H,(za b q).h,(za b q).D,(za b q).T,(za b q).Z,(za b q).R,(za b q).C,(za b q).V,(za b q).S,(za b q).n0,(za b q).n1,(za b q).n2,(za b q).n3,(za b q).n4,(za b q).n5)))
def zts(b:BB):Option (Int×Int) :=
 (yp { b with i:=0,D:=[],T:=[],Z:=[],R:=[],C:=[],V:=[],S:=[],H:=0,n0:=[],n1:=[],n2:=[],n3:=[],n4:=[],n5:=[],h:=false } KK (b.i,b.H,b.h,b.D,b.T,b.Z,b.R,b.C,b.V,b.S,b.n0,b.n1,b.n2,b.n3,b.n4,b.n5)).bind (yA some fun x1=>none)
def Y4(b:BB):Option (Int×Int×Int×Int×Bool×(List Def)×(List Table)×(List zY)×(List zB)×(List Cap)×(List View)×(List zf)×(List Mb8)×(List Mb8)×(List Mb8)×(List Mb8)×(List Mb8)×(List Mb8)):=(ztr b).bind fun q=>some ((0:Int),(0:Int),q)
def Wu(b:BB):Option (Int×Int):=zts b
def Vc(s:Bs8):Option (Int×Int×(List zf)×Int×(List Def)×(List Table)×(List zY)×(List zB)×(List Cap)×(List View)) :=
 (zqx s).bind fun x1=>(bif (!(decide (x1.2.2=0)))then some (x1.2.1,x1.2.2,[],0,([]:List Def),([]:List Table),([]:List zY),([]:List zB),([]:List Cap),([]:List View))else(orC (Y4 (BB.mk x1.1 0 ([]:List Def) ([]:List Table) ([]:List zY) ([]:List zB) ([]:List Cap) ([]:List View) ([]:List zf) 0 ([]:List Mb8) ([]:List Mb8) ([]:List Mb8) ([]:List Mb8) ([]:List Mb8) ([]:List Mb8) false)) (fun x3=>(bif (!(decide (x3.2.1=0)))then some (x3.1,x3.2.1,[],0,([]:List Def),([]:List Table),([]:List zY),([]:List zB),([]:List Cap),([]:List View))else some (0,0,x3.2.2.2.2.2.2.2.2.2.2.2.1,x3.2.2.2.1,x3.2.2.2.2.2.1,x3.2.2.2.2.2.2.1,x3.2.2.2.2.2.2.2.1,x3.2.2.2.2.2.2.2.2.1,x3.2.2.2.2.2.2.2.2.2.1,x3.2.2.2.2.2.2.2.2.2.2.1))) (orC (Wu (BB.mk x1.1 0 ([]:List Def) ([]:List Table) ([]:List zY) ([]:List zB) ([]:List Cap) ([]:List View) ([]:List zf) 0 ([]:List Mb8) ([]:List Mb8) ([]:List Mb8) ([]:List Mb8) ([]:List Mb8) ([]:List Mb8) false)) (fun x2=>(bif (!(decide (x2.2=0)))then some (x2.1,x2.2,[],0,([]:List Def),([]:List Table),([]:List zY),([]:List zB),([]:List Cap),([]:List View))else none)) none)))
def zm3(x_:Def):Option (Bs8) :=
 some x_.Name
def uY(c0:Bool)(c1:List Bs8)(c2:Int):Nat→(Int×Mb8)→Option ((Bool)⊕(Unit))
 |0,_=>none
 |K+1,q=>(bif (decide (q.1<c2))then(idx c1 q.1).bind fun x1=>((K3 x1).bind fun x3=>(bif (!x3)then some true else(bif c0 then some ((xw x1 q.2).getD false)else some false))).bind fun x2=>(bif x2 then some (Sum.inl false)else uY c0 c1 c2 K ((w64 (q.1+1)),(AJ x1 true q.2)))else some (Sum.inr ()))
def qd(l:List Bs8)(unique:Bool):Option (Bool) :=
 (uY unique l (l.length:Int) KK (0,([]:List (Bs8×Bool)))).bind (yA some fun _=>some true)
def HZ(c0:List Def)(c1:Int)(c2:Int):Nat→(Int×(List Bs8))→Option ((List Bs8))
 |0,_=>none
 |K+1,q=>(bif (decide (q.1<c2))then(idx c0 q.1).bind fun x1=>(zm3 (Def.mk x1.Name (Expr.mk x1.Body.Op x1.Body.N x1.Body.S x1.Body.Key x1.Body.Args))).bind fun x2=>(grd (List.length (q.2++([x2]:List Bs8))*16≤140737488355328)).bind fun _=>HZ c0 c1 c2 K ((w64 (q.1+1)),(q.2++([x2]:List Bs8)))else some q.2)
def ZY(l:List Def)(most:Int):Option (Bool) :=
 (HZ l most (l.length:Int) KK (0,[])).bind fun x1=>(bif (decide ((l.length:Int)≤most))then(qd x1 true).bind fun x2=>some x2 else some false)
def zm4(x_:Table):Option (Bs8) :=
 some x_.Name
def uD(c0:List Table)(c1:Int)(c2:Int):Nat→(Int×(List Bs8))→Option ((List Bs8))
 |0,_=>none
 |K+1,q=>(bif (decide (q.1<c2))then(idx c0 q.1).bind fun x1=>(zm4 x1).bind fun x2=>(grd (List.length (q.2++([x2]:List Bs8))*16≤140737488355328)).bind fun _=>uD c0 c1 c2 K ((w64 (q.1+1)),(q.2++([x2]:List Bs8)))else some q.2)
def Ks(l:List Table)(most:Int):Option (Bool) :=
 (uD l most (l.length:Int) KK (0,[])).bind fun x1=>(bif (decide ((l.length:Int)≤most))then(qd x1 true).bind fun x2=>some x2 else some false)
def zm5(x_:zY):Option (Bs8) :=
 some x_.Name
def uE(c0:List zY)(c1:Int)(c2:Int):Nat→(Int×(List Bs8))→Option ((List Bs8))
 |0,_=>none
 |K+1,q=>(bif (decide (q.1<c2))then(idx c0 q.1).bind fun x1=>(zm5 x1).bind fun x2=>(grd (List.length (q.2++([x2]:List Bs8))*16≤140737488355328)).bind fun _=>uE c0 c1 c2 K ((w64 (q.1+1)),(q.2++([x2]:List Bs8)))else some q.2)
def Kt(l:List zY)(most:Int):Option (Bool) :=
 (uE l most (l.length:Int) KK (0,[])).bind fun x1=>(bif (decide ((l.length:Int)≤most))then(qd x1 true).bind fun x2=>some x2 else some false)
def zm6(x_:zB):Option (Bs8) :=
 some x_.Name
def uF(c0:List zB)(c1:Int)(c2:Int):Nat→(Int×(List Bs8))→Option ((List Bs8))
 |0,_=>none
 |K+1,q=>(bif (decide (q.1<c2))then(idx c0 q.1).bind fun x1=>(zm6 (zB.mk x1.Name x1.Zones x1.Except x1.From x1.Until x1.Grace x1.Vary x1.Kind (Expr.mk x1.Test.Op x1.Test.N x1.Test.S x1.Test.Key x1.Test.Args) x1.zt x1.Uses x1.Other x1.N)).bind fun x2=>(grd (List.length (q.2++([x2]:List Bs8))*16≤140737488355328)).bind fun _=>uF c0 c1 c2 K ((w64 (q.1+1)),(q.2++([x2]:List Bs8)))else some q.2)
def Ku(l:List zB)(most:Int):Option (Bool) :=
 (uF l most (l.length:Int) KK (0,[])).bind fun x1=>(bif (decide ((l.length:Int)≤most))then(qd x1 true).bind fun x2=>some x2 else some false)
def zm7(x_:Cap):Option (Bs8) :=
 some x_.Name
def uG(c0:List Cap)(c1:Int)(c2:Int):Nat→(Int×(List Bs8))→Option ((List Bs8))
 |0,_=>none
 |K+1,q=>(bif (decide (q.1<c2))then(idx c0 q.1).bind fun x1=>(zm7 x1).bind fun x2=>(grd (List.length (q.2++([x2]:List Bs8))*16≤140737488355328)).bind fun _=>uG c0 c1 c2 K ((w64 (q.1+1)),(q.2++([x2]:List Bs8)))else some q.2)
def Kv(l:List Cap)(most:Int):Option (Bool) :=
 (uG l most (l.length:Int) KK (0,[])).bind fun x1=>(bif (decide ((l.length:Int)≤most))then(qd x1 true).bind fun x2=>some x2 else some false)
def zm8(x_:View):Option (Bs8) :=
 some x_.Name
def uH(c0:List View)(c1:Int)(c2:Int):Nat→(Int×(List Bs8))→Option ((List Bs8))
 |0,_=>none
 |K+1,q=>(bif (decide (q.1<c2))then(idx c0 q.1).bind fun x1=>(zm8 x1).bind fun x2=>(grd (List.length (q.2++([x2]:List Bs8))*16≤140737488355328)).bind fun _=>uH c0 c1 c2 K ((w64 (q.1+1)),(q.2++([x2]:List Bs8)))else some q.2)
def Kw(l:List View)(most:Int):Option (Bool) :=
 (uH l most (l.length:Int) KK (0,[])).bind fun x1=>(bif (decide ((l.length:Int)≤most))then(qd x1 true).bind fun x2=>some x2 else some false)
def zm9(x_:Entry):Option (Bs8) :=
 some x_.Name
def uI(c0:List Entry)(c1:Int)(c2:Int):Nat→(Int×(List Bs8))→Option ((List Bs8))
 |0,_=>none
 |K+1,q=>(bif (decide (q.1<c2))then(idx c0 q.1).bind fun x1=>(zm9 x1).bind fun x2=>(grd (List.length (q.2++([x2]:List Bs8))*16≤140737488355328)).bind fun _=>uI c0 c1 c2 K ((w64 (q.1+1)),(q.2++([x2]:List Bs8)))else some q.2)
def Kx(l:List Entry)(most:Int):Option (Bool) :=
 (uI l most (l.length:Int) KK (0,[])).bind fun x1=>(bif (decide ((l.length:Int)≤most))then(qd x1 true).bind fun x2=>some x2 else some false)
def oE(c0:Int)(c1:Int)(c2:List Int)(c3:Int):Nat→(Int)→Option ((Bool)⊕(Unit))
 |0,_=>none
 |K+1,q=>(bif (decide (q<c3))then(idx c2 q).bind fun x1=>((bif (decide (x1<c0))then some true else some (decide (x1>c1)))).bind fun x2=>(bif x2 then some (Sum.inl false)else oE c0 c1 c2 c3 K (w64 (q+1)))else some (Sum.inr ()))
def yb(from_:Int)(to_:Int)(l:List Int):Option (Bool) :=
 (oE from_ to_ l (l.length:Int) KK 0).bind (yA some fun _=>some true)
def qe(c0:List Bs8)(c1:List Bs8)(c2:Int):Nat→(Int)→Option ((Bool)⊕(Unit))
 |0,_=>none
 |K+1,q=>(bif (decide (q<c2))then(idx c0 q).bind fun x1=>(idx c1 q).bind fun x2=>(bif (!(decide (x1=x2)))then some (Sum.inl false)else qe c0 c1 c2 K (w64 (q+1)))else some (Sum.inr ()))
def jo(s1:List Bs8)(s2:List Bs8):Option (Bool) :=
 (bif (!(decide ((s1.length:Int)=(s2.length:Int))))then some false else(qe s1 s2 (s1.length:Int) KK 0).bind (yA some fun _=>some true))
def vt(r_sameExpr:Expr→Expr→Option (Bool))(c0:List Expr)(c1:List Expr)(c2:Int):Nat→(Int)→Option ((Bool)⊕(Unit))
 |0,_=>none
 |K+1,q=>(bif (decide (q<c2))then(idx c1 q).bind fun x1=>(idx c0 q).bind fun x2=>(r_sameExpr (Expr.mk x1.Op x1.N x1.S x1.Key x1.Args) (Expr.mk x2.Op x2.N x2.S x2.Key x2.Args)).bind fun x3=>(bif (!x3)then some (Sum.inl false)else vt r_sameExpr c0 c1 c2 K (w64 (q+1)))else some (Sum.inr ()))
mutual
def vh:Nat→(List Expr)→(List Expr)→Option (Bool)
 |0,_,_=>none
 |RK+1,s1,s2=>(bif (!(decide ((s1.length:Int)=(s2.length:Int))))then some false else(vt (vM RK) s2 s1 (s1.length:Int) KK 0).bind (yA some fun _=>some true))
def vM:Nat→Expr→Expr→Option (Bool)
 |0,_,_=>none
 |RK+1,a,b=>(bif (decide (a.Op=b.Op))then(bif (decide (a.N=b.N))then(bif (decide (a.S=b.S))then(bif (decide (a.Key=b.Key))then(vh RK a.Args b.Args).bind fun x1=>some x1 else some false)else some false)else some false)else some false)
end
def qf(a:zB)(b:zB):Option (Bool) :=
 ((jo a.Zones b.Zones).bind fun x2=>(bif (!x2)then some true else(jo a.Except b.Except).bind fun x3=>(bif (!x3)then some true else(vM KK (Expr.mk a.Test.Op a.Test.N a.Test.S a.Test.Key a.Test.Args) (Expr.mk b.Test.Op b.Test.N b.Test.S b.Test.Key b.Test.Args)).bind fun x4=>some (!x4)))).bind fun x1=>(bif x1 then some false else((bif (decide (a.Name=b.Name))then(bif (decide (a.From=b.From))then(bif (decide (a.Until=b.Until))then(bif (decide (a.Grace=b.Grace))then some (a.Vary==b.Vary)else some false)else some false)else some false)else some false)).bind fun x5=>(bif x5 then(bif (decide (a.Kind=b.Kind))then(bif (decide (a.zt.Side=b.zt.Side)&&(decide (a.zt.Base=b.zt.Base)&&(decide (a.zt.Num=b.zt.Num)&&(decide (a.zt.Den=b.zt.Den)))))then(bif (decide (a.Uses=b.Uses))then(bif (decide (a.Other=b.Other))then some (decide (a.N=b.N))else some false)else some false)else some false)else some false)else some false))
def oF(r_:zB):Option (Bool) :=
 ((qd r_.Zones false).bind fun x2=>(bif (!x2)then some true else(qd r_.Except false).bind fun x3=>(bif (!x3)then some true else(yb 0 1073741824 ([r_.From,r_.Grace,r_.Until]:List Int)).bind fun x4=>(bif (!x4)then some true else(bif (!(decide (r_.Until=0)))then some (decide (r_.Until≤r_.From))else some false))))).bind fun x1=>(bif x1 then some false else((bif (decide (r_.Kind=0))then(vr (Expr.mk r_.Test.Op r_.Test.N r_.Test.S r_.Test.Key r_.Test.Args)).bind fun x6=>some (x6,r_.Test.Op,r_.Test.N,r_.Test.S,r_.Test.Key,r_.Test.Args,0,0,0,0,0,0,0)else(bif (decide (r_.Kind=1))then(yb 0 3 ([r_.zt.Side]:List Int)).bind fun x7=>(bif x7 then(yb 0 4096 ([r_.zt.Base,r_.zt.Num]:List Int)).bind fun x8=>(bif x8 then(yb 1 4096 ([r_.zt.Den]:List Int)).bind fun x9=>some (x9,0,0,([]:Bs8),([]:Bs8),[],r_.zt.Side,r_.zt.Base,r_.zt.Num,r_.zt.Den,0,0,0)else some (false,0,0,([]:Bs8),([]:Bs8),[],r_.zt.Side,r_.zt.Base,r_.zt.Num,r_.zt.Den,0,0,0))else some (false,0,0,([]:Bs8),([]:Bs8),[],r_.zt.Side,r_.zt.Base,r_.zt.Num,r_.zt.Den,0,0,0))else(bif (decide (r_.Kind=2))then(yb 1 63 ([r_.Uses]:List Int)).bind fun x10=>some (x10,0,0,([]:Bs8),([]:Bs8),[],0,0,0,0,r_.Uses,0,0)else(bif (decide (r_.Kind=3))then(yb 0 5 ([r_.Uses,r_.Other]:List Int)).bind fun x11=>(bif x11 then(yb 0 1048576 ([r_.N]:List Int)).bind fun x12=>some (x12,0,0,([]:Bs8),([]:Bs8),[],0,0,0,0,r_.Uses,r_.Other,r_.N)else some (false,0,0,([]:Bs8),([]:Bs8),[],0,0,0,0,r_.Uses,r_.Other,r_.N))else some (false,0,0,([]:Bs8),([]:Bs8),[],0,0,0,0,0,0,0)))))).bind fun x5=>(bif x5.1 then(qf (zB.mk r_.Name r_.Zones r_.Except r_.From r_.Until r_.Grace r_.Vary r_.Kind (Expr.mk r_.Test.Op r_.Test.N r_.Test.S r_.Test.Key r_.Test.Args) r_.zt r_.Uses r_.Other r_.N) (zB.mk r_.Name r_.Zones r_.Except r_.From r_.Until r_.Grace r_.Vary r_.Kind (Expr.mk x5.2.1 x5.2.2.1 x5.2.2.2.1 x5.2.2.2.2.1 x5.2.2.2.2.2.1) (zt.mk x5.2.2.2.2.2.2.1 x5.2.2.2.2.2.2.2.1 x5.2.2.2.2.2.2.2.2.1 x5.2.2.2.2.2.2.2.2.2.1) x5.2.2.2.2.2.2.2.2.2.2.1 x5.2.2.2.2.2.2.2.2.2.2.2.1 x5.2.2.2.2.2.2.2.2.2.2.2.2)).bind fun x13=>some x13 else some false))
def uZ(c0:List Def)(c1:Int)(c2:List Table)(c3:List zY)(c4:List zB)(c5:List Cap)(c6:List View)(c7:List zf)(c8:Int):Nat→(Int)→Option ((Bool)⊕(Unit))
 |0,_=>none
 |K+1,q=>(bif (decide (q<c1))then(idx c0 q).bind fun x1=>(vr (Expr.mk x1.Body.Op x1.Body.N x1.Body.S x1.Body.Key x1.Body.Args)).bind fun x2=>(bif (!x2)then some (Sum.inl false)else uZ c0 c1 c2 c3 c4 c5 c6 c7 c8 K (w64 (q+1)))else some (Sum.inr ()))
def A3(c0:List Table)(c1:Int)(c2:Int)(c3:List Entry)(c4:Int)(c5:List Def)(c6:List zY)(c7:List zB)(c8:List Cap)(c9:List View)(c10:List zf)(c11:Int):Nat→(Int)→Option ((Bool)⊕(Unit))
 |0,_=>none
 |K+1,q=>(bif (decide (q<c4))then(idx c3 q).bind fun x1=>(yb (-1099511627776) 1099511627776 ([x1.N]:List Int)).bind fun x2=>(bif (!x2)then some (Sum.inl false)else A3 c0 c1 c2 c3 c4 c5 c6 c7 c8 c9 c10 c11 K (w64 (q+1)))else some (Sum.inr ()))
def qg(c0:List Table)(c1:Int)(c2:List Def)(c3:List zY)(c4:List zB)(c5:List Cap)(c6:List View)(c7:List zf)(c8:Int):Nat→(Int)→Option ((Bool)⊕(Unit))
 |0,_=>none
 |K+1,q=>(bif (decide (q<c1))then(idx c0 q).bind fun x1=>((Kx x1.Rows 60).bind fun x3=>(bif (!x3)then some true else(yb (-1099511627776) 1099511627776 ([x1.Else]:List Int)).bind fun x4=>some (!x4))).bind fun x2=>(bif x2 then some (Sum.inl false)else(A3 c0 c1 q x1.Rows (x1.Rows.length:Int) c2 c3 c4 c5 c6 c7 c8 KK 0).bind (yA (fun q=>some (Sum.inl q)) fun _=>qg c0 c1 c2 c3 c4 c5 c6 c7 c8 K (w64 (q+1))))else some (Sum.inr ()))
def u0(c0:List zY)(c1:Int)(c2:List Def)(c3:List Table)(c4:List zB)(c5:List Cap)(c6:List View)(c7:List zf)(c8:Int):Nat→(Int)→Option ((Bool)⊕(Unit))
 |0,_=>none
 |K+1,q=>(bif (decide (q<c1))then(idx c0 q).bind fun x1=>(wE x1.Corners).bind fun x2=>(bif (!x2)then some (Sum.inl false)else u0 c0 c1 c2 c3 c4 c5 c6 c7 c8 K (w64 (q+1)))else some (Sum.inr ()))
def u5(c0:List zB)(c1:Int)(c2:List Def)(c3:List Table)(c4:List zY)(c5:List Cap)(c6:List View)(c7:List zf)(c8:Int):Nat→(Int)→Option ((Bool)⊕(Unit))
 |0,_=>none
 |K+1,q=>(bif (decide (q<c1))then(idx c0 q).bind fun x1=>(oF (zB.mk x1.Name x1.Zones x1.Except x1.From x1.Until x1.Grace x1.Vary x1.Kind (Expr.mk x1.Test.Op x1.Test.N x1.Test.S x1.Test.Key x1.Test.Args) x1.zt x1.Uses x1.Other x1.N)).bind fun x2=>(bif (!x2)then some (Sum.inl false)else u5 c0 c1 c2 c3 c4 c5 c6 c7 c8 K (w64 (q+1)))else some (Sum.inr ()))
def u6(c0:List Cap)(c1:Int)(c2:List Def)(c3:List Table)(c4:List zY)(c5:List zB)(c6:List View)(c7:List zf)(c8:Int):Nat→(Int)→Option ((Bool)⊕(Unit))
 |0,_=>none
 |K+1,q=>(bif (decide (q<c1))then(idx c0 q).bind fun x1=>((yb 0 2 ([x1.Load]:List Int)).bind fun x3=>(bif (!x3)then some true else(yb 0 1099511627776 ([x1.Limit]:List Int)).bind fun x4=>(bif (!x4)then some true else(wE x1.Corners).bind fun x5=>some (!x5)))).bind fun x2=>(bif x2 then some (Sum.inl false)else u6 c0 c1 c2 c3 c4 c5 c6 c7 c8 K (w64 (q+1)))else some (Sum.inr ()))
def A4(c0:List View)(c1:Int)(c2:Int)(c3:Int)(c4:List Def)(c5:List Table)(c6:List zY)(c7:List zB)(c8:List Cap)(c9:List zf)(c10:Int)(c11:List zf):Nat→(Int)→Option ((Bool)⊕(Unit))
 |0,_=>none
 |K+1,q=>(bif (decide (q<c3))then(grd (0≤q∧q<(((List.length c11):Nat):Int))).bind fun _=>((c11)[(Int.toNat q)]?).bind fun x2=>((yb 0 1048576 ([x2.X,x2.Y]:List Int)).bind fun x4=>(bif (!x4)then some true else(yb 0 4096 ([x2.Z_]:List Int)).bind fun x5=>some (!x5))).bind fun x3=>(bif x3 then some (Sum.inl false)else A4 c0 c1 c2 c3 c4 c5 c6 c7 c8 c9 c10 c11 K (w64 (q+1)))else some (Sum.inr ()))
def qh(c0:List View)(c1:Int)(c2:List Def)(c3:List Table)(c4:List zY)(c5:List zB)(c6:List Cap)(c7:List zf)(c8:Int):Nat→(Int)→Option ((Bool)⊕(Unit))
 |0,_=>none
 |K+1,q=>(bif (decide (q<c1))then(idx c0 q).bind fun x1=>((yb 0 20 ([x1.Least]:List Int)).bind fun x3=>(bif (!x3)then some true else(yb 1 20 ([(x1.Targets.length:Int)]:List Int)).bind fun x4=>some (!x4))).bind fun x2=>(bif x2 then some (Sum.inl false)else(grd (List.length (([x1.Eye]:List zf)++x1.Targets)*24≤140737488355328)).bind fun _=>(A4 c0 c1 q (((List.length (([x1.Eye]:List zf)++x1.Targets)):Nat):Int) c2 c3 c4 c5 c6 c7 c8 (([x1.Eye]:List zf)++x1.Targets) KK 0).bind (yA (fun q=>some (Sum.inl q)) fun _=>qh c0 c1 c2 c3 c4 c5 c6 c7 c8 K (w64 (q+1))))else some (Sum.inr ()))
def u7(c0:List zf)(c1:Int)(c2:List Def)(c3:List Table)(c4:List zY)(c5:List zB)(c6:List Cap)(c7:List View)(c8:Int):Nat→(Int)→Option ((Bool)⊕(Unit))
 |0,_=>none
 |K+1,q=>(bif (decide (q<c1))then(idx c0 q).bind fun x1=>((yb (-4096) 4096 ([x1.X,x1.Y]:List Int)).bind fun x3=>(bif (!x3)then some true else(yb 1 4096 ([x1.Z_]:List Int)).bind fun x4=>some (!x4))).bind fun x2=>(bif x2 then some (Sum.inl false)else u7 c0 c1 c2 c3 c4 c5 c6 c7 c8 K (w64 (q+1)))else some (Sum.inr ()))
def Vd(p:vg):Option (Bool) :=
 ((ZY p.Defs 60).bind fun x2=>(bif (!x2)then some true else(Ks p.Tables 60).bind fun x3=>(bif (!x3)then some true else(Kt p.Zones 60).bind fun x4=>(bif (!x4)then some true else(Ku p.Rules 200).bind fun x5=>(bif (!x5)then some true else(Kv p.Caps 30).bind fun x6=>(bif (!x6)then some true else(Kw p.Views 60).bind fun x7=>some (!x7))))))).bind fun x1=>(bif x1 then some false else(uZ p.Defs (p.Defs.length:Int) p.Tables p.Zones p.Rules p.Caps p.Views p.Sun p.Hours KK 0).bind (yA some fun _=>(qg p.Tables (p.Tables.length:Int) p.Defs p.Zones p.Rules p.Caps p.Views p.Sun p.Hours KK 0).bind (yA some fun _=>(u0 p.Zones (p.Zones.length:Int) p.Defs p.Tables p.Rules p.Caps p.Views p.Sun p.Hours KK 0).bind (yA some fun _=>(u5 p.Rules (p.Rules.length:Int) p.Defs p.Tables p.Zones p.Caps p.Views p.Sun p.Hours KK 0).bind (yA some fun _=>(u6 p.Caps (p.Caps.length:Int) p.Defs p.Tables p.Zones p.Rules p.Views p.Sun p.Hours KK 0).bind (yA some fun _=>(qh p.Views (p.Views.length:Int) p.Defs p.Tables p.Zones p.Rules p.Caps p.Sun p.Hours KK 0).bind (yA some fun _=>(u7 p.Sun (p.Sun.length:Int) p.Defs p.Tables p.Zones p.Rules p.Caps p.Views p.Hours KK 0).bind (yA some fun _=>(yb 0 24 ([p.Hours,(p.Sun.length:Int)]:List Int)).bind fun x15=>some x15))))))))
def A5(a0:Bs8):Option (Bs8):=some a0
def H0(a0:Bs8)(a1:Int):Option (Bs8):=ztm a0 a1
def oG(a0:Bs8)(a1:Bs8):Option (Int×Bs8):=(grd (List.length a0+List.length a1≤140737488355328)).bind fun _=>some ((a1.length:Int),a0++a1)
def u9(c0:List (Int⊕Bs8))(c1:Int):Nat→(Bs8×Int)→Option (Bs8)
 |0,_=>none
 |K+1,q=>(bif (decide (q.2<c1))then((idx c0 q.2).bind fun x2=>((A5 q.1).bind fun x4=>((bif (!(decide (x4=([]:Bs8))))then(idx x4 (w64 ((x4.length:Int)-1))).bind fun x6=>some (!(decide (((x6.toNat:Nat):Int)=10)))else some false)).bind fun x5=>(bif x5 then(H0 q.1 32).bind fun x7=>some x7 else some q.1)).bind fun x3=>(bif (zLi x2)then(oG x3 (anyS x2)).bind fun x8=>some x8.2 else(bif (!(zLi x2))then((bif (decide ((anyI x2)<0))then(oG x3 Jo).bind fun x10=>some (x10.2,(w64 (0-(anyI x2))))else some (x3,(anyI x2)))).bind fun x9=>(Y2 x9.2).bind fun x11=>(oG x9.1 x11).bind fun x12=>some x12.2 else some x3))).bind fun x1=>u9 c0 c1 K (x1,(w64 (q.2+1)))else some q.1)
def yk(b:Bs8)(l:List (Int⊕Bs8)):Option (Bs8) :=
 (u9 l (l.length:Int) KK (b,0)).bind fun x1=>some x1
def qi(b:Bs8):Option (Bs8) :=
 (yk b ([(Sum.inr jg)]:List (Int⊕Bs8))).bind fun x1=>(H0 x1 10).bind fun x2=>some x2
def Ky(b:Bs8)(e:Expr):Option (Bs8) :=
 (xz KK ([]:Bs8) (Expr.mk e.Op e.N e.S e.Key e.Args) 0).bind fun x1=>(jL x1).bind fun x2=>(yk b ([(Sum.inr x2)]:List (Int⊕Bs8))).bind fun x3=>(qi x3).bind fun x4=>some x4
def xC(c0:List zG)(c1:Int):Nat→(Bs8×Int)→Option (Bs8)
 |0,_=>none
 |K+1,q=>(bif (decide (q.2<c1))then(idx c0 q.2).bind fun x1=>(yk q.1 ([(Sum.inl x1.X),(Sum.inl x1.Y)]:List (Int⊕Bs8))).bind fun x2=>xC c0 c1 K (x2,(w64 (q.2+1)))else some q.1)
def A6(b:Bs8)(l:List zG):Option (Bs8) :=
 (xC l (l.length:Int) KK (b,0)).bind fun x1=>(qi x1).bind fun x2=>some x2
def zna(a0:List Bs8)(a1:Bs8):Option (Bs8):=J.qx a0 a1
def jB(c0:Int)(c1:Bs8)(c2:List Bs8)(c3:List Bs8)(c4:Int)(c5:Int)(c6:Int)(c7:Bool)(c8:Int)(c9:Int)(c10:Int)(c11:Bs8)(c12:Bs8)(c13:List Expr)(c14:Int)(c15:Int)(c16:Int)(c17:Int)(c18:Int)(c19:Int)(c20:Int)(c21:(List (List Bs8))):Nat→(Bs8×Int)→Option (Bs8)
 |0,_=>none
 |K+1,q=>(bif (decide (q.2<c0))then((grd (0≤q.2∧q.2<(((List.length c21):Nat):Int))).bind fun _=>((c21)[(Int.toNat q.2)]?).bind fun x3=>(bif (decide ((x3.length:Int)>0))then(grd (0≤q.2∧q.2<((2:Nat):Int))).bind fun _=>((([ZA,yy]:List Bs8))[(Int.toNat q.2)]?).bind fun x5=>(zna x3 t__).bind fun x6=>(yk q.1 ([(Sum.inr x5),(Sum.inr x6)]:List (Int⊕Bs8))).bind fun x7=>some x7 else some q.1)).bind fun x1=>jB c0 c1 c2 c3 c4 c5 c6 c7 c8 c9 c10 c11 c12 c13 c14 c15 c16 c17 c18 c19 c20 c21 K (x1,(w64 (q.2+1)))else some q.1)
def vu(c0:Int)(c1:Bs8)(c2:List Bs8)(c3:List Bs8)(c4:Int)(c5:Int)(c6:Int)(c7:Bool)(c8:Int)(c9:Int)(c10:Int)(c11:Bs8)(c12:Bs8)(c13:List Expr)(c14:Int)(c15:Int)(c16:Int)(c17:Int)(c18:Int)(c19:Int)(c20:Int)(c21:List Int):Nat→(Bs8×Int)→Option (Bs8)
 |0,_=>none
 |K+1,q=>(bif (decide (q.2<c0))then((grd (0≤q.2∧q.2<(((List.length c21):Nat):Int))).bind fun _=>((c21)[(Int.toNat q.2)]?).bind fun x3=>(bif (!(decide (x3=0)))then(grd (0≤q.2∧q.2<((3:Nat):Int))).bind fun _=>((([wc,yQ,yW]:List Bs8))[(Int.toNat q.2)]?).bind fun x5=>(yk q.1 ([(Sum.inr x5),(Sum.inl x3)]:List (Int⊕Bs8))).bind fun x6=>some x6 else some q.1)).bind fun x1=>vu c0 c1 c2 c3 c4 c5 c6 c7 c8 c9 c10 c11 c12 c13 c14 c15 c16 c17 c18 c19 c20 c21 K (x1,(w64 (q.2+1)))else some q.1)
def xP(c0:Int)(c1:Bs8)(c2:List Bs8)(c3:List Bs8)(c4:Int)(c5:Int)(c6:Int)(c7:Bool)(c8:Int)(c9:Int)(c10:Int)(c11:Bs8)(c12:Bs8)(c13:List Expr)(c14:Int)(c15:Int)(c16:Int)(c17:Int)(c18:Int)(c19:Int)(c20:Int)(c21:List Bs8):Nat→(Bs8×Int)→Option (Bs8)
 |0,_=>none
 |K+1,q=>(bif (decide (q.2<c0))then((grd (0≤q.2∧q.2<(((List.length c21):Nat):Int))).bind fun _=>((c21)[(Int.toNat q.2)]?).bind fun x3=>(grd (0≤q.2)).bind fun _=>(bif (decide ((IntKind.i64.wrap ((BitVec.ofInt IntKind.i64.bits (Int.fdiv c18 (2 ^ (min (Int.toNat q.2) IntKind.i64.bits))) &&& BitVec.ofInt IntKind.i64.bits 1).toNat:Int))=1))then(yk q.1 ([(Sum.inr x3)]:List (Int⊕Bs8))).bind fun x5=>some x5 else some q.1)).bind fun x1=>xP c0 c1 c2 c3 c4 c5 c6 c7 c8 c9 c10 c11 c12 c13 c14 c15 c16 c17 c18 c19 c20 c21 K (x1,(w64 (q.2+1)))else some q.1)
def ZZ(b:Bs8)(r_:zB):Option (Bs8) :=
 (yk b ([(Sum.inr qQ),(Sum.inr r_.Name)]:List (Int⊕Bs8))).bind fun x1=>(jB ((2:Nat):Int) r_.Name r_.Zones r_.Except r_.From r_.Until r_.Grace r_.Vary r_.Kind r_.Test.Op r_.Test.N r_.Test.S r_.Test.Key r_.Test.Args r_.zt.Side r_.zt.Base r_.zt.Num r_.zt.Den r_.Uses r_.Other r_.N ([r_.Zones,r_.Except]:List (List Bs8)) KK (x1,0)).bind fun x2=>(vu ((3:Nat):Int) r_.Name r_.Zones r_.Except r_.From r_.Until r_.Grace r_.Vary r_.Kind r_.Test.Op r_.Test.N r_.Test.S r_.Test.Key r_.Test.Args r_.zt.Side r_.zt.Base r_.zt.Num r_.zt.Den r_.Uses r_.Other r_.N ([r_.From,r_.Until,r_.Grace]:List Int) KK (x2,0)).bind fun x3=>((bif r_.Vary then(yk x3 ([(Sum.inr K2)]:List (Int⊕Bs8))).bind fun x5=>some x5 else some x3)).bind fun x4=>(yk x4 ([(Sum.inr o5)]:List (Int⊕Bs8))).bind fun x6=>(Ad zm).bind fun x7=>((bif (decide (r_.Kind=0))then(Ky x6 (Expr.mk r_.Test.Op r_.Test.N r_.Test.S r_.Test.Key r_.Test.Args)).bind fun x9=>some (Sum.inl x9)else(bif (decide (r_.Kind=1))then(yk x6 ([(Sum.inr HI),(Sum.inl r_.zt.Side),(Sum.inr K1),(Sum.inl r_.zt.Base),(Sum.inr AM),(Sum.inl r_.zt.Num),(Sum.inl r_.zt.Den)]:List (Int⊕Bs8))).bind fun x10=>some (Sum.inr x10)else(bif (decide (r_.Kind=3))then(grd (0≤r_.Uses∧r_.Uses<(((List.length x7):Nat):Int))).bind fun _=>((x7)[(Int.toNat r_.Uses)]?).bind fun x12=>(grd (0≤r_.Other∧r_.Other<(((List.length x7):Nat):Int))).bind fun _=>((x7)[(Int.toNat r_.Other)]?).bind fun x14=>(yk x6 ([(Sum.inr HH),(Sum.inr x12),(Sum.inr x14),(Sum.inl r_.N)]:List (Int⊕Bs8))).bind fun x15=>some (Sum.inr x15)else(bif (decide (r_.Kind=2))then(yk x6 ([(Sum.inr JM)]:List (Int⊕Bs8))).bind fun x16=>(xP (((List.length x7):Nat):Int) r_.Name r_.Zones r_.Except r_.From r_.Until r_.Grace r_.Vary r_.Kind r_.Test.Op r_.Test.N r_.Test.S r_.Test.Key r_.Test.Args r_.zt.Side r_.zt.Base r_.zt.Num r_.zt.Den r_.Uses r_.Other r_.N x7 KK (x16,0)).bind fun x17=>some (Sum.inr x17)else some (Sum.inr x6)))))).bind (yA some fun x8=>(qi x8).bind fun x18=>some x18)
def zq2(a0:Bs8):Option (Int):=some (a0.length:Int)
def vN(c0:List Def)(c1:Int)(c2:List Table)(c3:List zY)(c4:List zB)(c5:List Cap)(c6:List View)(c7:List zf)(c8:Int):Nat→(Int×Bs8)→Option (Bs8)
 |0,_=>none
 |K+1,q=>(bif (decide (q.1<c1))then(idx c0 q.1).bind fun x1=>(yk q.2 ([(Sum.inr uz),(Sum.inr x1.Name),(Sum.inr zjn)]:List (Int⊕Bs8))).bind fun x2=>(Ky x2 (Expr.mk x1.Body.Op x1.Body.N x1.Body.S x1.Body.Key x1.Body.Args)).bind fun x3=>vN c0 c1 c2 c3 c4 c5 c6 c7 c8 K ((w64 (q.1+1)),x3)else some q.2)
def vO(c0:List Table)(c1:Int)(c2:Int)(c3:List Entry)(c4:Int)(c5:List Def)(c6:List zY)(c7:List zB)(c8:List Cap)(c9:List View)(c10:List zf)(c11:Int)(c12:Bs8)(c13:Int):Nat→(Int×Bs8)→Option (Bs8)
 |0,_=>none
 |K+1,q=>(bif (decide (q.1<c4))then(idx c3 q.1).bind fun x1=>(yk q.2 ([(Sum.inr x1.Name),(Sum.inl x1.N)]:List (Int⊕Bs8))).bind fun x2=>vO c0 c1 c2 c3 c4 c5 c6 c7 c8 c9 c10 c11 c12 c13 K ((w64 (q.1+1)),x2)else some q.2)
def vP(c0:List Table)(c1:Int)(c2:List Def)(c3:List zY)(c4:List zB)(c5:List Cap)(c6:List View)(c7:List zf)(c8:Int):Nat→(Int×Bs8)→Option (Bs8)
 |0,_=>none
 |K+1,q=>(bif (decide (q.1<c1))then(idx c0 q.1).bind fun x1=>(yk q.2 ([(Sum.inr wC),(Sum.inr x1.Name)]:List (Int⊕Bs8))).bind fun x2=>(vO c0 c1 q.1 x1.Rows (x1.Rows.length:Int) c2 c3 c4 c5 c6 c7 c8 x1.Name x1.Else KK (0,x2)).bind fun x3=>(yk x3 ([(Sum.inr kp),(Sum.inl x1.Else)]:List (Int⊕Bs8))).bind fun x4=>(qi x4).bind fun x5=>vP c0 c1 c2 c3 c4 c5 c6 c7 c8 K ((w64 (q.1+1)),x5)else some q.2)
def vQ(c0:List zY)(c1:Int)(c2:List Def)(c3:List Table)(c4:List zB)(c5:List Cap)(c6:List View)(c7:List zf)(c8:Int):Nat→(Int×Bs8)→Option (Bs8)
 |0,_=>none
 |K+1,q=>(bif (decide (q.1<c1))then(idx c0 q.1).bind fun x1=>((bif x1.Overlay then some yX else some kq)).bind fun x2=>(yk q.2 ([(Sum.inr x2),(Sum.inr x1.Name)]:List (Int⊕Bs8))).bind fun x3=>(A6 x3 x1.Corners).bind fun x4=>vQ c0 c1 c2 c3 c4 c5 c6 c7 c8 K ((w64 (q.1+1)),x4)else some q.2)
def vR(c0:List zB)(c1:Int)(c2:List Def)(c3:List Table)(c4:List zY)(c5:List Cap)(c6:List View)(c7:List zf)(c8:Int):Nat→(Int×Bs8)→Option (Bs8)
 |0,_=>none
 |K+1,q=>(bif (decide (q.1<c1))then(idx c0 q.1).bind fun x1=>(ZZ q.2 (zB.mk x1.Name x1.Zones x1.Except x1.From x1.Until x1.Grace x1.Vary x1.Kind (Expr.mk x1.Test.Op x1.Test.N x1.Test.S x1.Test.Key x1.Test.Args) x1.zt x1.Uses x1.Other x1.N)).bind fun x2=>vR c0 c1 c2 c3 c4 c5 c6 c7 c8 K ((w64 (q.1+1)),x2)else some q.2)
def vS(c0:List Cap)(c1:Int)(c2:List Def)(c3:List Table)(c4:List zY)(c5:List zB)(c6:List View)(c7:List zf)(c8:Int):Nat→(Int×Bs8)→Option (Bs8)
 |0,_=>none
 |K+1,q=>(bif (decide (q.1<c1))then(idx c0 q.1).bind fun x1=>(Ad zZ).bind fun x2=>(grd (0≤x1.Load∧x1.Load<(((List.length x2):Nat):Int))).bind fun _=>((x2)[(Int.toNat x1.Load)]?).bind fun x4=>(yk q.2 ([(Sum.inr zby),(Sum.inr x1.Name),(Sum.inr x4),(Sum.inl x1.Limit)]:List (Int⊕Bs8))).bind fun x5=>(A6 x5 x1.Corners).bind fun x6=>vS c0 c1 c2 c3 c4 c5 c6 c7 c8 K ((w64 (q.1+1)),x6)else some q.2)
def vT(c0:List View)(c1:Int)(c2:Int)(c3:List zf)(c4:Int)(c5:List Def)(c6:List Table)(c7:List zY)(c8:List zB)(c9:List Cap)(c10:List zf)(c11:Int):Nat→(Int×Bs8)→Option (Bs8)
 |0,_=>none
 |K+1,q=>(bif (decide (q.1<c4))then(idx c3 q.1).bind fun x1=>(yk q.2 ([(Sum.inl x1.X),(Sum.inl x1.Y),(Sum.inl x1.Z_)]:List (Int⊕Bs8))).bind fun x2=>vT c0 c1 c2 c3 c4 c5 c6 c7 c8 c9 c10 c11 K ((w64 (q.1+1)),x2)else some q.2)
def vU(c0:List View)(c1:Int)(c2:List Def)(c3:List Table)(c4:List zY)(c5:List zB)(c6:List Cap)(c7:List zf)(c8:Int):Nat→(Int×Bs8)→Option (Bs8)
 |0,_=>none
 |K+1,q=>(bif (decide (q.1<c1))then(idx c0 q.1).bind fun x1=>(yk q.2 ([(Sum.inr JN),(Sum.inr x1.Name),(Sum.inl x1.Eye.X),(Sum.inl x1.Eye.Y),(Sum.inl x1.Eye.Z_),(Sum.inr AL),(Sum.inl x1.Least),(Sum.inr o5)]:List (Int⊕Bs8))).bind fun x2=>(vT c0 c1 q.1 x1.Targets (x1.Targets.length:Int) c2 c3 c4 c5 c6 c7 c8 KK (0,x2)).bind fun x3=>(qi x3).bind fun x4=>vU c0 c1 c2 c3 c4 c5 c6 c7 c8 K ((w64 (q.1+1)),x4)else some q.2)
def vV(c0:List zf)(c1:Int)(c2:List Def)(c3:List Table)(c4:List zY)(c5:List zB)(c6:List Cap)(c7:List View)(c8:Int):Nat→(Int×Bs8)→Option (Bs8)
 |0,_=>none
 |K+1,q=>(bif (decide (q.1<c1))then(idx c0 q.1).bind fun x1=>(grd (0≤(min q.1 1)∧(min q.1 1)<((2:Nat):Int))).bind fun _=>((([oB,zb4]:List Bs8))[(Int.toNat (min q.1 1))]?).bind fun x3=>(yk q.2 ([(Sum.inr x3),(Sum.inl x1.X),(Sum.inl x1.Y),(Sum.inl x1.Z_)]:List (Int⊕Bs8))).bind fun x4=>vV c0 c1 c2 c3 c4 c5 c6 c7 c8 K ((w64 (q.1+1)),x4)else some q.2)
def zcn(p:vg):Option (Bs8×Int) :=
 (Vd p).bind fun x1=>(bif (!x1)then some (([]:Bs8),1)else(vN p.Defs (p.Defs.length:Int) p.Tables p.Zones p.Rules p.Caps p.Views p.Sun p.Hours KK (0,([]:Bs8))).bind fun x2=>(vP p.Tables (p.Tables.length:Int) p.Defs p.Zones p.Rules p.Caps p.Views p.Sun p.Hours KK (0,x2)).bind fun x3=>(vQ p.Zones (p.Zones.length:Int) p.Defs p.Tables p.Rules p.Caps p.Views p.Sun p.Hours KK (0,x3)).bind fun x4=>(vR p.Rules (p.Rules.length:Int) p.Defs p.Tables p.Zones p.Caps p.Views p.Sun p.Hours KK (0,x4)).bind fun x5=>(vS p.Caps (p.Caps.length:Int) p.Defs p.Tables p.Zones p.Rules p.Views p.Sun p.Hours KK (0,x5)).bind fun x6=>(vU p.Views (p.Views.length:Int) p.Defs p.Tables p.Zones p.Rules p.Caps p.Sun p.Hours KK (0,x6)).bind fun x7=>(vV p.Sun (p.Sun.length:Int) p.Defs p.Tables p.Zones p.Rules p.Caps p.Views p.Hours KK (0,x7)).bind fun x8=>((bif (decide ((p.Sun.length:Int)>0))then(qi x8).bind fun x10=>some x10 else some x8)).bind fun x9=>((bif (!(decide (p.Hours=0)))then(yk x9 ([(Sum.inr xO),(Sum.inl p.Hours)]:List (Int⊕Bs8))).bind fun x12=>(qi x12).bind fun x13=>some x13 else some x9)).bind fun x11=>(zq2 x11).bind fun x14=>(bif (decide (x14>8000))then some (([]:Bs8),6)else(A5 x11).bind fun x15=>some (x15,0)))
def H5:Option (Bool) :=
 (zb6 zbx).bind fun x1=>(kZ (Expr.mk x1.2.2.1 x1.2.2.2.1 x1.2.2.2.2.1 x1.2.2.2.2.2.1 x1.2.2.2.2.2.2)).bind fun x2=>(kZ (Expr.mk 6 0 ([]:Bs8) ([]:Bs8) ([(Expr.mk 0 2 ([]:Bs8) ([]:Bs8) []),(Expr.mk 4 0 ([]:Bs8) ([]:Bs8) ([(Expr.mk 1 0 t_a ([]:Bs8) []),(Expr.mk 1 0 t_b ([]:Bs8) [])]:List Expr))]:List Expr))).bind fun x3=>(Vc qR).bind fun x4=>(Vc zjm).bind fun x5=>(Vc KO).bind fun x6=>(Vc Wf).bind fun x7=>(Vc HJ).bind fun x8=>(Vc ua).bind fun x9=>((bif (decide (x1.2.1=0))then(bif (decide (x2.2=0))then(bif (decide (x2.1=JK))then(bif (decide (x3.2=0))then(bif (decide (x3.1=HG))then(bif (decide (x4.2.1=0))then(bif (decide ((((List.length x4.2.2.2.2.2.2.1):Nat):Int)=1))then(grd ((0:Int)≤0∧0<(((List.length x4.2.2.2.2.2.2.1):Nat):Int))).bind fun _=>((x4.2.2.2.2.2.2.1)[(Int.toNat 0)]?).bind fun x12=>some (decide ((x12.Corners.length:Int)=4))else some false)else some false)else some false)else some false)else some false)else some false)else some false)).bind fun x10=>((bif (decide (x5.1=6))then(bif (decide (x5.2.1=3))then(bif (decide (x6.1=7))then(bif (decide (x6.2.1=14))then(bif (decide (x7.1=11))then(bif (decide (x7.2.1=14))then(bif (decide (x8.1=18))then(bif (decide (x8.2.1=10))then(bif (decide (x9.1=18))then some (decide (x9.2.1=5))else some false)else some false)else some false)else some false)else some false)else some false)else some false)else some false)else some false)).bind fun x13=>(zcn (vg.mk x4.2.2.2.2.1 x4.2.2.2.2.2.1 x4.2.2.2.2.2.2.1 x4.2.2.2.2.2.2.2.1 x4.2.2.2.2.2.2.2.2.1 x4.2.2.2.2.2.2.2.2.2 x4.2.2.1 x4.2.2.2.1)).bind fun x14=>(bif x10 then(bif x13 then(bif (decide (x14.2=0))then(bif (decide (x14.1=ka))then(Vd (vg.mk x4.2.2.2.2.1 x4.2.2.2.2.2.1 x4.2.2.2.2.2.2.1 x4.2.2.2.2.2.2.2.1 x4.2.2.2.2.2.2.2.2.1 x4.2.2.2.2.2.2.2.2.2 x4.2.2.1 x4.2.2.2.1)).bind fun x15=>(bif x15 then(Vd (vg.mk [] [] [] [] [] [] [] 25)).bind fun x16=>(bif (!x16)then(K3 t_a1).bind fun x17=>(bif x17 then(K3 qQ).bind fun x18=>some (!x18)else some false)else some false)else some false)else some false)else some false)else some false)else some false)
def Kz(c_:Int):Option (Bool) :=
 (bif (decide (c_≥97))then some (decide (c_≤122))else some false)
def zco(c_:Int):Option (Bool) :=
 (bif (decide (c_≥48))then some (decide (c_≤57))else some false)
def Ae(c0:Int)(c1:List Def)(c2:List Table)(c3:List zY)(c4:List zB)(c5:List Cap)(c6:List View)(c7:List zf)(c8:Int):Nat→(Int×(List Bs8))→Option ((List Bs8))
 |0,_=>none
 |K+1,q=>((bif (decide (q.1<(c1.length:Int)))then some (decide (c0=0))else some false)).bind fun x1=>(bif x1 then(idx c1 q.1).bind fun x2=>(grd (List.length (q.2++([x2.Name]:List Bs8))*16≤140737488355328)).bind fun _=>Ae c0 c1 c2 c3 c4 c5 c6 c7 c8 K ((w64 (q.1+1)),(q.2++([x2.Name]:List Bs8)))else some q.2)
def Af(c0:Int)(c1:List Def)(c2:List Table)(c3:List zY)(c4:List zB)(c5:List Cap)(c6:List View)(c7:List zf)(c8:Int):Nat→(Int×(List Bs8))→Option ((List Bs8))
 |0,_=>none
 |K+1,q=>((bif (decide (q.1<(c2.length:Int)))then some (decide (c0=1))else some false)).bind fun x1=>(bif x1 then(idx c2 q.1).bind fun x2=>(grd (List.length (q.2++([x2.Name]:List Bs8))*16≤140737488355328)).bind fun _=>Af c0 c1 c2 c3 c4 c5 c6 c7 c8 K ((w64 (q.1+1)),(q.2++([x2.Name]:List Bs8)))else some q.2)
def Ag(c0:Int)(c1:List Def)(c2:List Table)(c3:List zY)(c4:List zB)(c5:List Cap)(c6:List View)(c7:List zf)(c8:Int):Nat→(Int×(List Bs8))→Option ((List Bs8))
 |0,_=>none
 |K+1,q=>((bif (decide (q.1<(c3.length:Int)))then some (decide (c0=2))else some false)).bind fun x1=>(bif x1 then(idx c3 q.1).bind fun x2=>(grd (List.length (q.2++([x2.Name]:List Bs8))*16≤140737488355328)).bind fun _=>Ag c0 c1 c2 c3 c4 c5 c6 c7 c8 K ((w64 (q.1+1)),(q.2++([x2.Name]:List Bs8)))else some q.2)
def Ah(c0:Int)(c1:List Def)(c2:List Table)(c3:List zY)(c4:List zB)(c5:List Cap)(c6:List View)(c7:List zf)(c8:Int):Nat→(Int×(List Bs8))→Option ((List Bs8))
 |0,_=>none
 |K+1,q=>((bif (decide (q.1<(c4.length:Int)))then some (decide (c0=3))else some false)).bind fun x1=>(bif x1 then(idx c4 q.1).bind fun x2=>(grd (List.length (q.2++([x2.Name]:List Bs8))*16≤140737488355328)).bind fun _=>Ah c0 c1 c2 c3 c4 c5 c6 c7 c8 K ((w64 (q.1+1)),(q.2++([x2.Name]:List Bs8)))else some q.2)
def Ai(c0:Int)(c1:List Def)(c2:List Table)(c3:List zY)(c4:List zB)(c5:List Cap)(c6:List View)(c7:List zf)(c8:Int):Nat→(Int×(List Bs8))→Option ((List Bs8))
 |0,_=>none
 |K+1,q=>((bif (decide (q.1<(c5.length:Int)))then some (decide (c0=4))else some false)).bind fun x1=>(bif x1 then(idx c5 q.1).bind fun x2=>(grd (List.length (q.2++([x2.Name]:List Bs8))*16≤140737488355328)).bind fun _=>Ai c0 c1 c2 c3 c4 c5 c6 c7 c8 K ((w64 (q.1+1)),(q.2++([x2.Name]:List Bs8)))else some q.2)
def Aj(c0:Int)(c1:List Def)(c2:List Table)(c3:List zY)(c4:List zB)(c5:List Cap)(c6:List View)(c7:List zf)(c8:Int):Nat→(Int×(List Bs8))→Option ((List Bs8))
 |0,_=>none
 |K+1,q=>((bif (decide (q.1<(c6.length:Int)))then some (decide (c0=5))else some false)).bind fun x1=>(bif x1 then(idx c6 q.1).bind fun x2=>(grd (List.length (q.2++([x2.Name]:List Bs8))*16≤140737488355328)).bind fun _=>Aj c0 c1 c2 c3 c4 c5 c6 c7 c8 K ((w64 (q.1+1)),(q.2++([x2.Name]:List Bs8)))else some q.2)
def Wv(p:vg)(kind:Int):Option ((List Bs8)) :=
 (Ae kind p.Defs p.Tables p.Zones p.Rules p.Caps p.Views p.Sun p.Hours KK (0,[])).bind fun x1=>(Af kind p.Defs p.Tables p.Zones p.Rules p.Caps p.Views p.Sun p.Hours KK (0,x1)).bind fun x2=>(Ag kind p.Defs p.Tables p.Zones p.Rules p.Caps p.Views p.Sun p.Hours KK (0,x2)).bind fun x3=>(Ah kind p.Defs p.Tables p.Zones p.Rules p.Caps p.Views p.Sun p.Hours KK (0,x3)).bind fun x4=>(Ai kind p.Defs p.Tables p.Zones p.Rules p.Caps p.Views p.Sun p.Hours KK (0,x4)).bind fun x5=>(Aj kind p.Defs p.Tables p.Zones p.Rules p.Caps p.Views p.Sun p.Hours KK (0,x5)).bind fun x6=>some x6
def qj(c0:Bs8):Nat→(Int)→Option ((Bool)⊕(Unit))
 |0,_=>none
 |K+1,q=>(bif (decide (q<(c0.length:Int)))then((idx c0 q).bind fun x2=>(Kz ((x2.toNat:Nat):Int)).bind fun x3=>(bif (!x3)then(idx c0 q).bind fun x4=>(zco ((x4.toNat:Nat):Int)).bind fun x5=>some (!x5)else some false)).bind fun x1=>(bif x1 then some (Sum.inl false)else qj c0 K (w64 (q+1)))else some (Sum.inr ()))
def Z1(s:Bs8):Option (Bool) :=
 ((bif (decide ((s.length:Int)<1))then some true else(bif (decide ((s.length:Int)>20))then some true else(idx s 0).bind fun x2=>(Kz ((x2.toNat:Nat):Int)).bind fun x3=>some (!x3)))).bind fun x1=>(bif x1 then some false else(qj s KK 1).bind (yA some fun _=>some true))
def JT:Option ((List Bs8)) :=
 some ([zws,HH,K1,zby,uz,kp,yy,wc,yW,xO,zOi,ZA,AL,zwt,zOj,yX,HI,qQ,AM,oB,wC,Y1,yQ,JM,K2,JN,kq]:List Bs8)
def qk(c0:List Bs8)(c1:Bs8):Nat→(Int)→Option ((Int)⊕(Unit))
 |0,_=>none
 |K+1,q=>(bif (decide (q<(c0.length:Int)))then(idx c0 q).bind fun x1=>(bif (decide (x1=c1))then some (Sum.inl q)else qk c0 c1 K (w64 (q+1)))else some (Sum.inr ()))
def Ww(l:List Bs8)(s:Bs8):Option (Int) :=
 (qk l s KK 0).bind (yA some fun _=>some (-1))
def uJ(s:Bs8):Option (Bool) :=
 (Z1 s).bind fun x1=>(bif x1 then(JT).bind fun x2=>(Ww x2 s).bind fun x3=>some (decide (x3<0))else some false)
def wX(c0:List zG)(c1:Int):Nat→(Int)→Option ((Bool)⊕(Unit))
 |0,_=>none
 |K+1,q=>(bif (decide (q<c1))then(idx c0 q).bind fun x1=>(grd (c1≠0)).bind fun _=>(idx c0 (Int.tmod (w64 (q+1)) c1)).bind fun x3=>(grd (c1≠0)).bind fun _=>(idx c0 (Int.tmod (w64 (q+2)) c1)).bind fun x5=>((bif (decide (x1.X<0))then some true else(bif (decide (x1.X>1048576))then some true else(bif (decide (x1.Y<0))then some true else(bif (decide (x1.Y>1048576))then some true else(bif ((decide (x1.X=x3.X))==(decide (x1.Y=x3.Y)))then some true else some ((decide (x1.X=x3.X))==(decide (x3.X=x5.X))))))))).bind fun x6=>(bif x6 then some (Sum.inl false)else wX c0 c1 K (w64 (q+1)))else some (Sum.inr ()))
def H7(p:List zG):Option (Bool) :=
 (wX p (p.length:Int) KK 0).bind (yA some fun _=>some true)
def Wx(a:zG)(b:zG):Option (Bool) :=
 (bif (decide (a.X<b.X))then some true else(bif (decide (a.X=b.X))then some (decide (a.Y<b.Y))else some false))
def zjr(a:zG)(b:zG)(c_:zG)(d:zG):Option (Bool) :=
 (bif (decide ((max (min a.X b.X) (min c_.X d.X))≤(min (max a.X b.X) (max c_.X d.X))))then some (decide ((max (min a.Y b.Y) (min c_.Y d.Y))≤(min (max a.Y b.Y) (max c_.Y d.Y))))else some false)
def jS(c0:List zG)(c1:Int)(c2:Int):Nat→(Int)→Option ((Bool)⊕(Unit))
 |0,_=>none
 |K+1,q=>(bif (decide (q<c1))then((grd (c1≠0)).bind fun _=>(bif (!(decide ((Int.tmod (w64 (q+1)) c1)=c2)))then(idx c0 c2).bind fun x3=>(idx c0 (w64 (c2+1))).bind fun x4=>(idx c0 q).bind fun x5=>(grd (c1≠0)).bind fun _=>(idx c0 (Int.tmod (w64 (q+1)) c1)).bind fun x7=>(zjr x3 x4 x5 x7).bind fun x8=>some x8 else some false)).bind fun x1=>(bif x1 then some (Sum.inl false)else jS c0 c1 c2 K (w64 (q+1)))else some (Sum.inr ()))
def jT(c0:List zG)(c1:Int):Nat→(Int)→Option ((Bool)⊕(Unit))
 |0,_=>none
 |K+1,q=>(bif (decide (q<c1))then((bif (decide (q>0))then(idx c0 0).bind fun x2=>(idx c0 q).bind fun x3=>(Wx x2 x3).bind fun x4=>some (!x4)else some false)).bind fun x1=>(bif x1 then some (Sum.inl false)else(jS c0 c1 q KK (w64 (q+2))).bind (yA (fun q=>some (Sum.inl q)) fun _=>jT c0 c1 K (w64 (q+1))))else some (Sum.inr ()))
def oH(p:List zG):Option (Bool) :=
 ((bif (decide ((p.length:Int)<4))then some true else some (decide ((p.length:Int)>60)))).bind fun x1=>(bif x1 then some false else((H7 p).bind fun x3=>(bif (!x3)then some true else(idx p 0).bind fun x4=>(idx p 1).bind fun x5=>some (!(decide (x4.Y=x5.Y))))).bind fun x2=>(bif x2 then some false else(jT p (p.length:Int) KK 0).bind (yA some fun _=>some true)))
def jU:Option ((List Bs8)) :=
 some ([zb0,zb2,zb3,zb1,QT,zbz]:List Bs8)
def zcp(n:Int):Option (Int) :=
 (grd (0≤n∧n<((6:Nat):Int))).bind fun _=>((([1,2,4,8,16,32]:List Int))[(Int.toNat n)]?).bind fun x2=>some x2
def H8:Option ((List Bs8)) :=
 some ([zjl,Wh,ZU]:List Bs8)
def ql(c0:List zf)(c1:List zf):Nat→(Int)→Option ((Bool)⊕(Unit))
 |0,_=>none
 |K+1,q=>(bif (decide (q<(c0.length:Int)))then(idx c0 q).bind fun x1=>(idx c1 q).bind fun x2=>(bif (!(decide (x1.X=x2.X)&&(decide (x1.Y=x2.Y)&&(decide (x1.Z_=x2.Z_)))))then some (Sum.inl false)else ql c0 c1 K (w64 (q+1)))else some (Sum.inr ()))
def jq(a:List zf)(b:List zf):Option (Bool) :=
 (bif (!(decide ((a.length:Int)=(b.length:Int))))then some false else(ql a b KK 0).bind (yA some fun _=>some true))
def kz(r_R_SameExpr:Expr→Expr→Option (Bool))(c0:Int)(c1:Int)(c2:Bs8)(c3:Bs8)(c4:List Expr)(c5:Int)(c6:Int)(c7:Bs8)(c8:Bs8)(c9:List Expr):Nat→(Int)→Option ((Bool)⊕(Unit))
 |0,_=>none
 |K+1,q=>(bif (decide (q<(c4.length:Int)))then(idx c4 q).bind fun x1=>(idx c9 q).bind fun x2=>(r_R_SameExpr x1 x2).bind fun x3=>(bif (!x3)then some (Sum.inl false)else kz r_R_SameExpr c0 c1 c2 c3 c4 c5 c6 c7 c8 c9 K (w64 (q+1)))else some (Sum.inr ()))
def yY:Nat→Expr→Expr→Option (Bool)
 |0,_,_=>none
 |RK+1,a,b=>((bif (!(decide (a.Op=b.Op)))then some true else(bif (!(decide (a.N=b.N)))then some true else(bif (!(decide (a.S=b.S)))then some true else(bif (!(decide (a.Key=b.Key)))then some true else some (!(decide ((a.Args.length:Int)=(b.Args.length:Int))))))))).bind fun x1=>(bif x1 then some false else(kz (yY RK) a.Op a.N a.S a.Key a.Args b.Op b.N b.S b.Key b.Args KK 0).bind (yA some fun _=>some true))
def kA(c0:List Entry)(c1:List Entry):Nat→(Int)→Option ((Bool)⊕(Unit))
 |0,_=>none
 |K+1,q=>(bif (decide (q<(c0.length:Int)))then(idx c0 q).bind fun x1=>(idx c1 q).bind fun x2=>(bif (!(decide (x1.Name=x2.Name)&&(decide (x1.N=x2.N))))then some (Sum.inl false)else kA c0 c1 K (w64 (q+1)))else some (Sum.inr ()))
def kB(a:List Entry)(b:List Entry):Option (Bool) :=
 (bif (!(decide ((a.length:Int)=(b.length:Int))))then some false else(kA a b KK 0).bind (yA some fun _=>some true))
def qm(c0:List zG)(c1:List zG):Nat→(Int)→Option ((Bool)⊕(Unit))
 |0,_=>none
 |K+1,q=>(bif (decide (q<(c0.length:Int)))then(idx c0 q).bind fun x1=>(idx c1 q).bind fun x2=>(bif (!(decide (x1.X=x2.X)&&(decide (x1.Y=x2.Y))))then some (Sum.inl false)else qm c0 c1 K (w64 (q+1)))else some (Sum.inr ()))
def js(a:List zG)(b:List zG):Option (Bool) :=
 (bif (!(decide ((a.length:Int)=(b.length:Int))))then some false else(qm a b KK 0).bind (yA some fun _=>some true))
def uc(c0:List Bs8)(c1:List Bs8):Nat→(Int)→Option ((Bool)⊕(Unit))
 |0,_=>none
 |K+1,q=>(bif (decide (q<(c0.length:Int)))then(idx c0 q).bind fun x1=>(idx c1 q).bind fun x2=>(bif (!(decide (x1=x2)))then some (Sum.inl false)else uc c0 c1 K (w64 (q+1)))else some (Sum.inr ()))
def kC(a:List Bs8)(b:List Bs8):Option (Bool) :=
 (bif (!(decide ((a.length:Int)=(b.length:Int))))then some false else(uc a b KK 0).bind (yA some fun _=>some true))
def qU(a:zB)(b:zB):Option (Bool) :=
 ((kC a.Zones b.Zones).bind fun x2=>(bif x2 then(kC a.Except b.Except).bind fun x3=>(bif x3 then(yY KK (Expr.mk a.Test.Op a.Test.N a.Test.S a.Test.Key a.Test.Args) (Expr.mk b.Test.Op b.Test.N b.Test.S b.Test.Key b.Test.Args)).bind fun x4=>some x4 else some false)else some false)).bind fun x1=>((bif (decide (a.From=b.From))then(bif (decide (a.Until=b.Until))then(bif (decide (a.Grace=b.Grace))then some (a.Vary==b.Vary)else some false)else some false)else some false)).bind fun x5=>(bif (decide (a.Name=b.Name))then(bif x1 then(bif x5 then(bif (decide (a.Kind=b.Kind))then(bif (decide (a.zt.Side=b.zt.Side)&&(decide (a.zt.Base=b.zt.Base)&&(decide (a.zt.Num=b.zt.Num)&&(decide (a.zt.Den=b.zt.Den)))))then(bif (decide (a.Uses=b.Uses))then(bif (decide (a.Other=b.Other))then some (decide (a.N=b.N))else some false)else some false)else some false)else some false)else some false)else some false)else some false)
def oI(c0:List Def)(c1:List Table)(c2:List zY)(c3:List zB)(c4:List Cap)(c5:List View)(c6:List zf)(c7:Int)(c8:List Def)(c9:List Table)(c10:List zY)(c11:List zB)(c12:List Cap)(c13:List View)(c14:List zf)(c15:Int):Nat→(Int)→Option ((Bool)⊕(Unit))
 |0,_=>none
 |K+1,q=>(bif (decide (q<(c0.length:Int)))then((idx c0 q).bind fun x2=>(idx c8 q).bind fun x3=>(bif (!(decide (x2.Name=x3.Name)))then some true else(idx c0 q).bind fun x4=>(idx c8 q).bind fun x5=>(yY KK x4.Body x5.Body).bind fun x6=>some (!x6))).bind fun x1=>(bif x1 then some (Sum.inl false)else oI c0 c1 c2 c3 c4 c5 c6 c7 c8 c9 c10 c11 c12 c13 c14 c15 K (w64 (q+1)))else some (Sum.inr ()))
def oJ(c0:List Def)(c1:List Table)(c2:List zY)(c3:List zB)(c4:List Cap)(c5:List View)(c6:List zf)(c7:Int)(c8:List Def)(c9:List Table)(c10:List zY)(c11:List zB)(c12:List Cap)(c13:List View)(c14:List zf)(c15:Int):Nat→(Int)→Option ((Bool)⊕(Unit))
 |0,_=>none
 |K+1,q=>(bif (decide (q<(c1.length:Int)))then((idx c1 q).bind fun x2=>(idx c9 q).bind fun x3=>(bif (!(decide (x2.Name=x3.Name)))then some true else(idx c1 q).bind fun x4=>(idx c9 q).bind fun x5=>(bif (!(decide (x4.Else=x5.Else)))then some true else(idx c1 q).bind fun x6=>(idx c9 q).bind fun x7=>(kB x6.Rows x7.Rows).bind fun x8=>some (!x8)))).bind fun x1=>(bif x1 then some (Sum.inl false)else oJ c0 c1 c2 c3 c4 c5 c6 c7 c8 c9 c10 c11 c12 c13 c14 c15 K (w64 (q+1)))else some (Sum.inr ()))
def oK(c0:List Def)(c1:List Table)(c2:List zY)(c3:List zB)(c4:List Cap)(c5:List View)(c6:List zf)(c7:Int)(c8:List Def)(c9:List Table)(c10:List zY)(c11:List zB)(c12:List Cap)(c13:List View)(c14:List zf)(c15:Int):Nat→(Int)→Option ((Bool)⊕(Unit))
 |0,_=>none
 |K+1,q=>(bif (decide (q<(c2.length:Int)))then((idx c2 q).bind fun x2=>(idx c10 q).bind fun x3=>(bif (!(decide (x2.Name=x3.Name)))then some true else(idx c2 q).bind fun x4=>(idx c10 q).bind fun x5=>(bif (!(x4.Overlay==x5.Overlay))then some true else(idx c2 q).bind fun x6=>(idx c10 q).bind fun x7=>(js x6.Corners x7.Corners).bind fun x8=>some (!x8)))).bind fun x1=>(bif x1 then some (Sum.inl false)else oK c0 c1 c2 c3 c4 c5 c6 c7 c8 c9 c10 c11 c12 c13 c14 c15 K (w64 (q+1)))else some (Sum.inr ()))
def qn(c0:List Def)(c1:List Table)(c2:List zY)(c3:List zB)(c4:List Cap)(c5:List View)(c6:List zf)(c7:Int)(c8:List Def)(c9:List Table)(c10:List zY)(c11:List zB)(c12:List Cap)(c13:List View)(c14:List zf)(c15:Int):Nat→(Int)→Option ((Bool)⊕(Unit))
 |0,_=>none
 |K+1,q=>(bif (decide (q<(c3.length:Int)))then(idx c3 q).bind fun x1=>(idx c11 q).bind fun x2=>(qU x1 x2).bind fun x3=>(bif (!x3)then some (Sum.inl false)else qn c0 c1 c2 c3 c4 c5 c6 c7 c8 c9 c10 c11 c12 c13 c14 c15 K (w64 (q+1)))else some (Sum.inr ()))
def oL(c0:List Def)(c1:List Table)(c2:List zY)(c3:List zB)(c4:List Cap)(c5:List View)(c6:List zf)(c7:Int)(c8:List Def)(c9:List Table)(c10:List zY)(c11:List zB)(c12:List Cap)(c13:List View)(c14:List zf)(c15:Int):Nat→(Int)→Option ((Bool)⊕(Unit))
 |0,_=>none
 |K+1,q=>(bif (decide (q<(c4.length:Int)))then((idx c4 q).bind fun x2=>(idx c12 q).bind fun x3=>(bif (!(decide (x2.Name=x3.Name)))then some true else(idx c4 q).bind fun x4=>(idx c12 q).bind fun x5=>(bif (!(decide (x4.Load=x5.Load)))then some true else(idx c4 q).bind fun x6=>(idx c12 q).bind fun x7=>(bif (!(decide (x6.Limit=x7.Limit)))then some true else(idx c4 q).bind fun x8=>(idx c12 q).bind fun x9=>(js x8.Corners x9.Corners).bind fun x10=>some (!x10))))).bind fun x1=>(bif x1 then some (Sum.inl false)else oL c0 c1 c2 c3 c4 c5 c6 c7 c8 c9 c10 c11 c12 c13 c14 c15 K (w64 (q+1)))else some (Sum.inr ()))
def oM(c0:List Def)(c1:List Table)(c2:List zY)(c3:List zB)(c4:List Cap)(c5:List View)(c6:List zf)(c7:Int)(c8:List Def)(c9:List Table)(c10:List zY)(c11:List zB)(c12:List Cap)(c13:List View)(c14:List zf)(c15:Int):Nat→(Int)→Option ((Bool)⊕(Unit))
 |0,_=>none
 |K+1,q=>(bif (decide (q<(c5.length:Int)))then((idx c5 q).bind fun x2=>(idx c13 q).bind fun x3=>(bif (!(decide (x2.Name=x3.Name)))then some true else(idx c5 q).bind fun x4=>(idx c13 q).bind fun x5=>(bif (!(decide (x4.Eye.X=x5.Eye.X)&&(decide (x4.Eye.Y=x5.Eye.Y)&&(decide (x4.Eye.Z_=x5.Eye.Z_)))))then some true else(idx c5 q).bind fun x6=>(idx c13 q).bind fun x7=>(bif (!(decide (x6.Least=x7.Least)))then some true else(idx c5 q).bind fun x8=>(idx c13 q).bind fun x9=>(jq x8.Targets x9.Targets).bind fun x10=>some (!x10))))).bind fun x1=>(bif x1 then some (Sum.inl false)else oM c0 c1 c2 c3 c4 c5 c6 c7 c8 c9 c10 c11 c12 c13 c14 c15 K (w64 (q+1)))else some (Sum.inr ()))
def Z5(a:vg)(b:vg):Option (Bool) :=
 ((bif (!(decide ((a.Defs.length:Int)=(b.Defs.length:Int))))then some true else(bif (!(decide ((a.Tables.length:Int)=(b.Tables.length:Int))))then some true else(bif (!(decide ((a.Zones.length:Int)=(b.Zones.length:Int))))then some true else(bif (!(decide ((a.Rules.length:Int)=(b.Rules.length:Int))))then some true else(bif (!(decide ((a.Caps.length:Int)=(b.Caps.length:Int))))then some true else(bif (!(decide ((a.Views.length:Int)=(b.Views.length:Int))))then some true else(jq a.Sun b.Sun).bind fun x2=>(bif (!x2)then some true else some (!(decide (a.Hours=b.Hours))))))))))).bind fun x1=>(bif x1 then some false else(oI a.Defs a.Tables a.Zones a.Rules a.Caps a.Views a.Sun a.Hours b.Defs b.Tables b.Zones b.Rules b.Caps b.Views b.Sun b.Hours KK 0).bind (yA some fun _=>(oJ a.Defs a.Tables a.Zones a.Rules a.Caps a.Views a.Sun a.Hours b.Defs b.Tables b.Zones b.Rules b.Caps b.Views b.Sun b.Hours KK 0).bind (yA some fun _=>(oK a.Defs a.Tables a.Zones a.Rules a.Caps a.Views a.Sun a.Hours b.Defs b.Tables b.Zones b.Rules b.Caps b.Views b.Sun b.Hours KK 0).bind (yA some fun _=>(qn a.Defs a.Tables a.Zones a.Rules a.Caps a.Views a.Sun a.Hours b.Defs b.Tables b.Zones b.Rules b.Caps b.Views b.Sun b.Hours KK 0).bind (yA some fun _=>(oL a.Defs a.Tables a.Zones a.Rules a.Caps a.Views a.Sun a.Hours b.Defs b.Tables b.Zones b.Rules b.Caps b.Views b.Sun b.Hours KK 0).bind (yA some fun _=>(oM a.Defs a.Tables a.Zones a.Rules a.Caps a.Views a.Sun a.Hours b.Defs b.Tables b.Zones b.Rules b.Caps b.Views b.Sun b.Hours KK 0).bind (yA some fun _=>some true)))))))
def wY(r_law_nodes:Expr→Int→Option (Int))(c0:Int)(c1:Int)(c2:Int)(c3:Bs8)(c4:Bs8)(c5:List Expr):Nat→(Int×Int)→Option (Int)
 |0,_=>none
 |K+1,q=>((bif (decide (q.2<(c5.length:Int)))then some (decide (q.1≤c0))else some false)).bind fun x1=>(bif x1 then(idx c5 q.2).bind fun x2=>(r_law_nodes x2 (w64 (c0-q.1))).bind fun x3=>wY r_law_nodes c0 c1 c2 c3 c4 c5 K ((w64 (q.1+x3)),(w64 (q.2+1)))else some q.1)
def vv:Nat→Expr→Int→Option (Int)
 |0,_,_=>none
 |RK+1,e,most=>(wY (vv RK) most e.Op e.N e.S e.Key e.Args KK (1,0)).bind fun x1=>some x1
def qA(r_law_short:Expr→Option (Bool))(c0:Int)(c1:Int)(c2:Bs8)(c3:Bs8)(c4:List Expr):Nat→(Int)→Option ((Bool)⊕(Unit))
 |0,_=>none
 |K+1,q=>(bif (decide (q<(c4.length:Int)))then(idx c4 q).bind fun x1=>(r_law_short x1).bind fun x2=>(bif (!x2)then some (Sum.inl false)else qA r_law_short c0 c1 c2 c3 c4 K (w64 (q+1)))else some (Sum.inr ()))
def jC:Nat→Expr→Option (Bool)
 |0,_=>none
 |RK+1,e=>(qA (jC RK) e.Op e.N e.S e.Key e.Args KK 0).bind (yA some fun _=>(bif (decide ((e.S.length:Int)≤30))then some (decide ((e.Key.length:Int)≤30))else some false))
def vW(e:Expr):Option (Bool) :=
 (vv KK (Expr.mk e.Op e.N e.S e.Key e.Args) 200).bind fun x1=>(bif (decide (x1≤200))then(jC KK (Expr.mk e.Op e.N e.S e.Key e.Args)).bind fun x2=>some x2 else some false)
def vX(c0:List Bs8):Nat→(Int)→Option ((Bool)⊕(Unit))
 |0,_=>none
 |K+1,q=>(bif (decide (q<(c0.length:Int)))then(idx c0 q).bind fun x1=>(bif (decide ((x1.length:Int)>30))then some (Sum.inl false)else vX c0 K (w64 (q+1)))else some (Sum.inr ()))
def xQ(l:List Bs8):Option (Bool) :=
 (vX l KK 0).bind (yA some fun _=>some (decide ((l.length:Int)≤10)))
def Ak(c0:List Def)(c1:List Table)(c2:List zY)(c3:List zB)(c4:List Cap)(c5:List View)(c6:List zf)(c7:Int):Nat→(Int)→Option ((Bool)⊕(Unit))
 |0,_=>none
 |K+1,q=>(bif (decide (q<(c0.length:Int)))then((idx c0 q).bind fun x2=>(bif (decide ((x2.Name.length:Int)>30))then some true else(idx c0 q).bind fun x3=>(vW x3.Body).bind fun x4=>some (!x4))).bind fun x1=>(bif x1 then some (Sum.inl false)else Ak c0 c1 c2 c3 c4 c5 c6 c7 K (w64 (q+1)))else some (Sum.inr ()))
def qV(c0:Int)(c1:List Def)(c2:List Table)(c3:List zY)(c4:List zB)(c5:List Cap)(c6:List View)(c7:List zf)(c8:Int)(c9:Bs8)(c10:List Entry)(c11:Int):Nat→(Int)→Option ((Bool)⊕(Unit))
 |0,_=>none
 |K+1,q=>(bif (decide (q<(c10.length:Int)))then(idx c10 q).bind fun x1=>(bif (decide ((x1.Name.length:Int)>30))then some (Sum.inl false)else qV c0 c1 c2 c3 c4 c5 c6 c7 c8 c9 c10 c11 K (w64 (q+1)))else some (Sum.inr ()))
def vw(c0:List Def)(c1:List Table)(c2:List zY)(c3:List zB)(c4:List Cap)(c5:List View)(c6:List zf)(c7:Int):Nat→(Int)→Option ((Bool)⊕(Unit))
 |0,_=>none
 |K+1,q=>(bif (decide (q<(c1.length:Int)))then(idx c1 q).bind fun x1=>((bif (decide ((x1.Name.length:Int)>30))then some true else some (decide ((x1.Rows.length:Int)>64)))).bind fun x2=>(bif x2 then some (Sum.inl false)else(qV q c0 c1 c2 c3 c4 c5 c6 c7 x1.Name x1.Rows x1.Else KK 0).bind (yA (fun q=>some (Sum.inl q)) fun _=>vw c0 c1 c2 c3 c4 c5 c6 c7 K (w64 (q+1))))else some (Sum.inr ()))
def Al(c0:List Def)(c1:List Table)(c2:List zY)(c3:List zB)(c4:List Cap)(c5:List View)(c6:List zf)(c7:Int):Nat→(Int)→Option ((Bool)⊕(Unit))
 |0,_=>none
 |K+1,q=>(bif (decide (q<(c2.length:Int)))then((idx c2 q).bind fun x2=>(bif (decide ((x2.Name.length:Int)>30))then some true else(idx c2 q).bind fun x3=>some (decide ((x3.Corners.length:Int)>64)))).bind fun x1=>(bif x1 then some (Sum.inl false)else Al c0 c1 c2 c3 c4 c5 c6 c7 K (w64 (q+1)))else some (Sum.inr ()))
def jV(c0:List Def)(c1:List Table)(c2:List zY)(c3:List zB)(c4:List Cap)(c5:List View)(c6:List zf)(c7:Int):Nat→(Int)→Option ((Bool)⊕(Unit))
 |0,_=>none
 |K+1,q=>(bif (decide (q<(c3.length:Int)))then(idx c3 q).bind fun x1=>((bif (decide ((x1.Name.length:Int)>30))then some true else(xQ x1.Zones).bind fun x3=>(bif (!x3)then some true else(xQ x1.Except).bind fun x4=>(bif (!x4)then some true else(vW (Expr.mk x1.Test.Op x1.Test.N x1.Test.S x1.Test.Key x1.Test.Args)).bind fun x5=>some (!x5))))).bind fun x2=>(bif x2 then some (Sum.inl false)else jV c0 c1 c2 c3 c4 c5 c6 c7 K (w64 (q+1)))else some (Sum.inr ()))
def Am(c0:List Def)(c1:List Table)(c2:List zY)(c3:List zB)(c4:List Cap)(c5:List View)(c6:List zf)(c7:Int):Nat→(Int)→Option ((Bool)⊕(Unit))
 |0,_=>none
 |K+1,q=>(bif (decide (q<(c4.length:Int)))then((idx c4 q).bind fun x2=>(bif (decide ((x2.Name.length:Int)>30))then some true else(idx c4 q).bind fun x3=>some (decide ((x3.Corners.length:Int)>64)))).bind fun x1=>(bif x1 then some (Sum.inl false)else Am c0 c1 c2 c3 c4 c5 c6 c7 K (w64 (q+1)))else some (Sum.inr ()))
def An(c0:List Def)(c1:List Table)(c2:List zY)(c3:List zB)(c4:List Cap)(c5:List View)(c6:List zf)(c7:Int):Nat→(Int)→Option ((Bool)⊕(Unit))
 |0,_=>none
 |K+1,q=>(bif (decide (q<(c5.length:Int)))then((idx c5 q).bind fun x2=>(bif (decide ((x2.Name.length:Int)>30))then some true else(idx c5 q).bind fun x3=>some (decide ((x3.Targets.length:Int)>64)))).bind fun x1=>(bif x1 then some (Sum.inl false)else An c0 c1 c2 c3 c4 c5 c6 c7 K (w64 (q+1)))else some (Sum.inr ()))
def JU(p:vg):Option (Bool) :=
 ((bif (decide ((p.Defs.length:Int)>8))then some true else(bif (decide ((p.Tables.length:Int)>8))then some true else(bif (decide ((p.Zones.length:Int)>8))then some true else(bif (decide ((p.Rules.length:Int)>8))then some true else(bif (decide ((p.Caps.length:Int)>8))then some true else(bif (decide ((p.Views.length:Int)>8))then some true else some (decide ((p.Sun.length:Int)>64))))))))).bind fun x1=>(bif x1 then some false else(Ak p.Defs p.Tables p.Zones p.Rules p.Caps p.Views p.Sun p.Hours KK 0).bind (yA some fun _=>(vw p.Defs p.Tables p.Zones p.Rules p.Caps p.Views p.Sun p.Hours KK 0).bind (yA some fun _=>(Al p.Defs p.Tables p.Zones p.Rules p.Caps p.Views p.Sun p.Hours KK 0).bind (yA some fun _=>(jV p.Defs p.Tables p.Zones p.Rules p.Caps p.Views p.Sun p.Hours KK 0).bind (yA some fun _=>(Am p.Defs p.Tables p.Zones p.Rules p.Caps p.Views p.Sun p.Hours KK 0).bind (yA some fun _=>(An p.Defs p.Tables p.Zones p.Rules p.Caps p.Views p.Sun p.Hours KK 0).bind (yA some fun _=>some true)))))))
def zC(n:Int)(from_:Int)(to_:Int):Option (Bool) :=
 (bif (decide (n≥from_))then some (decide (n≤to_))else some false)
def vY(c0:List Bs8):Nat→(Int)→Option ((Bool)⊕(Unit))
 |0,_=>none
 |K+1,q=>(bif (decide (q<(c0.length:Int)))then((idx c0 q).bind fun x2=>(uJ x2).bind fun x3=>(bif (!x3)then some true else(cut c0 0 q).bind fun x4=>(idx c0 q).bind fun x5=>(Ww x4 x5).bind fun x6=>some (decide (x6≥0)))).bind fun x1=>(bif x1 then some (Sum.inl false)else vY c0 K (w64 (q+1)))else some (Sum.inr ()))
def A7(l:List Bs8):Option (Bool) :=
 (vY l KK 0).bind (yA some fun _=>some true)
def xi(op:Int):Option (Int) :=
 (bif (decide (op≤3))then some 0 else((bif (decide (op=9))then some true else some (decide (op=15)))).bind fun x1=>(bif x1 then some 1 else(bif (decide (op=16))then some 3 else some 2)))
def yR(r_R_form:Expr→Int→Option (Bool))(c0:Int)(c1:Int)(c2:Int)(c3:Bs8)(c4:Bs8)(c5:List Expr):Nat→(Int)→Option ((Bool)⊕(Unit))
 |0,_=>none
 |K+1,q=>(bif (decide (q<(c5.length:Int)))then(idx c5 q).bind fun x1=>(r_R_form x1 (w64 (c0-1))).bind fun x2=>(bif (!x2)then some (Sum.inl false)else yR r_R_form c0 c1 c2 c3 c4 c5 K (w64 (q+1)))else some (Sum.inr ()))
def zW:Nat→Expr→Int→Option (Bool)
 |0,_,_=>none
 |RK+1,e,levels=>((bif (decide (levels=0))then some true else(bif (decide (e.Op<0))then some true else(bif (decide (e.Op≥17))then some true else(xi e.Op).bind fun x2=>some (!(decide ((e.Args.length:Int)=x2))))))).bind fun x1=>(bif x1 then some false else((bif (!(decide (e.Op=0)))then(bif (!(decide (e.N=0)))then some true else(bif (decide (e.N<0))then some true else some (decide (e.N>1099511627776))))else(bif (decide (e.N<0))then some true else some (decide (e.N>1099511627776))))).bind fun x3=>(bif x3 then some false else((bif (decide (e.Op=1))then some true else(bif (decide (e.Op=2))then some true else some (decide (e.Op=3))))).bind fun x4=>((bif (!(x4==(!(decide (e.S=([]:Bs8))))))then some true else(bif x4 then(uJ e.S).bind fun x6=>(bif (!x6)then some true else(bif (!((decide (e.Op=2))==(!(decide (e.Key=([]:Bs8))))))then some true else(bif (!(decide (e.Key=([]:Bs8))))then(uJ e.Key).bind fun x7=>some (!x7)else some false)))else(bif (!((decide (e.Op=2))==(!(decide (e.Key=([]:Bs8))))))then some true else(bif (!(decide (e.Key=([]:Bs8))))then(uJ e.Key).bind fun x8=>some (!x8)else some false))))).bind fun x5=>(bif x5 then some false else(yR (zW RK) levels e.Op e.N e.S e.Key e.Args KK 0).bind (yA some fun _=>some true))))
def xD(e:Expr):Option (Bool) :=
 (zW KK (Expr.mk e.Op e.N e.S e.Key e.Args) 12).bind fun x1=>some x1
def xo(c0:Bs8)(c1:List Entry)(c2:Int):Nat→(Int×(List Bs8))→Option ((Bool)⊕((List Bs8)))
 |0,_=>none
 |K+1,q=>(bif (decide (q.1<(c1.length:Int)))then(idx c1 q.1).bind fun x1=>(zC x1.N (-1099511627776) 1099511627776).bind fun x2=>(bif (!x2)then some (Sum.inl false)else(idx c1 q.1).bind fun x3=>(grd (List.length (q.2++([x3.Name]:List Bs8))*16≤140737488355328)).bind fun _=>xo c0 c1 c2 K ((w64 (q.1+1)),(q.2++([x3.Name]:List Bs8))))else some (Sum.inr q.2))
def jt(t:Table):Option (Bool) :=
 (xo t.Name t.Rows t.Else KK (0,[])).bind (yA some fun x1=>(bif (decide ((((List.length x1):Nat):Int)≤60))then(A7 x1).bind fun x2=>(bif x2 then(zC t.Else (-1099511627776) 1099511627776).bind fun x3=>some x3 else some false)else some false))
def vx(c0:List Bs8):Nat→(Int)→Option ((Bool)⊕(Unit))
 |0,_=>none
 |K+1,q=>(bif (decide (q<(c0.length:Int)))then(idx c0 q).bind fun x1=>(uJ x1).bind fun x2=>(bif (!x2)then some (Sum.inl false)else vx c0 K (w64 (q+1)))else some (Sum.inr ()))
def qW(l:List Bs8):Option (Bool) :=
 (vx l KK 0).bind (yA some fun _=>some true)
def KA(e:Expr):Option (Bool) :=
 (yY KK (Expr.mk e.Op e.N e.S e.Key e.Args) (Expr.mk 0 0 ([]:Bs8) ([]:Bs8) [])).bind fun x1=>some x1
def kD(r_:zB):Option (Bool) :=
 ((qW r_.Zones).bind fun x2=>(bif (!x2)then some true else(qW r_.Except).bind fun x3=>(bif (!x3)then some true else(zC r_.From 0 1073741824).bind fun x4=>(bif (!x4)then some true else(bif (!(decide (r_.Until=0)))then(zC r_.Until (w64 (r_.From+1)) 1073741824).bind fun x5=>(bif (!x5)then some true else(zC r_.Grace 0 1073741824).bind fun x6=>some (!x6))else(zC r_.Grace 0 1073741824).bind fun x7=>some (!x7)))))).bind fun x1=>(bif x1 then some false else(bif (decide (r_.Kind=0))then(xD (Expr.mk r_.Test.Op r_.Test.N r_.Test.S r_.Test.Key r_.Test.Args)).bind fun x8=>(bif x8 then(bif (decide (r_.zt.Side=0)&&(decide (r_.zt.Base=0)&&(decide (r_.zt.Num=0)&&(decide (r_.zt.Den=0)))))then(bif (decide (r_.Uses=0))then(bif (decide (r_.Other=0))then some (decide (r_.N=0))else some false)else some false)else some false)else some false)else(bif (decide (r_.Kind=1))then(KA (Expr.mk r_.Test.Op r_.Test.N r_.Test.S r_.Test.Key r_.Test.Args)).bind fun x9=>(bif x9 then(bif (decide (r_.Uses=0))then(bif (decide (r_.Other=0))then(bif (decide (r_.N=0))then(zC r_.zt.Side 0 3).bind fun x10=>(bif x10 then(zC r_.zt.Base 0 4096).bind fun x11=>(bif x11 then(zC r_.zt.Num 0 4096).bind fun x12=>(bif x12 then(zC r_.zt.Den 1 4096).bind fun x13=>some x13 else some false)else some false)else some false)else some false)else some false)else some false)else some false)else(bif (decide (r_.Kind=2))then(KA (Expr.mk r_.Test.Op r_.Test.N r_.Test.S r_.Test.Key r_.Test.Args)).bind fun x14=>(bif x14 then(bif (decide (r_.zt.Side=0)&&(decide (r_.zt.Base=0)&&(decide (r_.zt.Num=0)&&(decide (r_.zt.Den=0)))))then(bif (decide (r_.Other=0))then(bif (decide (r_.N=0))then(zC r_.Uses 1 63).bind fun x15=>some x15 else some false)else some false)else some false)else some false)else(bif (decide (r_.Kind=3))then(KA (Expr.mk r_.Test.Op r_.Test.N r_.Test.S r_.Test.Key r_.Test.Args)).bind fun x16=>(bif x16 then(bif (decide (r_.zt.Side=0)&&(decide (r_.zt.Base=0)&&(decide (r_.zt.Num=0)&&(decide (r_.zt.Den=0)))))then(zC r_.Uses 0 5).bind fun x17=>(bif x17 then(zC r_.Other 0 5).bind fun x18=>(bif x18 then(zC r_.N 0 1048576).bind fun x19=>some x19 else some false)else some false)else some false)else some false)else some false)))))
def wZ(p:zf):Option (Bool) :=
 (zC p.X 0 1048576).bind fun x1=>(bif x1 then(zC p.Y 0 1048576).bind fun x2=>(bif x2 then(zC p.Z_ 0 4096).bind fun x3=>some x3 else some false)else some false)
def wP(c0:Bs8)(c1:Int)(c2:Int)(c3:Int)(c4:Int)(c5:List zf):Nat→(Int)→Option ((Bool)⊕(Unit))
 |0,_=>none
 |K+1,q=>(bif (decide (q<(c5.length:Int)))then(idx c5 q).bind fun x1=>(wZ x1).bind fun x2=>(bif (!x2)then some (Sum.inl false)else wP c0 c1 c2 c3 c4 c5 K (w64 (q+1)))else some (Sum.inr ()))
def kE(v:View):Option (Bool) :=
 (wP v.Name v.Eye.X v.Eye.Y v.Eye.Z_ v.Least v.Targets KK 0).bind (yA some fun _=>(wZ v.Eye).bind fun x2=>(bif x2 then(zC v.Least 0 20).bind fun x3=>(bif x3 then(zC (v.Targets.length:Int) 1 20).bind fun x4=>some x4 else some false)else some false))
def vy(c0:List Def)(c1:List Table)(c2:List zY)(c3:List zB)(c4:List Cap)(c5:List View)(c6:List zf)(c7:Int):Nat→(Int)→Option ((Bool)⊕(Unit))
 |0,_=>none
 |K+1,q=>(bif (decide (q<6))then(Wv (vg.mk c0 c1 c2 c3 c4 c5 c6 c7) q).bind fun x1=>(A7 x1).bind fun x2=>(bif (!x2)then some (Sum.inl false)else vy c0 c1 c2 c3 c4 c5 c6 c7 K (w64 (q+1)))else some (Sum.inr ()))
def jW(c0:List Def)(c1:List Table)(c2:List zY)(c3:List zB)(c4:List Cap)(c5:List View)(c6:List zf)(c7:Int):Nat→(Int)→Option ((Bool)⊕(Unit))
 |0,_=>none
 |K+1,q=>(bif (decide (q<(c0.length:Int)))then(idx c0 q).bind fun x1=>(xD x1.Body).bind fun x2=>(bif (!x2)then some (Sum.inl false)else jW c0 c1 c2 c3 c4 c5 c6 c7 K (w64 (q+1)))else some (Sum.inr ()))
def jX(c0:List Def)(c1:List Table)(c2:List zY)(c3:List zB)(c4:List Cap)(c5:List View)(c6:List zf)(c7:Int):Nat→(Int)→Option ((Bool)⊕(Unit))
 |0,_=>none
 |K+1,q=>(bif (decide (q<(c1.length:Int)))then(idx c1 q).bind fun x1=>(jt x1).bind fun x2=>(bif (!x2)then some (Sum.inl false)else jX c0 c1 c2 c3 c4 c5 c6 c7 K (w64 (q+1)))else some (Sum.inr ()))
def jY(c0:List Def)(c1:List Table)(c2:List zY)(c3:List zB)(c4:List Cap)(c5:List View)(c6:List zf)(c7:Int):Nat→(Int)→Option ((Bool)⊕(Unit))
 |0,_=>none
 |K+1,q=>(bif (decide (q<(c2.length:Int)))then(idx c2 q).bind fun x1=>(oH x1.Corners).bind fun x2=>(bif (!x2)then some (Sum.inl false)else jY c0 c1 c2 c3 c4 c5 c6 c7 K (w64 (q+1)))else some (Sum.inr ()))
def jZ(c0:List Def)(c1:List Table)(c2:List zY)(c3:List zB)(c4:List Cap)(c5:List View)(c6:List zf)(c7:Int):Nat→(Int)→Option ((Bool)⊕(Unit))
 |0,_=>none
 |K+1,q=>(bif (decide (q<(c3.length:Int)))then(idx c3 q).bind fun x1=>(kD x1).bind fun x2=>(bif (!x2)then some (Sum.inl false)else jZ c0 c1 c2 c3 c4 c5 c6 c7 K (w64 (q+1)))else some (Sum.inr ()))
def j3(c0:List Def)(c1:List Table)(c2:List zY)(c3:List zB)(c4:List Cap)(c5:List View)(c6:List zf)(c7:Int):Nat→(Int)→Option ((Bool)⊕(Unit))
 |0,_=>none
 |K+1,q=>(bif (decide (q<(c4.length:Int)))then(idx c4 q).bind fun x1=>((zC x1.Load 0 2).bind fun x3=>(bif (!x3)then some true else(zC x1.Limit 0 1099511627776).bind fun x4=>(bif (!x4)then some true else(oH x1.Corners).bind fun x5=>some (!x5)))).bind fun x2=>(bif x2 then some (Sum.inl false)else j3 c0 c1 c2 c3 c4 c5 c6 c7 K (w64 (q+1)))else some (Sum.inr ()))
def j4(c0:List Def)(c1:List Table)(c2:List zY)(c3:List zB)(c4:List Cap)(c5:List View)(c6:List zf)(c7:Int):Nat→(Int)→Option ((Bool)⊕(Unit))
 |0,_=>none
 |K+1,q=>(bif (decide (q<(c5.length:Int)))then(idx c5 q).bind fun x1=>(kE x1).bind fun x2=>(bif (!x2)then some (Sum.inl false)else j4 c0 c1 c2 c3 c4 c5 c6 c7 K (w64 (q+1)))else some (Sum.inr ()))
def j5(c0:List Def)(c1:List Table)(c2:List zY)(c3:List zB)(c4:List Cap)(c5:List View)(c6:List zf)(c7:Int):Nat→(Int)→Option ((Bool)⊕(Unit))
 |0,_=>none
 |K+1,q=>(bif (decide (q<(c6.length:Int)))then(idx c6 q).bind fun x1=>((zC x1.X (-4096) 4096).bind fun x3=>(bif (!x3)then some true else(zC x1.Y (-4096) 4096).bind fun x4=>(bif (!x4)then some true else(zC x1.Z_ 1 4096).bind fun x5=>some (!x5)))).bind fun x2=>(bif x2 then some (Sum.inl false)else j5 c0 c1 c2 c3 c4 c5 c6 c7 K (w64 (q+1)))else some (Sum.inr ()))
def JV(p:vg):Option (Bool) :=
 ((bif (decide ((p.Defs.length:Int)>60))then some true else(bif (decide ((p.Tables.length:Int)>60))then some true else(bif (decide ((p.Zones.length:Int)>60))then some true else(bif (decide ((p.Rules.length:Int)>200))then some true else(bif (decide ((p.Caps.length:Int)>30))then some true else(bif (decide ((p.Views.length:Int)>60))then some true else(bif (decide ((p.Sun.length:Int)>24))then some true else(zC p.Hours 0 24).bind fun x2=>some (!x2))))))))).bind fun x1=>(bif x1 then some false else(vy p.Defs p.Tables p.Zones p.Rules p.Caps p.Views p.Sun p.Hours KK 0).bind (yA some fun _=>(jW p.Defs p.Tables p.Zones p.Rules p.Caps p.Views p.Sun p.Hours KK 0).bind (yA some fun _=>(jX p.Defs p.Tables p.Zones p.Rules p.Caps p.Views p.Sun p.Hours KK 0).bind (yA some fun _=>(jY p.Defs p.Tables p.Zones p.Rules p.Caps p.Views p.Sun p.Hours KK 0).bind (yA some fun _=>(jZ p.Defs p.Tables p.Zones p.Rules p.Caps p.Views p.Sun p.Hours KK 0).bind (yA some fun _=>(j3 p.Defs p.Tables p.Zones p.Rules p.Caps p.Views p.Sun p.Hours KK 0).bind (yA some fun _=>(j4 p.Defs p.Tables p.Zones p.Rules p.Caps p.Views p.Sun p.Hours KK 0).bind (yA some fun _=>(j5 p.Defs p.Tables p.Zones p.Rules p.Caps p.Views p.Sun p.Hours KK 0).bind (yA some fun _=>some true)))))))))
def Wy(e:Expr):Option (Int) :=
 (bif (decide (e.Op=16))then some 0 else(bif (decide (e.Op=14))then some 1 else(bif (decide (e.Op=13))then some 2 else(bif (decide (e.Op=15))then some 3 else((bif (decide (e.Op=10))then some (decide (e.Op=10))else(bif (decide (e.Op=11))then some (decide (e.Op=11))else some (decide (e.Op=12))))).bind fun x1=>(bif x1 then some 4 else((bif (decide (e.Op=4))then some (decide (e.Op=4))else some (decide (e.Op=5)))).bind fun x2=>(bif x2 then some 5 else((bif (decide (e.Op=6))then some (decide (e.Op=6))else(bif (decide (e.Op=7))then some (decide (e.Op=7))else some (decide (e.Op=8))))).bind fun x3=>(bif x3 then some 6 else(bif (decide (e.Op=9))then some 7 else some 8))))))))
def j6:Nat→Int→Option (Bs8)
 |0,_=>none
 |RK+1,n=>(bif (decide (n<10))then some (bytesOf ([(IntKind.u8.wrap ((w64 (48+n))))]:List Int))else(j6 RK (w64 (Int.tdiv n 10))).bind fun x1=>(grd (List.length x1+List.length (bytesOf ([(IntKind.u8.wrap ((w64 (48+(Int.tmod n 10)))))]:List Int))≤9223372036854775807)).bind fun _=>some (x1++(bytesOf ([(IntKind.u8.wrap ((w64 (48+(Int.tmod n 10)))))]:List Int))))
def Z7(op:Int):Option (Bs8) :=
 (bif (decide (op=14))then some zOj else(bif (decide (op=13))then some zws else(bif (decide (op=10))then some Wk else(bif (decide (op=11))then some zBb else(bif (decide (op=12))then some Wj else(bif (decide (op=4))then some zA9 else(bif (decide (op=5))then some Yn else(bif (decide (op=6))then some zA8 else(bif (decide (op=7))then some zBa else some zA6)))))))))
mutual
def A8:Nat→Expr→Int→Option (Bs8)
 |0,_,_=>none
 |RK+1,e,form=>(Wy (Expr.mk e.Op e.N e.S e.Key e.Args)).bind fun x1=>(bif (decide (x1<form))then(kG RK (Expr.mk e.Op e.N e.S e.Key e.Args)).bind fun x2=>(grd (List.length Wi+List.length x2≤9223372036854775807)).bind fun _=>(grd (List.length (Wi++x2)+List.length Y0≤9223372036854775807)).bind fun _=>some ((Wi++x2)++Y0)else(kG RK (Expr.mk e.Op e.N e.S e.Key e.Args)).bind fun x5=>some x5)
def kG:Nat→Expr→Option (Bs8)
 |0,_=>none
 |RK+1,e=>(Wy (Expr.mk e.Op e.N e.S e.Key e.Args)).bind fun x1=>(bif (decide (e.Op=0))then(j6 KK e.N).bind fun x2=>some x2 else(bif (decide (e.Op=1))then some e.S else(bif (decide (e.Op=2))then(grd (List.length yG+List.length e.S≤9223372036854775807)).bind fun _=>(grd (List.length (yG++e.S)+List.length t__≤9223372036854775807)).bind fun _=>(grd (List.length ((yG++e.S)++t__)+List.length e.Key≤9223372036854775807)).bind fun _=>some (((yG++e.S)++t__)++e.Key)else(bif (decide (e.Op=3))then(grd (List.length we+List.length e.S≤9223372036854775807)).bind fun _=>some (we++e.S)else(bif (decide (e.Op=16))then(idx e.Args 0).bind fun x7=>(A8 RK x7 0).bind fun x8=>(grd (List.length kX+List.length x8≤9223372036854775807)).bind fun _=>(grd (List.length (kX++x8)+List.length yr≤9223372036854775807)).bind fun _=>(idx e.Args 1).bind fun x11=>(A8 RK x11 0).bind fun x12=>(grd (List.length ((kX++x8)++yr)+List.length x12≤9223372036854775807)).bind fun _=>(grd (List.length (((kX++x8)++yr)++x12)+List.length yD≤9223372036854775807)).bind fun _=>(idx e.Args 2).bind fun x15=>(A8 RK x15 0).bind fun x16=>(grd (List.length ((((kX++x8)++yr)++x12)++yD)+List.length x16≤9223372036854775807)).bind fun _=>some (((((kX++x8)++yr)++x12)++yD)++x16)else(bif (decide (e.Op=15))then(idx e.Args 0).bind fun x18=>(A8 RK x18 x1).bind fun x19=>(grd (List.length Wg+List.length x19≤9223372036854775807)).bind fun _=>some (Wg++x19)else(bif (decide (e.Op=9))then(idx e.Args 0).bind fun x21=>(A8 RK x21 x1).bind fun x22=>(grd (List.length Jo+List.length x22≤9223372036854775807)).bind fun _=>some (Jo++x22)else((bif (decide (e.Op=10))then some (decide (e.Op=10))else(bif (decide (e.Op=11))then some (decide (e.Op=11))else some (decide (e.Op=12))))).bind fun x24=>(bif x24 then(idx e.Args 0).bind fun x25=>(A8 RK x25 (w64 (x1+1))).bind fun x26=>(grd (List.length x26+List.length t__≤9223372036854775807)).bind fun _=>(Z7 e.Op).bind fun x28=>(grd (List.length (x26++t__)+List.length x28≤9223372036854775807)).bind fun _=>(grd (List.length ((x26++t__)++x28)+List.length t__≤9223372036854775807)).bind fun _=>(idx e.Args 1).bind fun x31=>(A8 RK x31 (w64 (x1+1))).bind fun x32=>(grd (List.length (((x26++t__)++x28)++t__)+List.length x32≤9223372036854775807)).bind fun _=>some ((((x26++t__)++x28)++t__)++x32)else(idx e.Args 0).bind fun x34=>(A8 RK x34 x1).bind fun x35=>(grd (List.length x35+List.length t__≤9223372036854775807)).bind fun _=>(Z7 e.Op).bind fun x37=>(grd (List.length (x35++t__)+List.length x37≤9223372036854775807)).bind fun _=>(grd (List.length ((x35++t__)++x37)+List.length t__≤9223372036854775807)).bind fun _=>(idx e.Args 1).bind fun x40=>(A8 RK x40 (w64 (x1+1))).bind fun x41=>(grd (List.length (((x35++t__)++x37)++t__)+List.length x41≤9223372036854775807)).bind fun _=>some ((((x35++t__)++x37)++t__)++x41)))))))))
end
def wi(n:Int):Option (Bs8) :=
 (bif (decide (n<0))then(j6 KK (w64 (0-n))).bind fun x1=>(grd (List.length zqv+List.length x1≤9223372036854775807)).bind fun _=>some (zqv++x1)else(j6 KK n).bind fun x3=>(grd (List.length t__+List.length x3≤9223372036854775807)).bind fun _=>some (t__++x3))
def xj(c0:List zG):Nat→(Bs8×Int)→Option (Bs8)
 |0,_=>none
 |K+1,q=>(bif (decide (q.2<(c0.length:Int)))then(idx c0 q.2).bind fun x1=>(wi x1.X).bind fun x2=>(grd (List.length q.1+List.length x2≤9223372036854775807)).bind fun _=>(idx c0 q.2).bind fun x4=>(wi x4.Y).bind fun x5=>(grd (List.length (q.1++x2)+List.length x5≤9223372036854775807)).bind fun _=>xj c0 K (((q.1++x2)++x5),(w64 (q.2+1)))else some q.1)
def oN(l:List zG):Option (Bs8) :=
 (xj l KK (([]:Bs8),0)).bind fun x1=>some x1
def j7(c0:List Bs8):Nat→(Bs8×Int)→Option (Bs8)
 |0,_=>none
 |K+1,q=>(bif (decide (q.2<(c0.length:Int)))then(grd (List.length q.1+List.length t__≤9223372036854775807)).bind fun _=>(idx c0 q.2).bind fun x2=>(grd (List.length (q.1++t__)+List.length x2≤9223372036854775807)).bind fun _=>j7 c0 K (((q.1++t__)++x2),(w64 (q.2+1)))else some q.1)
def zcq(s:Bs8)(l:List Bs8):Option (Bs8) :=
 (bif (decide ((l.length:Int)=0))then some ([]:Bs8)else(grd (List.length t__+List.length s≤9223372036854775807)).bind fun _=>(j7 l KK ((t__++s),0)).bind fun x2=>some x2)
def KB(s:Bs8)(n:Int):Option (Bs8) :=
 (bif (decide (n=0))then some ([]:Bs8)else(grd (List.length t__+List.length s≤9223372036854775807)).bind fun _=>(wi n).bind fun x2=>(grd (List.length (t__++s)+List.length x2≤9223372036854775807)).bind fun _=>some ((t__++s)++x2))
def wF(c0:Bs8)(c1:List Bs8)(c2:List Bs8)(c3:Int)(c4:Int)(c5:Int)(c6:Bool)(c7:Int)(c8:Int)(c9:Int)(c10:Bs8)(c11:Bs8)(c12:List Expr)(c13:Int)(c14:Int)(c15:Int)(c16:Int)(c17:Int)(c18:Int)(c19:Int):Nat→(Bs8×Int)→Option (Bs8)
 |0,_=>none
 |K+1,q=>(bif (decide (q.2<6))then((zcp q.2).bind fun x2=>(grd (x2≠0)).bind fun _=>(bif (decide ((Int.tmod (w64 (Int.tdiv c17 x2)) 2)=1))then(grd (List.length q.1+List.length t__≤9223372036854775807)).bind fun _=>(jU).bind fun x5=>(idx x5 q.2).bind fun x6=>(grd (List.length (q.1++t__)+List.length x6≤9223372036854775807)).bind fun _=>some ((q.1++t__)++x6)else some q.1)).bind fun x1=>wF c0 c1 c2 c3 c4 c5 c6 c7 c8 c9 c10 c11 c12 c13 c14 c15 c16 c17 c18 c19 K (x1,(w64 (q.2+1)))else some q.1)
def Z9(r_:zB):Option (Bs8) :=
 (grd (List.length vc+List.length r_.Name≤9223372036854775807)).bind fun _=>(zcq ZA r_.Zones).bind fun x2=>(grd (List.length (vc++r_.Name)+List.length x2≤9223372036854775807)).bind fun _=>(zcq yy r_.Except).bind fun x4=>(grd (List.length ((vc++r_.Name)++x2)+List.length x4≤9223372036854775807)).bind fun _=>(KB wc r_.From).bind fun x6=>(grd (List.length (((vc++r_.Name)++x2)++x4)+List.length x6≤9223372036854775807)).bind fun _=>(KB yQ r_.Until).bind fun x8=>(grd (List.length ((((vc++r_.Name)++x2)++x4)++x6)+List.length x8≤9223372036854775807)).bind fun _=>(KB yW r_.Grace).bind fun x10=>(grd (List.length (((((vc++r_.Name)++x2)++x4)++x6)++x8)+List.length x10≤9223372036854775807)).bind fun _=>((bif r_.Vary then(grd (List.length ((((((vc++r_.Name)++x2)++x4)++x6)++x8)++x10)+List.length Ym≤9223372036854775807)).bind fun _=>some (((((((vc++r_.Name)++x2)++x4)++x6)++x8)++x10)++Ym)else some ((((((vc++r_.Name)++x2)++x4)++x6)++x8)++x10))).bind fun x12=>(grd (List.length x12+List.length xy≤9223372036854775807)).bind fun _=>(bif (decide (r_.Kind=1))then(grd (List.length (x12++xy)+List.length qy≤9223372036854775807)).bind fun _=>(wi r_.zt.Side).bind fun x16=>(grd (List.length ((x12++xy)++qy)+List.length x16≤9223372036854775807)).bind fun _=>(grd (List.length (((x12++xy)++qy)++x16)+List.length JJ≤9223372036854775807)).bind fun _=>(wi r_.zt.Base).bind fun x19=>(grd (List.length ((((x12++xy)++qy)++x16)++JJ)+List.length x19≤9223372036854775807)).bind fun _=>(grd (List.length (((((x12++xy)++qy)++x16)++JJ)++x19)+List.length Km≤9223372036854775807)).bind fun _=>(wi r_.zt.Num).bind fun x22=>(grd (List.length ((((((x12++xy)++qy)++x16)++JJ)++x19)++Km)+List.length x22≤9223372036854775807)).bind fun _=>(wi r_.zt.Den).bind fun x24=>(grd (List.length (((((((x12++xy)++qy)++x16)++JJ)++x19)++Km)++x22)+List.length x24≤9223372036854775807)).bind fun _=>some ((((((((x12++xy)++qy)++x16)++JJ)++x19)++Km)++x22)++x24)else(bif (decide (r_.Kind=3))then(grd (List.length (x12++xy)+List.length qP≤9223372036854775807)).bind fun _=>(jU).bind fun x27=>(idx x27 r_.Uses).bind fun x28=>(grd (List.length ((x12++xy)++qP)+List.length x28≤9223372036854775807)).bind fun _=>(grd (List.length (((x12++xy)++qP)++x28)+List.length t__≤9223372036854775807)).bind fun _=>(jU).bind fun x31=>(idx x31 r_.Other).bind fun x32=>(grd (List.length ((((x12++xy)++qP)++x28)++t__)+List.length x32≤9223372036854775807)).bind fun _=>(wi r_.N).bind fun x34=>(grd (List.length (((((x12++xy)++qP)++x28)++t__)++x32)+List.length x34≤9223372036854775807)).bind fun _=>some ((((((x12++xy)++qP)++x28)++t__)++x32)++x34)else(bif (decide (r_.Kind=0))then(grd (List.length (x12++xy)+List.length t__≤9223372036854775807)).bind fun _=>(kG KK (Expr.mk r_.Test.Op r_.Test.N r_.Test.S r_.Test.Key r_.Test.Args)).bind fun x37=>(grd (List.length ((x12++xy)++t__)+List.length x37≤9223372036854775807)).bind fun _=>some (((x12++xy)++t__)++x37)else(grd (List.length (x12++xy)+List.length zbw≤9223372036854775807)).bind fun _=>(wF r_.Name r_.Zones r_.Except r_.From r_.Until r_.Grace r_.Vary r_.Kind r_.Test.Op r_.Test.N r_.Test.S r_.Test.Key r_.Test.Args r_.zt.Side r_.zt.Base r_.zt.Num r_.zt.Den r_.Uses r_.Other r_.N KK (((x12++xy)++zbw),0)).bind fun x40=>some x40)))
def A9(p:zf):Option (Bs8) :=
 (wi p.X).bind fun x1=>(wi p.Y).bind fun x2=>(grd (List.length x1+List.length x2≤9223372036854775807)).bind fun _=>(wi p.Z_).bind fun x4=>(grd (List.length (x1++x2)+List.length x4≤9223372036854775807)).bind fun _=>some ((x1++x2)++x4)
def xE(c0:List Def)(c1:List Table)(c2:List zY)(c3:List zB)(c4:List Cap)(c5:List View)(c6:List zf)(c7:Int):Nat→(Bs8×Int)→Option (Bs8)
 |0,_=>none
 |K+1,q=>(bif (decide (q.2<(c0.length:Int)))then(grd (List.length q.1+List.length ko≤9223372036854775807)).bind fun _=>(idx c0 q.2).bind fun x2=>(grd (List.length (q.1++ko)+List.length x2.Name≤9223372036854775807)).bind fun _=>(grd (List.length ((q.1++ko)++x2.Name)+List.length QS≤9223372036854775807)).bind fun _=>(idx c0 q.2).bind fun x5=>(kG KK x5.Body).bind fun x6=>(grd (List.length (((q.1++ko)++x2.Name)++QS)+List.length x6≤9223372036854775807)).bind fun _=>(grd (List.length ((((q.1++ko)++x2.Name)++QS)++x6)+List.length z7≤9223372036854775807)).bind fun _=>xE c0 c1 c2 c3 c4 c5 c6 c7 K ((((((q.1++ko)++x2.Name)++QS)++x6)++z7),(w64 (q.2+1)))else some q.1)
def xF(c0:Int)(c1:List Def)(c2:List Table)(c3:List zY)(c4:List zB)(c5:List Cap)(c6:List View)(c7:List zf)(c8:Int)(c9:Bs8)(c10:List Entry)(c11:Int):Nat→(Bs8×Int)→Option (Bs8)
 |0,_=>none
 |K+1,q=>(bif (decide (q.2<(c10.length:Int)))then(grd (List.length q.1+List.length t__≤9223372036854775807)).bind fun _=>(idx c10 q.2).bind fun x2=>(grd (List.length (q.1++t__)+List.length x2.Name≤9223372036854775807)).bind fun _=>(idx c10 q.2).bind fun x4=>(wi x4.N).bind fun x5=>(grd (List.length ((q.1++t__)++x2.Name)+List.length x5≤9223372036854775807)).bind fun _=>xF c0 c1 c2 c3 c4 c5 c6 c7 c8 c9 c10 c11 K ((((q.1++t__)++x2.Name)++x5),(w64 (q.2+1)))else some q.1)
def xG(c0:List Def)(c1:List Table)(c2:List zY)(c3:List zB)(c4:List Cap)(c5:List View)(c6:List zf)(c7:Int):Nat→(Bs8×Int)→Option (Bs8)
 |0,_=>none
 |K+1,q=>(bif (decide (q.2<(c1.length:Int)))then(idx c1 q.2).bind fun x1=>(grd (List.length q.1+List.length yG≤9223372036854775807)).bind fun _=>(grd (List.length (q.1++yG)+List.length x1.Name≤9223372036854775807)).bind fun _=>(xF q.2 c0 c1 c2 c3 c4 c5 c6 c7 x1.Name x1.Rows x1.Else KK (((q.1++yG)++x1.Name),0)).bind fun x4=>(grd (List.length x4+List.length QR≤9223372036854775807)).bind fun _=>(wi x1.Else).bind fun x6=>(grd (List.length (x4++QR)+List.length x6≤9223372036854775807)).bind fun _=>(grd (List.length ((x4++QR)++x6)+List.length z7≤9223372036854775807)).bind fun _=>xG c0 c1 c2 c3 c4 c5 c6 c7 K ((((x4++QR)++x6)++z7),(w64 (q.2+1)))else some q.1)
def xH(c0:List Def)(c1:List Table)(c2:List zY)(c3:List zB)(c4:List Cap)(c5:List View)(c6:List zf)(c7:Int):Nat→(Bs8×Int)→Option (Bs8)
 |0,_=>none
 |K+1,q=>(bif (decide (q.2<(c2.length:Int)))then((idx c2 q.2).bind fun x2=>(bif x2.Overlay then some vJ else some we)).bind fun x1=>(grd (List.length q.1+List.length x1≤9223372036854775807)).bind fun _=>(idx c2 q.2).bind fun x4=>(grd (List.length (q.1++x1)+List.length x4.Name≤9223372036854775807)).bind fun _=>(idx c2 q.2).bind fun x6=>(oN x6.Corners).bind fun x7=>(grd (List.length ((q.1++x1)++x4.Name)+List.length x7≤9223372036854775807)).bind fun _=>(grd (List.length (((q.1++x1)++x4.Name)++x7)+List.length z7≤9223372036854775807)).bind fun _=>xH c0 c1 c2 c3 c4 c5 c6 c7 K (((((q.1++x1)++x4.Name)++x7)++z7),(w64 (q.2+1)))else some q.1)
def xI(c0:List Def)(c1:List Table)(c2:List zY)(c3:List zB)(c4:List Cap)(c5:List View)(c6:List zf)(c7:Int):Nat→(Bs8×Int)→Option (Bs8)
 |0,_=>none
 |K+1,q=>(bif (decide (q.2<(c3.length:Int)))then(idx c3 q.2).bind fun x1=>(Z9 x1).bind fun x2=>(grd (List.length q.1+List.length x2≤9223372036854775807)).bind fun _=>(grd (List.length (q.1++x2)+List.length z7≤9223372036854775807)).bind fun _=>xI c0 c1 c2 c3 c4 c5 c6 c7 K (((q.1++x2)++z7),(w64 (q.2+1)))else some q.1)
def xJ(c0:List Def)(c1:List Table)(c2:List zY)(c3:List zB)(c4:List Cap)(c5:List View)(c6:List zf)(c7:Int):Nat→(Bs8×Int)→Option (Bs8)
 |0,_=>none
 |K+1,q=>(bif (decide (q.2<(c4.length:Int)))then(idx c4 q.2).bind fun x1=>(grd (List.length q.1+List.length JL≤9223372036854775807)).bind fun _=>(grd (List.length (q.1++JL)+List.length x1.Name≤9223372036854775807)).bind fun _=>(grd (List.length ((q.1++JL)++x1.Name)+List.length t__≤9223372036854775807)).bind fun _=>(H8).bind fun x5=>(idx x5 x1.Load).bind fun x6=>(grd (List.length (((q.1++JL)++x1.Name)++t__)+List.length x6≤9223372036854775807)).bind fun _=>(wi x1.Limit).bind fun x8=>(grd (List.length ((((q.1++JL)++x1.Name)++t__)++x6)+List.length x8≤9223372036854775807)).bind fun _=>(oN x1.Corners).bind fun x10=>(grd (List.length (((((q.1++JL)++x1.Name)++t__)++x6)++x8)+List.length x10≤9223372036854775807)).bind fun _=>(grd (List.length ((((((q.1++JL)++x1.Name)++t__)++x6)++x8)++x10)+List.length z7≤9223372036854775807)).bind fun _=>xJ c0 c1 c2 c3 c4 c5 c6 c7 K ((((((((q.1++JL)++x1.Name)++t__)++x6)++x8)++x10)++z7),(w64 (q.2+1)))else some q.1)
def xK(c0:Int)(c1:List Def)(c2:List Table)(c3:List zY)(c4:List zB)(c5:List Cap)(c6:List View)(c7:List zf)(c8:Int)(c9:Bs8)(c10:Int)(c11:Int)(c12:Int)(c13:Int)(c14:List zf):Nat→(Bs8×Int)→Option (Bs8)
 |0,_=>none
 |K+1,q=>(bif (decide (q.2<(c14.length:Int)))then(idx c14 q.2).bind fun x1=>(A9 x1).bind fun x2=>(grd (List.length q.1+List.length x2≤9223372036854775807)).bind fun _=>xK c0 c1 c2 c3 c4 c5 c6 c7 c8 c9 c10 c11 c12 c13 c14 K ((q.1++x2),(w64 (q.2+1)))else some q.1)
def xL(c0:List Def)(c1:List Table)(c2:List zY)(c3:List zB)(c4:List Cap)(c5:List View)(c6:List zf)(c7:Int):Nat→(Bs8×Int)→Option (Bs8)
 |0,_=>none
 |K+1,q=>(bif (decide (q.2<(c5.length:Int)))then(idx c5 q.2).bind fun x1=>(grd (List.length q.1+List.length ub≤9223372036854775807)).bind fun _=>(grd (List.length (q.1++ub)+List.length x1.Name≤9223372036854775807)).bind fun _=>(A9 x1.Eye).bind fun x4=>(grd (List.length ((q.1++ub)++x1.Name)+List.length x4≤9223372036854775807)).bind fun _=>(grd (List.length (((q.1++ub)++x1.Name)++x4)+List.length uy≤9223372036854775807)).bind fun _=>(wi x1.Least).bind fun x7=>(grd (List.length ((((q.1++ub)++x1.Name)++x4)++uy)+List.length x7≤9223372036854775807)).bind fun _=>(grd (List.length (((((q.1++ub)++x1.Name)++x4)++uy)++x7)+List.length xy≤9223372036854775807)).bind fun _=>(xK q.2 c0 c1 c2 c3 c4 c5 c6 c7 x1.Name x1.Eye.X x1.Eye.Y x1.Eye.Z_ x1.Least x1.Targets KK (((((((q.1++ub)++x1.Name)++x4)++uy)++x7)++xy),0)).bind fun x10=>(grd (List.length x10+List.length z7≤9223372036854775807)).bind fun _=>xL c0 c1 c2 c3 c4 c5 c6 c7 K ((x10++z7),(w64 (q.2+1)))else some q.1)
def xk(c0:List Def)(c1:List Table)(c2:List zY)(c3:List zB)(c4:List Cap)(c5:List View)(c6:List zf)(c7:Int):Nat→(Bs8×Int)→Option (Bs8)
 |0,_=>none
 |K+1,q=>(bif (decide (q.2<(c6.length:Int)))then(((bif (decide (q.2=0))then some oB else some zgf)).bind fun x2=>(grd (List.length q.1+List.length x2≤9223372036854775807)).bind fun _=>(idx c6 q.2).bind fun x4=>(A9 x4).bind fun x5=>(grd (List.length (q.1++x2)+List.length x5≤9223372036854775807)).bind fun _=>(bif (decide ((w64 (q.2+1))=(c6.length:Int)))then(grd (List.length ((q.1++x2)++x5)+List.length z7≤9223372036854775807)).bind fun _=>some (((q.1++x2)++x5)++z7)else some ((q.1++x2)++x5))).bind fun x1=>xk c0 c1 c2 c3 c4 c5 c6 c7 K (x1,(w64 (q.2+1)))else some q.1)
def Wz(p:vg):Option (Bs8×Int) :=
 (JV p).bind fun x1=>(bif (!x1)then some (([]:Bs8),1)else(xE p.Defs p.Tables p.Zones p.Rules p.Caps p.Views p.Sun p.Hours KK (([]:Bs8),0)).bind fun x2=>(xG p.Defs p.Tables p.Zones p.Rules p.Caps p.Views p.Sun p.Hours KK (x2,0)).bind fun x3=>(xH p.Defs p.Tables p.Zones p.Rules p.Caps p.Views p.Sun p.Hours KK (x3,0)).bind fun x4=>(xI p.Defs p.Tables p.Zones p.Rules p.Caps p.Views p.Sun p.Hours KK (x4,0)).bind fun x5=>(xJ p.Defs p.Tables p.Zones p.Rules p.Caps p.Views p.Sun p.Hours KK (x5,0)).bind fun x6=>(xL p.Defs p.Tables p.Zones p.Rules p.Caps p.Views p.Sun p.Hours KK (x6,0)).bind fun x7=>(xk p.Defs p.Tables p.Zones p.Rules p.Caps p.Views p.Sun p.Hours KK (x7,0)).bind fun x8=>((bif (!(decide (p.Hours=0)))then(grd (List.length x8+List.length xO≤9223372036854775807)).bind fun _=>(wi p.Hours).bind fun x11=>(grd (List.length (x8++xO)+List.length x11≤9223372036854775807)).bind fun _=>(grd (List.length ((x8++xO)++x11)+List.length z7≤9223372036854775807)).bind fun _=>some (((x8++xO)++x11)++z7)else some x8)).bind fun x9=>(bif (decide ((x9.length:Int)>8000))then some (([]:Bs8),6)else some (x9,0)))
def zaa(x_:Def)(y:Def):Option (Bool) :=
 (bif (decide (x_.Name=y.Name))then(vM KK (Expr.mk x_.Body.Op x_.Body.N x_.Body.S x_.Body.Key x_.Body.Args) (Expr.mk y.Body.Op y.Body.N y.Body.S y.Body.Key y.Body.Args)).bind fun x1=>some x1 else some false)
def wG(c0:List Def)(c1:List Def)(c2:Int):Nat→(Int)→Option ((Bool)⊕(Unit))
 |0,_=>none
 |K+1,q=>(bif (decide (q<c2))then(idx c1 q).bind fun x1=>(idx c0 q).bind fun x2=>(zaa (Def.mk x1.Name (Expr.mk x1.Body.Op x1.Body.N x1.Body.S x1.Body.Key x1.Body.Args)) (Def.mk x2.Name (Expr.mk x2.Body.Op x2.Body.N x2.Body.S x2.Body.Key x2.Body.Args))).bind fun x3=>(bif (!x3)then some (Sum.inl false)else wG c0 c1 c2 K (w64 (q+1)))else some (Sum.inr ()))
def xT(s1:List Def)(s2:List Def):Option (Bool) :=
 (bif (!(decide ((s1.length:Int)=(s2.length:Int))))then some false else(wG s2 s1 (s1.length:Int) KK 0).bind (yA some fun _=>some true))
def jD(c0:List Entry)(c1:List Entry)(c2:Int):Nat→(Int)→Option ((Bool)⊕(Unit))
 |0,_=>none
 |K+1,q=>(bif (decide (q<c2))then(idx c0 q).bind fun x1=>(idx c1 q).bind fun x2=>(bif (!(decide (x1.Name=x2.Name)&&(decide (x1.N=x2.N))))then some (Sum.inl false)else jD c0 c1 c2 K (w64 (q+1)))else some (Sum.inr ()))
def jx(s1:List Entry)(s2:List Entry):Option (Bool) :=
 (bif (!(decide ((s1.length:Int)=(s2.length:Int))))then some false else(jD s1 s2 (s1.length:Int) KK 0).bind (yA some fun _=>some true))
def zab(x_:Table)(y:Table):Option (Bool) :=
 (bif (decide (x_.Name=y.Name))then(bif (decide (x_.Else=y.Else))then(jx x_.Rows y.Rows).bind fun x1=>some x1 else some false)else some false)
def wH(c0:List Table)(c1:List Table)(c2:Int):Nat→(Int)→Option ((Bool)⊕(Unit))
 |0,_=>none
 |K+1,q=>(bif (decide (q<c2))then(idx c1 q).bind fun x1=>(idx c0 q).bind fun x2=>(zab x1 x2).bind fun x3=>(bif (!x3)then some (Sum.inl false)else wH c0 c1 c2 K (w64 (q+1)))else some (Sum.inr ()))
def xU(s1:List Table)(s2:List Table):Option (Bool) :=
 (bif (!(decide ((s1.length:Int)=(s2.length:Int))))then some false else(wH s2 s1 (s1.length:Int) KK 0).bind (yA some fun _=>some true))
def wI(c0:List zB)(c1:List zB)(c2:Int):Nat→(Int)→Option ((Bool)⊕(Unit))
 |0,_=>none
 |K+1,q=>(bif (decide (q<c2))then(idx c1 q).bind fun x1=>(idx c0 q).bind fun x2=>(qf (zB.mk x1.Name x1.Zones x1.Except x1.From x1.Until x1.Grace x1.Vary x1.Kind (Expr.mk x1.Test.Op x1.Test.N x1.Test.S x1.Test.Key x1.Test.Args) x1.zt x1.Uses x1.Other x1.N) (zB.mk x2.Name x2.Zones x2.Except x2.From x2.Until x2.Grace x2.Vary x2.Kind (Expr.mk x2.Test.Op x2.Test.N x2.Test.S x2.Test.Key x2.Test.Args) x2.zt x2.Uses x2.Other x2.N)).bind fun x3=>(bif (!x3)then some (Sum.inl false)else wI c0 c1 c2 K (w64 (q+1)))else some (Sum.inr ()))
def xV(s1:List zB)(s2:List zB):Option (Bool) :=
 (bif (!(decide ((s1.length:Int)=(s2.length:Int))))then some false else(wI s2 s1 (s1.length:Int) KK 0).bind (yA some fun _=>some true))
def jE(c0:List zG)(c1:List zG)(c2:Int):Nat→(Int)→Option ((Bool)⊕(Unit))
 |0,_=>none
 |K+1,q=>(bif (decide (q<c2))then(idx c0 q).bind fun x1=>(idx c1 q).bind fun x2=>(bif (!(decide (x1.X=x2.X)&&(decide (x1.Y=x2.Y))))then some (Sum.inl false)else jE c0 c1 c2 K (w64 (q+1)))else some (Sum.inr ()))
def wQ(s1:List zG)(s2:List zG):Option (Bool) :=
 (bif (!(decide ((s1.length:Int)=(s2.length:Int))))then some false else(jE s1 s2 (s1.length:Int) KK 0).bind (yA some fun _=>some true))
def zac(x_:zY)(y:zY):Option (Bool) :=
 (bif (decide (x_.Name=y.Name))then(bif (x_.Overlay==y.Overlay)then(wQ x_.Corners y.Corners).bind fun x1=>some x1 else some false)else some false)
def wJ(c0:List zY)(c1:List zY)(c2:Int):Nat→(Int)→Option ((Bool)⊕(Unit))
 |0,_=>none
 |K+1,q=>(bif (decide (q<c2))then(idx c1 q).bind fun x1=>(idx c0 q).bind fun x2=>(zac x1 x2).bind fun x3=>(bif (!x3)then some (Sum.inl false)else wJ c0 c1 c2 K (w64 (q+1)))else some (Sum.inr ()))
def xW(s1:List zY)(s2:List zY):Option (Bool) :=
 (bif (!(decide ((s1.length:Int)=(s2.length:Int))))then some false else(wJ s2 s1 (s1.length:Int) KK 0).bind (yA some fun _=>some true))
def zad(x_:Cap)(y:Cap):Option (Bool) :=
 (bif (decide (x_.Name=y.Name))then(bif (decide (x_.Load=y.Load))then(bif (decide (x_.Limit=y.Limit))then(wQ x_.Corners y.Corners).bind fun x1=>some x1 else some false)else some false)else some false)
def wK(c0:List Cap)(c1:List Cap)(c2:Int):Nat→(Int)→Option ((Bool)⊕(Unit))
 |0,_=>none
 |K+1,q=>(bif (decide (q<c2))then(idx c1 q).bind fun x1=>(idx c0 q).bind fun x2=>(zad x1 x2).bind fun x3=>(bif (!x3)then some (Sum.inl false)else wK c0 c1 c2 K (w64 (q+1)))else some (Sum.inr ()))
def xX(s1:List Cap)(s2:List Cap):Option (Bool) :=
 (bif (!(decide ((s1.length:Int)=(s2.length:Int))))then some false else(wK s2 s1 (s1.length:Int) KK 0).bind (yA some fun _=>some true))
def jF(c0:List zf)(c1:List zf)(c2:Int):Nat→(Int)→Option ((Bool)⊕(Unit))
 |0,_=>none
 |K+1,q=>(bif (decide (q<c2))then(idx c0 q).bind fun x1=>(idx c1 q).bind fun x2=>(bif (!(decide (x1.X=x2.X)&&(decide (x1.Y=x2.Y)&&(decide (x1.Z_=x2.Z_)))))then some (Sum.inl false)else jF c0 c1 c2 K (w64 (q+1)))else some (Sum.inr ()))
def wR(s1:List zf)(s2:List zf):Option (Bool) :=
 (bif (!(decide ((s1.length:Int)=(s2.length:Int))))then some false else(jF s1 s2 (s1.length:Int) KK 0).bind (yA some fun _=>some true))
def zae(x_:View)(y:View):Option (Bool) :=
 (bif (decide (x_.Name=y.Name))then(bif (decide (x_.Eye.X=y.Eye.X)&&(decide (x_.Eye.Y=y.Eye.Y)&&(decide (x_.Eye.Z_=y.Eye.Z_))))then(bif (decide (x_.Least=y.Least))then(wR x_.Targets y.Targets).bind fun x1=>some x1 else some false)else some false)else some false)
def wL(c0:List View)(c1:List View)(c2:Int):Nat→(Int)→Option ((Bool)⊕(Unit))
 |0,_=>none
 |K+1,q=>(bif (decide (q<c2))then(idx c1 q).bind fun x1=>(idx c0 q).bind fun x2=>(zae x1 x2).bind fun x3=>(bif (!x3)then some (Sum.inl false)else wL c0 c1 c2 K (w64 (q+1)))else some (Sum.inr ()))
def xY(s1:List View)(s2:List View):Option (Bool) :=
 (bif (!(decide ((s1.length:Int)=(s2.length:Int))))then some false else(wL s2 s1 (s1.length:Int) KK 0).bind (yA some fun _=>some true))
def znb(a:vg)(b:vg):Option (Bool) :=
 ((xT a.Defs b.Defs).bind fun x2=>(bif x2 then(xU a.Tables b.Tables).bind fun x3=>(bif x3 then(xV a.Rules b.Rules).bind fun x4=>some x4 else some false)else some false)).bind fun x1=>((xW a.Zones b.Zones).bind fun x6=>(bif x6 then(xX a.Caps b.Caps).bind fun x7=>(bif x7 then(xY a.Views b.Views).bind fun x8=>some x8 else some false)else some false)).bind fun x5=>(bif x1 then(bif x5 then(wR a.Sun b.Sun).bind fun x9=>(bif x9 then some (decide (a.Hours=b.Hours))else some false)else some false)else some false)
def uK(e:Expr):Option (Bs8×Int) :=
 (xD (Expr.mk e.Op e.N e.S e.Key e.Args)).bind fun x1=>(bif (!x1)then some (([]:Bs8),1)else(kG KK (Expr.mk e.Op e.N e.S e.Key e.Args)).bind fun x2=>(bif (decide ((x2.length:Int)>8000))then some (([]:Bs8),6)else some (x2,0)))
def yh(c0:Bool)(c1:List Def)(c2:List Table)(c3:List zY)(c4:List zB)(c5:List Cap)(c6:List View)(c7:List zf)(c8:Int):Nat→(Int)→Option ((Bool)⊕(Unit))
 |0,_=>none
 |K+1,q=>(bif (decide (q<(c1.length:Int)))then(idx c1 q).bind fun x1=>(kZ (Expr.mk x1.Body.Op x1.Body.N x1.Body.S x1.Body.Key x1.Body.Args)).bind fun x2=>(uK (Expr.mk x1.Body.Op x1.Body.N x1.Body.S x1.Body.Key x1.Body.Args)).bind fun x3=>((bif (!(decide (x2.1=x3.1)))then some true else(bif (!(decide (x2.2=x3.2)))then some true else(vr (Expr.mk x1.Body.Op x1.Body.N x1.Body.S x1.Body.Key x1.Body.Args)).bind fun x5=>(xD (Expr.mk x1.Body.Op x1.Body.N x1.Body.S x1.Body.Key x1.Body.Args)).bind fun x6=>some (!(x5==x6))))).bind fun x4=>(bif x4 then some (Sum.inl false)else yh c0 c1 c2 c3 c4 c5 c6 c7 c8 K (w64 (q+1)))else some (Sum.inr ()))
def vi(p:vg)(q_:vg):Option (Bool) :=
 (H5).bind fun x1=>((JU p).bind fun x3=>(bif (!x3)then some true else(JU q_).bind fun x4=>some (!x4))).bind fun x2=>(bif x2 then some x1 else(zcn p).bind fun x5=>(Wz p).bind fun x6=>((bif (!(decide (x5.1=x6.1)))then some true else(bif (!(decide (x5.2=x6.2)))then some true else(Vd p).bind fun x8=>(JV p).bind fun x9=>(bif (!(x8==x9))then some true else(znb p q_).bind fun x10=>(Z5 p q_).bind fun x11=>(bif (!(x10==x11))then some true else(znb q_ q_).bind fun x12=>some (!x12)))))).bind fun x7=>(bif x7 then some false else(yh x1 p.Defs p.Tables p.Zones p.Rules p.Caps p.Views p.Sun p.Hours KK 0).bind (yA some fun _=>some x1)))
end Go.Proofs.YtffencjoddkghaaGreatDoor
