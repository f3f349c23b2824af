/- texts that the proof of SyntaxPrints reaches, part 6 -/
import Derived.Test.YtffencjoddkghaaGreatDoorKe
set_option linter.all false
set_option maxRecDepth 100000
namespace Go.Proofs.YtffencjoddkghaaGreatDoor
open Go Go.RowKit Go.Eng Go.EV Go.EQ
abbrev Bs8:=List UInt8
abbrev Mb8:=List (Bs8×Bool)
structure Expr where
 Op:Int
 N:Int
 S:Bs8
 Key:Bs8
 Args:(List Expr)
instance:Inhabited Expr:=⟨⟨0,0,[],[],[]⟩⟩
mutual
def ub:Expr→List V
 |⟨a0,a1,a2,a3,a4⟩=>[.int .i64 a0,.int .i64 a1,.str a2,.str a3,.vs 5 (yS a4)]
def yS:List Expr→List (List V)
 |[]=>[]
 |x::r=>ub x::yS r
end
def vF(x:Expr):List V:=[.int .i64 x.Op,.int .i64 x.N,.str x.S,.str x.Key,.vs 5 (yS x.Args)]
theorem HN(x:Expr):ub x=vF x:=by cases x;rw[ub];rfl
theorem kN:∀l:List Expr,yS l=l.map vF
 |[]=>by rw[yS];rfl
 |x::r=>by rw[yS,HN,kN r];rfl
structure Def where
 Name:Bs8
 Body:Expr
 deriving Inhabited
def zaa(x:Def):List V:=[.str x.Name,.int .i64 x.Body.Op,.int .i64 x.Body.N,.str x.Body.S,.str x.Body.Key,.vs 5 (yS x.Body.Args)]
structure Entry where
 Name:Bs8
 N:Int
 deriving Inhabited,DecidableEq
def oR(x:Entry):List V:=[.str x.Name,.int .i64 x.N]
structure Table where
 Name:Bs8
 Rows:(List Entry)
 Else:Int
 deriving Inhabited,DecidableEq
def HO(x:Table):List V:=[.str x.Name,.vs 2 (List.map oR x.Rows),.int .i64 x.Else]
structure zG where
 X:Int
 Y:Int
 deriving Inhabited,DecidableEq
def kO(x:zG):List V:=[.int .i64 x.X,.int .i64 x.Y]
structure yl where
 Name:Bs8
 Overlay:Bool
 Corners:(List zG)
 deriving Inhabited,DecidableEq
def Q0(x:yl):List V:=[.str x.Name,.bool x.Overlay,.vs 2 (List.map kO x.Corners)]
structure zE where
 Side:Int
 Base:Int
 Num:Int
 Den:Int
 deriving Inhabited,DecidableEq
def Q1(x:zE):List V:=[.int .i64 x.Side,.int .i64 x.Base,.int .i64 x.Num,.int .i64 x.Den]
structure zX where
 Name:Bs8
 Zones:List Bs8
 Except:List Bs8
 From:Int
 Until:Int
 Grace:Int
 Vary:Bool
 Kind:Int
 Test:Expr
 zE:zE
 Uses:Int
 Other:Int
 N:Int
 deriving Inhabited
def Q2(x:zX):List V:=[.str x.Name,.vs 1 (List.map EV.zL4 x.Zones),.vs 1 (List.map EV.zL4 x.Except),.int .i64 x.From,.int .i64 x.Until,.int .i64 x.Grace,.bool x.Vary,.int .i64 x.Kind,.int .i64 x.Test.Op,.int .i64 x.Test.N,.str x.Test.S,.str x.Test.Key,.vs 5 (yS x.Test.Args),.int .i64 x.zE.Side,.int .i64 x.zE.Base,.int .i64 x.zE.Num,.int .i64 x.zE.Den,.int .i64 x.Uses,.int .i64 x.Other,.int .i64 x.N]
structure Cap where
 Name:Bs8
 Load:Int
 Limit:Int
 Corners:(List zG)
 deriving Inhabited,DecidableEq
def zab(x:Cap):List V:=[.str x.Name,.int .i64 x.Load,.int .i64 x.Limit,.vs 2 (List.map kO x.Corners)]
structure zf where
 X:Int
 Y:Int
 Z_:Int
 deriving Inhabited,DecidableEq
def jT(x:zf):List V:=[.int .i64 x.X,.int .i64 x.Y,.int .i64 x.Z_]
structure View where
 Name:Bs8
 Eye:zf
 Least:Int
 Targets:(List zf)
 deriving Inhabited,DecidableEq
def Q3(x:View):List V:=[.str x.Name,.int .i64 x.Eye.X,.int .i64 x.Eye.Y,.int .i64 x.Eye.Z_,.int .i64 x.Least,.vs 3 (List.map jT x.Targets)]
structure Token where
 Kind:Int
 Text:Bs8
 N:Int
 Pos:Int
 deriving Inhabited,DecidableEq
def Q4(x:Token):List V:=[.int .i64 x.Kind,.str x.Text,.int .i64 x.N,.int .i64 x.Pos]
structure zg where
 text:Bs8
 op:Int
 form:Int
 deriving Inhabited,DecidableEq
def uc(x:zg):List V:=[.str x.text,.int .i64 x.op,.int .i64 x.form]
structure zI where
 a:zG
 b:zG
 deriving Inhabited,DecidableEq
def Hr(x:zI):List V:=[.int .i64 x.a.X,.int .i64 x.a.Y,.int .i64 x.b.X,.int .i64 x.b.Y]
structure wB where
 Defs:(List Def)
 Tables:(List Table)
 Zones:(List yl)
 Rules:(List zX)
 Caps:(List Cap)
 Views:(List View)
 Sun:(List zf)
 Hours:Int
 deriving Inhabited
def zrb(x:wB):List V:=[.vs 6 (List.map zaa x.Defs),.vs 3 (List.map HO x.Tables),.vs 3 (List.map Q0 x.Zones),.vs 20 (List.map Q2 x.Rules),.vs 4 (List.map zab x.Caps),.vs 6 (List.map Q3 x.Views),.vs 3 (List.map jT x.Sun),.int .i64 x.Hours]
instance:Inhabited (Int⊕Bs8):=⟨.inl 0⟩
def zGb(s:Bs8)(n:Int):Option Bs8:=(grd (0≤n∧n<256∧List.length s+1≤140737488355328)).bind fun _=>some (s++[UInt8.ofNat (Int.toNat n)])
structure BB where
 l:(List Token)
 i:Int
 D:(List Def)
 T:(List Table)
 Z:(List yl)
 R:(List zX)
 C:(List Cap)
 V:(List View)
 S:(List zf)
 H:Int
 n0:(List Mb8)
 n1:(List Mb8)
 n2:(List Mb8)
 n3:(List Mb8)
 n4:(List Mb8)
 n5:(List Mb8)
 h:Bool
def xb(x:(List Token)×Int×(List Def)×(List Table)×(List yl)×(List zX)×(List Cap)×(List View)×(List zf)×Int×(List Mb8)×(List Mb8)×(List Mb8)×(List Mb8)×(List Mb8)×(List Mb8)×Bool):BB:=⟨x.1,x.2.1,x.2.2.1,x.2.2.2.1,x.2.2.2.2.1,x.2.2.2.2.2.1,x.2.2.2.2.2.2.1,x.2.2.2.2.2.2.2.1,x.2.2.2.2.2.2.2.2.1,x.2.2.2.2.2.2.2.2.2.1,x.2.2.2.2.2.2.2.2.2.2.1,x.2.2.2.2.2.2.2.2.2.2.2.1,x.2.2.2.2.2.2.2.2.2.2.2.2.1,x.2.2.2.2.2.2.2.2.2.2.2.2.2.1,x.2.2.2.2.2.2.2.2.2.2.2.2.2.2.1,x.2.2.2.2.2.2.2.2.2.2.2.2.2.2.2.1,x.2.2.2.2.2.2.2.2.2.2.2.2.2.2.2.2⟩
def zae{R:Type}(x:(List Token)×Int×(List Def)×(List Table)×(List yl)×(List zX)×(List Cap)×(List View)×(List zf)×Int×(List Mb8)×(List Mb8)×(List Mb8)×(List Mb8)×(List Mb8)×(List Mb8)×Bool×R):BB:=⟨x.1,x.2.1,x.2.2.1,x.2.2.2.1,x.2.2.2.2.1,x.2.2.2.2.2.1,x.2.2.2.2.2.2.1,x.2.2.2.2.2.2.2.1,x.2.2.2.2.2.2.2.2.1,x.2.2.2.2.2.2.2.2.2.1,x.2.2.2.2.2.2.2.2.2.2.1,x.2.2.2.2.2.2.2.2.2.2.2.1,x.2.2.2.2.2.2.2.2.2.2.2.2.1,x.2.2.2.2.2.2.2.2.2.2.2.2.2.1,x.2.2.2.2.2.2.2.2.2.2.2.2.2.2.1,x.2.2.2.2.2.2.2.2.2.2.2.2.2.2.2.1,x.2.2.2.2.2.2.2.2.2.2.2.2.2.2.2.2.1⟩
def rBB{R:Type}(x:(List Token)×Int×(List Def)×(List Table)×(List yl)×(List zX)×(List Cap)×(List View)×(List zf)×Int×(List Mb8)×(List Mb8)×(List Mb8)×(List Mb8)×(List Mb8)×(List Mb8)×Bool×R):R:=x.2.2.2.2.2.2.2.2.2.2.2.2.2.2.2.2.2
def t_0:Bs8:=[48]
def Az:Bs8:=[50,32,42,32,40,32,97,32,43,32,98,32,41]
def t__:Bs8:=[32]
def zi:Bs8:=[32,97,110,100,32,97,112,97,114,116,32,98,97,115,101,32,99,97,112,32,100,101,102,105,110,101,32,101,108,115,101,32,101,120,99,101,112,116,32,102,114,111,109,32,103,114,97,99,101,32,104,111,117,114,115,32,105,102,32,105,110,32,108,101,97,115,116,32,110,111,116,32,111,114,32,111,118,101,114,108,97,121,32,112,108,97,110,101,32,114,117,108,101,32,115,108,111,112,101,32,115,117,110,32,116,97,98,108,101,32,116,104,101,110,32,117,110,116,105,108,32,117,115,101,115,32,118,97,114,121,32,118,105,101,119,32,122,111,110,101,32]
def zrc:Bs8:=[32,101,108,115,101,32]
def zrd:Bs8:=[32,116,104,101,110,32]
def t_a:Bs8:=[97]
def t_a1:Bs8:=[97,49]
def HP:Bs8:=[97,32,43,32,98,32,42,32,50,32,60,32,99]
def zoj:Bs8:=[97,110,100]
def AA:Bs8:=[97,112,97,114,116]
def zaf:Bs8:=[97,43,98,42,50,60,99]
def t_b:Bs8:=[98]
def Ke:Bs8:=[98,97,115,101]
def zag:Bs8:=[99,97,112]
def ql:Bs8:=[100,101,102,105,110,101]
def Q6:Bs8:=[100,101,102,105,110,101,32,97,32,61,32,59]
def J5:Bs8:=[100,101,102,105,110,101,32,105,102,32,61,32,49,59]
def vW:Bs8:=[101,108,115,101]
def qm:Bs8:=[101,120,99,101,112,116]
def Q7:Bs8:=[102,114,111,109]
def AB:Bs8:=[103,114,97,99,101]
def zOa:Bs8:=[104,97,108,108]
def zOb:Bs8:=[104,111,109,101]
def zj:Bs8:=[104,111,109,101,32,115,104,111,112,32,119,111,114,107,32,112,97,114,107,32,112,108,97,110,116,32,104,97,108,108]
def zJ6:Bs8:=[104,111,109,101,115]
def zY:Bs8:=[104,111,109,101,115,32,116,114,97,102,102,105,99,32,114,117,110,111,102,102]
def jW:Bs8:=[104,111,117,114,115]
def zg9:Bs8:=[104,111,117,114,115,32,50,53,59]
def zah:Bs8:=[105,102]
def zOc:Bs8:=[105,102,32]
def zDt:Bs8:=[105,110]
def ow:Bs8:=[108,101,97,115,116]
def ox:Bs8:=[110,111,116]
def zGc:Bs8:=[110,111,116,32]
def zJ7:Bs8:=[111,114]
def xf:Bs8:=[111,118,101,114,108,97,121]
def zOd:Bs8:=[112,97,114,107]
def AD:Bs8:=[112,108,97,110,101]
def zJ8:Bs8:=[112,108,97,110,116]
def Hs:Bs8:=[114,117,108,101]
def qe:Bs8:=[114,117,108,101,32,114,58,32,117,115,101,115,32,104,111,109,101,32,104,111,109,101,59]
def zDu:Bs8:=[114,117,110,111,102,102]
def zOe:Bs8:=[115,104,111,112]
def oy:Bs8:=[115,108,111,112,101]
def Wf:Bs8:=[115,117,110]
def xG:Bs8:=[116,97,98,108,101]
def uR:Bs8:=[116,97,98,108,101,32]
def Ht:Bs8:=[116,104,101,110]
def zyl:Bs8:=[116,114,97,102,102,105,99]
def AF:Bs8:=[117,110,116,105,108]
def Q8:Bs8:=[117,115,101,115]
def kP:Bs8:=[118,97,114,121]
def HQ:Bs8:=[118,105,101,119]
def zOf:Bs8:=[119,111,114,107]
def zai:Bs8:=[37]
def HA:Bs8:=[40]
def zOg:Bs8:=[40,32]
def AG:Bs8:=[41]
def zaj:Bs8:=[42]
def zak:Bs8:=[43]
def KB:Bs8:=[44]
def yT:Bs8:=[45]
def zym:Bs8:=[45,32]
def zal:Bs8:=[47]
def uK:Bs8:=[58]
def yi:Bs8:=[59]
def zF:Bs8:=[59,44,58,61,60,43,45,42,47,37,40,41]
def zam:Bs8:=[60]
def jt:Bs8:=[60,61]
def Q9:Bs8:=[61]
def ju:Bs8:=[61,61]
def wH:Bs8:=[122,111,110,101]
def zha:Bs8:=[122,111,110,101,32]
def AI:Bs8:=[122,111,110,101,32,97,32,48,32,48,32,52,32,48,32,52,32,52,59]
def ji:Bs8:=[122,111,110,101,32,99,111,114,101,32,48,32,48,32,52,32,48,32,52,32,52,32,48,32,52,32,59,10]
def kQ:Bs8:=[122,111,110,101,32,99,111,114,101,32,48,32,48,32,52,32,48,32,52,32,52,32,48,32,52,59]
variable[Fuel]
def HR(c_:Int):Option (Bool) :=
 (bif (decide (c_=32))then some true else(bif (decide (c_=9))then some true else some (decide (c_=10))))
def AJ(c0:Bs8):Nat→(Int)→Option (Int)
 |0,_=>none
 |K+1,q=>((bif (decide (q<(c0.length:Int)))then(idx c0 q).bind fun x2=>(HR ((x2.toNat:Nat):Int)).bind fun x3=>some x3 else some false)).bind fun x1=>(bif x1 then AJ c0 K (w64 (q+1))else some q)
def Y7(s:Bs8):Option (Int) :=
 (AJ s KK 0).bind fun x1=>some x1
def jX(c_:Int):Option (Bool) :=
 (bif (decide (c_≥97))then some (decide (c_≤122))else some false)
def kS(c_:Int):Option (Bool) :=
 (bif (decide (c_≥48))then some (decide (c_≤57))else some false)
def JD(c_:Int):Option (Bool) :=
 (jX c_).bind fun x1=>(bif x1 then some true else(kS c_).bind fun x2=>some x2)
def qn(c0:Bs8):Nat→(Int)→Option (Int)
 |0,_=>none
 |K+1,q=>((bif (decide (q<(c0.length:Int)))then(idx c0 q).bind fun x2=>(JD ((x2.toNat:Nat):Int)).bind fun x3=>some x3 else some false)).bind fun x1=>(bif x1 then qn c0 K (w64 (q+1))else some q)
def JE(s:Bs8):Option (Int) :=
 (qn s KK 0).bind fun x1=>some x1
def qH(c_:Int):Option (Bool) :=
 (jX c_).bind fun x1=>(bif x1 then some true else(kS c_).bind fun x2=>some x2)
def qo(c0:Bs8):Nat→(Int)→Option (Int)
 |0,_=>none
 |K+1,q=>((bif (decide (q<(c0.length:Int)))then(idx c0 q).bind fun x2=>(qH ((x2.toNat:Nat):Int)).bind fun x3=>some x3 else some false)).bind fun x1=>(bif x1 then qo c0 K (w64 (q+1))else some q)
def JF(s:Bs8):Option (Int) :=
 (qo s KK 0).bind fun x1=>some x1
def Va(s:Bs8):Option (Bool) :=
 ((bif (decide (s=([]:Bs8)))then some true else(idx s 0).bind fun x2=>(jX ((x2.toNat:Nat):Int)).bind fun x3=>(bif (!x3)then some true else some (decide ((s.length:Int)>20))))).bind fun x1=>(bif x1 then some false else(JF s).bind fun x4=>some (decide (x4=(s.length:Int))))
def qp(c0:Bs8):Nat→(Int)→Option (Int)
 |0,_=>none
 |K+1,q=>((bif (decide (q<(c0.length:Int)))then(idx c0 q).bind fun x2=>(kS ((x2.toNat:Nat):Int)).bind fun x3=>some x3 else some false)).bind fun x1=>(bif x1 then qp c0 K (w64 (q+1))else some q)
def oS(s:Bs8):Option (Int) :=
 (qp s KK 0).bind fun x1=>some x1
def w0(c0:Bs8)(c1:Int):Nat→(Int×Int)→Option (Int)
 |0,_=>none
 |K+1,q=>(bif (decide (q.2<c1))then(idx c0 q.2).bind fun x1=>w0 c0 c1 K ((w64 ((w64 (10*q.1))+(w64 ((IntKind.u8.wrap (((x1.toNat:Nat):Int)-48)))))),(w64 (q.2+1)))else some q.1)
def JG(s:Bs8):Option (Int×Bool) :=
 ((bif (decide (s=([]:Bs8)))then some true else(oS s).bind fun x2=>(bif (!(decide (x2=(s.length:Int))))then some true else(idx s 0).bind fun x3=>(bif (decide (((x3.toNat:Nat):Int)=48))then(bif (!(decide (s=t_0)))then some true else some (decide ((s.length:Int)>13)))else some (decide ((s.length:Int)>13)))))).bind fun x1=>(bif x1 then some (0,false)else(w0 s (s.length:Int) KK (0,0)).bind fun x4=>(bif (decide (x4>1099511627776))then some (0,false)else some (x4,true)))
def KC(a0:Bs8)(a1:Bs8):Option (Bool):=Z7 a0 a1
def jY(c0:Bs8)(c1:Bs8)(c2:Bs8)(c3:Bs8)(c4:Bs8)(c5:Bs8)(c6:Bs8)(c7:Bs8)(c8:Bs8)(c9:Bs8)(c10:Bs8)(c11:Bs8)(c12:Bs8)(c13:Bs8)(c14:Bs8)(c15:Int)(c16:Bs8):Nat→(Int)→Option ((Int×Int×Bs8×Int×Int)⊕(Unit))
 |0,_=>none
 |K+1,q=>(bif (decide (q<14))then(idx (α:=Bs8) ([c1,c2,c3,c4,c5,c6,c7,c8,c9,c10,c11,c12,c13,c14]:List Bs8) q).bind fun x1=>(KC c0 x1).bind fun x2=>(bif x2 then some (Sum.inl (0,2,x1,0,0))else jY c0 c1 c2 c3 c4 c5 c6 c7 c8 c9 c10 c11 c12 c13 c14 c15 c16 K (w64 (q+1)))else some (Sum.inr ()))
def Y8(s:Bs8):Option (Int×Int×Bs8×Int×Int) :=
 (idx s 0).bind fun x1=>(jX ((x1.toNat:Nat):Int)).bind fun x2=>(bif x2 then(JE s).bind fun x3=>(cut s 0 x3).bind fun x4=>(Va x4).bind fun x5=>(bif (!x5)then some (15,0,([]:Bs8),0,0)else some (0,0,x4,0,0))else(idx s 0).bind fun x6=>(kS ((x6.toNat:Nat):Int)).bind fun x7=>(bif x7 then(oS s).bind fun x8=>(cut s 0 x8).bind fun x9=>(JG x9).bind fun x10=>(bif (!x10.2)then some (3,0,([]:Bs8),0,0)else some (0,1,x9,x10.1,0))else(jY s jt ju yi KB uK Q9 zam zak yT zaj zal zai HA AG 0 ([]:Bs8) KK 0).bind (xB some fun _=>some (13,0,([]:Bs8),0,0))))
def qI(c0:Bs8):Nat→(Int×(List Token))→Option (((List Token)×Int×Int)⊕(Unit))
 |0,_=>none
 |K+1,q=>(cut c0 q.1 (c0.length:Int)).bind fun x1=>(Y7 x1).bind fun x2=>(bif (decide ((w64 (q.1+x2))=(c0.length:Int)))then(grd (List.length (q.2++([(Token.mk 3 ([]:Bs8) 0 (w64 (q.1+x2)))]:List Token))*40≤140737488355328)).bind fun _=>some (Sum.inl ((q.2++([(Token.mk 3 ([]:Bs8) 0 (w64 (q.1+x2)))]:List Token)),0,0))else(cut c0 (w64 (q.1+x2)) (c0.length:Int)).bind fun x4=>(Y8 x4).bind fun x5=>(bif (!(decide (x5.1=0)))then some (Sum.inl ([],(w64 (q.1+x2)),x5.1))else(grd (List.length (q.2++([(Token.mk x5.2.1 x5.2.2.1 x5.2.2.2.1 (w64 (q.1+x2)))]:List Token))*40≤140737488355328)).bind fun _=>qI c0 K ((w64 ((w64 (q.1+x2))+(x5.2.2.1.length:Int))),(q.2++([(Token.mk x5.2.1 x5.2.2.1 x5.2.2.2.1 (w64 (q.1+x2)))]:List Token)))))
def zan(s:Bs8):Option ((List Token)×Int×Int) :=
 (bif (decide ((s.length:Int)>8000))then some ([],0,6)else(qI s KK (0,[])).bind (xB some fun _=>none))
def wC(p_l:List Token)(p_at_:Int):Option (Int×Bs8×Int×Int) :=
 (idx p_l p_at_).bind fun x1=>some (x1.Kind,x1.Text,x1.N,x1.Pos)
def zao(p_l:List Token)(p_at_:Int)(s:Bs8):Option (Bool) :=
 (wC p_l p_at_).bind fun x1=>(bif (!(decide (x1.1=3)))then(wC p_l p_at_).bind fun x2=>some (decide (x2.2.1=s))else some false)
def xd(p_l:List Token)(p_at_:Int)(s:Bs8):Option (Bool×Int) :=
 (zao p_l p_at_ s).bind fun x1=>(bif (!x1)then some (false,p_at_)else some (true,(w64 (p_at_+1))))
def xj(p_l:List Token)(p_at_:Int):Option (Bool) :=
 (wC p_l p_at_).bind fun x1=>some (decide (x1.1=1))
def yq(p_l:List Token)(p_at_:Int)(is:Bool)(err:Int):Option (Unit) :=
 (bif (!is)then none else some ())
def vX(p_l:List Token)(p_at_:Int)(from_:Int)(to_:Int):Option (Int×Int) :=
 (xj p_l p_at_).bind fun x1=>(yq p_l p_at_ x1 14).bind fun _=>(wC p_l p_at_).bind fun x3=>((bif (decide (x3.2.2.1≥from_))then(yq p_l p_at_ (decide (x3.2.2.1≤to_)) 3).bind fun _=>some ()else(yq p_l p_at_ false 3).bind fun _=>some ())).bind fun _=>some (x3.2.2.1,(w64 (p_at_+1)))
def JH(a0:Bs8)(a1:Bs8):Option (Bool):=JC a0 a1
def HS(s:Bs8):Option (Bool) :=
 (Va s).bind fun x1=>(bif x1 then(grd (List.length t__+List.length s≤9223372036854775807)).bind fun _=>(grd (List.length (t__++s)+List.length t__≤9223372036854775807)).bind fun _=>(JH zi ((t__++s)++t__)).bind fun x4=>some (!x4)else some false)
def qJ(p_l:List Token)(p_at_:Int):Option (Bool) :=
 (wC p_l p_at_).bind fun x1=>(bif (decide (x1.1=0))then(wC p_l p_at_).bind fun x2=>(HS x2.2.1).bind fun x3=>some x3 else some false)
def yW(p_l:List Token)(p_at_:Int):Option (Bs8×Int) :=
 (qJ p_l p_at_).bind fun x1=>(yq p_l p_at_ x1 14).bind fun _=>(idx p_l (w64 ((w64 (p_at_+1))-1))).bind fun x3=>some (x3.Text,(w64 (p_at_+1)))
def wI:Option ((List zg)) :=
 some ([(zg.mk zJ7 14 1),(zg.mk zoj 13 2),(zg.mk ju 10 4),(zg.mk zam 11 4),(zg.mk jt 12 4),(zg.mk zak 4 5),(zg.mk yT 5 5),(zg.mk zaj 6 6),(zg.mk zal 7 6),(zg.mk zai 8 6)]:List zg)
def vG(p_l:List Token)(p_at_:Int)(s:Bs8):Option (Int) :=
 (xd p_l p_at_ s).bind fun x1=>(yq p_l x1.2 x1.1 14).bind fun _=>some x1.2
def xq(c0:List Token)(c1:Int)(c2:Int)(c3:Int)(c4:List zg)(c5:Int)(c6:Int)(c7:Bs8)(c8:List Expr)(c9:Int)(c10:Int)(c11:Bs8)(c12:Bs8)(c13:List Expr):Nat→(Int×Bs8×Int×Int)→Option (Bs8×Int×Int)
 |0,_=>none
 |K+1,q=>(bif (decide (q.1<c5))then((idx c4 q.1).bind fun x2=>(zao c0 c1 x2.text).bind fun x3=>(bif x3 then some (x2.text,x2.op,x2.form)else some (q.2.1,q.2.2.1,q.2.2.2))).bind fun x1=>xq c0 c1 c2 c3 c4 c5 c6 c7 c8 c9 c10 c11 c12 c13 K ((w64 (q.1+1)),x1.1,x1.2.1,x1.2.2)else some (q.2.1,q.2.2.1,q.2.2.2))
def vK(r_q_expr:(List Token)→Int→Int→Option (Int×Int×Int×Bs8×Bs8×(List Expr)))(c0:List Token)(c1:Int)(c2:Int)(c3:Bs8)(c4:List Expr):Nat→(Int×Int×Int×Int×Bs8×Bs8×(List Expr))→Option ((Int×Int×Int×Bs8×Bs8×(List Expr))⊕(Unit))
 |0,_=>none
 |K+1,q=>(wI).bind fun x1=>(xq c0 q.1 c1 q.2.1 x1 (x1.length:Int) c2 c3 c4 q.2.2.1 q.2.2.2.1 q.2.2.2.2.1 q.2.2.2.2.2.1 q.2.2.2.2.2.2 KK (0,([]:Bs8),0,0)).bind fun x2=>((bif (decide (x2.1=([]:Bs8)))then some true else(bif (decide (x2.2.2<c1))then some true else(bif (decide (q.2.1<x2.2.2))then some true else(bif (decide (q.2.1=4))then some (decide (x2.2.2=4))else some false))))).bind fun x3=>(bif x3 then some (Sum.inl (q.1,q.2.2.1,q.2.2.2.1,q.2.2.2.2.1,q.2.2.2.2.2.1,q.2.2.2.2.2.2))else(r_q_expr c0 (w64 (q.1+1)) (w64 (x2.2.2+1))).bind fun x4=>vK r_q_expr c0 c1 c2 c3 c4 K (x4.1,x2.2.2,x2.2.1,0,([]:Bs8),([]:Bs8),([(Expr.mk q.2.2.1 q.2.2.2.1 q.2.2.2.2.1 q.2.2.2.2.2.1 q.2.2.2.2.2.2),(Expr.mk x4.2.1 x4.2.2.1 x4.2.2.2.1 x4.2.2.2.2.1 x4.2.2.2.2.2)]:List Expr)))
mutual
def vY:Nat→(List Token)→Int→Int→Option (Int×Int×Int×Int×Bs8×Bs8×(List Expr))
 |0,_,_,_=>none
 |RK+1,p_l,p_at_,form=>((bif (decide (form≤0))then(xd p_l p_at_ zah).bind fun x2=>some (x2.2,x2.1)else some (p_at_,false))).bind fun x1=>(bif x1.2 then(z7 RK p_l x1.1 0).bind fun x3=>(vG p_l x3.1 Ht).bind fun x4=>(z7 RK p_l x4 0).bind fun x5=>(vG p_l x5.1 vW).bind fun x6=>(z7 RK p_l x6 0).bind fun x7=>some (0,x7.1,16,0,([]:Bs8),([]:Bs8),([(Expr.mk x3.2.1 x3.2.2.1 x3.2.2.2.1 x3.2.2.2.2.1 x3.2.2.2.2.2),(Expr.mk x5.2.1 x5.2.2.1 x5.2.2.2.1 x5.2.2.2.2.1 x5.2.2.2.2.2),(Expr.mk x7.2.1 x7.2.2.1 x7.2.2.2.1 x7.2.2.2.2.1 x7.2.2.2.2.2)]:List Expr))else((bif (decide (form≤3))then(xd p_l x1.1 ox).bind fun x9=>some (x9.2,x9.1)else some (x1.1,false))).bind fun x8=>(bif x8.2 then(z7 RK p_l x8.1 3).bind fun x10=>some (3,x10.1,15,0,([]:Bs8),([]:Bs8),([(Expr.mk x10.2.1 x10.2.2.1 x10.2.2.2.1 x10.2.2.2.2.1 x10.2.2.2.2.2)]:List Expr))else((bif (decide (form≤7))then(xd p_l x8.1 yT).bind fun x12=>some (x12.2,x12.1)else some (x8.1,false))).bind fun x11=>(bif x11.2 then(z7 RK p_l x11.1 7).bind fun x13=>some (7,x13.1,9,0,([]:Bs8),([]:Bs8),([(Expr.mk x13.2.1 x13.2.2.1 x13.2.2.2.1 x13.2.2.2.2.1 x13.2.2.2.2.2)]:List Expr))else(xj p_l x11.1).bind fun x14=>(bif x14 then(vX p_l x11.1 0 1099511627776).bind fun x15=>some (8,x15.2,0,x15.1,([]:Bs8),([]:Bs8),[])else(xd p_l x11.1 xG).bind fun x16=>(bif x16.1 then(yW p_l x16.2).bind fun x17=>(yW p_l x17.2).bind fun x18=>some (8,x18.2,2,0,x17.1,x18.1,[])else(xd p_l x16.2 wH).bind fun x19=>(bif x19.1 then(yW p_l x19.2).bind fun x20=>some (8,x20.2,3,0,x20.1,([]:Bs8),[])else(xd p_l x19.2 HA).bind fun x21=>(bif x21.1 then(z7 RK p_l x21.2 0).bind fun x22=>(vG p_l x22.1 AG).bind fun x23=>some (8,x23,x22.2.1,x22.2.2.1,x22.2.2.2.1,x22.2.2.2.2.1,x22.2.2.2.2.2)else(yW p_l x21.2).bind fun x24=>some (8,x24.2,1,0,x24.1,([]:Bs8),[]))))))))
def z7:Nat→(List Token)→Int→Int→Option (Int×Int×Int×Bs8×Bs8×(List Expr))
 |0,_,_,_=>none
 |RK+1,p_l,p_at_,form=>(vY RK p_l p_at_ form).bind fun x1=>(vK (z7 RK) p_l form 0 ([]:Bs8) [] KK (x1.2.1,x1.1,x1.2.2.1,x1.2.2.2.1,x1.2.2.2.2.1,x1.2.2.2.2.2.1,x1.2.2.2.2.2.2)).bind (xB some fun _=>none)
end
def jZ(r_levels:Expr→Option (Int))(c0:List Expr)(c1:Int):Nat→(Int×Int)→Option (Int)
 |0,_=>none
 |K+1,q=>(bif (decide (q.2<c1))then(idx c0 q.2).bind fun x1=>(r_levels (Expr.mk x1.Op x1.N x1.S x1.Key x1.Args)).bind fun x2=>jZ r_levels c0 c1 K ((max q.1 x2),(w64 (q.2+1)))else some q.1)
def va:Nat→Expr→Option (Int)
 |0,_=>none
 |RK+1,e=>(jZ (va RK) e.Args (e.Args.length:Int) KK (0,0)).bind fun x1=>some (w64 (x1+1))
def qq(p_l:List Token)(p_at_:Int)(c_1_Op:Int)(c_1_N:Int)(c_1_S:Bs8)(c_1_Key:Bs8)(c_1_Args:List Expr):Option (Int×Int×Int×Bs8×Bs8×(List Expr)) :=
 (z7 KK p_l p_at_ 0).bind fun x1=>(wC p_l x1.1).bind fun x2=>(yq p_l x1.1 (decide (x2.1=3)) 14).bind fun _=>(va KK (Expr.mk x1.2.1 x1.2.2.1 x1.2.2.2.1 x1.2.2.2.2.1 x1.2.2.2.2.2)).bind fun x4=>(yq p_l x1.1 (decide (x4≤12)) 6).bind fun _=>some (x1.1,x1.2.1,x1.2.2.1,x1.2.2.2.1,x1.2.2.2.2.1,x1.2.2.2.2.2)
def JI(p_l:List Token)(p_at_:Int)(err:Int):Option (Int×Int) :=
 (wC p_l p_at_).bind fun x1=>some (x1.2.2.2,err)
def xC(p_l:List Token)(p_at_:Int)(is:Bool)(err:Int):Option (Int×Int) :=
 (bif (!is)then(orC (JI p_l p_at_ err) (fun x1=>some x1) none)else none)
def uS(p_l:List Token)(p_at_:Int)(s:Bs8):Option (Int×Int) :=
 (xd p_l p_at_ s).bind fun x1=>(orC (xC p_l x1.2 x1.1 14) (fun x2=>some x2) ((yq p_l x1.2 x1.1 14).bind fun _=>none))
def qK(p_l:List Token)(p_at_:Int)(from_:Int)(to_:Int):Option (Int×Int) :=
 (xj p_l p_at_).bind fun x1=>(orC (xC p_l p_at_ x1 14) (fun x2=>some x2) ((yq p_l p_at_ x1 14).bind fun _=>(wC p_l p_at_).bind fun x4=>((bif (decide (x4.2.2.1≥from_))then(orC (xC p_l p_at_ (decide (x4.2.2.1≤to_)) 3) (fun x6=>some (Sum.inl x6)) ((yq p_l p_at_ (decide (x4.2.2.1≤to_)) 3).bind fun _=>some (Sum.inr ())))else(orC (xC p_l p_at_ false 3) (fun x8=>some (Sum.inl x8)) ((yq p_l p_at_ false 3).bind fun _=>some (Sum.inr ()))))).bind (xB some fun _=>none)))
def vH(p_l:List Token)(p_at_:Int):Option (Int×Int) :=
 (qJ p_l p_at_).bind fun x1=>(orC (xC p_l p_at_ x1 14) (fun x2=>some x2) ((yq p_l p_at_ x1 14).bind fun _=>(idx p_l (w64 ((w64 (p_at_+1))-1))).bind fun _=>none))
def wJ(c0:List Token)(c1:Int)(c2:Int)(c3:Int)(c4:List zg)(c5:Int)(c6:Int)(c7:Bs8)(c8:List Expr)(c9:Int)(c10:Int)(c11:Bs8)(c12:Bs8)(c13:List Expr):Nat→(Int×Bs8×Int×Int)→Option (Bs8×Int×Int)
 |0,_=>none
 |K+1,q=>(bif (decide (q.1<c5))then((idx c4 q.1).bind fun x2=>(zao c0 c1 x2.text).bind fun x3=>(bif x3 then some (x2.text,x2.op,x2.form)else some (q.2.1,q.2.2.1,q.2.2.2))).bind fun x1=>wJ c0 c1 c2 c3 c4 c5 c6 c7 c8 c9 c10 c11 c12 c13 K ((w64 (q.1+1)),x1.1,x1.2.1,x1.2.2)else some (q.2.1,q.2.2.1,q.2.2.2))
def vL(r_p_q_expr:(List Token)→Int→Int→Option (Int×Int))(c0:List Token)(c1:Int)(c2:Int)(c3:Bs8)(c4:List Expr):Nat→(Int×Int×Int×Int×Bs8×Bs8×(List Expr))→Option ((Int×Int)⊕(Unit))
 |0,_=>none
 |K+1,q=>(wI).bind fun x1=>(wJ c0 q.1 c1 q.2.1 x1 (x1.length:Int) c2 c3 c4 q.2.2.1 q.2.2.2.1 q.2.2.2.2.1 q.2.2.2.2.2.1 q.2.2.2.2.2.2 KK (0,([]:Bs8),0,0)).bind fun x2=>((bif (decide (x2.1=([]:Bs8)))then some true else(bif (decide (x2.2.2<c1))then some true else(bif (decide (q.2.1<x2.2.2))then some true else(bif (decide (q.2.1=4))then some (decide (x2.2.2=4))else some false))))).bind fun x3=>(bif x3 then none else(orC (r_p_q_expr c0 (w64 (q.1+1)) (w64 (x2.2.2+1))) (fun x4=>some (Sum.inl x4)) ((z7 KK c0 (w64 (q.1+1)) (w64 (x2.2.2+1))).bind fun x5=>vL r_p_q_expr c0 c1 c2 c3 c4 K (x5.1,x2.2.2,x2.2.1,0,([]:Bs8),([]:Bs8),([(Expr.mk q.2.2.1 q.2.2.2.1 q.2.2.2.2.1 q.2.2.2.2.2.1 q.2.2.2.2.2.2),(Expr.mk x5.2.1 x5.2.2.1 x5.2.2.2.1 x5.2.2.2.2.1 x5.2.2.2.2.2)]:List Expr)))))
mutual
def qL:Nat→(List Token)→Int→Int→Option (Int×Int)
 |0,_,_,_=>none
 |RK+1,p_l,p_at_,form=>((bif (decide (form≤0))then(xd p_l p_at_ zah).bind fun x2=>some (x2.2,x2.1)else some (p_at_,false))).bind fun x1=>(bif x1.2 then(orC (yK RK p_l x1.1 0) (fun x3=>some x3) ((z7 KK p_l x1.1 0).bind fun x4=>(orC (uS p_l x4.1 Ht) (fun x5=>some x5) ((vG p_l x4.1 Ht).bind fun x6=>(orC (yK RK p_l x6 0) (fun x7=>some x7) ((z7 KK p_l x6 0).bind fun x8=>(orC (uS p_l x8.1 vW) (fun x9=>some x9) ((vG p_l x8.1 vW).bind fun x10=>(orC (yK RK p_l x10 0) (fun x11=>some x11) ((z7 KK p_l x10 0).bind fun _=>none))))))))))else((bif (decide (form≤3))then(xd p_l x1.1 ox).bind fun x14=>some (x14.2,x14.1)else some (x1.1,false))).bind fun x13=>(bif x13.2 then(orC (yK RK p_l x13.1 3) (fun x15=>some x15) ((z7 KK p_l x13.1 3).bind fun _=>none))else((bif (decide (form≤7))then(xd p_l x13.1 yT).bind fun x18=>some (x18.2,x18.1)else some (x13.1,false))).bind fun x17=>(bif x17.2 then(orC (yK RK p_l x17.1 7) (fun x19=>some x19) ((z7 KK p_l x17.1 7).bind fun _=>none))else(xj p_l x17.1).bind fun x21=>(bif x21 then(orC (qK p_l x17.1 0 1099511627776) (fun x22=>some x22) ((vX p_l x17.1 0 1099511627776).bind fun _=>none))else(xd p_l x17.1 xG).bind fun x24=>(bif x24.1 then(orC (vH p_l x24.2) (fun x25=>some x25) ((yW p_l x24.2).bind fun x26=>(orC (vH p_l x26.2) (fun x27=>some x27) ((yW p_l x26.2).bind fun _=>none))))else(xd p_l x24.2 wH).bind fun x29=>(bif x29.1 then(orC (vH p_l x29.2) (fun x30=>some x30) ((yW p_l x29.2).bind fun _=>none))else(xd p_l x29.2 HA).bind fun x32=>(bif x32.1 then(orC (yK RK p_l x32.2 0) (fun x33=>some x33) ((z7 KK p_l x32.2 0).bind fun x34=>(orC (uS p_l x34.1 AG) (fun x35=>some x35) ((vG p_l x34.1 AG).bind fun _=>none))))else(orC (vH p_l x32.2) (fun x37=>some x37) ((yW p_l x32.2).bind fun _=>none)))))))))
def yK:Nat→(List Token)→Int→Int→Option (Int×Int)
 |0,_,_,_=>none
 |RK+1,p_l,p_at_,form=>(orC (qL RK p_l p_at_ form) (fun x1=>some x1) ((vY KK p_l p_at_ form).bind fun x2=>(vL (yK RK) p_l form 0 ([]:Bs8) [] KK (x2.2.1,x2.1,x2.2.2.1,x2.2.2.2.1,x2.2.2.2.2.1,x2.2.2.2.2.2.1,x2.2.2.2.2.2.2)).bind (xB some fun _=>none)))
end
def qs(p_l:List Token)(p_at_:Int)(c_1_Op:Int)(c_1_N:Int)(c_1_S:Bs8)(c_1_Key:Bs8)(c_1_Args:List Expr):Option (Int×Int) :=
 (orC (yK KK p_l p_at_ 0) (fun x1=>some x1) ((z7 KK p_l p_at_ 0).bind fun x2=>(wC p_l x2.1).bind fun x3=>(orC (xC p_l x2.1 (decide (x3.1=3)) 14) (fun x4=>some x4) ((yq p_l x2.1 (decide (x3.1=3)) 14).bind fun _=>(va KK (Expr.mk x2.2.1 x2.2.2.1 x2.2.2.2.1 x2.2.2.2.2.1 x2.2.2.2.2.2)).bind fun x6=>(orC (xC p_l x2.1 (decide (x6≤12)) 6) (fun x7=>some x7) ((yq p_l x2.1 (decide (x6≤12)) 6).bind fun _=>none))))))
def j3(a0:List Token)(a1:Int)(a2:Int)(a3:Int)(a4:Bs8)(a5:Bs8)(a6:List Expr):Option (Int×Int×Int×Int×Int×Bs8×Bs8×(List Expr)):=(qq a0 a1 a2 a3 a4 a5 a6).bind fun q=>some ((0:Int),(0:Int),q)
def jv(a0:List Token)(a1:Int)(a2:Int)(a3:Int)(a4:Bs8)(a5:Bs8)(a6:List Expr):Option (Int×Int):=qs a0 a1 a2 a3 a4 a5 a6
def ud(s:Bs8):Option (Int×Int×Int×Int×Bs8×Bs8×(List Expr)) :=
 (zan s).bind fun x1=>(bif (!(decide (x1.2.2=0)))then some (x1.2.1,x1.2.2,0,0,([]:Bs8),([]:Bs8),[])else(orC (j3 x1.1 0 0 0 ([]:Bs8) ([]:Bs8) []) (fun x3=>(bif (!(decide (x3.2.1=0)))then some (x3.1,x3.2.1,0,0,([]:Bs8),([]:Bs8),[])else some (0,0,x3.2.2.2.1,x3.2.2.2.2.1,x3.2.2.2.2.2.1,x3.2.2.2.2.2.2.1,x3.2.2.2.2.2.2.2))) (orC (jv x1.1 0 0 0 ([]:Bs8) ([]:Bs8) []) (fun x2=>(bif (!(decide (x2.2=0)))then some (x2.1,x2.2,0,0,([]:Bs8),([]:Bs8),[])else none)) none)))
def Wg(r_right:Expr→Int→Option (Bool))(c0:Int)(c1:List Expr)(c2:Int):Nat→(Int)→Option ((Bool)⊕(Unit))
 |0,_=>none
 |K+1,q=>(bif (decide (q<c2))then(idx c1 q).bind fun x1=>(r_right (Expr.mk x1.Op x1.N x1.S x1.Key x1.Args) (w64 (c0-1))).bind fun x2=>(bif (!x2)then some (Sum.inl false)else Wg r_right c0 c1 c2 K (w64 (q+1)))else some (Sum.inr ()))
def zhb:Nat→Expr→Int→Option (Bool)
 |0,_,_=>none
 |RK+1,e,depth=>((bif (decide (depth=0))then some true else(bif (decide (e.Op<0))then some true else some (decide (e.Op≥17))))).bind fun x1=>(bif x1 then some false else((bif (decide (e.Op=0))then some (Sum.inr (0,(min (max e.N 0) 1099511627776),([]:Bs8),([]:Bs8)))else((bif (decide (e.Op=1))then some (decide (e.Op=1))else some (decide (e.Op=3)))).bind fun x3=>(bif x3 then some (Sum.inr (0,0,e.S,([]:Bs8)))else(bif (decide (e.Op=2))then(HS e.Key).bind fun x4=>(bif (!x4)then some (Sum.inl false)else some (Sum.inr (0,0,e.S,e.Key)))else((bif (decide (e.Op=9))then some (decide (e.Op=9))else some (decide (e.Op=15)))).bind fun x5=>(bif x5 then some (Sum.inr (1,0,([]:Bs8),([]:Bs8)))else(bif (decide (e.Op=16))then some (Sum.inr (3,0,([]:Bs8),([]:Bs8)))else some (Sum.inr (2,0,([]:Bs8),([]:Bs8))))))))).bind (xB some fun x2=>((bif (!(decide ((e.Args.length:Int)=x2.1)))then some true else(bif (!(decide (x2.2.1=e.N)))then some true else(bif (!(decide (x2.2.2.1=e.S)))then some true else(bif (!(decide (x2.2.2.2=e.Key)))then some true else(bif (decide (x2.1=0))then(bif (!(decide (e.Op=0)))then(HS e.S).bind fun x7=>some (!x7)else some false)else some false)))))).bind fun x6=>(bif x6 then some false else(Wg (zhb RK) depth e.Args (e.Args.length:Int) KK 0).bind (xB some fun _=>some true))))
def AK(e:Expr):Option (Bool) :=
 (zhb KK (Expr.mk e.Op e.N e.S e.Key e.Args) 12).bind fun x1=>some x1
def KD(c0:List zg)(c1:Int)(c2:Int)(c3:Int)(c4:Bs8)(c5:Bs8)(c6:List Expr):Nat→(Int)→Option ((Int×Bs8)⊕(Unit))
 |0,_=>none
 |K+1,q=>(bif (decide (q<c1))then(idx c0 q).bind fun x1=>(bif (decide (x1.op=c2))then some (Sum.inl (x1.form,x1.text))else KD c0 c1 c2 c3 c4 c5 c6 K (w64 (q+1)))else some (Sum.inr ()))
def zre(e:Expr):Option (Int×Bs8) :=
 (wI).bind fun x1=>(KD x1 (x1.length:Int) e.Op e.N e.S e.Key e.Args KK 0).bind (xB some fun _=>(bif (decide (e.Op=16))then some (0,([]:Bs8))else(bif (decide (e.Op=15))then some (3,([]:Bs8))else(bif (decide (e.Op=9))then some (7,([]:Bs8))else some (8,([]:Bs8))))))
def xp(a0:Bs8)(a1:Bs8):Option (Int×Bs8):=(grd (List.length a0+List.length a1≤140737488355328)).bind fun _=>some ((a1.length:Int),a0++a1)
def zrf(a0:Int):Option (Bs8):=zye a0
def Wh(r_write:Bs8→Expr→Int→Option (Bs8))(c0:Int)(c1:Int)(c2:Int)(c3:Bs8)(c4:Bs8)(c5:List Expr)(c6:List Bs8):Nat→(Bs8×Int)→Option (Bs8)
 |0,_=>none
 |K+1,q=>(bif (decide (q.2<c0))then(grd (0≤q.2∧q.2<(((List.length c6):Nat):Int))).bind fun _=>((c6)[(Int.toNat q.2)]?).bind fun x2=>(xp q.1 x2).bind fun x3=>(idx c5 q.2).bind fun x4=>(r_write x3.2 x4 0).bind fun x5=>Wh r_write c0 c1 c2 c3 c4 c5 c6 K (x5,(w64 (q.2+1)))else some q.1)
def Wi(r_write:Bs8→Expr→Int→Option (Bs8))(c0:Int)(c1:Int)(c2:Int)(c3:Bs8)(c4:Bs8)(c5:List Expr)(c6:List Bs8):Nat→(Bs8×Int)→Option (Bs8)
 |0,_=>none
 |K+1,q=>(bif (decide (q.2<c0))then(grd (0≤q.2∧q.2<(((List.length c6):Nat):Int))).bind fun _=>((c6)[(Int.toNat q.2)]?).bind fun x2=>(xp q.1 x2).bind fun x3=>(idx c5 q.2).bind fun x4=>(r_write x3.2 x4 0).bind fun x5=>Wi r_write c0 c1 c2 c3 c4 c5 c6 K (x5,(w64 (q.2+1)))else some q.1)
def vM:Nat→Bs8→Expr→Int→Option (Bs8)
 |0,_,_,_=>none
 |RK+1,b,e,form=>(zre (Expr.mk e.Op e.N e.S e.Key e.Args)).bind fun x1=>(bif (decide (x1.1<form))then(xp b zOg).bind fun x2=>(bif (decide (e.Op=0))then(zrf e.N).bind fun x3=>(xp x2.2 x3).bind fun x4=>(zA4 x4.2).bind fun x5=>some x5 else(bif (decide (e.Op=1))then(xp x2.2 e.S).bind fun x6=>(zA4 x6.2).bind fun x7=>some x7 else(bif (decide (e.Op=2))then(grd (List.length uR+List.length e.S≤9223372036854775807)).bind fun _=>(grd (List.length (uR++e.S)+List.length t__≤9223372036854775807)).bind fun _=>(grd (List.length ((uR++e.S)++t__)+List.length e.Key≤9223372036854775807)).bind fun _=>(xp x2.2 (((uR++e.S)++t__)++e.Key)).bind fun x11=>(zA4 x11.2).bind fun x12=>some x12 else(bif (decide (e.Op=3))then(grd (List.length zha+List.length e.S≤9223372036854775807)).bind fun _=>(xp x2.2 (zha++e.S)).bind fun x14=>(zA4 x14.2).bind fun x15=>some x15 else(bif (decide (e.Op=16))then(Wh (vM RK) ((3:Nat):Int) e.Op e.N e.S e.Key e.Args ([zOc,zrd,zrc]:List Bs8) KK (x2.2,0)).bind fun x16=>(zA4 x16).bind fun x17=>some x17 else(bif (decide (e.Op=15))then(xp x2.2 zGc).bind fun x18=>(idx e.Args 0).bind fun x19=>(vM RK x18.2 x19 x1.1).bind fun x20=>(zA4 x20).bind fun x21=>some x21 else(bif (decide (e.Op=9))then(xp x2.2 zym).bind fun x22=>(idx e.Args 0).bind fun x23=>(vM RK x22.2 x23 x1.1).bind fun x24=>(zA4 x24).bind fun x25=>some x25 else((bif (decide (x1.1=4))then some (w64 (x1.1+1))else some x1.1)).bind fun x26=>(idx e.Args 0).bind fun x27=>(vM RK x2.2 x27 x26).bind fun x28=>(grd (List.length t__+List.length x1.2≤9223372036854775807)).bind fun _=>(grd (List.length (t__++x1.2)+List.length t__≤9223372036854775807)).bind fun _=>(xp x28 ((t__++x1.2)++t__)).bind fun x31=>(idx e.Args 1).bind fun x32=>(vM RK x31.2 x32 (w64 (x1.1+1))).bind fun x33=>(zA4 x33).bind fun x34=>some x34)))))))else(bif (decide (e.Op=0))then(zrf e.N).bind fun x35=>(xp b x35).bind fun x36=>some x36.2 else(bif (decide (e.Op=1))then(xp b e.S).bind fun x37=>some x37.2 else(bif (decide (e.Op=2))then(grd (List.length uR+List.length e.S≤9223372036854775807)).bind fun _=>(grd (List.length (uR++e.S)+List.length t__≤9223372036854775807)).bind fun _=>(grd (List.length ((uR++e.S)++t__)+List.length e.Key≤9223372036854775807)).bind fun _=>(xp b (((uR++e.S)++t__)++e.Key)).bind fun x41=>some x41.2 else(bif (decide (e.Op=3))then(grd (List.length zha+List.length e.S≤9223372036854775807)).bind fun _=>(xp b (zha++e.S)).bind fun x43=>some x43.2 else(bif (decide (e.Op=16))then(Wi (vM RK) ((3:Nat):Int) e.Op e.N e.S e.Key e.Args ([zOc,zrd,zrc]:List Bs8) KK (b,0)).bind fun x44=>some x44 else(bif (decide (e.Op=15))then(xp b zGc).bind fun x45=>(idx e.Args 0).bind fun x46=>(vM RK x45.2 x46 x1.1).bind fun x47=>some x47 else(bif (decide (e.Op=9))then(xp b zym).bind fun x48=>(idx e.Args 0).bind fun x49=>(vM RK x48.2 x49 x1.1).bind fun x50=>some x50 else((bif (decide (x1.1=4))then some (w64 (x1.1+1))else some x1.1)).bind fun x51=>(idx e.Args 0).bind fun x52=>(vM RK b x52 x51).bind fun x53=>(grd (List.length t__+List.length x1.2≤9223372036854775807)).bind fun _=>(grd (List.length (t__++x1.2)+List.length t__≤9223372036854775807)).bind fun _=>(xp x53 ((t__++x1.2)++t__)).bind fun x56=>(idx e.Args 1).bind fun x57=>(vM RK x56.2 x57 (w64 (x1.1+1))).bind fun x58=>some x58))))))))
def zyn(a0:Bs8):Option (Int):=some (a0.length:Int)
def qF(a0:Bs8):Option (Bs8):=some a0
def KE(e:Expr):Option (Bs8×Int) :=
 (AK (Expr.mk e.Op e.N e.S e.Key e.Args)).bind fun x1=>(bif (!x1)then some (([]:Bs8),1)else(vM KK ([]:Bs8) (Expr.mk e.Op e.N e.S e.Key e.Args) 0).bind fun x2=>(zyn x2).bind fun x3=>(bif (decide (x3>8000))then some (([]:Bs8),6)else(qF x2).bind fun x4=>some (x4,0)))
def zn(b:BB):Option (Int×Bs8×Int×Int) :=
 (idx b.l b.i).bind fun x1=>some (x1.Kind,x1.Text,x1.N,x1.Pos)
def zh(b:BB)(is:Bool)(err:Int):Option (Unit) :=
 (bif (!is)then none else some ())
def yC(b:BB)(have_:Int)(most:Int):Option (Int) :=
 (zh b (decide (have_<most)) 6).bind fun _=>some (w64 (b.i+1))
def zJ(b:BB):Option (Bool) :=
 (zn b).bind fun x1=>(bif (decide (x1.1=0))then(zn b).bind fun x2=>(HS x2.2.1).bind fun x3=>some x3 else some false)
def zL(b:BB):Option (Bs8×Int) :=
 (zJ b).bind fun x1=>(zh b x1 14).bind fun _=>(idx b.l (w64 ((w64 (b.i+1))-1))).bind fun x3=>some (x3.Text,(w64 (b.i+1)))
def HU(b:BB):Option (Bs8×Int×(List Mb8)) :=
 (zJ b).bind fun x1=>(zh b x1 14).bind fun _=>(zn b).bind fun x3=>(Al b.n0).bind fun x4=>(zh { b with n0:=[x4] } (!((xz x3.2.1 x4).getD false)) 5).bind fun _=>(zn { b with n0:=[x4] }).bind fun x6=>(Al [x4]).bind fun x7=>(zL { b with n0:=[uP x6.2.1 true x7] }).bind fun x8=>some (x8.1,x8.2,[uP x6.2.1 true x7])
def zap(b:BB):Option (Bs8×Int×(List Mb8)) :=
 ((bif (List.isEmpty b.n0)then some ([([]:List (Bs8×Bool))]:List Mb8)else some b.n0)).bind fun x1=>(HU { b with n0:=x1 }).bind fun x2=>some (x2.1,x2.2.1,x2.2.2)
def wD(b:BB)(s:Bs8):Option (Bool) :=
 (zn b).bind fun x1=>(bif (!(decide (x1.1=3)))then(zn b).bind fun x2=>some (decide (x2.2.1=s))else some false)
def zD(b:BB)(s:Bs8):Option (Bool×Int) :=
 (wD b s).bind fun x1=>(bif (!x1)then some (false,b.i)else some (true,(w64 (b.i+1))))
def zw(b:BB)(s:Bs8):Option (Int) :=
 (zD b s).bind fun x1=>(zh { b with i:=x1.2 } x1.1 14).bind fun _=>some x1.2
def yb(b:BB):Option (Bool) :=
 (zn b).bind fun x1=>some (decide (x1.1=1))
def zk(b:BB)(from_:Int)(to_:Int):Option (Int×Int) :=
 (yb b).bind fun x1=>(zh b x1 14).bind fun _=>(zn b).bind fun x3=>((bif (decide (x3.2.2.1≥from_))then(zh b (decide (x3.2.2.1≤to_)) 3).bind fun _=>some ()else(zh b false 3).bind fun _=>some ())).bind fun _=>some (x3.2.2.1,(w64 (b.i+1)))
def jw(b:BB)(c1:Int)(c17:Int)(c18:Int)(c19:List zg)(c20:Int)(c21:Int)(c22:Bs8)(c23:List Expr)(c24:Int)(c25:Int)(c26:Bs8)(c27:Bs8)(c28:List Expr):Nat→(Int×Bs8×Int×Int)→Option (Bs8×Int×Int)
 |0,_=>none
 |K+1,q=>(bif (decide (q.1<c20))then((idx c19 q.1).bind fun x2=>(wD { b with i:=c1 } x2.text).bind fun x3=>(bif x3 then some (x2.text,x2.op,x2.form)else some (q.2.1,q.2.2.1,q.2.2.2))).bind fun x1=>jw b c1 c17 c18 c19 c20 c21 c22 c23 c24 c25 c26 c27 c28 K ((w64 (q.1+1)),x1.1,x1.2.1,x1.2.2)else some (q.2.1,q.2.2.1,q.2.2.2))
def jx(r_q_expr_2:BB→Int→Option (Int×Int×Int×Bs8×Bs8×(List Expr)))(b:BB)(c16:Int)(c17:Int)(c18:Bs8)(c19:List Expr):Nat→(Int×Int×Int×Int×Bs8×Bs8×(List Expr))→Option ((Int×Int×Int×Bs8×Bs8×(List Expr))⊕(Unit))
 |0,_=>none
 |K+1,q=>(wI).bind fun x1=>(jw { b with i:=0 } q.1 c16 q.2.1 x1 (x1.length:Int) c17 c18 c19 q.2.2.1 q.2.2.2.1 q.2.2.2.2.1 q.2.2.2.2.2.1 q.2.2.2.2.2.2 KK (0,([]:Bs8),0,0)).bind fun x2=>((bif (decide (x2.1=([]:Bs8)))then some true else(bif (decide (x2.2.2<c16))then some true else(bif (decide (q.2.1<x2.2.2))then some true else(bif (decide (q.2.1=4))then some (decide (x2.2.2=4))else some false))))).bind fun x3=>(bif x3 then some (Sum.inl (q.1,q.2.2.1,q.2.2.2.1,q.2.2.2.2.1,q.2.2.2.2.2.1,q.2.2.2.2.2.2))else(r_q_expr_2 { b with i:=(w64 (q.1+1)) } (w64 (x2.2.2+1))).bind fun x4=>jx r_q_expr_2 b c16 c17 c18 c19 K (x4.1,x2.2.2,x2.2.1,0,([]:Bs8),([]:Bs8),([(Expr.mk q.2.2.1 q.2.2.2.1 q.2.2.2.2.1 q.2.2.2.2.2.1 q.2.2.2.2.2.2),(Expr.mk x4.2.1 x4.2.2.1 x4.2.2.2.1 x4.2.2.2.2.1 x4.2.2.2.2.2)]:List Expr)))
mutual
def kT:Nat→BB→Int→Option (Int×Int×Int×Int×Bs8×Bs8×(List Expr))
 |0,_,_=>none
 |RK+1,b,form=>((bif (decide (form≤0))then(zD b zah).bind fun x2=>some (x2.2,x2.1)else some (b.i,false))).bind fun x1=>(bif x1.2 then(z6 RK { b with i:=x1.1 } 0).bind fun x3=>(zw { b with i:=x3.1 } Ht).bind fun x4=>(z6 RK { b with i:=x4 } 0).bind fun x5=>(zw { b with i:=x5.1 } vW).bind fun x6=>(z6 RK { b with i:=x6 } 0).bind fun x7=>some (0,x7.1,16,0,([]:Bs8),([]:Bs8),([(Expr.mk x3.2.1 x3.2.2.1 x3.2.2.2.1 x3.2.2.2.2.1 x3.2.2.2.2.2),(Expr.mk x5.2.1 x5.2.2.1 x5.2.2.2.1 x5.2.2.2.2.1 x5.2.2.2.2.2),(Expr.mk x7.2.1 x7.2.2.1 x7.2.2.2.1 x7.2.2.2.2.1 x7.2.2.2.2.2)]:List Expr))else((bif (decide (form≤3))then(zD { b with i:=x1.1 } ox).bind fun x9=>some (x9.2,x9.1)else some (x1.1,false))).bind fun x8=>(bif x8.2 then(z6 RK { b with i:=x8.1 } 3).bind fun x10=>some (3,x10.1,15,0,([]:Bs8),([]:Bs8),([(Expr.mk x10.2.1 x10.2.2.1 x10.2.2.2.1 x10.2.2.2.2.1 x10.2.2.2.2.2)]:List Expr))else((bif (decide (form≤7))then(zD { b with i:=x8.1 } yT).bind fun x12=>some (x12.2,x12.1)else some (x8.1,false))).bind fun x11=>(bif x11.2 then(z6 RK { b with i:=x11.1 } 7).bind fun x13=>some (7,x13.1,9,0,([]:Bs8),([]:Bs8),([(Expr.mk x13.2.1 x13.2.2.1 x13.2.2.2.1 x13.2.2.2.2.1 x13.2.2.2.2.2)]:List Expr))else(yb { b with i:=x11.1 }).bind fun x14=>(bif x14 then(zk { b with i:=x11.1 } 0 1099511627776).bind fun x15=>some (8,x15.2,0,x15.1,([]:Bs8),([]:Bs8),[])else(zD { b with i:=x11.1 } xG).bind fun x16=>(bif x16.1 then(zL { b with i:=x16.2 }).bind fun x17=>(zL { b with i:=x17.2 }).bind fun x18=>some (8,x18.2,2,0,x17.1,x18.1,[])else(zD { b with i:=x16.2 } wH).bind fun x19=>(bif x19.1 then(zL { b with i:=x19.2 }).bind fun x20=>some (8,x20.2,3,0,x20.1,([]:Bs8),[])else(zD { b with i:=x19.2 } HA).bind fun x21=>(bif x21.1 then(z6 RK { b with i:=x21.2 } 0).bind fun x22=>(zw { b with i:=x22.1 } AG).bind fun x23=>some (8,x23,x22.2.1,x22.2.2.1,x22.2.2.2.1,x22.2.2.2.2.1,x22.2.2.2.2.2)else(zL { b with i:=x21.2 }).bind fun x24=>some (8,x24.2,1,0,x24.1,([]:Bs8),[]))))))))
def z6:Nat→BB→Int→Option (Int×Int×Int×Bs8×Bs8×(List Expr))
 |0,_,_=>none
 |RK+1,b,form=>(kT RK b form).bind fun x1=>(jx (z6 RK) { b with i:=0 } form 0 ([]:Bs8) [] KK (x1.2.1,x1.1,x1.2.2.1,x1.2.2.2.1,x1.2.2.2.2.1,x1.2.2.2.2.2.1,x1.2.2.2.2.2.2)).bind (xB some fun _=>none)
end
def vN(b:BB)(is:Bool)(err:Int):Option (Int) :=
 (wD b yi).bind fun x1=>(zh b x1 14).bind fun _=>(zh b is err).bind fun _=>some (w64 (b.i+1))
def oT(b:BB):Option (Int×(List Def)×(List Mb8)) :=
 (zap b).bind fun x1=>(zw { b with i:=x1.2.1,n0:=x1.2.2 } Q9).bind fun x2=>(z6 KK { b with i:=x2,n0:=x1.2.2 } 0).bind fun x3=>(va KK (Expr.mk x3.2.1 x3.2.2.1 x3.2.2.2.1 x3.2.2.2.2.1 x3.2.2.2.2.2)).bind fun x4=>(vN { b with i:=x3.1,n0:=x1.2.2 } (decide (x4≤12)) 6).bind fun x5=>(grd (List.length (b.D++([(Def.mk x1.1 (Expr.mk x3.2.1 x3.2.2.1 x3.2.2.2.1 x3.2.2.2.2.1 x3.2.2.2.2.2))]:List Def))*88≤140737488355328)).bind fun _=>some (x5,(b.D++([(Def.mk x1.1 (Expr.mk x3.2.1 x3.2.2.1 x3.2.2.2.1 x3.2.2.2.2.1 x3.2.2.2.2.2))]:List Def)),x1.2.2)
def ue(b:BB):Option (Bs8×Int×(List Mb8)) :=
 (zJ b).bind fun x1=>(zh b x1 14).bind fun _=>(zn b).bind fun x3=>(Al b.n1).bind fun x4=>(zh { b with n1:=[x4] } (!((xz x3.2.1 x4).getD false)) 5).bind fun _=>(zn { b with n1:=[x4] }).bind fun x6=>(Al [x4]).bind fun x7=>(zL { b with n1:=[uP x6.2.1 true x7] }).bind fun x8=>some (x8.1,x8.2,[uP x6.2.1 true x7])
def HV(b:BB):Option (Bs8×Int×(List Mb8)) :=
 ((bif (List.isEmpty b.n1)then some ([([]:List (Bs8×Bool))]:List Mb8)else some b.n1)).bind fun x1=>(ue { b with n1:=x1 }).bind fun x2=>some (x2.1,x2.2.1,x2.2.2)
def ya(b:BB)(known:Mb8):Option (Bs8×Int×Mb8) :=
 (zJ b).bind fun x1=>(zh b x1 14).bind fun _=>(zn b).bind fun x3=>(zh b (!((xz x3.2.1 known).getD false)) 5).bind fun _=>(zn b).bind fun x5=>(zL b).bind fun x6=>some (x6.1,x6.2,(uP x5.2.1 true known))
def xQ(b:BB)(most:Int):Option (Int×Int) :=
 (zD b yT).bind fun x1=>(bif x1.1 then(zk { b with i:=x1.2 } 0 most).bind fun x2=>some ((w64 (0-x2.1)),x2.2)else(zk { b with i:=x1.2 } 0 most).bind fun x3=>some (x3.1,x3.2))
def kU(b:BB)(c15:(List Mb8))(c16:Bs8)(c17:Int):Nat→(Int×Mb8×(List Entry))→Option (Int×(List Entry))
 |0,_=>none
 |K+1,q=>(zJ { b with i:=q.1,n1:=c15 }).bind fun x1=>(bif x1 then(zh { b with i:=q.1,n1:=c15 } (decide ((((List.length q.2.2):Nat):Int)<60)) 6).bind fun _=>(ya { b with i:=q.1,n1:=c15 } q.2.1).bind fun x3=>(xQ { b with i:=x3.2.1,n1:=c15 } 1099511627776).bind fun x4=>(grd (List.length (q.2.2++([(Entry.mk x3.1 x4.1)]:List Entry))*24≤140737488355328)).bind fun _=>kU b c15 c16 c17 K (x4.2,x3.2.2,(q.2.2++([(Entry.mk x3.1 x4.1)]:List Entry)))else some (q.1,q.2.2))
def HW(b:BB):Option (Int×(List Table)×(List Mb8)) :=
 (HV b).bind fun x1=>(kU { b with i:=0,n1:=[] } x1.2.2 x1.1 0 KK (x1.2.1,([]:List (Bs8×Bool)),([]:List Entry))).bind fun x2=>(zw { b with i:=x2.1,n1:=x1.2.2 } vW).bind fun x3=>(xQ { b with i:=x3,n1:=x1.2.2 } 1099511627776).bind fun x4=>(zw { b with i:=x4.2,n1:=x1.2.2 } yi).bind fun x5=>(grd (List.length (b.T++([(Table.mk x1.1 x2.2 x4.1)]:List Table))*48≤140737488355328)).bind fun _=>some (x5,(b.T++([(Table.mk x1.1 x2.2 x4.1)]:List Table)),x1.2.2)
def uf(b:BB):Option (Bs8×Int×(List Mb8)) :=
 (zJ b).bind fun x1=>(zh b x1 14).bind fun _=>(zn b).bind fun x3=>(Al b.n2).bind fun x4=>(zh { b with n2:=[x4] } (!((xz x3.2.1 x4).getD false)) 5).bind fun _=>(zn { b with n2:=[x4] }).bind fun x6=>(Al [x4]).bind fun x7=>(zL { b with n2:=[uP x6.2.1 true x7] }).bind fun x8=>some (x8.1,x8.2,[uP x6.2.1 true x7])
def ug(b:BB):Option (Bs8×Int×(List Mb8)) :=
 ((bif (List.isEmpty b.n2)then some ([([]:List (Bs8×Bool))]:List Mb8)else some b.n2)).bind fun x1=>(uf { b with n2:=x1 }).bind fun x2=>some (x2.1,x2.2.1,x2.2.2)
def jy(b:BB):Nat→(Int×(List zG))→Option (((List zG)×Int)⊕(Unit))
 |0,_=>none
 |K+1,q=>(zk { b with i:=q.1 } 0 1048576).bind fun x1=>(zk { b with i:=x1.2 } 0 1048576).bind fun x2=>(grd (List.length (q.2++([(zG.mk x1.1 x2.1)]:List zG))*16≤140737488355328)).bind fun _=>(yb { b with i:=x2.2 }).bind fun x4=>(bif (!x4)then some (Sum.inl ((q.2++([(zG.mk x1.1 x2.1)]:List zG)),x2.2))else jy b K (x2.2,(q.2++([(zG.mk x1.1 x2.1)]:List zG))))
def xR(b:BB):Option ((List zG)×Int) :=
 (jy { b with i:=0 } KK (b.i,[])).bind (xB some fun _=>none)
def wg(c0:List zG)(c1:Int):Nat→(Int×(List zI))→Option ((List zI))
 |0,_=>none
 |K+1,q=>(bif (decide (q.1<c1))then(idx c0 q.1).bind fun x1=>(grd ((c0.length:Int)≠0)).bind fun _=>(idx c0 (Int.tmod (w64 (q.1+1)) (c0.length:Int))).bind fun x3=>(grd (0≤q.1∧q.1<(((List.length q.2):Nat):Int))).bind fun _=>((q.2)[(Int.toNat q.1)]?).bind fun _=>wg c0 c1 K ((w64 (q.1+1)),(List.set q.2 (Int.toNat q.1) (zI.mk x1 x3)))else some q.2)
def JJ(p:List zG):Option ((List zI)) :=
 (grd (0≤(p.length:Int)∧(p.length:Int)*((32:Nat):Int)≤281474976710656∧(p.length:Int)≤9223372036854775807)).bind fun _=>(wg p (p.length:Int) KK (0,(List.replicate (Int.toNat (p.length:Int)) (zI.mk (zG.mk 0 0) (zG.mk 0 0))))).bind fun x2=>some x2
def Wj(p:zG):Option (Bool) :=
 (bif (decide (0≤p.X))then(bif (decide (p.X≤1048576))then(bif (decide (0≤p.Y))then some (decide (p.Y≤1048576))else some false)else some false)else some false)
def xe(s:zI):Option (Bool) :=
 some (decide (s.a.X=s.b.X))
def AL(x_:Int):Option (Bool) :=
 some (!(decide (x_=x_)))
def jz(x_:Int)(y:Int):Option (Int) :=
 (AL x_).bind fun x1=>(AL y).bind fun x2=>(bif x1 then(bif x2 then some 0 else some (-1))else(bif x2 then some 1 else(bif (decide (x_<y))then some (-1)else(bif (decide (x_>y))then some 1 else some 0))))
def j4(c0:Int)(c1:List Int)(c2:Int):Nat→(Int)→Option ((Int)⊕(Unit))
 |0,_=>none
 |K+1,q=>(bif (decide (q<c2))then(idx c1 q).bind fun x1=>(bif (!(decide (x1=c0)))then some (Sum.inl x1)else j4 c0 c1 c2 K (w64 (q+1)))else some (Sum.inr ()))
def Y9(vals:List Int):Option (Int) :=
 (j4 0 vals (vals.length:Int) KK 0).bind (xB some fun _=>some 0)
def AM(a:zG)(b:zG):Option (Int) :=
 (jz a.X b.X).bind fun x1=>(jz a.Y b.Y).bind fun x2=>(Y9 ([x1,x2]:List Int)).bind fun x3=>some x3
def Hu(s:zI)(t:zI):Option (Bool) :=
 (bif (decide ((max (min s.a.X s.b.X) (min t.a.X t.b.X))≤(min (max s.a.X s.b.X) (max t.a.X t.b.X))))then some (decide ((max (min s.a.Y s.b.Y) (min t.a.Y t.b.Y))≤(min (max s.a.Y s.b.Y) (max t.a.Y t.b.Y))))else some false)
def vZ(c0:List zG)(c1:List zI)(c2:Int):Nat→(Int)→Option ((Bool)⊕(Unit))
 |0,_=>none
 |K+1,q=>(bif (decide (q<c2))then(idx c1 q).bind fun x1=>(grd ((c1.length:Int)≠0)).bind fun _=>(idx c1 (Int.tmod (w64 (q+1)) (c1.length:Int))).bind fun x3=>((Wj x1.a).bind fun x5=>(bif (!x5)then some true else(bif ((decide (x1.a.X=x1.b.X))==(decide (x1.a.Y=x1.b.Y)))then some true else(xe x1).bind fun x6=>(xe x3).bind fun x7=>some (x6==x7)))).bind fun x4=>(bif x4 then some (Sum.inl false)else((bif (decide (q>0))then(idx c0 0).bind fun x9=>(idx c0 q).bind fun x10=>(AM x9 x10).bind fun x11=>some (decide (x11≥0))else some false)).bind fun x8=>(bif x8 then some (Sum.inl false)else vZ c0 c1 c2 K (w64 (q+1))))else some (Sum.inr ()))
def ja(c0:List zI)(c1:Int)(c2:Int):Nat→(Int)→Option ((Bool)⊕(Unit))
 |0,_=>none
 |K+1,q=>(bif (decide (q<(c0.length:Int)))then((bif (decide ((w64 ((w64 (c1+(c0.length:Int)))-q))>1))then(idx c0 c1).bind fun x2=>(idx c0 q).bind fun x3=>(Hu x2 x3).bind fun x4=>some x4 else some false)).bind fun x1=>(bif x1 then some (Sum.inl false)else ja c0 c1 c2 K (w64 (q+1)))else some (Sum.inr ()))
def jb(c0:List zI)(c1:Int):Nat→(Int)→Option ((Bool)⊕(Unit))
 |0,_=>none
 |K+1,q=>(bif (decide (q<c1))then(ja c0 q c1 KK (w64 (q+2))).bind (xB (fun q=>some (Sum.inl q)) fun _=>jb c0 c1 K (w64 (q+1)))else some (Sum.inr ()))
def zaq(p:List zG):Option (Bool) :=
 ((bif (decide ((p.length:Int)<4))then some true else some (decide ((p.length:Int)>60)))).bind fun x1=>(bif x1 then some false else(JJ p).bind fun x2=>(vZ p x2 (x2.length:Int) KK 0).bind (xB some fun _=>(jb x2 (x2.length:Int) KK 0).bind (xB some fun _=>(idx x2 0).bind fun x5=>(xe x5).bind fun x6=>some (!x6))))
def vb(l:List zG):Option (Bool) :=
 (zaq l).bind fun x1=>some x1
def uh(b:BB):Option (Bs8×Int×(List Mb8)) :=
 (zJ b).bind fun x1=>(zh b x1 14).bind fun _=>(zn b).bind fun x3=>(Al b.n3).bind fun x4=>(zh { b with n3:=[x4] } (!((xz x3.2.1 x4).getD false)) 5).bind fun _=>(zn { b with n3:=[x4] }).bind fun x6=>(Al [x4]).bind fun x7=>(zL { b with n3:=[uP x6.2.1 true x7] }).bind fun x8=>some (x8.1,x8.2,[uP x6.2.1 true x7])
def HX(b:BB):Option (Bs8×Int×(List Mb8)) :=
 ((bif (List.isEmpty b.n3)then some ([([]:List (Bs8×Bool))]:List Mb8)else some b.n3)).bind fun x1=>(uh { b with n3:=x1 }).bind fun x2=>some (x2.1,x2.2.1,x2.2.2)
def ui(b:BB):Nat→(Int×(List Bs8))→Option (Int×(List Bs8))
 |0,_=>none
 |K+1,q=>(zJ { b with i:=q.1 }).bind fun x1=>(bif x1 then(zL { b with i:=q.1 }).bind fun x2=>(grd (List.length (q.2++([x2.1]:List Bs8))*16≤140737488355328)).bind fun _=>ui b K (x2.2,(q.2++([x2.1]:List Bs8)))else some (q.1,q.2))
def qt(b:BB):Option ((List Bs8)×Int) :=
 (zL b).bind fun x1=>(ui { b with i:=0 } KK (x1.2,([x1.1]:List Bs8))).bind fun x2=>some (x2.2,x2.1)
def kB(a0:Bs8):Option ((List Bs8)):=QC a0
def xl(c0:List Bs8)(c1:Bs8)(c2:Int):Nat→(Int)→Option ((Int)⊕(Unit))
 |0,_=>none
 |K+1,q=>(bif (decide (q<c2))then(idx c0 q).bind fun x1=>(bif (decide (c1=x1))then some (Sum.inl q)else xl c0 c1 c2 K (w64 (q+1)))else some (Sum.inr ()))
def oz(s:List Bs8)(v:Bs8):Option (Int) :=
 (xl s v (s.length:Int) KK 0).bind (xB some fun _=>some (-1))
def KF(list:Bs8)(s:Bs8):Option (Int) :=
 (kB list).bind fun x1=>(oz x1 s).bind fun x2=>some x2
def yX(b:BB)(list:Bs8):Option (Int×Int) :=
 (zn b).bind fun x1=>(KF list x1.2.1).bind fun x2=>((zn b).bind fun x4=>(bif (decide (x4.1=0))then(zh b (decide (x2≥0)) 14).bind fun _=>some ()else(zh b false 14).bind fun _=>some ())).bind fun _=>some (x2,(w64 (b.i+1)))
def oU(b:BB):Nat→(Int×Int)→Option ((Int×Int)⊕(Unit))
 |0,_=>none
 | K+1,q=>(zn { b with i:=q.1 }).bind fun x1=>(KF zj x1.2.1).bind fun x2=>((bif (decide (q.2>0))then(bif (decide (x2<0))then some true else(zn { b with i:=q.1 }).bind fun x4=>some (!(decide (x4.1=0))))else some false)).bind fun x3=>(bif x3 then some (Sum.inl (q.2,q.1))else((bif (decide (x2<0))then(zh { b with i:=q.1 } true 5).bind fun _=>some ()else(grd (0≤x2)).bind fun _=>(zh { b with i:=q.1 } (decide ((IntKind.i64.wrap ((BitVec.ofInt IntKind.i64.bits (Int.fdiv q.2 (2 ^ (min (Int.toNat x2) IntKind.i64.bits))) &&& BitVec.ofInt IntKind.i64.bits 1).toNat:Int))=0)) 5).bind fun _=>some ())).bind fun _=>(yX { b with i:=q.1 } zj).bind fun x9=>(grd (0≤x9.1)).bind fun _=>oU b K (x9.2,(IntKind.i64.wrap ((BitVec.ofInt IntKind.i64.bits q.2 ||| BitVec.ofInt IntKind.i64.bits (w64 (1*2 ^ (min (Int.toNat x9.1) IntKind.i64.bits)))).toNat:Int))))
def zar(b:BB):Option (Int×Int) :=
 (oU { b with i:=0 } KK (b.i,0)).bind (xB some fun _=>none)
def AN(b:BB):Option (Int×(List zX)×(List Mb8)) :=
 (HX b).bind fun x1=>((zD { b with i:=x1.2.1,n3:=x1.2.2 } zDt).bind fun x3=>(bif x3.1 then(qt { b with i:=x3.2,n3:=x1.2.2 }).bind fun x4=>some (x4.2,x4.1)else some (x3.2,[]))).bind fun x2=>((zD { b with i:=x2.1,n3:=x1.2.2 } qm).bind fun x6=>(bif x6.1 then(qt { b with i:=x6.2,n3:=x1.2.2 }).bind fun x7=>some (x7.2,x7.1)else some (x6.2,[]))).bind fun x5=>((zD { b with i:=x5.1,n3:=x1.2.2 } Q7).bind fun x9=>(bif x9.1 then(zk { b with i:=x9.2,n3:=x1.2.2 } 0 1073741824).bind fun x10=>some (x10.2,x10.1)else some (x9.2,0))).bind fun x8=>((zD { b with i:=x8.1,n3:=x1.2.2 } AF).bind fun x12=>(bif x12.1 then(zk { b with i:=x12.2,n3:=x1.2.2 } (w64 (x8.2+1)) 1073741824).bind fun x13=>some (x13.2,x13.1)else some (x12.2,0))).bind fun x11=>((zD { b with i:=x11.1,n3:=x1.2.2 } AB).bind fun x15=>(bif x15.1 then(zk { b with i:=x15.2,n3:=x1.2.2 } 0 1073741824).bind fun x16=>some (x16.2,x16.1)else some (x15.2,0))).bind fun x14=>(zD { b with i:=x14.1,n3:=x1.2.2 } kP).bind fun x17=>(zw { b with i:=x17.2,n3:=x1.2.2 } uK).bind fun x18=>((zD { b with i:=x18,n3:=x1.2.2 } AD).bind fun x20=>(bif x20.1 then(zk { b with i:=x20.2,n3:=x1.2.2 } 0 3).bind fun x21=>(zw { b with i:=x21.2,n3:=x1.2.2 } Ke).bind fun x22=>(zk { b with i:=x22,n3:=x1.2.2 } 0 4096).bind fun x23=>(zw { b with i:=x23.2,n3:=x1.2.2 } oy).bind fun x24=>(zk { b with i:=x24,n3:=x1.2.2 } 0 4096).bind fun x25=>(zk { b with i:=x25.2,n3:=x1.2.2 } 1 4096).bind fun x26=>(zw { b with i:=x26.2,n3:=x1.2.2 } yi).bind fun x27=>some (x27,1,0,0,([]:Bs8),([]:Bs8),[],x21.1,x23.1,x25.1,x26.1,0,0,0)else(zD { b with i:=x20.2,n3:=x1.2.2 } Q8).bind fun x28=>(bif x28.1 then(zar { b with i:=x28.2,n3:=x1.2.2 }).bind fun x29=>(zw { b with i:=x29.2,n3:=x1.2.2 } yi).bind fun x30=>some (x30,2,0,0,([]:Bs8),([]:Bs8),[],0,0,0,0,x29.1,0,0)else(zD { b with i:=x28.2,n3:=x1.2.2 } AA).bind fun x31=>(bif x31.1 then(yX { b with i:=x31.2,n3:=x1.2.2 } zj).bind fun x32=>(yX { b with i:=x32.2,n3:=x1.2.2 } zj).bind fun x33=>(zk { b with i:=x33.2,n3:=x1.2.2 } 0 1048576).bind fun x34=>(zw { b with i:=x34.2,n3:=x1.2.2 } yi).bind fun x35=>some (x35,3,0,0,([]:Bs8),([]:Bs8),[],0,0,0,0,x32.1,x33.1,x34.1)else(z6 KK { b with i:=x31.2,n3:=x1.2.2 } 0).bind fun x36=>(va KK (Expr.mk x36.2.1 x36.2.2.1 x36.2.2.2.1 x36.2.2.2.2.1 x36.2.2.2.2.2)).bind fun x37=>(vN { b with i:=x36.1,n3:=x1.2.2 } (decide (x37≤12)) 6).bind fun x38=>some (x38,0,x36.2.1,x36.2.2.1,x36.2.2.2.1,x36.2.2.2.2.1,x36.2.2.2.2.2,0,0,0,0,0,0,0))))).bind fun x19=>(grd (List.length (b.R++([(zX.mk x1.1 x2.2 x5.2 x8.2 x11.2 x14.2 x17.1 x19.2.1 (Expr.mk x19.2.2.1 x19.2.2.2.1 x19.2.2.2.2.1 x19.2.2.2.2.2.1 x19.2.2.2.2.2.2.1) (zE.mk x19.2.2.2.2.2.2.2.1 x19.2.2.2.2.2.2.2.2.1 x19.2.2.2.2.2.2.2.2.2.1 x19.2.2.2.2.2.2.2.2.2.2.1) x19.2.2.2.2.2.2.2.2.2.2.2.1 x19.2.2.2.2.2.2.2.2.2.2.2.2.1 x19.2.2.2.2.2.2.2.2.2.2.2.2.2)]:List zX))*232≤140737488355328)).bind fun _=>some (x19.1,(b.R++([(zX.mk x1.1 x2.2 x5.2 x8.2 x11.2 x14.2 x17.1 x19.2.1 (Expr.mk x19.2.2.1 x19.2.2.2.1 x19.2.2.2.2.1 x19.2.2.2.2.2.1 x19.2.2.2.2.2.2.1) (zE.mk x19.2.2.2.2.2.2.2.1 x19.2.2.2.2.2.2.2.2.1 x19.2.2.2.2.2.2.2.2.2.1 x19.2.2.2.2.2.2.2.2.2.2.1) x19.2.2.2.2.2.2.2.2.2.2.2.1 x19.2.2.2.2.2.2.2.2.2.2.2.2.1 x19.2.2.2.2.2.2.2.2.2.2.2.2.2)]:List zX)),x1.2.2)
def uj(b:BB):Option (Bs8×Int×(List Mb8)) :=
 (zJ b).bind fun x1=>(zh b x1 14).bind fun _=>(zn b).bind fun x3=>(Al b.n4).bind fun x4=>(zh { b with n4:=[x4] } (!((xz x3.2.1 x4).getD false)) 5).bind fun _=>(zn { b with n4:=[x4] }).bind fun x6=>(Al [x4]).bind fun x7=>(zL { b with n4:=[uP x6.2.1 true x7] }).bind fun x8=>some (x8.1,x8.2,[uP x6.2.1 true x7])
def uk(b:BB):Option (Bs8×Int×(List Mb8)) :=
 ((bif (List.isEmpty b.n4)then some ([([]:List (Bs8×Bool))]:List Mb8)else some b.n4)).bind fun x1=>(uj { b with n4:=x1 }).bind fun x2=>some (x2.1,x2.2.1,x2.2.2)
def um(b:BB):Option (Bs8×Int×(List Mb8)) :=
 (zJ b).bind fun x1=>(zh b x1 14).bind fun _=>(zn b).bind fun x3=>(Al b.n5).bind fun x4=>(zh { b with n5:=[x4] } (!((xz x3.2.1 x4).getD false)) 5).bind fun _=>(zn { b with n5:=[x4] }).bind fun x6=>(Al [x4]).bind fun x7=>(zL { b with n5:=[uP x6.2.1 true x7] }).bind fun x8=>some (x8.1,x8.2,[uP x6.2.1 true x7])
def HY(b:BB):Option (Bs8×Int×(List Mb8)) :=
 ((bif (List.isEmpty b.n5)then some ([([]:List (Bs8×Bool))]:List Mb8)else some b.n5)).bind fun x1=>(um { b with n5:=x1 }).bind fun x2=>some (x2.1,x2.2.1,x2.2.2)
def jA(b:BB):Option (Int×Int×Int×Int) :=
 (zk b 0 1048576).bind fun x1=>(zk { b with i:=x1.2 } 0 1048576).bind fun x2=>(zk { b with i:=x2.2 } 0 4096).bind fun x3=>some (x3.2,x1.1,x2.1,x3.1)
def uo(b:BB)(c15:(List Mb8))(c16:Bs8)(c17:Int)(c18:Int)(c19:Int)(c20:Int):Nat→(Int×(List zf))→Option (Int×(List zf))
 |0,_=>none
 |K+1,q=>(yb { b with i:=q.1,n5:=c15 }).bind fun x1=>(bif x1 then(zh { b with i:=q.1,n5:=c15 } (decide ((((List.length q.2):Nat):Int)<20)) 6).bind fun _=>(jA { b with i:=q.1,n5:=c15 }).bind fun x3=>(grd (List.length (q.2++([(zf.mk x3.2.1 x3.2.2.1 x3.2.2.2)]:List zf))*24≤140737488355328)).bind fun _=>uo b c15 c16 c17 c18 c19 c20 K (x3.1,(q.2++([(zf.mk x3.2.1 x3.2.2.1 x3.2.2.2)]:List zf)))else some (q.1,q.2))
def AO(b:BB):Option (Int×(List View)×(List Mb8)) :=
 (HY b).bind fun x1=>(jA { b with i:=x1.2.1,n5:=x1.2.2 }).bind fun x2=>(zw { b with i:=x2.1,n5:=x1.2.2 } ow).bind fun x3=>(zk { b with i:=x3,n5:=x1.2.2 } 0 20).bind fun x4=>(zw { b with i:=x4.2,n5:=x1.2.2 } uK).bind fun x5=>(jA { b with i:=x5,n5:=x1.2.2 }).bind fun x6=>(grd (List.length (([]:List zf)++([(zf.mk x6.2.1 x6.2.2.1 x6.2.2.2)]:List zf))*24≤140737488355328)).bind fun _=>(uo { b with i:=0,n5:=[] } x1.2.2 x1.1 x2.2.1 x2.2.2.1 x2.2.2.2 x4.1 KK (x6.1,(([]:List zf)++([(zf.mk x6.2.1 x6.2.2.1 x6.2.2.2)]:List zf)))).bind fun x8=>(zw { b with i:=x8.1,n5:=x1.2.2 } yi).bind fun x9=>(grd (List.length (b.V++([(View.mk x1.1 (zf.mk x2.2.1 x2.2.2.1 x2.2.2.2) x4.1 x8.2)]:List View))*72≤140737488355328)).bind fun _=>some (x9,(b.V++([(View.mk x1.1 (zf.mk x2.2.1 x2.2.2.1 x2.2.2.2) x4.1 x8.2)]:List View)),x1.2.2)
def qM(b:BB):Nat→(Int×(List zf)×Bool)→Option (Int×(List zf))
 |0,_=>none
 |K+1,q=>(bif q.2.2 then((wD { b with i:=q.1,S:=q.2.1 } yT).bind fun x2=>(bif x2 then(zh { b with i:=q.1,S:=q.2.1 } true 14).bind fun _=>some ()else(yb { b with i:=q.1,S:=q.2.1 }).bind fun x4=>(zh { b with i:=q.1,S:=q.2.1 } x4 14).bind fun _=>some ())).bind fun _=>(zh { b with i:=q.1,S:=q.2.1 } (decide ((((List.length q.2.1):Nat):Int)<24)) 6).bind fun _=>(xQ { b with i:=q.1,S:=q.2.1 } 4096).bind fun x7=>(xQ { b with i:=x7.2,S:=q.2.1 } 4096).bind fun x8=>(zk { b with i:=x8.2,S:=q.2.1 } 1 4096).bind fun x9=>(grd (List.length (q.2.1++([(zf.mk x7.1 x8.1 x9.1)]:List zf))*24≤140737488355328)).bind fun _=>(zD { b with i:=x9.2,S:=(q.2.1++([(zf.mk x7.1 x8.1 x9.1)]:List zf)) } KB).bind fun x11=>qM b K (x11.2,(q.2.1++([(zf.mk x7.1 x8.1 x9.1)]:List zf)),x11.1)else some (q.1,q.2.1))
def KH(b:BB):Option (Int×(List zf)) :=
 (qM { b with i:=0,S:=[] } KK (b.i,b.S,true)).bind fun x1=>(zw { b with i:=x1.1,S:=x1.2 } yi).bind fun x2=>some (x2,x1.2)
def zb(b:BB)(q:Int×Int×Bool×(List Def)×(List Table)×(List yl)×(List zX)×(List Cap)×(List View)×(List zf)×(List Mb8)×(List Mb8)×(List Mb8)×(List Mb8)×(List Mb8)×(List Mb8)):BB:={ b with i:=q.1,H:=q.2.1,h:=q.2.2.1,D:=q.2.2.2.1,T:=q.2.2.2.2.1,Z:=q.2.2.2.2.2.1,R:=q.2.2.2.2.2.2.1,C:=q.2.2.2.2.2.2.2.1,V:=q.2.2.2.2.2.2.2.2.1,S:=q.2.2.2.2.2.2.2.2.2.1,n0:=q.2.2.2.2.2.2.2.2.2.2.1,n1:=q.2.2.2.2.2.2.2.2.2.2.2.1,n2:=q.2.2.2.2.2.2.2.2.2.2.2.2.1,n3:=q.2.2.2.2.2.2.2.2.2.2.2.2.2.1,n4:=q.2.2.2.2.2.2.2.2.2.2.2.2.2.2.1,n5:=q.2.2.2.2.2.2.2.2.2.2.2.2.2.2.2 }
def ye(b:BB):Nat→(Int×Int×Bool×(List Def)×(List Table)×(List yl)×(List zX)×(List Cap)×(List View)×(List zf)×(List Mb8)×(List Mb8)×(List Mb8)×(List Mb8)×(List Mb8)×(List Mb8))→Option (Int×Int×Bool×(List Def)×(List Table)×(List yl)×(List zX)×(List Cap)×(List View)×(List zf)×(List Mb8)×(List Mb8)×(List Mb8)×(List Mb8)×(List Mb8)×(List Mb8))
 |0,_=>none
 |K+1,q=>(zn { (zb b q)with l:=b.l }).bind fun x1=>(bif (!(decide (x1.1=3)))then(zn { (zb b q)with l:=b.l }).bind fun x2=>(bif (decide (x2.2.1=ql))then(yC { (zb b q)with l:=b.l } (((List.length ((zb b q).D)):Nat):Int) 60).bind fun x3=>(oT { (zb b q)with l:=b.l,i:=x3 }).bind fun x4=>ye b K (x4.1,(zb b q).H,(zb b q).h,x4.2.1,(zb b q).T,(zb b q).Z,(zb b q).R,(zb b q).C,(zb b q).V,(zb b q).S,x4.2.2,(zb b q).n1,(zb b q).n2,(zb b q).n3,(zb b q).n4,(zb b q).n5)else(bif (decide (x2.2.1=xG))then(yC { (zb b q)with l:=b.l } (((List.length ((zb b q).T)):Nat):Int) 60).bind fun x5=>(HW { (zb b q)with l:=b.l,i:=x5 }).bind fun x6=>ye b K (x6.1,(zb b q).H,(zb b q).h,(zb b q).D,x6.2.1,(zb b q).Z,(zb b q).R,(zb b q).C,(zb b q).V,(zb b q).S,(zb b q).n0,x6.2.2,(zb b q).n2,(zb b q).n3,(zb b q).n4,(zb b q).n5)else(bif (decide (x2.2.1=wH))then(bif (decide (x2.2.1=wH))then(wD { (zb b q)with l:=b.l } xf).bind fun x7=>(yC { (zb b q)with l:=b.l } (((List.length ((zb b q).Z)):Nat):Int) 60).bind fun x8=>(ug { (zb b q)with l:=b.l,i:=x8 }).bind fun x9=>(xR { (zb b q)with l:=b.l,i:=x9.2.1,n2:=x9.2.2 }).bind fun x10=>(vb x10.1).bind fun x11=>(vN { (zb b q)with l:=b.l,i:=x10.2,n2:=x9.2.2 } x11 10).bind fun x12=>(grd (List.length ((zb b q).Z++([(yl.mk x9.1 x7 x10.1)]:List yl))*48≤140737488355328)).bind fun _=>ye b K (x12,(zb b q).H,(zb b q).h,(zb b q).D,(zb b q).T,((zb b q).Z++([(yl.mk x9.1 x7 x10.1)]:List yl)),(zb b q).R,(zb b q).C,(zb b q).V,(zb b q).S,(zb b q).n0,(zb b q).n1,x9.2.2,(zb b q).n3,(zb b q).n4,(zb b q).n5)else(bif (decide (x2.2.1=Hs))then(yC { (zb b q)with l:=b.l } (((List.length ((zb b q).R)):Nat):Int) 200).bind fun x14=>(AN { (zb b q)with l:=b.l,i:=x14 }).bind fun x15=>ye b K (x15.1,(zb b q).H,(zb b q).h,(zb b q).D,(zb b q).T,(zb b q).Z,x15.2.1,(zb b q).C,(zb b q).V,(zb b q).S,(zb b q).n0,(zb b q).n1,(zb b q).n2,x15.2.2,(zb b q).n4,(zb b q).n5)else(bif (decide (x2.2.1=zag))then(yC { (zb b q)with l:=b.l } (((List.length ((zb b q).C)):Nat):Int) 30).bind fun x16=>(uk { (zb b q)with l:=b.l,i:=x16 }).bind fun x17=>(yX { (zb b q)with l:=b.l,i:=x17.2.1,n4:=x17.2.2 } zY).bind fun x18=>(zk { (zb b q)with l:=b.l,i:=x18.2,n4:=x17.2.2 } 0 1099511627776).bind fun x19=>(xR { (zb b q)with l:=b.l,i:=x19.2,n4:=x17.2.2 }).bind fun x20=>(vb x20.1).bind fun x21=>(vN { (zb b q)with l:=b.l,i:=x20.2,n4:=x17.2.2 } x21 10).bind fun x22=>(grd (List.length ((zb b q).C++([(Cap.mk x17.1 x18.1 x19.1 x20.1)]:List Cap))*56≤140737488355328)).bind fun _=>ye b K (x22,(zb b q).H,(zb b q).h,(zb b q).D,(zb b q).T,(zb b q).Z,(zb b q).R,((zb b q).C++([(Cap.mk x17.1 x18.1 x19.1 x20.1)]:List Cap)),(zb b q).V,(zb b q).S,(zb b q).n0,(zb b q).n1,(zb b q).n2,(zb b q).n3,x17.2.2,(zb b q).n5)else(bif (decide (x2.2.1=HQ))then(yC { (zb b q)with l:=b.l } (((List.length ((zb b q).V)):Nat):Int) 60).bind fun x24=>(AO { (zb b q)with l:=b.l,i:=x24 }).bind fun x25=>ye b K (x25.1,(zb b q).H,(zb b q).h,(zb b q).D,(zb b q).T,(zb b q).Z,(zb b q).R,(zb b q).C,x25.2.1,(zb b q).S,(zb b q).n0,(zb b q).n1,(zb b q).n2,(zb b q).n3,(zb b q).n4,x25.2.2)else(bif (decide (x2.2.1=Wf))then(zh { (zb b q)with l:=b.l } (decide (((List.length ((zb b q).S)):Nat)=0)) 5).bind fun _=>(KH { (zb b q)with l:=b.l,i:=(w64 ((zb b q).i+1)) }).bind fun x27=>ye b K (x27.1,(zb b q).H,(zb b q).h,(zb b q).D,(zb b q).T,(zb b q).Z,(zb b q).R,(zb b q).C,(zb b q).V,x27.2,(zb b q).n0,(zb b q).n1,(zb b q).n2,(zb b q).n3,(zb b q).n4,(zb b q).n5)else(bif (decide (x2.2.1=jW))then(zh { (zb b q)with l:=b.l } (!(zb b q).h) 5).bind fun _=>(zk { (zb b q)with l:=b.l,i:=(w64 ((zb b q).i+1)) } 0 24).bind fun x29=>(zw { (zb b q)with l:=b.l,i:=x29.2,H:=x29.1,h:=true } yi).bind fun x30=>ye b K (x30,x29.1,true,(zb b q).D,(zb b q).T,(zb b q).Z,(zb b q).R,(zb b q).C,(zb b q).V,(zb b q).S,(zb b q).n0,(zb b q).n1,(zb b q).n2,(zb b q).n3,(zb b q).n4,(zb b q).n5)else none))))))else(bif (decide (x2.2.1=xf))then(wD { (zb b q)with l:=b.l } xf).bind fun x31=>(yC { (zb b q)with l:=b.l } (((List.length ((zb b q).Z)):Nat):Int) 60).bind fun x32=>(ug { (zb b q)with l:=b.l,i:=x32 }).bind fun x33=>(xR { (zb b q)with l:=b.l,i:=x33.2.1,n2:=x33.2.2 }).bind fun x34=>(vb x34.1).bind fun x35=>(vN { (zb b q)with l:=b.l,i:=x34.2,n2:=x33.2.2 } x35 10).bind fun x36=>(grd (List.length ((zb b q).Z++([(yl.mk x33.1 x31 x34.1)]:List yl))*48≤140737488355328)).bind fun _=>ye b K (x36,(zb b q).H,(zb b q).h,(zb b q).D,(zb b q).T,((zb b q).Z++([(yl.mk x33.1 x31 x34.1)]:List yl)),(zb b q).R,(zb b q).C,(zb b q).V,(zb b q).S,(zb b q).n0,(zb b q).n1,x33.2.2,(zb b q).n3,(zb b q).n4,(zb b q).n5)else(bif (decide (x2.2.1=Hs))then(yC { (zb b q)with l:=b.l } (((List.length ((zb b q).R)):Nat):Int) 200).bind fun x38=>(AN { (zb b q)with l:=b.l,i:=x38 }).bind fun x39=>ye b K (x39.1,(zb b q).H,(zb b q).h,(zb b q).D,(zb b q).T,(zb b q).Z,x39.2.1,(zb b q).C,(zb b q).V,(zb b q).S,(zb b q).n0,(zb b q).n1,(zb b q).n2,x39.2.2,(zb b q).n4,(zb b q).n5)else(bif (decide (x2.2.1=zag))then(yC { (zb b q)with l:=b.l } (((List.length ((zb b q).C)):Nat):Int) 30).bind fun x40=>(uk { (zb b q)with l:=b.l,i:=x40 }).bind fun x41=>(yX { (zb b q)with l:=b.l,i:=x41.2.1,n4:=x41.2.2 } zY).bind fun x42=>(zk { (zb b q)with l:=b.l,i:=x42.2,n4:=x41.2.2 } 0 1099511627776).bind fun x43=>(xR { (zb b q)with l:=b.l,i:=x43.2,n4:=x41.2.2 }).bind fun x44=>(vb x44.1).bind fun x45=>(vN { (zb b q)with l:=b.l,i:=x44.2,n4:=x41.2.2 } x45 10).bind fun x46=>(grd (List.length ((zb b q).C++([(Cap.mk x41.1 x42.1 x43.1 x44.1)]:List Cap))*56≤140737488355328)).bind fun _=>ye b K (x46,(zb b q).H,(zb b q).h,(zb b q).D,(zb b q).T,(zb b q).Z,(zb b q).R,((zb b q).C++([(Cap.mk x41.1 x42.1 x43.1 x44.1)]:List Cap)),(zb b q).V,(zb b q).S,(zb b q).n0,(zb b q).n1,(zb b q).n2,(zb b q).n3,x41.2.2,(zb b q).n5)else(bif (decide (x2.2.1=HQ))then(yC { (zb b q)with l:=b.l } (((List.length ((zb b q).V)):Nat):Int) 60).bind fun x48=>(AO { (zb b q)with l:=b.l,i:=x48 }).bind fun x49=>ye b K (x49.1,(zb b q).H,(zb b q).h,(zb b q).D,(zb b q).T,(zb b q).Z,(zb b q).R,(zb b q).C,x49.2.1,(zb b q).S,(zb b q).n0,(zb b q).n1,(zb b q).n2,(zb b q).n3,(zb b q).n4,x49.2.2)else(bif (decide (x2.2.1=Wf))then(zh { (zb b q)with l:=b.l } (decide (((List.length ((zb b q).S)):Nat)=0)) 5).bind fun _=>(KH { (zb b q)with l:=b.l,i:=(w64 ((zb b q).i+1)) }).bind fun x51=>ye b K (x51.1,(zb b q).H,(zb b q).h,(zb b q).D,(zb b q).T,(zb b q).Z,(zb b q).R,(zb b q).C,(zb b q).V,x51.2,(zb b q).n0,(zb b q).n1,(zb b q).n2,(zb b q).n3,(zb b q).n4,(zb b q).n5)else(bif (decide (x2.2.1=jW))then(zh { (zb b q)with l:=b.l } (!(zb b q).h) 5).bind fun _=>(zk { (zb b q)with l:=b.l,i:=(w64 ((zb b q).i+1)) } 0 24).bind fun x53=>(zw { (zb b q)with l:=b.l,i:=x53.2,H:=x53.1,h:=true } yi).bind fun x54=>ye b K (x54,x53.1,true,(zb b q).D,(zb b q).T,(zb b q).Z,(zb b q).R,(zb b q).C,(zb b q).V,(zb b q).S,(zb b q).n0,(zb b q).n1,(zb b q).n2,(zb b q).n3,(zb b q).n4,(zb b q).n5)else none)))))))))else some ((zb b q).i,(zb b q).H,(zb b q).h,(zb b q).D,(zb b q).T,(zb b q).Z,(zb b q).R,(zb b q).C,(zb b q).V,(zb b q).S,(zb b q).n0,(zb b q).n1,(zb b q).n2,(zb b q).n3,(zb b q).n4,(zb b q).n5))
def zhc(b:BB):Option (Int×Int×Bool×(List Def)×(List Table)×(List yl)×(List zX)×(List Cap)×(List View)×(List zf)×(List Mb8)×(List Mb8)×(List Mb8)×(List Mb8)×(List Mb8)×(List Mb8)) :=
 (ye { b with i:=0,D:=[],T:=[],Z:=[],R:=[],C:=[],V:=[],S:=[],H:=0,n0:=[],n1:=[],n2:=[],n3:=[],n4:=[],n5:=[],h:=false } KK (b.i,b.H,b.h,b.D,b.T,b.Z,b.R,b.C,b.V,b.S,b.n0,b.n1,b.n2,b.n3,b.n4,b.n5)).bind fun x1=>some (x1.1,x1.2.1,x1.2.2.1,x1.2.2.2.1,x1.2.2.2.2.1,x1.2.2.2.2.2.1,x1.2.2.2.2.2.2.1,x1.2.2.2.2.2.2.2.1,x1.2.2.2.2.2.2.2.2.1,x1.2.2.2.2.2.2.2.2.2.1,x1.2.2.2.2.2.2.2.2.2.2.1,x1.2.2.2.2.2.2.2.2.2.2.2.1,x1.2.2.2.2.2.2.2.2.2.2.2.2.1,x1.2.2.2.2.2.2.2.2.2.2.2.2.2.1,x1.2.2.2.2.2.2.2.2.2.2.2.2.2.2.1,x1.2.2.2.2.2.2.2.2.2.2.2.2.2.2.2)
def oV(b:BB)(err:Int):Option (Int×Int) :=
 (zn b).bind fun x1=>some (x1.2.2.2,err)
def zr(b:BB)(is:Bool)(err:Int):Option (Int×Int) :=
 (bif (!is)then(orC (oV b err) (fun x1=>some x1) none)else none)
def vc(b:BB)(have_:Int)(most:Int):Option (Int×Int) :=
 (orC (zr b (decide (have_<most)) 6) (fun x1=>some x1) ((zh b (decide (have_<most)) 6).bind fun _=>none))
def yH(b:BB):Option (Int×Int) :=
 (zJ b).bind fun x1=>(orC (zr b x1 14) (fun x2=>some x2) ((zh b x1 14).bind fun _=>(idx b.l (w64 ((w64 (b.i+1))-1))).bind fun _=>none))
def Vb(b:BB):Option (Int×Int) :=
 (zJ b).bind fun x1=>(orC (zr b x1 14) (fun x2=>some x2) ((zh b x1 14).bind fun _=>(zn b).bind fun x4=>(Al b.n0).bind fun x5=>(orC (zr { b with n0:=[x5] } (!((xz x4.2.1 x5).getD false)) 5) (fun x6=>some x6) ((zh { b with n0:=[x5] } (!((xz x4.2.1 x5).getD false)) 5).bind fun _=>(zn { b with n0:=[x5] }).bind fun x8=>(Al [x5]).bind fun x9=>(orC (yH { b with n0:=[uP x8.2.1 true x9] }) (fun x10=>some x10) ((zL { b with n0:=[uP x8.2.1 true x9] }).bind fun _=>none))))))
def zhd(b:BB):Option (Int×Int) :=
 ((bif (List.isEmpty b.n0)then some ([([]:List (Bs8×Bool))]:List Mb8)else some b.n0)).bind fun x1=>(orC (Vb { b with n0:=x1 }) (fun x2=>some x2) ((HU { b with n0:=x1 }).bind fun _=>none))
def yc(b:BB)(s:Bs8):Option (Int×Int) :=
 (zD b s).bind fun x1=>(orC (zr { b with i:=x1.2 } x1.1 14) (fun x2=>some x2) ((zh { b with i:=x1.2 } x1.1 14).bind fun _=>none))
def zB(b:BB)(from_:Int)(to_:Int):Option (Int×Int) :=
 (yb b).bind fun x1=>(orC (zr b x1 14) (fun x2=>some x2) ((zh b x1 14).bind fun _=>(zn b).bind fun x4=>((bif (decide (x4.2.2.1≥from_))then(orC (zr b (decide (x4.2.2.1≤to_)) 3) (fun x6=>some (Sum.inl x6)) ((zh b (decide (x4.2.2.1≤to_)) 3).bind fun _=>some (Sum.inr ())))else(orC (zr b false 3) (fun x8=>some (Sum.inl x8)) ((zh b false 3).bind fun _=>some (Sum.inr ()))))).bind (xB some fun _=>none)))
def jB(b:BB)(c1:Int)(c17:Int)(c18:Int)(c19:List zg)(c20:Int)(c21:Int)(c22:Bs8)(c23:List Expr)(c24:Int)(c25:Int)(c26:Bs8)(c27:Bs8)(c28:List Expr):Nat→(Int×Bs8×Int×Int)→Option (Bs8×Int×Int)
 |0,_=>none
 |K+1,q=>(bif (decide (q.1<c20))then((idx c19 q.1).bind fun x2=>(wD { b with i:=c1 } x2.text).bind fun x3=>(bif x3 then some (x2.text,x2.op,x2.form)else some (q.2.1,q.2.2.1,q.2.2.2))).bind fun x1=>jB b c1 c17 c18 c19 c20 c21 c22 c23 c24 c25 c26 c27 c28 K ((w64 (q.1+1)),x1.1,x1.2.1,x1.2.2)else some (q.2.1,q.2.2.1,q.2.2.2))
def jC(r_p_q_expr_2:BB→Int→Option (Int×Int))(b:BB)(c16:Int)(c17:Int)(c18:Bs8)(c19:List Expr):Nat→(Int×Int×Int×Int×Bs8×Bs8×(List Expr))→Option ((Int×Int)⊕(Unit))
 |0,_=>none
 |K+1,q=>(wI).bind fun x1=>(jB { b with i:=0 } q.1 c16 q.2.1 x1 (x1.length:Int) c17 c18 c19 q.2.2.1 q.2.2.2.1 q.2.2.2.2.1 q.2.2.2.2.2.1 q.2.2.2.2.2.2 KK (0,([]:Bs8),0,0)).bind fun x2=>((bif (decide (x2.1=([]:Bs8)))then some true else(bif (decide (x2.2.2<c16))then some true else(bif (decide (q.2.1<x2.2.2))then some true else(bif (decide (q.2.1=4))then some (decide (x2.2.2=4))else some false))))).bind fun x3=>(bif x3 then none else(orC (r_p_q_expr_2 { b with i:=(w64 (q.1+1)) } (w64 (x2.2.2+1))) (fun x4=>some (Sum.inl x4)) ((z6 KK { b with i:=(w64 (q.1+1)) } (w64 (x2.2.2+1))).bind fun x5=>jC r_p_q_expr_2 b c16 c17 c18 c19 K (x5.1,x2.2.2,x2.2.1,0,([]:Bs8),([]:Bs8),([(Expr.mk q.2.2.1 q.2.2.2.1 q.2.2.2.2.1 q.2.2.2.2.2.1 q.2.2.2.2.2.2),(Expr.mk x5.2.1 x5.2.2.1 x5.2.2.2.1 x5.2.2.2.2.1 x5.2.2.2.2.2)]:List Expr)))))
mutual
def uT:Nat→BB→Int→Option (Int×Int)
 |0,_,_=>none
 |RK+1,b,form=>((bif (decide (form≤0))then(zD b zah).bind fun x2=>some (x2.2,x2.1)else some (b.i,false))).bind fun x1=>(bif x1.2 then(orC (yY RK { b with i:=x1.1 } 0) (fun x3=>some x3) ((z6 KK { b with i:=x1.1 } 0).bind fun x4=>(orC (yc { b with i:=x4.1 } Ht) (fun x5=>some x5) ((zw { b with i:=x4.1 } Ht).bind fun x6=>(orC (yY RK { b with i:=x6 } 0) (fun x7=>some x7) ((z6 KK { b with i:=x6 } 0).bind fun x8=>(orC (yc { b with i:=x8.1 } vW) (fun x9=>some x9) ((zw { b with i:=x8.1 } vW).bind fun x10=>(orC (yY RK { b with i:=x10 } 0) (fun x11=>some x11) ((z6 KK { b with i:=x10 } 0).bind fun _=>none))))))))))else((bif (decide (form≤3))then(zD { b with i:=x1.1 } ox).bind fun x14=>some (x14.2,x14.1)else some (x1.1,false))).bind fun x13=>(bif x13.2 then(orC (yY RK { b with i:=x13.1 } 3) (fun x15=>some x15) ((z6 KK { b with i:=x13.1 } 3).bind fun _=>none))else((bif (decide (form≤7))then(zD { b with i:=x13.1 } yT).bind fun x18=>some (x18.2,x18.1)else some (x13.1,false))).bind fun x17=>(bif x17.2 then(orC (yY RK { b with i:=x17.1 } 7) (fun x19=>some x19) ((z6 KK { b with i:=x17.1 } 7).bind fun _=>none))else(yb { b with i:=x17.1 }).bind fun x21=>(bif x21 then(orC (zB { b with i:=x17.1 } 0 1099511627776) (fun x22=>some x22) ((zk { b with i:=x17.1 } 0 1099511627776).bind fun _=>none))else(zD { b with i:=x17.1 } xG).bind fun x24=>(bif x24.1 then(orC (yH { b with i:=x24.2 }) (fun x25=>some x25) ((zL { b with i:=x24.2 }).bind fun x26=>(orC (yH { b with i:=x26.2 }) (fun x27=>some x27) ((zL { b with i:=x26.2 }).bind fun _=>none))))else(zD { b with i:=x24.2 } wH).bind fun x29=>(bif x29.1 then(orC (yH { b with i:=x29.2 }) (fun x30=>some x30) ((zL { b with i:=x29.2 }).bind fun _=>none))else(zD { b with i:=x29.2 } HA).bind fun x32=>(bif x32.1 then(orC (yY RK { b with i:=x32.2 } 0) (fun x33=>some x33) ((z6 KK { b with i:=x32.2 } 0).bind fun x34=>(orC (yc { b with i:=x34.1 } AG) (fun x35=>some x35) ((zw { b with i:=x34.1 } AG).bind fun _=>none))))else(orC (yH { b with i:=x32.2 }) (fun x37=>some x37) ((zL { b with i:=x32.2 }).bind fun _=>none)))))))))
def yY:Nat→BB→Int→Option (Int×Int)
 |0,_,_=>none
 |RK+1,b,form=>(orC (uT RK b form) (fun x1=>some x1) ((kT KK b form).bind fun x2=>(jC (yY RK) { b with i:=0 } form 0 ([]:Bs8) [] KK (x2.2.1,x2.1,x2.2.2.1,x2.2.2.2.1,x2.2.2.2.2.1,x2.2.2.2.2.2.1,x2.2.2.2.2.2.2)).bind (xB some fun _=>none)))
end
def AP(b:BB)(is:Bool)(err:Int):Option (Int×Int) :=
 (wD b yi).bind fun x1=>(orC (zr b x1 14) (fun x2=>some x2) ((zh b x1 14).bind fun _=>(orC (zr b is err) (fun x4=>some x4) ((zh b is err).bind fun _=>none))))
def JK(b:BB):Option (Int×Int) :=
 (orC (zhd b) (fun x1=>some x1) ((zap b).bind fun x2=>(orC (yc { b with i:=x2.2.1,n0:=x2.2.2 } Q9) (fun x3=>some x3) ((zw { b with i:=x2.2.1,n0:=x2.2.2 } Q9).bind fun x4=>(orC (yY KK { b with i:=x4,n0:=x2.2.2 } 0) (fun x5=>some x5) ((z6 KK { b with i:=x4,n0:=x2.2.2 } 0).bind fun x6=>(va KK (Expr.mk x6.2.1 x6.2.2.1 x6.2.2.2.1 x6.2.2.2.2.1 x6.2.2.2.2.2)).bind fun x7=>(orC (AP { b with i:=x6.1,n0:=x2.2.2 } (decide (x7≤12)) 6) (fun x8=>some x8) ((vN { b with i:=x6.1,n0:=x2.2.2 } (decide (x7≤12)) 6).bind fun _=>(grd (List.length (b.D++([(Def.mk x2.1 (Expr.mk x6.2.1 x6.2.2.1 x6.2.2.2.1 x6.2.2.2.2.1 x6.2.2.2.2.2))]:List Def))*88≤140737488355328)).bind fun _=>none))))))))
def AQ(b:BB):Option (Int×Int) :=
 (zJ b).bind fun x1=>(orC (zr b x1 14) (fun x2=>some x2) ((zh b x1 14).bind fun _=>(zn b).bind fun x4=>(Al b.n1).bind fun x5=>(orC (zr { b with n1:=[x5] } (!((xz x4.2.1 x5).getD false)) 5) (fun x6=>some x6) ((zh { b with n1:=[x5] } (!((xz x4.2.1 x5).getD false)) 5).bind fun _=>(zn { b with n1:=[x5] }).bind fun x8=>(Al [x5]).bind fun x9=>(orC (yH { b with n1:=[uP x8.2.1 true x9] }) (fun x10=>some x10) ((zL { b with n1:=[uP x8.2.1 true x9] }).bind fun _=>none))))))
def Vc(b:BB):Option (Int×Int) :=
 ((bif (List.isEmpty b.n1)then some ([([]:List (Bs8×Bool))]:List Mb8)else some b.n1)).bind fun x1=>(orC (AQ { b with n1:=x1 }) (fun x2=>some x2) ((ue { b with n1:=x1 }).bind fun _=>none))
def yj(b:BB)(known:Mb8):Option (Int×Int) :=
 (zJ b).bind fun x1=>(orC (zr b x1 14) (fun x2=>some x2) ((zh b x1 14).bind fun _=>(zn b).bind fun x4=>(orC (zr b (!((xz x4.2.1 known).getD false)) 5) (fun x5=>some x5) ((zh b (!((xz x4.2.1 known).getD false)) 5).bind fun _=>(zn b).bind fun _=>(orC (yH b) (fun x8=>some x8) ((zL b).bind fun _=>none))))))
def j5(b:BB)(most:Int):Option (Int×Int) :=
 (zD b yT).bind fun x1=>(bif x1.1 then(orC (zB { b with i:=x1.2 } 0 most) (fun x2=>some x2) ((zk { b with i:=x1.2 } 0 most).bind fun _=>none))else(orC (zB { b with i:=x1.2 } 0 most) (fun x4=>some x4) ((zk { b with i:=x1.2 } 0 most).bind fun _=>none)))
def kV(b:BB)(c15:(List Mb8))(c16:Bs8)(c17:Int):Nat→(Int×Mb8×(List Entry))→Option ((Int×Int)⊕(Int×(List Entry)))
 |0,_=>none
 |K+1,q=>(zJ { b with i:=q.1,n1:=c15 }).bind fun x1=>(bif x1 then(orC (zr { b with i:=q.1,n1:=c15 } (decide ((((List.length q.2.2):Nat):Int)<60)) 6) (fun x2=>some (Sum.inl x2)) ((zh { b with i:=q.1,n1:=c15 } (decide ((((List.length q.2.2):Nat):Int)<60)) 6).bind fun _=>(orC (yj { b with i:=q.1,n1:=c15 } q.2.1) (fun x4=>some (Sum.inl x4)) ((ya { b with i:=q.1,n1:=c15 } q.2.1).bind fun x5=>(orC (j5 { b with i:=x5.2.1,n1:=c15 } 1099511627776) (fun x6=>some (Sum.inl x6)) ((xQ { b with i:=x5.2.1,n1:=c15 } 1099511627776).bind fun x7=>(grd (List.length (q.2.2++([(Entry.mk x5.1 x7.1)]:List Entry))*24≤140737488355328)).bind fun _=>kV b c15 c16 c17 K (x7.2,x5.2.2,(q.2.2++([(Entry.mk x5.1 x7.1)]:List Entry)))))))))else some (Sum.inr (q.1,q.2.2)))
def Vd(b:BB):Option (Int×Int) :=
 (orC (Vc b) (fun x1=>some x1) ((HV b).bind fun x2=>(kV { b with i:=0,n1:=[] } x2.2.2 x2.1 0 KK (x2.2.1,([]:List (Bs8×Bool)),([]:List Entry))).bind (xB some fun x3=>(orC (yc { b with i:=x3.1,n1:=x2.2.2 } vW) (fun x4=>some x4) ((zw { b with i:=x3.1,n1:=x2.2.2 } vW).bind fun x5=>(orC (j5 { b with i:=x5,n1:=x2.2.2 } 1099511627776) (fun x6=>some x6) ((xQ { b with i:=x5,n1:=x2.2.2 } 1099511627776).bind fun x7=>(orC (yc { b with i:=x7.2,n1:=x2.2.2 } yi) (fun x8=>some x8) ((zw { b with i:=x7.2,n1:=x2.2.2 } yi).bind fun _=>(grd (List.length (b.T++([(Table.mk x2.1 x3.2 x7.1)]:List Table))*48≤140737488355328)).bind fun _=>none)))))))))
def AR(b:BB):Option (Int×Int) :=
 (zJ b).bind fun x1=>(orC (zr b x1 14) (fun x2=>some x2) ((zh b x1 14).bind fun _=>(zn b).bind fun x4=>(Al b.n2).bind fun x5=>(orC (zr { b with n2:=[x5] } (!((xz x4.2.1 x5).getD false)) 5) (fun x6=>some x6) ((zh { b with n2:=[x5] } (!((xz x4.2.1 x5).getD false)) 5).bind fun _=>(zn { b with n2:=[x5] }).bind fun x8=>(Al [x5]).bind fun x9=>(orC (yH { b with n2:=[uP x8.2.1 true x9] }) (fun x10=>some x10) ((zL { b with n2:=[uP x8.2.1 true x9] }).bind fun _=>none))))))
def HZ(b:BB):Option (Int×Int) :=
 ((bif (List.isEmpty b.n2)then some ([([]:List (Bs8×Bool))]:List Mb8)else some b.n2)).bind fun x1=>(orC (AR { b with n2:=x1 }) (fun x2=>some x2) ((uf { b with n2:=x1 }).bind fun _=>none))
def jD(b:BB):Nat→(Int×(List zG))→Option ((Int×Int)⊕(Unit))
 |0,_=>none
 |K+1,q=>(orC (zB { b with i:=q.1 } 0 1048576) (fun x1=>some (Sum.inl x1)) ((zk { b with i:=q.1 } 0 1048576).bind fun x2=>(orC (zB { b with i:=x2.2 } 0 1048576) (fun x3=>some (Sum.inl x3)) ((zk { b with i:=x2.2 } 0 1048576).bind fun x4=>(grd (List.length (q.2++([(zG.mk x2.1 x4.1)]:List zG))*16≤140737488355328)).bind fun _=>(yb { b with i:=x4.2 }).bind fun x6=>(bif (!x6)then none else jD b K (x4.2,(q.2++([(zG.mk x2.1 x4.1)]:List zG))))))))
def j6(b:BB):Option (Int×Int) :=
 (jD { b with i:=0 } KK (b.i,[])).bind (xB some fun _=>none)
def AS(b:BB):Option (Int×Int) :=
 (zJ b).bind fun x1=>(orC (zr b x1 14) (fun x2=>some x2) ((zh b x1 14).bind fun _=>(zn b).bind fun x4=>(Al b.n3).bind fun x5=>(orC (zr { b with n3:=[x5] } (!((xz x4.2.1 x5).getD false)) 5) (fun x6=>some x6) ((zh { b with n3:=[x5] } (!((xz x4.2.1 x5).getD false)) 5).bind fun _=>(zn { b with n3:=[x5] }).bind fun x8=>(Al [x5]).bind fun x9=>(orC (yH { b with n3:=[uP x8.2.1 true x9] }) (fun x10=>some x10) ((zL { b with n3:=[uP x8.2.1 true x9] }).bind fun _=>none))))))
def Ve(b:BB):Option (Int×Int) :=
 ((bif (List.isEmpty b.n3)then some ([([]:List (Bs8×Bool))]:List Mb8)else some b.n3)).bind fun x1=>(orC (AS { b with n3:=x1 }) (fun x2=>some x2) ((uh { b with n3:=x1 }).bind fun _=>none))
def uq(b:BB):Nat→(Int×(List Bs8))→Option ((Int×Int)⊕(Int×(List Bs8)))
 |0,_=>none
 |K+1,q=>(zJ { b with i:=q.1 }).bind fun x1=>(bif x1 then(orC (yH { b with i:=q.1 }) (fun x2=>some (Sum.inl x2)) ((zL { b with i:=q.1 }).bind fun x3=>(grd (List.length (q.2++([x3.1]:List Bs8))*16≤140737488355328)).bind fun _=>uq b K (x3.2,(q.2++([x3.1]:List Bs8)))))else some (Sum.inr (q.1,q.2)))
def AT(b:BB):Option (Int×Int) :=
 (orC (yH b) (fun x1=>some x1) ((zL b).bind fun x2=>(uq { b with i:=0 } KK (x2.2,([x2.1]:List Bs8))).bind (xB some fun x3=>none)))
def vd(b:BB)(list:Bs8):Option (Int×Int) :=
 (zn b).bind fun x1=>(KF list x1.2.1).bind fun x2=>((zn b).bind fun x4=>(bif (decide (x4.1=0))then(orC (zr b (decide (x2≥0)) 14) (fun x5=>some (Sum.inl x5)) ((zh b (decide (x2≥0)) 14).bind fun _=>some (Sum.inr ())))else(orC (zr b false 14) (fun x7=>some (Sum.inl x7)) ((zh b false 14).bind fun _=>some (Sum.inr ()))))).bind (xB some fun _=>none)
def oW(b:BB):Nat→(Int×Int)→Option ((Int×Int)⊕(Unit))
 |0,_=>none
 | K+1,q=>(zn { b with i:=q.1 }).bind fun x1=>(KF zj x1.2.1).bind fun x2=>((bif (decide (q.2>0))then(bif (decide (x2<0))then some true else(zn { b with i:=q.1 }).bind fun x4=>some (!(decide (x4.1=0))))else some false)).bind fun x3=>(bif x3 then none else((bif (decide (x2<0))then(orC (zr { b with i:=q.1 } true 5) (fun x6=>some (Sum.inl x6)) ((zh { b with i:=q.1 } true 5).bind fun _=>some (Sum.inr ())))else(grd (0≤x2)).bind fun _=>(orC (zr { b with i:=q.1 } (decide ((IntKind.i64.wrap ((BitVec.ofInt IntKind.i64.bits (Int.fdiv q.2 (2 ^ (min (Int.toNat x2) IntKind.i64.bits))) &&& BitVec.ofInt IntKind.i64.bits 1).toNat:Int))=0)) 5) (fun x9=>some (Sum.inl x9)) ((zh { b with i:=q.1 } (decide ((IntKind.i64.wrap ((BitVec.ofInt IntKind.i64.bits (Int.fdiv q.2 (2 ^ (min (Int.toNat x2) IntKind.i64.bits))) &&& BitVec.ofInt IntKind.i64.bits 1).toNat:Int))=0)) 5).bind fun _=>some (Sum.inr ()))))).bind (xB (fun q=>some (Sum.inl q)) fun _=>(orC (vd { b with i:=q.1 } zj) (fun x11=>some (Sum.inl x11)) ((yX { b with i:=q.1 } zj).bind fun x12=>(grd (0≤x12.1)).bind fun _=>oW b K (x12.2,(IntKind.i64.wrap ((BitVec.ofInt IntKind.i64.bits q.2 ||| BitVec.ofInt IntKind.i64.bits (w64 (1*2 ^ (min (Int.toNat x12.1) IntKind.i64.bits)))).toNat:Int)))))))
def zhe(b:BB):Option (Int×Int) :=
 (oW { b with i:=0 } KK (b.i,0)).bind (xB some fun _=>none)
def Vf(b:BB):Option (Int×Int) :=
 (orC (Ve b) (fun x1=>some x1) ((HX b).bind fun x2=>((zD { b with i:=x2.2.1,n3:=x2.2.2 } zDt).bind fun x4=>(bif x4.1 then(orC (AT { b with i:=x4.2,n3:=x2.2.2 }) (fun x5=>some (Sum.inl x5)) ((qt { b with i:=x4.2,n3:=x2.2.2 }).bind fun x6=>some (Sum.inr (x6.2,x6.1))))else some (Sum.inr (x4.2,[])))).bind (xB some fun x3=>((zD { b with i:=x3.1,n3:=x2.2.2 } qm).bind fun x8=>(bif x8.1 then(orC (AT { b with i:=x8.2,n3:=x2.2.2 }) (fun x9=>some (Sum.inl x9)) ((qt { b with i:=x8.2,n3:=x2.2.2 }).bind fun x10=>some (Sum.inr (x10.2,x10.1))))else some (Sum.inr (x8.2,[])))).bind (xB some fun x7=>((zD { b with i:=x7.1,n3:=x2.2.2 } Q7).bind fun x12=>(bif x12.1 then(orC (zB { b with i:=x12.2,n3:=x2.2.2 } 0 1073741824) (fun x13=>some (Sum.inl x13)) ((zk { b with i:=x12.2,n3:=x2.2.2 } 0 1073741824).bind fun x14=>some (Sum.inr (x14.2,x14.1))))else some (Sum.inr (x12.2,0)))).bind (xB some fun x11=>((zD { b with i:=x11.1,n3:=x2.2.2 } AF).bind fun x16=>(bif x16.1 then(orC (zB { b with i:=x16.2,n3:=x2.2.2 } (w64 (x11.2+1)) 1073741824) (fun x17=>some (Sum.inl x17)) ((zk { b with i:=x16.2,n3:=x2.2.2 } (w64 (x11.2+1)) 1073741824).bind fun x18=>some (Sum.inr (x18.2,x18.1))))else some (Sum.inr (x16.2,0)))).bind (xB some fun x15=>((zD { b with i:=x15.1,n3:=x2.2.2 } AB).bind fun x20=>(bif x20.1 then(orC (zB { b with i:=x20.2,n3:=x2.2.2 } 0 1073741824) (fun x21=>some (Sum.inl x21)) ((zk { b with i:=x20.2,n3:=x2.2.2 } 0 1073741824).bind fun x22=>some (Sum.inr (x22.2,x22.1))))else some (Sum.inr (x20.2,0)))).bind (xB some fun x19=>(zD { b with i:=x19.1,n3:=x2.2.2 } kP).bind fun x23=>(orC (yc { b with i:=x23.2,n3:=x2.2.2 } uK) (fun x24=>some x24) ((zw { b with i:=x23.2,n3:=x2.2.2 } uK).bind fun x25=>((zD { b with i:=x25,n3:=x2.2.2 } AD).bind fun x27=>(bif x27.1 then(orC (zB { b with i:=x27.2,n3:=x2.2.2 } 0 3) (fun x28=>some (Sum.inl x28)) ((zk { b with i:=x27.2,n3:=x2.2.2 } 0 3).bind fun x29=>(orC (yc { b with i:=x29.2,n3:=x2.2.2 } Ke) (fun x30=>some (Sum.inl x30)) ((zw { b with i:=x29.2,n3:=x2.2.2 } Ke).bind fun x31=>(orC (zB { b with i:=x31,n3:=x2.2.2 } 0 4096) (fun x32=>some (Sum.inl x32)) ((zk { b with i:=x31,n3:=x2.2.2 } 0 4096).bind fun x33=>(orC (yc { b with i:=x33.2,n3:=x2.2.2 } oy) (fun x34=>some (Sum.inl x34)) ((zw { b with i:=x33.2,n3:=x2.2.2 } oy).bind fun x35=>(orC (zB { b with i:=x35,n3:=x2.2.2 } 0 4096) (fun x36=>some (Sum.inl x36)) ((zk { b with i:=x35,n3:=x2.2.2 } 0 4096).bind fun x37=>(orC (zB { b with i:=x37.2,n3:=x2.2.2 } 1 4096) (fun x38=>some (Sum.inl x38)) ((zk { b with i:=x37.2,n3:=x2.2.2 } 1 4096).bind fun x39=>(orC (yc { b with i:=x39.2,n3:=x2.2.2 } yi) (fun x40=>some (Sum.inl x40)) ((zw { b with i:=x39.2,n3:=x2.2.2 } yi).bind fun x41=>some (Sum.inr (x41,1,0,0,([]:Bs8),([]:Bs8),[],x29.1,x33.1,x37.1,x39.1,0,0,0))))))))))))))))else(zD { b with i:=x27.2,n3:=x2.2.2 } Q8).bind fun x42=>(bif x42.1 then(orC (zhe { b with i:=x42.2,n3:=x2.2.2 }) (fun x43=>some (Sum.inl x43)) ((zar { b with i:=x42.2,n3:=x2.2.2 }).bind fun x44=>(orC (yc { b with i:=x44.2,n3:=x2.2.2 } yi) (fun x45=>some (Sum.inl x45)) ((zw { b with i:=x44.2,n3:=x2.2.2 } yi).bind fun x46=>some (Sum.inr (x46,2,0,0,([]:Bs8),([]:Bs8),[],0,0,0,0,x44.1,0,0))))))else(zD { b with i:=x42.2,n3:=x2.2.2 } AA).bind fun x47=>(bif x47.1 then(orC (vd { b with i:=x47.2,n3:=x2.2.2 } zj) (fun x48=>some (Sum.inl x48)) ((yX { b with i:=x47.2,n3:=x2.2.2 } zj).bind fun x49=>(orC (vd { b with i:=x49.2,n3:=x2.2.2 } zj) (fun x50=>some (Sum.inl x50)) ((yX { b with i:=x49.2,n3:=x2.2.2 } zj).bind fun x51=>(orC (zB { b with i:=x51.2,n3:=x2.2.2 } 0 1048576) (fun x52=>some (Sum.inl x52)) ((zk { b with i:=x51.2,n3:=x2.2.2 } 0 1048576).bind fun x53=>(orC (yc { b with i:=x53.2,n3:=x2.2.2 } yi) (fun x54=>some (Sum.inl x54)) ((zw { b with i:=x53.2,n3:=x2.2.2 } yi).bind fun x55=>some (Sum.inr (x55,3,0,0,([]:Bs8),([]:Bs8),[],0,0,0,0,x49.1,x51.1,x53.1))))))))))else(orC (yY KK { b with i:=x47.2,n3:=x2.2.2 } 0) (fun x56=>some (Sum.inl x56)) ((z6 KK { b with i:=x47.2,n3:=x2.2.2 } 0).bind fun x57=>(va KK (Expr.mk x57.2.1 x57.2.2.1 x57.2.2.2.1 x57.2.2.2.2.1 x57.2.2.2.2.2)).bind fun x58=>(orC (AP { b with i:=x57.1,n3:=x2.2.2 } (decide (x58≤12)) 6) (fun x59=>some (Sum.inl x59)) ((vN { b with i:=x57.1,n3:=x2.2.2 } (decide (x58≤12)) 6).bind fun x60=>some (Sum.inr (x60,0,x57.2.1,x57.2.2.1,x57.2.2.2.1,x57.2.2.2.2.1,x57.2.2.2.2.2,0,0,0,0,0,0,0)))))))))).bind (xB some fun x26=>(grd (List.length (b.R++([(zX.mk x2.1 x3.2 x7.2 x11.2 x15.2 x19.2 x23.1 x26.2.1 (Expr.mk x26.2.2.1 x26.2.2.2.1 x26.2.2.2.2.1 x26.2.2.2.2.2.1 x26.2.2.2.2.2.2.1) (zE.mk x26.2.2.2.2.2.2.2.1 x26.2.2.2.2.2.2.2.2.1 x26.2.2.2.2.2.2.2.2.2.1 x26.2.2.2.2.2.2.2.2.2.2.1) x26.2.2.2.2.2.2.2.2.2.2.2.1 x26.2.2.2.2.2.2.2.2.2.2.2.2.1 x26.2.2.2.2.2.2.2.2.2.2.2.2.2)]:List zX))*232≤140737488355328)).bind fun _=>none))))))))))
def AU(b:BB):Option (Int×Int) :=
 (zJ b).bind fun x1=>(orC (zr b x1 14) (fun x2=>some x2) ((zh b x1 14).bind fun _=>(zn b).bind fun x4=>(Al b.n4).bind fun x5=>(orC (zr { b with n4:=[x5] } (!((xz x4.2.1 x5).getD false)) 5) (fun x6=>some x6) ((zh { b with n4:=[x5] } (!((xz x4.2.1 x5).getD false)) 5).bind fun _=>(zn { b with n4:=[x5] }).bind fun x8=>(Al [x5]).bind fun x9=>(orC (yH { b with n4:=[uP x8.2.1 true x9] }) (fun x10=>some x10) ((zL { b with n4:=[uP x8.2.1 true x9] }).bind fun _=>none))))))
def H0(b:BB):Option (Int×Int) :=
 ((bif (List.isEmpty b.n4)then some ([([]:List (Bs8×Bool))]:List Mb8)else some b.n4)).bind fun x1=>(orC (AU { b with n4:=x1 }) (fun x2=>some x2) ((uj { b with n4:=x1 }).bind fun _=>none))
def AV(b:BB):Option (Int×Int) :=
 (zJ b).bind fun x1=>(orC (zr b x1 14) (fun x2=>some x2) ((zh b x1 14).bind fun _=>(zn b).bind fun x4=>(Al b.n5).bind fun x5=>(orC (zr { b with n5:=[x5] } (!((xz x4.2.1 x5).getD false)) 5) (fun x6=>some x6) ((zh { b with n5:=[x5] } (!((xz x4.2.1 x5).getD false)) 5).bind fun _=>(zn { b with n5:=[x5] }).bind fun x8=>(Al [x5]).bind fun x9=>(orC (yH { b with n5:=[uP x8.2.1 true x9] }) (fun x10=>some x10) ((zL { b with n5:=[uP x8.2.1 true x9] }).bind fun _=>none))))))
def Vg(b:BB):Option (Int×Int) :=
 ((bif (List.isEmpty b.n5)then some ([([]:List (Bs8×Bool))]:List Mb8)else some b.n5)).bind fun x1=>(orC (AV { b with n5:=x1 }) (fun x2=>some x2) ((um { b with n5:=x1 }).bind fun _=>none))
def oX(b:BB):Option (Int×Int) :=
 (orC (zB b 0 1048576) (fun x1=>some x1) ((zk b 0 1048576).bind fun x2=>(orC (zB { b with i:=x2.2 } 0 1048576) (fun x3=>some x3) ((zk { b with i:=x2.2 } 0 1048576).bind fun x4=>(orC (zB { b with i:=x4.2 } 0 4096) (fun x5=>some x5) ((zk { b with i:=x4.2 } 0 4096).bind fun _=>none))))))
def ur(b:BB)(c15:(List Mb8))(c16:Bs8)(c17:Int)(c18:Int)(c19:Int)(c20:Int):Nat→(Int×(List zf))→Option ((Int×Int)⊕(Int×(List zf)))
 |0,_=>none
 |K+1,q=>(yb { b with i:=q.1,n5:=c15 }).bind fun x1=>(bif x1 then(orC (zr { b with i:=q.1,n5:=c15 } (decide ((((List.length q.2):Nat):Int)<20)) 6) (fun x2=>some (Sum.inl x2)) ((zh { b with i:=q.1,n5:=c15 } (decide ((((List.length q.2):Nat):Int)<20)) 6).bind fun _=>(orC (oX { b with i:=q.1,n5:=c15 }) (fun x4=>some (Sum.inl x4)) ((jA { b with i:=q.1,n5:=c15 }).bind fun x5=>(grd (List.length (q.2++([(zf.mk x5.2.1 x5.2.2.1 x5.2.2.2)]:List zf))*24≤140737488355328)).bind fun _=>ur b c15 c16 c17 c18 c19 c20 K (x5.1,(q.2++([(zf.mk x5.2.1 x5.2.2.1 x5.2.2.2)]:List zf)))))))else some (Sum.inr (q.1,q.2)))
def Vh(b:BB):Option (Int×Int) :=
 (orC (Vg b) (fun x1=>some x1) ((HY b).bind fun x2=>(orC (oX { b with i:=x2.2.1,n5:=x2.2.2 }) (fun x3=>some x3) ((jA { b with i:=x2.2.1,n5:=x2.2.2 }).bind fun x4=>(orC (yc { b with i:=x4.1,n5:=x2.2.2 } ow) (fun x5=>some x5) ((zw { b with i:=x4.1,n5:=x2.2.2 } ow).bind fun x6=>(orC (zB { b with i:=x6,n5:=x2.2.2 } 0 20) (fun x7=>some x7) ((zk { b with i:=x6,n5:=x2.2.2 } 0 20).bind fun x8=>(orC (yc { b with i:=x8.2,n5:=x2.2.2 } uK) (fun x9=>some x9) ((zw { b with i:=x8.2,n5:=x2.2.2 } uK).bind fun x10=>(orC (oX { b with i:=x10,n5:=x2.2.2 }) (fun x11=>some x11) ((jA { b with i:=x10,n5:=x2.2.2 }).bind fun x12=>(grd (List.length (([]:List zf)++([(zf.mk x12.2.1 x12.2.2.1 x12.2.2.2)]:List zf))*24≤140737488355328)).bind fun _=>(ur { b with i:=0,n5:=[] } x2.2.2 x2.1 x4.2.1 x4.2.2.1 x4.2.2.2 x8.1 KK (x12.1,(([]:List zf)++([(zf.mk x12.2.1 x12.2.2.1 x12.2.2.2)]:List zf)))).bind (xB some fun x14=>(orC (yc { b with i:=x14.1,n5:=x2.2.2 } yi) (fun x15=>some x15) ((zw { b with i:=x14.1,n5:=x2.2.2 } yi).bind fun _=>(grd (List.length (b.V++([(View.mk x2.1 (zf.mk x4.2.1 x4.2.2.1 x4.2.2.2) x8.1 x14.2)]:List View))*72≤140737488355328)).bind fun _=>none)))))))))))))))
def qN(b:BB):Nat→(Int×(List zf)×Bool)→Option ((Int×Int)⊕(Int×(List zf)))
 |0,_=>none
 |K+1,q=>(bif q.2.2 then((wD { b with i:=q.1,S:=q.2.1 } yT).bind fun x2=>(bif x2 then(orC (zr { b with i:=q.1,S:=q.2.1 } true 14) (fun x3=>some (Sum.inl x3)) ((zh { b with i:=q.1,S:=q.2.1 } true 14).bind fun _=>some (Sum.inr ())))else(yb { b with i:=q.1,S:=q.2.1 }).bind fun x5=>(orC (zr { b with i:=q.1,S:=q.2.1 } x5 14) (fun x6=>some (Sum.inl x6)) ((zh { b with i:=q.1,S:=q.2.1 } x5 14).bind fun _=>some (Sum.inr ()))))).bind (xB (fun q=>some (Sum.inl q)) fun _=>(orC (zr { b with i:=q.1,S:=q.2.1 } (decide ((((List.length q.2.1):Nat):Int)<24)) 6) (fun x8=>some (Sum.inl x8)) ((zh { b with i:=q.1,S:=q.2.1 } (decide ((((List.length q.2.1):Nat):Int)<24)) 6).bind fun _=>(orC (j5 { b with i:=q.1,S:=q.2.1 } 4096) (fun x10=>some (Sum.inl x10)) ((xQ { b with i:=q.1,S:=q.2.1 } 4096).bind fun x11=>(orC (j5 { b with i:=x11.2,S:=q.2.1 } 4096) (fun x12=>some (Sum.inl x12)) ((xQ { b with i:=x11.2,S:=q.2.1 } 4096).bind fun x13=>(orC (zB { b with i:=x13.2,S:=q.2.1 } 1 4096) (fun x14=>some (Sum.inl x14)) ((zk { b with i:=x13.2,S:=q.2.1 } 1 4096).bind fun x15=>(grd (List.length (q.2.1++([(zf.mk x11.1 x13.1 x15.1)]:List zf))*24≤140737488355328)).bind fun _=>(zD { b with i:=x15.2,S:=(q.2.1++([(zf.mk x11.1 x13.1 x15.1)]:List zf)) } KB).bind fun x17=>qN b K (x17.2,(q.2.1++([(zf.mk x11.1 x13.1 x15.1)]:List zf)),x17.1))))))))))else some (Sum.inr (q.1,q.2.1)))
def zas(b:BB):Option (Int×Int) :=
 (qN { b with i:=0,S:=[] } KK (b.i,b.S,true)).bind (xB some fun x1=>(orC (yc { b with i:=x1.1,S:=x1.2 } yi) (fun x2=>some x2) ((zw { b with i:=x1.1,S:=x1.2 } yi).bind fun _=>none)))
def za(b:BB)(q:Int×Int×Bool×(List Def)×(List Table)×(List yl)×(List zX)×(List Cap)×(List View)×(List zf)×(List Mb8)×(List Mb8)×(List Mb8)×(List Mb8)×(List Mb8)×(List Mb8)):BB:={ b with i:=q.1,H:=q.2.1,h:=q.2.2.1,D:=q.2.2.2.1,T:=q.2.2.2.2.1,Z:=q.2.2.2.2.2.1,R:=q.2.2.2.2.2.2.1,C:=q.2.2.2.2.2.2.2.1,V:=q.2.2.2.2.2.2.2.2.1,S:=q.2.2.2.2.2.2.2.2.2.1,n0:=q.2.2.2.2.2.2.2.2.2.2.1,n1:=q.2.2.2.2.2.2.2.2.2.2.2.1,n2:=q.2.2.2.2.2.2.2.2.2.2.2.2.1,n3:=q.2.2.2.2.2.2.2.2.2.2.2.2.2.1,n4:=q.2.2.2.2.2.2.2.2.2.2.2.2.2.2.1,n5:=q.2.2.2.2.2.2.2.2.2.2.2.2.2.2.2 }
def yf(b:BB):Nat→(Int×Int×Bool×(List Def)×(List Table)×(List yl)×(List zX)×(List Cap)×(List View)×(List zf)×(List Mb8)×(List Mb8)×(List Mb8)×(List Mb8)×(List Mb8)×(List Mb8))→Option ((Int×Int)⊕(Int×Int×Bool×(List Def)×(List Table)×(List yl)×(List zX)×(List Cap)×(List View)×(List zf)×(List Mb8)×(List Mb8)×(List Mb8)×(List Mb8)×(List Mb8)×(List Mb8)))
 |0,_=>none
 |K+1,q=>(zn { (za b q)with l:=b.l }).bind fun x1=>(bif (!(decide (x1.1=3)))then(zn { (za b q)with l:=b.l }).bind fun x2=>(bif (decide (x2.2.1=ql))then(orC (vc { (za b q)with l:=b.l } (((List.length ((za b q).D)):Nat):Int) 60) (fun x3=>some (Sum.inl x3)) ((yC { (za b q)with l:=b.l } (((List.length ((za b q).D)):Nat):Int) 60).bind fun x4=>(orC (JK { (za b q)with l:=b.l,i:=x4 }) (fun x5=>some (Sum.inl x5)) ((oT { (za b q)with l:=b.l,i:=x4 }).bind fun x6=>yf b K (x6.1,(za b q).H,(za b q).h,x6.2.1,(za b q).T,(za b q).Z,(za b q).R,(za b q).C,(za b q).V,(za b q).S,x6.2.2,(za b q).n1,(za b q).n2,(za b q).n3,(za b q).n4,(za b q).n5)))))else(bif (decide (x2.2.1=xG))then(orC (vc { (za b q)with l:=b.l } (((List.length ((za b q).T)):Nat):Int) 60) (fun x7=>some (Sum.inl x7)) ((yC { (za b q)with l:=b.l } (((List.length ((za b q).T)):Nat):Int) 60).bind fun x8=>(orC (Vd { (za b q)with l:=b.l,i:=x8 }) (fun x9=>some (Sum.inl x9)) ((HW { (za b q)with l:=b.l,i:=x8 }).bind fun x10=>yf b K (x10.1,(za b q).H,(za b q).h,(za b q).D,x10.2.1,(za b q).Z,(za b q).R,(za b q).C,(za b q).V,(za b q).S,(za b q).n0,x10.2.2,(za b q).n2,(za b q).n3,(za b q).n4,(za b q).n5)))))else(bif (decide (x2.2.1=wH))then(bif (decide (x2.2.1=wH))then(wD { (za b q)with l:=b.l } xf).bind fun x11=>(orC (vc { (za b q)with l:=b.l } (((List.length ((za b q).Z)):Nat):Int) 60) (fun x12=>some (Sum.inl x12)) ((yC { (za b q)with l:=b.l } (((List.length ((za b q).Z)):Nat):Int) 60).bind fun x13=>(orC (HZ { (za b q)with l:=b.l,i:=x13 }) (fun x14=>some (Sum.inl x14)) ((ug { (za b q)with l:=b.l,i:=x13 }).bind fun x15=>(orC (j6 { (za b q)with l:=b.l,i:=x15.2.1,n2:=x15.2.2 }) (fun x16=>some (Sum.inl x16)) ((xR { (za b q)with l:=b.l,i:=x15.2.1,n2:=x15.2.2 }).bind fun x17=>(vb x17.1).bind fun x18=>(orC (AP { (za b q)with l:=b.l,i:=x17.2,n2:=x15.2.2 } x18 10) (fun x19=>some (Sum.inl x19)) ((vN { (za b q)with l:=b.l,i:=x17.2,n2:=x15.2.2 } x18 10).bind fun x20=>(grd (List.length ((za b q).Z++([(yl.mk x15.1 x11 x17.1)]:List yl))*48≤140737488355328)).bind fun _=>yf b K (x20,(za b q).H,(za b q).h,(za b q).D,(za b q).T,((za b q).Z++([(yl.mk x15.1 x11 x17.1)]:List yl)),(za b q).R,(za b q).C,(za b q).V,(za b q).S,(za b q).n0,(za b q).n1,x15.2.2,(za b q).n3,(za b q).n4,(za b q).n5)))))))))else(bif (decide (x2.2.1=Hs))then(orC (vc { (za b q)with l:=b.l } (((List.length ((za b q).R)):Nat):Int) 200) (fun x22=>some (Sum.inl x22)) ((yC { (za b q)with l:=b.l } (((List.length ((za b q).R)):Nat):Int) 200).bind fun x23=>(orC (Vf { (za b q)with l:=b.l,i:=x23 }) (fun x24=>some (Sum.inl x24)) ((AN { (za b q)with l:=b.l,i:=x23 }).bind fun x25=>yf b K (x25.1,(za b q).H,(za b q).h,(za b q).D,(za b q).T,(za b q).Z,x25.2.1,(za b q).C,(za b q).V,(za b q).S,(za b q).n0,(za b q).n1,(za b q).n2,x25.2.2,(za b q).n4,(za b q).n5)))))else(bif (decide (x2.2.1=zag))then(orC (vc { (za b q)with l:=b.l } (((List.length ((za b q).C)):Nat):Int) 30) (fun x26=>some (Sum.inl x26)) ((yC { (za b q)with l:=b.l } (((List.length ((za b q).C)):Nat):Int) 30).bind fun x27=>(orC (H0 { (za b q)with l:=b.l,i:=x27 }) (fun x28=>some (Sum.inl x28)) ((uk { (za b q)with l:=b.l,i:=x27 }).bind fun x29=>(orC (vd { (za b q)with l:=b.l,i:=x29.2.1,n4:=x29.2.2 } zY) (fun x30=>some (Sum.inl x30)) ((yX { (za b q)with l:=b.l,i:=x29.2.1,n4:=x29.2.2 } zY).bind fun x31=>(orC (zB { (za b q)with l:=b.l,i:=x31.2,n4:=x29.2.2 } 0 1099511627776) (fun x32=>some (Sum.inl x32)) ((zk { (za b q)with l:=b.l,i:=x31.2,n4:=x29.2.2 } 0 1099511627776).bind fun x33=>(orC (j6 { (za b q)with l:=b.l,i:=x33.2,n4:=x29.2.2 }) (fun x34=>some (Sum.inl x34)) ((xR { (za b q)with l:=b.l,i:=x33.2,n4:=x29.2.2 }).bind fun x35=>(vb x35.1).bind fun x36=>(orC (AP { (za b q)with l:=b.l,i:=x35.2,n4:=x29.2.2 } x36 10) (fun x37=>some (Sum.inl x37)) ((vN { (za b q)with l:=b.l,i:=x35.2,n4:=x29.2.2 } x36 10).bind fun x38=>(grd (List.length ((za b q).C++([(Cap.mk x29.1 x31.1 x33.1 x35.1)]:List Cap))*56≤140737488355328)).bind fun _=>yf b K (x38,(za b q).H,(za b q).h,(za b q).D,(za b q).T,(za b q).Z,(za b q).R,((za b q).C++([(Cap.mk x29.1 x31.1 x33.1 x35.1)]:List Cap)),(za b q).V,(za b q).S,(za b q).n0,(za b q).n1,(za b q).n2,(za b q).n3,x29.2.2,(za b q).n5)))))))))))))else(bif (decide (x2.2.1=HQ))then(orC (vc { (za b q)with l:=b.l } (((List.length ((za b q).V)):Nat):Int) 60) (fun x40=>some (Sum.inl x40)) ((yC { (za b q)with l:=b.l } (((List.length ((za b q).V)):Nat):Int) 60).bind fun x41=>(orC (Vh { (za b q)with l:=b.l,i:=x41 }) (fun x42=>some (Sum.inl x42)) ((AO { (za b q)with l:=b.l,i:=x41 }).bind fun x43=>yf b K (x43.1,(za b q).H,(za b q).h,(za b q).D,(za b q).T,(za b q).Z,(za b q).R,(za b q).C,x43.2.1,(za b q).S,(za b q).n0,(za b q).n1,(za b q).n2,(za b q).n3,(za b q).n4,x43.2.2)))))else(bif (decide (x2.2.1=Wf))then(orC (zr { (za b q)with l:=b.l } (decide (((List.length ((za b q).S)):Nat)=0)) 5) (fun x44=>some (Sum.inl x44)) ((zh { (za b q)with l:=b.l } (decide (((List.length ((za b q).S)):Nat)=0)) 5).bind fun _=>(orC (zas { (za b q)with l:=b.l,i:=(w64 ((za b q).i+1)) }) (fun x46=>some (Sum.inl x46)) ((KH { (za b q)with l:=b.l,i:=(w64 ((za b q).i+1)) }).bind fun x47=>yf b K (x47.1,(za b q).H,(za b q).h,(za b q).D,(za b q).T,(za b q).Z,(za b q).R,(za b q).C,(za b q).V,x47.2,(za b q).n0,(za b q).n1,(za b q).n2,(za b q).n3,(za b q).n4,(za b q).n5)))))else(bif (decide (x2.2.1=jW))then(orC (zr { (za b q)with l:=b.l } (!(za b q).h) 5) (fun x48=>some (Sum.inl x48)) ((zh { (za b q)with l:=b.l } (!(za b q).h) 5).bind fun _=>(orC (zB { (za b q)with l:=b.l,i:=(w64 ((za b q).i+1)) } 0 24) (fun x50=>some (Sum.inl x50)) ((zk { (za b q)with l:=b.l,i:=(w64 ((za b q).i+1)) } 0 24).bind fun x51=>(orC (yc { (za b q)with l:=b.l,i:=x51.2,H:=x51.1,h:=true } yi) (fun x52=>some (Sum.inl x52)) ((zw { (za b q)with l:=b.l,i:=x51.2,H:=x51.1,h:=true } yi).bind fun x53=>yf b K (x53,x51.1,true,(za b q).D,(za b q).T,(za b q).Z,(za b q).R,(za b q).C,(za b q).V,(za b q).S,(za b q).n0,(za b q).n1,(za b q).n2,(za b q).n3,(za b q).n4,(za b q).n5)))))))else(orC (oV { (za b q)with l:=b.l } 14) (fun x54=>some (Sum.inl x54)) none)))))))else(bif (decide (x2.2.1=xf))then(wD { (za b q)with l:=b.l } xf).bind fun x55=>(orC (vc { (za b q)with l:=b.l } (((List.length ((za b q).Z)):Nat):Int) 60) (fun x56=>some (Sum.inl x56)) ((yC { (za b q)with l:=b.l } (((List.length ((za b q).Z)):Nat):Int) 60).bind fun x57=>(orC (HZ { (za b q)with l:=b.l,i:=x57 }) (fun x58=>some (Sum.inl x58)) ((ug { (za b q)with l:=b.l,i:=x57 }).bind fun x59=>(orC (j6 { (za b q)with l:=b.l,i:=x59.2.1,n2:=x59.2.2 }) (fun x60=>some (Sum.inl x60)) ((xR { (za b q)with l:=b.l,i:=x59.2.1,n2:=x59.2.2 }).bind fun x61=>(vb x61.1).bind fun x62=>(orC (AP { (za b q)with l:=b.l,i:=x61.2,n2:=x59.2.2 } x62 10) (fun x63=>some (Sum.inl x63)) ((vN { (za b q)with l:=b.l,i:=x61.2,n2:=x59.2.2 } x62 10).bind fun x64=>(grd (List.length ((za b q).Z++([(yl.mk x59.1 x55 x61.1)]:List yl))*48≤140737488355328)).bind fun _=>yf b K (x64,(za b q).H,(za b q).h,(za b q).D,(za b q).T,((za b q).Z++([(yl.mk x59.1 x55 x61.1)]:List yl)),(za b q).R,(za b q).C,(za b q).V,(za b q).S,(za b q).n0,(za b q).n1,x59.2.2,(za b q).n3,(za b q).n4,(za b q).n5)))))))))else(bif (decide (x2.2.1=Hs))then(orC (vc { (za b q)with l:=b.l } (((List.length ((za b q).R)):Nat):Int) 200) (fun x66=>some (Sum.inl x66)) ((yC { (za b q)with l:=b.l } (((List.length ((za b q).R)):Nat):Int) 200).bind fun x67=>(orC (Vf { (za b q)with l:=b.l,i:=x67 }) (fun x68=>some (Sum.inl x68)) ((AN { (za b q)with l:=b.l,i:=x67 }).bind fun x69=>yf b K (x69.1,(za b q).H,(za b q).h,(za b q).D,(za b q).T,(za b q).Z,x69.2.1,(za b q).C,(za b q).V,(za b q).S,(za b q).n0,(za b q).n1,(za b q).n2,x69.2.2,(za b q).n4,(za b q).n5)))))else(bif (decide (x2.2.1=zag))then(orC (vc { (za b q)with l:=b.l } (((List.length ((za b q).C)):Nat):Int) 30) (fun x70=>some (Sum.inl x70)) ((yC { (za b q)with l:=b.l } (((List.length ((za b q).C)):Nat):Int) 30).bind fun x71=>(orC (H0 { (za b q)with l:=b.l,i:=x71 }) (fun x72=>some (Sum.inl x72)) ((uk { (za b q)with l:=b.l,i:=x71 }).bind fun x73=>(orC (vd { (za b q)with l:=b.l,i:=x73.2.1,n4:=x73.2.2 } zY) (fun x74=>some (Sum.inl x74)) ((yX { (za b q)with l:=b.l,i:=x73.2.1,n4:=x73.2.2 } zY).bind fun x75=>(orC (zB { (za b q)with l:=b.l,i:=x75.2,n4:=x73.2.2 } 0 1099511627776) (fun x76=>some (Sum.inl x76)) ((zk { (za b q)with l:=b.l,i:=x75.2,n4:=x73.2.2 } 0 1099511627776).bind fun x77=>(orC (j6 { (za b q)with l:=b.l,i:=x77.2,n4:=x73.2.2 }) (fun x78=>some (Sum.inl x78)) ((xR { (za b q)with l:=b.l,i:=x77.2,n4:=x73.2.2 }).bind fun x79=>(vb x79.1).bind fun x80=>(orC (AP { (za b q)with l:=b.l,i:=x79.2,n4:=x73.2.2 } x80 10) (fun x81=>some (Sum.inl x81)) ((vN { (za b q)with l:=b.l,i:=x79.2,n4:=x73.2.2 } x80 10).bind fun x82=>(grd (List.length ((za b q).C++([(Cap.mk x73.1 x75.1 x77.1 x79.1)]:List Cap))*56≤140737488355328)).bind fun _=>yf b K (x82,(za b q).H,(za b q).h,(za b q).D,(za b q).T,(za b q).Z,(za b q).R,((za b q).C++([(Cap.mk x73.1 x75.1 x77.1 x79.1)]:List Cap)),(za b q).V,(za b q).S,(za b q).n0,(za b q).n1,(za b q).n2,(za b q).n3,x73.2.2,(za b q).n5)))))))))))))else(bif (decide (x2.2.1=HQ))then(orC (vc { (za b q)with l:=b.l } (((List.length ((za b q).V)):Nat):Int) 60) (fun x84=>some (Sum.inl x84)) ((yC { (za b q)with l:=b.l } (((List.length ((za b q).V)):Nat):Int) 60).bind fun x85=>(orC (Vh { (za b q)with l:=b.l,i:=x85 }) (fun x86=>some (Sum.inl x86)) ((AO { (za b q)with l:=b.l,i:=x85 }).bind fun x87=>yf b K (x87.1,(za b q).H,(za b q).h,(za b q).D,(za b q).T,(za b q).Z,(za b q).R,(za b q).C,x87.2.1,(za b q).S,(za b q).n0,(za b q).n1,(za b q).n2,(za b q).n3,(za b q).n4,x87.2.2)))))else(bif (decide (x2.2.1=Wf))then(orC (zr { (za b q)with l:=b.l } (decide (((List.length ((za b q).S)):Nat)=0)) 5) (fun x88=>some (Sum.inl x88)) ((zh { (za b q)with l:=b.l } (decide (((List.length ((za b q).S)):Nat)=0)) 5).bind fun _=>(orC (zas { (za b q)with l:=b.l,i:=(w64 ((za b q).i+1)) }) (fun x90=>some (Sum.inl x90)) ((KH { (za b q)with l:=b.l,i:=(w64 ((za b q).i+1)) }).bind fun x91=>yf b K (x91.1,(za b q).H,(za b q).h,(za b q).D,(za b q).T,(za b q).Z,(za b q).R,(za b q).C,(za b q).V,x91.2,(za b q).n0,(za b q).n1,(za b q).n2,(za b q).n3,(za b q).n4,(za b q).n5)))))else(bif (decide (x2.2.1=jW))then(orC (zr { (za b q)with l:=b.l } (!(za b q).h) 5) (fun x92=>some (Sum.inl x92)) ((zh { (za b q)with l:=b.l } (!(za b q).h) 5).bind fun _=>(orC (zB { (za b q)with l:=b.l,i:=(w64 ((za b q).i+1)) } 0 24) (fun x94=>some (Sum.inl x94)) ((zk { (za b q)with l:=b.l,i:=(w64 ((za b q).i+1)) } 0 24).bind fun x95=>(orC (yc { (za b q)with l:=b.l,i:=x95.2,H:=x95.1,h:=true } yi) (fun x96=>some (Sum.inl x96)) ((zw { (za b q)with l:=b.l,i:=x95.2,H:=x95.1,h:=true } yi).bind fun x97=>yf b K (x97,x95.1,true,(za b q).D,(za b q).T,(za b q).Z,(za b q).R,(za b q).C,(za b q).V,(za b q).S,(za b q).n0,(za b q).n1,(za b q).n2,(za b q).n3,(za b q).n4,(za b q).n5)))))))else(orC (oV { (za b q)with l:=b.l } 14) (fun x98=>some (Sum.inl x98)) none))))))))))else some (Sum.inr ((za b q).i,(za b q).H,(za b q).h,(za b q).D,(za b q).T,(za b q).Z,(za b q).R,(za b q).C,(za b q).V,(za b q).S,(za b q).n0,(za b q).n1,(za b q).n2,(za b q).n3,(za b q).n4,(za b q).n5)))
def zhf(b:BB):Option (Int×Int) :=
 (yf { b with i:=0,D:=[],T:=[],Z:=[],R:=[],C:=[],V:=[],S:=[],H:=0,n0:=[],n1:=[],n2:=[],n3:=[],n4:=[],n5:=[],h:=false } KK (b.i,b.H,b.h,b.D,b.T,b.Z,b.R,b.C,b.V,b.S,b.n0,b.n1,b.n2,b.n3,b.n4,b.n5)).bind (xB some fun x1=>none)
def H5(b:BB):Option (Int×Int×Int×Int×Bool×(List Def)×(List Table)×(List yl)×(List zX)×(List Cap)×(List View)×(List zf)×(List Mb8)×(List Mb8)×(List Mb8)×(List Mb8)×(List Mb8)×(List Mb8)):=(zhc b).bind fun q=>some ((0:Int),(0:Int),q)
def AW(b:BB):Option (Int×Int):=zhf b
def oA(s:Bs8):Option (Int×Int×(List zf)×Int×(List Def)×(List Table)×(List yl)×(List zX)×(List Cap)×(List View)) :=
 (zan s).bind fun x1=>(bif (!(decide (x1.2.2=0)))then some (x1.2.1,x1.2.2,[],0,([]:List Def),([]:List Table),([]:List yl),([]:List zX),([]:List Cap),([]:List View))else(orC (H5 (BB.mk x1.1 0 ([]:List Def) ([]:List Table) ([]:List yl) ([]:List zX) ([]:List Cap) ([]:List View) ([]:List zf) 0 ([]:List Mb8) ([]:List Mb8) ([]:List Mb8) ([]:List Mb8) ([]:List Mb8) ([]:List Mb8) false)) (fun x3=>(bif (!(decide (x3.2.1=0)))then some (x3.1,x3.2.1,[],0,([]:List Def),([]:List Table),([]:List yl),([]:List zX),([]:List Cap),([]:List View))else some (0,0,x3.2.2.2.2.2.2.2.2.2.2.2.1,x3.2.2.2.1,x3.2.2.2.2.2.1,x3.2.2.2.2.2.2.1,x3.2.2.2.2.2.2.2.1,x3.2.2.2.2.2.2.2.2.1,x3.2.2.2.2.2.2.2.2.2.1,x3.2.2.2.2.2.2.2.2.2.2.1))) (orC (AW (BB.mk x1.1 0 ([]:List Def) ([]:List Table) ([]:List yl) ([]:List zX) ([]:List Cap) ([]:List View) ([]:List zf) 0 ([]:List Mb8) ([]:List Mb8) ([]:List Mb8) ([]:List Mb8) ([]:List Mb8) ([]:List Mb8) false)) (fun x2=>(bif (!(decide (x2.2=0)))then some (x2.1,x2.2,[],0,([]:List Def),([]:List Table),([]:List yl),([]:List zX),([]:List Cap),([]:List View))else none)) none)))
def zkw(x_:Def):Option (Bs8) :=
 some x_.Name
def Wk(c0:Bool)(c1:List Bs8)(c2:Int):Nat→(Int×Mb8)→Option ((Bool)⊕(Unit))
 |0,_=>none
 |K+1,q=>(bif (decide (q.1<c2))then(idx c1 q.1).bind fun x1=>((HS x1).bind fun x3=>(bif (!x3)then some true else(bif c0 then some ((xz x1 q.2).getD false)else some false))).bind fun x2=>(bif x2 then some (Sum.inl false)else Wk c0 c1 c2 K ((w64 (q.1+1)),(uP x1 true q.2)))else some (Sum.inr ()))
def oB(l:List Bs8)(unique:Bool):Option (Bool) :=
 (Wk unique l (l.length:Int) KK (0,([]:List (Bs8×Bool)))).bind (xB some fun _=>some true)
def KI(c0:List Def)(c1:Int)(c2:Int):Nat→(Int×(List Bs8))→Option ((List Bs8))
 |0,_=>none
 |K+1,q=>(bif (decide (q.1<c2))then(idx c0 q.1).bind fun x1=>(zkw (Def.mk x1.Name (Expr.mk x1.Body.Op x1.Body.N x1.Body.S x1.Body.Key x1.Body.Args))).bind fun x2=>(grd (List.length (q.2++([x2]:List Bs8))*16≤140737488355328)).bind fun _=>KI c0 c1 c2 K ((w64 (q.1+1)),(q.2++([x2]:List Bs8)))else some q.2)
def zrg(l:List Def)(most:Int):Option (Bool) :=
 (KI l most (l.length:Int) KK (0,[])).bind fun x1=>(bif (decide ((l.length:Int)≤most))then(oB x1 true).bind fun x2=>some x2 else some false)
def zkx(x_:Table):Option (Bs8) :=
 some x_.Name
def AX(c0:List Table)(c1:Int)(c2:Int):Nat→(Int×(List Bs8))→Option ((List Bs8))
 |0,_=>none
 |K+1,q=>(bif (decide (q.1<c2))then(idx c0 q.1).bind fun x1=>(zkx x1).bind fun x2=>(grd (List.length (q.2++([x2]:List Bs8))*16≤140737488355328)).bind fun _=>AX c0 c1 c2 K ((w64 (q.1+1)),(q.2++([x2]:List Bs8)))else some q.2)
def zd8(l:List Table)(most:Int):Option (Bool) :=
 (AX l most (l.length:Int) KK (0,[])).bind fun x1=>(bif (decide ((l.length:Int)≤most))then(oB x1 true).bind fun x2=>some x2 else some false)
def zky(x_:yl):Option (Bs8) :=
 some x_.Name
def AY(c0:List yl)(c1:Int)(c2:Int):Nat→(Int×(List Bs8))→Option ((List Bs8))
 |0,_=>none
 |K+1,q=>(bif (decide (q.1<c2))then(idx c0 q.1).bind fun x1=>(zky x1).bind fun x2=>(grd (List.length (q.2++([x2]:List Bs8))*16≤140737488355328)).bind fun _=>AY c0 c1 c2 K ((w64 (q.1+1)),(q.2++([x2]:List Bs8)))else some q.2)
def zd9(l:List yl)(most:Int):Option (Bool) :=
 (AY l most (l.length:Int) KK (0,[])).bind fun x1=>(bif (decide ((l.length:Int)≤most))then(oB x1 true).bind fun x2=>some x2 else some false)
def zkz(x_:zX):Option (Bs8) :=
 some x_.Name
def AZ(c0:List zX)(c1:Int)(c2:Int):Nat→(Int×(List Bs8))→Option ((List Bs8))
 |0,_=>none
 |K+1,q=>(bif (decide (q.1<c2))then(idx c0 q.1).bind fun x1=>(zkz (zX.mk x1.Name x1.Zones x1.Except x1.From x1.Until x1.Grace x1.Vary x1.Kind (Expr.mk x1.Test.Op x1.Test.N x1.Test.S x1.Test.Key x1.Test.Args) x1.zE x1.Uses x1.Other x1.N)).bind fun x2=>(grd (List.length (q.2++([x2]:List Bs8))*16≤140737488355328)).bind fun _=>AZ c0 c1 c2 K ((w64 (q.1+1)),(q.2++([x2]:List Bs8)))else some q.2)
def zea(l:List zX)(most:Int):Option (Bool) :=
 (AZ l most (l.length:Int) KK (0,[])).bind fun x1=>(bif (decide ((l.length:Int)≤most))then(oB x1 true).bind fun x2=>some x2 else some false)
def zk0(x_:Cap):Option (Bs8) :=
 some x_.Name
def A0(c0:List Cap)(c1:Int)(c2:Int):Nat→(Int×(List Bs8))→Option ((List Bs8))
 |0,_=>none
 |K+1,q=>(bif (decide (q.1<c2))then(idx c0 q.1).bind fun x1=>(zk0 x1).bind fun x2=>(grd (List.length (q.2++([x2]:List Bs8))*16≤140737488355328)).bind fun _=>A0 c0 c1 c2 K ((w64 (q.1+1)),(q.2++([x2]:List Bs8)))else some q.2)
def zeb(l:List Cap)(most:Int):Option (Bool) :=
 (A0 l most (l.length:Int) KK (0,[])).bind fun x1=>(bif (decide ((l.length:Int)≤most))then(oB x1 true).bind fun x2=>some x2 else some false)
def zk1(x_:View):Option (Bs8) :=
 some x_.Name
def A1(c0:List View)(c1:Int)(c2:Int):Nat→(Int×(List Bs8))→Option ((List Bs8))
 |0,_=>none
 |K+1,q=>(bif (decide (q.1<c2))then(idx c0 q.1).bind fun x1=>(zk1 x1).bind fun x2=>(grd (List.length (q.2++([x2]:List Bs8))*16≤140737488355328)).bind fun _=>A1 c0 c1 c2 K ((w64 (q.1+1)),(q.2++([x2]:List Bs8)))else some q.2)
def zec(l:List View)(most:Int):Option (Bool) :=
 (A1 l most (l.length:Int) KK (0,[])).bind fun x1=>(bif (decide ((l.length:Int)≤most))then(oB x1 true).bind fun x2=>some x2 else some false)
def zk2(x_:Entry):Option (Bs8) :=
 some x_.Name
def A2(c0:List Entry)(c1:Int)(c2:Int):Nat→(Int×(List Bs8))→Option ((List Bs8))
 |0,_=>none
 |K+1,q=>(bif (decide (q.1<c2))then(idx c0 q.1).bind fun x1=>(zk2 x1).bind fun x2=>(grd (List.length (q.2++([x2]:List Bs8))*16≤140737488355328)).bind fun _=>A2 c0 c1 c2 K ((w64 (q.1+1)),(q.2++([x2]:List Bs8)))else some q.2)
def zed(l:List Entry)(most:Int):Option (Bool) :=
 (A2 l most (l.length:Int) KK (0,[])).bind fun x1=>(bif (decide ((l.length:Int)≤most))then(oB x1 true).bind fun x2=>some x2 else some false)
def KJ(c0:Int)(c1:Int)(c2:List Int)(c3:Int):Nat→(Int)→Option ((Bool)⊕(Unit))
 |0,_=>none
 |K+1,q=>(bif (decide (q<c3))then(idx c2 q).bind fun x1=>((bif (decide (x1<c0))then some true else some (decide (x1>c1)))).bind fun x2=>(bif x2 then some (Sum.inl false)else KJ c0 c1 c2 c3 K (w64 (q+1)))else some (Sum.inr ()))
def xh(from_:Int)(to_:Int)(l:List Int):Option (Bool) :=
 (KJ from_ to_ l (l.length:Int) KK 0).bind (xB some fun _=>some true)
def j7(c0:List Bs8)(c1:List Bs8)(c2:Int):Nat→(Int)→Option ((Bool)⊕(Unit))
 |0,_=>none
 |K+1,q=>(bif (decide (q<c2))then(idx c0 q).bind fun x1=>(idx c1 q).bind fun x2=>(bif (!(decide (x1=x2)))then some (Sum.inl false)else j7 c0 c1 c2 K (w64 (q+1)))else some (Sum.inr ()))
def oC(s1:List Bs8)(s2:List Bs8):Option (Bool) :=
 (bif (!(decide ((s1.length:Int)=(s2.length:Int))))then some false else(j7 s1 s2 (s1.length:Int) KK 0).bind (xB some fun _=>some true))
def wK(r_sameExpr:Expr→Expr→Option (Bool))(c0:List Expr)(c1:List Expr)(c2:Int):Nat→(Int)→Option ((Bool)⊕(Unit))
 |0,_=>none
 |K+1,q=>(bif (decide (q<c2))then(idx c1 q).bind fun x1=>(idx c0 q).bind fun x2=>(r_sameExpr (Expr.mk x1.Op x1.N x1.S x1.Key x1.Args) (Expr.mk x2.Op x2.N x2.S x2.Key x2.Args)).bind fun x3=>(bif (!x3)then some (Sum.inl false)else wK r_sameExpr c0 c1 c2 K (w64 (q+1)))else some (Sum.inr ()))
mutual
def uU:Nat→(List Expr)→(List Expr)→Option (Bool)
 |0,_,_=>none
 |RK+1,s1,s2=>(bif (!(decide ((s1.length:Int)=(s2.length:Int))))then some false else(wK (JL RK) s2 s1 (s1.length:Int) KK 0).bind (xB some fun _=>some true))
def JL:Nat→Expr→Expr→Option (Bool)
 |0,_,_=>none
 |RK+1,a,b=>(bif (decide (a.Op=b.Op))then(bif (decide (a.N=b.N))then(bif (decide (a.S=b.S))then(bif (decide (a.Key=b.Key))then(uU RK a.Args b.Args).bind fun x1=>some x1 else some false)else some false)else some false)else some false)
end
def zee(a:zX)(b:zX):Option (Bool) :=
 ((oC a.Zones b.Zones).bind fun x2=>(bif (!x2)then some true else(oC a.Except b.Except).bind fun x3=>(bif (!x3)then some true else(JL KK (Expr.mk a.Test.Op a.Test.N a.Test.S a.Test.Key a.Test.Args) (Expr.mk b.Test.Op b.Test.N b.Test.S b.Test.Key b.Test.Args)).bind fun x4=>some (!x4)))).bind fun x1=>(bif x1 then some false else((bif (decide (a.Name=b.Name))then(bif (decide (a.From=b.From))then(bif (decide (a.Until=b.Until))then(bif (decide (a.Grace=b.Grace))then some (a.Vary==b.Vary)else some false)else some false)else some false)else some false)).bind fun x5=>(bif x5 then(bif (decide (a.Kind=b.Kind))then(bif (decide (a.zE.Side=b.zE.Side)&&(decide (a.zE.Base=b.zE.Base)&&(decide (a.zE.Num=b.zE.Num)&&(decide (a.zE.Den=b.zE.Den)))))then(bif (decide (a.Uses=b.Uses))then(bif (decide (a.Other=b.Other))then some (decide (a.N=b.N))else some false)else some false)else some false)else some false)else some false))
def zat(r_:zX):Option (Bool) :=
 ((oB r_.Zones false).bind fun x2=>(bif (!x2)then some true else(oB r_.Except false).bind fun x3=>(bif (!x3)then some true else(xh 0 1073741824 ([r_.From,r_.Grace,r_.Until]:List Int)).bind fun x4=>(bif (!x4)then some true else(bif (!(decide (r_.Until=0)))then some (decide (r_.Until≤r_.From))else some false))))).bind fun x1=>(bif x1 then some false else((bif (decide (r_.Kind=0))then(AK (Expr.mk r_.Test.Op r_.Test.N r_.Test.S r_.Test.Key r_.Test.Args)).bind fun x6=>some (x6,r_.Test.Op,r_.Test.N,r_.Test.S,r_.Test.Key,r_.Test.Args,0,0,0,0,0,0,0)else(bif (decide (r_.Kind=1))then(xh 0 3 ([r_.zE.Side]:List Int)).bind fun x7=>(bif x7 then(xh 0 4096 ([r_.zE.Base,r_.zE.Num]:List Int)).bind fun x8=>(bif x8 then(xh 1 4096 ([r_.zE.Den]:List Int)).bind fun x9=>some (x9,0,0,([]:Bs8),([]:Bs8),[],r_.zE.Side,r_.zE.Base,r_.zE.Num,r_.zE.Den,0,0,0)else some (false,0,0,([]:Bs8),([]:Bs8),[],r_.zE.Side,r_.zE.Base,r_.zE.Num,r_.zE.Den,0,0,0))else some (false,0,0,([]:Bs8),([]:Bs8),[],r_.zE.Side,r_.zE.Base,r_.zE.Num,r_.zE.Den,0,0,0))else(bif (decide (r_.Kind=2))then(xh 1 63 ([r_.Uses]:List Int)).bind fun x10=>some (x10,0,0,([]:Bs8),([]:Bs8),[],0,0,0,0,r_.Uses,0,0)else(bif (decide (r_.Kind=3))then(xh 0 5 ([r_.Uses,r_.Other]:List Int)).bind fun x11=>(bif x11 then(xh 0 1048576 ([r_.N]:List Int)).bind fun x12=>some (x12,0,0,([]:Bs8),([]:Bs8),[],0,0,0,0,r_.Uses,r_.Other,r_.N)else some (false,0,0,([]:Bs8),([]:Bs8),[],0,0,0,0,r_.Uses,r_.Other,r_.N))else some (false,0,0,([]:Bs8),([]:Bs8),[],0,0,0,0,0,0,0)))))).bind fun x5=>(bif x5.1 then(zee (zX.mk r_.Name r_.Zones r_.Except r_.From r_.Until r_.Grace r_.Vary r_.Kind (Expr.mk r_.Test.Op r_.Test.N r_.Test.S r_.Test.Key r_.Test.Args) r_.zE r_.Uses r_.Other r_.N) (zX.mk r_.Name r_.Zones r_.Except r_.From r_.Until r_.Grace r_.Vary r_.Kind (Expr.mk x5.2.1 x5.2.2.1 x5.2.2.2.1 x5.2.2.2.2.1 x5.2.2.2.2.2.1) (zE.mk x5.2.2.2.2.2.2.1 x5.2.2.2.2.2.2.2.1 x5.2.2.2.2.2.2.2.2.1 x5.2.2.2.2.2.2.2.2.2.1) x5.2.2.2.2.2.2.2.2.2.2.1 x5.2.2.2.2.2.2.2.2.2.2.2.1 x5.2.2.2.2.2.2.2.2.2.2.2.2)).bind fun x13=>some x13 else some false))
def Wl(c0:List Def)(c1:Int)(c2:List Table)(c3:List yl)(c4:List zX)(c5:List Cap)(c6:List View)(c7:List zf)(c8:Int):Nat→(Int)→Option ((Bool)⊕(Unit))
 |0,_=>none
 |K+1,q=>(bif (decide (q<c1))then(idx c0 q).bind fun x1=>(AK (Expr.mk x1.Body.Op x1.Body.N x1.Body.S x1.Body.Key x1.Body.Args)).bind fun x2=>(bif (!x2)then some (Sum.inl false)else Wl c0 c1 c2 c3 c4 c5 c6 c7 c8 K (w64 (q+1)))else some (Sum.inr ()))
def Wm(c0:List Table)(c1:Int)(c2:Int)(c3:List Entry)(c4:Int)(c5:List Def)(c6:List yl)(c7:List zX)(c8:List Cap)(c9:List View)(c10:List zf)(c11:Int):Nat→(Int)→Option ((Bool)⊕(Unit))
 |0,_=>none
 |K+1,q=>(bif (decide (q<c4))then(idx c3 q).bind fun x1=>(xh (-1099511627776) 1099511627776 ([x1.N]:List Int)).bind fun x2=>(bif (!x2)then some (Sum.inl false)else Wm c0 c1 c2 c3 c4 c5 c6 c7 c8 c9 c10 c11 K (w64 (q+1)))else some (Sum.inr ()))
def Wn(c0:List Table)(c1:Int)(c2:List Def)(c3:List yl)(c4:List zX)(c5:List Cap)(c6:List View)(c7:List zf)(c8:Int):Nat→(Int)→Option ((Bool)⊕(Unit))
 |0,_=>none
 |K+1,q=>(bif (decide (q<c1))then(idx c0 q).bind fun x1=>((zed x1.Rows 60).bind fun x3=>(bif (!x3)then some true else(xh (-1099511627776) 1099511627776 ([x1.Else]:List Int)).bind fun x4=>some (!x4))).bind fun x2=>(bif x2 then some (Sum.inl false)else(Wm c0 c1 q x1.Rows (x1.Rows.length:Int) c2 c3 c4 c5 c6 c7 c8 KK 0).bind (xB (fun q=>some (Sum.inl q)) fun _=>Wn c0 c1 c2 c3 c4 c5 c6 c7 c8 K (w64 (q+1))))else some (Sum.inr ()))
def Wo(c0:List yl)(c1:Int)(c2:List Def)(c3:List Table)(c4:List zX)(c5:List Cap)(c6:List View)(c7:List zf)(c8:Int):Nat→(Int)→Option ((Bool)⊕(Unit))
 |0,_=>none
 |K+1,q=>(bif (decide (q<c1))then(idx c0 q).bind fun x1=>(vb x1.Corners).bind fun x2=>(bif (!x2)then some (Sum.inl false)else Wo c0 c1 c2 c3 c4 c5 c6 c7 c8 K (w64 (q+1)))else some (Sum.inr ()))
def Wq(c0:List zX)(c1:Int)(c2:List Def)(c3:List Table)(c4:List yl)(c5:List Cap)(c6:List View)(c7:List zf)(c8:Int):Nat→(Int)→Option ((Bool)⊕(Unit))
 |0,_=>none
 |K+1,q=>(bif (decide (q<c1))then(idx c0 q).bind fun x1=>(zat (zX.mk x1.Name x1.Zones x1.Except x1.From x1.Until x1.Grace x1.Vary x1.Kind (Expr.mk x1.Test.Op x1.Test.N x1.Test.S x1.Test.Key x1.Test.Args) x1.zE x1.Uses x1.Other x1.N)).bind fun x2=>(bif (!x2)then some (Sum.inl false)else Wq c0 c1 c2 c3 c4 c5 c6 c7 c8 K (w64 (q+1)))else some (Sum.inr ()))
def Wr(c0:List Cap)(c1:Int)(c2:List Def)(c3:List Table)(c4:List yl)(c5:List zX)(c6:List View)(c7:List zf)(c8:Int):Nat→(Int)→Option ((Bool)⊕(Unit))
 |0,_=>none
 |K+1,q=>(bif (decide (q<c1))then(idx c0 q).bind fun x1=>((xh 0 2 ([x1.Load]:List Int)).bind fun x3=>(bif (!x3)then some true else(xh 0 1099511627776 ([x1.Limit]:List Int)).bind fun x4=>(bif (!x4)then some true else(vb x1.Corners).bind fun x5=>some (!x5)))).bind fun x2=>(bif x2 then some (Sum.inl false)else Wr c0 c1 c2 c3 c4 c5 c6 c7 c8 K (w64 (q+1)))else some (Sum.inr ()))
def Ws(c0:List View)(c1:Int)(c2:Int)(c3:Int)(c4:List Def)(c5:List Table)(c6:List yl)(c7:List zX)(c8:List Cap)(c9:List zf)(c10:Int)(c11:List zf):Nat→(Int)→Option ((Bool)⊕(Unit))
 |0,_=>none
 |K+1,q=>(bif (decide (q<c3))then(grd (0≤q∧q<(((List.length c11):Nat):Int))).bind fun _=>((c11)[(Int.toNat q)]?).bind fun x2=>((xh 0 1048576 ([x2.X,x2.Y]:List Int)).bind fun x4=>(bif (!x4)then some true else(xh 0 4096 ([x2.Z_]:List Int)).bind fun x5=>some (!x5))).bind fun x3=>(bif x3 then some (Sum.inl false)else Ws c0 c1 c2 c3 c4 c5 c6 c7 c8 c9 c10 c11 K (w64 (q+1)))else some (Sum.inr ()))
def Wt(c0:List View)(c1:Int)(c2:List Def)(c3:List Table)(c4:List yl)(c5:List zX)(c6:List Cap)(c7:List zf)(c8:Int):Nat→(Int)→Option ((Bool)⊕(Unit))
 |0,_=>none
 |K+1,q=>(bif (decide (q<c1))then(idx c0 q).bind fun x1=>((xh 0 20 ([x1.Least]:List Int)).bind fun x3=>(bif (!x3)then some true else(xh 1 20 ([(x1.Targets.length:Int)]:List Int)).bind fun x4=>some (!x4))).bind fun x2=>(bif x2 then some (Sum.inl false)else(grd (List.length (([x1.Eye]:List zf)++x1.Targets)*24≤140737488355328)).bind fun _=>(Ws c0 c1 q (((List.length (([x1.Eye]:List zf)++x1.Targets)):Nat):Int) c2 c3 c4 c5 c6 c7 c8 (([x1.Eye]:List zf)++x1.Targets) KK 0).bind (xB (fun q=>some (Sum.inl q)) fun _=>Wt c0 c1 c2 c3 c4 c5 c6 c7 c8 K (w64 (q+1))))else some (Sum.inr ()))
def Wu(c0:List zf)(c1:Int)(c2:List Def)(c3:List Table)(c4:List yl)(c5:List zX)(c6:List Cap)(c7:List View)(c8:Int):Nat→(Int)→Option ((Bool)⊕(Unit))
 |0,_=>none
 |K+1,q=>(bif (decide (q<c1))then(idx c0 q).bind fun x1=>((xh (-4096) 4096 ([x1.X,x1.Y]:List Int)).bind fun x3=>(bif (!x3)then some true else(xh 1 4096 ([x1.Z_]:List Int)).bind fun x4=>some (!x4))).bind fun x2=>(bif x2 then some (Sum.inl false)else Wu c0 c1 c2 c3 c4 c5 c6 c7 c8 K (w64 (q+1)))else some (Sum.inr ()))
def zhg(p:wB):Option (Bool) :=
 ((zrg p.Defs 60).bind fun x2=>(bif (!x2)then some true else(zd8 p.Tables 60).bind fun x3=>(bif (!x3)then some true else(zd9 p.Zones 60).bind fun x4=>(bif (!x4)then some true else(zea p.Rules 200).bind fun x5=>(bif (!x5)then some true else(zeb p.Caps 30).bind fun x6=>(bif (!x6)then some true else(zec p.Views 60).bind fun x7=>some (!x7))))))).bind fun x1=>(bif x1 then some false else(Wl p.Defs (p.Defs.length:Int) p.Tables p.Zones p.Rules p.Caps p.Views p.Sun p.Hours KK 0).bind (xB some fun _=>(Wn p.Tables (p.Tables.length:Int) p.Defs p.Zones p.Rules p.Caps p.Views p.Sun p.Hours KK 0).bind (xB some fun _=>(Wo p.Zones (p.Zones.length:Int) p.Defs p.Tables p.Rules p.Caps p.Views p.Sun p.Hours KK 0).bind (xB some fun _=>(Wq p.Rules (p.Rules.length:Int) p.Defs p.Tables p.Zones p.Caps p.Views p.Sun p.Hours KK 0).bind (xB some fun _=>(Wr p.Caps (p.Caps.length:Int) p.Defs p.Tables p.Zones p.Rules p.Views p.Sun p.Hours KK 0).bind (xB some fun _=>(Wt p.Views (p.Views.length:Int) p.Defs p.Tables p.Zones p.Rules p.Caps p.Sun p.Hours KK 0).bind (xB some fun _=>(Wu p.Sun (p.Sun.length:Int) p.Defs p.Tables p.Zones p.Rules p.Caps p.Views p.Hours KK 0).bind (xB some fun _=>(xh 0 24 ([p.Hours,(p.Sun.length:Int)]:List Int)).bind fun x15=>some x15))))))))
def Wv(a0:Bs8):Option (Bs8):=some a0
def zhh(a0:Bs8)(a1:Int):Option (Bs8):=zGb a0 a1
def zhi(a0:Bs8)(a1:Bs8):Option (Int×Bs8):=(grd (List.length a0+List.length a1≤140737488355328)).bind fun _=>some ((a1.length:Int),a0++a1)
def Ww(c0:List (Int⊕Bs8))(c1:Int):Nat→(Bs8×Int)→Option (Bs8)
 |0,_=>none
 |K+1,q=>(bif (decide (q.2<c1))then((idx c0 q.2).bind fun x2=>((Wv q.1).bind fun x4=>((bif (!(decide (x4=([]:Bs8))))then(idx x4 (w64 ((x4.length:Int)-1))).bind fun x6=>some (!(decide (((x6.toNat:Nat):Int)=10)))else some false)).bind fun x5=>(bif x5 then(zhh q.1 32).bind fun x7=>some x7 else some q.1)).bind fun x3=>(bif (zRn x2)then(zhi x3 (anyS x2)).bind fun x8=>some x8.2 else(bif (!(zRn x2))then((bif (decide ((anyI x2)<0))then(zhi x3 zym).bind fun x10=>some (x10.2,(w64 (0-(anyI x2))))else some (x3,(anyI x2)))).bind fun x9=>(zrf x9.2).bind fun x11=>(zhi x9.1 x11).bind fun x12=>some x12.2 else some x3))).bind fun x1=>Ww c0 c1 K (x1,(w64 (q.2+1)))else some q.1)
def xr(b:Bs8)(l:List (Int⊕Bs8)):Option (Bs8) :=
 (Ww l (l.length:Int) KK (b,0)).bind fun x1=>some x1
def H7(b:Bs8):Option (Bs8) :=
 (xr b ([(Sum.inr yi)]:List (Int⊕Bs8))).bind fun x1=>(zhh x1 10).bind fun x2=>some x2
def zhj(b:Bs8)(e:Expr):Option (Bs8) :=
 (vM KK ([]:Bs8) (Expr.mk e.Op e.N e.S e.Key e.Args) 0).bind fun x1=>(qF x1).bind fun x2=>(xr b ([(Sum.inr x2)]:List (Int⊕Bs8))).bind fun x3=>(H7 x3).bind fun x4=>some x4
def A3(c0:List zG)(c1:Int):Nat→(Bs8×Int)→Option (Bs8)
 |0,_=>none
 |K+1,q=>(bif (decide (q.2<c1))then(idx c0 q.2).bind fun x1=>(xr q.1 ([(Sum.inl x1.X),(Sum.inl x1.Y)]:List (Int⊕Bs8))).bind fun x2=>A3 c0 c1 K (x2,(w64 (q.2+1)))else some q.1)
def Wx(b:Bs8)(l:List zG):Option (Bs8) :=
 (A3 l (l.length:Int) KK (b,0)).bind fun x1=>(H7 x1).bind fun x2=>some x2
def zGd(a0:List Bs8)(a1:Bs8):Option (Bs8):=J.ou a0 a1
def KM(c0:Int)(c1:Bs8)(c2:List Bs8)(c3:List Bs8)(c4:Int)(c5:Int)(c6:Int)(c7:Bool)(c8:Int)(c9:Int)(c10:Int)(c11:Bs8)(c12:Bs8)(c13:List Expr)(c14:Int)(c15:Int)(c16:Int)(c17:Int)(c18:Int)(c19:Int)(c20:Int)(c21:(List (List Bs8))):Nat→(Bs8×Int)→Option (Bs8)
 |0,_=>none
 |K+1,q=>(bif (decide (q.2<c0))then((grd (0≤q.2∧q.2<(((List.length c21):Nat):Int))).bind fun _=>((c21)[(Int.toNat q.2)]?).bind fun x3=>(bif (decide ((x3.length:Int)>0))then(grd (0≤q.2∧q.2<((2:Nat):Int))).bind fun _=>((([zDt,qm]:List Bs8))[(Int.toNat q.2)]?).bind fun x5=>(zGd x3 t__).bind fun x6=>(xr q.1 ([(Sum.inr x5),(Sum.inr x6)]:List (Int⊕Bs8))).bind fun x7=>some x7 else some q.1)).bind fun x1=>KM c0 c1 c2 c3 c4 c5 c6 c7 c8 c9 c10 c11 c12 c13 c14 c15 c16 c17 c18 c19 c20 c21 K (x1,(w64 (q.2+1)))else some q.1)
def KO(c0:Int)(c1:Bs8)(c2:List Bs8)(c3:List Bs8)(c4:Int)(c5:Int)(c6:Int)(c7:Bool)(c8:Int)(c9:Int)(c10:Int)(c11:Bs8)(c12:Bs8)(c13:List Expr)(c14:Int)(c15:Int)(c16:Int)(c17:Int)(c18:Int)(c19:Int)(c20:Int)(c21:List Int):Nat→(Bs8×Int)→Option (Bs8)
 |0,_=>none
 |K+1,q=>(bif (decide (q.2<c0))then((grd (0≤q.2∧q.2<(((List.length c21):Nat):Int))).bind fun _=>((c21)[(Int.toNat q.2)]?).bind fun x3=>(bif (!(decide (x3=0)))then(grd (0≤q.2∧q.2<((3:Nat):Int))).bind fun _=>((([Q7,AF,AB]:List Bs8))[(Int.toNat q.2)]?).bind fun x5=>(xr q.1 ([(Sum.inr x5),(Sum.inl x3)]:List (Int⊕Bs8))).bind fun x6=>some x6 else some q.1)).bind fun x1=>KO c0 c1 c2 c3 c4 c5 c6 c7 c8 c9 c10 c11 c12 c13 c14 c15 c16 c17 c18 c19 c20 c21 K (x1,(w64 (q.2+1)))else some q.1)
def KP(c0:Int)(c1:Bs8)(c2:List Bs8)(c3:List Bs8)(c4:Int)(c5:Int)(c6:Int)(c7:Bool)(c8:Int)(c9:Int)(c10:Int)(c11:Bs8)(c12:Bs8)(c13:List Expr)(c14:Int)(c15:Int)(c16:Int)(c17:Int)(c18:Int)(c19:Int)(c20:Int)(c21:List Bs8):Nat→(Bs8×Int)→Option (Bs8)
 |0,_=>none
 |K+1,q=>(bif (decide (q.2<c0))then((grd (0≤q.2∧q.2<(((List.length c21):Nat):Int))).bind fun _=>((c21)[(Int.toNat q.2)]?).bind fun x3=>(grd (0≤q.2)).bind fun _=>(bif (decide ((IntKind.i64.wrap ((BitVec.ofInt IntKind.i64.bits (Int.fdiv c18 (2 ^ (min (Int.toNat q.2) IntKind.i64.bits))) &&& BitVec.ofInt IntKind.i64.bits 1).toNat:Int))=1))then(xr q.1 ([(Sum.inr x3)]:List (Int⊕Bs8))).bind fun x5=>some x5 else some q.1)).bind fun x1=>KP c0 c1 c2 c3 c4 c5 c6 c7 c8 c9 c10 c11 c12 c13 c14 c15 c16 c17 c18 c19 c20 c21 K (x1,(w64 (q.2+1)))else some q.1)
def zrh(b:Bs8)(r_:zX):Option (Bs8) :=
 (xr b ([(Sum.inr Hs),(Sum.inr r_.Name)]:List (Int⊕Bs8))).bind fun x1=>(KM ((2:Nat):Int) r_.Name r_.Zones r_.Except r_.From r_.Until r_.Grace r_.Vary r_.Kind r_.Test.Op r_.Test.N r_.Test.S r_.Test.Key r_.Test.Args r_.zE.Side r_.zE.Base r_.zE.Num r_.zE.Den r_.Uses r_.Other r_.N ([r_.Zones,r_.Except]:List (List Bs8)) KK (x1,0)).bind fun x2=>(KO ((3:Nat):Int) r_.Name r_.Zones r_.Except r_.From r_.Until r_.Grace r_.Vary r_.Kind r_.Test.Op r_.Test.N r_.Test.S r_.Test.Key r_.Test.Args r_.zE.Side r_.zE.Base r_.zE.Num r_.zE.Den r_.Uses r_.Other r_.N ([r_.From,r_.Until,r_.Grace]:List Int) KK (x2,0)).bind fun x3=>((bif r_.Vary then(xr x3 ([(Sum.inr kP)]:List (Int⊕Bs8))).bind fun x5=>some x5 else some x3)).bind fun x4=>(xr x4 ([(Sum.inr uK)]:List (Int⊕Bs8))).bind fun x6=>(kB zj).bind fun x7=>((bif (decide (r_.Kind=0))then(zhj x6 (Expr.mk r_.Test.Op r_.Test.N r_.Test.S r_.Test.Key r_.Test.Args)).bind fun x9=>some (Sum.inl x9)else(bif (decide (r_.Kind=1))then(xr x6 ([(Sum.inr AD),(Sum.inl r_.zE.Side),(Sum.inr Ke),(Sum.inl r_.zE.Base),(Sum.inr oy),(Sum.inl r_.zE.Num),(Sum.inl r_.zE.Den)]:List (Int⊕Bs8))).bind fun x10=>some (Sum.inr x10)else(bif (decide (r_.Kind=3))then(grd (0≤r_.Uses∧r_.Uses<(((List.length x7):Nat):Int))).bind fun _=>((x7)[(Int.toNat r_.Uses)]?).bind fun x12=>(grd (0≤r_.Other∧r_.Other<(((List.length x7):Nat):Int))).bind fun _=>((x7)[(Int.toNat r_.Other)]?).bind fun x14=>(xr x6 ([(Sum.inr AA),(Sum.inr x12),(Sum.inr x14),(Sum.inl r_.N)]:List (Int⊕Bs8))).bind fun x15=>some (Sum.inr x15)else(bif (decide (r_.Kind=2))then(xr x6 ([(Sum.inr Q8)]:List (Int⊕Bs8))).bind fun x16=>(KP (((List.length x7):Nat):Int) r_.Name r_.Zones r_.Except r_.From r_.Until r_.Grace r_.Vary r_.Kind r_.Test.Op r_.Test.N r_.Test.S r_.Test.Key r_.Test.Args r_.zE.Side r_.zE.Base r_.zE.Num r_.zE.Den r_.Uses r_.Other r_.N x7 KK (x16,0)).bind fun x17=>some (Sum.inr x17)else some (Sum.inr x6)))))).bind (xB some fun x8=>(H7 x8).bind fun x18=>some x18)
def zyo(a0:Bs8):Option (Int):=some (a0.length:Int)
def Wy(c0:List Def)(c1:Int)(c2:List Table)(c3:List yl)(c4:List zX)(c5:List Cap)(c6:List View)(c7:List zf)(c8:Int):Nat→(Int×Bs8)→Option (Bs8)
 |0,_=>none
 |K+1,q=>(bif (decide (q.1<c1))then(idx c0 q.1).bind fun x1=>(xr q.2 ([(Sum.inr ql),(Sum.inr x1.Name),(Sum.inr Q9)]:List (Int⊕Bs8))).bind fun x2=>(zhj x2 (Expr.mk x1.Body.Op x1.Body.N x1.Body.S x1.Body.Key x1.Body.Args)).bind fun x3=>Wy c0 c1 c2 c3 c4 c5 c6 c7 c8 K ((w64 (q.1+1)),x3)else some q.2)
def Wz(c0:List Table)(c1:Int)(c2:Int)(c3:List Entry)(c4:Int)(c5:List Def)(c6:List yl)(c7:List zX)(c8:List Cap)(c9:List View)(c10:List zf)(c11:Int)(c12:Bs8)(c13:Int):Nat→(Int×Bs8)→Option (Bs8)
 |0,_=>none
 |K+1,q=>(bif (decide (q.1<c4))then(idx c3 q.1).bind fun x1=>(xr q.2 ([(Sum.inr x1.Name),(Sum.inl x1.N)]:List (Int⊕Bs8))).bind fun x2=>Wz c0 c1 c2 c3 c4 c5 c6 c7 c8 c9 c10 c11 c12 c13 K ((w64 (q.1+1)),x2)else some q.2)
def WA(c0:List Table)(c1:Int)(c2:List Def)(c3:List yl)(c4:List zX)(c5:List Cap)(c6:List View)(c7:List zf)(c8:Int):Nat→(Int×Bs8)→Option (Bs8)
 |0,_=>none
 |K+1,q=>(bif (decide (q.1<c1))then(idx c0 q.1).bind fun x1=>(xr q.2 ([(Sum.inr xG),(Sum.inr x1.Name)]:List (Int⊕Bs8))).bind fun x2=>(Wz c0 c1 q.1 x1.Rows (x1.Rows.length:Int) c2 c3 c4 c5 c6 c7 c8 x1.Name x1.Else KK (0,x2)).bind fun x3=>(xr x3 ([(Sum.inr vW),(Sum.inl x1.Else)]:List (Int⊕Bs8))).bind fun x4=>(H7 x4).bind fun x5=>WA c0 c1 c2 c3 c4 c5 c6 c7 c8 K ((w64 (q.1+1)),x5)else some q.2)
def WB(c0:List yl)(c1:Int)(c2:List Def)(c3:List Table)(c4:List zX)(c5:List Cap)(c6:List View)(c7:List zf)(c8:Int):Nat→(Int×Bs8)→Option (Bs8)
 |0,_=>none
 |K+1,q=>(bif (decide (q.1<c1))then(idx c0 q.1).bind fun x1=>((bif x1.Overlay then some xf else some wH)).bind fun x2=>(xr q.2 ([(Sum.inr x2),(Sum.inr x1.Name)]:List (Int⊕Bs8))).bind fun x3=>(Wx x3 x1.Corners).bind fun x4=>WB c0 c1 c2 c3 c4 c5 c6 c7 c8 K ((w64 (q.1+1)),x4)else some q.2)
def WC(c0:List zX)(c1:Int)(c2:List Def)(c3:List Table)(c4:List yl)(c5:List Cap)(c6:List View)(c7:List zf)(c8:Int):Nat→(Int×Bs8)→Option (Bs8)
 |0,_=>none
 |K+1,q=>(bif (decide (q.1<c1))then(idx c0 q.1).bind fun x1=>(zrh q.2 (zX.mk x1.Name x1.Zones x1.Except x1.From x1.Until x1.Grace x1.Vary x1.Kind (Expr.mk x1.Test.Op x1.Test.N x1.Test.S x1.Test.Key x1.Test.Args) x1.zE x1.Uses x1.Other x1.N)).bind fun x2=>WC c0 c1 c2 c3 c4 c5 c6 c7 c8 K ((w64 (q.1+1)),x2)else some q.2)
def WD(c0:List Cap)(c1:Int)(c2:List Def)(c3:List Table)(c4:List yl)(c5:List zX)(c6:List View)(c7:List zf)(c8:Int):Nat→(Int×Bs8)→Option (Bs8)
 |0,_=>none
 |K+1,q=>(bif (decide (q.1<c1))then(idx c0 q.1).bind fun x1=>(kB zY).bind fun x2=>(grd (0≤x1.Load∧x1.Load<(((List.length x2):Nat):Int))).bind fun _=>((x2)[(Int.toNat x1.Load)]?).bind fun x4=>(xr q.2 ([(Sum.inr zag),(Sum.inr x1.Name),(Sum.inr x4),(Sum.inl x1.Limit)]:List (Int⊕Bs8))).bind fun x5=>(Wx x5 x1.Corners).bind fun x6=>WD c0 c1 c2 c3 c4 c5 c6 c7 c8 K ((w64 (q.1+1)),x6)else some q.2)
def WE(c0:List View)(c1:Int)(c2:Int)(c3:List zf)(c4:Int)(c5:List Def)(c6:List Table)(c7:List yl)(c8:List zX)(c9:List Cap)(c10:List zf)(c11:Int):Nat→(Int×Bs8)→Option (Bs8)
 |0,_=>none
 |K+1,q=>(bif (decide (q.1<c4))then(idx c3 q.1).bind fun x1=>(xr q.2 ([(Sum.inl x1.X),(Sum.inl x1.Y),(Sum.inl x1.Z_)]:List (Int⊕Bs8))).bind fun x2=>WE c0 c1 c2 c3 c4 c5 c6 c7 c8 c9 c10 c11 K ((w64 (q.1+1)),x2)else some q.2)
def WG(c0:List View)(c1:Int)(c2:List Def)(c3:List Table)(c4:List yl)(c5:List zX)(c6:List Cap)(c7:List zf)(c8:Int):Nat→(Int×Bs8)→Option (Bs8)
 |0,_=>none
 |K+1,q=>(bif (decide (q.1<c1))then(idx c0 q.1).bind fun x1=>(xr q.2 ([(Sum.inr HQ),(Sum.inr x1.Name),(Sum.inl x1.Eye.X),(Sum.inl x1.Eye.Y),(Sum.inl x1.Eye.Z_),(Sum.inr ow),(Sum.inl x1.Least),(Sum.inr uK)]:List (Int⊕Bs8))).bind fun x2=>(WE c0 c1 q.1 x1.Targets (x1.Targets.length:Int) c2 c3 c4 c5 c6 c7 c8 KK (0,x2)).bind fun x3=>(H7 x3).bind fun x4=>WG c0 c1 c2 c3 c4 c5 c6 c7 c8 K ((w64 (q.1+1)),x4)else some q.2)
def WH(c0:List zf)(c1:Int)(c2:List Def)(c3:List Table)(c4:List yl)(c5:List zX)(c6:List Cap)(c7:List View)(c8:Int):Nat→(Int×Bs8)→Option (Bs8)
 |0,_=>none
 |K+1,q=>(bif (decide (q.1<c1))then(idx c0 q.1).bind fun x1=>(grd (0≤(min q.1 1)∧(min q.1 1)<((2:Nat):Int))).bind fun _=>((([Wf,KB]:List Bs8))[(Int.toNat (min q.1 1))]?).bind fun x3=>(xr q.2 ([(Sum.inr x3),(Sum.inl x1.X),(Sum.inl x1.Y),(Sum.inl x1.Z_)]:List (Int⊕Bs8))).bind fun x4=>WH c0 c1 c2 c3 c4 c5 c6 c7 c8 K ((w64 (q.1+1)),x4)else some q.2)
def zyp(p:wB):Option (Bs8×Int) :=
 (zhg p).bind fun x1=>(bif (!x1)then some (([]:Bs8),1)else(Wy p.Defs (p.Defs.length:Int) p.Tables p.Zones p.Rules p.Caps p.Views p.Sun p.Hours KK (0,([]:Bs8))).bind fun x2=>(WA p.Tables (p.Tables.length:Int) p.Defs p.Zones p.Rules p.Caps p.Views p.Sun p.Hours KK (0,x2)).bind fun x3=>(WB p.Zones (p.Zones.length:Int) p.Defs p.Tables p.Rules p.Caps p.Views p.Sun p.Hours KK (0,x3)).bind fun x4=>(WC p.Rules (p.Rules.length:Int) p.Defs p.Tables p.Zones p.Caps p.Views p.Sun p.Hours KK (0,x4)).bind fun x5=>(WD p.Caps (p.Caps.length:Int) p.Defs p.Tables p.Zones p.Rules p.Views p.Sun p.Hours KK (0,x5)).bind fun x6=>(WG p.Views (p.Views.length:Int) p.Defs p.Tables p.Zones p.Rules p.Caps p.Sun p.Hours KK (0,x6)).bind fun x7=>(WH p.Sun (p.Sun.length:Int) p.Defs p.Tables p.Zones p.Rules p.Caps p.Views p.Hours KK (0,x7)).bind fun x8=>((bif (decide ((p.Sun.length:Int)>0))then(H7 x8).bind fun x10=>some x10 else some x8)).bind fun x9=>((bif (!(decide (p.Hours=0)))then(xr x9 ([(Sum.inr jW),(Sum.inl p.Hours)]:List (Int⊕Bs8))).bind fun x12=>(H7 x12).bind fun x13=>some x13 else some x9)).bind fun x11=>(zyo x11).bind fun x14=>(bif (decide (x14>8000))then some (([]:Bs8),6)else(Wv x11).bind fun x15=>some (x15,0)))
def A4:Option (Bool) :=
 (ud zaf).bind fun x1=>(KE (Expr.mk x1.2.2.1 x1.2.2.2.1 x1.2.2.2.2.1 x1.2.2.2.2.2.1 x1.2.2.2.2.2.2)).bind fun x2=>(KE (Expr.mk 6 0 ([]:Bs8) ([]:Bs8) ([(Expr.mk 0 2 ([]:Bs8) ([]:Bs8) []),(Expr.mk 4 0 ([]:Bs8) ([]:Bs8) ([(Expr.mk 1 0 t_a ([]:Bs8) []),(Expr.mk 1 0 t_b ([]:Bs8) [])]:List Expr))]:List Expr))).bind fun x3=>(oA kQ).bind fun x4=>(oA zg9).bind fun x5=>(oA J5).bind fun x6=>(oA Q6).bind fun x7=>(oA AI).bind fun x8=>(oA qe).bind fun x9=>((bif (decide (x1.2.1=0))then(bif (decide (x2.2=0))then(bif (decide (x2.1=HP))then(bif (decide (x3.2=0))then(bif (decide (x3.1=Az))then(bif (decide (x4.2.1=0))then(bif (decide ((((List.length x4.2.2.2.2.2.2.1):Nat):Int)=1))then(grd ((0:Int)≤0∧0<(((List.length x4.2.2.2.2.2.2.1):Nat):Int))).bind fun _=>((x4.2.2.2.2.2.2.1)[(Int.toNat 0)]?).bind fun x12=>some (decide ((x12.Corners.length:Int)=4))else some false)else some false)else some false)else some false)else some false)else some false)else some false)).bind fun x10=>((bif (decide (x5.1=6))then(bif (decide (x5.2.1=3))then(bif (decide (x6.1=7))then(bif (decide (x6.2.1=14))then(bif (decide (x7.1=11))then(bif (decide (x7.2.1=14))then(bif (decide (x8.1=18))then(bif (decide (x8.2.1=10))then(bif (decide (x9.1=18))then some (decide (x9.2.1=5))else some false)else some false)else some false)else some false)else some false)else some false)else some false)else some false)else some false)).bind fun x13=>(zyp (wB.mk x4.2.2.2.2.1 x4.2.2.2.2.2.1 x4.2.2.2.2.2.2.1 x4.2.2.2.2.2.2.2.1 x4.2.2.2.2.2.2.2.2.1 x4.2.2.2.2.2.2.2.2.2 x4.2.2.1 x4.2.2.2.1)).bind fun x14=>(bif x10 then(bif x13 then(bif (decide (x14.2=0))then(bif (decide (x14.1=ji))then(zhg (wB.mk x4.2.2.2.2.1 x4.2.2.2.2.2.1 x4.2.2.2.2.2.2.1 x4.2.2.2.2.2.2.2.1 x4.2.2.2.2.2.2.2.2.1 x4.2.2.2.2.2.2.2.2.2 x4.2.2.1 x4.2.2.2.1)).bind fun x15=>(bif x15 then(zhg (wB.mk [] [] [] [] [] [] [] 25)).bind fun x16=>(bif (!x16)then(HS t_a1).bind fun x17=>(bif x17 then(HS Hs).bind fun x18=>some (!x18)else some false)else some false)else some false)else some false)else some false)else some false)else some false)
def Vi(c_:Int):Option (Bool) :=
 (bif (decide (c_=9))then some true else(bif (decide (c_=10))then some true else some (decide (c_=32))))
def qO(c_:Int):Option (Bool) :=
 (bif (decide (c_≥97))then some (decide (c_≤122))else some false)
def uu(c_:Int):Option (Bool) :=
 (bif (decide (c_≥48))then some (decide (c_≤57))else some false)
def ve(c0:Bs8):Nat→(Int×Int)→Option ((Int×Bool)⊕(Int))
 |0,_=>none
 |K+1,q=>(bif (decide (q.2<(c0.length:Int)))then((idx c0 q.2).bind fun x2=>(uu ((x2.toNat:Nat):Int)).bind fun x3=>(bif (!x3)then some (q.2,true)else some (q.2,(decide (q.1>1099511627776))))).bind fun x1=>(bif x1.2 then some (Sum.inl (0,false))else(idx c0 x1.1).bind fun x4=>ve c0 K ((w64 ((w64 ((w64 (10*q.1))+(w64 (((x4.toNat:Nat):Int)))))-48)),(w64 (x1.1+1))))else some (Sum.inr q.1))
def JM(s:Bs8):Option (Int×Bool) :=
 (ve s KK (0,0)).bind (xB some fun x1=>((bif (decide ((s.length:Int)<1))then some true else(bif (decide ((s.length:Int)>1))then(idx s 0).bind fun x3=>(bif (decide (((x3.toNat:Nat):Int)=48))then some true else some (decide (x1>1099511627776)))else some (decide (x1>1099511627776))))).bind fun x2=>(bif x2 then some (0,false)else some (x1,true)))
def j8(c0:Bs8)(c1:Int)(c2:Bs8):Nat→(Int)→Option ((Int)⊕(Unit))
 |0,_=>none
 |K+1,q=>(bif (decide (q<(c2.length:Int)))then(idx c0 c1).bind fun x1=>(idx c2 q).bind fun x2=>(bif (decide (((x1.toNat:Nat):Int)=((x2.toNat:Nat):Int)))then some (Sum.inl 1)else j8 c0 c1 c2 K (w64 (q+1)))else some (Sum.inr ()))
def Za(s:Bs8)(at_:Int):Option (Int) :=
 ((bif (decide ((w64 (at_+1))<(s.length:Int)))then(idx s (w64 (at_+1))).bind fun x2=>(bif (decide (((x2.toNat:Nat):Int)=61))then(idx s at_).bind fun x3=>(bif (decide (((x3.toNat:Nat):Int)=60))then some true else(idx s at_).bind fun x4=>some (decide (((x4.toNat:Nat):Int)=61)))else some false)else some false)).bind fun x1=>(bif x1 then some 2 else(j8 s at_ zF KK 0).bind (xB some fun _=>some 0))
def wL(c0:Bs8)(c1:Int)(c2:Int)(c3:Bs8):Nat→(Int)→Option (Int)
 |0,_=>none
 |K+1,q=>((bif (decide (q<(c0.length:Int)))then(idx c0 q).bind fun x2=>(qO ((x2.toNat:Nat):Int)).bind fun x3=>(bif x3 then some true else(idx c0 q).bind fun x4=>(uu ((x4.toNat:Nat):Int)).bind fun x5=>some x5)else some false)).bind fun x1=>(bif x1 then wL c0 c1 c2 c3 K (w64 (q+1))else some q)
def wM(c0:Bs8)(c1:Int)(c2:Int)(c3:Bs8):Nat→(Int)→Option (Int)
 |0,_=>none
 |K+1,q=>((bif (decide (q<(c0.length:Int)))then(idx c0 q).bind fun x2=>(uu ((x2.toNat:Nat):Int)).bind fun x3=>some x3 else some false)).bind fun x1=>(bif x1 then wM c0 c1 c2 c3 K (w64 (q+1))else some q)
def H8(s:Bs8)(at_:Int):Option (Int×Int×Bs8×Int×Int) :=
 (idx s at_).bind fun x1=>(qO ((x1.toNat:Nat):Int)).bind fun x2=>(bif x2 then(wL s at_ 0 ([]:Bs8) KK (w64 (at_+1))).bind fun x3=>(bif (decide ((w64 (x3-at_))>20))then some (15,0,([]:Bs8),0,0)else(cut s at_ x3).bind fun x4=>some (0,0,x4,0,at_))else(idx s at_).bind fun x5=>(uu ((x5.toNat:Nat):Int)).bind fun x6=>(bif x6 then(wM s at_ 0 ([]:Bs8) KK (w64 (at_+1))).bind fun x7=>(cut s at_ x7).bind fun x8=>(JM x8).bind fun x9=>(bif (!x9.2)then some (3,0,([]:Bs8),0,0)else(cut s at_ x7).bind fun x10=>some (0,1,x10,x9.1,at_))else(Za s at_).bind fun x11=>(bif (decide (x11=0))then some (13,0,([]:Bs8),0,0)else(cut s at_ (w64 (at_+x11))).bind fun x12=>some (0,2,x12,0,at_))))
def xm(c0:Bs8):Nat→(Int×(List Token))→Option (((List Token)×Int×Int)⊕((List Token)))
 |0,_=>none
 |K+1,q=>(bif (decide (q.1<(c0.length:Int)))then(idx c0 q.1).bind fun x1=>(Vi ((x1.toNat:Nat):Int)).bind fun x2=>(bif x2 then xm c0 K ((w64 (q.1+1)),q.2)else(H8 c0 q.1).bind fun x3=>(bif (!(decide (x3.1=0)))then some (Sum.inl ([],q.1,x3.1))else(grd (List.length (q.2++([(Token.mk x3.2.1 x3.2.2.1 x3.2.2.2.1 x3.2.2.2.2)]:List Token))*40≤140737488355328)).bind fun _=>xm c0 K ((w64 (q.1+(x3.2.2.1.length:Int))),(q.2++([(Token.mk x3.2.1 x3.2.2.1 x3.2.2.2.1 x3.2.2.2.2)]:List Token)))))else some (Sum.inr q.2))
def zau(s:Bs8):Option ((List Token)×Int×Int) :=
 (bif (decide ((s.length:Int)>8000))then some ([],0,6)else(xm s KK (0,[])).bind (xB some fun x1=>(grd (List.length (x1++([(Token.mk 3 ([]:Bs8) 0 (s.length:Int))]:List Token))*40≤140737488355328)).bind fun _=>some ((x1++([(Token.mk 3 ([]:Bs8) 0 (s.length:Int))]:List Token)),0,0)))
def yr(p_L:List Token)(p_At:Int)(p_E:Int)(p_Pos:Int)(s:Bs8):Option (Bool) :=
 (bif (decide (p_E=0))then(idx p_L p_At).bind fun x1=>(bif (!(decide (x1.Kind=3)))then(idx p_L p_At).bind fun x2=>some (decide (x2.Text=s))else some false)else some false)
def yD(p_L:List Token)(p_At:Int)(p_E:Int)(p_Pos:Int)(e:Int):Option (Int×Int) :=
 (bif (decide (p_E=0))then(idx p_L p_At).bind fun x1=>some (e,x1.Pos)else some (p_E,p_Pos))
def jE(p_L:List Token)(p_At:Int)(p_E:Int)(p_Pos:Int)(have_:Int)(most:Int):Option (Int×Int×Int) :=
 (bif (decide (have_≥most))then(yD p_L p_At p_E p_Pos 6).bind fun x1=>some (p_At,x1.1,x1.2)else some ((w64 (p_At+1)),p_E,p_Pos))
def uV(c0:Int)(c1:List Def)(c2:List Table)(c3:List yl)(c4:List zX)(c5:List Cap)(c6:List View)(c7:List zf)(c8:Int):Nat→(Int×(List Bs8))→Option ((List Bs8))
 |0,_=>none
 |K+1,q=>((bif (decide (q.1<(c1.length:Int)))then some (decide (c0=0))else some false)).bind fun x1=>(bif x1 then(idx c1 q.1).bind fun x2=>(grd (List.length (q.2++([x2.Name]:List Bs8))*16≤140737488355328)).bind fun _=>uV c0 c1 c2 c3 c4 c5 c6 c7 c8 K ((w64 (q.1+1)),(q.2++([x2.Name]:List Bs8)))else some q.2)
def uW(c0:Int)(c1:List Def)(c2:List Table)(c3:List yl)(c4:List zX)(c5:List Cap)(c6:List View)(c7:List zf)(c8:Int):Nat→(Int×(List Bs8))→Option ((List Bs8))
 |0,_=>none
 |K+1,q=>((bif (decide (q.1<(c2.length:Int)))then some (decide (c0=1))else some false)).bind fun x1=>(bif x1 then(idx c2 q.1).bind fun x2=>(grd (List.length (q.2++([x2.Name]:List Bs8))*16≤140737488355328)).bind fun _=>uW c0 c1 c2 c3 c4 c5 c6 c7 c8 K ((w64 (q.1+1)),(q.2++([x2.Name]:List Bs8)))else some q.2)
def uX(c0:Int)(c1:List Def)(c2:List Table)(c3:List yl)(c4:List zX)(c5:List Cap)(c6:List View)(c7:List zf)(c8:Int):Nat→(Int×(List Bs8))→Option ((List Bs8))
 |0,_=>none
 |K+1,q=>((bif (decide (q.1<(c3.length:Int)))then some (decide (c0=2))else some false)).bind fun x1=>(bif x1 then(idx c3 q.1).bind fun x2=>(grd (List.length (q.2++([x2.Name]:List Bs8))*16≤140737488355328)).bind fun _=>uX c0 c1 c2 c3 c4 c5 c6 c7 c8 K ((w64 (q.1+1)),(q.2++([x2.Name]:List Bs8)))else some q.2)
def uY(c0:Int)(c1:List Def)(c2:List Table)(c3:List yl)(c4:List zX)(c5:List Cap)(c6:List View)(c7:List zf)(c8:Int):Nat→(Int×(List Bs8))→Option ((List Bs8))
 |0,_=>none
 |K+1,q=>((bif (decide (q.1<(c4.length:Int)))then some (decide (c0=3))else some false)).bind fun x1=>(bif x1 then(idx c4 q.1).bind fun x2=>(grd (List.length (q.2++([x2.Name]:List Bs8))*16≤140737488355328)).bind fun _=>uY c0 c1 c2 c3 c4 c5 c6 c7 c8 K ((w64 (q.1+1)),(q.2++([x2.Name]:List Bs8)))else some q.2)
def uZ(c0:Int)(c1:List Def)(c2:List Table)(c3:List yl)(c4:List zX)(c5:List Cap)(c6:List View)(c7:List zf)(c8:Int):Nat→(Int×(List Bs8))→Option ((List Bs8))
 |0,_=>none
 |K+1,q=>((bif (decide (q.1<(c5.length:Int)))then some (decide (c0=4))else some false)).bind fun x1=>(bif x1 then(idx c5 q.1).bind fun x2=>(grd (List.length (q.2++([x2.Name]:List Bs8))*16≤140737488355328)).bind fun _=>uZ c0 c1 c2 c3 c4 c5 c6 c7 c8 K ((w64 (q.1+1)),(q.2++([x2.Name]:List Bs8)))else some q.2)
def u0(c0:Int)(c1:List Def)(c2:List Table)(c3:List yl)(c4:List zX)(c5:List Cap)(c6:List View)(c7:List zf)(c8:Int):Nat→(Int×(List Bs8))→Option ((List Bs8))
 |0,_=>none
 |K+1,q=>((bif (decide (q.1<(c6.length:Int)))then some (decide (c0=5))else some false)).bind fun x1=>(bif x1 then(idx c6 q.1).bind fun x2=>(grd (List.length (q.2++([x2.Name]:List Bs8))*16≤140737488355328)).bind fun _=>u0 c0 c1 c2 c3 c4 c5 c6 c7 c8 K ((w64 (q.1+1)),(q.2++([x2.Name]:List Bs8)))else some q.2)
def xu(p:wB)(kind:Int):Option ((List Bs8)) :=
 (uV kind p.Defs p.Tables p.Zones p.Rules p.Caps p.Views p.Sun p.Hours KK (0,[])).bind fun x1=>(uW kind p.Defs p.Tables p.Zones p.Rules p.Caps p.Views p.Sun p.Hours KK (0,x1)).bind fun x2=>(uX kind p.Defs p.Tables p.Zones p.Rules p.Caps p.Views p.Sun p.Hours KK (0,x2)).bind fun x3=>(uY kind p.Defs p.Tables p.Zones p.Rules p.Caps p.Views p.Sun p.Hours KK (0,x3)).bind fun x4=>(uZ kind p.Defs p.Tables p.Zones p.Rules p.Caps p.Views p.Sun p.Hours KK (0,x4)).bind fun x5=>(u0 kind p.Defs p.Tables p.Zones p.Rules p.Caps p.Views p.Sun p.Hours KK (0,x5)).bind fun x6=>some x6
def j9(c0:Bs8):Nat→(Int)→Option ((Bool)⊕(Unit))
 |0,_=>none
 |K+1,q=>(bif (decide (q<(c0.length:Int)))then((idx c0 q).bind fun x2=>(qO ((x2.toNat:Nat):Int)).bind fun x3=>(bif (!x3)then(idx c0 q).bind fun x4=>(uu ((x4.toNat:Nat):Int)).bind fun x5=>some (!x5)else some false)).bind fun x1=>(bif x1 then some (Sum.inl false)else j9 c0 K (w64 (q+1)))else some (Sum.inr ()))
def Zb(s:Bs8):Option (Bool) :=
 ((bif (decide ((s.length:Int)<1))then some true else(bif (decide ((s.length:Int)>20))then some true else(idx s 0).bind fun x2=>(qO ((x2.toNat:Nat):Int)).bind fun x3=>some (!x3)))).bind fun x1=>(bif x1 then some false else(j9 s KK 1).bind (xB some fun _=>some true))
def H9:Option ((List Bs8)) :=
 some ([zoj,AA,Ke,zag,ql,vW,qm,Q7,AB,jW,zah,zDt,ow,ox,zJ7,xf,AD,Hs,oy,Wf,xG,Ht,AF,Q8,kP,HQ,wH]:List Bs8)
def ka(c0:List Bs8)(c1:Bs8):Nat→(Int)→Option ((Int)⊕(Unit))
 |0,_=>none
 |K+1,q=>(bif (decide (q<(c0.length:Int)))then(idx c0 q).bind fun x1=>(bif (decide (x1=c1))then some (Sum.inl q)else ka c0 c1 K (w64 (q+1)))else some (Sum.inr ()))
def kC(l:List Bs8)(s:Bs8):Option (Int) :=
 (ka l s KK 0).bind (xB some fun _=>some (-1))
def Vj(s:Bs8):Option (Bool) :=
 (Zb s).bind fun x1=>(bif x1 then(H9).bind fun x2=>(kC x2 s).bind fun x3=>some (decide (x3<0))else some false)
def wN(p_L:List Token)(p_At:Int)(p_E:Int)(p_Pos:Int):Option (Bool) :=
 (bif (decide (p_E=0))then(idx p_L p_At).bind fun x1=>(bif (decide (x1.Kind=0))then(idx p_L p_At).bind fun x2=>(Vj x2.Text).bind fun x3=>some x3 else some false)else some false)
def yL(p_L:List Token)(p_At:Int)(p_E:Int)(p_Pos:Int)(l:List Bs8)(most:Int):Option (Bs8×Int×Int×Int) :=
 (wN p_L p_At p_E p_Pos).bind fun x1=>(bif (!x1)then(yD p_L p_At p_E p_Pos 14).bind fun x2=>some (([]:Bs8),p_At,x2.1,x2.2)else(idx p_L p_At).bind fun x3=>(bif (decide ((l.length:Int)≥most))then(yD p_L p_At p_E p_Pos 6).bind fun x4=>some (([]:Bs8),p_At,x4.1,x4.2)else(kC l x3.Text).bind fun x5=>(bif (decide (x5≥0))then(yD p_L p_At p_E p_Pos 5).bind fun x6=>some (([]:Bs8),p_At,x6.1,x6.2)else some (x3.Text,(w64 (p_At+1)),p_E,p_Pos))))
def yp(p_L:List Token)(p_At:Int)(p_E:Int)(p_Pos:Int)(s:Bs8):Option (Int×Int×Int) :=
 (yr p_L p_At p_E p_Pos s).bind fun x1=>(bif (!x1)then(yD p_L p_At p_E p_Pos 14).bind fun x2=>some (p_At,x2.1,x2.2)else some ((w64 (p_At+1)),p_E,p_Pos))
def yP(p_L:List Token)(p_At:Int)(p_E:Int)(p_Pos:Int):Option (Bool) :=
 (bif (decide (p_E=0))then(idx p_L p_At).bind fun x1=>some (decide (x1.Kind=1))else some false)
def zN(p_L:List Token)(p_At:Int)(p_E:Int)(p_Pos:Int)(from_:Int)(to_:Int):Option (Int×Int×Int×Int) :=
 (yP p_L p_At p_E p_Pos).bind fun x1=>(bif (!x1)then(yD p_L p_At p_E p_Pos 14).bind fun x2=>some (0,p_At,x2.1,x2.2)else(idx p_L p_At).bind fun x3=>((bif (decide (x3.N<from_))then some true else some (decide (x3.N>to_)))).bind fun x4=>(bif x4 then(yD p_L p_At p_E p_Pos 3).bind fun x5=>some (0,p_At,x5.1,x5.2)else some (x3.N,(w64 (p_At+1)),p_E,p_Pos)))
def wO(p_L:List Token)(p_At:Int)(p_E:Int)(p_Pos:Int)(level:Int):Option (Int) :=
 ((bif (!(decide (p_E=0)))then some true else(idx p_L p_At).bind fun x2=>some (decide (x2.Kind=3)))).bind fun x1=>(bif x1 then some (-1)else(idx ([([]:List Bs8),([zJ7]:List Bs8),([zoj]:List Bs8),([]:List Bs8),([ju,zam,jt]:List Bs8),([zak,yT]:List Bs8),([zaj,zal,zai]:List Bs8),([]:List Bs8),([]:List Bs8)]:List (List Bs8)) level).bind fun x3=>(idx p_L p_At).bind fun x4=>(kC x3 x4.Text).bind fun x5=>(bif (decide (x5<0))then some (-1)else(bif (decide (level=1))then some 14 else(idx ([0,14,13,0,10,4,6,0,0]:List Int) level).bind fun x6=>some (w64 (x6+x5)))))
def vO(r_r_expr:(List Token)→Int→Int→Int→Int→Option (Int×Int×Int×Int×Int×Bs8×Bs8×(List Expr)))(c0:List Token)(c1:Int)(c2:Int)(c3:Bs8)(c4:List Expr):Nat→(Int×Int×Int×Int×Int×Bs8×Bs8×(List Expr))→Option ((Int×Int×Int×Int×Int×Bs8×Bs8×(List Expr))⊕(Int×Int×Int×Int×Int×Bs8×Bs8×(List Expr)))
 |0,_=>none
 |K+1,q=>(wO c0 q.1 q.2.1 q.2.2.1 c1).bind fun x1=>(bif (decide (x1≥0))then(wO c0 q.1 q.2.1 q.2.2.1 c1).bind fun x2=>(r_r_expr c0 (w64 (q.1+1)) q.2.1 q.2.2.1 (w64 (c1+1))).bind fun x3=>(bif (decide (c1=4))then some (Sum.inl (x3.1,x3.2.1,x3.2.2.1,x2,0,([]:Bs8),([]:Bs8),([(Expr.mk q.2.2.2.1 q.2.2.2.2.1 q.2.2.2.2.2.1 q.2.2.2.2.2.2.1 q.2.2.2.2.2.2.2),(Expr.mk x3.2.2.2.1 x3.2.2.2.2.1 x3.2.2.2.2.2.1 x3.2.2.2.2.2.2.1 x3.2.2.2.2.2.2.2)]:List Expr)))else vO r_r_expr c0 c1 c2 c3 c4 K (x3.1,x3.2.1,x3.2.2.1,x2,0,([]:Bs8),([]:Bs8),([(Expr.mk q.2.2.2.1 q.2.2.2.2.1 q.2.2.2.2.2.1 q.2.2.2.2.2.2.1 q.2.2.2.2.2.2.2),(Expr.mk x3.2.2.2.1 x3.2.2.2.2.1 x3.2.2.2.2.2.1 x3.2.2.2.2.2.2.1 x3.2.2.2.2.2.2.2)]:List Expr)))else some (Sum.inr (q.1,q.2.1,q.2.2.1,q.2.2.2.1,q.2.2.2.2.1,q.2.2.2.2.2.1,q.2.2.2.2.2.2.1,q.2.2.2.2.2.2.2)))
mutual
def A5:Nat→(List Token)→Int→Int→Int→Option (Int×Int×Int×Int×Int×Bs8×Bs8×(List Expr))
 |0,_,_,_,_=>none
 |RK+1,p_L,p_At,p_E,p_Pos=>(yP p_L p_At p_E p_Pos).bind fun x1=>(bif x1 then(zN p_L p_At p_E p_Pos 0 1099511627776).bind fun x2=>some (x2.2.1,x2.2.2.1,x2.2.2.2,0,x2.1,([]:Bs8),([]:Bs8),[])else(yr p_L p_At p_E p_Pos xG).bind fun x3=>(bif x3 then(yL p_L (w64 (p_At+1)) p_E p_Pos [] 1).bind fun x4=>(yL p_L x4.2.1 x4.2.2.1 x4.2.2.2 [] 1).bind fun x5=>some (x5.2.1,x5.2.2.1,x5.2.2.2,2,0,x4.1,x5.1,[])else(yr p_L p_At p_E p_Pos wH).bind fun x6=>(bif x6 then(yL p_L (w64 (p_At+1)) p_E p_Pos [] 1).bind fun x7=>some (x7.2.1,x7.2.2.1,x7.2.2.2,3,0,x7.1,([]:Bs8),[])else(yr p_L p_At p_E p_Pos HA).bind fun x8=>(bif x8 then(yM RK p_L (w64 (p_At+1)) p_E p_Pos 0).bind fun x9=>(yp p_L x9.1 x9.2.1 x9.2.2.1 AG).bind fun x10=>some (x10.1,x10.2.1,x10.2.2,x9.2.2.2.1,x9.2.2.2.2.1,x9.2.2.2.2.2.1,x9.2.2.2.2.2.2.1,x9.2.2.2.2.2.2.2)else(yL p_L p_At p_E p_Pos [] 1).bind fun x11=>some (x11.2.1,x11.2.2.1,x11.2.2.2,1,0,x11.1,([]:Bs8),[])))))
def yM:Nat→(List Token)→Int→Int→Int→Int→Option (Int×Int×Int×Int×Int×Bs8×Bs8×(List Expr))
 |0,_,_,_,_,_=>none
 |RK+1,p_L,p_At,p_E,p_Pos,level=>(bif (!(decide (p_E=0)))then some (p_At,p_E,p_Pos,0,0,([]:Bs8),([]:Bs8),[])else(bif (decide (level=8))then(A5 RK p_L p_At p_E p_Pos).bind fun x1=>some (x1.1,x1.2.1,x1.2.2.1,x1.2.2.2.1,x1.2.2.2.2.1,x1.2.2.2.2.2.1,x1.2.2.2.2.2.2.1,x1.2.2.2.2.2.2.2)else((bif (decide (level=0))then(yr p_L p_At p_E p_Pos zah).bind fun x3=>some x3 else some false)).bind fun x2=>(bif x2 then(yM RK p_L (w64 (p_At+1)) p_E p_Pos 0).bind fun x4=>(yp p_L x4.1 x4.2.1 x4.2.2.1 Ht).bind fun x5=>(yM RK p_L x5.1 x5.2.1 x5.2.2 0).bind fun x6=>(yp p_L x6.1 x6.2.1 x6.2.2.1 vW).bind fun x7=>(yM RK p_L x7.1 x7.2.1 x7.2.2 0).bind fun x8=>some (x8.1,x8.2.1,x8.2.2.1,16,0,([]:Bs8),([]:Bs8),([(Expr.mk x4.2.2.2.1 x4.2.2.2.2.1 x4.2.2.2.2.2.1 x4.2.2.2.2.2.2.1 x4.2.2.2.2.2.2.2),(Expr.mk x6.2.2.2.1 x6.2.2.2.2.1 x6.2.2.2.2.2.1 x6.2.2.2.2.2.2.1 x6.2.2.2.2.2.2.2),(Expr.mk x8.2.2.2.1 x8.2.2.2.2.1 x8.2.2.2.2.2.1 x8.2.2.2.2.2.2.1 x8.2.2.2.2.2.2.2)]:List Expr))else((bif (decide (level=3))then(yr p_L p_At p_E p_Pos ox).bind fun x10=>some x10 else some false)).bind fun x9=>(bif x9 then(yM RK p_L (w64 (p_At+1)) p_E p_Pos 3).bind fun x11=>some (x11.1,x11.2.1,x11.2.2.1,15,0,([]:Bs8),([]:Bs8),([(Expr.mk x11.2.2.2.1 x11.2.2.2.2.1 x11.2.2.2.2.2.1 x11.2.2.2.2.2.2.1 x11.2.2.2.2.2.2.2)]:List Expr))else((bif (decide (level=7))then(yr p_L p_At p_E p_Pos yT).bind fun x13=>some x13 else some false)).bind fun x12=>(bif x12 then(yM RK p_L (w64 (p_At+1)) p_E p_Pos 7).bind fun x14=>some (x14.1,x14.2.1,x14.2.2.1,9,0,([]:Bs8),([]:Bs8),([(Expr.mk x14.2.2.2.1 x14.2.2.2.2.1 x14.2.2.2.2.2.1 x14.2.2.2.2.2.2.1 x14.2.2.2.2.2.2.2)]:List Expr))else(yM RK p_L p_At p_E p_Pos (w64 (level+1))).bind fun x15=>(vO (yM RK) p_L level 0 ([]:Bs8) [] KK (x15.1,x15.2.1,x15.2.2.1,x15.2.2.2.1,x15.2.2.2.2.1,x15.2.2.2.2.2.1,x15.2.2.2.2.2.2.1,x15.2.2.2.2.2.2.2)).bind (xB some fun x16=>some (x16.1,x16.2.1,x16.2.2.1,x16.2.2.2.1,x16.2.2.2.2.1,x16.2.2.2.2.2.1,x16.2.2.2.2.2.2.1,x16.2.2.2.2.2.2.2)))))))
end
def vf(r_R_Levels:Expr→Option (Int))(c0:Int)(c1:Int)(c2:Bs8)(c3:Bs8)(c4:List Expr):Nat→(Int×Int)→Option (Int)
 |0,_=>none
 |K+1,q=>(bif (decide (q.2<(c4.length:Int)))then(idx c4 q.2).bind fun x1=>(r_R_Levels x1).bind fun x2=>vf r_R_Levels c0 c1 c2 c3 c4 K ((max q.1 x2),(w64 (q.2+1)))else some q.1)
def wo:Nat→Expr→Option (Int)
 |0,_=>none
 |RK+1,e=>(vf (wo RK) e.Op e.N e.S e.Key e.Args KK (0,0)).bind fun x1=>some (w64 (x1+1))
def uv(p_L:List Token)(p_At:Int)(p_E:Int)(p_Pos:Int)(e:Expr):Option (Int×Int×Int) :=
 (((yr p_L p_At p_E p_Pos yi).bind fun x3=>(bif x3 then(wo KK (Expr.mk e.Op e.N e.S e.Key e.Args)).bind fun x4=>some (decide (x4>12))else some false)).bind fun x2=>(bif x2 then(yD p_L p_At p_E p_Pos 6).bind fun x5=>some (x5.1,x5.2)else some (p_E,p_Pos))).bind fun x1=>(yp p_L p_At x1.1 x1.2 yi).bind fun x6=>some (x6.1,x6.2.1,x6.2.2)
def vg(p_L:List Token)(p_At:Int)(p_E:Int)(p_Pos:Int)(most:Int):Option (Int×Int×Int×Int) :=
 (yr p_L p_At p_E p_Pos yT).bind fun x1=>(bif x1 then(zN p_L (w64 (p_At+1)) p_E p_Pos 0 most).bind fun x2=>some ((w64 (0-x2.1)),x2.2.1,x2.2.2.1,x2.2.2.2)else(zN p_L p_At p_E p_Pos 0 most).bind fun x3=>some (x3.1,x3.2.1,x3.2.2.1,x3.2.2.2))
def wP(c0:List Token)(c1:Bs8)(c2:Int)(c3:Bs8)(c4:List Entry):Nat→(Int×Int×Int×(List Bs8)×(List Entry))→Option (Int×Int×Int×(List Entry))
 |0,_=>none
 |K+1,q=>(wN c0 q.1 q.2.1 q.2.2.1).bind fun x1=>(bif x1 then(yL c0 q.1 q.2.1 q.2.2.1 q.2.2.2.1 60).bind fun x2=>(grd (List.length (q.2.2.2.1++([x2.1]:List Bs8))*16≤140737488355328)).bind fun _=>(vg c0 x2.2.1 x2.2.2.1 x2.2.2.2 1099511627776).bind fun x4=>(grd (List.length (q.2.2.2.2++([(Entry.mk x2.1 x4.1)]:List Entry))*24≤140737488355328)).bind fun _=>wP c0 c1 c2 c3 c4 K (x4.2.1,x4.2.2.1,x4.2.2.2,(q.2.2.2.1++([x2.1]:List Bs8)),(q.2.2.2.2++([(Entry.mk x2.1 x4.1)]:List Entry)))else some (q.1,q.2.1,q.2.2.1,q.2.2.2.2))
def oY(p_L:List Token)(p_At:Int)(p_E:Int)(p_Pos:Int)(known:List Bs8):Option (Int×Int×Int×Bs8×Int×(List Entry)) :=
 (yL p_L p_At p_E p_Pos known 61).bind fun x1=>(wP p_L ([]:Bs8) 0 x1.1 ([]:List Entry) KK (x1.2.1,x1.2.2.1,x1.2.2.2,[],([]:List Entry))).bind fun x2=>(yp p_L x2.1 x2.2.1 x2.2.2.1 vW).bind fun x3=>(vg p_L x3.1 x3.2.1 x3.2.2 1099511627776).bind fun x4=>(yp p_L x4.2.1 x4.2.2.1 x4.2.2.2 yi).bind fun x5=>some (x5.1,x5.2.1,x5.2.2,x1.1,x4.1,x2.2.2.2)
def yQ(c0:List Token):Nat→(Int×Int×Int×(List zG))→Option (Int×Int×Int×(List zG))
 |0,_=>none
 |K+1,q=>((bif (decide ((((List.length q.2.2.2):Nat):Int)=0))then some true else(yP c0 q.1 q.2.1 q.2.2.1).bind fun x2=>some x2)).bind fun x1=>(bif x1 then(zN c0 q.1 q.2.1 q.2.2.1 0 1048576).bind fun x3=>(zN c0 x3.2.1 x3.2.2.1 x3.2.2.2 0 1048576).bind fun x4=>(grd (List.length (q.2.2.2++([(zG.mk x3.1 x4.1)]:List zG))*16≤140737488355328)).bind fun _=>yQ c0 K (x4.2.1,x4.2.2.1,x4.2.2.2,(q.2.2.2++([(zG.mk x3.1 x4.1)]:List zG)))else some (q.1,q.2.1,q.2.2.1,q.2.2.2))
def kd(p_L:List Token)(p_At:Int)(p_E:Int)(p_Pos:Int):Option ((List zG)×Int×Int×Int) :=
 (yQ p_L KK (p_At,p_E,p_Pos,[])).bind fun x1=>some (x1.2.2.2,x1.1,x1.2.1,x1.2.2.1)
def wq(c0:List zG)(c1:Int):Nat→(Int)→Option ((Bool)⊕(Unit))
 |0,_=>none
 |K+1,q=>(bif (decide (q<c1))then(idx c0 q).bind fun x1=>(grd (c1≠0)).bind fun _=>(idx c0 (Int.tmod (w64 (q+1)) c1)).bind fun x3=>(grd (c1≠0)).bind fun _=>(idx c0 (Int.tmod (w64 (q+2)) c1)).bind fun x5=>((bif (decide (x1.X<0))then some true else(bif (decide (x1.X>1048576))then some true else(bif (decide (x1.Y<0))then some true else(bif (decide (x1.Y>1048576))then some true else(bif ((decide (x1.X=x3.X))==(decide (x1.Y=x3.Y)))then some true else some ((decide (x1.X=x3.X))==(decide (x3.X=x5.X))))))))).bind fun x6=>(bif x6 then some (Sum.inl false)else wq c0 c1 K (w64 (q+1)))else some (Sum.inr ()))
def A6(p:List zG):Option (Bool) :=
 (wq p (p.length:Int) KK 0).bind (xB some fun _=>some true)
def Vk(a:zG)(b:zG):Option (Bool) :=
 (bif (decide (a.X<b.X))then some true else(bif (decide (a.X=b.X))then some (decide (a.Y<b.Y))else some false))
def zhk(a:zG)(b:zG)(c_:zG)(d:zG):Option (Bool) :=
 (bif (decide ((max (min a.X b.X) (min c_.X d.X))≤(min (max a.X b.X) (max c_.X d.X))))then some (decide ((max (min a.Y b.Y) (min c_.Y d.Y))≤(min (max a.Y b.Y) (max c_.Y d.Y))))else some false)
def jc(c0:List zG)(c1:Int)(c2:Int):Nat→(Int)→Option ((Bool)⊕(Unit))
 |0,_=>none
 |K+1,q=>(bif (decide (q<c1))then((grd (c1≠0)).bind fun _=>(bif (!(decide ((Int.tmod (w64 (q+1)) c1)=c2)))then(idx c0 c2).bind fun x3=>(idx c0 (w64 (c2+1))).bind fun x4=>(idx c0 q).bind fun x5=>(grd (c1≠0)).bind fun _=>(idx c0 (Int.tmod (w64 (q+1)) c1)).bind fun x7=>(zhk x3 x4 x5 x7).bind fun x8=>some x8 else some false)).bind fun x1=>(bif x1 then some (Sum.inl false)else jc c0 c1 c2 K (w64 (q+1)))else some (Sum.inr ()))
def jd(c0:List zG)(c1:Int):Nat→(Int)→Option ((Bool)⊕(Unit))
 |0,_=>none
 |K+1,q=>(bif (decide (q<c1))then((bif (decide (q>0))then(idx c0 0).bind fun x2=>(idx c0 q).bind fun x3=>(Vk x2 x3).bind fun x4=>some (!x4)else some false)).bind fun x1=>(bif x1 then some (Sum.inl false)else(jc c0 c1 q KK (w64 (q+2))).bind (xB (fun q=>some (Sum.inl q)) fun _=>jd c0 c1 K (w64 (q+1))))else some (Sum.inr ()))
def Vl(p:List zG):Option (Bool) :=
 ((bif (decide ((p.length:Int)<4))then some true else some (decide ((p.length:Int)>60)))).bind fun x1=>(bif x1 then some false else((A6 p).bind fun x3=>(bif (!x3)then some true else(idx p 0).bind fun x4=>(idx p 1).bind fun x5=>some (!(decide (x4.Y=x5.Y))))).bind fun x2=>(bif x2 then some false else(jd p (p.length:Int) KK 0).bind (xB some fun _=>some true)))
def uw(p_L:List Token)(p_At:Int)(p_E:Int)(p_Pos:Int)(l:List zG):Option (Int×Int×Int) :=
 (((yr p_L p_At p_E p_Pos yi).bind fun x3=>(bif x3 then(Vl l).bind fun x4=>some (!x4)else some false)).bind fun x2=>(bif x2 then(yD p_L p_At p_E p_Pos 10).bind fun x5=>some (x5.1,x5.2)else some (p_E,p_Pos))).bind fun x1=>(yp p_L p_At x1.1 x1.2 yi).bind fun x6=>some (x6.1,x6.2.1,x6.2.2)
def vP(c0:List Token):Nat→(Int×Int×Int×(List Bs8))→Option (((List Bs8)×Int×Int×Int)⊕(Int×Int×Int×(List Bs8)))
 |0,_=>none
 |K+1,q=>((bif (decide ((((List.length q.2.2.2):Nat):Int)=0))then some true else(wN c0 q.1 q.2.1 q.2.2.1).bind fun x2=>some x2)).bind fun x1=>(bif x1 then(yL c0 q.1 q.2.1 q.2.2.1 [] 1).bind fun x3=>(grd (List.length (q.2.2.2++([x3.1]:List Bs8))*16≤140737488355328)).bind fun _=>(bif (!(decide (x3.2.2.1=0)))then some (Sum.inl ((q.2.2.2++([x3.1]:List Bs8)),x3.2.1,x3.2.2.1,x3.2.2.2))else vP c0 K (x3.2.1,x3.2.2.1,x3.2.2.2,(q.2.2.2++([x3.1]:List Bs8))))else some (Sum.inr (q.1,q.2.1,q.2.2.1,q.2.2.2)))
def A7(p_L:List Token)(p_At:Int)(p_E:Int)(p_Pos:Int):Option ((List Bs8)×Int×Int×Int) :=
 (vP p_L KK (p_At,p_E,p_Pos,[])).bind (xB some fun x1=>some (x1.2.2.2,x1.1,x1.2.1,x1.2.2.1))
def wQ:Option ((List Bs8)) :=
 some ([zOb,zOe,zOf,zOd,zJ8,zOa]:List Bs8)
def WI(n:Int):Option (Int) :=
 (grd (0≤n∧n<((6:Nat):Int))).bind fun _=>((([1,2,4,8,16,32]:List Int))[(Int.toNat n)]?).bind fun x2=>some x2
def vh(p_L:List Token)(p_At:Int)(p_E:Int)(p_Pos:Int)(l:List Bs8):Option (Int×Int×Int×Int) :=
 ((bif (!(decide (p_E=0)))then some true else(idx p_L p_At).bind fun x2=>(bif (!(decide (x2.Kind=0)))then some true else(idx p_L p_At).bind fun x3=>(kC l x3.Text).bind fun x4=>some (decide (x4<0))))).bind fun x1=>(bif x1 then(yD p_L p_At p_E p_Pos 14).bind fun x5=>some (0,p_At,x5.1,x5.2)else(idx p_L (w64 ((w64 (p_At+1))-1))).bind fun x6=>(kC l x6.Text).bind fun x7=>some (x7,(w64 (p_At+1)),p_E,p_Pos))
def vQ(c0:List Token):Nat→(Int×Int×Int×Int)→Option ((Int×Int×Int×Int)⊕(Int×Int×Int×Int))
 |0,_=>none
 |K+1,q=>((bif (decide (q.2.2.2=0))then some true else(bif (decide (q.2.1=0))then(idx c0 q.1).bind fun x2=>(bif (decide (x2.Kind=0))then(wQ).bind fun x3=>(idx c0 q.1).bind fun x4=>(kC x3 x4.Text).bind fun x5=>some (decide (x5≥0))else some false)else some false))).bind fun x1=>(bif x1 then(bif (!(decide (q.2.1=0)))then some (Sum.inl (q.2.2.2,q.1,q.2.1,q.2.2.1))else(wQ).bind fun x6=>(idx c0 q.1).bind fun x7=>(kC x6 x7.Text).bind fun x8=>((bif (decide (x8≥0))then(WI x8).bind fun x10=>(grd (x10≠0)).bind fun _=>some (decide ((Int.tmod (w64 (Int.tdiv q.2.2.2 x10)) 2)=1))else some false)).bind fun x9=>(bif x9 then(yD c0 q.1 q.2.1 q.2.2.1 5).bind fun x12=>some (Sum.inl (q.2.2.2,q.1,x12.1,x12.2))else(wQ).bind fun x13=>(vh c0 q.1 q.2.1 q.2.2.1 x13).bind fun x14=>(WI x14.1).bind fun x15=>vQ c0 K (x14.2.1,x14.2.2.1,x14.2.2.2,(w64 (q.2.2.2+x15)))))else some (Sum.inr (q.1,q.2.1,q.2.2.1,q.2.2.2)))
def Zc(p_L:List Token)(p_At:Int)(p_E:Int)(p_Pos:Int):Option (Int×Int×Int×Int) :=
 (vQ p_L KK (p_At,p_E,p_Pos,0)).bind (xB some fun x1=>some (x1.2.2.2,x1.1,x1.2.1,x1.2.2.1))
def JN(p_L:List Token)(p_At:Int)(p_E:Int)(p_Pos:Int)(r_:zX):Option (Int×Int×Int×Bs8×(List Bs8)×(List Bs8)×Int×Int×Int×Bool×Int×Int×Int×Bs8×Bs8×(List Expr)×Int×Int×Int×Int×Int×Int×Int) :=
 (yr p_L p_At p_E p_Pos AD).bind fun x1=>(bif x1 then(zN p_L (w64 (p_At+1)) p_E p_Pos 0 3).bind fun x2=>(yp p_L x2.2.1 x2.2.2.1 x2.2.2.2 Ke).bind fun x3=>(zN p_L x3.1 x3.2.1 x3.2.2 0 4096).bind fun x4=>(yp p_L x4.2.1 x4.2.2.1 x4.2.2.2 oy).bind fun x5=>(zN p_L x5.1 x5.2.1 x5.2.2 0 4096).bind fun x6=>(zN p_L x6.2.1 x6.2.2.1 x6.2.2.2 1 4096).bind fun x7=>(yp p_L x7.2.1 x7.2.2.1 x7.2.2.2 yi).bind fun x8=>some (x8.1,x8.2.1,x8.2.2,r_.Name,r_.Zones,r_.Except,r_.From,r_.Until,r_.Grace,r_.Vary,1,r_.Test.Op,r_.Test.N,r_.Test.S,r_.Test.Key,r_.Test.Args,x2.1,x4.1,x6.1,x7.1,r_.Uses,r_.Other,r_.N)else(yr p_L p_At p_E p_Pos Q8).bind fun x9=>(bif x9 then(Zc p_L (w64 (p_At+1)) p_E p_Pos).bind fun x10=>(yp p_L x10.2.1 x10.2.2.1 x10.2.2.2 yi).bind fun x11=>some (x11.1,x11.2.1,x11.2.2,r_.Name,r_.Zones,r_.Except,r_.From,r_.Until,r_.Grace,r_.Vary,2,r_.Test.Op,r_.Test.N,r_.Test.S,r_.Test.Key,r_.Test.Args,r_.zE.Side,r_.zE.Base,r_.zE.Num,r_.zE.Den,x10.1,r_.Other,r_.N)else(yr p_L p_At p_E p_Pos AA).bind fun x12=>(bif x12 then(wQ).bind fun x13=>(vh p_L (w64 (p_At+1)) p_E p_Pos x13).bind fun x14=>(wQ).bind fun x15=>(vh p_L x14.2.1 x14.2.2.1 x14.2.2.2 x15).bind fun x16=>(zN p_L x16.2.1 x16.2.2.1 x16.2.2.2 0 1048576).bind fun x17=>(yp p_L x17.2.1 x17.2.2.1 x17.2.2.2 yi).bind fun x18=>some (x18.1,x18.2.1,x18.2.2,r_.Name,r_.Zones,r_.Except,r_.From,r_.Until,r_.Grace,r_.Vary,3,r_.Test.Op,r_.Test.N,r_.Test.S,r_.Test.Key,r_.Test.Args,r_.zE.Side,r_.zE.Base,r_.zE.Num,r_.zE.Den,x14.1,x16.1,x17.1)else(yM KK p_L p_At p_E p_Pos 0).bind fun x19=>(uv p_L x19.1 x19.2.1 x19.2.2.1 (Expr.mk x19.2.2.2.1 x19.2.2.2.2.1 x19.2.2.2.2.2.1 x19.2.2.2.2.2.2.1 x19.2.2.2.2.2.2.2)).bind fun x20=>some (x20.1,x20.2.1,x20.2.2,r_.Name,r_.Zones,r_.Except,r_.From,r_.Until,r_.Grace,r_.Vary,0,x19.2.2.2.1,x19.2.2.2.2.1,x19.2.2.2.2.2.1,x19.2.2.2.2.2.2.1,x19.2.2.2.2.2.2.2,r_.zE.Side,r_.zE.Base,r_.zE.Num,r_.zE.Den,r_.Uses,r_.Other,r_.N))))
def JO(p_L:List Token)(p_At:Int)(p_E:Int)(p_Pos:Int)(known:List Bs8):Option (Int×Int×Int×Bs8×(List Bs8)×(List Bs8)×Int×Int×Int×Bool×Int×Int×Int×Bs8×Bs8×(List Expr)×Int×Int×Int×Int×Int×Int×Int) :=
 (yL p_L p_At p_E p_Pos known 201).bind fun x1=>((yr p_L x1.2.1 x1.2.2.1 x1.2.2.2 zDt).bind fun x3=>(bif x3 then(A7 p_L (w64 (x1.2.1+1)) x1.2.2.1 x1.2.2.2).bind fun x4=>some (x4.2.1,x4.2.2.1,x4.2.2.2,x4.1)else some (x1.2.1,x1.2.2.1,x1.2.2.2,[]))).bind fun x2=>((yr p_L x2.1 x2.2.1 x2.2.2.1 qm).bind fun x6=>(bif x6 then(A7 p_L (w64 (x2.1+1)) x2.2.1 x2.2.2.1).bind fun x7=>some (x7.2.1,x7.2.2.1,x7.2.2.2,x7.1)else some (x2.1,x2.2.1,x2.2.2.1,[]))).bind fun x5=>((yr p_L x5.1 x5.2.1 x5.2.2.1 Q7).bind fun x9=>(bif x9 then(zN p_L (w64 (x5.1+1)) x5.2.1 x5.2.2.1 0 1073741824).bind fun x10=>some (x10.2.1,x10.2.2.1,x10.2.2.2,x10.1)else some (x5.1,x5.2.1,x5.2.2.1,0))).bind fun x8=>((yr p_L x8.1 x8.2.1 x8.2.2.1 AF).bind fun x12=>(bif x12 then(zN p_L (w64 (x8.1+1)) x8.2.1 x8.2.2.1 (w64 (x8.2.2.2+1)) 1073741824).bind fun x13=>some (x13.2.1,x13.2.2.1,x13.2.2.2,x13.1)else some (x8.1,x8.2.1,x8.2.2.1,0))).bind fun x11=>((yr p_L x11.1 x11.2.1 x11.2.2.1 AB).bind fun x15=>(bif x15 then(zN p_L (w64 (x11.1+1)) x11.2.1 x11.2.2.1 0 1073741824).bind fun x16=>some (x16.2.1,x16.2.2.1,x16.2.2.2,x16.1)else some (x11.1,x11.2.1,x11.2.2.1,0))).bind fun x14=>((yr p_L x14.1 x14.2.1 x14.2.2.1 kP).bind fun x18=>(bif x18 then some ((w64 (x14.1+1)),true)else some (x14.1,false))).bind fun x17=>(yp p_L x17.1 x14.2.1 x14.2.2.1 uK).bind fun x19=>(JN p_L x19.1 x19.2.1 x19.2.2 (zX.mk x1.1 x2.2.2.2 x5.2.2.2 x8.2.2.2 x11.2.2.2 x14.2.2.2 x17.2 0 (Expr.mk 0 0 ([]:Bs8) ([]:Bs8) []) (zE.mk 0 0 0 0) 0 0 0)).bind fun x20=>some (x20.1,x20.2.1,x20.2.2.1,x20.2.2.2.1,x20.2.2.2.2.1,x20.2.2.2.2.2.1,x20.2.2.2.2.2.2.1,x20.2.2.2.2.2.2.2.1,x20.2.2.2.2.2.2.2.2.1,x20.2.2.2.2.2.2.2.2.2.1,x20.2.2.2.2.2.2.2.2.2.2.1,x20.2.2.2.2.2.2.2.2.2.2.2.1,x20.2.2.2.2.2.2.2.2.2.2.2.2.1,x20.2.2.2.2.2.2.2.2.2.2.2.2.2.1,x20.2.2.2.2.2.2.2.2.2.2.2.2.2.2.1,x20.2.2.2.2.2.2.2.2.2.2.2.2.2.2.2.1,x20.2.2.2.2.2.2.2.2.2.2.2.2.2.2.2.2.1,x20.2.2.2.2.2.2.2.2.2.2.2.2.2.2.2.2.2.1,x20.2.2.2.2.2.2.2.2.2.2.2.2.2.2.2.2.2.2.1,x20.2.2.2.2.2.2.2.2.2.2.2.2.2.2.2.2.2.2.2.1,x20.2.2.2.2.2.2.2.2.2.2.2.2.2.2.2.2.2.2.2.2.1,x20.2.2.2.2.2.2.2.2.2.2.2.2.2.2.2.2.2.2.2.2.2.1,x20.2.2.2.2.2.2.2.2.2.2.2.2.2.2.2.2.2.2.2.2.2.2)
def A8:Option ((List Bs8)) :=
 some ([zJ6,zyl,zDu]:List Bs8)
def ux(p_L:List Token)(p_At:Int)(p_E:Int)(p_Pos:Int):Option (Int×Int×Int×Int×Int×Int) :=
 (zN p_L p_At p_E p_Pos 0 1048576).bind fun x1=>(zN p_L x1.2.1 x1.2.2.1 x1.2.2.2 0 1048576).bind fun x2=>(zN p_L x2.2.1 x2.2.2.1 x2.2.2.2 0 4096).bind fun x3=>some (x3.2.1,x3.2.2.1,x3.2.2.2,x1.1,x2.1,x3.1)
def xH(c0:List Token)(c1:Bs8)(c2:Int)(c3:Bs8)(c4:Int)(c5:Int)(c6:Int)(c7:Int)(c8:List zf):Nat→(Int×Int×Int×(List zf))→Option (Int×Int×Int×(List zf))
 |0,_=>none
 |K+1,q=>((bif (decide ((((List.length q.2.2.2):Nat):Int)=0))then some (true,q.2.2.2)else(yP c0 q.1 q.2.1 q.2.2.1).bind fun x2=>some (x2,q.2.2.2))).bind fun x1=>(bif x1.1 then((bif (decide ((((List.length x1.2):Nat):Int)=20))then(yD c0 q.1 q.2.1 q.2.2.1 6).bind fun x4=>some (x4.1,x4.2,x1.2)else some (q.2.1,q.2.2.1,x1.2))).bind fun x3=>(ux c0 q.1 x3.1 x3.2.1).bind fun x5=>(grd (List.length (x3.2.2++([(zf.mk x5.2.2.2.1 x5.2.2.2.2.1 x5.2.2.2.2.2)]:List zf))*24≤140737488355328)).bind fun _=>xH c0 c1 c2 c3 c4 c5 c6 c7 c8 K (x5.1,x5.2.1,x5.2.2.1,(x3.2.2++([(zf.mk x5.2.2.2.1 x5.2.2.2.2.1 x5.2.2.2.2.2)]:List zf)))else some (q.1,q.2.1,q.2.2.1,x1.2))
def JP(p_L:List Token)(p_At:Int)(p_E:Int)(p_Pos:Int)(known:List Bs8):Option (Int×Int×Int×Bs8×Int×Int×Int×Int×(List zf)) :=
 (yL p_L p_At p_E p_Pos known 61).bind fun x1=>(ux p_L x1.2.1 x1.2.2.1 x1.2.2.2).bind fun x2=>(yp p_L x2.1 x2.2.1 x2.2.2.1 ow).bind fun x3=>(zN p_L x3.1 x3.2.1 x3.2.2 0 20).bind fun x4=>(yp p_L x4.2.1 x4.2.2.1 x4.2.2.2 uK).bind fun x5=>(xH p_L ([]:Bs8) 0 x1.1 x2.2.2.2.1 x2.2.2.2.2.1 x2.2.2.2.2.2 x4.1 ([]:List zf) KK (x5.1,x5.2.1,x5.2.2,([]:List zf))).bind fun x6=>(yp p_L x6.1 x6.2.1 x6.2.2.1 yi).bind fun x7=>some (x7.1,x7.2.1,x7.2.2,x1.1,x2.2.2.2.1,x2.2.2.2.2.1,x2.2.2.2.2.2,x4.1,x6.2.2.2)
def vi(c0:List Token):Nat→(Int×Int×Int×(List zf))→Option (Int×Int×Int×(List zf))
 |0,_=>none
 |K+1,q=>((bif (decide ((((List.length q.2.2.2):Nat):Int)=0))then some true else(yr c0 q.1 q.2.1 q.2.2.1 KB).bind fun x2=>some x2)).bind fun x1=>(bif x1 then((bif (decide ((((List.length q.2.2.2):Nat):Int)>0))then some (w64 (q.1+1))else some q.1)).bind fun x3=>(((bif (decide ((((List.length q.2.2.2):Nat):Int)=24))then(yr c0 x3 q.2.1 q.2.2.1 yT).bind fun x6=>(bif x6 then some true else(yP c0 x3 q.2.1 q.2.2.1).bind fun x7=>some x7)else some false)).bind fun x5=>(bif x5 then(yD c0 x3 q.2.1 q.2.2.1 6).bind fun x8=>some (x8.1,x8.2)else some (q.2.1,q.2.2.1))).bind fun x4=>(vg c0 x3 x4.1 x4.2 4096).bind fun x9=>(vg c0 x9.2.1 x9.2.2.1 x9.2.2.2 4096).bind fun x10=>(zN c0 x10.2.1 x10.2.2.1 x10.2.2.2 1 4096).bind fun x11=>(grd (List.length (q.2.2.2++([(zf.mk x9.1 x10.1 x11.1)]:List zf))*24≤140737488355328)).bind fun _=>vi c0 K (x11.2.1,x11.2.2.1,x11.2.2.2,(q.2.2.2++([(zf.mk x9.1 x10.1 x11.1)]:List zf)))else some (q.1,q.2.1,q.2.2.1,q.2.2.2))
def WJ(p_L:List Token)(p_At:Int)(p_E:Int)(p_Pos:Int):Option ((List zf)×Int×Int×Int) :=
 (vi p_L KK (p_At,p_E,p_Pos,[])).bind fun x1=>(yp p_L x1.1 x1.2.1 x1.2.2.1 yi).bind fun x2=>some (x1.2.2.2,x2.1,x2.2.1,x2.2.2)
def yx(c0:List Token)(c1:List zf)(c2:Int)(c3:List Def)(c4:List Table)(c5:List yl)(c6:List zX)(c7:List Cap)(c8:List View):Nat→(Int×Int×Int×Bool×(List zf)×Int×(List Def)×(List Table)×(List yl)×(List zX)×(List Cap)×(List View))→Option (Int×Int×Int×(List zf)×Int×(List Def)×(List Table)×(List yl)×(List zX)×(List Cap)×(List View))
 |0,_=>none
 |K+1,q=>((bif (decide (q.2.1=0))then(idx c0 q.1).bind fun x2=>some ((!(decide (x2.Kind=3))),q.2.2.2.2.1,q.2.2.2.2.2.1,q.2.2.2.2.2.2.1,q.2.2.2.2.2.2.2.1,q.2.2.2.2.2.2.2.2.1,q.2.2.2.2.2.2.2.2.2.1,q.2.2.2.2.2.2.2.2.2.2.1,q.2.2.2.2.2.2.2.2.2.2.2)else some (false,q.2.2.2.2.1,q.2.2.2.2.2.1,q.2.2.2.2.2.2.1,q.2.2.2.2.2.2.2.1,q.2.2.2.2.2.2.2.2.1,q.2.2.2.2.2.2.2.2.2.1,q.2.2.2.2.2.2.2.2.2.2.1,q.2.2.2.2.2.2.2.2.2.2.2))).bind fun x1=>(bif x1.1 then(yr c0 q.1 q.2.1 q.2.2.1 ql).bind fun x3=>(bif x3 then(jE c0 q.1 q.2.1 q.2.2.1 (((List.length x1.2.2.2.1):Nat):Int) 60).bind fun x4=>(xu (wB.mk x1.2.2.2.1 x1.2.2.2.2.1 x1.2.2.2.2.2.1 x1.2.2.2.2.2.2.1 x1.2.2.2.2.2.2.2.1 x1.2.2.2.2.2.2.2.2 x1.2.1 x1.2.2.1) 0).bind fun x5=>(yL c0 x4.1 x4.2.1 x4.2.2 x5 61).bind fun x6=>(yp c0 x6.2.1 x6.2.2.1 x6.2.2.2 Q9).bind fun x7=>(yM KK c0 x7.1 x7.2.1 x7.2.2 0).bind fun x8=>(uv c0 x8.1 x8.2.1 x8.2.2.1 (Expr.mk x8.2.2.2.1 x8.2.2.2.2.1 x8.2.2.2.2.2.1 x8.2.2.2.2.2.2.1 x8.2.2.2.2.2.2.2)).bind fun x9=>(grd (List.length (x1.2.2.2.1++([(Def.mk x6.1 (Expr.mk x8.2.2.2.1 x8.2.2.2.2.1 x8.2.2.2.2.2.1 x8.2.2.2.2.2.2.1 x8.2.2.2.2.2.2.2))]:List Def))*88≤140737488355328)).bind fun _=>yx c0 c1 c2 c3 c4 c5 c6 c7 c8 K (x9.1,x9.2.1,x9.2.2,q.2.2.2.1,x1.2.1,x1.2.2.1,(x1.2.2.2.1++([(Def.mk x6.1 (Expr.mk x8.2.2.2.1 x8.2.2.2.2.1 x8.2.2.2.2.2.1 x8.2.2.2.2.2.2.1 x8.2.2.2.2.2.2.2))]:List Def)),x1.2.2.2.2.1,x1.2.2.2.2.2.1,x1.2.2.2.2.2.2.1,x1.2.2.2.2.2.2.2.1,x1.2.2.2.2.2.2.2.2)else(yr c0 q.1 q.2.1 q.2.2.1 xG).bind fun x11=>(bif x11 then(jE c0 q.1 q.2.1 q.2.2.1 (((List.length x1.2.2.2.2.1):Nat):Int) 60).bind fun x12=>(xu (wB.mk x1.2.2.2.1 x1.2.2.2.2.1 x1.2.2.2.2.2.1 x1.2.2.2.2.2.2.1 x1.2.2.2.2.2.2.2.1 x1.2.2.2.2.2.2.2.2 x1.2.1 x1.2.2.1) 1).bind fun x13=>(oY c0 x12.1 x12.2.1 x12.2.2 x13).bind fun x14=>(grd (List.length (x1.2.2.2.2.1++([(Table.mk x14.2.2.2.1 x14.2.2.2.2.2 x14.2.2.2.2.1)]:List Table))*48≤140737488355328)).bind fun _=>yx c0 c1 c2 c3 c4 c5 c6 c7 c8 K (x14.1,x14.2.1,x14.2.2.1,q.2.2.2.1,x1.2.1,x1.2.2.1,x1.2.2.2.1,(x1.2.2.2.2.1++([(Table.mk x14.2.2.2.1 x14.2.2.2.2.2 x14.2.2.2.2.1)]:List Table)),x1.2.2.2.2.2.1,x1.2.2.2.2.2.2.1,x1.2.2.2.2.2.2.2.1,x1.2.2.2.2.2.2.2.2)else((yr c0 q.1 q.2.1 q.2.2.1 wH).bind fun x17=>(bif x17 then some (true,x1.2.1,x1.2.2.1,x1.2.2.2.2.2.1,x1.2.2.2.2.2.2.1,x1.2.2.2.2.2.2.2.1,x1.2.2.2.2.2.2.2.2)else(yr c0 q.1 q.2.1 q.2.2.1 xf).bind fun x18=>some (x18,x1.2.1,x1.2.2.1,x1.2.2.2.2.2.1,x1.2.2.2.2.2.2.1,x1.2.2.2.2.2.2.2.1,x1.2.2.2.2.2.2.2.2))).bind fun x16=>(bif x16.1 then(yr c0 q.1 q.2.1 q.2.2.1 xf).bind fun x19=>(jE c0 q.1 q.2.1 q.2.2.1 (((List.length x16.2.2.2.1):Nat):Int) 60).bind fun x20=>(xu (wB.mk x1.2.2.2.1 x1.2.2.2.2.1 x16.2.2.2.1 x16.2.2.2.2.1 x16.2.2.2.2.2.1 x16.2.2.2.2.2.2 x16.2.1 x16.2.2.1) 2).bind fun x21=>(yL c0 x20.1 x20.2.1 x20.2.2 x21 61).bind fun x22=>(kd c0 x22.2.1 x22.2.2.1 x22.2.2.2).bind fun x23=>(uw c0 x23.2.1 x23.2.2.1 x23.2.2.2 x23.1).bind fun x24=>(grd (List.length (x16.2.2.2.1++([(yl.mk x22.1 x19 x23.1)]:List yl))*48≤140737488355328)).bind fun _=>yx c0 c1 c2 c3 c4 c5 c6 c7 c8 K (x24.1,x24.2.1,x24.2.2,q.2.2.2.1,x16.2.1,x16.2.2.1,x1.2.2.2.1,x1.2.2.2.2.1,(x16.2.2.2.1++([(yl.mk x22.1 x19 x23.1)]:List yl)),x16.2.2.2.2.1,x16.2.2.2.2.2.1,x16.2.2.2.2.2.2)else(yr c0 q.1 q.2.1 q.2.2.1 Hs).bind fun x26=>(bif x26 then(jE c0 q.1 q.2.1 q.2.2.1 (((List.length x16.2.2.2.2.1):Nat):Int) 200).bind fun x27=>(xu (wB.mk x1.2.2.2.1 x1.2.2.2.2.1 x16.2.2.2.1 x16.2.2.2.2.1 x16.2.2.2.2.2.1 x16.2.2.2.2.2.2 x16.2.1 x16.2.2.1) 3).bind fun x28=>(JO c0 x27.1 x27.2.1 x27.2.2 x28).bind fun x29=>(grd (List.length (x16.2.2.2.2.1++([(zX.mk x29.2.2.2.1 x29.2.2.2.2.1 x29.2.2.2.2.2.1 x29.2.2.2.2.2.2.1 x29.2.2.2.2.2.2.2.1 x29.2.2.2.2.2.2.2.2.1 x29.2.2.2.2.2.2.2.2.2.1 x29.2.2.2.2.2.2.2.2.2.2.1 (Expr.mk x29.2.2.2.2.2.2.2.2.2.2.2.1 x29.2.2.2.2.2.2.2.2.2.2.2.2.1 x29.2.2.2.2.2.2.2.2.2.2.2.2.2.1 x29.2.2.2.2.2.2.2.2.2.2.2.2.2.2.1 x29.2.2.2.2.2.2.2.2.2.2.2.2.2.2.2.1) (zE.mk x29.2.2.2.2.2.2.2.2.2.2.2.2.2.2.2.2.1 x29.2.2.2.2.2.2.2.2.2.2.2.2.2.2.2.2.2.1 x29.2.2.2.2.2.2.2.2.2.2.2.2.2.2.2.2.2.2.1 x29.2.2.2.2.2.2.2.2.2.2.2.2.2.2.2.2.2.2.2.1) x29.2.2.2.2.2.2.2.2.2.2.2.2.2.2.2.2.2.2.2.2.1 x29.2.2.2.2.2.2.2.2.2.2.2.2.2.2.2.2.2.2.2.2.2.1 x29.2.2.2.2.2.2.2.2.2.2.2.2.2.2.2.2.2.2.2.2.2.2)]:List zX))*232≤140737488355328)).bind fun _=>yx c0 c1 c2 c3 c4 c5 c6 c7 c8 K (x29.1,x29.2.1,x29.2.2.1,q.2.2.2.1,x16.2.1,x16.2.2.1,x1.2.2.2.1,x1.2.2.2.2.1,x16.2.2.2.1,(x16.2.2.2.2.1++([(zX.mk x29.2.2.2.1 x29.2.2.2.2.1 x29.2.2.2.2.2.1 x29.2.2.2.2.2.2.1 x29.2.2.2.2.2.2.2.1 x29.2.2.2.2.2.2.2.2.1 x29.2.2.2.2.2.2.2.2.2.1 x29.2.2.2.2.2.2.2.2.2.2.1 (Expr.mk x29.2.2.2.2.2.2.2.2.2.2.2.1 x29.2.2.2.2.2.2.2.2.2.2.2.2.1 x29.2.2.2.2.2.2.2.2.2.2.2.2.2.1 x29.2.2.2.2.2.2.2.2.2.2.2.2.2.2.1 x29.2.2.2.2.2.2.2.2.2.2.2.2.2.2.2.1) (zE.mk x29.2.2.2.2.2.2.2.2.2.2.2.2.2.2.2.2.1 x29.2.2.2.2.2.2.2.2.2.2.2.2.2.2.2.2.2.1 x29.2.2.2.2.2.2.2.2.2.2.2.2.2.2.2.2.2.2.1 x29.2.2.2.2.2.2.2.2.2.2.2.2.2.2.2.2.2.2.2.1) x29.2.2.2.2.2.2.2.2.2.2.2.2.2.2.2.2.2.2.2.2.1 x29.2.2.2.2.2.2.2.2.2.2.2.2.2.2.2.2.2.2.2.2.2.1 x29.2.2.2.2.2.2.2.2.2.2.2.2.2.2.2.2.2.2.2.2.2.2)]:List zX)),x16.2.2.2.2.2.1,x16.2.2.2.2.2.2)else(yr c0 q.1 q.2.1 q.2.2.1 zag).bind fun x31=>(bif x31 then(jE c0 q.1 q.2.1 q.2.2.1 (((List.length x16.2.2.2.2.2.1):Nat):Int) 30).bind fun x32=>(xu (wB.mk x1.2.2.2.1 x1.2.2.2.2.1 x16.2.2.2.1 x16.2.2.2.2.1 x16.2.2.2.2.2.1 x16.2.2.2.2.2.2 x16.2.1 x16.2.2.1) 4).bind fun x33=>(yL c0 x32.1 x32.2.1 x32.2.2 x33 31).bind fun x34=>(A8).bind fun x35=>(vh c0 x34.2.1 x34.2.2.1 x34.2.2.2 x35).bind fun x36=>(zN c0 x36.2.1 x36.2.2.1 x36.2.2.2 0 1099511627776).bind fun x37=>(kd c0 x37.2.1 x37.2.2.1 x37.2.2.2).bind fun x38=>(uw c0 x38.2.1 x38.2.2.1 x38.2.2.2 x38.1).bind fun x39=>(grd (List.length (x16.2.2.2.2.2.1++([(Cap.mk x34.1 x36.1 x37.1 x38.1)]:List Cap))*56≤140737488355328)).bind fun _=>yx c0 c1 c2 c3 c4 c5 c6 c7 c8 K (x39.1,x39.2.1,x39.2.2,q.2.2.2.1,x16.2.1,x16.2.2.1,x1.2.2.2.1,x1.2.2.2.2.1,x16.2.2.2.1,x16.2.2.2.2.1,(x16.2.2.2.2.2.1++([(Cap.mk x34.1 x36.1 x37.1 x38.1)]:List Cap)),x16.2.2.2.2.2.2)else(yr c0 q.1 q.2.1 q.2.2.1 HQ).bind fun x41=>(bif x41 then(jE c0 q.1 q.2.1 q.2.2.1 (((List.length x16.2.2.2.2.2.2):Nat):Int) 60).bind fun x42=>(xu (wB.mk x1.2.2.2.1 x1.2.2.2.2.1 x16.2.2.2.1 x16.2.2.2.2.1 x16.2.2.2.2.2.1 x16.2.2.2.2.2.2 x16.2.1 x16.2.2.1) 5).bind fun x43=>(JP c0 x42.1 x42.2.1 x42.2.2 x43).bind fun x44=>(grd (List.length (x16.2.2.2.2.2.2++([(View.mk x44.2.2.2.1 (zf.mk x44.2.2.2.2.1 x44.2.2.2.2.2.1 x44.2.2.2.2.2.2.1) x44.2.2.2.2.2.2.2.1 x44.2.2.2.2.2.2.2.2)]:List View))*72≤140737488355328)).bind fun _=>yx c0 c1 c2 c3 c4 c5 c6 c7 c8 K (x44.1,x44.2.1,x44.2.2.1,q.2.2.2.1,x16.2.1,x16.2.2.1,x1.2.2.2.1,x1.2.2.2.2.1,x16.2.2.2.1,x16.2.2.2.2.1,x16.2.2.2.2.2.1,(x16.2.2.2.2.2.2++([(View.mk x44.2.2.2.1 (zf.mk x44.2.2.2.2.1 x44.2.2.2.2.2.1 x44.2.2.2.2.2.2.1) x44.2.2.2.2.2.2.2.1 x44.2.2.2.2.2.2.2.2)]:List View)))else(yr c0 q.1 q.2.1 q.2.2.1 Wf).bind fun x46=>(bif x46 then((bif (decide ((x16.2.1.length:Int)>0))then(yD c0 q.1 q.2.1 q.2.2.1 5).bind fun x48=>some (x48.1,x48.2,x16.2.1,x16.2.2.1)else some (q.2.1,q.2.2.1,x16.2.1,x16.2.2.1))).bind fun x47=>(yp c0 q.1 x47.1 x47.2.1 Wf).bind fun x49=>(WJ c0 x49.1 x49.2.1 x49.2.2).bind fun x50=>yx c0 c1 c2 c3 c4 c5 c6 c7 c8 K (x50.2.1,x50.2.2.1,x50.2.2.2,q.2.2.2.1,x50.1,x47.2.2.2,x1.2.2.2.1,x1.2.2.2.2.1,x16.2.2.2.1,x16.2.2.2.2.1,x16.2.2.2.2.2.1,x16.2.2.2.2.2.2)else(yr c0 q.1 q.2.1 q.2.2.1 jW).bind fun x51=>(bif x51 then((bif q.2.2.2.1 then(yD c0 q.1 q.2.1 q.2.2.1 5).bind fun x53=>some (x53.1,x53.2,x16.2.2.1)else some (q.2.1,q.2.2.1,x16.2.2.1))).bind fun x52=>(yp c0 q.1 x52.1 x52.2.1 jW).bind fun x54=>(zN c0 x54.1 x54.2.1 x54.2.2 0 24).bind fun x55=>(yp c0 x55.2.1 x55.2.2.1 x55.2.2.2 yi).bind fun x56=>yx c0 c1 c2 c3 c4 c5 c6 c7 c8 K (x56.1,x56.2.1,x56.2.2,true,x16.2.1,x55.1,x1.2.2.2.1,x1.2.2.2.2.1,x16.2.2.2.1,x16.2.2.2.2.1,x16.2.2.2.2.2.1,x16.2.2.2.2.2.2)else(yD c0 q.1 q.2.1 q.2.2.1 14).bind fun x57=>yx c0 c1 c2 c3 c4 c5 c6 c7 c8 K (q.1,x57.1,x57.2,q.2.2.2.1,x16.2.1,x16.2.2.1,x1.2.2.2.1,x1.2.2.2.2.1,x16.2.2.2.1,x16.2.2.2.2.1,x16.2.2.2.2.2.1,x16.2.2.2.2.2.2)))))))))else some (q.1,q.2.1,q.2.2.1,x1.2.1,x1.2.2.1,x1.2.2.2.1,x1.2.2.2.2.1,x1.2.2.2.2.2.1,x1.2.2.2.2.2.2.1,x1.2.2.2.2.2.2.2.1,x1.2.2.2.2.2.2.2.2))
def Zd(p_L:List Token)(p_At:Int)(p_E:Int)(p_Pos:Int):Option (Int×Int×Int×(List zf)×Int×(List Def)×(List Table)×(List yl)×(List zX)×(List Cap)×(List View)) :=
 (yx p_L [] 0 ([]:List Def) ([]:List Table) ([]:List yl) ([]:List zX) ([]:List Cap) ([]:List View) KK (p_At,p_E,p_Pos,false,[],0,([]:List Def),([]:List Table),([]:List yl),([]:List zX),([]:List Cap),([]:List View))).bind fun x1=>some (x1.1,x1.2.1,x1.2.2.1,x1.2.2.2.1,x1.2.2.2.2.1,x1.2.2.2.2.2.1,x1.2.2.2.2.2.2.1,x1.2.2.2.2.2.2.2.1,x1.2.2.2.2.2.2.2.2.1,x1.2.2.2.2.2.2.2.2.2.1,x1.2.2.2.2.2.2.2.2.2.2)
def Vm(s:Bs8):Option (Int×Int×(List zf)×Int×(List Def)×(List Table)×(List yl)×(List zX)×(List Cap)×(List View)) :=
 (zau s).bind fun x1=>(bif (!(decide (x1.2.2=0)))then some (x1.2.1,x1.2.2,[],0,([]:List Def),([]:List Table),([]:List yl),([]:List zX),([]:List Cap),([]:List View))else(Zd x1.1 0 0 0).bind fun x2=>(bif (!(decide (x2.2.1=0)))then some (x2.2.2.1,x2.2.1,[],0,([]:List Def),([]:List Table),([]:List yl),([]:List zX),([]:List Cap),([]:List View))else some (0,0,x2.2.2.2.1,x2.2.2.2.2.1,x2.2.2.2.2.2.1,x2.2.2.2.2.2.2.1,x2.2.2.2.2.2.2.2.1,x2.2.2.2.2.2.2.2.2.1,x2.2.2.2.2.2.2.2.2.2.1,x2.2.2.2.2.2.2.2.2.2.2)))
def qu(s:Bs8):Option (Int×Int×Int×Int×Bs8×Bs8×(List Expr)) :=
 (zau s).bind fun x1=>(bif (!(decide (x1.2.2=0)))then some (x1.2.1,x1.2.2,0,0,([]:Bs8),([]:Bs8),[])else(yM KK x1.1 0 0 0 0).bind fun x2=>(((bif (decide (x2.2.1=0))then(idx x1.1 x2.1).bind fun x5=>some (!(decide (x5.Kind=3)))else some false)).bind fun x4=>(bif x4 then(yD x1.1 x2.1 x2.2.1 x2.2.2.1 14).bind fun x6=>some (x6.1,x6.2)else some (x2.2.1,x2.2.2.1))).bind fun x3=>(((bif (decide (x3.1=0))then(wo KK (Expr.mk x2.2.2.2.1 x2.2.2.2.2.1 x2.2.2.2.2.2.1 x2.2.2.2.2.2.2.1 x2.2.2.2.2.2.2.2)).bind fun x9=>some (decide (x9>12))else some false)).bind fun x8=>(bif x8 then(yD x1.1 x2.1 x3.1 x3.2 6).bind fun x10=>some (x10.1,x10.2)else some (x3.1,x3.2))).bind fun x7=>(bif (!(decide (x7.1=0)))then some (x7.2,x7.1,0,0,([]:Bs8),([]:Bs8),[])else some (0,0,x2.2.2.2.1,x2.2.2.2.2.1,x2.2.2.2.2.2.1,x2.2.2.2.2.2.2.1,x2.2.2.2.2.2.2.2)))
def ke(c0:List zf)(c1:List zf):Nat→(Int)→Option ((Bool)⊕(Unit))
 |0,_=>none
 |K+1,q=>(bif (decide (q<(c0.length:Int)))then(idx c0 q).bind fun x1=>(idx c1 q).bind fun x2=>(bif (!(decide (x1.X=x2.X)&&(decide (x1.Y=x2.Y)&&(decide (x1.Z_=x2.Z_)))))then some (Sum.inl false)else ke c0 c1 K (w64 (q+1)))else some (Sum.inr ()))
def vw(a:List zf)(b:List zf):Option (Bool) :=
 (bif (!(decide ((a.length:Int)=(b.length:Int))))then some false else(ke a b KK 0).bind (xB some fun _=>some true))
def jF(r_R_SameExpr:Expr→Expr→Option (Bool))(c0:Int)(c1:Int)(c2:Bs8)(c3:Bs8)(c4:List Expr)(c5:Int)(c6:Int)(c7:Bs8)(c8:Bs8)(c9:List Expr):Nat→(Int)→Option ((Bool)⊕(Unit))
 |0,_=>none
 |K+1,q=>(bif (decide (q<(c4.length:Int)))then(idx c4 q).bind fun x1=>(idx c9 q).bind fun x2=>(r_R_SameExpr x1 x2).bind fun x3=>(bif (!x3)then some (Sum.inl false)else jF r_R_SameExpr c0 c1 c2 c3 c4 c5 c6 c7 c8 c9 K (w64 (q+1)))else some (Sum.inr ()))
def yy:Nat→Expr→Expr→Option (Bool)
 |0,_,_=>none
 |RK+1,a,b=>((bif (!(decide (a.Op=b.Op)))then some true else(bif (!(decide (a.N=b.N)))then some true else(bif (!(decide (a.S=b.S)))then some true else(bif (!(decide (a.Key=b.Key)))then some true else some (!(decide ((a.Args.length:Int)=(b.Args.length:Int))))))))).bind fun x1=>(bif x1 then some false else(jF (yy RK) a.Op a.N a.S a.Key a.Args b.Op b.N b.S b.Key b.Args KK 0).bind (xB some fun _=>some true))
def jG(c0:List Entry)(c1:List Entry):Nat→(Int)→Option ((Bool)⊕(Unit))
 |0,_=>none
 |K+1,q=>(bif (decide (q<(c0.length:Int)))then(idx c0 q).bind fun x1=>(idx c1 q).bind fun x2=>(bif (!(decide (x1.Name=x2.Name)&&(decide (x1.N=x2.N))))then some (Sum.inl false)else jG c0 c1 K (w64 (q+1)))else some (Sum.inr ()))
def jH(a:List Entry)(b:List Entry):Option (Bool) :=
 (bif (!(decide ((a.length:Int)=(b.length:Int))))then some false else(jG a b KK 0).bind (xB some fun _=>some true))
def kf(c0:List zG)(c1:List zG):Nat→(Int)→Option ((Bool)⊕(Unit))
 |0,_=>none
 |K+1,q=>(bif (decide (q<(c0.length:Int)))then(idx c0 q).bind fun x1=>(idx c1 q).bind fun x2=>(bif (!(decide (x1.X=x2.X)&&(decide (x1.Y=x2.Y))))then some (Sum.inl false)else kf c0 c1 K (w64 (q+1)))else some (Sum.inr ()))
def vx(a:List zG)(b:List zG):Option (Bool) :=
 (bif (!(decide ((a.length:Int)=(b.length:Int))))then some false else(kf a b KK 0).bind (xB some fun _=>some true))
def qf(c0:List Bs8)(c1:List Bs8):Nat→(Int)→Option ((Bool)⊕(Unit))
 |0,_=>none
 |K+1,q=>(bif (decide (q<(c0.length:Int)))then(idx c0 q).bind fun x1=>(idx c1 q).bind fun x2=>(bif (!(decide (x1=x2)))then some (Sum.inl false)else qf c0 c1 K (w64 (q+1)))else some (Sum.inr ()))
def jI(a:List Bs8)(b:List Bs8):Option (Bool) :=
 (bif (!(decide ((a.length:Int)=(b.length:Int))))then some false else(qf a b KK 0).bind (xB some fun _=>some true))
def kW(a:zX)(b:zX):Option (Bool) :=
 ((jI a.Zones b.Zones).bind fun x2=>(bif x2 then(jI a.Except b.Except).bind fun x3=>(bif x3 then(yy KK (Expr.mk a.Test.Op a.Test.N a.Test.S a.Test.Key a.Test.Args) (Expr.mk b.Test.Op b.Test.N b.Test.S b.Test.Key b.Test.Args)).bind fun x4=>some x4 else some false)else some false)).bind fun x1=>((bif (decide (a.From=b.From))then(bif (decide (a.Until=b.Until))then(bif (decide (a.Grace=b.Grace))then some (a.Vary==b.Vary)else some false)else some false)else some false)).bind fun x5=>(bif (decide (a.Name=b.Name))then(bif x1 then(bif x5 then(bif (decide (a.Kind=b.Kind))then(bif (decide (a.zE.Side=b.zE.Side)&&(decide (a.zE.Base=b.zE.Base)&&(decide (a.zE.Num=b.zE.Num)&&(decide (a.zE.Den=b.zE.Den)))))then(bif (decide (a.Uses=b.Uses))then(bif (decide (a.Other=b.Other))then some (decide (a.N=b.N))else some false)else some false)else some false)else some false)else some false)else some false)else some false)
def uy(c0:List Def)(c1:List Table)(c2:List yl)(c3:List zX)(c4:List Cap)(c5:List View)(c6:List zf)(c7:Int)(c8:List Def)(c9:List Table)(c10:List yl)(c11:List zX)(c12:List Cap)(c13:List View)(c14:List zf)(c15:Int):Nat→(Int)→Option ((Bool)⊕(Unit))
 |0,_=>none
 |K+1,q=>(bif (decide (q<(c0.length:Int)))then((idx c0 q).bind fun x2=>(idx c8 q).bind fun x3=>(bif (!(decide (x2.Name=x3.Name)))then some true else(idx c0 q).bind fun x4=>(idx c8 q).bind fun x5=>(yy KK x4.Body x5.Body).bind fun x6=>some (!x6))).bind fun x1=>(bif x1 then some (Sum.inl false)else uy c0 c1 c2 c3 c4 c5 c6 c7 c8 c9 c10 c11 c12 c13 c14 c15 K (w64 (q+1)))else some (Sum.inr ()))
def uz(c0:List Def)(c1:List Table)(c2:List yl)(c3:List zX)(c4:List Cap)(c5:List View)(c6:List zf)(c7:Int)(c8:List Def)(c9:List Table)(c10:List yl)(c11:List zX)(c12:List Cap)(c13:List View)(c14:List zf)(c15:Int):Nat→(Int)→Option ((Bool)⊕(Unit))
 |0,_=>none
 |K+1,q=>(bif (decide (q<(c1.length:Int)))then((idx c1 q).bind fun x2=>(idx c9 q).bind fun x3=>(bif (!(decide (x2.Name=x3.Name)))then some true else(idx c1 q).bind fun x4=>(idx c9 q).bind fun x5=>(bif (!(decide (x4.Else=x5.Else)))then some true else(idx c1 q).bind fun x6=>(idx c9 q).bind fun x7=>(jH x6.Rows x7.Rows).bind fun x8=>some (!x8)))).bind fun x1=>(bif x1 then some (Sum.inl false)else uz c0 c1 c2 c3 c4 c5 c6 c7 c8 c9 c10 c11 c12 c13 c14 c15 K (w64 (q+1)))else some (Sum.inr ()))
def uA(c0:List Def)(c1:List Table)(c2:List yl)(c3:List zX)(c4:List Cap)(c5:List View)(c6:List zf)(c7:Int)(c8:List Def)(c9:List Table)(c10:List yl)(c11:List zX)(c12:List Cap)(c13:List View)(c14:List zf)(c15:Int):Nat→(Int)→Option ((Bool)⊕(Unit))
 |0,_=>none
 |K+1,q=>(bif (decide (q<(c2.length:Int)))then((idx c2 q).bind fun x2=>(idx c10 q).bind fun x3=>(bif (!(decide (x2.Name=x3.Name)))then some true else(idx c2 q).bind fun x4=>(idx c10 q).bind fun x5=>(bif (!(x4.Overlay==x5.Overlay))then some true else(idx c2 q).bind fun x6=>(idx c10 q).bind fun x7=>(vx x6.Corners x7.Corners).bind fun x8=>some (!x8)))).bind fun x1=>(bif x1 then some (Sum.inl false)else uA c0 c1 c2 c3 c4 c5 c6 c7 c8 c9 c10 c11 c12 c13 c14 c15 K (w64 (q+1)))else some (Sum.inr ()))
def kg(c0:List Def)(c1:List Table)(c2:List yl)(c3:List zX)(c4:List Cap)(c5:List View)(c6:List zf)(c7:Int)(c8:List Def)(c9:List Table)(c10:List yl)(c11:List zX)(c12:List Cap)(c13:List View)(c14:List zf)(c15:Int):Nat→(Int)→Option ((Bool)⊕(Unit))
 |0,_=>none
 |K+1,q=>(bif (decide (q<(c3.length:Int)))then(idx c3 q).bind fun x1=>(idx c11 q).bind fun x2=>(kW x1 x2).bind fun x3=>(bif (!x3)then some (Sum.inl false)else kg c0 c1 c2 c3 c4 c5 c6 c7 c8 c9 c10 c11 c12 c13 c14 c15 K (w64 (q+1)))else some (Sum.inr ()))
def uB(c0:List Def)(c1:List Table)(c2:List yl)(c3:List zX)(c4:List Cap)(c5:List View)(c6:List zf)(c7:Int)(c8:List Def)(c9:List Table)(c10:List yl)(c11:List zX)(c12:List Cap)(c13:List View)(c14:List zf)(c15:Int):Nat→(Int)→Option ((Bool)⊕(Unit))
 |0,_=>none
 |K+1,q=>(bif (decide (q<(c4.length:Int)))then((idx c4 q).bind fun x2=>(idx c12 q).bind fun x3=>(bif (!(decide (x2.Name=x3.Name)))then some true else(idx c4 q).bind fun x4=>(idx c12 q).bind fun x5=>(bif (!(decide (x4.Load=x5.Load)))then some true else(idx c4 q).bind fun x6=>(idx c12 q).bind fun x7=>(bif (!(decide (x6.Limit=x7.Limit)))then some true else(idx c4 q).bind fun x8=>(idx c12 q).bind fun x9=>(vx x8.Corners x9.Corners).bind fun x10=>some (!x10))))).bind fun x1=>(bif x1 then some (Sum.inl false)else uB c0 c1 c2 c3 c4 c5 c6 c7 c8 c9 c10 c11 c12 c13 c14 c15 K (w64 (q+1)))else some (Sum.inr ()))
def uC(c0:List Def)(c1:List Table)(c2:List yl)(c3:List zX)(c4:List Cap)(c5:List View)(c6:List zf)(c7:Int)(c8:List Def)(c9:List Table)(c10:List yl)(c11:List zX)(c12:List Cap)(c13:List View)(c14:List zf)(c15:Int):Nat→(Int)→Option ((Bool)⊕(Unit))
 |0,_=>none
 |K+1,q=>(bif (decide (q<(c5.length:Int)))then((idx c5 q).bind fun x2=>(idx c13 q).bind fun x3=>(bif (!(decide (x2.Name=x3.Name)))then some true else(idx c5 q).bind fun x4=>(idx c13 q).bind fun x5=>(bif (!(decide (x4.Eye.X=x5.Eye.X)&&(decide (x4.Eye.Y=x5.Eye.Y)&&(decide (x4.Eye.Z_=x5.Eye.Z_)))))then some true else(idx c5 q).bind fun x6=>(idx c13 q).bind fun x7=>(bif (!(decide (x6.Least=x7.Least)))then some true else(idx c5 q).bind fun x8=>(idx c13 q).bind fun x9=>(vw x8.Targets x9.Targets).bind fun x10=>some (!x10))))).bind fun x1=>(bif x1 then some (Sum.inl false)else uC c0 c1 c2 c3 c4 c5 c6 c7 c8 c9 c10 c11 c12 c13 c14 c15 K (w64 (q+1)))else some (Sum.inr ()))
def A9(a:wB)(b:wB):Option (Bool) :=
 ((bif (!(decide ((a.Defs.length:Int)=(b.Defs.length:Int))))then some true else(bif (!(decide ((a.Tables.length:Int)=(b.Tables.length:Int))))then some true else(bif (!(decide ((a.Zones.length:Int)=(b.Zones.length:Int))))then some true else(bif (!(decide ((a.Rules.length:Int)=(b.Rules.length:Int))))then some true else(bif (!(decide ((a.Caps.length:Int)=(b.Caps.length:Int))))then some true else(bif (!(decide ((a.Views.length:Int)=(b.Views.length:Int))))then some true else(vw a.Sun b.Sun).bind fun x2=>(bif (!x2)then some true else some (!(decide (a.Hours=b.Hours))))))))))).bind fun x1=>(bif x1 then some false else(uy a.Defs a.Tables a.Zones a.Rules a.Caps a.Views a.Sun a.Hours b.Defs b.Tables b.Zones b.Rules b.Caps b.Views b.Sun b.Hours KK 0).bind (xB some fun _=>(uz a.Defs a.Tables a.Zones a.Rules a.Caps a.Views a.Sun a.Hours b.Defs b.Tables b.Zones b.Rules b.Caps b.Views b.Sun b.Hours KK 0).bind (xB some fun _=>(uA a.Defs a.Tables a.Zones a.Rules a.Caps a.Views a.Sun a.Hours b.Defs b.Tables b.Zones b.Rules b.Caps b.Views b.Sun b.Hours KK 0).bind (xB some fun _=>(kg a.Defs a.Tables a.Zones a.Rules a.Caps a.Views a.Sun a.Hours b.Defs b.Tables b.Zones b.Rules b.Caps b.Views b.Sun b.Hours KK 0).bind (xB some fun _=>(uB a.Defs a.Tables a.Zones a.Rules a.Caps a.Views a.Sun a.Hours b.Defs b.Tables b.Zones b.Rules b.Caps b.Views b.Sun b.Hours KK 0).bind (xB some fun _=>(uC a.Defs a.Tables a.Zones a.Rules a.Caps a.Views a.Sun a.Hours b.Defs b.Tables b.Zones b.Rules b.Caps b.Views b.Sun b.Hours KK 0).bind (xB some fun _=>some true)))))))
def vj(s:Bs8):Option (Bool) :=
 (A4).bind fun x1=>(bif (decide ((s.length:Int)>3000))then some x1 else(oA s).bind fun x2=>(Vm s).bind fun x3=>(ud s).bind fun x4=>(qu s).bind fun x5=>(bif x1 then(bif (decide (x2.2.1=x3.2.1))then(bif (decide (x2.1=x3.1))then(A9 (wB.mk x2.2.2.2.2.1 x2.2.2.2.2.2.1 x2.2.2.2.2.2.2.1 x2.2.2.2.2.2.2.2.1 x2.2.2.2.2.2.2.2.2.1 x2.2.2.2.2.2.2.2.2.2 x2.2.2.1 x2.2.2.2.1) (wB.mk x3.2.2.2.2.1 x3.2.2.2.2.2.1 x3.2.2.2.2.2.2.1 x3.2.2.2.2.2.2.2.1 x3.2.2.2.2.2.2.2.2.1 x3.2.2.2.2.2.2.2.2.2 x3.2.2.1 x3.2.2.2.1)).bind fun x6=>(bif x6 then(bif (decide (x4.2.1=x5.2.1))then(bif (decide (x4.1=x5.1))then(yy KK (Expr.mk x4.2.2.1 x4.2.2.2.1 x4.2.2.2.2.1 x4.2.2.2.2.2.1 x4.2.2.2.2.2.2) (Expr.mk x5.2.2.1 x5.2.2.2.1 x5.2.2.2.2.1 x5.2.2.2.2.2.1 x5.2.2.2.2.2.2)).bind fun x7=>(bif x7 then(HS s).bind fun x8=>(Vj s).bind fun x9=>some (x8==x9)else some false)else some false)else some false)else some false)else some false)else some false)else some false))
end Go.Proofs.YtffencjoddkghaaGreatDoor
