/- texts that the proof reaches, part 8 -/
import Derived.Test.YtogbenbghgjbiaaGreatDoorKg
set_option linter.all false
open Bool renaming false->bf,true->bh
open Int renaming toNat->bj,tmod->ew,tdiv->iZ
open List renaming length->ba,replicate->bp,set->cD,map->cQ
open Option renaming some->aY,bind->aM,none->bg
open Sum renaming inr->bN,inl->bO
set_option maxRecDepth 100000
namespace Go.Proofs.YtogbenbghgjbiaaGreatDoor
open Go Go.RowKit Go.lG Go.EV Go.EQ
abbrev ai:=aj
abbrev J_:=List (ai×Bool)
structure aq where
 aL:Int
 Text:ai
 N:Int
 Pos:Int
 deriving Inhabited,DecidableEq
def zhy(x:aq):List V:=[.int .i64 x.aL,.str x.Text,.int .i64 x.N,.int .i64 x.Pos]
structure zN where
 aL:Int
 aK:ai
 Key:ai
 N:Int
 za:za
 Body:Expr
 ay:(List zK)
 deriving Inhabited
def JW(x:zN):List V:=[.int .i64 x.aL,.str x.aK,.str x.Key,.int .i64 x.N,.str x.za.aK,.vs 1 (cQ EV.encS x.za.aA),.vs 1 (cQ EV.encS x.za.Except),.int .i64 x.za.lA,.int .i64 x.za.j_,.int .i64 x.za.lN,.bool x.za.lU,.int .i64 x.za.aL,.int .i64 x.za.Test.Op,.int .i64 x.za.Test.N,.str x.za.Test.S,.str x.za.Test.Key,.vs 5 (zo x.za.Test.aH),.int .i64 x.za.zh.nL,.int .i64 x.za.zh.nK,.int .i64 x.za.zh.nG,.int .i64 x.za.zh.Den,.int .i64 x.za.Uses,.int .i64 x.za.lK,.int .i64 x.za.N,.int .i64 x.Body.Op,.int .i64 x.Body.N,.str x.Body.S,.str x.Body.Key,.vs 5 (zo x.Body.aH),.vs 2 (cQ uO x.ay)]
structure zw where
 a:zK
 b:zK
 deriving Inhabited,DecidableEq
def Hi(x:zw):List V:=[.int .i64 x.a.X,.int .i64 x.a.Y,.int .i64 x.b.X,.int .i64 x.b.Y]
structure EB where
 k:Int
 n:ai
 y:ai
 m:Int
 r0:ai
 r1:List ai
 r2:List ai
 r3:Int
 r4:Int
 r5:Int
 r6:Bool
 r7:Int
 r8:Int
 r9:Int
 LY:ai
 LZ:ai
 L1:(List Expr)
 L2:Int
 L3:Int
 L4:Int
 r16:Int
 L5:Int
 L6:Int
 L7:Int
 b0:Int
 b1:Int
 b2:ai
 b3:ai
 b4:(List Expr)
 c:(List zK)
def oe(x:Int×ai×ai×Int×ai×(List ai)×(List ai)×Int×Int×Int×Bool×Int×Int×Int×ai×ai×(List Expr)×Int×Int×Int×Int×Int×Int×Int×Int×Int×ai×ai×(List Expr)×(List zK)):EB:=⟨x.1,x.2.1,x.2.2.1,x.2.2.2.1,x.2.2.2.2.1,x.2.2.2.2.2.1,x.2.2.2.2.2.2.1,x.2.2.2.2.2.2.2.1,x.2.2.2.2.2.2.2.2.1,x.2.2.2.2.2.2.2.2.2.1,x.2.2.2.2.2.2.2.2.2.2.1,x.2.2.2.2.2.2.2.2.2.2.2.1,x.2.2.2.2.2.2.2.2.2.2.2.2.1,x.2.2.2.2.2.2.2.2.2.2.2.2.2.1,x.2.2.2.2.2.2.2.2.2.2.2.2.2.2.1,x.2.2.2.2.2.2.2.2.2.2.2.2.2.2.2.1,x.2.2.2.2.2.2.2.2.2.2.2.2.2.2.2.2.1,x.2.2.2.2.2.2.2.2.2.2.2.2.2.2.2.2.2.1,x.2.2.2.2.2.2.2.2.2.2.2.2.2.2.2.2.2.2.1,x.2.2.2.2.2.2.2.2.2.2.2.2.2.2.2.2.2.2.2.1,x.2.2.2.2.2.2.2.2.2.2.2.2.2.2.2.2.2.2.2.2.1,x.2.2.2.2.2.2.2.2.2.2.2.2.2.2.2.2.2.2.2.2.2.1,x.2.2.2.2.2.2.2.2.2.2.2.2.2.2.2.2.2.2.2.2.2.2.1,x.2.2.2.2.2.2.2.2.2.2.2.2.2.2.2.2.2.2.2.2.2.2.2.1,x.2.2.2.2.2.2.2.2.2.2.2.2.2.2.2.2.2.2.2.2.2.2.2.2.1,x.2.2.2.2.2.2.2.2.2.2.2.2.2.2.2.2.2.2.2.2.2.2.2.2.2.1,x.2.2.2.2.2.2.2.2.2.2.2.2.2.2.2.2.2.2.2.2.2.2.2.2.2.2.1,x.2.2.2.2.2.2.2.2.2.2.2.2.2.2.2.2.2.2.2.2.2.2.2.2.2.2.2.1,x.2.2.2.2.2.2.2.2.2.2.2.2.2.2.2.2.2.2.2.2.2.2.2.2.2.2.2.2.1,x.2.2.2.2.2.2.2.2.2.2.2.2.2.2.2.2.2.2.2.2.2.2.2.2.2.2.2.2.2⟩
def Dc{R:Type}(x:Int×ai×ai×Int×ai×(List ai)×(List ai)×Int×Int×Int×Bool×Int×Int×Int×ai×ai×(List Expr)×Int×Int×Int×Int×Int×Int×Int×Int×Int×ai×ai×(List Expr)×(List zK)×R):EB:=⟨x.1,x.2.1,x.2.2.1,x.2.2.2.1,x.2.2.2.2.1,x.2.2.2.2.2.1,x.2.2.2.2.2.2.1,x.2.2.2.2.2.2.2.1,x.2.2.2.2.2.2.2.2.1,x.2.2.2.2.2.2.2.2.2.1,x.2.2.2.2.2.2.2.2.2.2.1,x.2.2.2.2.2.2.2.2.2.2.2.1,x.2.2.2.2.2.2.2.2.2.2.2.2.1,x.2.2.2.2.2.2.2.2.2.2.2.2.2.1,x.2.2.2.2.2.2.2.2.2.2.2.2.2.2.1,x.2.2.2.2.2.2.2.2.2.2.2.2.2.2.2.1,x.2.2.2.2.2.2.2.2.2.2.2.2.2.2.2.2.1,x.2.2.2.2.2.2.2.2.2.2.2.2.2.2.2.2.2.1,x.2.2.2.2.2.2.2.2.2.2.2.2.2.2.2.2.2.2.1,x.2.2.2.2.2.2.2.2.2.2.2.2.2.2.2.2.2.2.2.1,x.2.2.2.2.2.2.2.2.2.2.2.2.2.2.2.2.2.2.2.2.1,x.2.2.2.2.2.2.2.2.2.2.2.2.2.2.2.2.2.2.2.2.2.1,x.2.2.2.2.2.2.2.2.2.2.2.2.2.2.2.2.2.2.2.2.2.2.1,x.2.2.2.2.2.2.2.2.2.2.2.2.2.2.2.2.2.2.2.2.2.2.2.1,x.2.2.2.2.2.2.2.2.2.2.2.2.2.2.2.2.2.2.2.2.2.2.2.2.1,x.2.2.2.2.2.2.2.2.2.2.2.2.2.2.2.2.2.2.2.2.2.2.2.2.2.1,x.2.2.2.2.2.2.2.2.2.2.2.2.2.2.2.2.2.2.2.2.2.2.2.2.2.2.1,x.2.2.2.2.2.2.2.2.2.2.2.2.2.2.2.2.2.2.2.2.2.2.2.2.2.2.2.1,x.2.2.2.2.2.2.2.2.2.2.2.2.2.2.2.2.2.2.2.2.2.2.2.2.2.2.2.2.1,x.2.2.2.2.2.2.2.2.2.2.2.2.2.2.2.2.2.2.2.2.2.2.2.2.2.2.2.2.2.1⟩
def Ce{R:Type}(x:Int×ai×ai×Int×ai×(List ai)×(List ai)×Int×Int×Int×Bool×Int×Int×Int×ai×ai×(List Expr)×Int×Int×Int×Int×Int×Int×Int×Int×Int×ai×ai×(List Expr)×(List zK)×R):R:=x.2.2.2.2.2.2.2.2.2.2.2.2.2.2.2.2.2.2.2.2.2.2.2.2.2.2.2.2.2.2
structure RB where
 r0:ai
 r1:List ai
 r2:List ai
 r3:Int
 r4:Int
 r5:Int
 r6:Bool
 r7:Int
 r8:Int
 r9:Int
 LY:ai
 LZ:ai
 L1:(List Expr)
 L2:Int
 L3:Int
 L4:Int
 r16:Int
 L5:Int
 L6:Int
 L7:Int
def PF(x:ai×(List ai)×(List ai)×Int×Int×Int×Bool×Int×Int×Int×ai×ai×(List Expr)×Int×Int×Int×Int×Int×Int×Int):RB:=⟨x.1,x.2.1,x.2.2.1,x.2.2.2.1,x.2.2.2.2.1,x.2.2.2.2.2.1,x.2.2.2.2.2.2.1,x.2.2.2.2.2.2.2.1,x.2.2.2.2.2.2.2.2.1,x.2.2.2.2.2.2.2.2.2.1,x.2.2.2.2.2.2.2.2.2.2.1,x.2.2.2.2.2.2.2.2.2.2.2.1,x.2.2.2.2.2.2.2.2.2.2.2.2.1,x.2.2.2.2.2.2.2.2.2.2.2.2.2.1,x.2.2.2.2.2.2.2.2.2.2.2.2.2.2.1,x.2.2.2.2.2.2.2.2.2.2.2.2.2.2.2.1,x.2.2.2.2.2.2.2.2.2.2.2.2.2.2.2.2.1,x.2.2.2.2.2.2.2.2.2.2.2.2.2.2.2.2.2.1,x.2.2.2.2.2.2.2.2.2.2.2.2.2.2.2.2.2.2.1,x.2.2.2.2.2.2.2.2.2.2.2.2.2.2.2.2.2.2.2⟩
def aeZ:ai:=[48]
def nX:ai:=[32]
def zf:ai:=[32,97,110,100,32,97,112,97,114,116,32,98,97,115,101,32,99,97,112,32,100,101,102,105,110,101,32,101,108,115,101,32,101,120,99,101,112,116,32,102,114,111,109,32,103,114,97,99,101,32,104,111,117,114,115,32,105,102,32,105,110,32,108,101,97,115,116,32,110,111,116,32,111,114,32,111,118,101,114,108,97,121,32,112,108,97,110,101,32,114,117,108,101,32,115,108,111,112,101,32,115,117,110,32,116,97,98,108,101,32,116,104,101,110,32,117,110,116,105,108,32,117,115,101,115,32,118,97,114,121,32,118,105,101,119,32,122,111,110,101,32]
def Ag:ai:=[32,59,10]
def Pd:ai:=[97]
def P6:ai:=[100,101,102,105,110,101]
def Gc:ai:=[101,110,100]
def IM:ai:=[101,110,100,32]
def zIh:ai:=[104,111,109,101]
def VG:ai:=[108,105,109,105,116]
def Qo:ai:=[108,105,109,105,116,32]
def ady:ai:=[108,105,109,105,116,32,114,111,97,100,115,32,54,48,59,32,101,110,100,32,97,32,57,48,59]
def zh0:ai:=[111,118,101,114,108,97,121]
def zu5:ai:=[114,111,97,100,115]
def Gd:ai:=[114,111,119]
def Zd:ai:=[114,111,119,32]
def adE:ai:=[114,111,119,32,116,114,97,102,102,105,99,32,104,111,109,101,32,53,32,59,10]
def IH:ai:=[114,117,108,101]
def zu6:ai:=[116,114,97,102,102,105,99]
def aiV:ai:=[37]
def aiW:ai:=[40]
def aiX:ai:=[41]
def aiY:ai:=[42]
def aiZ:ai:=[43]
def ai0:ai:=[44]
def PG:ai:=[45]
def zIi:ai:=[45,32]
def ai1:ai:=[47]
def ai2:ai:=[58]
def XM:ai:=[59]
def ai3:ai:=[60]
def zzo:ai:=[60,61]
def ai4:ai:=[61]
def zzp:ai:=[61,61]
def R7:ai:=[122,111,110,101]
variable[Fuel]
def zh2(c_:Int):Option (Bool):=(bif (decide (c_=32))then aY bh else(bif (decide (c_=9))then aY bh else aY (decide (c_=10))))
def KD(c0:ai):Nat->(Int)->Option (Int)
 |0,_=>bg
 |K+1,q=>aM ((bif (decide (q<(c0.length:Int)))then(idx c0 q).bind λx2=>aM (zh2 ((x2.toNat:Nat):Int)) λx3=>aY x3 else aY bf)) λx1=>(bif x1 then KD c0 K (aD (q+1))else aY q)
def zod(s:ai):Option (Int):=aM (KD s KK 0) λx1=>aY x1
def kd(c_:Int):Option (Bool):=(bif (decide (c_>=97))then aY (decide (c_<=122))else aY bf)
def uS(c_:Int):Option (Bool):=(bif (decide (c_>=48))then aY (decide (c_<=57))else aY bf)
def ZY(c_:Int):Option (Bool):=aM (kd c_) λx1=>(bif x1 then aY bh else(uS c_).bind λx2=>aY x2)
def AX(c0:ai):Nat->(Int)->Option (Int)
 |0,_=>bg
 |K+1,q=>aM ((bif (decide (q<(c0.length:Int)))then(idx c0 q).bind λx2=>aM (ZY ((x2.toNat:Nat):Int)) λx3=>aY x3 else aY bf)) λx1=>(bif x1 then AX c0 K (aD (q+1))else aY q)
def γ(s:ai):Option (Int):=aM (AX s KK 0) λx1=>aY x1
def Ah(c_:Int):Option (Bool):=aM (kd c_) λx1=>(bif x1 then aY bh else(uS c_).bind λx2=>aY x2)
def ua(c0:ai):Nat->(Int)->Option (Int)
 |0,_=>bg
 |K+1,q=>aM ((bif (decide (q<(c0.length:Int)))then(idx c0 q).bind λx2=>aM (Ah ((x2.toNat:Nat):Int)) λx3=>aY x3 else aY bf)) λx1=>(bif x1 then ua c0 K (aD (q+1))else aY q)
def JX(s:ai):Option (Int):=aM (ua s KK 0) λx1=>aY x1
def AY(s:ai):Option (Bool):=aM ((bif (decide (s=([]:ai)))then aY bh else(idx s 0).bind λx2=>aM (kd ((x2.toNat:Nat):Int)) λx3=>(bif (!x3)then aY bh else aY (decide ((s.length:Int)>20))))) λx1=>(bif x1 then aY bf else(JX s).bind λx4=>aY (decide (x4=(s.length:Int))))
def AZ(c0:ai):Nat->(Int)->Option (Int)
 |0,_=>bg
 |K+1,q=>aM ((bif (decide (q<(c0.length:Int)))then(idx c0 q).bind λx2=>aM (uS ((x2.toNat:Nat):Int)) λx3=>aY x3 else aY bf)) λx1=>(bif x1 then AZ c0 K (aD (q+1))else aY q)
def VH(s:ai):Option (Int):=aM (AZ s KK 0) λx1=>aY x1
def A0(c0:ai)(c1:Int):Nat->(Int×Int)->Option (Int)
 |0,_=>bg
 |K+1,q=>(bif (decide (q.2<c1))then(idx c0 q.2).bind λx1=>A0 c0 c1 K ((aD ((aD (10*q.1))+(aD ((IntKind.u8.wrap (((x1.toNat:Nat):Int)-48)))))),(aD (q.2+1)))else aY q.1)
def ε(s:ai):Option (Int×Bool):=aM ((bif (decide (s=([]:ai)))then aY bh else(VH s).bind λx2=>(bif (!(decide (x2=(s.length:Int))))then aY bh else(idx s 0).bind λx3=>(bif (decide (((x3.toNat:Nat):Int)=48))then(bif (!(decide (s=aeZ)))then aY bh else aY (decide ((s.length:Int)>13)))else aY (decide ((s.length:Int)>13)))))) λx1=>(bif x1 then aY (0,bf)else(A0 s (s.length:Int) KK (0,0)).bind λx4=>(bif (decide (x4>1099511627776))then aY (0,bf)else aY (x4,bh)))
def Ze(a0:ai)(a1:ai):Option (Bool):=Y7 a0 a1
def KE(c0:ai)(c1:ai)(c2:ai)(c3:ai)(c4:ai)(c5:ai)(c6:ai)(c7:ai)(c8:ai)(c9:ai)(lE:ai)(lJ:ai)(lO:ai)(lW:ai)(l7:ai)(l_:Int)(rQ:ai):Nat->(Int)->Option ((Int×Int×ai×Int×Int)⊕(Unit))
 |0,_=>bg
 |K+1,q=>(bif (decide (q<14))then(idx (α:=ai) ([c1,c2,c3,c4,c5,c6,c7,c8,c9,lE,lJ,lO,lW,l7]:List ai) q).bind λx1=>aM (Ze c0 x1) λx2=>(bif x2 then aY (bO (0,2,x1,0,0))else KE c0 c1 c2 c3 c4 c5 c6 c7 c8 c9 lE lJ lO lW l7 l_ rQ K (aD (q+1)))else aY (bN ()))
def zoe(s:ai):Option (Int×Int×ai×Int×Int):=aM (idx s 0) λx1=>aM (kd ((x1.toNat:Nat):Int)) λx2=>(bif x2 then(γ s).bind λx3=>aM (cut s 0 x3) λx4=>aM (AY x4) λx5=>(bif (!x5)then aY (15,0,([]:ai),0,0)else aY (0,0,x4,0,0))else(idx s 0).bind λx6=>aM (uS ((x6.toNat:Nat):Int)) λx7=>(bif x7 then(VH s).bind λx8=>aM (cut s 0 x8) λx9=>aM (ε x9) λnS=>(bif (!nS.2)then aY (3,0,([]:ai),0,0)else aY (0,1,x9,nS.1,0))else(KE s zzo zzp XM ai0 ai2 ai4 ai3 aiZ PG aiY ai1 aiV aiW aiX 0 ([]:ai) KK 0).bind (y9 aY λ_=>aY (13,0,([]:ai),0,0))))
def VI(c0:ai):Nat->(Int×(List aq))->Option (((List aq)×Int×Int)⊕(Unit))
 |0,_=>bg
 |K+1,q=>aM (cut c0 q.1 (c0.length:Int)) λx1=>aM (zod x1) λx2=>(bif (decide ((aD (q.1+x2))=(c0.length:Int)))then(bD (ba (q.2++([(aq.mk 3 ([]:ai) 0 (aD (q.1+x2)))]:List aq))*40<=140737488355328)).bind λ_=>aY (bO ((q.2++([(aq.mk 3 ([]:ai) 0 (aD (q.1+x2)))]:List aq)),0,0))else(cut c0 (aD (q.1+x2)) (c0.length:Int)).bind λx4=>aM (zoe x4) λx5=>(bif (!(decide (x5.1=0)))then aY (bO ([],(aD (q.1+x2)),x5.1))else(bD (ba (q.2++([(aq.mk x5.2.1 x5.2.2.1 x5.2.2.2.1 (aD (q.1+x2)))]:List aq))*40<=140737488355328)).bind λ_=>VI c0 K ((aD ((aD (q.1+x2))+(x5.2.2.1.length:Int))),(q.2++([(aq.mk x5.2.1 x5.2.2.1 x5.2.2.2.1 (aD (q.1+x2)))]:List aq)))))
def zu8(s:ai):Option ((List aq)×Int×Int):=(bif (decide ((s.length:Int)>8000))then aY ([],0,6)else(VI s KK (0,[])).bind (y9 aY λ_=>bg))
def Km(s:List aq):Option ((List aq)):=aM (bD (ba (([]:List aq)++s)*40<=140737488355328)) λ_=>aY (([]:List aq)++s)
def JY(a0:ai)(a1:ai):Option (Bool):=JV a0 a1
def Qp(s:ai):Option (Bool):=aM (AY s) λx1=>(bif x1 then(bD (ba nX+ba s<=9223372036854775807)).bind λ_=>aM (bD (ba (nX++s)+ba nX<=9223372036854775807)) λ_=>aM (JY zf ((nX++s)++nX)) λx4=>aY (!x4)else aY bf)
def KF(c0:List aq)(c1:Int)(c2:Int)(c3:Int)(c4:List aq)(c5:Int)(c6:ai)(c7:List ai)(c8:Bool)(c9:List Expr)(lE:List zK):Nat->(Int×Int×Int×Int×Int×Int×Int×Int×Int×Int×Int×Int×Int×Int×Int×Int×Int×Int)->Option ((Int×Int×ai×ai×Int×ai×(List ai)×(List ai)×Int×Int×Int×Bool×Int×Int×Int×ai×ai×(List Expr)×Int×Int×Int×Int×Int×Int×Int×Int×Int×ai×ai×(List Expr)×(List zK))⊕(Int×Int×Int×Int×Int×Int×Int×Int×Int×Int×Int×Int×Int×Int×Int×Int×Int))
 |0,_=>bg
 |K+1,q=>(bif (decide (q.1<c5))then(idx c4 q.1).bind λx1=>aM ((bif (!(decide (x1.aL=0)))then aY (bh,q.2.1,q.2.2.1,q.2.2.2.1,q.2.2.2.2.1,q.2.2.2.2.2.1,q.2.2.2.2.2.2.1,q.2.2.2.2.2.2.2.1,q.2.2.2.2.2.2.2.2.1,q.2.2.2.2.2.2.2.2.2.1,q.2.2.2.2.2.2.2.2.2.2.1,q.2.2.2.2.2.2.2.2.2.2.2.1,q.2.2.2.2.2.2.2.2.2.2.2.2.1,q.2.2.2.2.2.2.2.2.2.2.2.2.2.1,q.2.2.2.2.2.2.2.2.2.2.2.2.2.2.1,q.2.2.2.2.2.2.2.2.2.2.2.2.2.2.2.1,q.2.2.2.2.2.2.2.2.2.2.2.2.2.2.2.2.1,q.2.2.2.2.2.2.2.2.2.2.2.2.2.2.2.2.2)else(Qp x1.Text).bind λx3=>aY ((!x3),q.2.1,q.2.2.1,q.2.2.2.1,q.2.2.2.2.1,q.2.2.2.2.2.1,q.2.2.2.2.2.2.1,q.2.2.2.2.2.2.2.1,q.2.2.2.2.2.2.2.2.1,q.2.2.2.2.2.2.2.2.2.1,q.2.2.2.2.2.2.2.2.2.2.1,q.2.2.2.2.2.2.2.2.2.2.2.1,q.2.2.2.2.2.2.2.2.2.2.2.2.1,q.2.2.2.2.2.2.2.2.2.2.2.2.2.1,q.2.2.2.2.2.2.2.2.2.2.2.2.2.2.1,q.2.2.2.2.2.2.2.2.2.2.2.2.2.2.2.1,q.2.2.2.2.2.2.2.2.2.2.2.2.2.2.2.2.1,q.2.2.2.2.2.2.2.2.2.2.2.2.2.2.2.2.2))) λx2=>(bif x2.1 then aY (bO (14,0,([]:ai),([]:ai),0,([]:ai),[],[],0,0,0,bf,0,0,0,([]:ai),([]:ai),[],0,0,0,0,0,0,0,0,0,([]:ai),([]:ai),[],[]))else KF c0 c1 c2 c3 c4 c5 c6 c7 c8 c9 lE K ((aD (q.1+1)),x2.2.1,x2.2.2.1,x2.2.2.2.1,x2.2.2.2.2.1,x2.2.2.2.2.2.1,x2.2.2.2.2.2.2.1,x2.2.2.2.2.2.2.2.1,x2.2.2.2.2.2.2.2.2.1,x2.2.2.2.2.2.2.2.2.2.1,x2.2.2.2.2.2.2.2.2.2.2.1,x2.2.2.2.2.2.2.2.2.2.2.2.1,x2.2.2.2.2.2.2.2.2.2.2.2.2.1,x2.2.2.2.2.2.2.2.2.2.2.2.2.2.1,x2.2.2.2.2.2.2.2.2.2.2.2.2.2.2.1,x2.2.2.2.2.2.2.2.2.2.2.2.2.2.2.2.1,x2.2.2.2.2.2.2.2.2.2.2.2.2.2.2.2.2.1,x2.2.2.2.2.2.2.2.2.2.2.2.2.2.2.2.2.2))else aY (bN (q.2.1,q.2.2.1,q.2.2.2.1,q.2.2.2.2.1,q.2.2.2.2.2.1,q.2.2.2.2.2.2.1,q.2.2.2.2.2.2.2.1,q.2.2.2.2.2.2.2.2.1,q.2.2.2.2.2.2.2.2.2.1,q.2.2.2.2.2.2.2.2.2.2.1,q.2.2.2.2.2.2.2.2.2.2.2.1,q.2.2.2.2.2.2.2.2.2.2.2.2.1,q.2.2.2.2.2.2.2.2.2.2.2.2.2.1,q.2.2.2.2.2.2.2.2.2.2.2.2.2.2.1,q.2.2.2.2.2.2.2.2.2.2.2.2.2.2.2.1,q.2.2.2.2.2.2.2.2.2.2.2.2.2.2.2.2.1,q.2.2.2.2.2.2.2.2.2.2.2.2.2.2.2.2.2)))
def zof(l:List aq):Option (Int×Int×ai×ai×Int×ai×(List ai)×(List ai)×Int×Int×Int×Bool×Int×Int×Int×ai×ai×(List Expr)×Int×Int×Int×Int×Int×Int×Int×Int×Int×ai×ai×(List Expr)×(List zK)):=aM (idx l 0) λx1=>(bif (!(zr x1.Text (vW VG 5 (vW Gd 3 (vW Gc 1 ([]:List (ai×Int)))))).isSome)then aY (14,0,([]:ai),([]:ai),0,([]:ai),[],[],0,0,0,bf,0,0,0,([]:ai),([]:ai),[],0,0,0,0,0,0,0,0,0,([]:ai),([]:ai),[],[])else((bif (decide (((zr x1.Text (vW VG 5 (vW Gd 3 (vW Gc 1 ([]:List (ai×Int)))))).getD 0)=3))then((bif (decide ((l.length:Int)>3))then(idx l 3).bind λx4=>aY (decide (x4.Text=PG))else aY bf)).bind λx3=>(bif x3 then(Km l).bind λ_=>bg else aY 2)else aY 1)).bind λx2=>aM ((bif (!(decide ((l.length:Int)=(aD (x2+3)))))then aY bh else(idx l (aD (x2+1))).bind λx7=>aY (!(decide (x7.aL=1))))) λx6=>(bif x6 then aY (14,0,([]:ai),([]:ai),0,([]:ai),[],[],0,0,0,bf,0,0,0,([]:ai),([]:ai),[],0,0,0,0,0,0,0,0,0,([]:ai),([]:ai),[],[])else(cut l 1 (aD (x2+1))).bind λx8=>(KF l ((zr x1.Text (vW VG 5 (vW Gd 3 (vW Gc 1 ([]:List (ai×Int)))))).getD 0) x2 1 x8 (x8.length:Int) ([]:ai) [] bf [] [] KK (0,0,0,0,0,0,0,0,0,0,0,0,0,0,0,0,0,0)).bind (y9 aY λx9=>aM (idx l 1) λnS=>aM (idx l (aD (x2+1))) λmF=>aM ((bif (decide (((zr x1.Text (vW VG 5 (vW Gd 3 (vW Gc 1 ([]:List (ai×Int)))))).getD 0)=3))then(idx l 2).bind λsD=>aY sD.Text else aY ([]:ai))) λrX=>aM ((bif (decide (((zr x1.Text (vW VG 5 (vW Gd 3 (vW Gc 1 ([]:List (ai×Int)))))).getD 0)=1))then(bif (decide ((aD (1*mF.N))<1))then aY bh else aY (decide ((aD (1*mF.N))>1073741824)))else aY bf)) λH_=>(bif H_ then aY (3,0,([]:ai),([]:ai),0,([]:ai),[],[],0,0,0,bf,0,0,0,([]:ai),([]:ai),[],0,0,0,0,0,0,0,0,0,([]:ai),([]:ai),[],[])else aY (0,((zr x1.Text (vW VG 5 (vW Gd 3 (vW Gc 1 ([]:List (ai×Int)))))).getD 0),nS.Text,rX,(aD (1*mF.N)),([]:ai),[],[],0,0,0,bf,0,0,0,([]:ai),([]:ai),[],0,0,0,0,0,0,0,0,0,([]:ai),([]:ai),[],[])))))
def HX(c0:ai)(c1:List aq)(c2:Int):Nat->(Int×Int×(List (List aq)))->Option (Int×(List (List aq)))
 |0,_=>bg
 |K+1,q=>(bif (decide (q.2.1<c2))then(aM (idx c1 q.2.1) λx2=>aM ((bif (decide (x2.aL=2))then aY (q.2.1,q.2.1,(decide (x2.Text=XM)))else aY (q.2.1,q.2.1,bf))) λx3=>(bif x3.2.2 then(cut c1 q.1 (aD (x3.1+1))).bind λx4=>aM (bD (ba (q.2.2++([x4]:List (List aq)))*24<=140737488355328)) λ_=>aY ((aD (x3.1+1)),x3.2.1,(q.2.2++([x4]:List (List aq))))else aY (q.1,x3.2.1,q.2.2))).bind λx1=>HX c0 c1 c2 K (x1.1,(aD (x1.2.1+1)),x1.2.2)else aY (q.1,q.2.2))
def HY(c0:ai)(c1:Int)(c2:List (List aq)):Nat->(Int×(List zN))->Option (((List zN)×Int)⊕((List zN)))
 |0,_=>bg
 |K+1,q=>(bif (decide (q.1<c1))then(bD (0<=q.1/\q.1<(((ba c2):Nat):Int))).bind λ_=>aM ((c2)[(bj q.1)]?) λx2=>aM (idx x2 0) λx3=>aM ((bif (decide (x3.Text=IH))then aY (decide (x3.Text=IH))else(bif (decide (x3.Text=P6))then aY (decide (x3.Text=P6))else(bif (decide (x3.Text=R7))then aY (decide (x3.Text=R7))else aY (decide (x3.Text=zh0)))))) λx4=>(bif x4 then(idx x2 0).bind λx5=>aM (idx x2 (aD ((x2.length:Int)-1))) λx6=>aM (cut c0 x5.Pos (aD (x6.Pos+1))) λ_=>bg else(zof x2).bind λx8=>(bif (!(decide (x8.1=0)))then aY (bO ([],x8.1))else(bD (ba (q.2++([(zN.mk x8.2.1 x8.2.2.1 x8.2.2.2.1 x8.2.2.2.2.1 (za.mk x8.2.2.2.2.2.1 x8.2.2.2.2.2.2.1 x8.2.2.2.2.2.2.2.1 x8.2.2.2.2.2.2.2.2.1 x8.2.2.2.2.2.2.2.2.2.1 x8.2.2.2.2.2.2.2.2.2.2.1 x8.2.2.2.2.2.2.2.2.2.2.2.1 x8.2.2.2.2.2.2.2.2.2.2.2.2.1 (Expr.mk x8.2.2.2.2.2.2.2.2.2.2.2.2.2.1 x8.2.2.2.2.2.2.2.2.2.2.2.2.2.2.1 x8.2.2.2.2.2.2.2.2.2.2.2.2.2.2.2.1 x8.2.2.2.2.2.2.2.2.2.2.2.2.2.2.2.2.1 x8.2.2.2.2.2.2.2.2.2.2.2.2.2.2.2.2.2.1) (zh.mk x8.2.2.2.2.2.2.2.2.2.2.2.2.2.2.2.2.2.2.1 x8.2.2.2.2.2.2.2.2.2.2.2.2.2.2.2.2.2.2.2.1 x8.2.2.2.2.2.2.2.2.2.2.2.2.2.2.2.2.2.2.2.2.1 x8.2.2.2.2.2.2.2.2.2.2.2.2.2.2.2.2.2.2.2.2.2.1) x8.2.2.2.2.2.2.2.2.2.2.2.2.2.2.2.2.2.2.2.2.2.2.1 x8.2.2.2.2.2.2.2.2.2.2.2.2.2.2.2.2.2.2.2.2.2.2.2.1 x8.2.2.2.2.2.2.2.2.2.2.2.2.2.2.2.2.2.2.2.2.2.2.2.2.1) (Expr.mk x8.2.2.2.2.2.2.2.2.2.2.2.2.2.2.2.2.2.2.2.2.2.2.2.2.2.1 x8.2.2.2.2.2.2.2.2.2.2.2.2.2.2.2.2.2.2.2.2.2.2.2.2.2.2.1 x8.2.2.2.2.2.2.2.2.2.2.2.2.2.2.2.2.2.2.2.2.2.2.2.2.2.2.2.1 x8.2.2.2.2.2.2.2.2.2.2.2.2.2.2.2.2.2.2.2.2.2.2.2.2.2.2.2.2.1 x8.2.2.2.2.2.2.2.2.2.2.2.2.2.2.2.2.2.2.2.2.2.2.2.2.2.2.2.2.2.1) x8.2.2.2.2.2.2.2.2.2.2.2.2.2.2.2.2.2.2.2.2.2.2.2.2.2.2.2.2.2.2)]:List zN))*376<=140737488355328)).bind λ_=>HY c0 c1 c2 K ((aD (q.1+1)),(q.2++([(zN.mk x8.2.1 x8.2.2.1 x8.2.2.2.1 x8.2.2.2.2.1 (za.mk x8.2.2.2.2.2.1 x8.2.2.2.2.2.2.1 x8.2.2.2.2.2.2.2.1 x8.2.2.2.2.2.2.2.2.1 x8.2.2.2.2.2.2.2.2.2.1 x8.2.2.2.2.2.2.2.2.2.2.1 x8.2.2.2.2.2.2.2.2.2.2.2.1 x8.2.2.2.2.2.2.2.2.2.2.2.2.1 (Expr.mk x8.2.2.2.2.2.2.2.2.2.2.2.2.2.1 x8.2.2.2.2.2.2.2.2.2.2.2.2.2.2.1 x8.2.2.2.2.2.2.2.2.2.2.2.2.2.2.2.1 x8.2.2.2.2.2.2.2.2.2.2.2.2.2.2.2.2.1 x8.2.2.2.2.2.2.2.2.2.2.2.2.2.2.2.2.2.1) (zh.mk x8.2.2.2.2.2.2.2.2.2.2.2.2.2.2.2.2.2.2.1 x8.2.2.2.2.2.2.2.2.2.2.2.2.2.2.2.2.2.2.2.1 x8.2.2.2.2.2.2.2.2.2.2.2.2.2.2.2.2.2.2.2.2.1 x8.2.2.2.2.2.2.2.2.2.2.2.2.2.2.2.2.2.2.2.2.2.1) x8.2.2.2.2.2.2.2.2.2.2.2.2.2.2.2.2.2.2.2.2.2.2.1 x8.2.2.2.2.2.2.2.2.2.2.2.2.2.2.2.2.2.2.2.2.2.2.2.1 x8.2.2.2.2.2.2.2.2.2.2.2.2.2.2.2.2.2.2.2.2.2.2.2.2.1) (Expr.mk x8.2.2.2.2.2.2.2.2.2.2.2.2.2.2.2.2.2.2.2.2.2.2.2.2.2.1 x8.2.2.2.2.2.2.2.2.2.2.2.2.2.2.2.2.2.2.2.2.2.2.2.2.2.2.1 x8.2.2.2.2.2.2.2.2.2.2.2.2.2.2.2.2.2.2.2.2.2.2.2.2.2.2.2.1 x8.2.2.2.2.2.2.2.2.2.2.2.2.2.2.2.2.2.2.2.2.2.2.2.2.2.2.2.2.1 x8.2.2.2.2.2.2.2.2.2.2.2.2.2.2.2.2.2.2.2.2.2.2.2.2.2.2.2.2.2.1) x8.2.2.2.2.2.2.2.2.2.2.2.2.2.2.2.2.2.2.2.2.2.2.2.2.2.2.2.2.2.2)]:List zN)))))else aY (bN q.2))
def zh3(s:ai):Option ((List zN)×Int):=aM (zu8 s) λx1=>(bif (!(decide (x1.2.2=0)))then aY ([],x1.2.2)else(HX s x1.1 (x1.1.length:Int) KK (0,0,[])).bind λx2=>(bif (decide ((((ba x2.2):Nat):Int)>200))then aY ([],6)else(bif (!(decide (x2.1=(aD ((x1.1.length:Int)-1)))))then aY ([],14)else(HY s (((ba x2.2):Nat):Int) x2.2 KK (0,[])).bind (y9 aY λx3=>aY (x3,0)))))
def Qq(e:zN):Option (Bool×(List Def)×(List ar)×(List zF)×(List za)×(List a_)×(List au)×(List zj)×Int):=(bif (decide (e.aL=0))then aY (bh,[],[],[],([(za.mk e.za.aK e.za.aA e.za.Except e.za.lA e.za.j_ e.za.lN e.za.lU e.za.aL (Expr.mk e.za.Test.Op e.za.Test.N e.za.Test.S e.za.Test.Key e.za.Test.aH) e.za.zh e.za.Uses e.za.lK e.za.N)]:List za),[],[],[],0)else(bif (decide (e.aL=2))then aY (bh,([(Def.mk e.aK (Expr.mk e.Body.Op e.Body.N e.Body.S e.Body.Key e.Body.aH))]:List Def),[],[],[],[],[],[],0)else(bif (decide (e.aL=4))then aY (bh,[],[],([(zF.mk e.aK (decide (e.N=1)) e.ay)]:List zF),[],[],[],[],0)else aY (bf,[],[],[],[],[],[],[],0))))
def zh4(x_:Def):Option (ai):=aY x_.aK
def uq(c0:Bool)(c1:List ai)(c2:Int):Nat->(Int×J_)->Option ((Bool)⊕(Unit))
 |0,_=>bg
 |K+1,q=>(bif (decide (q.1<c2))then(idx c1 q.1).bind λx1=>aM (aM (Qp x1) λx3=>(bif (!x3)then aY bh else(bif c0 then aY ((zr x1 q.2).getD bf)else aY bf))) λx2=>(bif x2 then aY (bO bf)else uq c0 c1 c2 K ((aD (q.1+1)),(vW x1 bh q.2)))else aY (bN ()))
def ke(l:List ai)(unique:Bool):Option (Bool):=(uq unique l (l.length:Int) KK (0,([]:List (ai×Bool)))).bind (y9 aY λ_=>aY bh)
def A1(c0:List Def)(c1:Int)(c2:Int):Nat->(Int×(List ai))->Option ((List ai))
 |0,_=>bg
 |K+1,q=>(bif (decide (q.1<c2))then(idx c0 q.1).bind λx1=>aM (zh4 (Def.mk x1.aK (Expr.mk x1.Body.Op x1.Body.N x1.Body.S x1.Body.Key x1.Body.aH))) λx2=>aM (bD (ba (q.2++([x2]:List ai))*16<=140737488355328)) λ_=>A1 c0 c1 c2 K ((aD (q.1+1)),(q.2++([x2]:List ai)))else aY q.2)
def Yj(l:List Def)(most:Int):Option (Bool):=aM (A1 l most (l.length:Int) KK (0,[])) λx1=>(bif (decide ((l.length:Int)<=most))then(ke x1 bh).bind λx2=>aY x2 else aY bf)
def zh5(x_:ar):Option (ai):=aY x_.aK
def uc(c0:List ar)(c1:Int)(c2:Int):Nat->(Int×(List ai))->Option ((List ai))
 |0,_=>bg
 |K+1,q=>(bif (decide (q.1<c2))then(idx c0 q.1).bind λx1=>aM (zh5 x1) λx2=>aM (bD (ba (q.2++([x2]:List ai))*16<=140737488355328)) λ_=>uc c0 c1 c2 K ((aD (q.1+1)),(q.2++([x2]:List ai)))else aY q.2)
def JZ(l:List ar)(most:Int):Option (Bool):=aM (uc l most (l.length:Int) KK (0,[])) λx1=>(bif (decide ((l.length:Int)<=most))then(ke x1 bh).bind λx2=>aY x2 else aY bf)
def zh6(x_:zF):Option (ai):=aY x_.aK
def ud(c0:List zF)(c1:Int)(c2:Int):Nat->(Int×(List ai))->Option ((List ai))
 |0,_=>bg
 |K+1,q=>(bif (decide (q.1<c2))then(idx c0 q.1).bind λx1=>aM (zh6 x1) λx2=>aM (bD (ba (q.2++([x2]:List ai))*16<=140737488355328)) λ_=>ud c0 c1 c2 K ((aD (q.1+1)),(q.2++([x2]:List ai)))else aY q.2)
def J0(l:List zF)(most:Int):Option (Bool):=aM (ud l most (l.length:Int) KK (0,[])) λx1=>(bif (decide ((l.length:Int)<=most))then(ke x1 bh).bind λx2=>aY x2 else aY bf)
def zh7(x_:za):Option (ai):=aY x_.aK
def ue(c0:List za)(c1:Int)(c2:Int):Nat->(Int×(List ai))->Option ((List ai))
 |0,_=>bg
 |K+1,q=>(bif (decide (q.1<c2))then(idx c0 q.1).bind λx1=>aM (zh7 (za.mk x1.aK x1.aA x1.Except x1.lA x1.j_ x1.lN x1.lU x1.aL (Expr.mk x1.Test.Op x1.Test.N x1.Test.S x1.Test.Key x1.Test.aH) x1.zh x1.Uses x1.lK x1.N)) λx2=>aM (bD (ba (q.2++([x2]:List ai))*16<=140737488355328)) λ_=>ue c0 c1 c2 K ((aD (q.1+1)),(q.2++([x2]:List ai)))else aY q.2)
def J1(l:List za)(most:Int):Option (Bool):=aM (ue l most (l.length:Int) KK (0,[])) λx1=>(bif (decide ((l.length:Int)<=most))then(ke x1 bh).bind λx2=>aY x2 else aY bf)
def zh8(x_:a_):Option (ai):=aY x_.aK
def uf(c0:List a_)(c1:Int)(c2:Int):Nat->(Int×(List ai))->Option ((List ai))
 |0,_=>bg
 |K+1,q=>(bif (decide (q.1<c2))then(idx c0 q.1).bind λx1=>aM (zh8 x1) λx2=>aM (bD (ba (q.2++([x2]:List ai))*16<=140737488355328)) λ_=>uf c0 c1 c2 K ((aD (q.1+1)),(q.2++([x2]:List ai)))else aY q.2)
def J2(l:List a_)(most:Int):Option (Bool):=aM (uf l most (l.length:Int) KK (0,[])) λx1=>(bif (decide ((l.length:Int)<=most))then(ke x1 bh).bind λx2=>aY x2 else aY bf)
def zh9(x_:au):Option (ai):=aY x_.aK
def ug(c0:List au)(c1:Int)(c2:Int):Nat->(Int×(List ai))->Option ((List ai))
 |0,_=>bg
 |K+1,q=>(bif (decide (q.1<c2))then(idx c0 q.1).bind λx1=>aM (zh9 x1) λx2=>aM (bD (ba (q.2++([x2]:List ai))*16<=140737488355328)) λ_=>ug c0 c1 c2 K ((aD (q.1+1)),(q.2++([x2]:List ai)))else aY q.2)
def J3(l:List au)(most:Int):Option (Bool):=aM (ug l most (l.length:Int) KK (0,[])) λx1=>(bif (decide ((l.length:Int)<=most))then(ke x1 bh).bind λx2=>aY x2 else aY bf)
def xe(abi:Expr->Int->Option (Bool))(c0:Int)(c1:List Expr)(c2:Int):Nat->(Int)->Option ((Bool)⊕(Unit))
 |0,_=>bg
 |K+1,q=>(bif (decide (q<c2))then(idx c1 q).bind λx1=>aM (abi (Expr.mk x1.Op x1.N x1.S x1.Key x1.aH) (aD (c0-1))) λx2=>(bif (!x2)then aY (bO bf)else xe abi c0 c1 c2 K (aD (q+1)))else aY (bN ()))
def yc:Nat->Expr->Int->Option (Bool)
 |0,_,_=>bg
 |RK+1,e,depth=>aM ((bif (decide (depth=0))then aY bh else(bif (decide (e.Op<0))then aY bh else aY (decide (e.Op>=17))))) λx1=>(bif x1 then aY bf else((bif (decide (e.Op=0))then aY (bN (0,(min (max e.N 0) 1099511627776),([]:ai),([]:ai)))else((bif (decide (e.Op=1))then aY (decide (e.Op=1))else aY (decide (e.Op=3)))).bind λx3=>(bif x3 then aY (bN (0,0,e.S,([]:ai)))else(bif (decide (e.Op=2))then(Qp e.Key).bind λx4=>(bif (!x4)then aY (bO bf)else aY (bN (0,0,e.S,e.Key)))else((bif (decide (e.Op=9))then aY (decide (e.Op=9))else aY (decide (e.Op=15)))).bind λx5=>(bif x5 then aY (bN (1,0,([]:ai),([]:ai)))else(bif (decide (e.Op=16))then aY (bN (3,0,([]:ai),([]:ai)))else aY (bN (2,0,([]:ai),([]:ai))))))))).bind (y9 aY λx2=>aM ((bif (!(decide ((e.aH.length:Int)=x2.1)))then aY bh else(bif (!(decide (x2.2.1=e.N)))then aY bh else(bif (!(decide (x2.2.2.1=e.S)))then aY bh else(bif (!(decide (x2.2.2.2=e.Key)))then aY bh else(bif (decide (x2.1=0))then(bif (!(decide (e.Op=0)))then(Qp e.S).bind λx7=>aY (!x7)else aY bf)else aY bf)))))) λx6=>(bif x6 then aY bf else(xe (yc RK) depth e.aH (e.aH.length:Int) KK 0).bind (y9 aY λ_=>aY bh))))
def kf(e:Expr):Option (Bool):=aM (yc KK (Expr.mk e.Op e.N e.S e.Key e.aH) 12) λx1=>aY x1
def zia(x_:av):Option (ai):=aY x_.aK
def uh(c0:List av)(c1:Int)(c2:Int):Nat->(Int×(List ai))->Option ((List ai))
 |0,_=>bg
 |K+1,q=>(bif (decide (q.1<c2))then(idx c0 q.1).bind λx1=>aM (zia x1) λx2=>aM (bD (ba (q.2++([x2]:List ai))*16<=140737488355328)) λ_=>uh c0 c1 c2 K ((aD (q.1+1)),(q.2++([x2]:List ai)))else aY q.2)
def J4(l:List av)(most:Int):Option (Bool):=aM (uh l most (l.length:Int) KK (0,[])) λx1=>(bif (decide ((l.length:Int)<=most))then(ke x1 bh).bind λx2=>aY x2 else aY bf)
def uT(c0:Int)(c1:Int)(c2:List Int)(c3:Int):Nat->(Int)->Option ((Bool)⊕(Unit))
 |0,_=>bg
 |K+1,q=>(bif (decide (q<c3))then(idx c2 q).bind λx1=>aM ((bif (decide (x1<c0))then aY bh else aY (decide (x1>c1)))) λx2=>(bif x2 then aY (bO bf)else uT c0 c1 c2 c3 K (aD (q+1)))else aY (bN ()))
def zR(from_:Int)(to_:Int)(l:List Int):Option (Bool):=(uT from_ to_ l (l.length:Int) KK 0).bind (y9 aY λ_=>aY bh)
def wo(c0:List zK)(c1:Int):Nat->(Int×(List zw))->Option ((List zw))
 |0,_=>bg
 |K+1,q=>(bif (decide (q.1<c1))then(idx c0 q.1).bind λx1=>aM (bD ((c0.length:Int)≠0)) λ_=>aM (idx c0 (ew (aD (q.1+1)) (c0.length:Int))) λx3=>aM (bD (0<=q.1/\q.1<(((ba q.2):Nat):Int))) λ_=>aM ((q.2)[(bj q.1)]?) λ_=>wo c0 c1 K ((aD (q.1+1)),(cD q.2 (bj q.1) (zw.mk x1 x3)))else aY q.2)
def J5(p:List zK):Option ((List zw)):=
 aM (bD (0<=(p.length:Int)/\(p.length:Int)*((32:Nat):Int)<=281474976710656/\(p.length:Int)<=9223372036854775807)) λ_=>aM (wo p (p.length:Int) KK (0,(bp (bj (p.length:Int)) (zw.mk (zK.mk 0 0) (zK.mk 0 0))))) λx2=>aY x2
def VJ(p:zK):Option (Bool):=(bif (decide (0<=p.X))then(bif (decide (p.X<=1048576))then(bif (decide (0<=p.Y))then aY (decide (p.Y<=1048576))else aY bf)else aY bf)else aY bf)
def y6(s:zw):Option (Bool):=aY (decide (s.a.X=s.b.X))
def xl(x_:Int):Option (Bool):=aY (!(decide (x_=x_)))
def yC(x_:Int)(y:Int):Option (Int):=aM (xl x_) λx1=>aM (xl y) λx2=>(bif x1 then(bif x2 then aY 0 else aY (-1))else(bif x2 then aY 1 else(bif (decide (x_<y))then aY (-1)else(bif (decide (x_>y))then aY 1 else aY 0))))
def kg(c0:Int)(c1:List Int)(c2:Int):Nat->(Int)->Option ((Int)⊕(Unit))
 |0,_=>bg
 |K+1,q=>(bif (decide (q<c2))then(idx c1 q).bind λx1=>(bif (!(decide (x1=c0)))then aY (bO x1)else kg c0 c1 c2 K (aD (q+1)))else aY (bN ()))
def Yk(vals:List Int):Option (Int):=(kg 0 vals (vals.length:Int) KK 0).bind (y9 aY λ_=>aY 0)
def A2(a:zK)(b:zK):Option (Int):=aM (yC a.X b.X) λx1=>aM (yC a.Y b.Y) λx2=>aM (Yk ([x1,x2]:List Int)) λx3=>aY x3
def Hj(s:zw)(t:zw):Option (Bool):=(bif (decide ((max (min s.a.X s.b.X) (min t.a.X t.b.X))<=(min (max s.a.X s.b.X) (max t.a.X t.b.X))))then aY (decide ((max (min s.a.Y s.b.Y) (min t.a.Y t.b.Y))<=(min (max s.a.Y s.b.Y) (max t.a.Y t.b.Y))))else aY bf)
def jv(c0:List zK)(c1:List zw)(c2:Int):Nat->(Int)->Option ((Bool)⊕(Unit))
 |0,_=>bg
 |K+1,q=>(bif (decide (q<c2))then(idx c1 q).bind λx1=>aM (bD ((c1.length:Int)≠0)) λ_=>aM (idx c1 (ew (aD (q+1)) (c1.length:Int))) λx3=>aM (aM (VJ x1.a) λx5=>(bif (!x5)then aY bh else(bif ((decide (x1.a.X=x1.b.X))==(decide (x1.a.Y=x1.b.Y)))then aY bh else(y6 x1).bind λx6=>aM (y6 x3) λx7=>aY (x6==x7)))) λx4=>(bif x4 then aY (bO bf)else((bif (decide (q>0))then(idx c0 0).bind λx9=>aM (idx c0 q) λnS=>aM (A2 x9 nS) λmF=>aY (decide (mF>=0))else aY bf)).bind λx8=>(bif x8 then aY (bO bf)else jv c0 c1 c2 K (aD (q+1))))else aY (bN ()))
def jw(c0:List zw)(c1:Int)(c2:Int):Nat->(Int)->Option ((Bool)⊕(Unit))
 |0,_=>bg
 |K+1,q=>(bif (decide (q<(c0.length:Int)))then((bif (decide ((aD ((aD (c1+(c0.length:Int)))-q))>1))then(idx c0 c1).bind λx2=>aM (idx c0 q) λx3=>aM (Hj x2 x3) λx4=>aY x4 else aY bf)).bind λx1=>(bif x1 then aY (bO bf)else jw c0 c1 c2 K (aD (q+1)))else aY (bN ()))
def jx(c0:List zw)(c1:Int):Nat->(Int)->Option ((Bool)⊕(Unit))
 |0,_=>bg
 |K+1,q=>(bif (decide (q<c1))then(jw c0 q c1 KK (aD (q+2))).bind (y9 (λq=>aY (bO q)) λ_=>jx c0 c1 K (aD (q+1)))else aY (bN ()))
def Zf(p:List zK):Option (Bool):=aM ((bif (decide ((p.length:Int)<4))then aY bh else aY (decide ((p.length:Int)>60)))) λx1=>(bif x1 then aY bf else(J5 p).bind λx2=>(jv p x2 (x2.length:Int) KK 0).bind (y9 aY λ_=>(jx x2 (x2.length:Int) KK 0).bind (y9 aY λ_=>aM (idx x2 0) λx5=>aM (y6 x5) λx6=>aY (!x6))))
def A3(l:List zK):Option (Bool):=aM (Zf l) λx1=>aY x1
def kh(c0:List ai)(c1:List ai)(c2:Int):Nat->(Int)->Option ((Bool)⊕(Unit))
 |0,_=>bg
 |K+1,q=>(bif (decide (q<c2))then(idx c0 q).bind λx1=>aM (idx c1 q) λx2=>(bif (!(decide (x1=x2)))then aY (bO bf)else kh c0 c1 c2 K (aD (q+1)))else aY (bN ()))
def ja(s1:List ai)(s2:List ai):Option (Bool):=(bif (!(decide ((s1.length:Int)=(s2.length:Int))))then aY bf else(kh s1 s2 (s1.length:Int) KK 0).bind (y9 aY λ_=>aY bh))
def vi(abm:Expr->Expr->Option (Bool))(c0:List Expr)(c1:List Expr)(c2:Int):Nat->(Int)->Option ((Bool)⊕(Unit))
 |0,_=>bg
 |K+1,q=>(bif (decide (q<c2))then(idx c1 q).bind λx1=>aM (idx c0 q) λx2=>aM (abm (Expr.mk x1.Op x1.N x1.S x1.Key x1.aH) (Expr.mk x2.Op x2.N x2.S x2.Key x2.aH)) λx3=>(bif (!x3)then aY (bO bf)else vi abm c0 c1 c2 K (aD (q+1)))else aY (bN ()))
mutual
def wW:Nat->(List Expr)->(List Expr)->Option (Bool)
 |0,_,_=>bg
 |RK+1,s1,s2=>(bif (!(decide ((s1.length:Int)=(s2.length:Int))))then aY bf else(vi (vA RK) s2 s1 (s1.length:Int) KK 0).bind (y9 aY λ_=>aY bh))
def vA:Nat->Expr->Expr->Option (Bool)
 |0,_,_=>bg
 |RK+1,a,b=>(bif (decide (a.Op=b.Op))then(bif (decide (a.N=b.N))then(bif (decide (a.S=b.S))then(bif (decide (a.Key=b.Key))then(wW RK a.aH b.aH).bind λx1=>aY x1 else aY bf)else aY bf)else aY bf)else aY bf)
end
def kj(a:za)(b:za):Option (Bool):=aM (aM (ja a.aA b.aA) λx2=>(bif (!x2)then aY bh else(ja a.Except b.Except).bind λx3=>(bif (!x3)then aY bh else(vA KK (Expr.mk a.Test.Op a.Test.N a.Test.S a.Test.Key a.Test.aH) (Expr.mk b.Test.Op b.Test.N b.Test.S b.Test.Key b.Test.aH)).bind λx4=>aY (!x4)))) λx1=>(bif x1 then aY bf else((bif (decide (a.aK=b.aK))then(bif (decide (a.lA=b.lA))then(bif (decide (a.j_=b.j_))then(bif (decide (a.lN=b.lN))then aY (a.lU==b.lU)else aY bf)else aY bf)else aY bf)else aY bf)).bind λx5=>(bif x5 then(bif (decide (a.aL=b.aL))then(bif (decide (a.zh.nL=b.zh.nL)&&(decide (a.zh.nK=b.zh.nK)&&(decide (a.zh.nG=b.zh.nG)&&(decide (a.zh.Den=b.zh.Den)))))then(bif (decide (a.Uses=b.Uses))then(bif (decide (a.lK=b.lK))then aY (decide (a.N=b.N))else aY bf)else aY bf)else aY bf)else aY bf)else aY bf))
def uU(r_:za):Option (Bool):=aM (aM (ke r_.aA bf) λx2=>(bif (!x2)then aY bh else(ke r_.Except bf).bind λx3=>(bif (!x3)then aY bh else(zR 0 1073741824 ([r_.lA,r_.lN,r_.j_]:List Int)).bind λx4=>(bif (!x4)then aY bh else(bif (!(decide (r_.j_=0)))then aY (decide (r_.j_<=r_.lA))else aY bf))))) λx1=>(bif x1 then aY bf else((bif (decide (r_.aL=0))then(kf (Expr.mk r_.Test.Op r_.Test.N r_.Test.S r_.Test.Key r_.Test.aH)).bind λx6=>aY (x6,r_.Test.Op,r_.Test.N,r_.Test.S,r_.Test.Key,r_.Test.aH,0,0,0,0,0,0,0)else(bif (decide (r_.aL=1))then(zR 0 3 ([r_.zh.nL]:List Int)).bind λx7=>(bif x7 then(zR 0 4096 ([r_.zh.nK,r_.zh.nG]:List Int)).bind λx8=>(bif x8 then(zR 1 4096 ([r_.zh.Den]:List Int)).bind λx9=>aY (x9,0,0,([]:ai),([]:ai),[],r_.zh.nL,r_.zh.nK,r_.zh.nG,r_.zh.Den,0,0,0)else aY (bf,0,0,([]:ai),([]:ai),[],r_.zh.nL,r_.zh.nK,r_.zh.nG,r_.zh.Den,0,0,0))else aY (bf,0,0,([]:ai),([]:ai),[],r_.zh.nL,r_.zh.nK,r_.zh.nG,r_.zh.Den,0,0,0))else(bif (decide (r_.aL=2))then(zR 1 63 ([r_.Uses]:List Int)).bind λnS=>aY (nS,0,0,([]:ai),([]:ai),[],0,0,0,0,r_.Uses,0,0)else(bif (decide (r_.aL=3))then(zR 0 5 ([r_.Uses,r_.lK]:List Int)).bind λmF=>(bif mF then(zR 0 1048576 ([r_.N]:List Int)).bind λrX=>aY (rX,0,0,([]:ai),([]:ai),[],0,0,0,0,r_.Uses,r_.lK,r_.N)else aY (bf,0,0,([]:ai),([]:ai),[],0,0,0,0,r_.Uses,r_.lK,r_.N))else aY (bf,0,0,([]:ai),([]:ai),[],0,0,0,0,0,0,0)))))).bind λx5=>(bif x5.1 then(kj (za.mk r_.aK r_.aA r_.Except r_.lA r_.j_ r_.lN r_.lU r_.aL (Expr.mk r_.Test.Op r_.Test.N r_.Test.S r_.Test.Key r_.Test.aH) r_.zh r_.Uses r_.lK r_.N) (za.mk r_.aK r_.aA r_.Except r_.lA r_.j_ r_.lN r_.lU r_.aL (Expr.mk x5.2.1 x5.2.2.1 x5.2.2.2.1 x5.2.2.2.2.1 x5.2.2.2.2.2.1) (zh.mk x5.2.2.2.2.2.2.1 x5.2.2.2.2.2.2.2.1 x5.2.2.2.2.2.2.2.2.1 x5.2.2.2.2.2.2.2.2.2.1) x5.2.2.2.2.2.2.2.2.2.2.1 x5.2.2.2.2.2.2.2.2.2.2.2.1 x5.2.2.2.2.2.2.2.2.2.2.2.2)).bind λsD=>aY sD else aY bf))
def ur(c0:List Def)(c1:Int)(c2:List ar)(c3:List zF)(c4:List za)(c5:List a_)(c6:List au)(c7:List zj)(c8:Int):Nat->(Int)->Option ((Bool)⊕(Unit))
 |0,_=>bg
 |K+1,q=>(bif (decide (q<c1))then(idx c0 q).bind λx1=>aM (kf (Expr.mk x1.Body.Op x1.Body.N x1.Body.S x1.Body.Key x1.Body.aH)) λx2=>(bif (!x2)then aY (bO bf)else ur c0 c1 c2 c3 c4 c5 c6 c7 c8 K (aD (q+1)))else aY (bN ()))
def Ai(c0:List ar)(c1:Int)(c2:Int)(c3:List av)(c4:Int)(c5:List Def)(c6:List zF)(c7:List za)(c8:List a_)(c9:List au)(lE:List zj)(lJ:Int):Nat->(Int)->Option ((Bool)⊕(Unit))
 |0,_=>bg
 |K+1,q=>(bif (decide (q<c4))then(idx c3 q).bind λx1=>aM (zR (-1099511627776) 1099511627776 ([x1.N]:List Int)) λx2=>(bif (!x2)then aY (bO bf)else Ai c0 c1 c2 c3 c4 c5 c6 c7 c8 c9 lE lJ K (aD (q+1)))else aY (bN ()))
def kl(c0:List ar)(c1:Int)(c2:List Def)(c3:List zF)(c4:List za)(c5:List a_)(c6:List au)(c7:List zj)(c8:Int):Nat->(Int)->Option ((Bool)⊕(Unit))
 |0,_=>bg
 |K+1,q=>(bif (decide (q<c1))then(idx c0 q).bind λx1=>aM (aM (J4 x1.Rows 60) λx3=>(bif (!x3)then aY bh else(zR (-1099511627776) 1099511627776 ([x1.nU]:List Int)).bind λx4=>aY (!x4))) λx2=>(bif x2 then aY (bO bf)else(Ai c0 c1 q x1.Rows (x1.Rows.length:Int) c2 c3 c4 c5 c6 c7 c8 KK 0).bind (y9 (λq=>aY (bO q)) λ_=>kl c0 c1 c2 c3 c4 c5 c6 c7 c8 K (aD (q+1))))else aY (bN ()))
def uu(c0:List zF)(c1:Int)(c2:List Def)(c3:List ar)(c4:List za)(c5:List a_)(c6:List au)(c7:List zj)(c8:Int):Nat->(Int)->Option ((Bool)⊕(Unit))
 |0,_=>bg
 |K+1,q=>(bif (decide (q<c1))then(idx c0 q).bind λx1=>aM (A3 x1.ay) λx2=>(bif (!x2)then aY (bO bf)else uu c0 c1 c2 c3 c4 c5 c6 c7 c8 K (aD (q+1)))else aY (bN ()))
def uv(c0:List za)(c1:Int)(c2:List Def)(c3:List ar)(c4:List zF)(c5:List a_)(c6:List au)(c7:List zj)(c8:Int):Nat->(Int)->Option ((Bool)⊕(Unit))
 |0,_=>bg
 |K+1,q=>(bif (decide (q<c1))then(idx c0 q).bind λx1=>aM (uU (za.mk x1.aK x1.aA x1.Except x1.lA x1.j_ x1.lN x1.lU x1.aL (Expr.mk x1.Test.Op x1.Test.N x1.Test.S x1.Test.Key x1.Test.aH) x1.zh x1.Uses x1.lK x1.N)) λx2=>(bif (!x2)then aY (bO bf)else uv c0 c1 c2 c3 c4 c5 c6 c7 c8 K (aD (q+1)))else aY (bN ()))
def ux(c0:List a_)(c1:Int)(c2:List Def)(c3:List ar)(c4:List zF)(c5:List za)(c6:List au)(c7:List zj)(c8:Int):Nat->(Int)->Option ((Bool)⊕(Unit))
 |0,_=>bg
 |K+1,q=>(bif (decide (q<c1))then(idx c0 q).bind λx1=>aM (aM (zR 0 2 ([x1.sH]:List Int)) λx3=>(bif (!x3)then aY bh else(zR 0 1099511627776 ([x1.pB]:List Int)).bind λx4=>(bif (!x4)then aY bh else(A3 x1.ay).bind λx5=>aY (!x5)))) λx2=>(bif x2 then aY (bO bf)else ux c0 c1 c2 c3 c4 c5 c6 c7 c8 K (aD (q+1)))else aY (bN ()))
def Aj(c0:List au)(c1:Int)(c2:Int)(c3:Int)(c4:List Def)(c5:List ar)(c6:List zF)(c7:List za)(c8:List a_)(c9:List zj)(lE:Int)(lJ:List zj):Nat->(Int)->Option ((Bool)⊕(Unit))
 |0,_=>bg
 |K+1,q=>(bif (decide (q<c3))then(bD (0<=q/\q<(((ba lJ):Nat):Int))).bind λ_=>aM ((lJ)[(bj q)]?) λx2=>aM (aM (zR 0 1048576 ([x2.X,x2.Y]:List Int)) λx4=>(bif (!x4)then aY bh else(zR 0 4096 ([x2.Z_]:List Int)).bind λx5=>aY (!x5))) λx3=>(bif x3 then aY (bO bf)else Aj c0 c1 c2 c3 c4 c5 c6 c7 c8 c9 lE lJ K (aD (q+1)))else aY (bN ()))
def km(c0:List au)(c1:Int)(c2:List Def)(c3:List ar)(c4:List zF)(c5:List za)(c6:List a_)(c7:List zj)(c8:Int):Nat->(Int)->Option ((Bool)⊕(Unit))
 |0,_=>bg
 |K+1,q=>(bif (decide (q<c1))then(idx c0 q).bind λx1=>aM (aM (zR 0 20 ([x1.sJ]:List Int)) λx3=>(bif (!x3)then aY bh else(zR 1 20 ([(x1.mK.length:Int)]:List Int)).bind λx4=>aY (!x4))) λx2=>(bif x2 then aY (bO bf)else(bD (ba (([x1.nq]:List zj)++x1.mK)*24<=140737488355328)).bind λ_=>(Aj c0 c1 q (((ba (([x1.nq]:List zj)++x1.mK)):Nat):Int) c2 c3 c4 c5 c6 c7 c8 (([x1.nq]:List zj)++x1.mK) KK 0).bind (y9 (λq=>aY (bO q)) λ_=>km c0 c1 c2 c3 c4 c5 c6 c7 c8 K (aD (q+1))))else aY (bN ()))
def uy(c0:List zj)(c1:Int)(c2:List Def)(c3:List ar)(c4:List zF)(c5:List za)(c6:List a_)(c7:List au)(c8:Int):Nat->(Int)->Option ((Bool)⊕(Unit))
 |0,_=>bg
 |K+1,q=>(bif (decide (q<c1))then(idx c0 q).bind λx1=>aM (aM (zR (-4096) 4096 ([x1.X,x1.Y]:List Int)) λx3=>(bif (!x3)then aY bh else(zR 1 4096 ([x1.Z_]:List Int)).bind λx4=>aY (!x4))) λx2=>(bif x2 then aY (bO bf)else uy c0 c1 c2 c3 c4 c5 c6 c7 c8 K (aD (q+1)))else aY (bN ()))
def HZ(p:yp):Option (Bool):=aM (aM (Yj p.aE 60) λx2=>(bif (!x2)then aY bh else(JZ p.Tables 60).bind λx3=>(bif (!x3)then aY bh else(J0 p.aA 60).bind λx4=>(bif (!x4)then aY bh else(J1 p.aB 200).bind λx5=>(bif (!x5)then aY bh else(J2 p.aI 30).bind λx6=>(bif (!x6)then aY bh else(J3 p.aF 60).bind λx7=>aY (!x7))))))) λx1=>(bif x1 then aY bf else(ur p.aE (p.aE.length:Int) p.Tables p.aA p.aB p.aI p.aF p.aJ p.aG KK 0).bind (y9 aY λ_=>(kl p.Tables (p.Tables.length:Int) p.aE p.aA p.aB p.aI p.aF p.aJ p.aG KK 0).bind (y9 aY λ_=>(uu p.aA (p.aA.length:Int) p.aE p.Tables p.aB p.aI p.aF p.aJ p.aG KK 0).bind (y9 aY λ_=>(uv p.aB (p.aB.length:Int) p.aE p.Tables p.aA p.aI p.aF p.aJ p.aG KK 0).bind (y9 aY λ_=>(ux p.aI (p.aI.length:Int) p.aE p.Tables p.aA p.aB p.aF p.aJ p.aG KK 0).bind (y9 aY λ_=>(km p.aF (p.aF.length:Int) p.aE p.Tables p.aA p.aB p.aI p.aJ p.aG KK 0).bind (y9 aY λ_=>(uy p.aJ (p.aJ.length:Int) p.aE p.Tables p.aA p.aB p.aI p.aF p.aG KK 0).bind (y9 aY λ_=>aM (zR 0 24 ([p.aG,(p.aJ.length:Int)]:List Int)) λA_=>aY A_))))))))
def J6(p:yp):Option (Int×ai×ai×Int×ai×(List ai)×(List ai)×Int×Int×Int×Bool×Int×Int×Int×ai×ai×(List Expr)×Int×Int×Int×Int×Int×Int×Int×Int×Int×ai×ai×(List Expr)×(List zK)):=(bif (decide ((p.aB.length:Int)=1))then(idx p.aB 0).bind λx1=>aY (0,([]:ai),([]:ai),0,x1.aK,x1.aA,x1.Except,x1.lA,x1.j_,x1.lN,x1.lU,x1.aL,x1.Test.Op,x1.Test.N,x1.Test.S,x1.Test.Key,x1.Test.aH,x1.zh.nL,x1.zh.nK,x1.zh.nG,x1.zh.Den,x1.Uses,x1.lK,x1.N,0,0,([]:ai),([]:ai),[],[])else(bif (decide ((p.aE.length:Int)=1))then(idx p.aE 0).bind λx2=>aM (idx p.aE 0) λx3=>aY (2,x2.aK,([]:ai),0,([]:ai),[],[],0,0,0,bf,0,0,0,([]:ai),([]:ai),[],0,0,0,0,0,0,0,x3.Body.Op,x3.Body.N,x3.Body.S,x3.Body.Key,x3.Body.aH,[])else(idx p.aA 0).bind λx4=>aM ((bif x4.nf then aY 1 else aY 0)) λx5=>aY (4,x4.aK,([]:ai),x5,([]:ai),[],[],0,0,0,bf,0,0,0,([]:ai),([]:ai),[],0,0,0,0,0,0,0,0,0,([]:ai),([]:ai),[],x4.ay)))
def jj(c0:List zK)(c1:List zK)(c2:Int):Nat->(Int)->Option ((Bool)⊕(Unit))
 |0,_=>bg
 |K+1,q=>(bif (decide (q<c2))then(idx c0 q).bind λx1=>aM (idx c1 q) λx2=>(bif (!(decide (x1.X=x2.X)&&(decide (x1.Y=x2.Y))))then aY (bO bf)else jj c0 c1 c2 K (aD (q+1)))else aY (bN ()))
def y8(s1:List zK)(s2:List zK):Option (Bool):=(bif (!(decide ((s1.length:Int)=(s2.length:Int))))then aY bf else(jj s1 s2 (s1.length:Int) KK 0).bind (y9 aY λ_=>aY bh))
def Yl(x_:Def)(y:Def):Option (Bool):=(bif (decide (x_.aK=y.aK))then(vA KK (Expr.mk x_.Body.Op x_.Body.N x_.Body.S x_.Body.Key x_.Body.aH) (Expr.mk y.Body.Op y.Body.N y.Body.S y.Body.Key y.Body.aH)).bind λx1=>aY x1 else aY bf)
def wq(c0:List Def)(c1:List Def)(c2:Int):Nat->(Int)->Option ((Bool)⊕(Unit))
 |0,_=>bg
 |K+1,q=>(bif (decide (q<c2))then(idx c1 q).bind λx1=>aM (idx c0 q) λx2=>aM (Yl (Def.mk x1.aK (Expr.mk x1.Body.Op x1.Body.N x1.Body.S x1.Body.Key x1.Body.aH)) (Def.mk x2.aK (Expr.mk x2.Body.Op x2.Body.N x2.Body.S x2.Body.Key x2.Body.aH))) λx3=>(bif (!x3)then aY (bO bf)else wq c0 c1 c2 K (aD (q+1)))else aY (bN ()))
def xH(s1:List Def)(s2:List Def):Option (Bool):=(bif (!(decide ((s1.length:Int)=(s2.length:Int))))then aY bf else(wq s2 s1 (s1.length:Int) KK 0).bind (y9 aY λ_=>aY bh))
def jk(c0:List av)(c1:List av)(c2:Int):Nat->(Int)->Option ((Bool)⊕(Unit))
 |0,_=>bg
 |K+1,q=>(bif (decide (q<c2))then(idx c0 q).bind λx1=>aM (idx c1 q) λx2=>(bif (!(decide (x1.aK=x2.aK)&&(decide (x1.N=x2.N))))then aY (bO bf)else jk c0 c1 c2 K (aD (q+1)))else aY (bN ()))
def je(s1:List av)(s2:List av):Option (Bool):=(bif (!(decide ((s1.length:Int)=(s2.length:Int))))then aY bf else(jk s1 s2 (s1.length:Int) KK 0).bind (y9 aY λ_=>aY bh))
def Ym(x_:ar)(y:ar):Option (Bool):=(bif (decide (x_.aK=y.aK))then(bif (decide (x_.nU=y.nU))then(je x_.Rows y.Rows).bind λx1=>aY x1 else aY bf)else aY bf)
def wu(c0:List ar)(c1:List ar)(c2:Int):Nat->(Int)->Option ((Bool)⊕(Unit))
 |0,_=>bg
 |K+1,q=>(bif (decide (q<c2))then(idx c1 q).bind λx1=>aM (idx c0 q) λx2=>aM (Ym x1 x2) λx3=>(bif (!x3)then aY (bO bf)else wu c0 c1 c2 K (aD (q+1)))else aY (bN ()))
def xI(s1:List ar)(s2:List ar):Option (Bool):=(bif (!(decide ((s1.length:Int)=(s2.length:Int))))then aY bf else(wu s2 s1 (s1.length:Int) KK 0).bind (y9 aY λ_=>aY bh))
def wv(c0:List za)(c1:List za)(c2:Int):Nat->(Int)->Option ((Bool)⊕(Unit))
 |0,_=>bg
 |K+1,q=>(bif (decide (q<c2))then(idx c1 q).bind λx1=>aM (idx c0 q) λx2=>aM (kj (za.mk x1.aK x1.aA x1.Except x1.lA x1.j_ x1.lN x1.lU x1.aL (Expr.mk x1.Test.Op x1.Test.N x1.Test.S x1.Test.Key x1.Test.aH) x1.zh x1.Uses x1.lK x1.N) (za.mk x2.aK x2.aA x2.Except x2.lA x2.j_ x2.lN x2.lU x2.aL (Expr.mk x2.Test.Op x2.Test.N x2.Test.S x2.Test.Key x2.Test.aH) x2.zh x2.Uses x2.lK x2.N)) λx3=>(bif (!x3)then aY (bO bf)else wv c0 c1 c2 K (aD (q+1)))else aY (bN ()))
def xJ(s1:List za)(s2:List za):Option (Bool):=(bif (!(decide ((s1.length:Int)=(s2.length:Int))))then aY bf else(wv s2 s1 (s1.length:Int) KK 0).bind (y9 aY λ_=>aY bh))
def Yn(x_:zF)(y:zF):Option (Bool):=(bif (decide (x_.aK=y.aK))then(bif (x_.nf==y.nf)then(y8 x_.ay y.ay).bind λx1=>aY x1 else aY bf)else aY bf)
def wx(c0:List zF)(c1:List zF)(c2:Int):Nat->(Int)->Option ((Bool)⊕(Unit))
 |0,_=>bg
 |K+1,q=>(bif (decide (q<c2))then(idx c1 q).bind λx1=>aM (idx c0 q) λx2=>aM (Yn x1 x2) λx3=>(bif (!x3)then aY (bO bf)else wx c0 c1 c2 K (aD (q+1)))else aY (bN ()))
def xK(s1:List zF)(s2:List zF):Option (Bool):=(bif (!(decide ((s1.length:Int)=(s2.length:Int))))then aY bf else(wx s2 s1 (s1.length:Int) KK 0).bind (y9 aY λ_=>aY bh))
def Yo(x_:a_)(y:a_):Option (Bool):=(bif (decide (x_.aK=y.aK))then(bif (decide (x_.sH=y.sH))then(bif (decide (x_.pB=y.pB))then(y8 x_.ay y.ay).bind λx1=>aY x1 else aY bf)else aY bf)else aY bf)
def wy(c0:List a_)(c1:List a_)(c2:Int):Nat->(Int)->Option ((Bool)⊕(Unit))
 |0,_=>bg
 |K+1,q=>(bif (decide (q<c2))then(idx c1 q).bind λx1=>aM (idx c0 q) λx2=>aM (Yo x1 x2) λx3=>(bif (!x3)then aY (bO bf)else wy c0 c1 c2 K (aD (q+1)))else aY (bN ()))
def xL(s1:List a_)(s2:List a_):Option (Bool):=(bif (!(decide ((s1.length:Int)=(s2.length:Int))))then aY bf else(wy s2 s1 (s1.length:Int) KK 0).bind (y9 aY λ_=>aY bh))
def jm(c0:List zj)(c1:List zj)(c2:Int):Nat->(Int)->Option ((Bool)⊕(Unit))
 |0,_=>bg
 |K+1,q=>(bif (decide (q<c2))then(idx c0 q).bind λx1=>aM (idx c1 q) λx2=>(bif (!(decide (x1.X=x2.X)&&(decide (x1.Y=x2.Y)&&(decide (x1.Z_=x2.Z_)))))then aY (bO bf)else jm c0 c1 c2 K (aD (q+1)))else aY (bN ()))
def wE(s1:List zj)(s2:List zj):Option (Bool):=(bif (!(decide ((s1.length:Int)=(s2.length:Int))))then aY bf else(jm s1 s2 (s1.length:Int) KK 0).bind (y9 aY λ_=>aY bh))
def Yp(x_:au)(y:au):Option (Bool):=(bif (decide (x_.aK=y.aK))then(bif (decide (x_.nq.X=y.nq.X)&&(decide (x_.nq.Y=y.nq.Y)&&(decide (x_.nq.Z_=y.nq.Z_))))then(bif (decide (x_.sJ=y.sJ))then(wE x_.mK y.mK).bind λx1=>aY x1 else aY bf)else aY bf)else aY bf)
def wz(c0:List au)(c1:List au)(c2:Int):Nat->(Int)->Option ((Bool)⊕(Unit))
 |0,_=>bg
 |K+1,q=>(bif (decide (q<c2))then(idx c1 q).bind λx1=>aM (idx c0 q) λx2=>aM (Yp x1 x2) λx3=>(bif (!x3)then aY (bO bf)else wz c0 c1 c2 K (aD (q+1)))else aY (bN ()))
def xM(s1:List au)(s2:List au):Option (Bool):=(bif (!(decide ((s1.length:Int)=(s2.length:Int))))then aY bf else(wz s2 s1 (s1.length:Int) KK 0).bind (y9 aY λ_=>aY bh))
def IN(a:yp)(b:yp):Option (Bool):=aM (aM (xH a.aE b.aE) λx2=>(bif x2 then(xI a.Tables b.Tables).bind λx3=>(bif x3 then(xJ a.aB b.aB).bind λx4=>aY x4 else aY bf)else aY bf)) λx1=>aM (aM (xK a.aA b.aA) λx6=>(bif x6 then(xL a.aI b.aI).bind λx7=>(bif x7 then(xM a.aF b.aF).bind λx8=>aY x8 else aY bf)else aY bf)) λx5=>(bif x1 then(bif x5 then(wE a.aJ b.aJ).bind λx9=>(bif x9 then aY (decide (a.aG=b.aG))else aY bf)else aY bf)else aY bf)
def kK(a:zN)(b:zN):Option (Bool):=aM ((bif (decide (a.aL=b.aL))then(bif (decide (a.aK=b.aK))then(bif (decide (a.Key=b.Key))then(bif (decide (a.N=b.N))then(y8 a.ay b.ay).bind λx2=>aY x2 else aY bf)else aY bf)else aY bf)else aY bf)) λx1=>(bif x1 then(IN (yp.mk ([(Def.mk ([]:ai) (Expr.mk a.Body.Op a.Body.N a.Body.S a.Body.Key a.Body.aH))]:List Def) [] [] ([(za.mk a.za.aK a.za.aA a.za.Except a.za.lA a.za.j_ a.za.lN a.za.lU a.za.aL (Expr.mk a.za.Test.Op a.za.Test.N a.za.Test.S a.za.Test.Key a.za.Test.aH) a.za.zh a.za.Uses a.za.lK a.za.N)]:List za) [] [] [] 0) (yp.mk ([(Def.mk ([]:ai) (Expr.mk b.Body.Op b.Body.N b.Body.S b.Body.Key b.Body.aH))]:List Def) [] [] ([(za.mk b.za.aK b.za.aA b.za.Except b.za.lA b.za.j_ b.za.lN b.za.lU b.za.aL (Expr.mk b.za.Test.Op b.za.Test.N b.za.Test.S b.za.Test.Key b.za.Test.aH) b.za.zh b.za.Uses b.za.lK b.za.N)]:List za) [] [] [] 0)).bind λx3=>aY x3 else aY bf)
def jJ(e:zN):Option (Bool):=
 aM (Qq (zN.mk e.aL e.aK e.Key e.N (za.mk e.za.aK e.za.aA e.za.Except e.za.lA e.za.j_ e.za.lN e.za.lU e.za.aL (Expr.mk e.za.Test.Op e.za.Test.N e.za.Test.S e.za.Test.Key e.za.Test.aH) e.za.zh e.za.Uses e.za.lK e.za.N) (Expr.mk e.Body.Op e.Body.N e.Body.S e.Body.Key e.Body.aH) e.ay)) λx1=>(bif x1.1 then(HZ (yp.mk x1.2.1 x1.2.2.1 x1.2.2.2.1 x1.2.2.2.2.1 x1.2.2.2.2.2.1 x1.2.2.2.2.2.2.1 x1.2.2.2.2.2.2.2.1 x1.2.2.2.2.2.2.2.2)).bind λx2=>(bif x2 then(J6 (yp.mk x1.2.1 x1.2.2.1 x1.2.2.2.1 x1.2.2.2.2.1 x1.2.2.2.2.2.1 x1.2.2.2.2.2.2.1 x1.2.2.2.2.2.2.2.1 x1.2.2.2.2.2.2.2.2)).bind λx3=>aM (kK (zN.mk x3.1 x3.2.1 x3.2.2.1 x3.2.2.2.1 (za.mk x3.2.2.2.2.1 x3.2.2.2.2.2.1 x3.2.2.2.2.2.2.1 x3.2.2.2.2.2.2.2.1 x3.2.2.2.2.2.2.2.2.1 x3.2.2.2.2.2.2.2.2.2.1 x3.2.2.2.2.2.2.2.2.2.2.1 x3.2.2.2.2.2.2.2.2.2.2.2.1 (Expr.mk x3.2.2.2.2.2.2.2.2.2.2.2.2.1 x3.2.2.2.2.2.2.2.2.2.2.2.2.2.1 x3.2.2.2.2.2.2.2.2.2.2.2.2.2.2.1 x3.2.2.2.2.2.2.2.2.2.2.2.2.2.2.2.1 x3.2.2.2.2.2.2.2.2.2.2.2.2.2.2.2.2.1) (zh.mk x3.2.2.2.2.2.2.2.2.2.2.2.2.2.2.2.2.2.1 x3.2.2.2.2.2.2.2.2.2.2.2.2.2.2.2.2.2.2.1 x3.2.2.2.2.2.2.2.2.2.2.2.2.2.2.2.2.2.2.2.1 x3.2.2.2.2.2.2.2.2.2.2.2.2.2.2.2.2.2.2.2.2.1) x3.2.2.2.2.2.2.2.2.2.2.2.2.2.2.2.2.2.2.2.2.2.1 x3.2.2.2.2.2.2.2.2.2.2.2.2.2.2.2.2.2.2.2.2.2.2.1 x3.2.2.2.2.2.2.2.2.2.2.2.2.2.2.2.2.2.2.2.2.2.2.2.1) (Expr.mk x3.2.2.2.2.2.2.2.2.2.2.2.2.2.2.2.2.2.2.2.2.2.2.2.2.1 x3.2.2.2.2.2.2.2.2.2.2.2.2.2.2.2.2.2.2.2.2.2.2.2.2.2.1 x3.2.2.2.2.2.2.2.2.2.2.2.2.2.2.2.2.2.2.2.2.2.2.2.2.2.2.1 x3.2.2.2.2.2.2.2.2.2.2.2.2.2.2.2.2.2.2.2.2.2.2.2.2.2.2.2.1 x3.2.2.2.2.2.2.2.2.2.2.2.2.2.2.2.2.2.2.2.2.2.2.2.2.2.2.2.2.1) x3.2.2.2.2.2.2.2.2.2.2.2.2.2.2.2.2.2.2.2.2.2.2.2.2.2.2.2.2.2) (zN.mk e.aL e.aK e.Key e.N (za.mk e.za.aK e.za.aA e.za.Except e.za.lA e.za.j_ e.za.lN e.za.lU e.za.aL (Expr.mk e.za.Test.Op e.za.Test.N e.za.Test.S e.za.Test.Key e.za.Test.aH) e.za.zh e.za.Uses e.za.lK e.za.N) (Expr.mk e.Body.Op e.Body.N e.Body.S e.Body.Key e.Body.aH) e.ay)) λx4=>aY x4 else aY bf)else(aM (kK (zN.mk e.aL e.aK e.Key e.N (za.mk e.za.aK e.za.aA e.za.Except e.za.lA e.za.j_ e.za.lN e.za.lU e.za.aL (Expr.mk e.za.Test.Op e.za.Test.N e.za.Test.S e.za.Test.Key e.za.Test.aH) e.za.zh e.za.Uses e.za.lK e.za.N) (Expr.mk e.Body.Op e.Body.N e.Body.S e.Body.Key e.Body.aH) e.ay) (zN.mk e.aL e.aK e.Key e.N (za.mk ([]:ai) [] [] 0 0 0 bf 0 (Expr.mk 0 0 ([]:ai) ([]:ai) []) (zh.mk 0 0 0 0) 0 0 0) (Expr.mk 0 0 ([]:ai) ([]:ai) []) [])) λx6=>(bif (!x6)then aY bh else(Qp e.aK).bind λx7=>aY (!x7))).bind λx5=>(bif x5 then aY bf else(bif (decide (e.aL=1))then(bif (decide (e.Key=([]:ai)))then(bif (decide (e.N>=1))then aY (decide (e.N<=1073741824))else aY bf)else aY bf)else(bif (decide (e.aL=3))then(Qp e.Key).bind λx8=>(bif x8 then(bif (decide (e.N>=(-1099511627776)))then aY (decide (e.N<=1099511627776))else aY bf)else aY bf)else(bif (decide (e.aL=5))then(bif (decide (e.Key=([]:ai)))then(bif (decide (e.N>=0))then aY (decide (e.N<=1099511627776))else aY bf)else aY bf)else aY bf)))))
def Zg(e:zN):Option (Bool):=aM (jJ (zN.mk e.aL e.aK e.Key e.N (za.mk e.za.aK e.za.aA e.za.Except e.za.lA e.za.j_ e.za.lN e.za.lU e.za.aL (Expr.mk e.za.Test.Op e.za.Test.N e.za.Test.S e.za.Test.Key e.za.Test.aH) e.za.zh e.za.Uses e.za.lK e.za.N) (Expr.mk e.Body.Op e.Body.N e.Body.S e.Body.Key e.Body.aH) e.ay)) λx1=>aY (!x1)
def zu(c0:List zN)(c1:Int):Nat->(Int)->Option ((Int)⊕(Unit))
 |0,_=>bg
 |K+1,q=>(bif (decide (q<c1))then(idx c0 q).bind λx1=>aM (Zg x1) λx2=>(bif x2 then aY (bO q)else zu c0 c1 K (aD (q+1)))else aY (bN ()))
def yE(s:List zN):Option (Int):=(zu s (s.length:Int) KK 0).bind (y9 aY λ_=>aY (-1))
def zO(s:List zN):Option (Bool):=aM (yE s) λx1=>aY (decide (x1>=0))
def R8(a0:Int):Option (ai):=Sb a0
def zic(a0:ai)(a1:ai)(a2:ai)(a3:Int):Option (ai):=Zc a0 a1 a2 a3
def zog(e:zN):Option (ai):=aM (R8 e.N) λx1=>aM (zic x1 PG zIi 1) λx2=>(bif (decide (e.aL=1))then(bD (ba IM+ba e.aK<=9223372036854775807)).bind λ_=>aM (bD (ba (IM++e.aK)+ba nX<=9223372036854775807)) λ_=>aM (bD (ba ((IM++e.aK)++nX)+ba x2<=9223372036854775807)) λ_=>aM (bD (ba (((IM++e.aK)++nX)++x2)+ba Ag<=9223372036854775807)) λ_=>aY ((((IM++e.aK)++nX)++x2)++Ag)else(bif (decide (e.aL=3))then(bD (ba Zd+ba e.aK<=9223372036854775807)).bind λ_=>aM (bD (ba (Zd++e.aK)+ba nX<=9223372036854775807)) λ_=>aM (bD (ba ((Zd++e.aK)++nX)+ba e.Key<=9223372036854775807)) λ_=>aM (bD (ba (((Zd++e.aK)++nX)++e.Key)+ba nX<=9223372036854775807)) λ_=>aM (bD (ba ((((Zd++e.aK)++nX)++e.Key)++nX)+ba x2<=9223372036854775807)) λ_=>aM (bD (ba (((((Zd++e.aK)++nX)++e.Key)++nX)++x2)+ba Ag<=9223372036854775807)) λ_=>aY ((((((Zd++e.aK)++nX)++e.Key)++nX)++x2)++Ag)else(bD (ba Qo+ba e.aK<=9223372036854775807)).bind λ_=>aM (bD (ba (Qo++e.aK)+ba nX<=9223372036854775807)) λ_=>aM (bD (ba ((Qo++e.aK)++nX)+ba x2<=9223372036854775807)) λ_=>aM (bD (ba (((Qo++e.aK)++nX)++x2)+ba Ag<=9223372036854775807)) λ_=>aY ((((Qo++e.aK)++nX)++x2)++Ag)))
def zva(a0:ai)(a1:ai):Option (Int×ai):=aM (bD (ba a0+ba a1<=140737488355328)) λ_=>aY ((a1.length:Int),a0++a1)
def zvb(a0:ai):Option (Int):=aY (a0.length:Int)
def ζ(a0:ai):Option (ai):=aY a0
def H0(c0:Int)(c1:List zN)(c2:Int):Nat->(Int×ai)->Option ((ai×Int)⊕(ai))
 |0,_=>bg
 |K+1,q=>(bif (decide (q.1<c2))then(idx c1 q.1).bind λx1=>aM (jJ (zN.mk x1.aL x1.aK x1.Key x1.N (za.mk x1.za.aK x1.za.aA x1.za.Except x1.za.lA x1.za.j_ x1.za.lN x1.za.lU x1.za.aL (Expr.mk x1.za.Test.Op x1.za.Test.N x1.za.Test.S x1.za.Test.Key x1.za.Test.aH) x1.za.zh x1.za.Uses x1.za.lK x1.za.N) (Expr.mk x1.Body.Op x1.Body.N x1.Body.S x1.Body.Key x1.Body.aH) x1.ay)) λx2=>(bif (!x2)then aY (bO (([]:ai),1))else(Qq (zN.mk x1.aL x1.aK x1.Key x1.N (za.mk x1.za.aK x1.za.aA x1.za.Except x1.za.lA x1.za.j_ x1.za.lN x1.za.lU x1.za.aL (Expr.mk x1.za.Test.Op x1.za.Test.N x1.za.Test.S x1.za.Test.Key x1.za.Test.aH) x1.za.zh x1.za.Uses x1.za.lK x1.za.N) (Expr.mk x1.Body.Op x1.Body.N x1.Body.S x1.Body.Key x1.Body.aH) x1.ay)).bind λx3=>(bif x3.1 then bg else(zog (zN.mk x1.aL x1.aK x1.Key x1.N (za.mk x1.za.aK x1.za.aA x1.za.Except x1.za.lA x1.za.j_ x1.za.lN x1.za.lU x1.za.aL (Expr.mk x1.za.Test.Op x1.za.Test.N x1.za.Test.S x1.za.Test.Key x1.za.Test.aH) x1.za.zh x1.za.Uses x1.za.lK x1.za.N) (Expr.mk x1.Body.Op x1.Body.N x1.Body.S x1.Body.Key x1.Body.aH) x1.ay)).bind λx4=>aM (zva q.2 x4) λx5=>H0 c0 c1 c2 K ((aD (q.1+1)),x5.2)))else aY (bN q.2))
def zid(l:List zN):Option (ai×Int):=aM (aM (zO l) λx2=>(bif (!x2)then aY (decide ((l.length:Int)>200))else aY bf)) λx1=>(bif x1 then aY (([]:ai),6)else(H0 0 l (l.length:Int) KK (0,([]:ai))).bind (y9 aY λx3=>aM ((bif (!(decide (0=0)))then aY bh else(zvb x3).bind λx5=>aY (decide (x5>8000)))) λx4=>(bif x4 then aY (([]:ai),6)else(ζ x3).bind λx6=>aY (x6,0))))
def ko(name:ai):Option (ai):=aY name
def A4(r_:za)(a1:ai):Option (Bool):=aY (decide (r_.aK=a1))
def yg(c0:ai)(c1:List za)(c2:Int):Nat->(Int)->Option ((Int)⊕(Unit))
 |0,_=>bg
 |K+1,q=>(bif (decide (q<c2))then(idx c1 q).bind λx1=>aM (A4 x1 c0) λx2=>(bif x2 then aY (bO q)else yg c0 c1 c2 K (aD (q+1)))else aY (bN ()))
def xN(s:List za)(r_:ai):Option (Int):=(yg r_ s (s.length:Int) KK 0).bind (y9 aY λ_=>aY (-1))
def yF(s:List za)(r_:ai):Option (Bool):=aM (xN s r_) λx1=>aY (decide (x1>=0))
def xt(s:List za):Option ((List za)):=aM (bD (ba (([]:List za)++s)*232<=140737488355328)) λ_=>aY (([]:List za)++s)
def Zh(a0:za):Option (Bool):=aY bf
def yh(c0:List za)(c1:Int):Nat->(Int)->Option ((Int)⊕(Unit))
 |0,_=>bg
 |K+1,q=>(bif (decide (q<c1))then(bD (0<=q/\q<(((ba c0):Nat):Int))).bind λ_=>aM ((c0)[(bj q)]?) λx2=>aM (Zh x2) λx3=>(bif x3 then aY (bO q)else yh c0 c1 K (aD (q+1)))else aY (bN ()))
def vL(s:List za):Option (Int):=(yh s (((ba s):Nat):Int) KK 0).bind (y9 aY λ_=>aY (-1))
def uV(r_:List za)(ri:Int)(ed:EB):Option ((List za)):=aM ((r_)[(bj ri)]?) λ_=>aY (cD r_ (bj ri) (za.mk ed.r0 ed.r1 ed.r2 ed.r3 ed.r4 ed.r5 ed.r6 ed.r7 (Expr.mk ed.r8 ed.r9 ed.LY ed.LZ ed.L1) (zh.mk ed.L2 ed.L3 ed.L4 ed.r16) ed.L5 ed.L6 ed.L7))
def ME(l:List za)(ed:EB)(most:Int):Option ((List za)×Int):=
 aM (xt l) λx1=>aM (vL x1) λx2=>((bif (decide (x2<0))then(bif (decide ((((ba x1):Nat):Int)>=most))then(bD (pr []=bh)).bind λ_=>aY (bO ([],6))else(bD (ba (x1++([(za.mk ([]:ai) [] [] 0 0 0 bf 0 (Expr.mk 0 0 ([]:ai) ([]:ai) []) (zh.mk 0 0 0 0) 0 0 0)]:List za))*232<=140737488355328)).bind λ_=>aY (bN ((((ba x1):Nat):Int),(x1++([(za.mk ([]:ai) [] [] 0 0 0 bf 0 (Expr.mk 0 0 ([]:ai) ([]:ai) []) (zh.mk 0 0 0 0) 0 0 0)]:List za)))))else aY (bN (x2,x1)))).bind (y9 aY λx3=>aM (bD (0<=x3.1/\x3.1<(((ba x3.2):Nat):Int))) λ_=>aM (uV x3.2 (((bj x3.1):Nat):Int) ed) λx6=>aM (bD (pr [((ba x3.2),ba x6)]=bh)) λ_=>aY (x6,0))
def yi(c0:List za)(c1:ai)(c2:Int):Nat->(Int)->Option ((Int)⊕(Unit))
 |0,_=>bg
 |K+1,q=>(bif (decide (q<c2))then(bD (0<=q/\q<(((ba c0):Nat):Int))).bind λ_=>aM ((c0)[(bj q)]?) λx2=>aM (A4 x2 c1) λx3=>(bif x3 then aY (bO q)else yi c0 c1 c2 K (aD (q+1)))else aY (bN ()))
def vM(s:List za)(r_:ai):Option (Int):=(yi s r_ (((ba s):Nat):Int) KK 0).bind (y9 aY λ_=>aY (-1))
def uW(r_:List za)(ri:Int)(ed:EB):Option ((List za)):=aM ((r_)[(bj ri)]?) λx1=>aY (cD r_ (bj ri) (za.mk x1.aK x1.aA x1.Except x1.lA ed.m x1.lN x1.lU x1.aL (Expr.mk x1.Test.Op x1.Test.N x1.Test.S x1.Test.Key x1.Test.aH) x1.zh x1.Uses x1.lK x1.N))
def Qr(l:List za)(r_:ai)(ed:EB)(most:Int):Option ((List za)×Int):=
 aM (xt l) λx1=>aM (vM x1 r_) λx2=>((bif (decide (x2<0))then(bif (decide ((((ba x1):Nat):Int)>=most))then(bD (pr []=bh)).bind λ_=>aY (bO ([],6))else(bD (ba (x1++([(za.mk ([]:ai) [] [] 0 0 0 bf 0 (Expr.mk 0 0 ([]:ai) ([]:ai) []) (zh.mk 0 0 0 0) 0 0 0)]:List za))*232<=140737488355328)).bind λ_=>aY (bN ((((ba x1):Nat):Int),(x1++([(za.mk ([]:ai) [] [] 0 0 0 bf 0 (Expr.mk 0 0 ([]:ai) ([]:ai) []) (zh.mk 0 0 0 0) 0 0 0)]:List za)))))else aY (bN (x2,x1)))).bind (y9 aY λx3=>aM (bD (0<=x3.1/\x3.1<(((ba x3.2):Nat):Int))) λ_=>aM (uW x3.2 (((bj x3.1):Nat):Int) ed) λx6=>aM (bD (pr [((ba x3.2),ba x6)]=bh)) λ_=>aY (x6,0))
def ox(l:List za)(r_:ai)(ed:EB):Option ((List za)×Int):=aM (yF l r_) λx1=>(bif (!x1)then aY ([],4)else(Qr l r_ ed (l.length:Int)).bind λx2=>aY (x2.1,x2.2))
def wF(s:List Def):Option ((List Def)):=aM (bD (ba (([]:List Def)++s)*88<=140737488355328)) λ_=>aY (([]:List Def)++s)
def Zi(d:Def)(ed:EB):Option (Bool):=aY (decide (d.aK=ed.n))
def yj(ed:EB)(c0:List Def)(pO:Int):Nat->(Int)->Option ((Int)⊕(Unit))
 |0,_=>bg
 |K+1,q=>(bif (decide (q<pO))then(bD (0<=q/\q<(((ba c0):Nat):Int))).bind λ_=>aM ((c0)[(bj q)]?) λx2=>aM (Zi x2 ed) λx3=>(bif x3 then aY (bO q)else yj ed c0 pO K (aD (q+1)))else aY (bN ()))
def vN(s:List Def)(ed:EB):Option (Int):=(yj ed s (((ba s):Nat):Int) KK 0).bind (y9 aY λ_=>aY (-1))
def uX(d:List Def)(di:Int)(ed:EB):Option ((List Def)):=aM ((d)[(bj di)]?) λ_=>aY (cD d (bj di) (Def.mk ed.n (Expr.mk ed.b0 ed.b1 ed.b2 ed.b3 ed.b4)))
def Qs(l:List Def)(ed:EB)(most:Int):Option ((List Def)×Int):=
 aM (wF l) λx1=>aM (vN x1 ed) λx2=>((bif (decide (x2<0))then(bif (decide ((((ba x1):Nat):Int)>=most))then(bD (pr []=bh)).bind λ_=>aY (bO ([],6))else(bD (ba (x1++([(Def.mk ([]:ai) (Expr.mk 0 0 ([]:ai) ([]:ai) []))]:List Def))*88<=140737488355328)).bind λ_=>aY (bN ((((ba x1):Nat):Int),(x1++([(Def.mk ([]:ai) (Expr.mk 0 0 ([]:ai) ([]:ai) []))]:List Def)))))else aY (bN (x2,x1)))).bind (y9 aY λx3=>aM (bD (0<=x3.1/\x3.1<(((ba x3.2):Nat):Int))) λ_=>aM (uX x3.2 (((bj x3.1):Nat):Int) ed) λx6=>aM (bD (pr [((ba x3.2),ba x6)]=bh)) λ_=>aY (x6,0))
def wG(s:List ar):Option ((List ar)):=aM (bD (ba (([]:List ar)++s)*48<=140737488355328)) λ_=>aY (([]:List ar)++s)
def Zj(t:ar)(ed:EB):Option (Bool):=aY (decide (t.aK=ed.n))
def yk(ed:EB)(c0:List ar)(pO:Int):Nat->(Int)->Option ((Int)⊕(Unit))
 |0,_=>bg
 |K+1,q=>(bif (decide (q<pO))then(bD (0<=q/\q<(((ba c0):Nat):Int))).bind λ_=>aM ((c0)[(bj q)]?) λx2=>aM (Zj x2 ed) λx3=>(bif x3 then aY (bO q)else yk ed c0 pO K (aD (q+1)))else aY (bN ()))
def vO(s:List ar)(ed:EB):Option (Int):=(yk ed s (((ba s):Nat):Int) KK 0).bind (y9 aY λ_=>aY (-1))
def jf(s:List av):Option ((List av)):=aM (bD (ba (([]:List av)++s)*24<=140737488355328)) λ_=>aY (([]:List av)++s)
def Qt(x_:av)(ed:EB):Option (Bool):=aY (decide (x_.aK=ed.y))
def yl(ed:EB)(c0:List av)(pO:Int):Nat->(Int)->Option ((Int)⊕(Unit))
 |0,_=>bg
 |K+1,q=>(bif (decide (q<pO))then(bD (0<=q/\q<(((ba c0):Nat):Int))).bind λ_=>aM ((c0)[(bj q)]?) λx2=>aM (Qt x2 ed) λx3=>(bif x3 then aY (bO q)else yl ed c0 pO K (aD (q+1)))else aY (bN ()))
def vP(s:List av)(ed:EB):Option (Int):=(yl ed s (((ba s):Nat):Int) KK 0).bind (y9 aY λ_=>aY (-1))
def jK(x_:List av)(xi:Int)(ed:EB):Option ((List av)):=aM ((x_)[(bj xi)]?) λ_=>aY (cD x_ (bj xi) (av.mk ed.y ed.m))
def H4(l:List av)(ed:EB)(most:Int):Option ((List av)×Int):=
 aM (jf l) λx1=>aM (vP x1 ed) λx2=>((bif (decide (x2<0))then(bif (decide ((((ba x1):Nat):Int)>=most))then(bD (pr []=bh)).bind λ_=>aY (bO ([],6))else(bD (ba (x1++([(av.mk ([]:ai) 0)]:List av))*24<=140737488355328)).bind λ_=>aY (bN ((((ba x1):Nat):Int),(x1++([(av.mk ([]:ai) 0)]:List av)))))else aY (bN (x2,x1)))).bind (y9 aY λx3=>aM (bD (0<=x3.1/\x3.1<(((ba x3.2):Nat):Int))) λ_=>aM (jK x3.2 (((bj x3.1):Nat):Int) ed) λx6=>aM (bD (pr [((ba x3.2),ba x6)]=bh)) λ_=>aY (x6,0))
def uY(t:List ar)(ti:Int)(ed:EB)(a2:Int):Option ((List ar)×Int):=aM ((t)[(bj ti)]?) λx1=>aM (((cD t (bj ti) (ar.mk ed.n x1.Rows x1.nU)))[(bj ti)]?) λx2=>aM (H4 x2.Rows ed 60) λx3=>aM (((cD t (bj ti) (ar.mk ed.n x1.Rows x1.nU)))[(bj ti)]?) λx4=>aY ((cD (cD t (bj ti) (ar.mk ed.n x1.Rows x1.nU)) (bj ti) (ar.mk x4.aK x3.1 x4.nU)),x3.2)
def Qu(l:List ar)(ed:EB)(t:Int)(most:Int):Option ((List ar)×Int×Int):=
 aM (wG l) λx1=>aM (vO x1 ed) λx2=>((bif (decide (x2<0))then(bif (decide ((((ba x1):Nat):Int)>=most))then(bD (pr []=bh)).bind λ_=>aY (bO ([],6,t))else(bD (ba (x1++([(ar.mk ([]:ai) [] 0)]:List ar))*48<=140737488355328)).bind λ_=>aY (bN ((((ba x1):Nat):Int),(x1++([(ar.mk ([]:ai) [] 0)]:List ar)))))else aY (bN (x2,x1)))).bind (y9 aY λx3=>aM (bD (0<=x3.1/\x3.1<(((ba x3.2):Nat):Int))) λ_=>aM (uY x3.2 (((bj x3.1):Nat):Int) ed t) λx6=>aM (bD (pr [((ba x3.2),ba x6.1)]=bh)) λ_=>aY (x6.1,0,x6.2))
def Zk(z:zF)(ed:EB):Option (Bool):=aY (decide (z.aK=ed.n))
def ym(ed:EB)(DC:List zF)(pO:Int):Nat->(Int)->Option ((Int)⊕(Unit))
 |0,_=>bg
 |K+1,q=>(bif (decide (q<pO))then(idx DC q).bind λx1=>aM (Zk x1 ed) λx2=>(bif x2 then aY (bO q)else ym ed DC pO K (aD (q+1)))else aY (bN ()))
def vQ(s:List zF)(ed:EB):Option (Int):=(ym ed s (s.length:Int) KK 0).bind (y9 aY λ_=>aY (-1))
def wH(s:List zF):Option ((List zF)):=aM (bD (ba (([]:List zF)++s)*48<=140737488355328)) λ_=>aY (([]:List zF)++s)
def Wi(z:zF)(ed:EB):Option (Bool):=aY (decide (z.aK=ed.n))
def yn(ed:EB)(c0:List zF)(pO:Int):Nat->(Int)->Option ((Int)⊕(Unit))
 |0,_=>bg
 |K+1,q=>(bif (decide (q<pO))then(bD (0<=q/\q<(((ba c0):Nat):Int))).bind λ_=>aM ((c0)[(bj q)]?) λx2=>aM (Wi x2 ed) λx3=>(bif x3 then aY (bO q)else yn ed c0 pO K (aD (q+1)))else aY (bN ()))
def vR(s:List zF)(ed:EB):Option (Int):=(yn ed s (((ba s):Nat):Int) KK 0).bind (y9 aY λ_=>aY (-1))
def kV(z:List zF)(zi:Int)(ed:EB):Option ((List zF)):=aM ((z)[(bj zi)]?) λ_=>aY (cD z (bj zi) (zF.mk ed.n (decide (ed.m=1)) ed.c))
def Qv(l:List zF)(ed:EB)(most:Int):Option ((List zF)×Int):=
 aM (wH l) λx1=>aM (vR x1 ed) λx2=>((bif (decide (x2<0))then(bif (decide ((((ba x1):Nat):Int)>=most))then(bD (pr []=bh)).bind λ_=>aY (bO ([],6))else(bD (ba (x1++([(zF.mk ([]:ai) bf [])]:List zF))*48<=140737488355328)).bind λ_=>aY (bN ((((ba x1):Nat):Int),(x1++([(zF.mk ([]:ai) bf [])]:List zF)))))else aY (bN (x2,x1)))).bind (y9 aY λx3=>aM (bD (0<=x3.1/\x3.1<(((ba x3.2):Nat):Int))) λ_=>aM (kV x3.2 (((bj x3.1):Nat):Int) ed) λx6=>aM (bD (pr [((ba x3.2),ba x6)]=bh)) λ_=>aY (x6,0))
def H5(c_:a_)(ed:EB):Option (Bool):=aY (decide (c_.aK=ed.n))
def z7(ed:EB)(DC:List a_)(pO:Int):Nat->(Int)->Option ((Int)⊕(Unit))
 |0,_=>bg
 |K+1,q=>(bif (decide (q<pO))then(idx DC q).bind λx1=>aM (H5 x1 ed) λx2=>(bif x2 then aY (bO q)else z7 ed DC pO K (aD (q+1)))else aY (bN ()))
def vj(s:List a_)(ed:EB):Option (Int):=(z7 ed s (s.length:Int) KK 0).bind (y9 aY λ_=>aY (-1))
def xb(s:List a_)(ed:EB):Option (Bool):=aM (vj s ed) λx1=>aY (decide (x1>=0))
def wI(s:List a_):Option ((List a_)):=aM (bD (ba (([]:List a_)++s)*56<=140737488355328)) λ_=>aY (([]:List a_)++s)
def z8(ed:EB)(c0:List a_)(pO:Int):Nat->(Int)->Option ((Int)⊕(Unit))
 |0,_=>bg
 |K+1,q=>(bif (decide (q<pO))then(bD (0<=q/\q<(((ba c0):Nat):Int))).bind λ_=>aM ((c0)[(bj q)]?) λx2=>aM (H5 x2 ed) λx3=>(bif x3 then aY (bO q)else z8 ed c0 pO K (aD (q+1)))else aY (bN ()))
def vk(s:List a_)(ed:EB):Option (Int):=(z8 ed s (((ba s):Nat):Int) KK 0).bind (y9 aY λ_=>aY (-1))
def kW(c_:List a_)(ci:Int)(ed:EB):Option ((List a_)):=aM ((c_)[(bj ci)]?) λx1=>aY (cD c_ (bj ci) (a_.mk x1.aK x1.sH ed.m x1.ay))
def Qw(l:List a_)(ed:EB)(most:Int):Option ((List a_)×Int):=
 aM (wI l) λx1=>aM (vk x1 ed) λx2=>((bif (decide (x2<0))then(bif (decide ((((ba x1):Nat):Int)>=most))then(bD (pr []=bh)).bind λ_=>aY (bO ([],6))else(bD (ba (x1++([(a_.mk ([]:ai) 0 0 [])]:List a_))*56<=140737488355328)).bind λ_=>aY (bN ((((ba x1):Nat):Int),(x1++([(a_.mk ([]:ai) 0 0 [])]:List a_)))))else aY (bN (x2,x1)))).bind (y9 aY λx3=>aM (bD (0<=x3.1/\x3.1<(((ba x3.2):Nat):Int))) λ_=>aM (kW x3.2 (((bj x3.1):Nat):Int) ed) λx6=>aM (bD (pr [((ba x3.2),ba x6)]=bh)) λ_=>aY (x6,0))
def kL(l:List a_)(ed:EB):Option ((List a_)×Int):=aM (xb l ed) λx1=>(bif (!x1)then aY ([],4)else(Qw l ed (l.length:Int)).bind λx2=>aY (x2.1,x2.2))
def xm(p:yp)(e:zN):Option (Int×(List Def)×(List ar)×(List zF)×(List za)×(List a_)×(List au)×(List zj)×Int):=
 ((bif (decide (e.aL=0))then(ko e.za.aK).bind λx2=>aM (yF p.aB x2) λx3=>(bif x3 then aY (bO (5,p.aE,p.Tables,p.aA,p.aB,p.aI,p.aF,p.aJ,p.aG))else(ME p.aB (EB.mk e.aL e.aK e.Key e.N e.za.aK e.za.aA e.za.Except e.za.lA e.za.j_ e.za.lN e.za.lU e.za.aL e.za.Test.Op e.za.Test.N e.za.Test.S e.za.Test.Key e.za.Test.aH e.za.zh.nL e.za.zh.nK e.za.zh.nG e.za.zh.Den e.za.Uses e.za.lK e.za.N e.Body.Op e.Body.N e.Body.S e.Body.Key e.Body.aH e.ay) 200).bind λx4=>aY (bN (x4.2,p.aE,p.Tables,p.aA,x4.1,p.aI)))else(bif (decide (e.aL=1))then(ko e.aK).bind λx5=>aM (xN p.aB x5) λx6=>aM ((bif (decide (x6>=0))then(idx p.aB x6).bind λx8=>aY (decide (e.N<=x8.lA))else aY bf)) λx7=>(bif x7 then aY (bO (20,p.aE,p.Tables,p.aA,p.aB,p.aI,p.aF,p.aJ,p.aG))else(ko e.aK).bind λx9=>aM (ox p.aB x9 (EB.mk e.aL e.aK e.Key e.N e.za.aK e.za.aA e.za.Except e.za.lA e.za.j_ e.za.lN e.za.lU e.za.aL e.za.Test.Op e.za.Test.N e.za.Test.S e.za.Test.Key e.za.Test.aH e.za.zh.nL e.za.zh.nK e.za.zh.nG e.za.zh.Den e.za.Uses e.za.lK e.za.N e.Body.Op e.Body.N e.Body.S e.Body.Key e.Body.aH e.ay)) λnS=>aY (bN (nS.2,p.aE,p.Tables,p.aA,nS.1,p.aI)))else(bif (decide (e.aL=2))then(Qs p.aE (EB.mk e.aL e.aK e.Key e.N e.za.aK e.za.aA e.za.Except e.za.lA e.za.j_ e.za.lN e.za.lU e.za.aL e.za.Test.Op e.za.Test.N e.za.Test.S e.za.Test.Key e.za.Test.aH e.za.zh.nL e.za.zh.nK e.za.zh.nG e.za.zh.Den e.za.Uses e.za.lK e.za.N e.Body.Op e.Body.N e.Body.S e.Body.Key e.Body.aH e.ay) 60).bind λmF=>aY (bN (mF.2,mF.1,p.Tables,p.aA,p.aB,p.aI))else(bif (decide (e.aL=3))then(Qu p.Tables (EB.mk e.aL e.aK e.Key e.N e.za.aK e.za.aA e.za.Except e.za.lA e.za.j_ e.za.lN e.za.lU e.za.aL e.za.Test.Op e.za.Test.N e.za.Test.S e.za.Test.Key e.za.Test.aH e.za.zh.nL e.za.zh.nK e.za.zh.nG e.za.zh.Den e.za.Uses e.za.lK e.za.N e.Body.Op e.Body.N e.Body.S e.Body.Key e.Body.aH e.ay) 0 60).bind λrX=>aY (bN ((max rX.2.1 rX.2.2),p.aE,rX.1,p.aA,p.aB,p.aI))else(bif (decide (e.aL=4))then(vQ p.aA (EB.mk e.aL e.aK e.Key e.N e.za.aK e.za.aA e.za.Except e.za.lA e.za.j_ e.za.lN e.za.lU e.za.aL e.za.Test.Op e.za.Test.N e.za.Test.S e.za.Test.Key e.za.Test.aH e.za.zh.nL e.za.zh.nK e.za.zh.nG e.za.zh.Den e.za.Uses e.za.lK e.za.N e.Body.Op e.Body.N e.Body.S e.Body.Key e.Body.aH e.ay)).bind λsD=>aM ((bif (decide (sD>=0))then(idx p.aA sD).bind λA_=>aY (!(A_.nf==(decide (e.N=1))))else aY bf)) λH_=>(bif H_ then aY (bO (17,p.aE,p.Tables,p.aA,p.aB,p.aI,p.aF,p.aJ,p.aG))else(Qv p.aA (EB.mk e.aL e.aK e.Key e.N e.za.aK e.za.aA e.za.Except e.za.lA e.za.j_ e.za.lN e.za.lU e.za.aL e.za.Test.Op e.za.Test.N e.za.Test.S e.za.Test.Key e.za.Test.aH e.za.zh.nL e.za.zh.nK e.za.zh.nG e.za.zh.Den e.za.Uses e.za.lK e.za.N e.Body.Op e.Body.N e.Body.S e.Body.Key e.Body.aH e.ay) 60).bind λL_=>aY (bN (L_.2,p.aE,p.Tables,L_.1,p.aB,p.aI)))else(kL p.aI (EB.mk e.aL e.aK e.Key e.N e.za.aK e.za.aA e.za.Except e.za.lA e.za.j_ e.za.lN e.za.lU e.za.aL e.za.Test.Op e.za.Test.N e.za.Test.S e.za.Test.Key e.za.Test.aH e.za.zh.nL e.za.zh.nK e.za.zh.nG e.za.zh.Den e.za.Uses e.za.lK e.za.N e.Body.Op e.Body.N e.Body.S e.Body.Key e.Body.aH e.ay)).bind λCY=>aY (bN (CY.2,p.aE,p.Tables,p.aA,p.aB,CY.1)))))))).bind (y9 aY λx1=>aY (x1.1,x1.2.1,x1.2.2.1,x1.2.2.2.1,x1.2.2.2.2.1,x1.2.2.2.2.2,p.aF,p.aJ,p.aG))
def jg(s:List au):Option ((List au)):=aM (bD (ba (([]:List au)++s)*72<=140737488355328)) λ_=>aY (([]:List au)++s)
def wJ(s:List zj):Option ((List zj)):=aM (bD (ba (([]:List zj)++s)*24<=140737488355328)) λ_=>aY (([]:List zj)++s)
def wQ(abp:Expr->Option (Int×Int×ai×ai×(List Expr)))(c0:List Expr)(c1:Int)(c2:Int)(c3:Int)(c4:ai)(c5:ai)(c6:Int)(c7:ai)(c8:List Expr):Nat->(Int×(List Expr))->Option ((List Expr))
 |0,_=>bg
 |K+1,q=>(bif (decide (q.1<c1))then(idx c0 q.1).bind λx1=>aM (abp (Expr.mk x1.Op x1.N x1.S x1.Key x1.aH)) λx2=>aM (bD (ba (q.2++([(Expr.mk x2.1 x2.2.1 x2.2.2.1 x2.2.2.2.1 x2.2.2.2.2)]:List Expr))*72<=140737488355328)) λ_=>wQ abp c0 c1 c2 c3 c4 c5 c6 c7 c8 K ((aD (q.1+1)),(q.2++([(Expr.mk x2.1 x2.2.1 x2.2.2.1 x2.2.2.2.1 x2.2.2.2.2)]:List Expr)))else aY q.2)
def wA:Nat->Expr->Option (Int×Int×ai×ai×(List Expr))
 |0,_=>bg
 |RK+1,e=>aM (wQ (wA RK) e.aH (e.aH.length:Int) e.Op e.N e.S e.Key 0 ([]:ai) [] KK (0,[])) λx1=>aY (e.Op,e.N,e.S,e.Key,x1)
def vC(s:List av):Option ((List av)):=aM (bD (ba (([]:List av)++s)*24<=140737488355328)) λ_=>aY (([]:List av)++s)
def xS(s:List zK):Option ((List zK)):=aM (bD (ba (([]:List zK)++s)*16<=140737488355328)) λ_=>aY (([]:List zK)++s)
def xT(s:List ai):Option ((List ai)):=aM (bD (ba (([]:List ai)++s)*16<=140737488355328)) λ_=>aY (([]:List ai)++s)
def uz(c0:Int)(c1:List zj)(c2:Int)(c3:List zj)(c4:Int)(c5:List ar)(c6:List zF)(c7:List za)(c8:List a_)(c9:List au)(lE:List Def)(lJ:List ar)(lO:List zF)(lW:List za)(l7:List a_)(l_:List au):Nat->(Int×(List Def))->Option ((List Def))
 |0,_=>bg
 |K+1,q=>(bif (decide (q.1<c0))then(bD (0<=q.1/\q.1<(((ba q.2):Nat):Int))).bind λ_=>aM ((q.2)[(bj q.1)]?) λx2=>aM (wA KK x2.Body) λx3=>aM (bD (0<=q.1/\q.1<(((ba q.2):Nat):Int))) λ_=>aM ((q.2)[(bj q.1)]?) λx5=>uz c0 c1 c2 c3 c4 c5 c6 c7 c8 c9 lE lJ lO lW l7 l_ K ((aD (q.1+1)),(cD q.2 (bj q.1) (Def.mk x5.aK (Expr.mk x3.1 x3.2.1 x3.2.2.1 x3.2.2.2.1 x3.2.2.2.2))))else aY q.2)
def uA(c0:Int)(c1:List zj)(c2:Int)(c3:List zj)(c4:Int)(c5:List Def)(c6:List zF)(c7:List za)(c8:List a_)(c9:List au)(lE:List Def)(lJ:List ar)(lO:List zF)(lW:List za)(l7:List a_)(l_:List au):Nat->(Int×(List ar))->Option ((List ar))
 |0,_=>bg
 |K+1,q=>(bif (decide (q.1<c0))then(bD (0<=q.1/\q.1<(((ba q.2):Nat):Int))).bind λ_=>aM ((q.2)[(bj q.1)]?) λx2=>aM (vC x2.Rows) λx3=>aM (bD (0<=q.1/\q.1<(((ba q.2):Nat):Int))) λ_=>aM ((q.2)[(bj q.1)]?) λx5=>uA c0 c1 c2 c3 c4 c5 c6 c7 c8 c9 lE lJ lO lW l7 l_ K ((aD (q.1+1)),(cD q.2 (bj q.1) (ar.mk x5.aK x3 x5.nU)))else aY q.2)
def uB(c0:Int)(c1:List zj)(c2:Int)(c3:List zj)(c4:Int)(c5:List Def)(c6:List ar)(c7:List za)(c8:List a_)(c9:List au)(lE:List Def)(lJ:List ar)(lO:List zF)(lW:List za)(l7:List a_)(l_:List au):Nat->(Int×(List zF))->Option ((List zF))
 |0,_=>bg
 |K+1,q=>(bif (decide (q.1<c0))then(bD (0<=q.1/\q.1<(((ba q.2):Nat):Int))).bind λ_=>aM ((q.2)[(bj q.1)]?) λx2=>aM (xS x2.ay) λx3=>aM (bD (0<=q.1/\q.1<(((ba q.2):Nat):Int))) λ_=>aM ((q.2)[(bj q.1)]?) λx5=>uB c0 c1 c2 c3 c4 c5 c6 c7 c8 c9 lE lJ lO lW l7 l_ K ((aD (q.1+1)),(cD q.2 (bj q.1) (zF.mk x5.aK x5.nf x3)))else aY q.2)
def uC(c0:Int)(c1:List zj)(c2:Int)(c3:List zj)(c4:Int)(c5:List Def)(c6:List ar)(c7:List zF)(c8:List a_)(c9:List au)(lE:List Def)(lJ:List ar)(lO:List zF)(lW:List za)(l7:List a_)(l_:List au):Nat->(Int×(List za))->Option ((List za))
 |0,_=>bg
 |K+1,q=>(bif (decide (q.1<c0))then(bD (0<=q.1/\q.1<(((ba q.2):Nat):Int))).bind λ_=>aM ((q.2)[(bj q.1)]?) λx2=>aM (xT x2.aA) λx3=>aM (xT x2.Except) λx4=>aM (wA KK (Expr.mk x2.Test.Op x2.Test.N x2.Test.S x2.Test.Key x2.Test.aH)) λx5=>aM (bD (0<=q.1/\q.1<(((ba q.2):Nat):Int))) λ_=>aM ((q.2)[(bj q.1)]?) λx7=>aM (bD (0<=q.1/\q.1<(((ba q.2):Nat):Int))) λ_=>aM (((cD q.2 (bj q.1) (za.mk x7.aK x3 x7.Except x7.lA x7.j_ x7.lN x7.lU x7.aL (Expr.mk x7.Test.Op x7.Test.N x7.Test.S x7.Test.Key x7.Test.aH) x7.zh x7.Uses x7.lK x7.N)))[(bj q.1)]?) λx9=>aM (bD (0<=q.1/\q.1<(((ba q.2):Nat):Int))) λ_=>aM (((cD (cD q.2 (bj q.1) (za.mk x7.aK x3 x7.Except x7.lA x7.j_ x7.lN x7.lU x7.aL (Expr.mk x7.Test.Op x7.Test.N x7.Test.S x7.Test.Key x7.Test.aH) x7.zh x7.Uses x7.lK x7.N)) (bj q.1) (za.mk x9.aK x9.aA x4 x9.lA x9.j_ x9.lN x9.lU x9.aL (Expr.mk x9.Test.Op x9.Test.N x9.Test.S x9.Test.Key x9.Test.aH) x9.zh x9.Uses x9.lK x9.N)))[(bj q.1)]?) λmF=>uC c0 c1 c2 c3 c4 c5 c6 c7 c8 c9 lE lJ lO lW l7 l_ K ((aD (q.1+1)),(cD (cD (cD q.2 (bj q.1) (za.mk x7.aK x3 x7.Except x7.lA x7.j_ x7.lN x7.lU x7.aL (Expr.mk x7.Test.Op x7.Test.N x7.Test.S x7.Test.Key x7.Test.aH) x7.zh x7.Uses x7.lK x7.N)) (bj q.1) (za.mk x9.aK x9.aA x4 x9.lA x9.j_ x9.lN x9.lU x9.aL (Expr.mk x9.Test.Op x9.Test.N x9.Test.S x9.Test.Key x9.Test.aH) x9.zh x9.Uses x9.lK x9.N)) (bj q.1) (za.mk mF.aK mF.aA mF.Except mF.lA mF.j_ mF.lN mF.lU mF.aL (Expr.mk x5.1 x5.2.1 x5.2.2.1 x5.2.2.2.1 x5.2.2.2.2) mF.zh mF.Uses mF.lK mF.N)))else aY q.2)
def uD(c0:Int)(c1:List zj)(c2:Int)(c3:List zj)(c4:Int)(c5:List Def)(c6:List ar)(c7:List zF)(c8:List za)(c9:List au)(lE:List Def)(lJ:List ar)(lO:List zF)(lW:List za)(l7:List a_)(l_:List au):Nat->(Int×(List a_))->Option ((List a_))
 |0,_=>bg
 |K+1,q=>(bif (decide (q.1<c0))then(bD (0<=q.1/\q.1<(((ba q.2):Nat):Int))).bind λ_=>aM ((q.2)[(bj q.1)]?) λx2=>aM (xS x2.ay) λx3=>aM (bD (0<=q.1/\q.1<(((ba q.2):Nat):Int))) λ_=>aM ((q.2)[(bj q.1)]?) λx5=>uD c0 c1 c2 c3 c4 c5 c6 c7 c8 c9 lE lJ lO lW l7 l_ K ((aD (q.1+1)),(cD q.2 (bj q.1) (a_.mk x5.aK x5.sH x5.pB x3)))else aY q.2)
def uE(c0:Int)(c1:List zj)(c2:Int)(c3:List zj)(c4:Int)(c5:List Def)(c6:List ar)(c7:List zF)(c8:List za)(c9:List a_)(lE:List Def)(lJ:List ar)(lO:List zF)(lW:List za)(l7:List a_)(l_:List au):Nat->(Int×(List au))->Option ((List au))
 |0,_=>bg
 |K+1,q=>(bif (decide (q.1<c0))then(bD (0<=q.1/\q.1<(((ba q.2):Nat):Int))).bind λ_=>aM ((q.2)[(bj q.1)]?) λx2=>aM (wJ x2.mK) λx3=>aM (bD (0<=q.1/\q.1<(((ba q.2):Nat):Int))) λ_=>aM ((q.2)[(bj q.1)]?) λx5=>uE c0 c1 c2 c3 c4 c5 c6 c7 c8 c9 lE lJ lO lW l7 l_ K ((aD (q.1+1)),(cD q.2 (bj q.1) (au.mk x5.aK x5.nq x5.sJ x3)))else aY q.2)
def KG(p:yp):Option ((List zj)×Int×(List Def)×(List ar)×(List zF)×(List za)×(List a_)×(List au)):=aM (wF p.aE) λx1=>aM (wG p.Tables) λx2=>aM (wH p.aA) λx3=>aM (xt p.aB) λx4=>aM (wI p.aI) λx5=>aM (jg p.aF) λx6=>aM (wJ p.aJ) λx7=>aM (uz (((ba x1):Nat):Int) x7 p.aG [] 0 x2 x3 x4 x5 x6 ([]:List Def) ([]:List ar) ([]:List zF) ([]:List za) ([]:List a_) ([]:List au) KK (0,x1)) λx8=>aM (uA (((ba x2):Nat):Int) x7 p.aG [] 0 x8 x3 x4 x5 x6 ([]:List Def) ([]:List ar) ([]:List zF) ([]:List za) ([]:List a_) ([]:List au) KK (0,x2)) λx9=>aM (uB (((ba x3):Nat):Int) x7 p.aG [] 0 x8 x9 x4 x5 x6 ([]:List Def) ([]:List ar) ([]:List zF) ([]:List za) ([]:List a_) ([]:List au) KK (0,x3)) λnS=>aM (uC (((ba x4):Nat):Int) x7 p.aG [] 0 x8 x9 nS x5 x6 ([]:List Def) ([]:List ar) ([]:List zF) ([]:List za) ([]:List a_) ([]:List au) KK (0,x4)) λmF=>aM (uD (((ba x5):Nat):Int) x7 p.aG [] 0 x8 x9 nS mF x6 ([]:List Def) ([]:List ar) ([]:List zF) ([]:List za) ([]:List a_) ([]:List au) KK (0,x5)) λrX=>aM (uE (((ba x6):Nat):Int) x7 p.aG [] 0 x8 x9 nS mF rX ([]:List Def) ([]:List ar) ([]:List zF) ([]:List za) ([]:List a_) ([]:List au) KK (0,x6)) λsD=>aY (x7,p.aG,x8,x9,nS,mF,rX,sD)
def A5(p:yp)(e:zN):Option (Int×(List Def)×(List ar)×(List zF)×(List za)×(List a_)×(List au)×(List zj)×Int):=aM (aM (HZ p) λx2=>(bif (!x2)then aY bh else(jJ (zN.mk e.aL e.aK e.Key e.N (za.mk e.za.aK e.za.aA e.za.Except e.za.lA e.za.j_ e.za.lN e.za.lU e.za.aL (Expr.mk e.za.Test.Op e.za.Test.N e.za.Test.S e.za.Test.Key e.za.Test.aH) e.za.zh e.za.Uses e.za.lK e.za.N) (Expr.mk e.Body.Op e.Body.N e.Body.S e.Body.Key e.Body.aH) e.ay)).bind λx3=>aY (!x3))) λx1=>(bif x1 then aY (1,[],[],[],[],[],[],[],0)else(xm p (zN.mk e.aL e.aK e.Key e.N (za.mk e.za.aK e.za.aA e.za.Except e.za.lA e.za.j_ e.za.lN e.za.lU e.za.aL (Expr.mk e.za.Test.Op e.za.Test.N e.za.Test.S e.za.Test.Key e.za.Test.aH) e.za.zh e.za.Uses e.za.lK e.za.N) (Expr.mk e.Body.Op e.Body.N e.Body.S e.Body.Key e.Body.aH) e.ay)).bind λx4=>(bif (!(decide (x4.1=0)))then aY (x4.1,[],[],[],[],[],[],[],0)else(KG (yp.mk x4.2.1 x4.2.2.1 x4.2.2.2.1 x4.2.2.2.2.1 x4.2.2.2.2.2.1 x4.2.2.2.2.2.2.1 x4.2.2.2.2.2.2.2.1 x4.2.2.2.2.2.2.2.2)).bind λx5=>aY (0,x5.2.2.1,x5.2.2.2.1,x5.2.2.2.2.1,x5.2.2.2.2.2.1,x5.2.2.2.2.2.2.1,x5.2.2.2.2.2.2.2,x5.1,x5.2.1)))
def Zl(n:Int):Option (Int×Int×ai×ai×(List Expr)):=aY (0,n,([]:ai),([]:ai),[])
def Qx(x_:Def)(CC:ai)(aj3:Int)(aj1:Int)(aj2:ai)(aj5:ai)(aj6:List Expr):Option (Bool):=aY (decide (x_.aK=CC))
def xU(c0:ai)(c1:Int)(c2:Int)(c3:ai)(c4:ai)(c5:List Expr)(c6:List Def)(c7:Int):Nat->(Int)->Option ((Int)⊕(Unit))
 |0,_=>bg
 |K+1,q=>(bif (decide (q<c7))then(idx c6 q).bind λx1=>aM (Qx x1 c0 c1 c2 c3 c4 c5) λx2=>(bif x2 then aY (bO q)else xU c0 c1 c2 c3 c4 c5 c6 c7 K (aD (q+1)))else aY (bN ()))
def kX(s:List Def)(sU:ai)(TZ:Int)(TX:Int)(TY:ai)(T1:ai)(T2:List Expr):Option (Int):=(xU sU TZ TX TY T1 T2 s (s.length:Int) KK 0).bind (y9 aY λ_=>aY (-1))
def zoh(l:List Def)(sU:ai)(TZ:Int)(TX:Int)(TY:ai)(T1:ai)(T2:List Expr):Option (Bool×ai×Int×Int×ai×ai×(List Expr)):=aM (kX l sU TZ TX TY T1 T2) λx1=>(bif (decide (x1>=0))then(idx l x1).bind λx2=>aY (bh,x2.aK,x2.Body.Op,x2.Body.N,x2.Body.S,x2.Body.Key,x2.Body.aH)else aY (bf,([]:ai),0,0,([]:ai),([]:ai),[]))
def Qy(x_:ar)(CC:ai)(ajZ:List av)(ajX:Int):Option (Bool):=aY (decide (x_.aK=CC))
def xV(c0:ai)(c1:List av)(c2:Int)(c3:List ar)(c4:Int):Nat->(Int)->Option ((Int)⊕(Unit))
 |0,_=>bg
 |K+1,q=>(bif (decide (q<c4))then(idx c3 q).bind λx1=>aM (Qy x1 c0 c1 c2) λx2=>(bif x2 then aY (bO q)else xV c0 c1 c2 c3 c4 K (aD (q+1)))else aY (bN ()))
def kY(s:List ar)(sU:ai)(TT:List av)(TQ:Int):Option (Int):=(xV sU TT TQ s (s.length:Int) KK 0).bind (y9 aY λ_=>aY (-1))
def θ(l:List ar)(sU:ai)(TT:List av)(TQ:Int):Option (Bool×ai×(List av)×Int):=aM (kY l sU TT TQ) λx1=>(bif (decide (x1>=0))then(idx l x1).bind λx2=>aY (bh,x2.aK,x2.Rows,x2.nU)else aY (bf,([]:ai),[],0))
def Qz(y:av)(CC:ai)(aaf:Int):Option (Bool):=aY (decide (y.aK=CC))
def xW(c0:ai)(c1:Int)(c2:List av)(c3:Int):Nat->(Int)->Option ((Int)⊕(Unit))
 |0,_=>bg
 |K+1,q=>(bif (decide (q<c3))then(idx c2 q).bind λx1=>aM (Qz x1 c0 c1) λx2=>(bif x2 then aY (bO q)else xW c0 c1 c2 c3 K (aD (q+1)))else aY (bN ()))
def kZ(s:List av)(TU:ai)(Pl:Int):Option (Int):=(xW TU Pl s (s.length:Int) KK 0).bind (y9 aY λ_=>aY (-1))
def ι(l:List av)(TU:ai)(Pl:Int):Option (Bool×ai×Int):=aM (kZ l TU Pl) λx1=>(bif (decide (x1>=0))then(idx l x1).bind λx2=>aY (bh,x2.aK,x2.N)else aY (bf,([]:ai),0))
def QA(x_:zF)(CC:ai)(aj4:Bool)(ajq:List zK):Option (Bool):=aY (decide (x_.aK=CC))
def xX(c0:ai)(c1:Bool)(c2:List zK)(c3:List zF)(c4:Int):Nat->(Int)->Option ((Int)⊕(Unit))
 |0,_=>bg
 |K+1,q=>(bif (decide (q<c4))then(idx c3 q).bind λx1=>aM (QA x1 c0 c1 c2) λx2=>(bif x2 then aY (bO q)else xX c0 c1 c2 c3 c4 K (aD (q+1)))else aY (bN ()))
def qa(s:List zF)(sU:ai)(T0:Bool)(ER:List zK):Option (Int):=(xX sU T0 ER s (s.length:Int) KK 0).bind (y9 aY λ_=>aY (-1))
def ν(l:List zF)(sU:ai)(T0:Bool)(ER:List zK):Option (Bool×ai×Bool×(List zK)):=aM (qa l sU T0 ER) λx1=>(bif (decide (x1>=0))then(idx l x1).bind λx2=>aY (bh,x2.aK,x2.nf,x2.ay)else aY (bf,([]:ai),bf,[]))
def QB(x_:za)(ru:RB):Option (Bool):=aY (decide (x_.aK=ru.r0))
def xY(ru:RB)(Bp:List za)(CH:Int):Nat->(Int)->Option ((Int)⊕(Unit))
 |0,_=>bg
 |K+1,q=>(bif (decide (q<CH))then(idx Bp q).bind λx1=>aM (QB x1 ru) λx2=>(bif x2 then aY (bO q)else xY ru Bp CH K (aD (q+1)))else aY (bN ()))
def qb(s:List za)(ru:RB):Option (Int):=(xY ru s (s.length:Int) KK 0).bind (y9 aY λ_=>aY (-1))
def ξ(l:List za)(ru:RB):Option (Bool×ai×(List ai)×(List ai)×Int×Int×Int×Bool×Int×Int×Int×ai×ai×(List Expr)×Int×Int×Int×Int×Int×Int×Int):=aM (qb l ru) λx1=>(bif (decide (x1>=0))then(idx l x1).bind λx2=>aY (bh,x2.aK,x2.aA,x2.Except,x2.lA,x2.j_,x2.lN,x2.lU,x2.aL,x2.Test.Op,x2.Test.N,x2.Test.S,x2.Test.Key,x2.Test.aH,x2.zh.nL,x2.zh.nK,x2.zh.nG,x2.zh.Den,x2.Uses,x2.lK,x2.N)else aY (bf,([]:ai),[],[],0,0,0,bf,0,0,0,([]:ai),([]:ai),[],0,0,0,0,0,0,0))
def QC(x_:a_)(CC:ai)(ajY:Int)(aj0:Int)(ajq:List zK):Option (Bool):=aY (decide (x_.aK=CC))
def xZ(c0:ai)(c1:Int)(c2:Int)(c3:List zK)(c4:List a_)(c5:Int):Nat->(Int)->Option ((Int)⊕(Unit))
 |0,_=>bg
 |K+1,q=>(bif (decide (q<c5))then(idx c4 q).bind λx1=>aM (QC x1 c0 c1 c2 c3) λx2=>(bif x2 then aY (bO q)else xZ c0 c1 c2 c3 c4 c5 K (aD (q+1)))else aY (bN ()))
def qc(s:List a_)(sU:ai)(TR:Int)(TW:Int)(ER:List zK):Option (Int):=(xZ sU TR TW ER s (s.length:Int) KK 0).bind (y9 aY λ_=>aY (-1))
def ο(l:List a_)(sU:ai)(TR:Int)(TW:Int)(ER:List zK):Option (Bool×ai×Int×Int×(List zK)):=aM (qc l sU TR TW ER) λx1=>(bif (decide (x1>=0))then(idx l x1).bind λx2=>aY (bh,x2.aK,x2.sH,x2.pB,x2.ay)else aY (bf,([]:ai),0,0,[]))
def oS(c0:List Def)(c1:Int)(c2:List Def)(c3:List ar)(c4:List zF)(c5:List za)(c6:List a_)(c7:List au)(c8:List zj)(c9:Int)(lE:List ar)(lJ:List zF)(lO:List za)(lW:List a_)(l7:List au)(l_:List zj)(rQ:Int):Nat->(Int×(List zN))->Option ((List zN))
 |0,_=>bg
 |K+1,q=>(bif (decide (q.1<c1))then(aM (idx c0 q.1) λx2=>aM (zoh c2 x2.aK x2.Body.Op x2.Body.N x2.Body.S x2.Body.Key x2.Body.aH) λx3=>aM ((bif (!x3.1)then aY bh else(kK (zN.mk 2 x2.aK ([]:ai) 0 (za.mk ([]:ai) [] [] 0 0 0 bf 0 (Expr.mk 0 0 ([]:ai) ([]:ai) []) (zh.mk 0 0 0 0) 0 0 0) (Expr.mk x2.Body.Op x2.Body.N x2.Body.S x2.Body.Key x2.Body.aH) []) (zN.mk 2 x2.aK ([]:ai) 0 (za.mk ([]:ai) [] [] 0 0 0 bf 0 (Expr.mk 0 0 ([]:ai) ([]:ai) []) (zh.mk 0 0 0 0) 0 0 0) (Expr.mk x3.2.2.1 x3.2.2.2.1 x3.2.2.2.2.1 x3.2.2.2.2.2.1 x3.2.2.2.2.2.2) [])).bind λx5=>aY (!x5))) λx4=>(bif x4 then(bD (ba (q.2++([(zN.mk 2 x2.aK ([]:ai) 0 (za.mk ([]:ai) [] [] 0 0 0 bf 0 (Expr.mk 0 0 ([]:ai) ([]:ai) []) (zh.mk 0 0 0 0) 0 0 0) (Expr.mk x2.Body.Op x2.Body.N x2.Body.S x2.Body.Key x2.Body.aH) [])]:List zN))*376<=140737488355328)).bind λ_=>aY (q.2++([(zN.mk 2 x2.aK ([]:ai) 0 (za.mk ([]:ai) [] [] 0 0 0 bf 0 (Expr.mk 0 0 ([]:ai) ([]:ai) []) (zh.mk 0 0 0 0) 0 0 0) (Expr.mk x2.Body.Op x2.Body.N x2.Body.S x2.Body.Key x2.Body.aH) [])]:List zN))else aY q.2)).bind λx1=>oS c0 c1 c2 c3 c4 c5 c6 c7 c8 c9 lE lJ lO lW l7 l_ rQ K ((aD (q.1+1)),x1)else aY q.2)
def oT(c0:List ar)(c1:Int)(c2:Int)(c3:List av)(c4:Int)(c5:List Def)(c6:List ar)(c7:List zF)(c8:List za)(c9:List a_)(lE:List au)(lJ:List zj)(lO:Int)(lW:List Def)(l7:List zF)(l_:List za)(rQ:List a_)(Dz:List au)(DA:List zj)(DB:Int)(Bp:ai)(CH:Int)(Gw:ai)(EX:List av)(Gx:Int):Nat->(Int×(List zN))->Option ((List zN))
 |0,_=>bg
 |K+1,q=>(bif (decide (q.1<c4))then(aM (idx c3 q.1) λx2=>aM (ι EX x2.aK x2.N) λx3=>aM ((bif (!x3.1)then aY bh else aY (!(decide (x3.2.2=x2.N))))) λx4=>(bif x4 then(bD (ba (q.2++([(zN.mk 3 Bp x2.aK x2.N (za.mk ([]:ai) [] [] 0 0 0 bf 0 (Expr.mk 0 0 ([]:ai) ([]:ai) []) (zh.mk 0 0 0 0) 0 0 0) (Expr.mk 0 0 ([]:ai) ([]:ai) []) [])]:List zN))*376<=140737488355328)).bind λ_=>aY (q.2++([(zN.mk 3 Bp x2.aK x2.N (za.mk ([]:ai) [] [] 0 0 0 bf 0 (Expr.mk 0 0 ([]:ai) ([]:ai) []) (zh.mk 0 0 0 0) 0 0 0) (Expr.mk 0 0 ([]:ai) ([]:ai) []) [])]:List zN))else aY q.2)).bind λx1=>oT c0 c1 c2 c3 c4 c5 c6 c7 c8 c9 lE lJ lO lW l7 l_ rQ Dz DA DB Bp CH Gw EX Gx K ((aD (q.1+1)),x1)else aY q.2)
def oU(c0:List ar)(c1:Int)(c2:List Def)(c3:List ar)(c4:List zF)(c5:List za)(c6:List a_)(c7:List au)(c8:List zj)(c9:Int)(lE:List Def)(lJ:List zF)(lO:List za)(lW:List a_)(l7:List au)(l_:List zj)(rQ:Int):Nat->(Int×(List zN))->Option ((List zN))
 |0,_=>bg
 |K+1,q=>(bif (decide (q.1<c1))then(idx c0 q.1).bind λx1=>aM (θ c3 x1.aK x1.Rows x1.nU) λx2=>aM (oT c0 c1 q.1 x1.Rows (x1.Rows.length:Int) c2 c3 c4 c5 c6 c7 c8 c9 lE lJ lO lW l7 l_ rQ x1.aK x1.nU x2.2.1 x2.2.2.1 x2.2.2.2 KK (0,q.2)) λx3=>oU c0 c1 c2 c3 c4 c5 c6 c7 c8 c9 lE lJ lO lW l7 l_ rQ K ((aD (q.1+1)),x3)else aY q.2)
def oV(c0:List zF)(c1:Int)(c2:List Def)(c3:List ar)(c4:List zF)(c5:List za)(c6:List a_)(c7:List au)(c8:List zj)(c9:Int)(lE:List Def)(lJ:List ar)(lO:List za)(lW:List a_)(l7:List au)(l_:List zj)(rQ:Int):Nat->(Int×(List zN))->Option ((List zN))
 |0,_=>bg
 |K+1,q=>(bif (decide (q.1<c1))then(aM (idx c0 q.1) λx2=>aM (ν c4 x2.aK x2.nf x2.ay) λx3=>aM ((bif (!x3.1)then aY bh else(y8 x3.2.2.2 x2.ay).bind λx5=>aY (!x5))) λx4=>(bif x4 then(J6 (yp.mk [] [] ([x2]:List zF) [] [] [] [] 0)).bind λx6=>aM (bD (ba (q.2++([(zN.mk x6.1 x6.2.1 x6.2.2.1 x6.2.2.2.1 (za.mk x6.2.2.2.2.1 x6.2.2.2.2.2.1 x6.2.2.2.2.2.2.1 x6.2.2.2.2.2.2.2.1 x6.2.2.2.2.2.2.2.2.1 x6.2.2.2.2.2.2.2.2.2.1 x6.2.2.2.2.2.2.2.2.2.2.1 x6.2.2.2.2.2.2.2.2.2.2.2.1 (Expr.mk x6.2.2.2.2.2.2.2.2.2.2.2.2.1 x6.2.2.2.2.2.2.2.2.2.2.2.2.2.1 x6.2.2.2.2.2.2.2.2.2.2.2.2.2.2.1 x6.2.2.2.2.2.2.2.2.2.2.2.2.2.2.2.1 x6.2.2.2.2.2.2.2.2.2.2.2.2.2.2.2.2.1) (zh.mk x6.2.2.2.2.2.2.2.2.2.2.2.2.2.2.2.2.2.1 x6.2.2.2.2.2.2.2.2.2.2.2.2.2.2.2.2.2.2.1 x6.2.2.2.2.2.2.2.2.2.2.2.2.2.2.2.2.2.2.2.1 x6.2.2.2.2.2.2.2.2.2.2.2.2.2.2.2.2.2.2.2.2.1) x6.2.2.2.2.2.2.2.2.2.2.2.2.2.2.2.2.2.2.2.2.2.1 x6.2.2.2.2.2.2.2.2.2.2.2.2.2.2.2.2.2.2.2.2.2.2.1 x6.2.2.2.2.2.2.2.2.2.2.2.2.2.2.2.2.2.2.2.2.2.2.2.1) (Expr.mk x6.2.2.2.2.2.2.2.2.2.2.2.2.2.2.2.2.2.2.2.2.2.2.2.2.1 x6.2.2.2.2.2.2.2.2.2.2.2.2.2.2.2.2.2.2.2.2.2.2.2.2.2.1 x6.2.2.2.2.2.2.2.2.2.2.2.2.2.2.2.2.2.2.2.2.2.2.2.2.2.2.1 x6.2.2.2.2.2.2.2.2.2.2.2.2.2.2.2.2.2.2.2.2.2.2.2.2.2.2.2.1 x6.2.2.2.2.2.2.2.2.2.2.2.2.2.2.2.2.2.2.2.2.2.2.2.2.2.2.2.2.1) x6.2.2.2.2.2.2.2.2.2.2.2.2.2.2.2.2.2.2.2.2.2.2.2.2.2.2.2.2.2)]:List zN))*376<=140737488355328)) λ_=>aY (q.2++([(zN.mk x6.1 x6.2.1 x6.2.2.1 x6.2.2.2.1 (za.mk x6.2.2.2.2.1 x6.2.2.2.2.2.1 x6.2.2.2.2.2.2.1 x6.2.2.2.2.2.2.2.1 x6.2.2.2.2.2.2.2.2.1 x6.2.2.2.2.2.2.2.2.2.1 x6.2.2.2.2.2.2.2.2.2.2.1 x6.2.2.2.2.2.2.2.2.2.2.2.1 (Expr.mk x6.2.2.2.2.2.2.2.2.2.2.2.2.1 x6.2.2.2.2.2.2.2.2.2.2.2.2.2.1 x6.2.2.2.2.2.2.2.2.2.2.2.2.2.2.1 x6.2.2.2.2.2.2.2.2.2.2.2.2.2.2.2.1 x6.2.2.2.2.2.2.2.2.2.2.2.2.2.2.2.2.1) (zh.mk x6.2.2.2.2.2.2.2.2.2.2.2.2.2.2.2.2.2.1 x6.2.2.2.2.2.2.2.2.2.2.2.2.2.2.2.2.2.2.1 x6.2.2.2.2.2.2.2.2.2.2.2.2.2.2.2.2.2.2.2.1 x6.2.2.2.2.2.2.2.2.2.2.2.2.2.2.2.2.2.2.2.2.1) x6.2.2.2.2.2.2.2.2.2.2.2.2.2.2.2.2.2.2.2.2.2.1 x6.2.2.2.2.2.2.2.2.2.2.2.2.2.2.2.2.2.2.2.2.2.2.1 x6.2.2.2.2.2.2.2.2.2.2.2.2.2.2.2.2.2.2.2.2.2.2.2.1) (Expr.mk x6.2.2.2.2.2.2.2.2.2.2.2.2.2.2.2.2.2.2.2.2.2.2.2.2.1 x6.2.2.2.2.2.2.2.2.2.2.2.2.2.2.2.2.2.2.2.2.2.2.2.2.2.1 x6.2.2.2.2.2.2.2.2.2.2.2.2.2.2.2.2.2.2.2.2.2.2.2.2.2.2.1 x6.2.2.2.2.2.2.2.2.2.2.2.2.2.2.2.2.2.2.2.2.2.2.2.2.2.2.2.1 x6.2.2.2.2.2.2.2.2.2.2.2.2.2.2.2.2.2.2.2.2.2.2.2.2.2.2.2.2.1) x6.2.2.2.2.2.2.2.2.2.2.2.2.2.2.2.2.2.2.2.2.2.2.2.2.2.2.2.2.2)]:List zN))else aY q.2)).bind λx1=>oV c0 c1 c2 c3 c4 c5 c6 c7 c8 c9 lE lJ lO lW l7 l_ rQ K ((aD (q.1+1)),x1)else aY q.2)
def oW(c0:List za)(c1:Int)(c2:List Def)(c3:List ar)(c4:List zF)(c5:List za)(c6:List a_)(c7:List au)(c8:List zj)(c9:Int)(lE:List Def)(lJ:List ar)(lO:List zF)(lW:List a_)(l7:List au)(l_:List zj)(rQ:Int):Nat->(Int×(List zN))->Option ((List zN))
 |0,_=>bg
 |K+1,q=>(bif (decide (q.1<c1))then(aM (idx c0 q.1) λx2=>aM (ξ c5 (RB.mk x2.aK x2.aA x2.Except x2.lA x2.j_ x2.lN x2.lU x2.aL x2.Test.Op x2.Test.N x2.Test.S x2.Test.Key x2.Test.aH x2.zh.nL x2.zh.nK x2.zh.nG x2.zh.Den x2.Uses x2.lK x2.N)) λx3=>(bif (!x3.1)then(bD (ba (q.2++([(zN.mk 0 ([]:ai) ([]:ai) 0 (za.mk x2.aK x2.aA x2.Except x2.lA x2.j_ x2.lN x2.lU x2.aL (Expr.mk x2.Test.Op x2.Test.N x2.Test.S x2.Test.Key x2.Test.aH) x2.zh x2.Uses x2.lK x2.N) (Expr.mk 0 0 ([]:ai) ([]:ai) []) [])]:List zN))*376<=140737488355328)).bind λ_=>aY (q.2++([(zN.mk 0 ([]:ai) ([]:ai) 0 (za.mk x2.aK x2.aA x2.Except x2.lA x2.j_ x2.lN x2.lU x2.aL (Expr.mk x2.Test.Op x2.Test.N x2.Test.S x2.Test.Key x2.Test.aH) x2.zh x2.Uses x2.lK x2.N) (Expr.mk 0 0 ([]:ai) ([]:ai) []) [])]:List zN))else(bif (!(decide (x3.2.2.2.2.2.1=x2.j_)))then(bD (ba (q.2++([(zN.mk 1 x2.aK ([]:ai) x2.j_ (za.mk ([]:ai) [] [] 0 0 0 bf 0 (Expr.mk 0 0 ([]:ai) ([]:ai) []) (zh.mk 0 0 0 0) 0 0 0) (Expr.mk 0 0 ([]:ai) ([]:ai) []) [])]:List zN))*376<=140737488355328)).bind λ_=>aY (q.2++([(zN.mk 1 x2.aK ([]:ai) x2.j_ (za.mk ([]:ai) [] [] 0 0 0 bf 0 (Expr.mk 0 0 ([]:ai) ([]:ai) []) (zh.mk 0 0 0 0) 0 0 0) (Expr.mk 0 0 ([]:ai) ([]:ai) []) [])]:List zN))else aY q.2))).bind λx1=>oW c0 c1 c2 c3 c4 c5 c6 c7 c8 c9 lE lJ lO lW l7 l_ rQ K ((aD (q.1+1)),x1)else aY q.2)
def oX(c0:List a_)(c1:Int)(c2:List Def)(c3:List ar)(c4:List zF)(c5:List za)(c6:List a_)(c7:List au)(c8:List zj)(c9:Int):Nat->(Int×(List zN))->Option ((List zN))
 |0,_=>bg
 |K+1,q=>(bif (decide (q.1<c1))then(aM (idx c0 q.1) λx2=>aM (ο c6 x2.aK x2.sH x2.pB x2.ay) λx3=>aM ((bif x3.1 then aY (!(decide (x3.2.2.2.1=x2.pB)))else aY bf)) λx4=>(bif x4 then(bD (ba (q.2++([(zN.mk 5 x2.aK ([]:ai) x2.pB (za.mk ([]:ai) [] [] 0 0 0 bf 0 (Expr.mk 0 0 ([]:ai) ([]:ai) []) (zh.mk 0 0 0 0) 0 0 0) (Expr.mk 0 0 ([]:ai) ([]:ai) []) [])]:List zN))*376<=140737488355328)).bind λ_=>aY (q.2++([(zN.mk 5 x2.aK ([]:ai) x2.pB (za.mk ([]:ai) [] [] 0 0 0 bf 0 (Expr.mk 0 0 ([]:ai) ([]:ai) []) (zh.mk 0 0 0 0) 0 0 0) (Expr.mk 0 0 ([]:ai) ([]:ai) []) [])]:List zN))else aY q.2)).bind λx1=>oX c0 c1 c2 c3 c4 c5 c6 c7 c8 c9 K ((aD (q.1+1)),x1)else aY q.2)
def Zm(a:yp)(b:yp):Option ((List zN)):=aM (oS b.aE (b.aE.length:Int) a.aE a.Tables a.aA a.aB a.aI a.aF a.aJ a.aG b.Tables b.aA b.aB b.aI b.aF b.aJ b.aG KK (0,[])) λx1=>aM (oU b.Tables (b.Tables.length:Int) a.aE a.Tables a.aA a.aB a.aI a.aF a.aJ a.aG b.aE b.aA b.aB b.aI b.aF b.aJ b.aG KK (0,x1)) λx2=>aM (oV b.aA (b.aA.length:Int) a.aE a.Tables a.aA a.aB a.aI a.aF a.aJ a.aG b.aE b.Tables b.aB b.aI b.aF b.aJ b.aG KK (0,x2)) λx3=>aM (oW b.aB (b.aB.length:Int) a.aE a.Tables a.aA a.aB a.aI a.aF a.aJ a.aG b.aE b.Tables b.aA b.aI b.aF b.aJ b.aG KK (0,x3)) λx4=>aM (oX b.aI (b.aI.length:Int) a.aE a.Tables a.aA a.aB a.aI a.aF a.aJ a.aG KK (0,x4)) λx5=>aY x5
def H6(c0:List zN)(c1:Int)(c2:List Def)(c3:List ar)(c4:List zF)(c5:List za)(c6:List a_)(c7:List au)(c8:List zj)(c9:Int):Nat->(Int×(List Def)×(List ar)×(List zF)×(List za)×(List a_)×(List au)×(List zj)×Int)->Option ((Int×(List Def)×(List ar)×(List zF)×(List za)×(List a_)×(List au)×(List zj)×Int)⊕((List Def)×(List ar)×(List zF)×(List za)×(List a_)×(List au)×(List zj)×Int))
 |0,_=>bg
 |K+1,q=>(bif (decide (q.1<c1))then(idx c0 q.1).bind λx1=>aM (A5 (yp.mk q.2.1 q.2.2.1 q.2.2.2.1 q.2.2.2.2.1 q.2.2.2.2.2.1 q.2.2.2.2.2.2.1 q.2.2.2.2.2.2.2.1 q.2.2.2.2.2.2.2.2) (zN.mk x1.aL x1.aK x1.Key x1.N (za.mk x1.za.aK x1.za.aA x1.za.Except x1.za.lA x1.za.j_ x1.za.lN x1.za.lU x1.za.aL (Expr.mk x1.za.Test.Op x1.za.Test.N x1.za.Test.S x1.za.Test.Key x1.za.Test.aH) x1.za.zh x1.za.Uses x1.za.lK x1.za.N) (Expr.mk x1.Body.Op x1.Body.N x1.Body.S x1.Body.Key x1.Body.aH) x1.ay)) λx2=>(bif (!(decide (x2.1=0)))then aY (bO (x2.1,[],[],[],[],[],[],[],0))else H6 c0 c1 c2 c3 c4 c5 c6 c7 c8 c9 K ((aD (q.1+1)),x2.2.1,x2.2.2.1,x2.2.2.2.1,x2.2.2.2.2.1,x2.2.2.2.2.2.1,x2.2.2.2.2.2.2.1,x2.2.2.2.2.2.2.2.1,x2.2.2.2.2.2.2.2.2))else aY (bN (q.2.1,q.2.2.1,q.2.2.2.1,q.2.2.2.2.1,q.2.2.2.2.2.1,q.2.2.2.2.2.2.1,q.2.2.2.2.2.2.2.1,q.2.2.2.2.2.2.2.2)))
def zie(p:yp)(l:List zN):Option (Int×(List Def)×(List ar)×(List zF)×(List za)×(List a_)×(List au)×(List zj)×Int):=aM (HZ p) λx1=>(bif (!x1)then aY (1,[],[],[],[],[],[],[],0)else(H6 l (l.length:Int) [] [] [] [] [] [] [] 0 KK (0,p.aE,p.Tables,p.aA,p.aB,p.aI,p.aF,p.aJ,p.aG)).bind (y9 aY λx2=>aM (KG (yp.mk x2.1 x2.2.1 x2.2.2.1 x2.2.2.2.1 x2.2.2.2.2.1 x2.2.2.2.2.2.1 x2.2.2.2.2.2.2.1 x2.2.2.2.2.2.2.2)) λx3=>aY (0,x3.2.2.1,x3.2.2.2.1,x3.2.2.2.2.1,x3.2.2.2.2.2.1,x3.2.2.2.2.2.2.1,x3.2.2.2.2.2.2.2,x3.1,x3.2.1)))
def zoi(a:yp)(b:yp):Option ((List zN)×Int):=aM (aM (HZ a) λx2=>(bif (!x2)then aY bh else(HZ b).bind λx3=>aY (!x3))) λx1=>(bif x1 then aY ([],1)else(KG b).bind λx4=>aM (Zm a (yp.mk x4.2.2.1 x4.2.2.2.1 x4.2.2.2.2.1 x4.2.2.2.2.2.1 x4.2.2.2.2.2.2.1 x4.2.2.2.2.2.2.2 x4.1 x4.2.1)) λx5=>aM (zie a x5) λx6=>aM ((bif (!(decide (x6.1=0)))then aY bh else(IN (yp.mk x6.2.1 x6.2.2.1 x6.2.2.2.1 x6.2.2.2.2.1 x6.2.2.2.2.2.1 x6.2.2.2.2.2.2.1 x6.2.2.2.2.2.2.2.1 x6.2.2.2.2.2.2.2.2) b).bind λx8=>aY (!x8))) λx7=>(bif x7 then aY ([],25)else aY (x5,0)))
def kp(c0:List zj)(c1:List zj):Nat->(Int)->Option ((Bool)⊕(Unit))
 |0,_=>bg
 |K+1,q=>(bif (decide (q<(c0.length:Int)))then(idx c0 q).bind λx1=>aM (idx c1 q) λx2=>(bif (!(decide (x1.X=x2.X)&&(decide (x1.Y=x2.Y)&&(decide (x1.Z_=x2.Z_)))))then aY (bO bf)else kp c0 c1 K (aD (q+1)))else aY (bN ()))
def oY(a:List zj)(b:List zj):Option (Bool):=(bif (!(decide ((a.length:Int)=(b.length:Int))))then aY bf else(kp a b KK 0).bind (y9 aY λ_=>aY bh))
def uZ(abr:Expr->Expr->Option (Bool))(c0:Int)(c1:Int)(c2:ai)(c3:ai)(c4:List Expr)(c5:Int)(c6:Int)(c7:ai)(c8:ai)(c9:List Expr):Nat->(Int)->Option ((Bool)⊕(Unit))
 |0,_=>bg
 |K+1,q=>(bif (decide (q<(c4.length:Int)))then(idx c4 q).bind λx1=>aM (idx c9 q) λx2=>aM (abr x1 x2) λx3=>(bif (!x3)then aY (bO bf)else uZ abr c0 c1 c2 c3 c4 c5 c6 c7 c8 c9 K (aD (q+1)))else aY (bN ()))
def jy:Nat->Expr->Expr->Option (Bool)
 |0,_,_=>bg
 |RK+1,a,b=>aM ((bif (!(decide (a.Op=b.Op)))then aY bh else(bif (!(decide (a.N=b.N)))then aY bh else(bif (!(decide (a.S=b.S)))then aY bh else(bif (!(decide (a.Key=b.Key)))then aY bh else aY (!(decide ((a.aH.length:Int)=(b.aH.length:Int))))))))) λx1=>(bif x1 then aY bf else(uZ (jy RK) a.Op a.N a.S a.Key a.aH b.Op b.N b.S b.Key b.aH KK 0).bind (y9 aY λ_=>aY bh))
def jL(c0:List av)(c1:List av):Nat->(Int)->Option ((Bool)⊕(Unit))
 |0,_=>bg
 |K+1,q=>(bif (decide (q<(c0.length:Int)))then(idx c0 q).bind λx1=>aM (idx c1 q) λx2=>(bif (!(decide (x1.aK=x2.aK)&&(decide (x1.N=x2.N))))then aY (bO bf)else jL c0 c1 K (aD (q+1)))else aY (bN ()))
def H7(a:List av)(b:List av):Option (Bool):=(bif (!(decide ((a.length:Int)=(b.length:Int))))then aY bf else(jL a b KK 0).bind (y9 aY λ_=>aY bh))
def ku(c0:List zK)(c1:List zK):Nat->(Int)->Option ((Bool)⊕(Unit))
 |0,_=>bg
 |K+1,q=>(bif (decide (q<(c0.length:Int)))then(idx c0 q).bind λx1=>aM (idx c1 q) λx2=>(bif (!(decide (x1.X=x2.X)&&(decide (x1.Y=x2.Y))))then aY (bO bf)else ku c0 c1 K (aD (q+1)))else aY (bN ()))
def oZ(a:List zK)(b:List zK):Option (Bool):=(bif (!(decide ((a.length:Int)=(b.length:Int))))then aY bf else(ku a b KK 0).bind (y9 aY λ_=>aY bh))
def qu(c0:List ai)(c1:List ai):Nat->(Int)->Option ((Bool)⊕(Unit))
 |0,_=>bg
 |K+1,q=>(bif (decide (q<(c0.length:Int)))then(idx c0 q).bind λx1=>aM (idx c1 q) λx2=>(bif (!(decide (x1=x2)))then aY (bO bf)else qu c0 c1 K (aD (q+1)))else aY (bN ()))
def A6(a:List ai)(b:List ai):Option (Bool):=(bif (!(decide ((a.length:Int)=(b.length:Int))))then aY bf else(qu a b KK 0).bind (y9 aY λ_=>aY bh))
def Wj(a:za)(b:za):Option (Bool):=aM (aM (A6 a.aA b.aA) λx2=>(bif x2 then(A6 a.Except b.Except).bind λx3=>(bif x3 then(jy KK (Expr.mk a.Test.Op a.Test.N a.Test.S a.Test.Key a.Test.aH) (Expr.mk b.Test.Op b.Test.N b.Test.S b.Test.Key b.Test.aH)).bind λx4=>aY x4 else aY bf)else aY bf)) λx1=>aM ((bif (decide (a.lA=b.lA))then(bif (decide (a.j_=b.j_))then(bif (decide (a.lN=b.lN))then aY (a.lU==b.lU)else aY bf)else aY bf)else aY bf)) λx5=>(bif (decide (a.aK=b.aK))then(bif x1 then(bif x5 then(bif (decide (a.aL=b.aL))then(bif (decide (a.zh.nL=b.zh.nL)&&(decide (a.zh.nK=b.zh.nK)&&(decide (a.zh.nG=b.zh.nG)&&(decide (a.zh.Den=b.zh.Den)))))then(bif (decide (a.Uses=b.Uses))then(bif (decide (a.lK=b.lK))then aY (decide (a.N=b.N))else aY bf)else aY bf)else aY bf)else aY bf)else aY bf)else aY bf)else aY bf)
def KH(c0:List Def)(c1:List ar)(c2:List zF)(c3:List za)(c4:List a_)(c5:List au)(c6:List zj)(c7:Int)(c8:List Def)(c9:List ar)(lE:List zF)(lJ:List za)(lO:List a_)(lW:List au)(l7:List zj)(l_:Int):Nat->(Int)->Option ((Bool)⊕(Unit))
 |0,_=>bg
 |K+1,q=>(bif (decide (q<(c0.length:Int)))then(aM (idx c0 q) λx2=>aM (idx c8 q) λx3=>(bif (!(decide (x2.aK=x3.aK)))then aY bh else(idx c0 q).bind λx4=>aM (idx c8 q) λx5=>aM (jy KK x4.Body x5.Body) λx6=>aY (!x6))).bind λx1=>(bif x1 then aY (bO bf)else KH c0 c1 c2 c3 c4 c5 c6 c7 c8 c9 lE lJ lO lW l7 l_ K (aD (q+1)))else aY (bN ()))
def KI(c0:List Def)(c1:List ar)(c2:List zF)(c3:List za)(c4:List a_)(c5:List au)(c6:List zj)(c7:Int)(c8:List Def)(c9:List ar)(lE:List zF)(lJ:List za)(lO:List a_)(lW:List au)(l7:List zj)(l_:Int):Nat->(Int)->Option ((Bool)⊕(Unit))
 |0,_=>bg
 |K+1,q=>(bif (decide (q<(c1.length:Int)))then(aM (idx c1 q) λx2=>aM (idx c9 q) λx3=>(bif (!(decide (x2.aK=x3.aK)))then aY bh else(idx c1 q).bind λx4=>aM (idx c9 q) λx5=>(bif (!(decide (x4.nU=x5.nU)))then aY bh else(idx c1 q).bind λx6=>aM (idx c9 q) λx7=>aM (H7 x6.Rows x7.Rows) λx8=>aY (!x8)))).bind λx1=>(bif x1 then aY (bO bf)else KI c0 c1 c2 c3 c4 c5 c6 c7 c8 c9 lE lJ lO lW l7 l_ K (aD (q+1)))else aY (bN ()))
def KJ(c0:List Def)(c1:List ar)(c2:List zF)(c3:List za)(c4:List a_)(c5:List au)(c6:List zj)(c7:Int)(c8:List Def)(c9:List ar)(lE:List zF)(lJ:List za)(lO:List a_)(lW:List au)(l7:List zj)(l_:Int):Nat->(Int)->Option ((Bool)⊕(Unit))
 |0,_=>bg
 |K+1,q=>(bif (decide (q<(c2.length:Int)))then(aM (idx c2 q) λx2=>aM (idx lE q) λx3=>(bif (!(decide (x2.aK=x3.aK)))then aY bh else(idx c2 q).bind λx4=>aM (idx lE q) λx5=>(bif (!(x4.nf==x5.nf))then aY bh else(idx c2 q).bind λx6=>aM (idx lE q) λx7=>aM (oZ x6.ay x7.ay) λx8=>aY (!x8)))).bind λx1=>(bif x1 then aY (bO bf)else KJ c0 c1 c2 c3 c4 c5 c6 c7 c8 c9 lE lJ lO lW l7 l_ K (aD (q+1)))else aY (bN ()))
def KN(c0:List Def)(c1:List ar)(c2:List zF)(c3:List za)(c4:List a_)(c5:List au)(c6:List zj)(c7:Int)(c8:List Def)(c9:List ar)(lE:List zF)(lJ:List za)(lO:List a_)(lW:List au)(l7:List zj)(l_:Int):Nat->(Int)->Option ((Bool)⊕(Unit))
 |0,_=>bg
 |K+1,q=>(bif (decide (q<(c3.length:Int)))then(idx c3 q).bind λx1=>aM (idx lJ q) λx2=>aM (Wj x1 x2) λx3=>(bif (!x3)then aY (bO bf)else KN c0 c1 c2 c3 c4 c5 c6 c7 c8 c9 lE lJ lO lW l7 l_ K (aD (q+1)))else aY (bN ()))
def KO(c0:List Def)(c1:List ar)(c2:List zF)(c3:List za)(c4:List a_)(c5:List au)(c6:List zj)(c7:Int)(c8:List Def)(c9:List ar)(lE:List zF)(lJ:List za)(lO:List a_)(lW:List au)(l7:List zj)(l_:Int):Nat->(Int)->Option ((Bool)⊕(Unit))
 |0,_=>bg
 |K+1,q=>(bif (decide (q<(c4.length:Int)))then(aM (idx c4 q) λx2=>aM (idx lO q) λx3=>(bif (!(decide (x2.aK=x3.aK)))then aY bh else(idx c4 q).bind λx4=>aM (idx lO q) λx5=>(bif (!(decide (x4.sH=x5.sH)))then aY bh else(idx c4 q).bind λx6=>aM (idx lO q) λx7=>(bif (!(decide (x6.pB=x7.pB)))then aY bh else(idx c4 q).bind λx8=>aM (idx lO q) λx9=>aM (oZ x8.ay x9.ay) λnS=>aY (!nS))))).bind λx1=>(bif x1 then aY (bO bf)else KO c0 c1 c2 c3 c4 c5 c6 c7 c8 c9 lE lJ lO lW l7 l_ K (aD (q+1)))else aY (bN ()))
def KP(c0:List Def)(c1:List ar)(c2:List zF)(c3:List za)(c4:List a_)(c5:List au)(c6:List zj)(c7:Int)(c8:List Def)(c9:List ar)(lE:List zF)(lJ:List za)(lO:List a_)(lW:List au)(l7:List zj)(l_:Int):Nat->(Int)->Option ((Bool)⊕(Unit))
 |0,_=>bg
 |K+1,q=>(bif (decide (q<(c5.length:Int)))then(aM (idx c5 q) λx2=>aM (idx lW q) λx3=>(bif (!(decide (x2.aK=x3.aK)))then aY bh else(idx c5 q).bind λx4=>aM (idx lW q) λx5=>(bif (!(decide (x4.nq.X=x5.nq.X)&&(decide (x4.nq.Y=x5.nq.Y)&&(decide (x4.nq.Z_=x5.nq.Z_)))))then aY bh else(idx c5 q).bind λx6=>aM (idx lW q) λx7=>(bif (!(decide (x6.sJ=x7.sJ)))then aY bh else(idx c5 q).bind λx8=>aM (idx lW q) λx9=>aM (oY x8.mK x9.mK) λnS=>aY (!nS))))).bind λx1=>(bif x1 then aY (bO bf)else KP c0 c1 c2 c3 c4 c5 c6 c7 c8 c9 lE lJ lO lW l7 l_ K (aD (q+1)))else aY (bN ()))
def zoj(a:yp)(b:yp):Option (Bool):=aM ((bif (!(decide ((a.aE.length:Int)=(b.aE.length:Int))))then aY bh else(bif (!(decide ((a.Tables.length:Int)=(b.Tables.length:Int))))then aY bh else(bif (!(decide ((a.aA.length:Int)=(b.aA.length:Int))))then aY bh else(bif (!(decide ((a.aB.length:Int)=(b.aB.length:Int))))then aY bh else(bif (!(decide ((a.aI.length:Int)=(b.aI.length:Int))))then aY bh else(bif (!(decide ((a.aF.length:Int)=(b.aF.length:Int))))then aY bh else(oY a.aJ b.aJ).bind λx2=>(bif (!x2)then aY bh else aY (!(decide (a.aG=b.aG))))))))))) λx1=>(bif x1 then aY bf else(KH a.aE a.Tables a.aA a.aB a.aI a.aF a.aJ a.aG b.aE b.Tables b.aA b.aB b.aI b.aF b.aJ b.aG KK 0).bind (y9 aY λ_=>(KI a.aE a.Tables a.aA a.aB a.aI a.aF a.aJ a.aG b.aE b.Tables b.aA b.aB b.aI b.aF b.aJ b.aG KK 0).bind (y9 aY λ_=>(KJ a.aE a.Tables a.aA a.aB a.aI a.aF a.aJ a.aG b.aE b.Tables b.aA b.aB b.aI b.aF b.aJ b.aG KK 0).bind (y9 aY λ_=>(KN a.aE a.Tables a.aA a.aB a.aI a.aF a.aJ a.aG b.aE b.Tables b.aA b.aB b.aI b.aF b.aJ b.aG KK 0).bind (y9 aY λ_=>(KO a.aE a.Tables a.aA a.aB a.aI a.aF a.aJ a.aG b.aE b.Tables b.aA b.aB b.aI b.aF b.aJ b.aG KK 0).bind (y9 aY λ_=>(KP a.aE a.Tables a.aA a.aB a.aI a.aF a.aJ a.aG b.aE b.Tables b.aA b.aB b.aI b.aF b.aJ b.aG KK 0).bind (y9 aY λ_=>aY bh)))))))
def KQ(c0:Int)(c1:ai)(c2:ai)(c3:Int)(c4:ai)(c5:List ai)(c6:List ai)(c7:Int)(c8:Int)(c9:Int)(lE:Bool)(lJ:Int)(lO:Int)(lW:Int)(l7:ai)(l_:ai)(rQ:List Expr)(Dz:Int)(DA:Int)(DB:Int)(Bp:Int)(CH:Int)(Gw:Int)(EX:Int)(Gx:Int)(NS:Int)(NT:ai)(NU:ai)(NW:List Expr)(Gy:List zK)(DC:Int)(pO:ai)(adO:ai)(adP:Int)(adQ:ai)(adR:List ai)(adS:List ai)(adT:Int)(adU:Int)(adV:Int)(adW:Bool)(adX:Int)(adY:Int)(adZ:Int)(ad0:ai)(ad1:ai)(ad2:List Expr)(ad3:Int)(ad4:Int)(ad5:Int)(ad6:Int)(ad7:Int)(ad8:Int)(ad9:Int)(ad_:Int)(ad':Int)(aea:ai)(aeb:ai)(aec:List Expr)(T_:List zK):Nat->(Int)->Option ((Bool)⊕(Unit))
 |0,_=>bg
 |K+1,q=>(bif (decide (q<(Gy.length:Int)))then(idx Gy q).bind λx1=>aM (idx T_ q) λx2=>(bif (!(decide (x1.X=x2.X)&&(decide (x1.Y=x2.Y))))then aY (bO bf)else KQ c0 c1 c2 c3 c4 c5 c6 c7 c8 c9 lE lJ lO lW l7 l_ rQ Dz DA DB Bp CH Gw EX Gx NS NT NU NW Gy DC pO adO adP adQ adR adS adT adU adV adW adX adY adZ ad0 ad1 ad2 ad3 ad4 ad5 ad6 ad7 ad8 ad9 ad_ ad' aea aeb aec T_ K (aD (q+1)))else aY (bN ()))
def Yq(a:zN)(b:zN):Option (Bool):=aM ((bif (!(decide (a.aL=b.aL)))then aY bh else(bif (!(decide (a.aK=b.aK)))then aY bh else(bif (!(decide (a.Key=b.Key)))then aY bh else(bif (!(decide (a.N=b.N)))then aY bh else aY (!(decide ((a.ay.length:Int)=(b.ay.length:Int))))))))) λx1=>(bif x1 then aY bf else(KQ a.aL a.aK a.Key a.N a.za.aK a.za.aA a.za.Except a.za.lA a.za.j_ a.za.lN a.za.lU a.za.aL a.za.Test.Op a.za.Test.N a.za.Test.S a.za.Test.Key a.za.Test.aH a.za.zh.nL a.za.zh.nK a.za.zh.nG a.za.zh.Den a.za.Uses a.za.lK a.za.N a.Body.Op a.Body.N a.Body.S a.Body.Key a.Body.aH a.ay b.aL b.aK b.Key b.N b.za.aK b.za.aA b.za.Except b.za.lA b.za.j_ b.za.lN b.za.lU b.za.aL b.za.Test.Op b.za.Test.N b.za.Test.S b.za.Test.Key b.za.Test.aH b.za.zh.nL b.za.zh.nK b.za.zh.nG b.za.zh.Den b.za.Uses b.za.lK b.za.N b.Body.Op b.Body.N b.Body.S b.Body.Key b.Body.aH b.ay KK 0).bind (y9 aY λ_=>aM (zoj (yp.mk [] [] [] ([(za.mk a.za.aK a.za.aA a.za.Except a.za.lA a.za.j_ a.za.lN a.za.lU a.za.aL (Expr.mk a.za.Test.Op a.za.Test.N a.za.Test.S a.za.Test.Key a.za.Test.aH) a.za.zh a.za.Uses a.za.lK a.za.N)]:List za) [] [] [] 0) (yp.mk [] [] [] ([(za.mk b.za.aK b.za.aA b.za.Except b.za.lA b.za.j_ b.za.lN b.za.lU b.za.aL (Expr.mk b.za.Test.Op b.za.Test.N b.za.Test.S b.za.Test.Key b.za.Test.aH) b.za.zh b.za.Uses b.za.lK b.za.N)]:List za) [] [] [] 0)) λx3=>(bif x3 then(jy KK (Expr.mk a.Body.Op a.Body.N a.Body.S a.Body.Key a.Body.aH) (Expr.mk b.Body.Op b.Body.N b.Body.S b.Body.Key b.Body.aH)).bind λx4=>aY x4 else aY bf)))
def Zn(e:zN):Option (ai×ai×ai):=(bif (decide (e.aL=0))then aY (IH,e.za.aK,([]:ai))else(bif (decide (e.aL=1))then aY (IH,e.aK,([]:ai))else(R8 e.aL).bind λx1=>aY (x1,e.aK,e.Key)))
def Zo(a:zN)(b:zN):Option (Bool):=aM (jJ (zN.mk a.aL a.aK a.Key a.N (za.mk a.za.aK a.za.aA a.za.Except a.za.lA a.za.j_ a.za.lN a.za.lU a.za.aL (Expr.mk a.za.Test.Op a.za.Test.N a.za.Test.S a.za.Test.Key a.za.Test.aH) a.za.zh a.za.Uses a.za.lK a.za.N) (Expr.mk a.Body.Op a.Body.N a.Body.S a.Body.Key a.Body.aH) a.ay)) λx1=>(bif x1 then(jJ (zN.mk b.aL b.aK b.Key b.N (za.mk b.za.aK b.za.aA b.za.Except b.za.lA b.za.j_ b.za.lN b.za.lU b.za.aL (Expr.mk b.za.Test.Op b.za.Test.N b.za.Test.S b.za.Test.Key b.za.Test.aH) b.za.zh b.za.Uses b.za.lK b.za.N) (Expr.mk b.Body.Op b.Body.N b.Body.S b.Body.Key b.Body.aH) b.ay)).bind λx2=>(bif x2 then(Zn (zN.mk a.aL a.aK a.Key a.N (za.mk a.za.aK a.za.aA a.za.Except a.za.lA a.za.j_ a.za.lN a.za.lU a.za.aL (Expr.mk a.za.Test.Op a.za.Test.N a.za.Test.S a.za.Test.Key a.za.Test.aH) a.za.zh a.za.Uses a.za.lK a.za.N) (Expr.mk a.Body.Op a.Body.N a.Body.S a.Body.Key a.Body.aH) a.ay)).bind λx3=>aM (Zn (zN.mk b.aL b.aK b.Key b.N (za.mk b.za.aK b.za.aA b.za.Except b.za.lA b.za.j_ b.za.lN b.za.lU b.za.aL (Expr.mk b.za.Test.Op b.za.Test.N b.za.Test.S b.za.Test.Key b.za.Test.aH) b.za.zh b.za.Uses b.za.lK b.za.N) (Expr.mk b.Body.Op b.Body.N b.Body.S b.Body.Key b.Body.aH) b.ay)) λx4=>aY (decide (x3.1=x4.1)&&(decide (x3.2.1=x4.2.1)&&(decide (x3.2.2=x4.2.2))))else aY bf)else aY bf)
def A7:Option (Bool):=aM (zh3 ady) λx1=>aM (zid ([(zN.mk 3 zu6 zIh 5 (za.mk ([]:ai) [] [] 0 0 0 bf 0 (Expr.mk 0 0 ([]:ai) ([]:ai) []) (zh.mk 0 0 0 0) 0 0 0) (Expr.mk 0 0 ([]:ai) ([]:ai) []) [])]:List zN)) λx2=>aM (A5 (yp.mk [] [] [] [] [] [] [] 0) (zN.mk 5 zu5 ([]:ai) 60 (za.mk ([]:ai) [] [] 0 0 0 bf 0 (Expr.mk 0 0 ([]:ai) ([]:ai) []) (zh.mk 0 0 0 0) 0 0 0) (Expr.mk 0 0 ([]:ai) ([]:ai) []) [])) λx3=>aM (Zl 3) λx4=>aM (A5 (yp.mk [] [] [] [] [] [] [] 0) (zN.mk 2 Pd ([]:ai) 0 (za.mk ([]:ai) [] [] 0 0 0 bf 0 (Expr.mk 0 0 ([]:ai) ([]:ai) []) (zh.mk 0 0 0 0) 0 0 0) (Expr.mk x4.1 x4.2.1 x4.2.2.1 x4.2.2.2.1 x4.2.2.2.2) [])) λx5=>aM (zoi (yp.mk [] [] [] [] [] [] [] 0) (yp.mk x5.2.1 x5.2.2.1 x5.2.2.2.1 x5.2.2.2.2.1 x5.2.2.2.2.2.1 x5.2.2.2.2.2.2.1 x5.2.2.2.2.2.2.2.1 x5.2.2.2.2.2.2.2.2)) λx6=>aM ((bif (!(decide ((x1.1.length:Int)=2)))then aY bh else(bif (!(decide ((x6.1.length:Int)=1)))then aY bh else aY (!(decide ((x5.2.1.length:Int)=1)))))) λx7=>(bif x7 then aY bf else((bif (decide (x1.2=0))then(bif (decide (x2.2=0))then(bif (decide (x3.1=4))then(bif (decide (x5.1=0))then(bif (decide (x6.2=0))then aY (decide (x2.1=adE))else aY bf)else aY bf)else aY bf)else aY bf)else aY bf)).bind λx8=>aM (aM (idx x1.1 0) λnS=>aM (Yq nS (zN.mk 5 zu5 ([]:ai) 60 (za.mk ([]:ai) [] [] 0 0 0 bf 0 (Expr.mk 0 0 ([]:ai) ([]:ai) []) (zh.mk 0 0 0 0) 0 0 0) (Expr.mk 0 0 ([]:ai) ([]:ai) []) [])) λmF=>(bif mF then(idx x1.1 1).bind λrX=>aM (Yq rX (zN.mk 1 Pd ([]:ai) 90 (za.mk ([]:ai) [] [] 0 0 0 bf 0 (Expr.mk 0 0 ([]:ai) ([]:ai) []) (zh.mk 0 0 0 0) 0 0 0) (Expr.mk 0 0 ([]:ai) ([]:ai) []) [])) λsD=>aY sD else aY bf)) λx9=>(bif x8 then(bif x9 then(idx x6.1 0).bind λH_=>aM (Zl 3) λA_=>aM (Yq H_ (zN.mk 2 Pd ([]:ai) 0 (za.mk ([]:ai) [] [] 0 0 0 bf 0 (Expr.mk 0 0 ([]:ai) ([]:ai) []) (zh.mk 0 0 0 0) 0 0 0) (Expr.mk A_.1 A_.2.1 A_.2.2.1 A_.2.2.2.1 A_.2.2.2.2) [])) λL_=>(bif L_ then(idx x6.1 0).bind λCY=>aM (jJ CY) λPj=>(bif Pj then(idx x1.1 1).bind λIa=>aM (idx x1.1 1) λPk=>aM (Zo Ia Pk) λafc=>(bif afc then(idx x1.1 0).bind λafd=>aM (idx x1.1 1) λafe=>aM (Zo afd afe) λaff=>(bif (!aff)then(idx x1.1 0).bind λafg=>aM (idx x1.1 0) λafh=>aM (kK afg afh) λafi=>aY afi else aY bf)else aY bf)else aY bf)else aY bf)else aY bf)else aY bf))
def wR(abq:Expr->Int->Int->Option (Int))(c0:Int)(c1:Int)(c2:Int)(c3:Int)(c4:ai)(c5:ai)(c6:List Expr):Nat->(Int×Int)->Option (Int)
 |0,_=>bg
 |K+1,q=>aM ((bif (decide (q.2<(c6.length:Int)))then aY (decide (q.1<=c0))else aY bf)) λx1=>(bif x1 then(idx c6 q.2).bind λx2=>aM (abq x2 (aD (c0-q.1)) (aD (c1-1))) λx3=>wR abq c0 c1 c2 c3 c4 c5 c6 K ((aD (q.1+x3)),(aD (q.2+1)))else aY q.1)
def yw:Nat->Expr->Int->Int->Option (Int)
 |0,_,_,_=>bg
 |RK+1,e,most,levels=>(bif (decide (levels<1))then aY (aD (most+1))else(wR (yw RK) most levels e.Op e.N e.S e.Key e.aH KK (1,0)).bind λx1=>aY x1)
def uF(r_:za):Option (Bool):=aM (yw KK (Expr.mk r_.Test.Op r_.Test.N r_.Test.S r_.Test.Key r_.Test.aH) 20 14) λx1=>(bif (decide (x1<=20))then(bif (decide ((r_.aA.length:Int)<=6))then aY (decide ((r_.Except.length:Int)<=6))else aY bf)else aY bf)
def jM(c0:List Def)(c1:List ar)(c2:List zF)(c3:List za)(c4:List a_)(c5:List au)(c6:List zj)(c7:Int):Nat->(Int)->Option ((Bool)⊕(Unit))
 |0,_=>bg
 |K+1,q=>(bif (decide (q<(c0.length:Int)))then(idx c0 q).bind λx1=>aM (yw KK x1.Body 20 14) λx2=>(bif (decide (x2>20))then aY (bO bf)else jM c0 c1 c2 c3 c4 c5 c6 c7 K (aD (q+1)))else aY (bN ()))
def jN(c0:List Def)(c1:List ar)(c2:List zF)(c3:List za)(c4:List a_)(c5:List au)(c6:List zj)(c7:Int):Nat->(Int)->Option ((Bool)⊕(Unit))
 |0,_=>bg
 |K+1,q=>(bif (decide (q<(c1.length:Int)))then(idx c1 q).bind λx1=>(bif (decide ((x1.Rows.length:Int)>6))then aY (bO bf)else jN c0 c1 c2 c3 c4 c5 c6 c7 K (aD (q+1)))else aY (bN ()))
def jO(c0:List Def)(c1:List ar)(c2:List zF)(c3:List za)(c4:List a_)(c5:List au)(c6:List zj)(c7:Int):Nat->(Int)->Option ((Bool)⊕(Unit))
 |0,_=>bg
 |K+1,q=>(bif (decide (q<(c2.length:Int)))then(idx c2 q).bind λx1=>(bif (decide ((x1.ay.length:Int)>12))then aY (bO bf)else jO c0 c1 c2 c3 c4 c5 c6 c7 K (aD (q+1)))else aY (bN ()))
def jP(c0:List Def)(c1:List ar)(c2:List zF)(c3:List za)(c4:List a_)(c5:List au)(c6:List zj)(c7:Int):Nat->(Int)->Option ((Bool)⊕(Unit))
 |0,_=>bg
 |K+1,q=>(bif (decide (q<(c3.length:Int)))then(idx c3 q).bind λx1=>aM (uF x1) λx2=>(bif (!x2)then aY (bO bf)else jP c0 c1 c2 c3 c4 c5 c6 c7 K (aD (q+1)))else aY (bN ()))
def jQ(c0:List Def)(c1:List ar)(c2:List zF)(c3:List za)(c4:List a_)(c5:List au)(c6:List zj)(c7:Int):Nat->(Int)->Option ((Bool)⊕(Unit))
 |0,_=>bg
 |K+1,q=>(bif (decide (q<(c4.length:Int)))then(idx c4 q).bind λx1=>(bif (decide ((x1.ay.length:Int)>12))then aY (bO bf)else jQ c0 c1 c2 c3 c4 c5 c6 c7 K (aD (q+1)))else aY (bN ()))
def jR(c0:List Def)(c1:List ar)(c2:List zF)(c3:List za)(c4:List a_)(c5:List au)(c6:List zj)(c7:Int):Nat->(Int)->Option ((Bool)⊕(Unit))
 |0,_=>bg
 |K+1,q=>(bif (decide (q<(c5.length:Int)))then(idx c5 q).bind λx1=>(bif (decide ((x1.mK.length:Int)>6))then aY (bO bf)else jR c0 c1 c2 c3 c4 c5 c6 c7 K (aD (q+1)))else aY (bN ()))
def J7(p:yp):Option (Bool):=aM ((bif (decide ((p.aE.length:Int)>5))then aY bh else(bif (decide ((p.Tables.length:Int)>5))then aY bh else(bif (decide ((p.aA.length:Int)>5))then aY bh else(bif (decide ((p.aB.length:Int)>5))then aY bh else(bif (decide ((p.aI.length:Int)>5))then aY bh else(bif (decide ((p.aF.length:Int)>5))then aY bh else aY (decide ((p.aJ.length:Int)>5))))))))) λx1=>(bif x1 then aY bf else(jM p.aE p.Tables p.aA p.aB p.aI p.aF p.aJ p.aG KK 0).bind (y9 aY λ_=>(jN p.aE p.Tables p.aA p.aB p.aI p.aF p.aJ p.aG KK 0).bind (y9 aY λ_=>(jO p.aE p.Tables p.aA p.aB p.aI p.aF p.aJ p.aG KK 0).bind (y9 aY λ_=>(jP p.aE p.Tables p.aA p.aB p.aI p.aF p.aJ p.aG KK 0).bind (y9 aY λ_=>(jQ p.aE p.Tables p.aA p.aB p.aI p.aF p.aJ p.aG KK 0).bind (y9 aY λ_=>(jR p.aE p.Tables p.aA p.aB p.aI p.aF p.aJ p.aG KK 0).bind (y9 aY λ_=>aY bh)))))))
def jz(c0:List zN):Nat->(Int)->Option ((Bool)⊕(Unit))
 |0,_=>bg
 |K+1,q=>aM ((bif (decide (q<(c0.length:Int)))then aY (decide (q<7))else aY bf)) λx1=>(bif x1 then(aM (idx c0 q) λx3=>aM (uF x3.za) λx4=>(bif (!x4)then aY bh else(idx c0 q).bind λx5=>aM (yw KK x5.Body 20 14) λx6=>(bif (decide (x6>20))then aY bh else(idx c0 q).bind λx7=>aY (decide ((x7.ay.length:Int)>12))))).bind λx2=>(bif x2 then aY (bO bf)else jz c0 K (aD (q+1)))else aY (bN ()))
def QD(l:List zN):Option (Bool):=(jz l KK 0).bind (y9 aY λ_=>aY (decide ((l.length:Int)<=6)))
def oy(op:Int):Option (Int×Bool):=aM ((bif (decide (op=0))then aY (decide (op=0))else(bif (decide (op=1))then aY (decide (op=1))else(bif (decide (op=2))then aY (decide (op=2))else aY (decide (op=3)))))) λx1=>(bif x1 then aY (0,bh)else((bif (decide (op=9))then aY (decide (op=9))else aY (decide (op=15)))).bind λx2=>(bif x2 then aY (1,bh)else(bif (decide (op=16))then aY (3,bh)else(bif (decide (op>=0))then aY (2,(decide (op<17)))else aY (2,bf)))))
def wK(abt:Expr->Int->Option (Int))(c0:Int)(c1:List Expr)(c2:Int):Nat->(Int×Int)->Option (Int)
 |0,_=>bg
 |K+1,q=>(bif (decide (q.2<c2))then(idx c1 q.2).bind λx1=>aM (abt (Expr.mk x1.Op x1.N x1.S x1.Key x1.aH) (aD (c0+1))) λx2=>wK abt c0 c1 c2 K ((max q.1 x2),(aD (q.2+1)))else aY q.1)
def yT:Nat->Expr->Int->Option (Int)
 |0,_,_=>bg
 |RK+1,e,aaZ=>aM (oy e.Op) λx1=>aM ((bif (!x1.2)then aY bh else(bif (!(decide (x1.1=(e.aH.length:Int))))then aY bh else aY (decide (aaZ>=12))))) λx2=>(bif x2 then aY 13 else(wK (yT RK) aaZ e.aH (e.aH.length:Int) KK (0,0)).bind λx3=>aY (aD (x3+1)))
def qd(e:Expr):Option (Bool):=aM (yT KK (Expr.mk e.Op e.N e.S e.Key e.aH) 0) λx1=>aY (decide (x1<=12))
def VK(a0:yp):Option ((List Int)×(List ai)×Int):=zu3 a0
def qE(t:ar)(agW:Int)(aaf:Int)(aag:ai)(abd:ai)(ajh:List Expr):Option (Bool):=aY (decide (t.aK=aag))
def ya(c0:Int)(c1:Int)(c2:ai)(c3:ai)(c4:List Expr)(c5:List ar)(c6:Int):Nat->(Int)->Option ((Int)⊕(Unit))
 |0,_=>bg
 |K+1,q=>(bif (decide (q<c6))then(idx c5 q).bind λx1=>aM (qE x1 c0 c1 c2 c3 c4) λx2=>(bif x2 then aY (bO q)else ya c0 c1 c2 c3 c4 c5 c6 K (aD (q+1)))else aY (bN ()))
def vl(s:List ar)(agI:Int)(ae0:Int)(ae1:ai)(aiQ:ai)(ajg:List Expr):Option (Int):=(ya agI ae0 ae1 aiQ ajg s (s.length:Int) KK 0).bind (y9 aY λ_=>aY (-1))
def qF(r_:av)(agW:Int)(aaf:Int)(aag:ai)(abd:ai)(ajh:List Expr):Option (Bool):=aY (decide (r_.aK=abd))
def yb(c0:Int)(c1:Int)(c2:ai)(c3:ai)(c4:List Expr)(c5:List av)(c6:Int):Nat->(Int)->Option ((Int)⊕(Unit))
 |0,_=>bg
 |K+1,q=>(bif (decide (q<c6))then(idx c5 q).bind λx1=>aM (qF x1 c0 c1 c2 c3 c4) λx2=>(bif x2 then aY (bO q)else yb c0 c1 c2 c3 c4 c5 c6 K (aD (q+1)))else aY (bN ()))
def vm(s:List av)(agH:Int)(aeW:Int)(aeX:ai)(aiO:ai)(aje:List Expr):Option (Int):=(yb agH aeW aeX aiO aje s (s.length:Int) KK 0).bind (y9 aY λ_=>aY (-1))
def wX(NX:List Def)(Gz:List ar)(NY:List zF)(NZ:List za)(N0:List a_)(N1:List au)(N2:List zj)(N3:Int)(K_:(List (ai×Int)))(La:List ai)(e:Expr):Option (Int):=aM (vl Gz e.Op e.N e.S e.Key e.aH) λx1=>(bif (decide (x1<0))then aY 0 else(idx Gz x1).bind λx2=>aM (vm x2.Rows e.Op e.N e.S e.Key e.aH) λx3=>(bif (decide (x3>=0))then(idx x2.Rows x3).bind λx4=>aY x4.N else aY x2.nU))
def zx(c0:List ai)(c1:ai)(c2:Int):Nat->(Int)->Option ((Int)⊕(Unit))
 |0,_=>bg
 |K+1,q=>(bif (decide (q<c2))then(idx c0 q).bind λx1=>(bif (decide (c1=x1))then aY (bO q)else zx c0 c1 c2 K (aD (q+1)))else aY (bN ()))
def yS(s:List ai)(v:ai):Option (Int):=(zx s v (s.length:Int) KK 0).bind (y9 aY λ_=>aY (-1))
def zU(s:List ai)(v:ai):Option (Bool):=aM (yS s v) λx1=>aY (decide (x1>=0))
def wa(ok:Bool):Option (Int):=(bif ok then aY 1 else aY 0)
def vn(a:Int)(b:Int):Option (Int):=(bif (decide (b=0))then aY 0 else(bD (b≠0)).bind λ_=>aM (aM (bD (b≠0)) λ_=>aM ((bif (!(decide ((ew a b)=0)))then aY (!((decide ((ew a b)<0))==(decide (b<0))))else aY bf)) λx4=>(bif x4 then aY (aD ((aD (iZ a b))-1))else aY (aD (iZ a b)))) λx2=>aY x2)
def ui(op:Int)(a:Int)(b:Int):Option (Int):=(bif (decide (op=4))then aY (aD (a+b))else(bif (decide (op=5))then aY (aD (a-b))else(bif (decide (op=6))then aY (aD (a*b))else(bif (decide (op=7))then(vn a b).bind λx1=>aY x1 else(bif (decide (op=8))then(bif (decide (b=0))then aY 0 else(vn a b).bind λx2=>aY (aD (a-(aD (x2*b)))))else(bif (decide (op=10))then(wa (decide (a=b))).bind λx3=>aY x3 else(bif (decide (op=11))then(wa (decide (a<b))).bind λx4=>aY x4 else(bif (decide (op=12))then(wa (decide (a<=b))).bind λx5=>aY x5 else(bif (decide (op=13))then(bif (!(decide (a=0)))then(wa (!(decide (b=0)))).bind λx6=>aY x6 else(wa bf).bind λx7=>aY x7)else(bif (!(decide (a=0)))then(wa bh).bind λx8=>aY x8 else(wa (!(decide (b=0)))).bind λx9=>aY x9))))))))))
def zB(abv:(List Def)->(List ar)->(List zF)->(List za)->(List a_)->(List au)->(List zj)->Int->(List (ai×Int))->(List ai)->Expr->Option (Int))(c0:(List (ai×Int)))(c1:List Expr)(c2:Int)(c3:List Def)(c4:List ar)(c5:List zF)(c6:List za)(c7:List a_)(c8:List au)(c9:List zj)(lE:Int)(lJ:List ai)(lO:Int)(lW:Int)(l7:ai)(l_:ai):Nat->(Int×(List Int))->Option ((List Int))
 |0,_=>bg
 |K+1,q=>(bif (decide (q.1<c2))then(aM (idx c1 q.1) λx2=>aM ((bif (decide (lO=16))then(bif (decide (q.1>0))then(bD ((0:Int)<=0/\0<(((ba q.2):Nat):Int))).bind λ_=>aM ((q.2)[(bj 0)]?) λx5=>aY (!((!(decide (x5=0)))==(decide (q.1=1))))else aY bf)else aY bf)) λx3=>(bif x3 then(bD (ba (q.2++([0]:List Int))*8<=140737488355328)).bind λ_=>aY (q.2++([0]:List Int))else(abv c3 c4 c5 c6 c7 c8 c9 lE c0 lJ (Expr.mk x2.Op x2.N x2.S x2.Key x2.aH)).bind λx7=>aM (bD (ba (q.2++([x7]:List Int))*8<=140737488355328)) λ_=>aY (q.2++([x7]:List Int)))).bind λx1=>zB abv c0 c1 c2 c3 c4 c5 c6 c7 c8 c9 lE lJ lO lW l7 l_ K ((aD (q.1+1)),x1)else aY q.2)
def zL:Nat->(List Def)->(List ar)->(List zF)->(List za)->(List a_)->(List au)->(List zj)->Int->(List (ai×Int))->(List ai)->Expr->Option (Int)
 |0,_,_,_,_,_,_,_,_,_,_,_=>bg
 |RK+1,NX,Gz,NY,NZ,N0,N1,N2,N3,K_,La,e=>aM (zB (zL RK) K_ e.aH (e.aH.length:Int) NX Gz NY NZ N0 N1 N2 N3 La e.Op e.N e.S e.Key KK (0,[])) λx1=>(bif (decide (e.Op=0))then aY e.N else(bif (decide (e.Op=1))then aY ((zr e.S K_).getD 0)else(bif (decide (e.Op=2))then(wX NX Gz NY NZ N0 N1 N2 N3 K_ La (Expr.mk e.Op e.N e.S e.Key e.aH)).bind λx2=>aY x2 else(bif (decide (e.Op=3))then(zU La e.S).bind λx3=>aM (wa x3) λx4=>aY x4 else(bif (decide (e.Op=9))then(bD ((0:Int)<=0/\0<(((ba x1):Nat):Int))).bind λ_=>aM ((x1)[(bj 0)]?) λx6=>aY (aD (0-x6))else(bif (decide (e.Op=15))then(bD ((0:Int)<=0/\0<(((ba x1):Nat):Int))).bind λ_=>aM ((x1)[(bj 0)]?) λx8=>aM (wa (decide (x8=0))) λx9=>aY x9 else(bif (decide (e.Op=16))then(bD ((0:Int)<=0/\0<(((ba x1):Nat):Int))).bind λ_=>aM ((x1)[(bj 0)]?) λmF=>(bif (!(decide (mF=0)))then(bD ((0:Int)<=1/\1<(((ba x1):Nat):Int))).bind λ_=>aM ((x1)[(bj 1)]?) λsD=>aY sD else(bD ((0:Int)<=2/\2<(((ba x1):Nat):Int))).bind λ_=>aM ((x1)[(bj 2)]?) λA_=>aY A_)else(bD ((0:Int)<=0/\0<(((ba x1):Nat):Int))).bind λ_=>aM ((x1)[(bj 0)]?) λCY=>aM (bD ((0:Int)<=1/\1<(((ba x1):Nat):Int))) λ_=>aM ((x1)[(bj 1)]?) λIa=>aM (ui e.Op CY Ia) λPk=>aY Pk)))))))
def yN(c0:List av)(c1:Int)(c2:List Def)(c3:List ar)(c4:List zF)(c5:List za)(c6:List a_)(c7:List au)(c8:List zj)(c9:Int)(lE:List ai):Nat->(Int×Int×J_×(List (ai×Int)))->Option (Int×J_×(List (ai×Int)))
 |0,_=>bg
 |K+1,q=>(bif (decide (q.1<c1))then(aM (idx c0 q.1) λx2=>(bif (!((zr x2.aK q.2.2.1).getD bf))then aY (q.2.1,(vW x2.aK bh q.2.2.1),(vW x2.aK x2.N q.2.2.2))else aY (q.2.1,q.2.2.1,q.2.2.2))).bind λx1=>yN c0 c1 c2 c3 c4 c5 c6 c7 c8 c9 lE K ((aD (q.1+1)),x1.1,x1.2.1,x1.2.2)else aY (q.2.1,q.2.2.1,q.2.2.2))
def yO(c0:List Int)(c1:Int)(c2:List Def)(c3:List ar)(c4:List zF)(c5:List za)(c6:List a_)(c7:List au)(c8:List zj)(c9:Int)(lE:Int)(lJ:List ai)(lO:J_):Nat->(Int×(List Int)×(List (ai×Int)))->Option ((List Int)×(List (ai×Int)))
 |0,_=>bg
 |K+1,q=>(bif (decide (q.1<c1))then(aM (idx c0 q.1) λx2=>aM (idx c2 x2) λx3=>aM (aM (qd (Expr.mk x3.Body.Op x3.Body.N x3.Body.S x3.Body.Key x3.Body.aH)) λx5=>(bif x5 then(zL KK c2 c3 c4 c5 c6 c7 c8 c9 q.2.2 lJ (Expr.mk x3.Body.Op x3.Body.N x3.Body.S x3.Body.Key x3.Body.aH)).bind λx6=>aM (bD (0<=x2/\x2<(((ba q.2.1):Nat):Int))) λ_=>aM ((q.2.1)[(bj x2)]?) λ_=>aY (cD q.2.1 (bj x2) x6)else aY q.2.1)) λx4=>(bif (!((zr x3.aK lO).getD bf))then(bD (0<=x2/\x2<(((ba x4):Nat):Int))).bind λ_=>aM ((x4)[(bj x2)]?) λnS=>aY (x4,(vW x3.aK nS q.2.2))else aY (x4,q.2.2))).bind λx1=>yO c0 c1 c2 c3 c4 c5 c6 c7 c8 c9 lE lJ lO K ((aD (q.1+1)),x1.1,x1.2)else aY (q.2.1,q.2.2))
def xB(p:yp)(Gn:List av)(Dt:List ai):Option ((List Int)×(List Def)×(List ar)×(List zF)×(List za)×(List a_)×(List au)×(List zj)×Int×(List ai)×(List (ai×Int))):=
 aM (yN Gn (Gn.length:Int) p.aE p.Tables p.aA p.aB p.aI p.aF p.aJ p.aG Dt KK (0,0,([]:List (ai×Bool)),([]:List (ai×Int)))) λx1=>aM (bD (0<=(p.aE.length:Int)/\(p.aE.length:Int)*((8:Nat):Int)<=281474976710656/\(p.aE.length:Int)<=9223372036854775807)) λ_=>aM (VK p) λx3=>(bif (!(decide (x3.2.2=0)))then aY ((bp (bj (p.aE.length:Int)) (0:Int)),p.aE,p.Tables,p.aA,p.aB,p.aI,p.aF,p.aJ,p.aG,Dt,x1.2.2)else(yO x3.1 (x3.1.length:Int) p.aE p.Tables p.aA p.aB p.aI p.aF p.aJ p.aG x1.1 Dt x1.2.1 KK (0,(bp (bj (p.aE.length:Int)) (0:Int)),x1.2.2)).bind λx4=>aY (x4.1,p.aE,p.Tables,p.aA,p.aB,p.aI,p.aF,p.aJ,p.aG,Dt,x4.2))
def yr(p:yp)(Gn:List av)(Dt:List ai)(e:Expr):Option (Int):=aM (qd (Expr.mk e.Op e.N e.S e.Key e.aH)) λx1=>(bif (!x1)then aY 0 else(xB p Gn Dt).bind λx2=>aM (zL KK x2.2.1 x2.2.2.1 x2.2.2.2.1 x2.2.2.2.2.1 x2.2.2.2.2.2.1 x2.2.2.2.2.2.2.1 x2.2.2.2.2.2.2.2.1 x2.2.2.2.2.2.2.2.2.1 x2.2.2.2.2.2.2.2.2.2.2 x2.2.2.2.2.2.2.2.2.2.1 (Expr.mk e.Op e.N e.S e.Key e.aH)) λx3=>aY x3)
def wb(p:yp)(Gn:List av)(Dt:List ai):Option ((List Int)):=aM (xB p Gn Dt) λx1=>aY x1.1
def yd(c0:Bool)(c1:List Int)(c2:List Int):Nat->(Int)->Option ((Bool)⊕(Unit))
 |0,_=>bg
 |K+1,q=>(bif (decide (q<(c1.length:Int)))then(idx c1 q).bind λx1=>aM (idx c2 q) λx2=>(bif (!(decide (x1=x2)))then aY (bO bf)else yd c0 c1 c2 K (aD (q+1)))else aY (bN ()))
def jh(p:yp)(a:zN)(name:ai)(n:Int):Option (Bool):=aM A7 λx1=>aM (aM (J7 p) λx3=>(bif (!x3)then aY bh else(QD ([(zN.mk a.aL a.aK a.Key a.N (za.mk a.za.aK a.za.aA a.za.Except a.za.lA a.za.j_ a.za.lN a.za.lU a.za.aL (Expr.mk a.za.Test.Op a.za.Test.N a.za.Test.S a.za.Test.Key a.za.Test.aH) a.za.zh a.za.Uses a.za.lK a.za.N) (Expr.mk a.Body.Op a.Body.N a.Body.S a.Body.Key a.Body.aH) a.ay)]:List zN)).bind λx4=>aY (!x4))) λx2=>(bif x2 then aY x1 else(A5 p (zN.mk a.aL a.aK a.Key a.N (za.mk a.za.aK a.za.aA a.za.Except a.za.lA a.za.j_ a.za.lN a.za.lU a.za.aL (Expr.mk a.za.Test.Op a.za.Test.N a.za.Test.S a.za.Test.Key a.za.Test.aH) a.za.zh a.za.Uses a.za.lK a.za.N) (Expr.mk a.Body.Op a.Body.N a.Body.S a.Body.Key a.Body.aH) a.ay)).bind λx5=>(bif (!(decide (x5.1=0)))then aY x1 else(bif (decide (a.aL=3))then(bif x1 then(yr (yp.mk x5.2.1 x5.2.2.1 x5.2.2.2.1 x5.2.2.2.2.1 x5.2.2.2.2.2.1 x5.2.2.2.2.2.2.1 x5.2.2.2.2.2.2.2.1 x5.2.2.2.2.2.2.2.2) ([(av.mk name n)]:List av) [] (Expr.mk 2 0 a.aK a.Key [])).bind λx6=>aY (decide (x6=a.N))else aY bf)else(bif (decide (a.aL=2))then(VK (yp.mk x5.2.1 x5.2.2.1 x5.2.2.2.1 x5.2.2.2.2.1 x5.2.2.2.2.2.1 x5.2.2.2.2.2.2.1 x5.2.2.2.2.2.2.2.1 x5.2.2.2.2.2.2.2.2)).bind λx7=>aM ((bif (!(decide (x7.2.2=0)))then aY bh else aY (decide (a.aK=name)))) λx8=>(bif x8 then aY x1 else(bif x1 then(yr (yp.mk x5.2.1 x5.2.2.1 x5.2.2.2.1 x5.2.2.2.2.1 x5.2.2.2.2.2.1 x5.2.2.2.2.2.2.1 x5.2.2.2.2.2.2.2.1 x5.2.2.2.2.2.2.2.2) ([(av.mk name n)]:List av) [] (Expr.mk 1 0 a.aK ([]:ai) [])).bind λx9=>aM (yr (yp.mk x5.2.1 x5.2.2.1 x5.2.2.2.1 x5.2.2.2.2.1 x5.2.2.2.2.2.1 x5.2.2.2.2.2.2.1 x5.2.2.2.2.2.2.2.1 x5.2.2.2.2.2.2.2.2) ([(av.mk name n)]:List av) [] (Expr.mk a.Body.Op a.Body.N a.Body.S a.Body.Key a.Body.aH)) λnS=>aY (decide (x9=nS))else aY bf))else(wb p ([(av.mk name n)]:List av) []).bind λmF=>aM (wb (yp.mk x5.2.1 x5.2.2.1 x5.2.2.2.1 x5.2.2.2.2.1 x5.2.2.2.2.2.1 x5.2.2.2.2.2.2.1 x5.2.2.2.2.2.2.2.1 x5.2.2.2.2.2.2.2.2) ([(av.mk name n)]:List av) []) λrX=>aM ((bif (!(decide ((mF.length:Int)=(p.aE.length:Int))))then aY bh else aY (!(decide ((rX.length:Int)=(mF.length:Int)))))) λsD=>(bif sD then aY bf else(yd x1 mF rX KK 0).bind (y9 aY λ_=>aY x1))))))
end Go.Proofs.YtogbenbghgjbiaaGreatDoor
