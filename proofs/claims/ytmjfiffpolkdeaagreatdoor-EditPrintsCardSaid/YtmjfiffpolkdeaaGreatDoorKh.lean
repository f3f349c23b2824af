/- texts that the proof reaches, part 8 -/
import Derived.Test.YtmjfiffpolkdeaaGreatDoorKg
set_option linter.all false
open BitVec renaming ofInt->cM
open Bool renaming false->bd,true->bg
open Int renaming toNat->bQ,fdiv->ik,tmod->abR
open List renaming length->bf,map->cP,isEmpty->dj,set->iP
open Option renaming bind->aN,some->bc,none->bh
open Sum renaming inl->bp,inr->br
set_option maxRecDepth 100000
namespace Go.Proofs.YtmjfiffpolkdeaaGreatDoor
open Go Go.RowKit Go.iE Go.EV Go.EQ
abbrev aj:=ak
abbrev gA:=List (aj×Bool)
structure Expr where
 Op:Int
 N:Int
 S:aj
 Key:aj
 aZ:(List Expr)
instance:Inhabited Expr:=⟨⟨0,0,[],[],[]⟩⟩
mutual
def oy:Expr->List V
 |⟨a0,a1,a2,a3,a4⟩=>[.int .i64 a0,.int .i64 a1,.str a2,.str a3,.vs 5 (yk a4)]
def yk:List Expr->List (List V)
 |[]=>[]
 |x::r=>oy x::yk r
end
def vg(x:Expr):List V:=[.int .i64 x.Op,.int .i64 x.N,.str x.S,.str x.Key,.vs 5 (yk x.aZ)]
def JP(x:Expr):oy x=vg x:=by cases x;rw[oy];rfl
def jL:∀l:List Expr,yk l=l.map vg
 |[]=>by rw[yk];rfl
 |x::r=>by rw[yk,JP,jL r];rfl
structure zx where
 X:Int
 Y:Int
 deriving Inhabited,DecidableEq
def vu(x:zx):List V:=[.int .i64 x.X,.int .i64 x.Y]
structure Def where
 aL:aj
 Body:Expr
 deriving Inhabited
def Lu(x:Def):List V:=[.str x.aL,.int .i64 x.Body.Op,.int .i64 x.Body.N,.str x.Body.S,.str x.Body.Key,.vs 5 (yk x.Body.aZ)]
structure aw where
 aL:aj
 N:Int
 deriving Inhabited,DecidableEq
def AZ(x:aw):List V:=[.str x.aL,.int .i64 x.N]
structure au where
 aL:aj
 Rows:(List aw)
 nn:Int
 deriving Inhabited,DecidableEq
def JQ(x:au):List V:=[.str x.aL,.vs 2 (cP AZ x.Rows),.int .i64 x.nn]
structure zM where
 aL:aj
 mN:Bool
 aA:(List zx)
 deriving Inhabited,DecidableEq
def VQ(x:zM):List V:=[.str x.aL,.bool x.mN,.vs 2 (cP vu x.aA)]
structure zj where
 lz:Int
 ly:Int
 ln:Int
 Den:Int
 deriving Inhabited,DecidableEq
def JR(x:zj):List V:=[.int .i64 x.lz,.int .i64 x.ly,.int .i64 x.ln,.int .i64 x.Den]
structure zd where
 aL:aj
 aB:List aj
 Except:List aj
 gY:Int
 gW:Int
 hU:Int
 gZ:Bool
 aM:Int
 Test:Expr
 zj:zj
 Uses:Int
 gS:Int
 N:Int
 deriving Inhabited
def KO(x:zd):List V:=[.str x.aL,.vs 1 (cP EV.Cf x.aB),.vs 1 (cP EV.Cf x.Except),.int .i64 x.gY,.int .i64 x.gW,.int .i64 x.hU,.bool x.gZ,.int .i64 x.aM,.int .i64 x.Test.Op,.int .i64 x.Test.N,.str x.Test.S,.str x.Test.Key,.vs 5 (yk x.Test.aZ),.int .i64 x.zj.lz,.int .i64 x.zj.ly,.int .i64 x.zj.ln,.int .i64 x.zj.Den,.int .i64 x.Uses,.int .i64 x.gS,.int .i64 x.N]
structure bD where
 aL:aj
 np:Int
 pH:Int
 aA:(List zx)
 deriving Inhabited,DecidableEq
def Lv(x:bD):List V:=[.str x.aL,.int .i64 x.np,.int .i64 x.pH,.vs 2 (cP vu x.aA)]
structure zl where
 X:Int
 Y:Int
 Z_:Int
 deriving Inhabited,DecidableEq
def kM(x:zl):List V:=[.int .i64 x.X,.int .i64 x.Y,.int .i64 x.Z_]
structure av where
 aL:aj
 iW:zl
 nB:Int
 lB:(List zl)
 deriving Inhabited,DecidableEq
def VR(x:av):List V:=[.str x.aL,.int .i64 x.iW.X,.int .i64 x.iW.Y,.int .i64 x.iW.Z_,.int .i64 x.nB,.vs 3 (cP kM x.lB)]
structure ar where
 aM:Int
 Text:aj
 N:Int
 Pos:Int
 deriving Inhabited,DecidableEq
def vv(x:ar):List V:=[.int .i64 x.aM,.str x.Text,.int .i64 x.N,.int .i64 x.Pos]
structure zN where
 aM:Int
 aL:aj
 Key:aj
 N:Int
 zd:zd
 Body:Expr
 aA:(List zx)
 deriving Inhabited
def Hw(x:zN):List V:=[.int .i64 x.aM,.str x.aL,.str x.Key,.int .i64 x.N,.str x.zd.aL,.vs 1 (cP EV.Cf x.zd.aB),.vs 1 (cP EV.Cf x.zd.Except),.int .i64 x.zd.gY,.int .i64 x.zd.gW,.int .i64 x.zd.hU,.bool x.zd.gZ,.int .i64 x.zd.aM,.int .i64 x.zd.Test.Op,.int .i64 x.zd.Test.N,.str x.zd.Test.S,.str x.zd.Test.Key,.vs 5 (yk x.zd.Test.aZ),.int .i64 x.zd.zj.lz,.int .i64 x.zd.zj.ly,.int .i64 x.zd.zj.ln,.int .i64 x.zd.zj.Den,.int .i64 x.zd.Uses,.int .i64 x.zd.gS,.int .i64 x.zd.N,.int .i64 x.Body.Op,.int .i64 x.Body.N,.str x.Body.S,.str x.Body.Key,.vs 5 (yk x.Body.aZ),.vs 2 (cP vu x.aA)]
structure zf where
 text:aj
 op:Int
 form:Int
 deriving Inhabited,DecidableEq
def abY(x:zf):List V:=[.str x.text,.int .i64 x.op,.int .i64 x.form]
structure zD where
 a:zx
 b:zx
 deriving Inhabited,DecidableEq
def Ji(x:zD):List V:=[.int .i64 x.a.X,.int .i64 x.a.Y,.int .i64 x.b.X,.int .i64 x.b.Y]
structure xP where
 aF:(List Def)
 Tables:(List au)
 aB:(List zM)
 aE:(List zd)
 aJ:(List bD)
 aG:(List av)
 aK:(List zl)
 aI:Int
 deriving Inhabited
def zuk(x:xP):List V:=[.vs 6 (cP Lu x.aF),.vs 3 (cP JQ x.Tables),.vs 3 (cP VQ x.aB),.vs 20 (cP KO x.aE),.vs 4 (cP Lv x.aJ),.vs 6 (cP VR x.aG),.vs 3 (cP kM x.aK),.int .i64 x.aI]
instance:Inhabited (Int⊕aj):=⟨.inl 0⟩
def Px(s:aj)(n:Int):Option aj:=aN (ea (0<=n/\n<256/\bf s+1<=140737488355328)) λ_=>bc (s++[UInt8.ofNat (bQ n)])
def WZ(l:List ar)(i j:Int):Option (List ar×List ar):=aN (ea (i=3/\j=4/\4<=bf l)) λ_=>bc (l.take 3++l.drop 4,l.take 3++(l.drop 4++[⟨0,[],0,0⟩]))
structure EB where
 k:Int
 n:aj
 y:aj
 m:Int
 r0:aj
 r1:List aj
 r2:List aj
 r3:Int
 r4:Int
 r5:Int
 r6:Bool
 ab2:Int
 r8:Int
 ab3:Int
 alg:aj
 alh:aj
 ali:(List Expr)
 alj:Int
 alk:Int
 alm:Int
 r16:Int
 aln:Int
 alo:Int
 alp:Int
 b0:Int
 b1:Int
 b2:aj
 b3:aj
 b4:(List Expr)
 c:(List zx)
def I6(x:Int×aj×aj×Int×aj×(List aj)×(List aj)×Int×Int×Int×Bool×Int×Int×Int×aj×aj×(List Expr)×Int×Int×Int×Int×Int×Int×Int×Int×Int×aj×aj×(List Expr)×(List zx)):EB:=⟨x.1,x.2.1,x.2.2.1,x.2.2.2.1,x.2.2.2.2.1,x.2.2.2.2.2.1,x.2.2.2.2.2.2.1,x.2.2.2.2.2.2.2.1,x.2.2.2.2.2.2.2.2.1,x.2.2.2.2.2.2.2.2.2.1,x.2.2.2.2.2.2.2.2.2.2.1,x.2.2.2.2.2.2.2.2.2.2.2.1,x.2.2.2.2.2.2.2.2.2.2.2.2.1,x.2.2.2.2.2.2.2.2.2.2.2.2.2.1,x.2.2.2.2.2.2.2.2.2.2.2.2.2.2.1,x.2.2.2.2.2.2.2.2.2.2.2.2.2.2.2.1,x.2.2.2.2.2.2.2.2.2.2.2.2.2.2.2.2.1,x.2.2.2.2.2.2.2.2.2.2.2.2.2.2.2.2.2.1,x.2.2.2.2.2.2.2.2.2.2.2.2.2.2.2.2.2.2.1,x.2.2.2.2.2.2.2.2.2.2.2.2.2.2.2.2.2.2.2.1,x.2.2.2.2.2.2.2.2.2.2.2.2.2.2.2.2.2.2.2.2.1,x.2.2.2.2.2.2.2.2.2.2.2.2.2.2.2.2.2.2.2.2.2.1,x.2.2.2.2.2.2.2.2.2.2.2.2.2.2.2.2.2.2.2.2.2.2.1,x.2.2.2.2.2.2.2.2.2.2.2.2.2.2.2.2.2.2.2.2.2.2.2.1,x.2.2.2.2.2.2.2.2.2.2.2.2.2.2.2.2.2.2.2.2.2.2.2.2.1,x.2.2.2.2.2.2.2.2.2.2.2.2.2.2.2.2.2.2.2.2.2.2.2.2.2.1,x.2.2.2.2.2.2.2.2.2.2.2.2.2.2.2.2.2.2.2.2.2.2.2.2.2.2.1,x.2.2.2.2.2.2.2.2.2.2.2.2.2.2.2.2.2.2.2.2.2.2.2.2.2.2.2.1,x.2.2.2.2.2.2.2.2.2.2.2.2.2.2.2.2.2.2.2.2.2.2.2.2.2.2.2.2.1,x.2.2.2.2.2.2.2.2.2.2.2.2.2.2.2.2.2.2.2.2.2.2.2.2.2.2.2.2.2⟩
def toEB{R:Type}(x:Int×aj×aj×Int×aj×(List aj)×(List aj)×Int×Int×Int×Bool×Int×Int×Int×aj×aj×(List Expr)×Int×Int×Int×Int×Int×Int×Int×Int×Int×aj×aj×(List Expr)×(List zx)×R):EB:=⟨x.1,x.2.1,x.2.2.1,x.2.2.2.1,x.2.2.2.2.1,x.2.2.2.2.2.1,x.2.2.2.2.2.2.1,x.2.2.2.2.2.2.2.1,x.2.2.2.2.2.2.2.2.1,x.2.2.2.2.2.2.2.2.2.1,x.2.2.2.2.2.2.2.2.2.2.1,x.2.2.2.2.2.2.2.2.2.2.2.1,x.2.2.2.2.2.2.2.2.2.2.2.2.1,x.2.2.2.2.2.2.2.2.2.2.2.2.2.1,x.2.2.2.2.2.2.2.2.2.2.2.2.2.2.1,x.2.2.2.2.2.2.2.2.2.2.2.2.2.2.2.1,x.2.2.2.2.2.2.2.2.2.2.2.2.2.2.2.2.1,x.2.2.2.2.2.2.2.2.2.2.2.2.2.2.2.2.2.1,x.2.2.2.2.2.2.2.2.2.2.2.2.2.2.2.2.2.2.1,x.2.2.2.2.2.2.2.2.2.2.2.2.2.2.2.2.2.2.2.1,x.2.2.2.2.2.2.2.2.2.2.2.2.2.2.2.2.2.2.2.2.1,x.2.2.2.2.2.2.2.2.2.2.2.2.2.2.2.2.2.2.2.2.2.1,x.2.2.2.2.2.2.2.2.2.2.2.2.2.2.2.2.2.2.2.2.2.2.1,x.2.2.2.2.2.2.2.2.2.2.2.2.2.2.2.2.2.2.2.2.2.2.2.1,x.2.2.2.2.2.2.2.2.2.2.2.2.2.2.2.2.2.2.2.2.2.2.2.2.1,x.2.2.2.2.2.2.2.2.2.2.2.2.2.2.2.2.2.2.2.2.2.2.2.2.2.1,x.2.2.2.2.2.2.2.2.2.2.2.2.2.2.2.2.2.2.2.2.2.2.2.2.2.2.1,x.2.2.2.2.2.2.2.2.2.2.2.2.2.2.2.2.2.2.2.2.2.2.2.2.2.2.2.1,x.2.2.2.2.2.2.2.2.2.2.2.2.2.2.2.2.2.2.2.2.2.2.2.2.2.2.2.2.1,x.2.2.2.2.2.2.2.2.2.2.2.2.2.2.2.2.2.2.2.2.2.2.2.2.2.2.2.2.2.1⟩
def rEB{R:Type}(x:Int×aj×aj×Int×aj×(List aj)×(List aj)×Int×Int×Int×Bool×Int×Int×Int×aj×aj×(List Expr)×Int×Int×Int×Int×Int×Int×Int×Int×Int×aj×aj×(List Expr)×(List zx)×R):R:=x.2.2.2.2.2.2.2.2.2.2.2.2.2.2.2.2.2.2.2.2.2.2.2.2.2.2.2.2.2.2
structure BB where
 l:(List ar)
 i:Int
 D:(List Def)
 T:(List au)
 Z:(List zM)
 R:(List zd)
 C:(List bD)
 V:(List av)
 S:(List zl)
 H:Int
 n0:(List gA)
 n1:(List gA)
 n2:(List gA)
 n3:(List gA)
 n4:(List gA)
 n5:(List gA)
 h:Bool
def jU(x:(List ar)×Int×(List Def)×(List au)×(List zM)×(List zd)×(List bD)×(List av)×(List zl)×Int×(List gA)×(List gA)×(List gA)×(List gA)×(List gA)×(List gA)×Bool):BB:=⟨x.1,x.2.1,x.2.2.1,x.2.2.2.1,x.2.2.2.2.1,x.2.2.2.2.2.1,x.2.2.2.2.2.2.1,x.2.2.2.2.2.2.2.1,x.2.2.2.2.2.2.2.2.1,x.2.2.2.2.2.2.2.2.2.1,x.2.2.2.2.2.2.2.2.2.2.1,x.2.2.2.2.2.2.2.2.2.2.2.1,x.2.2.2.2.2.2.2.2.2.2.2.2.1,x.2.2.2.2.2.2.2.2.2.2.2.2.2.1,x.2.2.2.2.2.2.2.2.2.2.2.2.2.2.1,x.2.2.2.2.2.2.2.2.2.2.2.2.2.2.2.1,x.2.2.2.2.2.2.2.2.2.2.2.2.2.2.2.2⟩
def F_{R:Type}(x:(List ar)×Int×(List Def)×(List au)×(List zM)×(List zd)×(List bD)×(List av)×(List zl)×Int×(List gA)×(List gA)×(List gA)×(List gA)×(List gA)×(List gA)×Bool×R):BB:=⟨x.1,x.2.1,x.2.2.1,x.2.2.2.1,x.2.2.2.2.1,x.2.2.2.2.2.1,x.2.2.2.2.2.2.1,x.2.2.2.2.2.2.2.1,x.2.2.2.2.2.2.2.2.1,x.2.2.2.2.2.2.2.2.2.1,x.2.2.2.2.2.2.2.2.2.2.1,x.2.2.2.2.2.2.2.2.2.2.2.1,x.2.2.2.2.2.2.2.2.2.2.2.2.1,x.2.2.2.2.2.2.2.2.2.2.2.2.2.1,x.2.2.2.2.2.2.2.2.2.2.2.2.2.2.1,x.2.2.2.2.2.2.2.2.2.2.2.2.2.2.2.1,x.2.2.2.2.2.2.2.2.2.2.2.2.2.2.2.2.1⟩
def Bd{R:Type}(x:(List ar)×Int×(List Def)×(List au)×(List zM)×(List zd)×(List bD)×(List av)×(List zl)×Int×(List gA)×(List gA)×(List gA)×(List gA)×(List gA)×(List gA)×Bool×R):R:=x.2.2.2.2.2.2.2.2.2.2.2.2.2.2.2.2.2
def Nl:aj:=[48]
def gU:aj:=[32]
def zh:aj:=[32,97,110,100,32,97,112,97,114,116,32,98,97,115,101,32,99,97,112,32,100,101,102,105,110,101,32,101,108,115,101,32,101,120,99,101,112,116,32,102,114,111,109,32,103,114,97,99,101,32,104,111,117,114,115,32,105,102,32,105,110,32,108,101,97,115,116,32,110,111,116,32,111,114,32,111,118,101,114,108,97,121,32,112,108,97,110,101,32,114,117,108,101,32,115,108,111,112,101,32,115,117,110,32,116,97,98,108,101,32,116,104,101,110,32,117,110,116,105,108,32,117,115,101,115,32,118,97,114,121,32,118,105,101,119,32,122,111,110,101,32]
def yE:aj:=[32,101,108,115,101,32]
def yF:aj:=[32,116,104,101,110,32]
def xB:aj:=[32,59,10]
def SN:aj:=[97]
def I7:aj:=[97,110,100]
def jg:aj:=[97,112,97,114,116]
def qD:aj:=[98,97,115,101]
def Br:aj:=[99,97,112]
def zO:aj:=[100,101,102,105,110,101]
def je:aj:=[101,108,115,101]
def jm:aj:=[101,110,100]
def YX:aj:=[101,110,100,32]
def yx:aj:=[101,120,99,101,112,116]
def wP:aj:=[102,114,111,109]
def xp:aj:=[103,114,97,99,101]
def zMp:aj:=[104,111,109,101]
def zi:aj:=[104,111,109,101,32,115,104,111,112,32,119,111,114,107,32,112,97,114,107,32,112,108,97,110,116,32,104,97,108,108]
def zQ:aj:=[104,111,109,101,115,32,116,114,97,102,102,105,99,32,114,117,110,111,102,102]
def AG:aj:=[104,111,117,114,115]
def Vk:aj:=[105,102]
def oA:aj:=[105,102,32]
def Z9:aj:=[105,110]
def Yc:aj:=[108,101,97,115,116]
def yh:aj:=[108,105,109,105,116]
def Ac:aj:=[108,105,109,105,116,32]
def afB:aj:=[108,105,109,105,116,32,114,111,97,100,115,32,54,48,59,32,101,110,100,32,97,32,57,48,59]
def qE:aj:=[110,111,116]
def VS:aj:=[110,111,116,32]
def Li:aj:=[111,114]
def zu:aj:=[111,118,101,114,108,97,121]
def jh:aj:=[112,108,97,110,101]
def zC3:aj:=[114,111,97,100,115]
def vk:aj:=[114,111,119]
def Qs:aj:=[114,111,119,32]
def afH:aj:=[114,111,119,32,116,114,97,102,102,105,99,32,104,111,109,101,32,53,32,59,10]
def yn:aj:=[114,117,108,101]
def wB:aj:=[115,108,111,112,101]
def QR:aj:=[115,117,110]
def yG:aj:=[116,97,98,108,101]
def wC:aj:=[116,97,98,108,101,32]
def uc:aj:=[116,104,101,110]
def zm9:aj:=[116,114,97,102,102,105,99]
def xi:aj:=[117,110,116,105,108]
def kH:aj:=[117,115,101,115]
def yB:aj:=[118,97,114,121]
def Qt:aj:=[118,105,101,119]
def Bs:aj:=[37]
def AI:aj:=[40]
def Gp:aj:=[40,32]
def qO:aj:=[41]
def Bt:aj:=[42]
def Bu:aj:=[43]
def QT:aj:=[44]
def yX:aj:=[45]
def ud:aj:=[45,32]
def Bv:aj:=[47]
def wQ:aj:=[58]
def z8:aj:=[59]
def Bw:aj:=[60]
def qp:aj:=[60,61]
def uy:aj:=[61]
def qq:aj:=[61,61]
def zR:aj:=[122,111,110,101]
def oC:aj:=[122,111,110,101,32]
variable[Fuel]
def JS(c_:Int):Option (Bool):=(bif (decide (c_=32))then bc bg else(bif (decide (c_=9))then bc bg else bc (decide (c_=10))))
def Hx(c0:aj):Nat->(Int)->Option (Int)
 |0,_=>bh
 |K+1,q=>aN ((bif (decide (q<(c0.length:Int)))then(idx c0 q).bind λx2=>aN (JS ((x2.toNat:Nat):Int)) λx3=>bc x3 else bc bd)) λx1=>(bif x1 then Hx c0 K (aS (q+1))else bc q)
def Ok(s:aj):Option (Int):=aN (Hx s KK 0) λx1=>bc x1
def kP(c_:Int):Option (Bool):=(bif (decide (c_>=97))then bc (decide (c_<=122))else bc bd)
def qF(c_:Int):Option (Bool):=(bif (decide (c_>=48))then bc (decide (c_<=57))else bc bd)
def KQ(c_:Int):Option (Bool):=aN (kP c_) λx1=>(bif x1 then bc bg else(qF c_).bind λx2=>bc x2)
def uz(c0:aj):Nat->(Int)->Option (Int)
 |0,_=>bh
 |K+1,q=>aN ((bif (decide (q<(c0.length:Int)))then(idx c0 q).bind λx2=>aN (KQ ((x2.toNat:Nat):Int)) λx3=>bc x3 else bc bd)) λx1=>(bif x1 then uz c0 K (aS (q+1))else bc q)
def KR(s:aj):Option (Int):=aN (uz s KK 0) λx1=>bc x1
def uT(c_:Int):Option (Bool):=aN (kP c_) λx1=>(bif x1 then bc bg else(qF c_).bind λx2=>bc x2)
def uA(c0:aj):Nat->(Int)->Option (Int)
 |0,_=>bh
 |K+1,q=>aN ((bif (decide (q<(c0.length:Int)))then(idx c0 q).bind λx2=>aN (uT ((x2.toNat:Nat):Int)) λx3=>bc x3 else bc bd)) λx1=>(bif x1 then uA c0 K (aS (q+1))else bc q)
def KS(s:aj):Option (Int):=aN (uA s KK 0) λx1=>bc x1
def Hy(s:aj):Option (Bool):=aN ((bif (decide (s=([]:aj)))then bc bg else(idx s 0).bind λx2=>aN (kP ((x2.toNat:Nat):Int)) λx3=>(bif (!x3)then bc bg else bc (decide ((s.length:Int)>20))))) λx1=>(bif x1 then bc bd else(KS s).bind λx4=>bc (decide (x4=(s.length:Int))))
def uB(c0:aj):Nat->(Int)->Option (Int)
 |0,_=>bh
 |K+1,q=>aN ((bif (decide (q<(c0.length:Int)))then(idx c0 q).bind λx2=>aN (qF ((x2.toNat:Nat):Int)) λx3=>bc x3 else bc bd)) λx1=>(bif x1 then uB c0 K (aS (q+1))else bc q)
def A0(s:aj):Option (Int):=aN (uB s KK 0) λx1=>bc x1
def vH(c0:aj)(c1:Int):Nat->(Int×Int)->Option (Int)
 |0,_=>bh
 |K+1,q=>(bif (decide (q.2<c1))then(idx c0 q.2).bind λx1=>vH c0 c1 K ((aS ((aS (10*q.1))+(aS ((IntKind.u8.wrap (((x1.toNat:Nat):Int)-48)))))),(aS (q.2+1)))else bc q.1)
def KT(s:aj):Option (Int×Bool):=aN ((bif (decide (s=([]:aj)))then bc bg else(A0 s).bind λx2=>(bif (!(decide (x2=(s.length:Int))))then bc bg else(idx s 0).bind λx3=>(bif (decide (((x3.toNat:Nat):Int)=48))then(bif (!(decide (s=Nl)))then bc bg else bc (decide ((s.length:Int)>13)))else bc (decide ((s.length:Int)>13)))))) λx1=>(bif x1 then bc (0,bd)else(vH s (s.length:Int) KK (0,0)).bind λx4=>(bif (decide (x4>1099511627776))then bc (0,bd)else bc (x4,bg)))
def QU(a0:aj)(a1:aj):Option (Bool):=zb3 a0 a1
def kQ(c0:aj)(c1:aj)(c2:aj)(c3:aj)(c4:aj)(c5:aj)(c6:aj)(c7:aj)(c8:aj)(c9:aj)(c10:aj)(c11:aj)(c12:aj)(c13:aj)(c14:aj)(c15:Int)(c16:aj):Nat->(Int)->Option ((Int×Int×aj×Int×Int)⊕(Unit))
 |0,_=>bh
 |K+1,q=>(bif (decide (q<14))then(idx (α:=aj) ([c1,c2,c3,c4,c5,c6,c7,c8,c9,c10,c11,c12,c13,c14]:List aj) q).bind λx1=>aN (QU c0 x1) λx2=>(bif x2 then bc (bp (0,2,x1,0,0))else kQ c0 c1 c2 c3 c4 c5 c6 c7 c8 c9 c10 c11 c12 c13 c14 c15 c16 K (aS (q+1)))else bc (br ()))
def Ol(s:aj):Option (Int×Int×aj×Int×Int):=aN (idx s 0) λx1=>aN (kP ((x1.toNat:Nat):Int)) λx2=>(bif x2 then(KR s).bind λx3=>aN (cut s 0 x3) λx4=>aN (Hy x4) λx5=>(bif (!x5)then bc (15,0,([]:aj),0,0)else bc (0,0,x4,0,0))else(idx s 0).bind λx6=>aN (qF ((x6.toNat:Nat):Int)) λx7=>(bif x7 then(A0 s).bind λx8=>aN (cut s 0 x8) λx9=>aN (KT x9) λgw=>(bif (!gw.2)then bc (3,0,([]:aj),0,0)else bc (0,1,x9,gw.1,0))else(kQ s qp qq z8 QT wQ uy Bw Bu yX Bt Bv Bs AI qO 0 ([]:aj) KK 0).bind (xo bc λ_=>bc (13,0,([]:aj),0,0))))
def uU(c0:aj):Nat->(Int×(List ar))->Option (((List ar)×Int×Int)⊕(Unit))
 |0,_=>bh
 |K+1,q=>aN (cut c0 q.1 (c0.length:Int)) λx1=>aN (Ok x1) λx2=>(bif (decide ((aS (q.1+x2))=(c0.length:Int)))then(ea (bf (q.2++([(ar.mk 3 ([]:aj) 0 (aS (q.1+x2)))]:List ar))*40<=140737488355328)).bind λ_=>bc (bp ((q.2++([(ar.mk 3 ([]:aj) 0 (aS (q.1+x2)))]:List ar)),0,0))else(cut c0 (aS (q.1+x2)) (c0.length:Int)).bind λx4=>aN (Ol x4) λx5=>(bif (!(decide (x5.1=0)))then bc (bp ([],(aS (q.1+x2)),x5.1))else(ea (bf (q.2++([(ar.mk x5.2.1 x5.2.2.1 x5.2.2.2.1 (aS (q.1+x2)))]:List ar))*40<=140737488355328)).bind λ_=>uU c0 K ((aS ((aS (q.1+x2))+(x5.2.2.1.length:Int))),(q.2++([(ar.mk x5.2.1 x5.2.2.1 x5.2.2.2.1 (aS (q.1+x2)))]:List ar)))))
def Lw(s:aj):Option ((List ar)×Int×Int):=(bif (decide ((s.length:Int)>8000))then bc ([],0,6)else(uU s KK (0,[])).bind (xo bc λ_=>bh))
def zA(bl:List ar)(bi:Int):Option (Int×aj×Int×Int):=aN (idx bl bi) λx1=>bc (x1.aM,x1.Text,x1.N,x1.Pos)
def zn(bl:List ar)(bi:Int)(CX:Bool)(err:Int):Option (Unit):=(bif (!CX)then bh else bc ())
def yH(b:BB)(P4:Int)(lV:Int):Option (Int):=aN (zn b.l b.i (decide (P4<lV)) 6) λ_=>bc (aS (b.i+1))
def KU(a0:aj)(a1:aj):Option (Bool):=KJ a0 a1
def Qu(s:aj):Option (Bool):=aN (Hy s) λx1=>(bif x1 then(ea (bf gU+bf s<=9223372036854775807)).bind λ_=>aN (ea (bf (gU++s)+bf gU<=9223372036854775807)) λ_=>aN (KU zh ((gU++s)++gU)) λx4=>bc (!x4)else bc bd)
def yL(bl:List ar)(bi:Int):Option (Bool):=aN (zA bl bi) λx1=>(bif (decide (x1.1=0))then(zA bl bi).bind λx2=>aN (Qu x2.2.1) λx3=>bc x3 else bc bd)
def zV(bl:List ar)(bi:Int):Option (aj×Int):=aN (yL bl bi) λx1=>aN (zn bl bi x1 14) λ_=>aN (idx bl (aS ((aS (bi+1))-1))) λx3=>bc (x3.Text,(aS (bi+1)))
def VT(b:BB):Option (aj×Int×(List gA)):=aN (yL b.l b.i) λx1=>aN (zn b.l b.i x1 14) λ_=>aN (zA b.l b.i) λx3=>aN (nz b.n0) λx4=>aN (zn b.l b.i (!((xh x3.2.1 x4).getD bd)) 5) λ_=>aN (zA b.l b.i) λx6=>aN (nz [x4]) λx7=>aN (zV b.l b.i) λx8=>bc (x8.1,x8.2,[oV x6.2.1 bg x7])
def LF(b:BB):Option (aj×Int×(List gA)):=aN ((bif (dj b.n0)then bc ([([]:List (aj×Bool))]:List gA)else bc b.n0)) λx1=>aN (VT { b with n0:=x1 }) λx2=>bc (x2.1,x2.2.1,x2.2.2)
def Ad(bl:List ar)(bi:Int)(s:aj):Option (Bool):=aN (zA bl bi) λx1=>(bif (!(decide (x1.1=3)))then(zA bl bi).bind λx2=>bc (decide (x2.2.1=s))else bc bd)
def zL(bl:List ar)(bi:Int)(s:aj):Option (Bool×Int):=aN (Ad bl bi s) λx1=>(bif (!x1)then bc (bd,bi)else bc (bg,(aS (bi+1))))
def z6(bl:List ar)(bi:Int)(s:aj):Option (Int):=aN (zL bl bi s) λx1=>aN (zn bl x1.2 x1.1 14) λ_=>bc x1.2
def yM(bl:List ar)(bi:Int):Option (Bool):=aN (zA bl bi) λx1=>bc (decide (x1.1=1))
def zr(bl:List ar)(bi:Int)(from_:Int)(FU:Int):Option (Int×Int):=aN (yM bl bi) λx1=>aN (zn bl bi x1 14) λ_=>aN (zA bl bi) λx3=>aN ((bif (decide (x3.2.2.1>=from_))then(zn bl bi (decide (x3.2.2.1<=FU)) 3).bind λ_=>bc ()else(zn bl bi bd 3).bind λ_=>bc ())) λ_=>bc (x3.2.2.1,(aS (bi+1)))
def jC:Option ((List zf)):=bc ([(zf.mk Li 14 1),(zf.mk I7 13 2),(zf.mk qq 10 4),(zf.mk Bw 11 4),(zf.mk qp 12 4),(zf.mk Bu 4 5),(zf.mk yX 5 5),(zf.mk Bt 6 6),(zf.mk Bv 7 6),(zf.mk Bs 8 6)]:List zf)
def wD(c0:List ar)(c1:Int)(c17:Int)(c18:Int)(c19:List zf)(c20:Int)(po:Int)(DO:aj)(DP:List Expr)(DQ:Int)(DR:Int)(DS:aj)(DT:aj)(DU:List Expr):Nat->(Int×aj×Int×Int)->Option (aj×Int×Int)
 |0,_=>bh
 |K+1,q=>(bif (decide (q.1<c20))then(aN (idx c19 q.1) λx2=>aN (Ad c0 c1 x2.text) λx3=>(bif x3 then bc (x2.text,x2.op,x2.form)else bc (q.2.1,q.2.2.1,q.2.2.2))).bind λx1=>wD c0 c1 c17 c18 c19 c20 po DO DP DQ DR DS DT DU K ((aS (q.1+1)),x1.1,x1.2.1,x1.2.2)else bc (q.2.1,q.2.2.1,q.2.2.2))
def oD(ad2:(List ar)->Int->Int->Option (Int×Int×Int×aj×aj×(List Expr)))(c0:List ar)(c16:Int)(c17:Int)(c18:aj)(c19:List Expr):Nat->(Int×Int×Int×Int×aj×aj×(List Expr))->Option ((Int×Int×Int×aj×aj×(List Expr))⊕(Unit))
 |0,_=>bh
 |K+1,q=>aN jC λx1=>aN (wD c0 q.1 c16 q.2.1 x1 (x1.length:Int) c17 c18 c19 q.2.2.1 q.2.2.2.1 q.2.2.2.2.1 q.2.2.2.2.2.1 q.2.2.2.2.2.2 KK (0,([]:aj),0,0)) λx2=>aN ((bif (decide (x2.1=([]:aj)))then bc bg else(bif (decide (x2.2.2<c16))then bc bg else(bif (decide (q.2.1<x2.2.2))then bc bg else(bif (decide (q.2.1=4))then bc (decide (x2.2.2=4))else bc bd))))) λx3=>(bif x3 then bc (bp (q.1,q.2.2.1,q.2.2.2.1,q.2.2.2.2.1,q.2.2.2.2.2.1,q.2.2.2.2.2.2))else(ad2 c0 (aS (q.1+1)) (aS (x2.2.2+1))).bind λx4=>oD ad2 c0 c16 c17 c18 c19 K (x4.1,x2.2.2,x2.2.1,0,([]:aj),([]:aj),([(Expr.mk q.2.2.1 q.2.2.2.1 q.2.2.2.2.1 q.2.2.2.2.2.1 q.2.2.2.2.2.2),(Expr.mk x4.2.1 x4.2.2.1 x4.2.2.2.1 x4.2.2.2.2.1 x4.2.2.2.2.2)]:List Expr)))
mutual
def uV:Nat->(List ar)->Int->Int->Option (Int×Int×Int×Int×aj×aj×(List Expr))
 |0,_,_,_=>bh
 |RK+1,bl,bi,form=>aN ((bif (decide (form<=0))then(zL bl bi Vk).bind λx2=>bc (x2.2,x2.1)else bc (bi,bd))) λx1=>(bif x1.2 then(zS RK bl x1.1 0).bind λx3=>aN (z6 bl x3.1 uc) λx4=>aN (zS RK bl x4 0) λx5=>aN (z6 bl x5.1 je) λx6=>aN (zS RK bl x6 0) λx7=>bc (0,x7.1,16,0,([]:aj),([]:aj),([(Expr.mk x3.2.1 x3.2.2.1 x3.2.2.2.1 x3.2.2.2.2.1 x3.2.2.2.2.2),(Expr.mk x5.2.1 x5.2.2.1 x5.2.2.2.1 x5.2.2.2.2.1 x5.2.2.2.2.2),(Expr.mk x7.2.1 x7.2.2.1 x7.2.2.2.1 x7.2.2.2.2.1 x7.2.2.2.2.2)]:List Expr))else((bif (decide (form<=3))then(zL bl x1.1 qE).bind λx9=>bc (x9.2,x9.1)else bc (x1.1,bd))).bind λx8=>(bif x8.2 then(zS RK bl x8.1 3).bind λgw=>bc (3,gw.1,15,0,([]:aj),([]:aj),([(Expr.mk gw.2.1 gw.2.2.1 gw.2.2.2.1 gw.2.2.2.2.1 gw.2.2.2.2.2)]:List Expr))else((bif (decide (form<=7))then(zL bl x8.1 yX).bind λiZ=>bc (iZ.2,iZ.1)else bc (x8.1,bd))).bind λgK=>(bif gK.2 then(zS RK bl gK.1 7).bind λkO=>bc (7,kO.1,9,0,([]:aj),([]:aj),([(Expr.mk kO.2.1 kO.2.2.1 kO.2.2.2.1 kO.2.2.2.2.1 kO.2.2.2.2.2)]:List Expr))else(yM bl gK.1).bind λlP=>(bif lP then(zr bl gK.1 0 1099511627776).bind λlx=>bc (8,lx.2,0,lx.1,([]:aj),([]:aj),[])else(zL bl gK.1 yG).bind λlY=>(bif lY.1 then(zV bl lY.2).bind λl9=>aN (zV bl l9.2) λmK=>bc (8,mK.2,2,0,l9.1,mK.1,[])else(zL bl lY.2 zR).bind λi_=>(bif i_.1 then(zV bl i_.2).bind λnF=>bc (8,nF.2,3,0,nF.1,([]:aj),[])else(zL bl i_.2 AI).bind λmY=>(bif mY.1 then(zS RK bl mY.2 0).bind λmy=>aN (z6 bl my.1 qO) λpM=>bc (8,pM,my.2.1,my.2.2.1,my.2.2.2.1,my.2.2.2.2.1,my.2.2.2.2.2)else(zV bl mY.2).bind λmZ=>bc (8,mZ.2,1,0,mZ.1,([]:aj),[]))))))))
def zS:Nat->(List ar)->Int->Int->Option (Int×Int×Int×aj×aj×(List Expr))
 |0,_,_,_=>bh
 |RK+1,bl,bi,form=>aN (uV RK bl bi form) λx1=>(oD (zS RK) bl form 0 ([]:aj) [] KK (x1.2.1,x1.1,x1.2.2.1,x1.2.2.2.1,x1.2.2.2.2.1,x1.2.2.2.2.2.1,x1.2.2.2.2.2.2)).bind (xo bc λ_=>bh)
end
def kS(ad1:Expr->Option (Int))(c0:List Expr)(c1:Int):Nat->(Int×Int)->Option (Int)
 |0,_=>bh
 |K+1,q=>(bif (decide (q.2<c1))then(idx c0 q.2).bind λx1=>aN (ad1 (Expr.mk x1.Op x1.N x1.S x1.Key x1.aZ)) λx2=>kS ad1 c0 c1 K ((max q.1 x2),(aS (q.2+1)))else bc q.1)
def j5:Nat->Expr->Option (Int)
 |0,_=>bh
 |RK+1,e=>aN (kS (j5 RK) e.aZ (e.aZ.length:Int) KK (0,0)) λx1=>bc (aS (x1+1))
def jD(b:BB)(CX:Bool)(err:Int):Option (Int):=aN (Ad b.l b.i z8) λx1=>aN (zn b.l b.i x1 14) λ_=>aN (zn b.l b.i CX err) λ_=>bc (aS (b.i+1))
def A1(b:BB):Option (Int×(List Def)×(List gA)):=aN (LF b) λx1=>aN (z6 b.l x1.2.1 uy) λx2=>aN (zS KK b.l x2 0) λx3=>aN (j5 KK (Expr.mk x3.2.1 x3.2.2.1 x3.2.2.2.1 x3.2.2.2.2.1 x3.2.2.2.2.2)) λx4=>aN (jD { b with i:=x3.1,n0:=x1.2.2 } (decide (x4<=12)) 6) λx5=>aN (ea (bf (b.D++([(Def.mk x1.1 (Expr.mk x3.2.1 x3.2.2.1 x3.2.2.2.1 x3.2.2.2.2.1 x3.2.2.2.2.2))]:List Def))*88<=140737488355328)) λ_=>bc (x5,(b.D++([(Def.mk x1.1 (Expr.mk x3.2.1 x3.2.2.1 x3.2.2.2.1 x3.2.2.2.2.1 x3.2.2.2.2.2))]:List Def)),x1.2.2)
def Hz(b:BB):Option (aj×Int×(List gA)):=aN (yL b.l b.i) λx1=>aN (zn b.l b.i x1 14) λ_=>aN (zA b.l b.i) λx3=>aN (nz b.n2) λx4=>aN (zn b.l b.i (!((xh x3.2.1 x4).getD bd)) 5) λ_=>aN (zA b.l b.i) λx6=>aN (nz [x4]) λx7=>aN (zV b.l b.i) λx8=>bc (x8.1,x8.2,[oV x6.2.1 bg x7])
def oE(b:BB):Option (aj×Int×(List gA)):=aN ((bif (dj b.n2)then bc ([([]:List (aj×Bool))]:List gA)else bc b.n2)) λx1=>aN (Hz { b with n2:=x1 }) λx2=>bc (x2.1,x2.2.1,x2.2.2)
def j6(b:BB):Nat->(Int×(List zx))->Option (((List zx)×Int)⊕(Unit))
 |0,_=>bh
 |K+1,q=>aN (zr b.l q.1 0 1048576) λx1=>aN (zr b.l x1.2 0 1048576) λx2=>aN (ea (bf (q.2++([(zx.mk x1.1 x2.1)]:List zx))*16<=140737488355328)) λ_=>aN (yM b.l x2.2) λx4=>(bif (!x4)then bc (bp ((q.2++([(zx.mk x1.1 x2.1)]:List zx)),x2.2))else j6 b K (x2.2,(q.2++([(zx.mk x1.1 x2.1)]:List zx))))
def wb(b:BB):Option ((List zx)×Int):=(j6 { b with i:=0 } KK (b.i,[])).bind (xo bc λ_=>bh)
def wE(c0:List zx)(c1:Int):Nat->(Int×(List zD))->Option ((List zD))
 |0,_=>bh
 |K+1,q=>(bif (decide (q.1<c1))then(idx c0 q.1).bind λx1=>aN (ea ((c0.length:Int)≠0)) λ_=>aN (idx c0 (abR (aS (q.1+1)) (c0.length:Int))) λx3=>aN (ea (0<=q.1/\q.1<(((bf q.2):Nat):Int))) λ_=>aN ((q.2)[(bQ q.1)]?) λ_=>wE c0 c1 K ((aS (q.1+1)),(iP q.2 (bQ q.1) (zD.mk x1 x3)))else bc q.2)
def KV(p:List zx):Option ((List zD)):=
 aN (ea (0<=(p.length:Int)/\(p.length:Int)*((32:Nat):Int)<=281474976710656/\(p.length:Int)<=9223372036854775807)) λ_=>aN (wE p (p.length:Int) KK (0,(List.replicate (bQ (p.length:Int)) (zD.mk (zx.mk 0 0) (zx.mk 0 0))))) λx2=>bc x2
def Yd(p:zx):Option (Bool):=(bif (decide (0<=p.X))then(bif (decide (p.X<=1048576))then(bif (decide (0<=p.Y))then bc (decide (p.Y<=1048576))else bc bd)else bc bd)else bc bd)
def xj(s:zD):Option (Bool):=bc (decide (s.a.X=s.b.X))
def HA(x_:Int):Option (Bool):=bc (!(decide (x_=x_)))
def j7(x_:Int)(y:Int):Option (Int):=aN (HA x_) λx1=>aN (HA y) λx2=>(bif x1 then(bif x2 then bc 0 else bc (-1))else(bif x2 then bc 1 else(bif (decide (x_<y))then bc (-1)else(bif (decide (x_>y))then bc 1 else bc 0))))
def kT(c0:Int)(c1:List Int)(c2:Int):Nat->(Int)->Option ((Int)⊕(Unit))
 |0,_=>bh
 |K+1,q=>(bif (decide (q<c2))then(idx c1 q).bind λx1=>(bif (!(decide (x1=c0)))then bc (bp x1)else kT c0 c1 c2 K (aS (q+1)))else bc (br ()))
def Om(vals:List Int):Option (Int):=(kT 0 vals (vals.length:Int) KK 0).bind (xo bc λ_=>bc 0)
def HB(a:zx)(b:zx):Option (Int):=aN (j7 a.X b.X) λx1=>aN (j7 a.Y b.Y) λx2=>aN (Om ([x1,x2]:List Int)) λx3=>bc x3
def Jj(s:zD)(t:zD):Option (Bool):=(bif (decide ((max (min s.a.X s.b.X) (min t.a.X t.b.X))<=(min (max s.a.X s.b.X) (max t.a.X t.b.X))))then bc (decide ((max (min s.a.Y s.b.Y) (min t.a.Y t.b.Y))<=(min (max s.a.Y s.b.Y) (max t.a.Y t.b.Y))))else bc bd)
def jM(c0:List zx)(c1:List zD)(c2:Int):Nat->(Int)->Option ((Bool)⊕(Unit))
 |0,_=>bh
 |K+1,q=>(bif (decide (q<c2))then(idx c1 q).bind λx1=>aN (ea ((c1.length:Int)≠0)) λ_=>aN (idx c1 (abR (aS (q+1)) (c1.length:Int))) λx3=>aN (aN (Yd x1.a) λx5=>(bif (!x5)then bc bg else(bif ((decide (x1.a.X=x1.b.X))==(decide (x1.a.Y=x1.b.Y)))then bc bg else(xj x1).bind λx6=>aN (xj x3) λx7=>bc (x6==x7)))) λx4=>(bif x4 then bc (bp bd)else((bif (decide (q>0))then(idx c0 0).bind λx9=>aN (idx c0 q) λgw=>aN (HB x9 gw) λgK=>bc (decide (gK>=0))else bc bd)).bind λx8=>(bif x8 then bc (bp bd)else jM c0 c1 c2 K (aS (q+1))))else bc (br ()))
def jN(c0:List zD)(c1:Int)(c2:Int):Nat->(Int)->Option ((Bool)⊕(Unit))
 |0,_=>bh
 |K+1,q=>(bif (decide (q<(c0.length:Int)))then((bif (decide ((aS ((aS (c1+(c0.length:Int)))-q))>1))then(idx c0 c1).bind λx2=>aN (idx c0 q) λx3=>aN (Jj x2 x3) λx4=>bc x4 else bc bd)).bind λx1=>(bif x1 then bc (bp bd)else jN c0 c1 c2 K (aS (q+1)))else bc (br ()))
def jO(c0:List zD)(c1:Int):Nat->(Int)->Option ((Bool)⊕(Unit))
 |0,_=>bh
 |K+1,q=>(bif (decide (q<c1))then(jN c0 q c1 KK (aS (q+2))).bind (xo (λq=>bc (bp q)) λ_=>jO c0 c1 K (aS (q+1)))else bc (br ()))
def UO(p:List zx):Option (Bool):=aN ((bif (decide ((p.length:Int)<4))then bc bg else bc (decide ((p.length:Int)>60)))) λx1=>(bif x1 then bc bd else(KV p).bind λx2=>(jM p x2 (x2.length:Int) KK 0).bind (xo bc λ_=>(jO x2 (x2.length:Int) KK 0).bind (xo bc λ_=>aN (idx x2 0) λx5=>aN (xj x5) λx6=>bc (!x6))))
def wF(l:List zx):Option (Bool):=aN (UO l) λx1=>bc x1
def HC(b:BB):Option (aj×Int×(List gA)):=aN (yL b.l b.i) λx1=>aN (zn b.l b.i x1 14) λ_=>aN (zA b.l b.i) λx3=>aN (nz b.n3) λx4=>aN (zn b.l b.i (!((xh x3.2.1 x4).getD bd)) 5) λ_=>aN (zA b.l b.i) λx6=>aN (nz [x4]) λx7=>aN (zV b.l b.i) λx8=>bc (x8.1,x8.2,[oV x6.2.1 bg x7])
def JT(b:BB):Option (aj×Int×(List gA)):=aN ((bif (dj b.n3)then bc ([([]:List (aj×Bool))]:List gA)else bc b.n3)) λx1=>aN (HC { b with n3:=x1 }) λx2=>bc (x2.1,x2.2.1,x2.2.2)
def oF(b:BB):Nat->(Int×(List aj))->Option (Int×(List aj))
 |0,_=>bh
 |K+1,q=>aN (yL b.l q.1) λx1=>(bif x1 then(zV b.l q.1).bind λx2=>aN (ea (bf (q.2++([x2.1]:List aj))*16<=140737488355328)) λ_=>oF b K (x2.2,(q.2++([x2.1]:List aj)))else bc (q.1,q.2))
def uC(b:BB):Option ((List aj)×Int):=aN (zV b.l b.i) λx1=>aN (oF { b with i:=0 } KK (x1.2,([x1.1]:List aj))) λx2=>bc (x2.2,x2.1)
def jx(a0:aj):Option ((List aj)):=KN a0
def xv(c0:List aj)(c1:aj)(c2:Int):Nat->(Int)->Option ((Int)⊕(Unit))
 |0,_=>bh
 |K+1,q=>(bif (decide (q<c2))then(idx c0 q).bind λx1=>(bif (decide (c1=x1))then bc (bp q)else xv c0 c1 c2 K (aS (q+1)))else bc (br ()))
def AJ(s:List aj)(v:aj):Option (Int):=(xv s v (s.length:Int) KK 0).bind (xo bc λ_=>bc (-1))
def QV(list:aj)(s:aj):Option (Int):=aN (jx list) λx1=>aN (AJ x1 s) λx2=>bc x2
def xe(b:BB)(list:aj):Option (Int×Int):=aN (zA b.l b.i) λx1=>aN (QV list x1.2.1) λx2=>aN (aN (zA b.l b.i) λx4=>(bif (decide (x4.1=0))then(zn b.l b.i (decide (x2>=0)) 14).bind λ_=>bc ()else(zn b.l b.i bd 14).bind λ_=>bc ())) λ_=>bc (x2,(aS (b.i+1)))
def A2(b:BB):Nat->(Int×Int)->Option ((Int×Int)⊕(Unit))
 |0,_=>bh
 | K+1,q=>aN (zA b.l q.1) λx1=>aN (QV zi x1.2.1) λx2=>aN ((bif (decide (q.2>0))then(bif (decide (x2<0))then bc bg else(zA b.l q.1).bind λx4=>bc (!(decide (x4.1=0))))else bc bd)) λx3=>(bif x3 then bc (bp (q.2,q.1))else((bif (decide (x2<0))then(zn b.l q.1 bg 5).bind λ_=>bc ()else(ea (0<=x2)).bind λ_=>aN (zn b.l q.1 (decide ((IntKind.i64.wrap ((cM IntKind.i64.bits (ik q.2 (2 ^ (min (bQ x2) IntKind.i64.bits))) &&& cM IntKind.i64.bits 1).toNat:Int))=0)) 5) λ_=>bc ())).bind λ_=>aN (xe { b with i:=q.1 } zi) λx9=>aN (ea (0<=x9.1)) λ_=>A2 b K (x9.2,(IntKind.i64.wrap ((cM IntKind.i64.bits q.2 ||| cM IntKind.i64.bits (aS (1*2 ^ (min (bQ x9.1) IntKind.i64.bits)))).toNat:Int))))
def LG(b:BB):Option (Int×Int):=(A2 { b with i:=0 } KK (b.i,0)).bind (xo bc λ_=>bh)
def HD(b:BB):Option (Int×(List zd)×(List gA)):=aN (JT b) λx1=>aN (aN (zL b.l x1.2.1 Z9) λx3=>(bif x3.1 then(uC { b with i:=x3.2,n3:=x1.2.2 }).bind λx4=>bc (x4.2,x4.1)else bc (x3.2,[]))) λx2=>aN (aN (zL b.l x2.1 yx) λx6=>(bif x6.1 then(uC { b with i:=x6.2,n3:=x1.2.2 }).bind λx7=>bc (x7.2,x7.1)else bc (x6.2,[]))) λx5=>aN (aN (zL b.l x5.1 wP) λx9=>(bif x9.1 then(zr b.l x9.2 0 1073741824).bind λgw=>bc (gw.2,gw.1)else bc (x9.2,0))) λx8=>aN (aN (zL b.l x8.1 xi) λiZ=>(bif iZ.1 then(zr b.l iZ.2 (aS (x8.2+1)) 1073741824).bind λkO=>bc (kO.2,kO.1)else bc (iZ.2,0))) λgK=>aN (aN (zL b.l gK.1 xp) λlx=>(bif lx.1 then(zr b.l lx.2 0 1073741824).bind λlY=>bc (lY.2,lY.1)else bc (lx.2,0))) λlP=>aN (zL b.l lP.1 yB) λl9=>aN (z6 b.l l9.2 wQ) λmK=>aN (aN (zL b.l mK jh) λnF=>(bif nF.1 then(zr b.l nF.2 0 3).bind λmY=>aN (z6 b.l mY.2 qD) λmy=>aN (zr b.l my 0 4096) λpM=>aN (z6 b.l pM.2 wB) λmZ=>aN (zr b.l mZ 0 4096) λrZ=>aN (zr b.l rZ.2 1 4096) λmj=>aN (z6 b.l mj.2 z8) λmz=>bc (mz,1,0,0,([]:aj),([]:aj),[],mY.1,pM.1,rZ.1,mj.1,0,0,0)else(zL b.l nF.2 kH).bind λtD=>(bif tD.1 then(LG { b with i:=tD.2,n3:=x1.2.2 }).bind λnx=>aN (z6 b.l nx.2 z8) λrG=>bc (rG,2,0,0,([]:aj),([]:aj),[],0,0,0,0,nx.1,0,0)else(zL b.l tD.2 jg).bind λpN=>(bif pN.1 then(xe { b with i:=pN.2,n3:=x1.2.2 } zi).bind λnG=>aN (xe { b with i:=nG.2,n3:=x1.2.2 } zi) λoB=>aN (zr b.l oB.2 0 1048576) λr7=>aN (z6 b.l r7.2 z8) λsN=>bc (sN,3,0,0,([]:aj),([]:aj),[],0,0,0,0,nG.1,oB.1,r7.1)else(zS KK b.l pN.2 0).bind λnR=>aN (j5 KK (Expr.mk nR.2.1 nR.2.2.1 nR.2.2.2.1 nR.2.2.2.2.1 nR.2.2.2.2.2)) λs9=>aN (jD { b with i:=nR.1,n3:=x1.2.2 } (decide (s9<=12)) 6) λs_=>bc (s_,0,nR.2.1,nR.2.2.1,nR.2.2.2.1,nR.2.2.2.2.1,nR.2.2.2.2.2,0,0,0,0,0,0,0))))) λi_=>aN (ea (bf (b.R++([(zd.mk x1.1 x2.2 x5.2 x8.2 gK.2 lP.2 l9.1 i_.2.1 (Expr.mk i_.2.2.1 i_.2.2.2.1 i_.2.2.2.2.1 i_.2.2.2.2.2.1 i_.2.2.2.2.2.2.1) (zj.mk i_.2.2.2.2.2.2.2.1 i_.2.2.2.2.2.2.2.2.1 i_.2.2.2.2.2.2.2.2.2.1 i_.2.2.2.2.2.2.2.2.2.2.1) i_.2.2.2.2.2.2.2.2.2.2.2.1 i_.2.2.2.2.2.2.2.2.2.2.2.2.1 i_.2.2.2.2.2.2.2.2.2.2.2.2.2)]:List zd))*232<=140737488355328)) λ_=>bc (i_.1,(b.R++([(zd.mk x1.1 x2.2 x5.2 x8.2 gK.2 lP.2 l9.1 i_.2.1 (Expr.mk i_.2.2.1 i_.2.2.2.1 i_.2.2.2.2.1 i_.2.2.2.2.2.1 i_.2.2.2.2.2.2.1) (zj.mk i_.2.2.2.2.2.2.2.1 i_.2.2.2.2.2.2.2.2.1 i_.2.2.2.2.2.2.2.2.2.1 i_.2.2.2.2.2.2.2.2.2.2.1) i_.2.2.2.2.2.2.2.2.2.2.2.1 i_.2.2.2.2.2.2.2.2.2.2.2.2.1 i_.2.2.2.2.2.2.2.2.2.2.2.2.2)]:List zd)),x1.2.2)
def QW(b:BB):Option (aj×Int×(List gA)):=aN (yL b.l b.i) λx1=>aN (zn b.l b.i x1 14) λ_=>aN (zA b.l b.i) λx3=>aN (nz b.n4) λx4=>aN (zn b.l b.i (!((xh x3.2.1 x4).getD bd)) 5) λ_=>aN (zA b.l b.i) λx6=>aN (nz [x4]) λx7=>aN (zV b.l b.i) λx8=>bc (x8.1,x8.2,[oV x6.2.1 bg x7])
def JU(b:BB):Option (aj×Int×(List gA)):=aN ((bif (dj b.n4)then bc ([([]:List (aj×Bool))]:List gA)else bc b.n4)) λx1=>aN (QW { b with n4:=x1 }) λx2=>bc (x2.1,x2.2.1,x2.2.2)
def zb(b:BB)(q:Int×Int×Bool×(List Def)×(List zM)×(List zd)×(List bD)×(List gA)×(List gA)×(List gA)×(List gA)):BB:={ b with i:=q.1,H:=q.2.1,h:=q.2.2.1,D:=q.2.2.2.1,Z:=q.2.2.2.2.1,R:=q.2.2.2.2.2.1,C:=q.2.2.2.2.2.2.1,n0:=q.2.2.2.2.2.2.2.1,n2:=q.2.2.2.2.2.2.2.2.1,n3:=q.2.2.2.2.2.2.2.2.2.1,n4:=q.2.2.2.2.2.2.2.2.2.2 }
def yo(b:BB):Nat->(Int×Int×Bool×(List Def)×(List zM)×(List zd)×(List bD)×(List gA)×(List gA)×(List gA)×(List gA))->Option (Int×Int×Bool×(List Def)×(List zM)×(List zd)×(List bD)×(List gA)×(List gA)×(List gA)×(List gA))
 |0,_=>bh
 |K+1,q=>aN (zA b.l ((zb b q).i)) λx1=>(bif (!(decide (x1.1=3)))then(zA b.l ((zb b q).i)).bind λx2=>(bif (decide (x2.2.1=zO))then(yH { (zb b q)with l:=b.l,T:=b.T,V:=b.V,S:=b.S,n1:=b.n1,n5:=b.n5 } (((bf ((zb b q).D)):Nat):Int) 60).bind λx3=>aN (A1 { (zb b q)with l:=b.l,i:=x3,T:=b.T,V:=b.V,S:=b.S,n1:=b.n1,n5:=b.n5 }) λx4=>yo b K (x4.1,(zb b q).H,(zb b q).h,x4.2.1,(zb b q).Z,(zb b q).R,(zb b q).C,x4.2.2,(zb b q).n2,(zb b q).n3,(zb b q).n4)else(bif (decide (x2.2.1=yG))then(yH { (zb b q)with l:=b.l,T:=b.T,V:=b.V,S:=b.S,n1:=b.n1,n5:=b.n5 } (((bf b.T):Nat):Int) 60).bind λ_=>bh else(bif (decide (x2.2.1=zR))then(bif (decide (x2.2.1=zR))then(Ad b.l ((zb b q).i) zu).bind λx6=>aN (yH { (zb b q)with l:=b.l,T:=b.T,V:=b.V,S:=b.S,n1:=b.n1,n5:=b.n5 } (((bf ((zb b q).Z)):Nat):Int) 60) λx7=>aN (oE { (zb b q)with l:=b.l,i:=x7,T:=b.T,V:=b.V,S:=b.S,n1:=b.n1,n5:=b.n5 }) λx8=>aN (wb { (zb b q)with l:=b.l,i:=x8.2.1,T:=b.T,V:=b.V,S:=b.S,n1:=b.n1,n2:=x8.2.2,n5:=b.n5 }) λx9=>aN (wF x9.1) λgw=>aN (jD { (zb b q)with l:=b.l,i:=x9.2,T:=b.T,V:=b.V,S:=b.S,n1:=b.n1,n2:=x8.2.2,n5:=b.n5 } gw 10) λgK=>aN (ea (bf ((zb b q).Z++([(zM.mk x8.1 x6 x9.1)]:List zM))*48<=140737488355328)) λ_=>yo b K (gK,(zb b q).H,(zb b q).h,(zb b q).D,((zb b q).Z++([(zM.mk x8.1 x6 x9.1)]:List zM)),(zb b q).R,(zb b q).C,(zb b q).n0,x8.2.2,(zb b q).n3,(zb b q).n4)else(bif (decide (x2.2.1=yn))then(yH { (zb b q)with l:=b.l,T:=b.T,V:=b.V,S:=b.S,n1:=b.n1,n5:=b.n5 } (((bf ((zb b q).R)):Nat):Int) 200).bind λkO=>aN (HD { (zb b q)with l:=b.l,i:=kO,T:=b.T,V:=b.V,S:=b.S,n1:=b.n1,n5:=b.n5 }) λlP=>yo b K (lP.1,(zb b q).H,(zb b q).h,(zb b q).D,(zb b q).Z,lP.2.1,(zb b q).C,(zb b q).n0,(zb b q).n2,lP.2.2,(zb b q).n4)else(bif (decide (x2.2.1=Br))then(yH { (zb b q)with l:=b.l,T:=b.T,V:=b.V,S:=b.S,n1:=b.n1,n5:=b.n5 } (((bf ((zb b q).C)):Nat):Int) 30).bind λlx=>aN (JU { (zb b q)with l:=b.l,i:=lx,T:=b.T,V:=b.V,S:=b.S,n1:=b.n1,n5:=b.n5 }) λlY=>aN (xe { (zb b q)with l:=b.l,i:=lY.2.1,T:=b.T,V:=b.V,S:=b.S,n1:=b.n1,n4:=lY.2.2,n5:=b.n5 } zQ) λl9=>aN (zr b.l l9.2 0 1099511627776) λmK=>aN (wb { (zb b q)with l:=b.l,i:=mK.2,T:=b.T,V:=b.V,S:=b.S,n1:=b.n1,n4:=lY.2.2,n5:=b.n5 }) λi_=>aN (wF i_.1) λnF=>aN (jD { (zb b q)with l:=b.l,i:=i_.2,T:=b.T,V:=b.V,S:=b.S,n1:=b.n1,n4:=lY.2.2,n5:=b.n5 } nF 10) λmY=>aN (ea (bf ((zb b q).C++([(bD.mk lY.1 l9.1 mK.1 i_.1)]:List bD))*56<=140737488355328)) λ_=>yo b K (mY,(zb b q).H,(zb b q).h,(zb b q).D,(zb b q).Z,(zb b q).R,((zb b q).C++([(bD.mk lY.1 l9.1 mK.1 i_.1)]:List bD)),(zb b q).n0,(zb b q).n2,(zb b q).n3,lY.2.2)else(bif (decide (x2.2.1=Qt))then(yH { (zb b q)with l:=b.l,T:=b.T,V:=b.V,S:=b.S,n1:=b.n1,n5:=b.n5 } (((bf b.V):Nat):Int) 60).bind λ_=>bh else(bif (decide (x2.2.1=QR))then(zn b.l ((zb b q).i) (decide (((bf b.S):Nat)=0)) 5).bind λ_=>bh else(bif (decide (x2.2.1=AG))then(zn b.l ((zb b q).i) (!(zb b q).h) 5).bind λ_=>aN (zr b.l (aS ((zb b q).i+1)) 0 24) λmj=>aN (z6 b.l mj.2 z8) λmz=>yo b K (mz,mj.1,bg,(zb b q).D,(zb b q).Z,(zb b q).R,(zb b q).C,(zb b q).n0,(zb b q).n2,(zb b q).n3,(zb b q).n4)else bh))))))else(bif (decide (x2.2.1=zu))then(Ad b.l ((zb b q).i) zu).bind λtD=>aN (yH { (zb b q)with l:=b.l,T:=b.T,V:=b.V,S:=b.S,n1:=b.n1,n5:=b.n5 } (((bf ((zb b q).Z)):Nat):Int) 60) λnx=>aN (oE { (zb b q)with l:=b.l,i:=nx,T:=b.T,V:=b.V,S:=b.S,n1:=b.n1,n5:=b.n5 }) λrG=>aN (wb { (zb b q)with l:=b.l,i:=rG.2.1,T:=b.T,V:=b.V,S:=b.S,n1:=b.n1,n2:=rG.2.2,n5:=b.n5 }) λpN=>aN (wF pN.1) λnG=>aN (jD { (zb b q)with l:=b.l,i:=pN.2,T:=b.T,V:=b.V,S:=b.S,n1:=b.n1,n2:=rG.2.2,n5:=b.n5 } nG 10) λoB=>aN (ea (bf ((zb b q).Z++([(zM.mk rG.1 tD pN.1)]:List zM))*48<=140737488355328)) λ_=>yo b K (oB,(zb b q).H,(zb b q).h,(zb b q).D,((zb b q).Z++([(zM.mk rG.1 tD pN.1)]:List zM)),(zb b q).R,(zb b q).C,(zb b q).n0,rG.2.2,(zb b q).n3,(zb b q).n4)else(bif (decide (x2.2.1=yn))then(yH { (zb b q)with l:=b.l,T:=b.T,V:=b.V,S:=b.S,n1:=b.n1,n5:=b.n5 } (((bf ((zb b q).R)):Nat):Int) 200).bind λsN=>aN (HD { (zb b q)with l:=b.l,i:=sN,T:=b.T,V:=b.V,S:=b.S,n1:=b.n1,n5:=b.n5 }) λnR=>yo b K (nR.1,(zb b q).H,(zb b q).h,(zb b q).D,(zb b q).Z,nR.2.1,(zb b q).C,(zb b q).n0,(zb b q).n2,nR.2.2,(zb b q).n4)else(bif (decide (x2.2.1=Br))then(yH { (zb b q)with l:=b.l,T:=b.T,V:=b.V,S:=b.S,n1:=b.n1,n5:=b.n5 } (((bf ((zb b q).C)):Nat):Int) 30).bind λs9=>aN (JU { (zb b q)with l:=b.l,i:=s9,T:=b.T,V:=b.V,S:=b.S,n1:=b.n1,n5:=b.n5 }) λs_=>aN (xe { (zb b q)with l:=b.l,i:=s_.2.1,T:=b.T,V:=b.V,S:=b.S,n1:=b.n1,n4:=s_.2.2,n5:=b.n5 } zQ) λEj=>aN (zr b.l Ej.2 0 1099511627776) λEk=>aN (wb { (zb b q)with l:=b.l,i:=Ek.2,T:=b.T,V:=b.V,S:=b.S,n1:=b.n1,n4:=s_.2.2,n5:=b.n5 }) λC4=>aN (wF C4.1) λC5=>aN (jD { (zb b q)with l:=b.l,i:=C4.2,T:=b.T,V:=b.V,S:=b.S,n1:=b.n1,n4:=s_.2.2,n5:=b.n5 } C5 10) λIS=>aN (ea (bf ((zb b q).C++([(bD.mk s_.1 Ej.1 Ek.1 C4.1)]:List bD))*56<=140737488355328)) λ_=>yo b K (IS,(zb b q).H,(zb b q).h,(zb b q).D,(zb b q).Z,(zb b q).R,((zb b q).C++([(bD.mk s_.1 Ej.1 Ek.1 C4.1)]:List bD)),(zb b q).n0,(zb b q).n2,(zb b q).n3,s_.2.2)else(bif (decide (x2.2.1=Qt))then(yH { (zb b q)with l:=b.l,T:=b.T,V:=b.V,S:=b.S,n1:=b.n1,n5:=b.n5 } (((bf b.V):Nat):Int) 60).bind λ_=>bh else(bif (decide (x2.2.1=QR))then(zn b.l ((zb b q).i) (decide (((bf b.S):Nat)=0)) 5).bind λ_=>bh else(bif (decide (x2.2.1=AG))then(zn b.l ((zb b q).i) (!(zb b q).h) 5).bind λ_=>aN (zr b.l (aS ((zb b q).i+1)) 0 24) λC6=>aN (z6 b.l C6.2 z8) λBg=>yo b K (Bg,C6.1,bg,(zb b q).D,(zb b q).Z,(zb b q).R,(zb b q).C,(zb b q).n0,(zb b q).n2,(zb b q).n3,(zb b q).n4)else bh)))))))))else bc ((zb b q).i,(zb b q).H,(zb b q).h,(zb b q).D,(zb b q).Z,(zb b q).R,(zb b q).C,(zb b q).n0,(zb b q).n2,(zb b q).n3,(zb b q).n4))
def W1(b:BB):Option (Int×Int×Bool×(List Def)×(List zM)×(List zd)×(List bD)×(List gA)×(List gA)×(List gA)×(List gA)):=aN (yo { b with i:=0,D:=[],Z:=[],R:=[],C:=[],H:=0,n0:=[],n2:=[],n3:=[],n4:=[],h:=bd } KK (b.i,b.H,b.h,b.D,b.Z,b.R,b.C,b.n0,b.n2,b.n3,b.n4)) λx1=>bc (x1.1,x1.2.1,x1.2.2.1,x1.2.2.2.1,x1.2.2.2.2.1,x1.2.2.2.2.2.1,x1.2.2.2.2.2.2.1,x1.2.2.2.2.2.2.2.1,x1.2.2.2.2.2.2.2.2.1,x1.2.2.2.2.2.2.2.2.2.1,x1.2.2.2.2.2.2.2.2.2.2)
def Ae(bl:List ar)(bi:Int)(err:Int):Option (Int×Int):=aN (zA bl bi) λx1=>bc (x1.2.2.2,err)
def zI(bl:List ar)(bi:Int)(CX:Bool)(err:Int):Option (Int×Int):=(bif (!CX)then(er (Ae bl bi err) (λx1=>bc x1) bh)else bh)
def vI(b:BB)(P4:Int)(lV:Int):Option (Int×Int):=(er (zI b.l b.i (decide (P4<lV)) 6) (λx1=>bc x1) (aN (zn b.l b.i (decide (P4<lV)) 6) λ_=>bh))
def xD(bl:List ar)(bi:Int):Option (Int×Int):=aN (yL bl bi) λx1=>(er (zI bl bi x1 14) (λx2=>bc x2) (aN (zn bl bi x1 14) λ_=>aN (idx bl (aS ((aS (bi+1))-1))) λ_=>bh))
def UP(b:BB):Option (Int×Int):=aN (yL b.l b.i) λx1=>(er (zI b.l b.i x1 14) (λx2=>bc x2) (aN (zn b.l b.i x1 14) λ_=>aN (zA b.l b.i) λx4=>aN (nz b.n0) λx5=>(er (zI b.l b.i (!((xh x4.2.1 x5).getD bd)) 5) (λx6=>bc x6) (aN (zn b.l b.i (!((xh x4.2.1 x5).getD bd)) 5) λ_=>aN (zA b.l b.i) λ_=>aN (nz [x5]) λ_=>(er (xD b.l b.i) (λgw=>bc gw) (aN (zV b.l b.i) λ_=>bh))))))
def O8(b:BB):Option (Int×Int):=aN ((bif (dj b.n0)then bc ([([]:List (aj×Bool))]:List gA)else bc b.n0)) λx1=>(er (UP { b with n0:=x1 }) (λx2=>bc x2) (aN (VT { b with n0:=x1 }) λ_=>bh))
def xI(bl:List ar)(bi:Int)(s:aj):Option (Int×Int):=aN (zL bl bi s) λx1=>(er (zI bl x1.2 x1.1 14) (λx2=>bc x2) (aN (zn bl x1.2 x1.1 14) λ_=>bh))
def zU(bl:List ar)(bi:Int)(from_:Int)(FU:Int):Option (Int×Int):=aN (yM bl bi) λx1=>(er (zI bl bi x1 14) (λx2=>bc x2) (aN (zn bl bi x1 14) λ_=>aN (zA bl bi) λx4=>((bif (decide (x4.2.2.1>=from_))then(er (zI bl bi (decide (x4.2.2.1<=FU)) 3) (λx6=>bc (bp x6)) (aN (zn bl bi (decide (x4.2.2.1<=FU)) 3) λ_=>bc (br ())))else(er (zI bl bi bd 3) (λx8=>bc (bp x8)) (aN (zn bl bi bd 3) λ_=>bc (br ()))))).bind (xo bc λ_=>bh)))
def kU(c0:List ar)(c1:Int)(c17:Int)(c18:Int)(c19:List zf)(c20:Int)(po:Int)(DO:aj)(DP:List Expr)(DQ:Int)(DR:Int)(DS:aj)(DT:aj)(DU:List Expr):Nat->(Int×aj×Int×Int)->Option (aj×Int×Int)
 |0,_=>bh
 |K+1,q=>(bif (decide (q.1<c20))then(aN (idx c19 q.1) λx2=>aN (Ad c0 c1 x2.text) λx3=>(bif x3 then bc (x2.text,x2.op,x2.form)else bc (q.2.1,q.2.2.1,q.2.2.2))).bind λx1=>kU c0 c1 c17 c18 c19 c20 po DO DP DQ DR DS DT DU K ((aS (q.1+1)),x1.1,x1.2.1,x1.2.2)else bc (q.2.1,q.2.2.1,q.2.2.2))
def oG(ad3:(List ar)->Int->Int->Option (Int×Int))(c0:List ar)(c16:Int)(c17:Int)(c18:aj)(c19:List Expr):Nat->(Int×Int×Int×Int×aj×aj×(List Expr))->Option ((Int×Int)⊕(Unit))
 |0,_=>bh
 |K+1,q=>aN jC λx1=>aN (kU c0 q.1 c16 q.2.1 x1 (x1.length:Int) c17 c18 c19 q.2.2.1 q.2.2.2.1 q.2.2.2.2.1 q.2.2.2.2.2.1 q.2.2.2.2.2.2 KK (0,([]:aj),0,0)) λx2=>aN ((bif (decide (x2.1=([]:aj)))then bc bg else(bif (decide (x2.2.2<c16))then bc bg else(bif (decide (q.2.1<x2.2.2))then bc bg else(bif (decide (q.2.1=4))then bc (decide (x2.2.2=4))else bc bd))))) λx3=>(bif x3 then bh else(er (ad3 c0 (aS (q.1+1)) (aS (x2.2.2+1))) (λx4=>bc (bp x4)) (aN (zS KK c0 (aS (q.1+1)) (aS (x2.2.2+1))) λx5=>oG ad3 c0 c16 c17 c18 c19 K (x5.1,x2.2.2,x2.2.1,0,([]:aj),([]:aj),([(Expr.mk q.2.2.1 q.2.2.2.1 q.2.2.2.2.1 q.2.2.2.2.2.1 q.2.2.2.2.2.2),(Expr.mk x5.2.1 x5.2.2.1 x5.2.2.2.1 x5.2.2.2.2.1 x5.2.2.2.2.2)]:List Expr)))))
mutual
def KW:Nat->(List ar)->Int->Int->Option (Int×Int)
 |0,_,_,_=>bh
 |RK+1,bl,bi,form=>aN ((bif (decide (form<=0))then(zL bl bi Vk).bind λx2=>bc (x2.2,x2.1)else bc (bi,bd))) λx1=>(bif x1.2 then(er (yQ RK bl x1.1 0) (λx3=>bc x3) (aN (zS KK bl x1.1 0) λx4=>(er (xI bl x4.1 uc) (λx5=>bc x5) (aN (z6 bl x4.1 uc) λx6=>(er (yQ RK bl x6 0) (λx7=>bc x7) (aN (zS KK bl x6 0) λx8=>(er (xI bl x8.1 je) (λx9=>bc x9) (aN (z6 bl x8.1 je) λgw=>(er (yQ RK bl gw 0) (λgK=>bc gK) (aN (zS KK bl gw 0) λ_=>bh))))))))))else((bif (decide (form<=3))then(zL bl x1.1 qE).bind λlP=>bc (lP.2,lP.1)else bc (x1.1,bd))).bind λkO=>(bif kO.2 then(er (yQ RK bl kO.1 3) (λlx=>bc lx) (aN (zS KK bl kO.1 3) λ_=>bh))else((bif (decide (form<=7))then(zL bl kO.1 yX).bind λmK=>bc (mK.2,mK.1)else bc (kO.1,bd))).bind λl9=>(bif l9.2 then(er (yQ RK bl l9.1 7) (λi_=>bc i_) (aN (zS KK bl l9.1 7) λ_=>bh))else(yM bl l9.1).bind λmY=>(bif mY then(er (zU bl l9.1 0 1099511627776) (λmy=>bc my) (aN (zr bl l9.1 0 1099511627776) λ_=>bh))else(zL bl l9.1 yG).bind λmZ=>(bif mZ.1 then(er (xD bl mZ.2) (λrZ=>bc rZ) (aN (zV bl mZ.2) λmj=>(er (xD bl mj.2) (λmz=>bc mz) (aN (zV bl mj.2) λ_=>bh))))else(zL bl mZ.2 zR).bind λnx=>(bif nx.1 then(er (xD bl nx.2) (λrG=>bc rG) (aN (zV bl nx.2) λ_=>bh))else(zL bl nx.2 AI).bind λnG=>(bif nG.1 then(er (yQ RK bl nG.2 0) (λoB=>bc oB) (aN (zS KK bl nG.2 0) λr7=>(er (xI bl r7.1 qO) (λsN=>bc sN) (aN (z6 bl r7.1 qO) λ_=>bh))))else(er (xD bl nG.2) (λs9=>bc s9) (aN (zV bl nG.2) λ_=>bh)))))))))
def yQ:Nat->(List ar)->Int->Int->Option (Int×Int)
 |0,_,_,_=>bh
 |RK+1,bl,bi,form=>(er (KW RK bl bi form) (λx1=>bc x1) (aN (uV KK bl bi form) λx2=>(oG (yQ RK) bl form 0 ([]:aj) [] KK (x2.2.1,x2.1,x2.2.2.1,x2.2.2.2.1,x2.2.2.2.2.1,x2.2.2.2.2.2.1,x2.2.2.2.2.2.2)).bind (xo bc λ_=>bh)))
end
def HE(b:BB)(CX:Bool)(err:Int):Option (Int×Int):=aN (Ad b.l b.i z8) λx1=>(er (zI b.l b.i x1 14) (λx2=>bc x2) (aN (zn b.l b.i x1 14) λ_=>(er (zI b.l b.i CX err) (λx4=>bc x4) (aN (zn b.l b.i CX err) λ_=>bh))))
def KX(b:BB):Option (Int×Int):=(er (O8 b) (λx1=>bc x1) (aN (LF b) λx2=>(er (xI b.l x2.2.1 uy) (λx3=>bc x3) (aN (z6 b.l x2.2.1 uy) λx4=>(er (yQ KK b.l x4 0) (λx5=>bc x5) (aN (zS KK b.l x4 0) λx6=>aN (j5 KK (Expr.mk x6.2.1 x6.2.2.1 x6.2.2.2.1 x6.2.2.2.2.1 x6.2.2.2.2.2)) λx7=>(er (HE { b with i:=x6.1,n0:=x2.2.2 } (decide (x7<=12)) 6) (λx8=>bc x8) (aN (jD { b with i:=x6.1,n0:=x2.2.2 } (decide (x7<=12)) 6) λ_=>aN (ea (bf (b.D++([(Def.mk x2.1 (Expr.mk x6.2.1 x6.2.2.1 x6.2.2.2.1 x6.2.2.2.2.1 x6.2.2.2.2.2))]:List Def))*88<=140737488355328)) λ_=>bh))))))))
def QX(b:BB):Option (Int×Int):=aN (yL b.l b.i) λx1=>(er (zI b.l b.i x1 14) (λx2=>bc x2) (aN (zn b.l b.i x1 14) λ_=>aN (zA b.l b.i) λx4=>aN (nz b.n2) λx5=>(er (zI b.l b.i (!((xh x4.2.1 x5).getD bd)) 5) (λx6=>bc x6) (aN (zn b.l b.i (!((xh x4.2.1 x5).getD bd)) 5) λ_=>aN (zA b.l b.i) λ_=>aN (nz [x5]) λ_=>(er (xD b.l b.i) (λgw=>bc gw) (aN (zV b.l b.i) λ_=>bh))))))
def JV(b:BB):Option (Int×Int):=aN ((bif (dj b.n2)then bc ([([]:List (aj×Bool))]:List gA)else bc b.n2)) λx1=>(er (QX { b with n2:=x1 }) (λx2=>bc x2) (aN (Hz { b with n2:=x1 }) λ_=>bh))
def j8(b:BB):Nat->(Int×(List zx))->Option ((Int×Int)⊕(Unit))
 |0,_=>bh
 |K+1,q=>(er (zU b.l q.1 0 1048576) (λx1=>bc (bp x1)) (aN (zr b.l q.1 0 1048576) λx2=>(er (zU b.l x2.2 0 1048576) (λx3=>bc (bp x3)) (aN (zr b.l x2.2 0 1048576) λx4=>aN (ea (bf (q.2++([(zx.mk x2.1 x4.1)]:List zx))*16<=140737488355328)) λ_=>aN (yM b.l x4.2) λx6=>(bif (!x6)then bh else j8 b K (x4.2,(q.2++([(zx.mk x2.1 x4.1)]:List zx))))))))
def kV(b:BB):Option (Int×Int):=(j8 { b with i:=0 } KK (b.i,[])).bind (xo bc λ_=>bh)
def QY(b:BB):Option (Int×Int):=aN (yL b.l b.i) λx1=>(er (zI b.l b.i x1 14) (λx2=>bc x2) (aN (zn b.l b.i x1 14) λ_=>aN (zA b.l b.i) λx4=>aN (nz b.n3) λx5=>(er (zI b.l b.i (!((xh x4.2.1 x5).getD bd)) 5) (λx6=>bc x6) (aN (zn b.l b.i (!((xh x4.2.1 x5).getD bd)) 5) λ_=>aN (zA b.l b.i) λ_=>aN (nz [x5]) λ_=>(er (xD b.l b.i) (λgw=>bc gw) (aN (zV b.l b.i) λ_=>bh))))))
def VU(b:BB):Option (Int×Int):=aN ((bif (dj b.n3)then bc ([([]:List (aj×Bool))]:List gA)else bc b.n3)) λx1=>(er (QY { b with n3:=x1 }) (λx2=>bc x2) (aN (HC { b with n3:=x1 }) λ_=>bh))
def oH(b:BB):Nat->(Int×(List aj))->Option ((Int×Int)⊕(Int×(List aj)))
 |0,_=>bh
 |K+1,q=>aN (yL b.l q.1) λx1=>(bif x1 then(er (xD b.l q.1) (λx2=>bc (bp x2)) (aN (zV b.l q.1) λx3=>aN (ea (bf (q.2++([x3.1]:List aj))*16<=140737488355328)) λ_=>oH b K (x3.2,(q.2++([x3.1]:List aj)))))else bc (br (q.1,q.2)))
def HG(b:BB):Option (Int×Int):=(er (xD b.l b.i) (λx1=>bc x1) (aN (zV b.l b.i) λx2=>(oH { b with i:=0 } KK (x2.2,([x2.1]:List aj))).bind (xo bc λx3=>bh)))
def vJ(b:BB)(list:aj):Option (Int×Int):=aN (zA b.l b.i) λx1=>aN (QV list x1.2.1) λx2=>(aN (zA b.l b.i) λx4=>(bif (decide (x4.1=0))then(er (zI b.l b.i (decide (x2>=0)) 14) (λx5=>bc (bp x5)) (aN (zn b.l b.i (decide (x2>=0)) 14) λ_=>bc (br ())))else(er (zI b.l b.i bd 14) (λx7=>bc (bp x7)) (aN (zn b.l b.i bd 14) λ_=>bc (br ()))))).bind (xo bc λ_=>bh)
def A3(b:BB):Nat->(Int×Int)->Option ((Int×Int)⊕(Unit))
 |0,_=>bh
 | K+1,q=>aN (zA b.l q.1) λx1=>aN (QV zi x1.2.1) λx2=>aN ((bif (decide (q.2>0))then(bif (decide (x2<0))then bc bg else(zA b.l q.1).bind λx4=>bc (!(decide (x4.1=0))))else bc bd)) λx3=>(bif x3 then bh else((bif (decide (x2<0))then(er (zI b.l q.1 bg 5) (λx6=>bc (bp x6)) (aN (zn b.l q.1 bg 5) λ_=>bc (br ())))else(ea (0<=x2)).bind λ_=>(er (zI b.l q.1 (decide ((IntKind.i64.wrap ((cM IntKind.i64.bits (ik q.2 (2 ^ (min (bQ x2) IntKind.i64.bits))) &&& cM IntKind.i64.bits 1).toNat:Int))=0)) 5) (λx9=>bc (bp x9)) (aN (zn b.l q.1 (decide ((IntKind.i64.wrap ((cM IntKind.i64.bits (ik q.2 (2 ^ (min (bQ x2) IntKind.i64.bits))) &&& cM IntKind.i64.bits 1).toNat:Int))=0)) 5) λ_=>bc (br ()))))).bind (xo (λq=>bc (bp q)) λ_=>(er (vJ { b with i:=q.1 } zi) (λgK=>bc (bp gK)) (aN (xe { b with i:=q.1 } zi) λiZ=>aN (ea (0<=iZ.1)) λ_=>A3 b K (iZ.2,(IntKind.i64.wrap ((cM IntKind.i64.bits q.2 ||| cM IntKind.i64.bits (aS (1*2 ^ (min (bQ iZ.1) IntKind.i64.bits)))).toNat:Int)))))))
def O9(b:BB):Option (Int×Int):=(A3 { b with i:=0 } KK (b.i,0)).bind (xo bc λ_=>bh)
def VV(b:BB):Option (Int×Int):=
 (er (VU b) (λx1=>bc x1) (aN (JT b) λx2=>(aN (zL b.l x2.2.1 Z9) λx4=>(bif x4.1 then(er (HG { b with i:=x4.2,n3:=x2.2.2 }) (λx5=>bc (bp x5)) (aN (uC { b with i:=x4.2,n3:=x2.2.2 }) λx6=>bc (br (x6.2,x6.1))))else bc (br (x4.2,[])))).bind (xo bc λx3=>(aN (zL b.l x3.1 yx) λx8=>(bif x8.1 then(er (HG { b with i:=x8.2,n3:=x2.2.2 }) (λx9=>bc (bp x9)) (aN (uC { b with i:=x8.2,n3:=x2.2.2 }) λgw=>bc (br (gw.2,gw.1))))else bc (br (x8.2,[])))).bind (xo bc λx7=>(aN (zL b.l x7.1 wP) λiZ=>(bif iZ.1 then(er (zU b.l iZ.2 0 1073741824) (λkO=>bc (bp kO)) (aN (zr b.l iZ.2 0 1073741824) λlP=>bc (br (lP.2,lP.1))))else bc (br (iZ.2,0)))).bind (xo bc λgK=>(aN (zL b.l gK.1 xi) λlY=>(bif lY.1 then(er (zU b.l lY.2 (aS (gK.2+1)) 1073741824) (λl9=>bc (bp l9)) (aN (zr b.l lY.2 (aS (gK.2+1)) 1073741824) λmK=>bc (br (mK.2,mK.1))))else bc (br (lY.2,0)))).bind (xo bc λlx=>(aN (zL b.l lx.1 xp) λnF=>(bif nF.1 then(er (zU b.l nF.2 0 1073741824) (λmY=>bc (bp mY)) (aN (zr b.l nF.2 0 1073741824) λmy=>bc (br (my.2,my.1))))else bc (br (nF.2,0)))).bind (xo bc λi_=>aN (zL b.l i_.1 yB) λpM=>(er (xI b.l pM.2 wQ) (λmZ=>bc mZ) (aN (z6 b.l pM.2 wQ) λrZ=>(aN (zL b.l rZ jh) λmz=>(bif mz.1 then(er (zU b.l mz.2 0 3) (λtD=>bc (bp tD)) (aN (zr b.l mz.2 0 3) λnx=>(er (xI b.l nx.2 qD) (λrG=>bc (bp rG)) (aN (z6 b.l nx.2 qD) λpN=>(er (zU b.l pN 0 4096) (λnG=>bc (bp nG)) (aN (zr b.l pN 0 4096) λoB=>(er (xI b.l oB.2 wB) (λr7=>bc (bp r7)) (aN (z6 b.l oB.2 wB) λsN=>(er (zU b.l sN 0 4096) (λnR=>bc (bp nR)) (aN (zr b.l sN 0 4096) λs9=>(er (zU b.l s9.2 1 4096) (λs_=>bc (bp s_)) (aN (zr b.l s9.2 1 4096) λEj=>(er (xI b.l Ej.2 z8) (λEk=>bc (bp Ek)) (aN (z6 b.l Ej.2 z8) λC4=>bc (br (C4,1,0,0,([]:aj),([]:aj),[],nx.1,oB.1,s9.1,Ej.1,0,0,0))))))))))))))))else(zL b.l mz.2 kH).bind λC5=>(bif C5.1 then(er (O9 { b with i:=C5.2,n3:=x2.2.2 }) (λIS=>bc (bp IS)) (aN (LG { b with i:=C5.2,n3:=x2.2.2 }) λEl=>(er (xI b.l El.2 z8) (λEm=>bc (bp Em)) (aN (z6 b.l El.2 z8) λIT=>bc (br (IT,2,0,0,([]:aj),([]:aj),[],0,0,0,0,El.1,0,0))))))else(zL b.l C5.2 jg).bind λCb=>(bif Cb.1 then(er (vJ { b with i:=Cb.2,n3:=x2.2.2 } zi) (λC6=>bc (bp C6)) (aN (xe { b with i:=Cb.2,n3:=x2.2.2 } zi) λBg=>(er (vJ { b with i:=Bg.2,n3:=x2.2.2 } zi) (λIU=>bc (bp IU)) (aN (xe { b with i:=Bg.2,n3:=x2.2.2 } zi) λC7=>(er (zU b.l C7.2 0 1048576) (λIV=>bc (bp IV)) (aN (zr b.l C7.2 0 1048576) λr9=>(er (xI b.l r9.2 z8) (λSY=>bc (bp SY)) (aN (z6 b.l r9.2 z8) λEn=>bc (br (En,3,0,0,([]:aj),([]:aj),[],0,0,0,0,Bg.1,C7.1,r9.1))))))))))else(er (yQ KK b.l Cb.2 0) (λFV=>bc (bp FV)) (aN (zS KK b.l Cb.2 0) λrH=>aN (j5 KK (Expr.mk rH.2.1 rH.2.2.1 rH.2.2.2.1 rH.2.2.2.2.1 rH.2.2.2.2.2)) λFW=>(er (HE { b with i:=rH.1,n3:=x2.2.2 } (decide (FW<=12)) 6) (λag'=>bc (bp ag')) (aN (jD { b with i:=rH.1,n3:=x2.2.2 } (decide (FW<=12)) 6) λSZ=>bc (br (SZ,0,rH.2.1,rH.2.2.1,rH.2.2.2.1,rH.2.2.2.2.1,rH.2.2.2.2.2,0,0,0,0,0,0,0)))))))))).bind (xo bc λmj=>aN (ea (bf (b.R++([(zd.mk x2.1 x3.2 x7.2 gK.2 lx.2 i_.2 pM.1 mj.2.1 (Expr.mk mj.2.2.1 mj.2.2.2.1 mj.2.2.2.2.1 mj.2.2.2.2.2.1 mj.2.2.2.2.2.2.1) (zj.mk mj.2.2.2.2.2.2.2.1 mj.2.2.2.2.2.2.2.2.1 mj.2.2.2.2.2.2.2.2.2.1 mj.2.2.2.2.2.2.2.2.2.2.1) mj.2.2.2.2.2.2.2.2.2.2.2.1 mj.2.2.2.2.2.2.2.2.2.2.2.2.1 mj.2.2.2.2.2.2.2.2.2.2.2.2.2)]:List zd))*232<=140737488355328)) λ_=>bh))))))))))
def zce(b:BB):Option (Int×Int):=aN (yL b.l b.i) λx1=>(er (zI b.l b.i x1 14) (λx2=>bc x2) (aN (zn b.l b.i x1 14) λ_=>aN (zA b.l b.i) λx4=>aN (nz b.n4) λx5=>(er (zI b.l b.i (!((xh x4.2.1 x5).getD bd)) 5) (λx6=>bc x6) (aN (zn b.l b.i (!((xh x4.2.1 x5).getD bd)) 5) λ_=>aN (zA b.l b.i) λ_=>aN (nz [x5]) λ_=>(er (xD b.l b.i) (λgw=>bc gw) (aN (zV b.l b.i) λ_=>bh))))))
def UQ(b:BB):Option (Int×Int):=aN ((bif (dj b.n4)then bc ([([]:List (aj×Bool))]:List gA)else bc b.n4)) λx1=>(er (zce { b with n4:=x1 }) (λx2=>bc x2) (aN (QW { b with n4:=x1 }) λ_=>bh))
def za(b:BB)(q:Int×Int×Bool×(List Def)×(List zM)×(List zd)×(List bD)×(List gA)×(List gA)×(List gA)×(List gA)):BB:={ b with i:=q.1,H:=q.2.1,h:=q.2.2.1,D:=q.2.2.2.1,Z:=q.2.2.2.2.1,R:=q.2.2.2.2.2.1,C:=q.2.2.2.2.2.2.1,n0:=q.2.2.2.2.2.2.2.1,n2:=q.2.2.2.2.2.2.2.2.1,n3:=q.2.2.2.2.2.2.2.2.2.1,n4:=q.2.2.2.2.2.2.2.2.2.2 }
def yp(b:BB):Nat->(Int×Int×Bool×(List Def)×(List zM)×(List zd)×(List bD)×(List gA)×(List gA)×(List gA)×(List gA))->Option ((Int×Int)⊕(Int×Int×Bool×(List Def)×(List zM)×(List zd)×(List bD)×(List gA)×(List gA)×(List gA)×(List gA)))
 |0,_=>bh
 |K+1,q=>aN (zA b.l ((za b q).i)) λx1=>(bif (!(decide (x1.1=3)))then(zA b.l ((za b q).i)).bind λx2=>(bif (decide (x2.2.1=zO))then(er (vI { (za b q)with l:=b.l,T:=b.T,V:=b.V,S:=b.S,n1:=b.n1,n5:=b.n5 } (((bf ((za b q).D)):Nat):Int) 60) (λx3=>bc (bp x3)) (aN (yH { (za b q)with l:=b.l,T:=b.T,V:=b.V,S:=b.S,n1:=b.n1,n5:=b.n5 } (((bf ((za b q).D)):Nat):Int) 60) λx4=>(er (KX { (za b q)with l:=b.l,i:=x4,T:=b.T,V:=b.V,S:=b.S,n1:=b.n1,n5:=b.n5 }) (λx5=>bc (bp x5)) (aN (A1 { (za b q)with l:=b.l,i:=x4,T:=b.T,V:=b.V,S:=b.S,n1:=b.n1,n5:=b.n5 }) λx6=>yp b K (x6.1,(za b q).H,(za b q).h,x6.2.1,(za b q).Z,(za b q).R,(za b q).C,x6.2.2,(za b q).n2,(za b q).n3,(za b q).n4)))))else(bif (decide (x2.2.1=yG))then(er (vI { (za b q)with l:=b.l,T:=b.T,V:=b.V,S:=b.S,n1:=b.n1,n5:=b.n5 } (((bf b.T):Nat):Int) 60) (λx7=>bc (bp x7)) (aN (yH { (za b q)with l:=b.l,T:=b.T,V:=b.V,S:=b.S,n1:=b.n1,n5:=b.n5 } (((bf b.T):Nat):Int) 60) λ_=>bh))else(bif (decide (x2.2.1=zR))then(bif (decide (x2.2.1=zR))then(Ad b.l ((za b q).i) zu).bind λx9=>(er (vI { (za b q)with l:=b.l,T:=b.T,V:=b.V,S:=b.S,n1:=b.n1,n5:=b.n5 } (((bf ((za b q).Z)):Nat):Int) 60) (λgw=>bc (bp gw)) (aN (yH { (za b q)with l:=b.l,T:=b.T,V:=b.V,S:=b.S,n1:=b.n1,n5:=b.n5 } (((bf ((za b q).Z)):Nat):Int) 60) λgK=>(er (JV { (za b q)with l:=b.l,i:=gK,T:=b.T,V:=b.V,S:=b.S,n1:=b.n1,n5:=b.n5 }) (λiZ=>bc (bp iZ)) (aN (oE { (za b q)with l:=b.l,i:=gK,T:=b.T,V:=b.V,S:=b.S,n1:=b.n1,n5:=b.n5 }) λkO=>(er (kV { (za b q)with l:=b.l,i:=kO.2.1,T:=b.T,V:=b.V,S:=b.S,n1:=b.n1,n2:=kO.2.2,n5:=b.n5 }) (λlP=>bc (bp lP)) (aN (wb { (za b q)with l:=b.l,i:=kO.2.1,T:=b.T,V:=b.V,S:=b.S,n1:=b.n1,n2:=kO.2.2,n5:=b.n5 }) λlx=>aN (wF lx.1) λlY=>(er (HE { (za b q)with l:=b.l,i:=lx.2,T:=b.T,V:=b.V,S:=b.S,n1:=b.n1,n2:=kO.2.2,n5:=b.n5 } lY 10) (λl9=>bc (bp l9)) (aN (jD { (za b q)with l:=b.l,i:=lx.2,T:=b.T,V:=b.V,S:=b.S,n1:=b.n1,n2:=kO.2.2,n5:=b.n5 } lY 10) λmK=>aN (ea (bf ((za b q).Z++([(zM.mk kO.1 x9 lx.1)]:List zM))*48<=140737488355328)) λ_=>yp b K (mK,(za b q).H,(za b q).h,(za b q).D,((za b q).Z++([(zM.mk kO.1 x9 lx.1)]:List zM)),(za b q).R,(za b q).C,(za b q).n0,kO.2.2,(za b q).n3,(za b q).n4)))))))))else(bif (decide (x2.2.1=yn))then(er (vI { (za b q)with l:=b.l,T:=b.T,V:=b.V,S:=b.S,n1:=b.n1,n5:=b.n5 } (((bf ((za b q).R)):Nat):Int) 200) (λnF=>bc (bp nF)) (aN (yH { (za b q)with l:=b.l,T:=b.T,V:=b.V,S:=b.S,n1:=b.n1,n5:=b.n5 } (((bf ((za b q).R)):Nat):Int) 200) λmY=>(er (VV { (za b q)with l:=b.l,i:=mY,T:=b.T,V:=b.V,S:=b.S,n1:=b.n1,n5:=b.n5 }) (λmy=>bc (bp my)) (aN (HD { (za b q)with l:=b.l,i:=mY,T:=b.T,V:=b.V,S:=b.S,n1:=b.n1,n5:=b.n5 }) λpM=>yp b K (pM.1,(za b q).H,(za b q).h,(za b q).D,(za b q).Z,pM.2.1,(za b q).C,(za b q).n0,(za b q).n2,pM.2.2,(za b q).n4)))))else(bif (decide (x2.2.1=Br))then(er (vI { (za b q)with l:=b.l,T:=b.T,V:=b.V,S:=b.S,n1:=b.n1,n5:=b.n5 } (((bf ((za b q).C)):Nat):Int) 30) (λmZ=>bc (bp mZ)) (aN (yH { (za b q)with l:=b.l,T:=b.T,V:=b.V,S:=b.S,n1:=b.n1,n5:=b.n5 } (((bf ((za b q).C)):Nat):Int) 30) λrZ=>(er (UQ { (za b q)with l:=b.l,i:=rZ,T:=b.T,V:=b.V,S:=b.S,n1:=b.n1,n5:=b.n5 }) (λmj=>bc (bp mj)) (aN (JU { (za b q)with l:=b.l,i:=rZ,T:=b.T,V:=b.V,S:=b.S,n1:=b.n1,n5:=b.n5 }) λmz=>(er (vJ { (za b q)with l:=b.l,i:=mz.2.1,T:=b.T,V:=b.V,S:=b.S,n1:=b.n1,n4:=mz.2.2,n5:=b.n5 } zQ) (λtD=>bc (bp tD)) (aN (xe { (za b q)with l:=b.l,i:=mz.2.1,T:=b.T,V:=b.V,S:=b.S,n1:=b.n1,n4:=mz.2.2,n5:=b.n5 } zQ) λnx=>(er (zU b.l nx.2 0 1099511627776) (λrG=>bc (bp rG)) (aN (zr b.l nx.2 0 1099511627776) λpN=>(er (kV { (za b q)with l:=b.l,i:=pN.2,T:=b.T,V:=b.V,S:=b.S,n1:=b.n1,n4:=mz.2.2,n5:=b.n5 }) (λnG=>bc (bp nG)) (aN (wb { (za b q)with l:=b.l,i:=pN.2,T:=b.T,V:=b.V,S:=b.S,n1:=b.n1,n4:=mz.2.2,n5:=b.n5 }) λoB=>aN (wF oB.1) λr7=>(er (HE { (za b q)with l:=b.l,i:=oB.2,T:=b.T,V:=b.V,S:=b.S,n1:=b.n1,n4:=mz.2.2,n5:=b.n5 } r7 10) (λsN=>bc (bp sN)) (aN (jD { (za b q)with l:=b.l,i:=oB.2,T:=b.T,V:=b.V,S:=b.S,n1:=b.n1,n4:=mz.2.2,n5:=b.n5 } r7 10) λnR=>aN (ea (bf ((za b q).C++([(bD.mk mz.1 nx.1 pN.1 oB.1)]:List bD))*56<=140737488355328)) λ_=>yp b K (nR,(za b q).H,(za b q).h,(za b q).D,(za b q).Z,(za b q).R,((za b q).C++([(bD.mk mz.1 nx.1 pN.1 oB.1)]:List bD)),(za b q).n0,(za b q).n2,(za b q).n3,mz.2.2)))))))))))))else(bif (decide (x2.2.1=Qt))then(er (vI { (za b q)with l:=b.l,T:=b.T,V:=b.V,S:=b.S,n1:=b.n1,n5:=b.n5 } (((bf b.V):Nat):Int) 60) (λs_=>bc (bp s_)) (aN (yH { (za b q)with l:=b.l,T:=b.T,V:=b.V,S:=b.S,n1:=b.n1,n5:=b.n5 } (((bf b.V):Nat):Int) 60) λ_=>bh))else(bif (decide (x2.2.1=QR))then(er (zI b.l ((za b q).i) (decide (((bf b.S):Nat)=0)) 5) (λEk=>bc (bp Ek)) (aN (zn b.l ((za b q).i) (decide (((bf b.S):Nat)=0)) 5) λ_=>bh))else(bif (decide (x2.2.1=AG))then(er (zI b.l ((za b q).i) (!(za b q).h) 5) (λC5=>bc (bp C5)) (aN (zn b.l ((za b q).i) (!(za b q).h) 5) λ_=>(er (zU b.l (aS ((za b q).i+1)) 0 24) (λEl=>bc (bp El)) (aN (zr b.l (aS ((za b q).i+1)) 0 24) λEm=>(er (xI b.l Em.2 z8) (λIT=>bc (bp IT)) (aN (z6 b.l Em.2 z8) λCb=>yp b K (Cb,Em.1,bg,(za b q).D,(za b q).Z,(za b q).R,(za b q).C,(za b q).n0,(za b q).n2,(za b q).n3,(za b q).n4)))))))else(er (Ae b.l ((za b q).i) 14) (λC6=>bc (bp C6)) bh)))))))else(bif (decide (x2.2.1=zu))then(Ad b.l ((za b q).i) zu).bind λBg=>(er (vI { (za b q)with l:=b.l,T:=b.T,V:=b.V,S:=b.S,n1:=b.n1,n5:=b.n5 } (((bf ((za b q).Z)):Nat):Int) 60) (λIU=>bc (bp IU)) (aN (yH { (za b q)with l:=b.l,T:=b.T,V:=b.V,S:=b.S,n1:=b.n1,n5:=b.n5 } (((bf ((za b q).Z)):Nat):Int) 60) λC7=>(er (JV { (za b q)with l:=b.l,i:=C7,T:=b.T,V:=b.V,S:=b.S,n1:=b.n1,n5:=b.n5 }) (λIV=>bc (bp IV)) (aN (oE { (za b q)with l:=b.l,i:=C7,T:=b.T,V:=b.V,S:=b.S,n1:=b.n1,n5:=b.n5 }) λr9=>(er (kV { (za b q)with l:=b.l,i:=r9.2.1,T:=b.T,V:=b.V,S:=b.S,n1:=b.n1,n2:=r9.2.2,n5:=b.n5 }) (λSY=>bc (bp SY)) (aN (wb { (za b q)with l:=b.l,i:=r9.2.1,T:=b.T,V:=b.V,S:=b.S,n1:=b.n1,n2:=r9.2.2,n5:=b.n5 }) λEn=>aN (wF En.1) λFV=>(er (HE { (za b q)with l:=b.l,i:=En.2,T:=b.T,V:=b.V,S:=b.S,n1:=b.n1,n2:=r9.2.2,n5:=b.n5 } FV 10) (λrH=>bc (bp rH)) (aN (jD { (za b q)with l:=b.l,i:=En.2,T:=b.T,V:=b.V,S:=b.S,n1:=b.n1,n2:=r9.2.2,n5:=b.n5 } FV 10) λFW=>aN (ea (bf ((za b q).Z++([(zM.mk r9.1 Bg En.1)]:List zM))*48<=140737488355328)) λ_=>yp b K (FW,(za b q).H,(za b q).h,(za b q).D,((za b q).Z++([(zM.mk r9.1 Bg En.1)]:List zM)),(za b q).R,(za b q).C,(za b q).n0,r9.2.2,(za b q).n3,(za b q).n4)))))))))else(bif (decide (x2.2.1=yn))then(er (vI { (za b q)with l:=b.l,T:=b.T,V:=b.V,S:=b.S,n1:=b.n1,n5:=b.n5 } (((bf ((za b q).R)):Nat):Int) 200) (λSZ=>bc (bp SZ)) (aN (yH { (za b q)with l:=b.l,T:=b.T,V:=b.V,S:=b.S,n1:=b.n1,n5:=b.n5 } (((bf ((za b q).R)):Nat):Int) 200) λac6=>(er (VV { (za b q)with l:=b.l,i:=ac6,T:=b.T,V:=b.V,S:=b.S,n1:=b.n1,n5:=b.n5 }) (λaha=>bc (bp aha)) (aN (HD { (za b q)with l:=b.l,i:=ac6,T:=b.T,V:=b.V,S:=b.S,n1:=b.n1,n5:=b.n5 }) λS0=>yp b K (S0.1,(za b q).H,(za b q).h,(za b q).D,(za b q).Z,S0.2.1,(za b q).C,(za b q).n0,(za b q).n2,S0.2.2,(za b q).n4)))))else(bif (decide (x2.2.1=Br))then(er (vI { (za b q)with l:=b.l,T:=b.T,V:=b.V,S:=b.S,n1:=b.n1,n5:=b.n5 } (((bf ((za b q).C)):Nat):Int) 30) (λahb=>bc (bp ahb)) (aN (yH { (za b q)with l:=b.l,T:=b.T,V:=b.V,S:=b.S,n1:=b.n1,n5:=b.n5 } (((bf ((za b q).C)):Nat):Int) 30) λac7=>(er (UQ { (za b q)with l:=b.l,i:=ac7,T:=b.T,V:=b.V,S:=b.S,n1:=b.n1,n5:=b.n5 }) (λahc=>bc (bp ahc)) (aN (JU { (za b q)with l:=b.l,i:=ac7,T:=b.T,V:=b.V,S:=b.S,n1:=b.n1,n5:=b.n5 }) λuf=>(er (vJ { (za b q)with l:=b.l,i:=uf.2.1,T:=b.T,V:=b.V,S:=b.S,n1:=b.n1,n4:=uf.2.2,n5:=b.n5 } zQ) (λahd=>bc (bp ahd)) (aN (xe { (za b q)with l:=b.l,i:=uf.2.1,T:=b.T,V:=b.V,S:=b.S,n1:=b.n1,n4:=uf.2.2,n5:=b.n5 } zQ) λNq=>(er (zU b.l Nq.2 0 1099511627776) (λahe=>bc (bp ahe)) (aN (zr b.l Nq.2 0 1099511627776) λNr=>(er (kV { (za b q)with l:=b.l,i:=Nr.2,T:=b.T,V:=b.V,S:=b.S,n1:=b.n1,n4:=uf.2.2,n5:=b.n5 }) (λahf=>bc (bp ahf)) (aN (wb { (za b q)with l:=b.l,i:=Nr.2,T:=b.T,V:=b.V,S:=b.S,n1:=b.n1,n4:=uf.2.2,n5:=b.n5 }) λIW=>aN (wF IW.1) λac8=>(er (HE { (za b q)with l:=b.l,i:=IW.2,T:=b.T,V:=b.V,S:=b.S,n1:=b.n1,n4:=uf.2.2,n5:=b.n5 } ac8 10) (λahg=>bc (bp ahg)) (aN (jD { (za b q)with l:=b.l,i:=IW.2,T:=b.T,V:=b.V,S:=b.S,n1:=b.n1,n4:=uf.2.2,n5:=b.n5 } ac8 10) λahh=>aN (ea (bf ((za b q).C++([(bD.mk uf.1 Nq.1 Nr.1 IW.1)]:List bD))*56<=140737488355328)) λ_=>yp b K (ahh,(za b q).H,(za b q).h,(za b q).D,(za b q).Z,(za b q).R,((za b q).C++([(bD.mk uf.1 Nq.1 Nr.1 IW.1)]:List bD)),(za b q).n0,(za b q).n2,(za b q).n3,uf.2.2)))))))))))))else(bif (decide (x2.2.1=Qt))then(er (vI { (za b q)with l:=b.l,T:=b.T,V:=b.V,S:=b.S,n1:=b.n1,n5:=b.n5 } (((bf b.V):Nat):Int) 60) (λahi=>bc (bp ahi)) (aN (yH { (za b q)with l:=b.l,T:=b.T,V:=b.V,S:=b.S,n1:=b.n1,n5:=b.n5 } (((bf b.V):Nat):Int) 60) λ_=>bh))else(bif (decide (x2.2.1=QR))then(er (zI b.l ((za b q).i) (decide (((bf b.S):Nat)=0)) 5) (λahj=>bc (bp ahj)) (aN (zn b.l ((za b q).i) (decide (((bf b.S):Nat)=0)) 5) λ_=>bh))else(bif (decide (x2.2.1=AG))then(er (zI b.l ((za b q).i) (!(za b q).h) 5) (λahk=>bc (bp ahk)) (aN (zn b.l ((za b q).i) (!(za b q).h) 5) λ_=>(er (zU b.l (aS ((za b q).i+1)) 0 24) (λahl=>bc (bp ahl)) (aN (zr b.l (aS ((za b q).i+1)) 0 24) λS5=>(er (xI b.l S5.2 z8) (λahm=>bc (bp ahm)) (aN (z6 b.l S5.2 z8) λahn=>yp b K (ahn,S5.1,bg,(za b q).D,(za b q).Z,(za b q).R,(za b q).C,(za b q).n0,(za b q).n2,(za b q).n3,(za b q).n4)))))))else(er (Ae b.l ((za b q).i) 14) (λaho=>bc (bp aho)) bh))))))))))else bc (br ((za b q).i,(za b q).H,(za b q).h,(za b q).D,(za b q).Z,(za b q).R,(za b q).C,(za b q).n0,(za b q).n2,(za b q).n3,(za b q).n4)))
def W2(b:BB):Option (Int×Int):=(yp { b with i:=0,D:=[],Z:=[],R:=[],C:=[],H:=0,n0:=[],n2:=[],n3:=[],n4:=[],h:=bd } KK (b.i,b.H,b.h,b.D,b.Z,b.R,b.C,b.n0,b.n2,b.n3,b.n4)).bind (xo bc λx1=>bh)
def Af(b:BB):Option (Int×Int×Int×Int×Bool×(List Def)×(List zM)×(List zd)×(List bD)×(List gA)×(List gA)×(List gA)×(List gA)):=aN (W1 b) λq=>bc ((0:Int),(0:Int),q)
def uD(b:BB):Option (Int×Int):=W2 b
def JW(s:aj):Option (Int×Int×(List zl)×Int×(List Def)×(List au)×(List zM)×(List zd)×(List bD)×(List av)):=aN (Lw s) λx1=>(bif (!(decide (x1.2.2=0)))then bc (x1.2.1,x1.2.2,[],0,([]:List Def),([]:List au),([]:List zM),([]:List zd),([]:List bD),([]:List av))else(er (Af (BB.mk x1.1 0 ([]:List Def) ([]:List au) ([]:List zM) ([]:List zd) ([]:List bD) ([]:List av) ([]:List zl) 0 ([]:List gA) ([]:List gA) ([]:List gA) ([]:List gA) ([]:List gA) ([]:List gA) bd)) (λx3=>(bif (!(decide (x3.2.1=0)))then bc (x3.1,x3.2.1,[],0,([]:List Def),([]:List au),([]:List zM),([]:List zd),([]:List bD),([]:List av))else bc (0,0,([]:List zl),x3.2.2.2.1,x3.2.2.2.2.2.1,([]:List au),x3.2.2.2.2.2.2.1,x3.2.2.2.2.2.2.2.1,x3.2.2.2.2.2.2.2.2.1,([]:List av)))) (er (uD (BB.mk x1.1 0 ([]:List Def) ([]:List au) ([]:List zM) ([]:List zd) ([]:List bD) ([]:List av) ([]:List zl) 0 ([]:List gA) ([]:List gA) ([]:List gA) ([]:List gA) ([]:List gA) ([]:List gA) bd)) (λx2=>(bif (!(decide (x2.2=0)))then bc (x2.1,x2.2,[],0,([]:List Def),([]:List au),([]:List zM),([]:List zd),([]:List bD),([]:List av))else bh)) bh)))
def Ag(p:xP):Option (Int×aj×aj×Int×aj×(List aj)×(List aj)×Int×Int×Int×Bool×Int×Int×Int×aj×aj×(List Expr)×Int×Int×Int×Int×Int×Int×Int×Int×Int×aj×aj×(List Expr)×(List zx)):=(bif (decide ((p.aE.length:Int)=1))then(idx p.aE 0).bind λx1=>bc (0,([]:aj),([]:aj),0,x1.aL,x1.aB,x1.Except,x1.gY,x1.gW,x1.hU,x1.gZ,x1.aM,x1.Test.Op,x1.Test.N,x1.Test.S,x1.Test.Key,x1.Test.aZ,x1.zj.lz,x1.zj.ly,x1.zj.ln,x1.zj.Den,x1.Uses,x1.gS,x1.N,0,0,([]:aj),([]:aj),[],[])else(bif (decide ((p.aF.length:Int)=1))then(idx p.aF 0).bind λx2=>aN (idx p.aF 0) λx3=>bc (2,x2.aL,([]:aj),0,([]:aj),[],[],0,0,0,bd,0,0,0,([]:aj),([]:aj),[],0,0,0,0,0,0,0,x3.Body.Op,x3.Body.N,x3.Body.S,x3.Body.Key,x3.Body.aZ,[])else(idx p.aB 0).bind λx4=>aN ((bif x4.mN then bc 1 else bc 0)) λx5=>bc (4,x4.aL,([]:aj),x5,([]:aj),[],[],0,0,0,bd,0,0,0,([]:aj),([]:aj),[],0,0,0,0,0,0,0,0,0,([]:aj),([]:aj),[],x4.aA)))
def AK(s:List ar):Option ((List ar)):=aN (ea (bf (([]:List ar)++s)*40<=140737488355328)) λ_=>bc (([]:List ar)++s)
def W3(a0:List ar)(a1:Int)(a2:Int):Option ((List ar)×(List ar)):=WZ a0 a1 a2
def xM(c0:List ar)(c1:Int)(c2:Int)(c3:Int)(c4:List ar)(c5:Int)(c6:aj)(c7:List aj)(c8:Bool)(c9:List Expr)(c10:List zx):Nat->(Int×Int×Int×Int×Int×Int×Int×Int×Int×Int×Int×Int×Int×Int×Int×Int×Int×Int)->Option ((Int×Int×aj×aj×Int×aj×(List aj)×(List aj)×Int×Int×Int×Bool×Int×Int×Int×aj×aj×(List Expr)×Int×Int×Int×Int×Int×Int×Int×Int×Int×aj×aj×(List Expr)×(List zx))⊕(Int×Int×Int×Int×Int×Int×Int×Int×Int×Int×Int×Int×Int×Int×Int×Int×Int))
 |0,_=>bh
 |K+1,q=>(bif (decide (q.1<c5))then(idx c4 q.1).bind λx1=>aN ((bif (!(decide (x1.aM=0)))then bc (bg,q.2.1,q.2.2.1,q.2.2.2.1,q.2.2.2.2.1,q.2.2.2.2.2.1,q.2.2.2.2.2.2.1,q.2.2.2.2.2.2.2.1,q.2.2.2.2.2.2.2.2.1,q.2.2.2.2.2.2.2.2.2.1,q.2.2.2.2.2.2.2.2.2.2.1,q.2.2.2.2.2.2.2.2.2.2.2.1,q.2.2.2.2.2.2.2.2.2.2.2.2.1,q.2.2.2.2.2.2.2.2.2.2.2.2.2.1,q.2.2.2.2.2.2.2.2.2.2.2.2.2.2.1,q.2.2.2.2.2.2.2.2.2.2.2.2.2.2.2.1,q.2.2.2.2.2.2.2.2.2.2.2.2.2.2.2.2.1,q.2.2.2.2.2.2.2.2.2.2.2.2.2.2.2.2.2)else(Qu x1.Text).bind λx3=>bc ((!x3),q.2.1,q.2.2.1,q.2.2.2.1,q.2.2.2.2.1,q.2.2.2.2.2.1,q.2.2.2.2.2.2.1,q.2.2.2.2.2.2.2.1,q.2.2.2.2.2.2.2.2.1,q.2.2.2.2.2.2.2.2.2.1,q.2.2.2.2.2.2.2.2.2.2.1,q.2.2.2.2.2.2.2.2.2.2.2.1,q.2.2.2.2.2.2.2.2.2.2.2.2.1,q.2.2.2.2.2.2.2.2.2.2.2.2.2.1,q.2.2.2.2.2.2.2.2.2.2.2.2.2.2.1,q.2.2.2.2.2.2.2.2.2.2.2.2.2.2.2.1,q.2.2.2.2.2.2.2.2.2.2.2.2.2.2.2.2.1,q.2.2.2.2.2.2.2.2.2.2.2.2.2.2.2.2.2))) λx2=>(bif x2.1 then bc (bp (14,0,([]:aj),([]:aj),0,([]:aj),[],[],0,0,0,bd,0,0,0,([]:aj),([]:aj),[],0,0,0,0,0,0,0,0,0,([]:aj),([]:aj),[],[]))else xM c0 c1 c2 c3 c4 c5 c6 c7 c8 c9 c10 K ((aS (q.1+1)),x2.2.1,x2.2.2.1,x2.2.2.2.1,x2.2.2.2.2.1,x2.2.2.2.2.2.1,x2.2.2.2.2.2.2.1,x2.2.2.2.2.2.2.2.1,x2.2.2.2.2.2.2.2.2.1,x2.2.2.2.2.2.2.2.2.2.1,x2.2.2.2.2.2.2.2.2.2.2.1,x2.2.2.2.2.2.2.2.2.2.2.2.1,x2.2.2.2.2.2.2.2.2.2.2.2.2.1,x2.2.2.2.2.2.2.2.2.2.2.2.2.2.1,x2.2.2.2.2.2.2.2.2.2.2.2.2.2.2.1,x2.2.2.2.2.2.2.2.2.2.2.2.2.2.2.2.1,x2.2.2.2.2.2.2.2.2.2.2.2.2.2.2.2.2.1,x2.2.2.2.2.2.2.2.2.2.2.2.2.2.2.2.2.2))else bc (br (q.2.1,q.2.2.1,q.2.2.2.1,q.2.2.2.2.1,q.2.2.2.2.2.1,q.2.2.2.2.2.2.1,q.2.2.2.2.2.2.2.1,q.2.2.2.2.2.2.2.2.1,q.2.2.2.2.2.2.2.2.2.1,q.2.2.2.2.2.2.2.2.2.2.1,q.2.2.2.2.2.2.2.2.2.2.2.1,q.2.2.2.2.2.2.2.2.2.2.2.2.1,q.2.2.2.2.2.2.2.2.2.2.2.2.2.1,q.2.2.2.2.2.2.2.2.2.2.2.2.2.2.1,q.2.2.2.2.2.2.2.2.2.2.2.2.2.2.2.1,q.2.2.2.2.2.2.2.2.2.2.2.2.2.2.2.2.1,q.2.2.2.2.2.2.2.2.2.2.2.2.2.2.2.2.2)))
def On(l:List ar):Option (Int×Int×aj×aj×Int×aj×(List aj)×(List aj)×Int×Int×Int×Bool×Int×Int×Int×aj×aj×(List Expr)×Int×Int×Int×Int×Int×Int×Int×Int×Int×aj×aj×(List Expr)×(List zx)):=aN (idx l 0) λx1=>(bif (!(xh x1.Text (oV yh 5 (oV vk 3 (oV jm 1 ([]:List (aj×Int)))))).isSome)then bc (14,0,([]:aj),([]:aj),0,([]:aj),[],[],0,0,0,bd,0,0,0,([]:aj),([]:aj),[],0,0,0,0,0,0,0,0,0,([]:aj),([]:aj),[],[])else((bif (decide (((xh x1.Text (oV yh 5 (oV vk 3 (oV jm 1 ([]:List (aj×Int)))))).getD 0)=3))then((bif (decide ((l.length:Int)>3))then(idx l 3).bind λx4=>bc (decide (x4.Text=yX))else bc bd)).bind λx3=>(bif x3 then(AK l).bind λx5=>aN (W3 x5 3 4) λx6=>bc (x6.1,2,(-1))else bc (l,2,1))else bc (l,1,1))).bind λx2=>aN ((bif (!(decide ((x2.1.length:Int)=(aS (x2.2.1+3)))))then bc bg else(idx x2.1 (aS (x2.2.1+1))).bind λx8=>bc (!(decide (x8.aM=1))))) λx7=>(bif x7 then bc (14,0,([]:aj),([]:aj),0,([]:aj),[],[],0,0,0,bd,0,0,0,([]:aj),([]:aj),[],0,0,0,0,0,0,0,0,0,([]:aj),([]:aj),[],[])else(cut x2.1 1 (aS (x2.2.1+1))).bind λx9=>(xM x2.1 ((xh x1.Text (oV yh 5 (oV vk 3 (oV jm 1 ([]:List (aj×Int)))))).getD 0) x2.2.1 x2.2.2 x9 (x9.length:Int) ([]:aj) [] bd [] [] KK (0,0,0,0,0,0,0,0,0,0,0,0,0,0,0,0,0,0)).bind (xo bc λgw=>aN (idx x2.1 1) λgK=>aN (idx x2.1 (aS (x2.2.1+1))) λiZ=>aN ((bif (decide (((xh x1.Text (oV yh 5 (oV vk 3 (oV jm 1 ([]:List (aj×Int)))))).getD 0)=3))then(idx x2.1 2).bind λlP=>bc lP.Text else bc ([]:aj))) λkO=>aN ((bif (decide (((xh x1.Text (oV yh 5 (oV vk 3 (oV jm 1 ([]:List (aj×Int)))))).getD 0)=1))then(bif (decide ((aS (x2.2.2*iZ.N))<1))then bc bg else bc (decide ((aS (x2.2.2*iZ.N))>1073741824)))else bc bd)) λlx=>(bif lx then bc (3,0,([]:aj),([]:aj),0,([]:aj),[],[],0,0,0,bd,0,0,0,([]:aj),([]:aj),[],0,0,0,0,0,0,0,0,0,([]:aj),([]:aj),[],[])else bc (0,((xh x1.Text (oV yh 5 (oV vk 3 (oV jm 1 ([]:List (aj×Int)))))).getD 0),gK.Text,kO,(aS (x2.2.2*iZ.N)),([]:aj),[],[],0,0,0,bd,0,0,0,([]:aj),([]:aj),[],0,0,0,0,0,0,0,0,0,([]:aj),([]:aj),[],[])))))
def vw(c0:aj)(c1:List ar)(c2:Int):Nat->(Int×Int×(List (List ar)))->Option (Int×(List (List ar)))
 |0,_=>bh
 |K+1,q=>(bif (decide (q.2.1<c2))then(aN (idx c1 q.2.1) λx2=>aN ((bif (decide (x2.aM=2))then bc (q.2.1,q.2.1,(decide (x2.Text=z8)))else bc (q.2.1,q.2.1,bd))) λx3=>(bif x3.2.2 then(cut c1 q.1 (aS (x3.1+1))).bind λx4=>aN (ea (bf (q.2.2++([x4]:List (List ar)))*24<=140737488355328)) λ_=>bc ((aS (x3.1+1)),x3.2.1,(q.2.2++([x4]:List (List ar))))else bc (q.1,x3.2.1,q.2.2))).bind λx1=>vw c0 c1 c2 K (x1.1,(aS (x1.2.1+1)),x1.2.2)else bc (q.1,q.2.2))
def xJ(c0:aj)(c1:Int)(c2:List (List ar)):Nat->(Int×(List zN))->Option (((List zN)×Int)⊕((List zN)))
 |0,_=>bh
 |K+1,q=>(bif (decide (q.1<c1))then(ea (0<=q.1/\q.1<(((bf c2):Nat):Int))).bind λ_=>aN ((c2)[(bQ q.1)]?) λx2=>aN (aN (idx x2 0) λx4=>aN ((bif (decide (x4.Text=yn))then bc (decide (x4.Text=yn))else(bif (decide (x4.Text=zO))then bc (decide (x4.Text=zO))else(bif (decide (x4.Text=zR))then bc (decide (x4.Text=zR))else bc (decide (x4.Text=zu)))))) λx5=>(bif x5 then(idx x2 0).bind λx6=>aN (idx x2 (aS ((x2.length:Int)-1))) λx7=>aN (cut c0 x6.Pos (aS (x7.Pos+1))) λx8=>aN (JW x8) λx9=>(bif (decide (x9.2.1=0))then(Ag (xP.mk x9.2.2.2.2.1 x9.2.2.2.2.2.1 x9.2.2.2.2.2.2.1 x9.2.2.2.2.2.2.2.1 x9.2.2.2.2.2.2.2.2.1 x9.2.2.2.2.2.2.2.2.2 x9.2.2.1 x9.2.2.2.1)).bind λgw=>bc (x9.2.1,gw.1,gw.2.1,gw.2.2.1,gw.2.2.2.1,gw.2.2.2.2.1,gw.2.2.2.2.2.1,gw.2.2.2.2.2.2.1,gw.2.2.2.2.2.2.2.1,gw.2.2.2.2.2.2.2.2.1,gw.2.2.2.2.2.2.2.2.2.1,gw.2.2.2.2.2.2.2.2.2.2.1,gw.2.2.2.2.2.2.2.2.2.2.2.1,gw.2.2.2.2.2.2.2.2.2.2.2.2.1,gw.2.2.2.2.2.2.2.2.2.2.2.2.2.1,gw.2.2.2.2.2.2.2.2.2.2.2.2.2.2.1,gw.2.2.2.2.2.2.2.2.2.2.2.2.2.2.2.1,gw.2.2.2.2.2.2.2.2.2.2.2.2.2.2.2.2.1,gw.2.2.2.2.2.2.2.2.2.2.2.2.2.2.2.2.2.1,gw.2.2.2.2.2.2.2.2.2.2.2.2.2.2.2.2.2.2.1,gw.2.2.2.2.2.2.2.2.2.2.2.2.2.2.2.2.2.2.2.1,gw.2.2.2.2.2.2.2.2.2.2.2.2.2.2.2.2.2.2.2.2.1,gw.2.2.2.2.2.2.2.2.2.2.2.2.2.2.2.2.2.2.2.2.2.1,gw.2.2.2.2.2.2.2.2.2.2.2.2.2.2.2.2.2.2.2.2.2.2.1,gw.2.2.2.2.2.2.2.2.2.2.2.2.2.2.2.2.2.2.2.2.2.2.2.1,gw.2.2.2.2.2.2.2.2.2.2.2.2.2.2.2.2.2.2.2.2.2.2.2.2.1,gw.2.2.2.2.2.2.2.2.2.2.2.2.2.2.2.2.2.2.2.2.2.2.2.2.2.1,gw.2.2.2.2.2.2.2.2.2.2.2.2.2.2.2.2.2.2.2.2.2.2.2.2.2.2.1,gw.2.2.2.2.2.2.2.2.2.2.2.2.2.2.2.2.2.2.2.2.2.2.2.2.2.2.2.1,gw.2.2.2.2.2.2.2.2.2.2.2.2.2.2.2.2.2.2.2.2.2.2.2.2.2.2.2.2.1,gw.2.2.2.2.2.2.2.2.2.2.2.2.2.2.2.2.2.2.2.2.2.2.2.2.2.2.2.2.2)else bc (x9.2.1,0,([]:aj),([]:aj),0,([]:aj),[],[],0,0,0,bd,0,0,0,([]:aj),([]:aj),[],0,0,0,0,0,0,0,0,0,([]:aj),([]:aj),[],[]))else(On x2).bind λgK=>bc (gK.1,gK.2.1,gK.2.2.1,gK.2.2.2.1,gK.2.2.2.2.1,gK.2.2.2.2.2.1,gK.2.2.2.2.2.2.1,gK.2.2.2.2.2.2.2.1,gK.2.2.2.2.2.2.2.2.1,gK.2.2.2.2.2.2.2.2.2.1,gK.2.2.2.2.2.2.2.2.2.2.1,gK.2.2.2.2.2.2.2.2.2.2.2.1,gK.2.2.2.2.2.2.2.2.2.2.2.2.1,gK.2.2.2.2.2.2.2.2.2.2.2.2.2.1,gK.2.2.2.2.2.2.2.2.2.2.2.2.2.2.1,gK.2.2.2.2.2.2.2.2.2.2.2.2.2.2.2.1,gK.2.2.2.2.2.2.2.2.2.2.2.2.2.2.2.2.1,gK.2.2.2.2.2.2.2.2.2.2.2.2.2.2.2.2.2.1,gK.2.2.2.2.2.2.2.2.2.2.2.2.2.2.2.2.2.2.1,gK.2.2.2.2.2.2.2.2.2.2.2.2.2.2.2.2.2.2.2.1,gK.2.2.2.2.2.2.2.2.2.2.2.2.2.2.2.2.2.2.2.2.1,gK.2.2.2.2.2.2.2.2.2.2.2.2.2.2.2.2.2.2.2.2.2.1,gK.2.2.2.2.2.2.2.2.2.2.2.2.2.2.2.2.2.2.2.2.2.2.1,gK.2.2.2.2.2.2.2.2.2.2.2.2.2.2.2.2.2.2.2.2.2.2.2.1,gK.2.2.2.2.2.2.2.2.2.2.2.2.2.2.2.2.2.2.2.2.2.2.2.2.1,gK.2.2.2.2.2.2.2.2.2.2.2.2.2.2.2.2.2.2.2.2.2.2.2.2.2.1,gK.2.2.2.2.2.2.2.2.2.2.2.2.2.2.2.2.2.2.2.2.2.2.2.2.2.2.1,gK.2.2.2.2.2.2.2.2.2.2.2.2.2.2.2.2.2.2.2.2.2.2.2.2.2.2.2.1,gK.2.2.2.2.2.2.2.2.2.2.2.2.2.2.2.2.2.2.2.2.2.2.2.2.2.2.2.2.1,gK.2.2.2.2.2.2.2.2.2.2.2.2.2.2.2.2.2.2.2.2.2.2.2.2.2.2.2.2.2.1,gK.2.2.2.2.2.2.2.2.2.2.2.2.2.2.2.2.2.2.2.2.2.2.2.2.2.2.2.2.2.2))) λx3=>(bif (!(decide (x3.1=0)))then bc (bp ([],x3.1))else(ea (bf (q.2++([(zN.mk x3.2.1 x3.2.2.1 x3.2.2.2.1 x3.2.2.2.2.1 (zd.mk x3.2.2.2.2.2.1 x3.2.2.2.2.2.2.1 x3.2.2.2.2.2.2.2.1 x3.2.2.2.2.2.2.2.2.1 x3.2.2.2.2.2.2.2.2.2.1 x3.2.2.2.2.2.2.2.2.2.2.1 x3.2.2.2.2.2.2.2.2.2.2.2.1 x3.2.2.2.2.2.2.2.2.2.2.2.2.1 (Expr.mk x3.2.2.2.2.2.2.2.2.2.2.2.2.2.1 x3.2.2.2.2.2.2.2.2.2.2.2.2.2.2.1 x3.2.2.2.2.2.2.2.2.2.2.2.2.2.2.2.1 x3.2.2.2.2.2.2.2.2.2.2.2.2.2.2.2.2.1 x3.2.2.2.2.2.2.2.2.2.2.2.2.2.2.2.2.2.1) (zj.mk x3.2.2.2.2.2.2.2.2.2.2.2.2.2.2.2.2.2.2.1 x3.2.2.2.2.2.2.2.2.2.2.2.2.2.2.2.2.2.2.2.1 x3.2.2.2.2.2.2.2.2.2.2.2.2.2.2.2.2.2.2.2.2.1 x3.2.2.2.2.2.2.2.2.2.2.2.2.2.2.2.2.2.2.2.2.2.1) x3.2.2.2.2.2.2.2.2.2.2.2.2.2.2.2.2.2.2.2.2.2.2.1 x3.2.2.2.2.2.2.2.2.2.2.2.2.2.2.2.2.2.2.2.2.2.2.2.1 x3.2.2.2.2.2.2.2.2.2.2.2.2.2.2.2.2.2.2.2.2.2.2.2.2.1) (Expr.mk x3.2.2.2.2.2.2.2.2.2.2.2.2.2.2.2.2.2.2.2.2.2.2.2.2.2.1 x3.2.2.2.2.2.2.2.2.2.2.2.2.2.2.2.2.2.2.2.2.2.2.2.2.2.2.1 x3.2.2.2.2.2.2.2.2.2.2.2.2.2.2.2.2.2.2.2.2.2.2.2.2.2.2.2.1 x3.2.2.2.2.2.2.2.2.2.2.2.2.2.2.2.2.2.2.2.2.2.2.2.2.2.2.2.2.1 x3.2.2.2.2.2.2.2.2.2.2.2.2.2.2.2.2.2.2.2.2.2.2.2.2.2.2.2.2.2.1) x3.2.2.2.2.2.2.2.2.2.2.2.2.2.2.2.2.2.2.2.2.2.2.2.2.2.2.2.2.2.2)]:List zN))*376<=140737488355328)).bind λ_=>xJ c0 c1 c2 K ((aS (q.1+1)),(q.2++([(zN.mk x3.2.1 x3.2.2.1 x3.2.2.2.1 x3.2.2.2.2.1 (zd.mk x3.2.2.2.2.2.1 x3.2.2.2.2.2.2.1 x3.2.2.2.2.2.2.2.1 x3.2.2.2.2.2.2.2.2.1 x3.2.2.2.2.2.2.2.2.2.1 x3.2.2.2.2.2.2.2.2.2.2.1 x3.2.2.2.2.2.2.2.2.2.2.2.1 x3.2.2.2.2.2.2.2.2.2.2.2.2.1 (Expr.mk x3.2.2.2.2.2.2.2.2.2.2.2.2.2.1 x3.2.2.2.2.2.2.2.2.2.2.2.2.2.2.1 x3.2.2.2.2.2.2.2.2.2.2.2.2.2.2.2.1 x3.2.2.2.2.2.2.2.2.2.2.2.2.2.2.2.2.1 x3.2.2.2.2.2.2.2.2.2.2.2.2.2.2.2.2.2.1) (zj.mk x3.2.2.2.2.2.2.2.2.2.2.2.2.2.2.2.2.2.2.1 x3.2.2.2.2.2.2.2.2.2.2.2.2.2.2.2.2.2.2.2.1 x3.2.2.2.2.2.2.2.2.2.2.2.2.2.2.2.2.2.2.2.2.1 x3.2.2.2.2.2.2.2.2.2.2.2.2.2.2.2.2.2.2.2.2.2.1) x3.2.2.2.2.2.2.2.2.2.2.2.2.2.2.2.2.2.2.2.2.2.2.1 x3.2.2.2.2.2.2.2.2.2.2.2.2.2.2.2.2.2.2.2.2.2.2.2.1 x3.2.2.2.2.2.2.2.2.2.2.2.2.2.2.2.2.2.2.2.2.2.2.2.2.1) (Expr.mk x3.2.2.2.2.2.2.2.2.2.2.2.2.2.2.2.2.2.2.2.2.2.2.2.2.2.1 x3.2.2.2.2.2.2.2.2.2.2.2.2.2.2.2.2.2.2.2.2.2.2.2.2.2.2.1 x3.2.2.2.2.2.2.2.2.2.2.2.2.2.2.2.2.2.2.2.2.2.2.2.2.2.2.2.1 x3.2.2.2.2.2.2.2.2.2.2.2.2.2.2.2.2.2.2.2.2.2.2.2.2.2.2.2.2.1 x3.2.2.2.2.2.2.2.2.2.2.2.2.2.2.2.2.2.2.2.2.2.2.2.2.2.2.2.2.2.1) x3.2.2.2.2.2.2.2.2.2.2.2.2.2.2.2.2.2.2.2.2.2.2.2.2.2.2.2.2.2.2)]:List zN))))else bc (br q.2))
def wc(s:aj):Option ((List zN)×Int):=aN (Lw s) λx1=>(bif (!(decide (x1.2.2=0)))then bc ([],x1.2.2)else(vw s x1.1 (x1.1.length:Int) KK (0,0,[])).bind λx2=>(bif (decide ((((bf x2.2):Nat):Int)>200))then bc ([],6)else(bif (!(decide (x2.1=(aS ((x1.1.length:Int)-1)))))then bc ([],14)else(xJ s (((bf x2.2):Nat):Int) x2.2 KK (0,[])).bind (xo bc λx3=>bc (x3,0)))))
def jo(e:zN):Option (Bool×(List Def)×(List au)×(List zM)×(List zd)×(List bD)×(List av)×(List zl)×Int):=(bif (decide (e.aM=0))then bc (bg,[],[],[],([(zd.mk e.zd.aL e.zd.aB e.zd.Except e.zd.gY e.zd.gW e.zd.hU e.zd.gZ e.zd.aM (Expr.mk e.zd.Test.Op e.zd.Test.N e.zd.Test.S e.zd.Test.Key e.zd.Test.aZ) e.zd.zj e.zd.Uses e.zd.gS e.zd.N)]:List zd),[],[],[],0)else(bif (decide (e.aM=2))then bc (bg,([(Def.mk e.aL (Expr.mk e.Body.Op e.Body.N e.Body.S e.Body.Key e.Body.aZ))]:List Def),[],[],[],[],[],[],0)else(bif (decide (e.aM=4))then bc (bg,[],[],([(zM.mk e.aL (decide (e.N=1)) e.aA)]:List zM),[],[],[],[],0)else bc (bd,[],[],[],[],[],[],[],0))))
def zna(x_:Def):Option (aj):=bc x_.aL
def uW(c0:Bool)(c1:List aj)(c2:Int):Nat->(Int×gA)->Option ((Bool)⊕(Unit))
 |0,_=>bh
 |K+1,q=>(bif (decide (q.1<c2))then(idx c1 q.1).bind λx1=>aN (aN (Qu x1) λx3=>(bif (!x3)then bc bg else(bif c0 then bc ((xh x1 q.2).getD bd)else bc bd))) λx2=>(bif x2 then bc (bp bd)else uW c0 c1 c2 K ((aS (q.1+1)),(oV x1 bg q.2)))else bc (br ()))
def kW(l:List aj)(unique:Bool):Option (Bool):=(uW unique l (l.length:Int) KK (0,([]:List (aj×Bool)))).bind (xo bc λ_=>bc bg)
def HH(c0:List Def)(c1:Int)(c2:Int):Nat->(Int×(List aj))->Option ((List aj))
 |0,_=>bh
 |K+1,q=>(bif (decide (q.1<c2))then(idx c0 q.1).bind λx1=>aN (zna (Def.mk x1.aL (Expr.mk x1.Body.Op x1.Body.N x1.Body.S x1.Body.Key x1.Body.aZ))) λx2=>aN (ea (bf (q.2++([x2]:List aj))*16<=140737488355328)) λ_=>HH c0 c1 c2 K ((aS (q.1+1)),(q.2++([x2]:List aj)))else bc q.2)
def Oo(l:List Def)(lV:Int):Option (Bool):=aN (HH l lV (l.length:Int) KK (0,[])) λx1=>(bif (decide ((l.length:Int)<=lV))then(kW x1 bg).bind λx2=>bc x2 else bc bd)
def znb(x_:au):Option (aj):=bc x_.aL
def uE(c0:List au)(c1:Int)(c2:Int):Nat->(Int×(List aj))->Option ((List aj))
 |0,_=>bh
 |K+1,q=>(bif (decide (q.1<c2))then(idx c0 q.1).bind λx1=>aN (znb x1) λx2=>aN (ea (bf (q.2++([x2]:List aj))*16<=140737488355328)) λ_=>uE c0 c1 c2 K ((aS (q.1+1)),(q.2++([x2]:List aj)))else bc q.2)
def KY(l:List au)(lV:Int):Option (Bool):=aN (uE l lV (l.length:Int) KK (0,[])) λx1=>(bif (decide ((l.length:Int)<=lV))then(kW x1 bg).bind λx2=>bc x2 else bc bd)
def znc(x_:zM):Option (aj):=bc x_.aL
def uF(c0:List zM)(c1:Int)(c2:Int):Nat->(Int×(List aj))->Option ((List aj))
 |0,_=>bh
 |K+1,q=>(bif (decide (q.1<c2))then(idx c0 q.1).bind λx1=>aN (znc x1) λx2=>aN (ea (bf (q.2++([x2]:List aj))*16<=140737488355328)) λ_=>uF c0 c1 c2 K ((aS (q.1+1)),(q.2++([x2]:List aj)))else bc q.2)
def KZ(l:List zM)(lV:Int):Option (Bool):=aN (uF l lV (l.length:Int) KK (0,[])) λx1=>(bif (decide ((l.length:Int)<=lV))then(kW x1 bg).bind λx2=>bc x2 else bc bd)
def znd(x_:zd):Option (aj):=bc x_.aL
def uG(c0:List zd)(c1:Int)(c2:Int):Nat->(Int×(List aj))->Option ((List aj))
 |0,_=>bh
 |K+1,q=>(bif (decide (q.1<c2))then(idx c0 q.1).bind λx1=>aN (znd (zd.mk x1.aL x1.aB x1.Except x1.gY x1.gW x1.hU x1.gZ x1.aM (Expr.mk x1.Test.Op x1.Test.N x1.Test.S x1.Test.Key x1.Test.aZ) x1.zj x1.Uses x1.gS x1.N)) λx2=>aN (ea (bf (q.2++([x2]:List aj))*16<=140737488355328)) λ_=>uG c0 c1 c2 K ((aS (q.1+1)),(q.2++([x2]:List aj)))else bc q.2)
def K1(l:List zd)(lV:Int):Option (Bool):=aN (uG l lV (l.length:Int) KK (0,[])) λx1=>(bif (decide ((l.length:Int)<=lV))then(kW x1 bg).bind λx2=>bc x2 else bc bd)
def zne(x_:bD):Option (aj):=bc x_.aL
def uH(c0:List bD)(c1:Int)(c2:Int):Nat->(Int×(List aj))->Option ((List aj))
 |0,_=>bh
 |K+1,q=>(bif (decide (q.1<c2))then(idx c0 q.1).bind λx1=>aN (zne x1) λx2=>aN (ea (bf (q.2++([x2]:List aj))*16<=140737488355328)) λ_=>uH c0 c1 c2 K ((aS (q.1+1)),(q.2++([x2]:List aj)))else bc q.2)
def K2(l:List bD)(lV:Int):Option (Bool):=aN (uH l lV (l.length:Int) KK (0,[])) λx1=>(bif (decide ((l.length:Int)<=lV))then(kW x1 bg).bind λx2=>bc x2 else bc bd)
def znf(x_:av):Option (aj):=bc x_.aL
def uI(c0:List av)(c1:Int)(c2:Int):Nat->(Int×(List aj))->Option ((List aj))
 |0,_=>bh
 |K+1,q=>(bif (decide (q.1<c2))then(idx c0 q.1).bind λx1=>aN (znf x1) λx2=>aN (ea (bf (q.2++([x2]:List aj))*16<=140737488355328)) λ_=>uI c0 c1 c2 K ((aS (q.1+1)),(q.2++([x2]:List aj)))else bc q.2)
def K3(l:List av)(lV:Int):Option (Bool):=aN (uI l lV (l.length:Int) KK (0,[])) λx1=>(bif (decide ((l.length:Int)<=lV))then(kW x1 bg).bind λx2=>bc x2 else bc bd)
def xw(ad0:Expr->Int->Option (Bool))(c0:Int)(c1:List Expr)(c2:Int):Nat->(Int)->Option ((Bool)⊕(Unit))
 |0,_=>bh
 |K+1,q=>(bif (decide (q<c2))then(idx c1 q).bind λx1=>aN (ad0 (Expr.mk x1.Op x1.N x1.S x1.Key x1.aZ) (aS (c0-1))) λx2=>(bif (!x2)then bc (bp bd)else xw ad0 c0 c1 c2 K (aS (q+1)))else bc (br ()))
def yb:Nat->Expr->Int->Option (Bool)
 |0,_,_=>bh
 |RK+1,e,depth=>aN ((bif (decide (depth=0))then bc bg else(bif (decide (e.Op<0))then bc bg else bc (decide (e.Op>=17))))) λx1=>(bif x1 then bc bd else((bif (decide (e.Op=0))then bc (br (0,(min (max e.N 0) 1099511627776),([]:aj),([]:aj)))else((bif (decide (e.Op=1))then bc (decide (e.Op=1))else bc (decide (e.Op=3)))).bind λx3=>(bif x3 then bc (br (0,0,e.S,([]:aj)))else(bif (decide (e.Op=2))then(Qu e.Key).bind λx4=>(bif (!x4)then bc (bp bd)else bc (br (0,0,e.S,e.Key)))else((bif (decide (e.Op=9))then bc (decide (e.Op=9))else bc (decide (e.Op=15)))).bind λx5=>(bif x5 then bc (br (1,0,([]:aj),([]:aj)))else(bif (decide (e.Op=16))then bc (br (3,0,([]:aj),([]:aj)))else bc (br (2,0,([]:aj),([]:aj))))))))).bind (xo bc λx2=>aN ((bif (!(decide ((e.aZ.length:Int)=x2.1)))then bc bg else(bif (!(decide (x2.2.1=e.N)))then bc bg else(bif (!(decide (x2.2.2.1=e.S)))then bc bg else(bif (!(decide (x2.2.2.2=e.Key)))then bc bg else(bif (decide (x2.1=0))then(bif (!(decide (e.Op=0)))then(Qu e.S).bind λx7=>bc (!x7)else bc bd)else bc bd)))))) λx6=>(bif x6 then bc bd else(xw (yb RK) depth e.aZ (e.aZ.length:Int) KK 0).bind (xo bc λ_=>bc bg))))
def kX(e:Expr):Option (Bool):=aN (yb KK (Expr.mk e.Op e.N e.S e.Key e.aZ) 12) λx1=>bc x1
def zng(x_:aw):Option (aj):=bc x_.aL
def uJ(c0:List aw)(c1:Int)(c2:Int):Nat->(Int×(List aj))->Option ((List aj))
 |0,_=>bh
 |K+1,q=>(bif (decide (q.1<c2))then(idx c0 q.1).bind λx1=>aN (zng x1) λx2=>aN (ea (bf (q.2++([x2]:List aj))*16<=140737488355328)) λ_=>uJ c0 c1 c2 K ((aS (q.1+1)),(q.2++([x2]:List aj)))else bc q.2)
def K4(l:List aw)(lV:Int):Option (Bool):=aN (uJ l lV (l.length:Int) KK (0,[])) λx1=>(bif (decide ((l.length:Int)<=lV))then(kW x1 bg).bind λx2=>bc x2 else bc bd)
def oI(c0:Int)(c1:Int)(c2:List Int)(c3:Int):Nat->(Int)->Option ((Bool)⊕(Unit))
 |0,_=>bh
 |K+1,q=>(bif (decide (q<c3))then(idx c2 q).bind λx1=>aN ((bif (decide (x1<c0))then bc bg else bc (decide (x1>c1)))) λx2=>(bif x2 then bc (bp bd)else oI c0 c1 c2 c3 K (aS (q+1)))else bc (br ()))
def zX(from_:Int)(FU:Int)(l:List Int):Option (Bool):=(oI from_ FU l (l.length:Int) KK 0).bind (xo bc λ_=>bc bg)
def kY(c0:List aj)(c1:List aj)(c2:Int):Nat->(Int)->Option ((Bool)⊕(Unit))
 |0,_=>bh
 |K+1,q=>(bif (decide (q<c2))then(idx c0 q).bind λx1=>aN (idx c1 q) λx2=>(bif (!(decide (x1=x2)))then bc (bp bd)else kY c0 c1 c2 K (aS (q+1)))else bc (br ()))
def js(s1:List aj)(s2:List aj):Option (Bool):=(bif (!(decide ((s1.length:Int)=(s2.length:Int))))then bc bd else(kY s1 s2 (s1.length:Int) KK 0).bind (xo bc λ_=>bc bg))
def vx(ad4:Expr->Expr->Option (Bool))(c0:List Expr)(c1:List Expr)(c2:Int):Nat->(Int)->Option ((Bool)⊕(Unit))
 |0,_=>bh
 |K+1,q=>(bif (decide (q<c2))then(idx c1 q).bind λx1=>aN (idx c0 q) λx2=>aN (ad4 (Expr.mk x1.Op x1.N x1.S x1.Key x1.aZ) (Expr.mk x2.Op x2.N x2.S x2.Key x2.aZ)) λx3=>(bif (!x3)then bc (bp bd)else vx ad4 c0 c1 c2 K (aS (q+1)))else bc (br ()))
mutual
def vh:Nat->(List Expr)->(List Expr)->Option (Bool)
 |0,_,_=>bh
 |RK+1,s1,s2=>(bif (!(decide ((s1.length:Int)=(s2.length:Int))))then bc bd else(vx (vK RK) s2 s1 (s1.length:Int) KK 0).bind (xo bc λ_=>bc bg))
def vK:Nat->Expr->Expr->Option (Bool)
 |0,_,_=>bh
 |RK+1,a,b=>(bif (decide (a.Op=b.Op))then(bif (decide (a.N=b.N))then(bif (decide (a.S=b.S))then(bif (decide (a.Key=b.Key))then(vh RK a.aZ b.aZ).bind λx1=>bc x1 else bc bd)else bc bd)else bc bd)else bc bd)
end
def kZ(a:zd)(b:zd):Option (Bool):=aN (aN (js a.aB b.aB) λx2=>(bif (!x2)then bc bg else(js a.Except b.Except).bind λx3=>(bif (!x3)then bc bg else(vK KK (Expr.mk a.Test.Op a.Test.N a.Test.S a.Test.Key a.Test.aZ) (Expr.mk b.Test.Op b.Test.N b.Test.S b.Test.Key b.Test.aZ)).bind λx4=>bc (!x4)))) λx1=>(bif x1 then bc bd else((bif (decide (a.aL=b.aL))then(bif (decide (a.gY=b.gY))then(bif (decide (a.gW=b.gW))then(bif (decide (a.hU=b.hU))then bc (a.gZ==b.gZ)else bc bd)else bc bd)else bc bd)else bc bd)).bind λx5=>(bif x5 then(bif (decide (a.aM=b.aM))then(bif (decide (a.zj.lz=b.zj.lz)&&(decide (a.zj.ly=b.zj.ly)&&(decide (a.zj.ln=b.zj.ln)&&(decide (a.zj.Den=b.zj.Den)))))then(bif (decide (a.Uses=b.Uses))then(bif (decide (a.gS=b.gS))then bc (decide (a.N=b.N))else bc bd)else bc bd)else bc bd)else bc bd)else bc bd))
def oJ(r_:zd):Option (Bool):=aN (aN (kW r_.aB bd) λx2=>(bif (!x2)then bc bg else(kW r_.Except bd).bind λx3=>(bif (!x3)then bc bg else(zX 0 1073741824 ([r_.gY,r_.hU,r_.gW]:List Int)).bind λx4=>(bif (!x4)then bc bg else(bif (!(decide (r_.gW=0)))then bc (decide (r_.gW<=r_.gY))else bc bd))))) λx1=>(bif x1 then bc bd else((bif (decide (r_.aM=0))then(kX (Expr.mk r_.Test.Op r_.Test.N r_.Test.S r_.Test.Key r_.Test.aZ)).bind λx6=>bc (x6,r_.Test.Op,r_.Test.N,r_.Test.S,r_.Test.Key,r_.Test.aZ,0,0,0,0,0,0,0)else(bif (decide (r_.aM=1))then(zX 0 3 ([r_.zj.lz]:List Int)).bind λx7=>(bif x7 then(zX 0 4096 ([r_.zj.ly,r_.zj.ln]:List Int)).bind λx8=>(bif x8 then(zX 1 4096 ([r_.zj.Den]:List Int)).bind λx9=>bc (x9,0,0,([]:aj),([]:aj),[],r_.zj.lz,r_.zj.ly,r_.zj.ln,r_.zj.Den,0,0,0)else bc (bd,0,0,([]:aj),([]:aj),[],r_.zj.lz,r_.zj.ly,r_.zj.ln,r_.zj.Den,0,0,0))else bc (bd,0,0,([]:aj),([]:aj),[],r_.zj.lz,r_.zj.ly,r_.zj.ln,r_.zj.Den,0,0,0))else(bif (decide (r_.aM=2))then(zX 1 63 ([r_.Uses]:List Int)).bind λgw=>bc (gw,0,0,([]:aj),([]:aj),[],0,0,0,0,r_.Uses,0,0)else(bif (decide (r_.aM=3))then(zX 0 5 ([r_.Uses,r_.gS]:List Int)).bind λgK=>(bif gK then(zX 0 1048576 ([r_.N]:List Int)).bind λiZ=>bc (iZ,0,0,([]:aj),([]:aj),[],0,0,0,0,r_.Uses,r_.gS,r_.N)else bc (bd,0,0,([]:aj),([]:aj),[],0,0,0,0,r_.Uses,r_.gS,r_.N))else bc (bd,0,0,([]:aj),([]:aj),[],0,0,0,0,0,0,0)))))).bind λx5=>(bif x5.1 then(kZ (zd.mk r_.aL r_.aB r_.Except r_.gY r_.gW r_.hU r_.gZ r_.aM (Expr.mk r_.Test.Op r_.Test.N r_.Test.S r_.Test.Key r_.Test.aZ) r_.zj r_.Uses r_.gS r_.N) (zd.mk r_.aL r_.aB r_.Except r_.gY r_.gW r_.hU r_.gZ r_.aM (Expr.mk x5.2.1 x5.2.2.1 x5.2.2.2.1 x5.2.2.2.2.1 x5.2.2.2.2.2.1) (zj.mk x5.2.2.2.2.2.2.1 x5.2.2.2.2.2.2.2.1 x5.2.2.2.2.2.2.2.2.1 x5.2.2.2.2.2.2.2.2.2.1) x5.2.2.2.2.2.2.2.2.2.2.1 x5.2.2.2.2.2.2.2.2.2.2.2.1 x5.2.2.2.2.2.2.2.2.2.2.2.2)).bind λkO=>bc kO else bc bd))
def uX(c0:List Def)(c1:Int)(c2:List au)(c3:List zM)(c4:List zd)(c5:List bD)(c6:List av)(c7:List zl)(c8:Int):Nat->(Int)->Option ((Bool)⊕(Unit))
 |0,_=>bh
 |K+1,q=>(bif (decide (q<c1))then(idx c0 q).bind λx1=>aN (kX (Expr.mk x1.Body.Op x1.Body.N x1.Body.S x1.Body.Key x1.Body.aZ)) λx2=>(bif (!x2)then bc (bp bd)else uX c0 c1 c2 c3 c4 c5 c6 c7 c8 K (aS (q+1)))else bc (br ()))
def A4(c0:List au)(c1:Int)(c2:Int)(c3:List aw)(c4:Int)(c5:List Def)(c6:List zM)(c7:List zd)(c8:List bD)(c9:List av)(c10:List zl)(c11:Int):Nat->(Int)->Option ((Bool)⊕(Unit))
 |0,_=>bh
 |K+1,q=>(bif (decide (q<c4))then(idx c3 q).bind λx1=>aN (zX (-1099511627776) 1099511627776 ([x1.N]:List Int)) λx2=>(bif (!x2)then bc (bp bd)else A4 c0 c1 c2 c3 c4 c5 c6 c7 c8 c9 c10 c11 K (aS (q+1)))else bc (br ()))
def qa(c0:List au)(c1:Int)(c2:List Def)(c3:List zM)(c4:List zd)(c5:List bD)(c6:List av)(c7:List zl)(c8:Int):Nat->(Int)->Option ((Bool)⊕(Unit))
 |0,_=>bh
 |K+1,q=>(bif (decide (q<c1))then(idx c0 q).bind λx1=>aN (aN (K4 x1.Rows 60) λx3=>(bif (!x3)then bc bg else(zX (-1099511627776) 1099511627776 ([x1.nn]:List Int)).bind λx4=>bc (!x4))) λx2=>(bif x2 then bc (bp bd)else(A4 c0 c1 q x1.Rows (x1.Rows.length:Int) c2 c3 c4 c5 c6 c7 c8 KK 0).bind (xo (λq=>bc (bp q)) λ_=>qa c0 c1 c2 c3 c4 c5 c6 c7 c8 K (aS (q+1))))else bc (br ()))
def uY(c0:List zM)(c1:Int)(c2:List Def)(c3:List au)(c4:List zd)(c5:List bD)(c6:List av)(c7:List zl)(c8:Int):Nat->(Int)->Option ((Bool)⊕(Unit))
 |0,_=>bh
 |K+1,q=>(bif (decide (q<c1))then(idx c0 q).bind λx1=>aN (wF x1.aA) λx2=>(bif (!x2)then bc (bp bd)else uY c0 c1 c2 c3 c4 c5 c6 c7 c8 K (aS (q+1)))else bc (br ()))
def uZ(c0:List zd)(c1:Int)(c2:List Def)(c3:List au)(c4:List zM)(c5:List bD)(c6:List av)(c7:List zl)(c8:Int):Nat->(Int)->Option ((Bool)⊕(Unit))
 |0,_=>bh
 |K+1,q=>(bif (decide (q<c1))then(idx c0 q).bind λx1=>aN (oJ (zd.mk x1.aL x1.aB x1.Except x1.gY x1.gW x1.hU x1.gZ x1.aM (Expr.mk x1.Test.Op x1.Test.N x1.Test.S x1.Test.Key x1.Test.aZ) x1.zj x1.Uses x1.gS x1.N)) λx2=>(bif (!x2)then bc (bp bd)else uZ c0 c1 c2 c3 c4 c5 c6 c7 c8 K (aS (q+1)))else bc (br ()))
def u0(c0:List bD)(c1:Int)(c2:List Def)(c3:List au)(c4:List zM)(c5:List zd)(c6:List av)(c7:List zl)(c8:Int):Nat->(Int)->Option ((Bool)⊕(Unit))
 |0,_=>bh
 |K+1,q=>(bif (decide (q<c1))then(idx c0 q).bind λx1=>aN (aN (zX 0 2 ([x1.np]:List Int)) λx3=>(bif (!x3)then bc bg else(zX 0 1099511627776 ([x1.pH]:List Int)).bind λx4=>(bif (!x4)then bc bg else(wF x1.aA).bind λx5=>bc (!x5)))) λx2=>(bif x2 then bc (bp bd)else u0 c0 c1 c2 c3 c4 c5 c6 c7 c8 K (aS (q+1)))else bc (br ()))
def A5(c0:List av)(c1:Int)(c2:Int)(c3:Int)(c4:List Def)(c5:List au)(c6:List zM)(c7:List zd)(c8:List bD)(c9:List zl)(c10:Int)(c11:List zl):Nat->(Int)->Option ((Bool)⊕(Unit))
 |0,_=>bh
 |K+1,q=>(bif (decide (q<c3))then(ea (0<=q/\q<(((bf c11):Nat):Int))).bind λ_=>aN ((c11)[(bQ q)]?) λx2=>aN (aN (zX 0 1048576 ([x2.X,x2.Y]:List Int)) λx4=>(bif (!x4)then bc bg else(zX 0 4096 ([x2.Z_]:List Int)).bind λx5=>bc (!x5))) λx3=>(bif x3 then bc (bp bd)else A5 c0 c1 c2 c3 c4 c5 c6 c7 c8 c9 c10 c11 K (aS (q+1)))else bc (br ()))
def qb(c0:List av)(c1:Int)(c2:List Def)(c3:List au)(c4:List zM)(c5:List zd)(c6:List bD)(c7:List zl)(c8:Int):Nat->(Int)->Option ((Bool)⊕(Unit))
 |0,_=>bh
 |K+1,q=>(bif (decide (q<c1))then(idx c0 q).bind λx1=>aN (aN (zX 0 20 ([x1.nB]:List Int)) λx3=>(bif (!x3)then bc bg else(zX 1 20 ([(x1.lB.length:Int)]:List Int)).bind λx4=>bc (!x4))) λx2=>(bif x2 then bc (bp bd)else(ea (bf (([x1.iW]:List zl)++x1.lB)*24<=140737488355328)).bind λ_=>(A5 c0 c1 q (((bf (([x1.iW]:List zl)++x1.lB)):Nat):Int) c2 c3 c4 c5 c6 c7 c8 (([x1.iW]:List zl)++x1.lB) KK 0).bind (xo (λq=>bc (bp q)) λ_=>qb c0 c1 c2 c3 c4 c5 c6 c7 c8 K (aS (q+1))))else bc (br ()))
def u5(c0:List zl)(c1:Int)(c2:List Def)(c3:List au)(c4:List zM)(c5:List zd)(c6:List bD)(c7:List av)(c8:Int):Nat->(Int)->Option ((Bool)⊕(Unit))
 |0,_=>bh
 |K+1,q=>(bif (decide (q<c1))then(idx c0 q).bind λx1=>aN (aN (zX (-4096) 4096 ([x1.X,x1.Y]:List Int)) λx3=>(bif (!x3)then bc bg else(zX 1 4096 ([x1.Z_]:List Int)).bind λx4=>bc (!x4))) λx2=>(bif x2 then bc (bp bd)else u5 c0 c1 c2 c3 c4 c5 c6 c7 c8 K (aS (q+1)))else bc (br ()))
def HI(p:xP):Option (Bool):=aN (aN (Oo p.aF 60) λx2=>(bif (!x2)then bc bg else(KY p.Tables 60).bind λx3=>(bif (!x3)then bc bg else(KZ p.aB 60).bind λx4=>(bif (!x4)then bc bg else(K1 p.aE 200).bind λx5=>(bif (!x5)then bc bg else(K2 p.aJ 30).bind λx6=>(bif (!x6)then bc bg else(K3 p.aG 60).bind λx7=>bc (!x7))))))) λx1=>(bif x1 then bc bd else(uX p.aF (p.aF.length:Int) p.Tables p.aB p.aE p.aJ p.aG p.aK p.aI KK 0).bind (xo bc λ_=>(qa p.Tables (p.Tables.length:Int) p.aF p.aB p.aE p.aJ p.aG p.aK p.aI KK 0).bind (xo bc λ_=>(uY p.aB (p.aB.length:Int) p.aF p.Tables p.aE p.aJ p.aG p.aK p.aI KK 0).bind (xo bc λ_=>(uZ p.aE (p.aE.length:Int) p.aF p.Tables p.aB p.aJ p.aG p.aK p.aI KK 0).bind (xo bc λ_=>(u0 p.aJ (p.aJ.length:Int) p.aF p.Tables p.aB p.aE p.aG p.aK p.aI KK 0).bind (xo bc λ_=>(qb p.aG (p.aG.length:Int) p.aF p.Tables p.aB p.aE p.aJ p.aK p.aI KK 0).bind (xo bc λ_=>(u5 p.aK (p.aK.length:Int) p.aF p.Tables p.aB p.aE p.aJ p.aG p.aI KK 0).bind (xo bc λ_=>aN (zX 0 24 ([p.aI,(p.aK.length:Int)]:List Int)) λlx=>bc lx))))))))
def jE(c0:List zx)(c1:List zx)(c2:Int):Nat->(Int)->Option ((Bool)⊕(Unit))
 |0,_=>bh
 |K+1,q=>(bif (decide (q<c2))then(idx c0 q).bind λx1=>aN (idx c1 q) λx2=>(bif (!(decide (x1.X=x2.X)&&(decide (x1.Y=x2.Y))))then bc (bp bd)else jE c0 c1 c2 K (aS (q+1)))else bc (br ()))
def xG(s1:List zx)(s2:List zx):Option (Bool):=(bif (!(decide ((s1.length:Int)=(s2.length:Int))))then bc bd else(jE s1 s2 (s1.length:Int) KK 0).bind (xo bc λ_=>bc bg))
def Oq(x_:Def)(y:Def):Option (Bool):=(bif (decide (x_.aL=y.aL))then(vK KK (Expr.mk x_.Body.Op x_.Body.N x_.Body.S x_.Body.Key x_.Body.aZ) (Expr.mk y.Body.Op y.Body.N y.Body.S y.Body.Key y.Body.aZ)).bind λx1=>bc x1 else bc bd)
def wG(c0:List Def)(c1:List Def)(c2:Int):Nat->(Int)->Option ((Bool)⊕(Unit))
 |0,_=>bh
 |K+1,q=>(bif (decide (q<c2))then(idx c1 q).bind λx1=>aN (idx c0 q) λx2=>aN (Oq (Def.mk x1.aL (Expr.mk x1.Body.Op x1.Body.N x1.Body.S x1.Body.Key x1.Body.aZ)) (Def.mk x2.aL (Expr.mk x2.Body.Op x2.Body.N x2.Body.S x2.Body.Key x2.Body.aZ))) λx3=>(bif (!x3)then bc (bp bd)else wG c0 c1 c2 K (aS (q+1)))else bc (br ()))
def xS(s1:List Def)(s2:List Def):Option (Bool):=(bif (!(decide ((s1.length:Int)=(s2.length:Int))))then bc bd else(wG s2 s1 (s1.length:Int) KK 0).bind (xo bc λ_=>bc bg))
def jF(c0:List aw)(c1:List aw)(c2:Int):Nat->(Int)->Option ((Bool)⊕(Unit))
 |0,_=>bh
 |K+1,q=>(bif (decide (q<c2))then(idx c0 q).bind λx1=>aN (idx c1 q) λx2=>(bif (!(decide (x1.aL=x2.aL)&&(decide (x1.N=x2.N))))then bc (bp bd)else jF c0 c1 c2 K (aS (q+1)))else bc (br ()))
def jy(s1:List aw)(s2:List aw):Option (Bool):=(bif (!(decide ((s1.length:Int)=(s2.length:Int))))then bc bd else(jF s1 s2 (s1.length:Int) KK 0).bind (xo bc λ_=>bc bg))
def Ot(x_:au)(y:au):Option (Bool):=(bif (decide (x_.aL=y.aL))then(bif (decide (x_.nn=y.nn))then(jy x_.Rows y.Rows).bind λx1=>bc x1 else bc bd)else bc bd)
def wH(c0:List au)(c1:List au)(c2:Int):Nat->(Int)->Option ((Bool)⊕(Unit))
 |0,_=>bh
 |K+1,q=>(bif (decide (q<c2))then(idx c1 q).bind λx1=>aN (idx c0 q) λx2=>aN (Ot x1 x2) λx3=>(bif (!x3)then bc (bp bd)else wH c0 c1 c2 K (aS (q+1)))else bc (br ()))
def xT(s1:List au)(s2:List au):Option (Bool):=(bif (!(decide ((s1.length:Int)=(s2.length:Int))))then bc bd else(wH s2 s1 (s1.length:Int) KK 0).bind (xo bc λ_=>bc bg))
def wI(c0:List zd)(c1:List zd)(c2:Int):Nat->(Int)->Option ((Bool)⊕(Unit))
 |0,_=>bh
 |K+1,q=>(bif (decide (q<c2))then(idx c1 q).bind λx1=>aN (idx c0 q) λx2=>aN (kZ (zd.mk x1.aL x1.aB x1.Except x1.gY x1.gW x1.hU x1.gZ x1.aM (Expr.mk x1.Test.Op x1.Test.N x1.Test.S x1.Test.Key x1.Test.aZ) x1.zj x1.Uses x1.gS x1.N) (zd.mk x2.aL x2.aB x2.Except x2.gY x2.gW x2.hU x2.gZ x2.aM (Expr.mk x2.Test.Op x2.Test.N x2.Test.S x2.Test.Key x2.Test.aZ) x2.zj x2.Uses x2.gS x2.N)) λx3=>(bif (!x3)then bc (bp bd)else wI c0 c1 c2 K (aS (q+1)))else bc (br ()))
def xU(s1:List zd)(s2:List zd):Option (Bool):=(bif (!(decide ((s1.length:Int)=(s2.length:Int))))then bc bd else(wI s2 s1 (s1.length:Int) KK 0).bind (xo bc λ_=>bc bg))
def Ou(x_:zM)(y:zM):Option (Bool):=(bif (decide (x_.aL=y.aL))then(bif (x_.mN==y.mN)then(xG x_.aA y.aA).bind λx1=>bc x1 else bc bd)else bc bd)
def wJ(c0:List zM)(c1:List zM)(c2:Int):Nat->(Int)->Option ((Bool)⊕(Unit))
 |0,_=>bh
 |K+1,q=>(bif (decide (q<c2))then(idx c1 q).bind λx1=>aN (idx c0 q) λx2=>aN (Ou x1 x2) λx3=>(bif (!x3)then bc (bp bd)else wJ c0 c1 c2 K (aS (q+1)))else bc (br ()))
def xV(s1:List zM)(s2:List zM):Option (Bool):=(bif (!(decide ((s1.length:Int)=(s2.length:Int))))then bc bd else(wJ s2 s1 (s1.length:Int) KK 0).bind (xo bc λ_=>bc bg))
def Ov(x_:bD)(y:bD):Option (Bool):=(bif (decide (x_.aL=y.aL))then(bif (decide (x_.np=y.np))then(bif (decide (x_.pH=y.pH))then(xG x_.aA y.aA).bind λx1=>bc x1 else bc bd)else bc bd)else bc bd)
def wK(c0:List bD)(c1:List bD)(c2:Int):Nat->(Int)->Option ((Bool)⊕(Unit))
 |0,_=>bh
 |K+1,q=>(bif (decide (q<c2))then(idx c1 q).bind λx1=>aN (idx c0 q) λx2=>aN (Ov x1 x2) λx3=>(bif (!x3)then bc (bp bd)else wK c0 c1 c2 K (aS (q+1)))else bc (br ()))
def xW(s1:List bD)(s2:List bD):Option (Bool):=(bif (!(decide ((s1.length:Int)=(s2.length:Int))))then bc bd else(wK s2 s1 (s1.length:Int) KK 0).bind (xo bc λ_=>bc bg))
def jG(c0:List zl)(c1:List zl)(c2:Int):Nat->(Int)->Option ((Bool)⊕(Unit))
 |0,_=>bh
 |K+1,q=>(bif (decide (q<c2))then(idx c0 q).bind λx1=>aN (idx c1 q) λx2=>(bif (!(decide (x1.X=x2.X)&&(decide (x1.Y=x2.Y)&&(decide (x1.Z_=x2.Z_)))))then bc (bp bd)else jG c0 c1 c2 K (aS (q+1)))else bc (br ()))
def wR(s1:List zl)(s2:List zl):Option (Bool):=(bif (!(decide ((s1.length:Int)=(s2.length:Int))))then bc bd else(jG s1 s2 (s1.length:Int) KK 0).bind (xo bc λ_=>bc bg))
def Ow(x_:av)(y:av):Option (Bool):=(bif (decide (x_.aL=y.aL))then(bif (decide (x_.iW.X=y.iW.X)&&(decide (x_.iW.Y=y.iW.Y)&&(decide (x_.iW.Z_=y.iW.Z_))))then(bif (decide (x_.nB=y.nB))then(wR x_.lB y.lB).bind λx1=>bc x1 else bc bd)else bc bd)else bc bd)
def wL(c0:List av)(c1:List av)(c2:Int):Nat->(Int)->Option ((Bool)⊕(Unit))
 |0,_=>bh
 |K+1,q=>(bif (decide (q<c2))then(idx c1 q).bind λx1=>aN (idx c0 q) λx2=>aN (Ow x1 x2) λx3=>(bif (!x3)then bc (bp bd)else wL c0 c1 c2 K (aS (q+1)))else bc (br ()))
def xX(s1:List av)(s2:List av):Option (Bool):=(bif (!(decide ((s1.length:Int)=(s2.length:Int))))then bc bd else(wL s2 s1 (s1.length:Int) KK 0).bind (xo bc λ_=>bc bg))
def L7(a:xP)(b:xP):Option (Bool):=aN (aN (xS a.aF b.aF) λx2=>(bif x2 then(xT a.Tables b.Tables).bind λx3=>(bif x3 then(xU a.aE b.aE).bind λx4=>bc x4 else bc bd)else bc bd)) λx1=>aN (aN (xV a.aB b.aB) λx6=>(bif x6 then(xW a.aJ b.aJ).bind λx7=>(bif x7 then(xX a.aG b.aG).bind λx8=>bc x8 else bc bd)else bc bd)) λx5=>(bif x1 then(bif x5 then(wR a.aK b.aK).bind λx9=>(bif x9 then bc (decide (a.aI=b.aI))else bc bd)else bc bd)else bc bd)
def qt(a:zN)(b:zN):Option (Bool):=aN ((bif (decide (a.aM=b.aM))then(bif (decide (a.aL=b.aL))then(bif (decide (a.Key=b.Key))then(bif (decide (a.N=b.N))then(xG a.aA b.aA).bind λx2=>bc x2 else bc bd)else bc bd)else bc bd)else bc bd)) λx1=>(bif x1 then(L7 (xP.mk ([(Def.mk ([]:aj) (Expr.mk a.Body.Op a.Body.N a.Body.S a.Body.Key a.Body.aZ))]:List Def) [] [] ([(zd.mk a.zd.aL a.zd.aB a.zd.Except a.zd.gY a.zd.gW a.zd.hU a.zd.gZ a.zd.aM (Expr.mk a.zd.Test.Op a.zd.Test.N a.zd.Test.S a.zd.Test.Key a.zd.Test.aZ) a.zd.zj a.zd.Uses a.zd.gS a.zd.N)]:List zd) [] [] [] 0) (xP.mk ([(Def.mk ([]:aj) (Expr.mk b.Body.Op b.Body.N b.Body.S b.Body.Key b.Body.aZ))]:List Def) [] [] ([(zd.mk b.zd.aL b.zd.aB b.zd.Except b.zd.gY b.zd.gW b.zd.hU b.zd.gZ b.zd.aM (Expr.mk b.zd.Test.Op b.zd.Test.N b.zd.Test.S b.zd.Test.Key b.zd.Test.aZ) b.zd.zj b.zd.Uses b.zd.gS b.zd.N)]:List zd) [] [] [] 0)).bind λx3=>bc x3 else bc bd)
def vy(e:zN):Option (Bool):=
 aN (jo (zN.mk e.aM e.aL e.Key e.N (zd.mk e.zd.aL e.zd.aB e.zd.Except e.zd.gY e.zd.gW e.zd.hU e.zd.gZ e.zd.aM (Expr.mk e.zd.Test.Op e.zd.Test.N e.zd.Test.S e.zd.Test.Key e.zd.Test.aZ) e.zd.zj e.zd.Uses e.zd.gS e.zd.N) (Expr.mk e.Body.Op e.Body.N e.Body.S e.Body.Key e.Body.aZ) e.aA)) λx1=>(bif x1.1 then(HI (xP.mk x1.2.1 x1.2.2.1 x1.2.2.2.1 x1.2.2.2.2.1 x1.2.2.2.2.2.1 x1.2.2.2.2.2.2.1 x1.2.2.2.2.2.2.2.1 x1.2.2.2.2.2.2.2.2)).bind λx2=>(bif x2 then(Ag (xP.mk x1.2.1 x1.2.2.1 x1.2.2.2.1 x1.2.2.2.2.1 x1.2.2.2.2.2.1 x1.2.2.2.2.2.2.1 x1.2.2.2.2.2.2.2.1 x1.2.2.2.2.2.2.2.2)).bind λx3=>aN (qt (zN.mk x3.1 x3.2.1 x3.2.2.1 x3.2.2.2.1 (zd.mk x3.2.2.2.2.1 x3.2.2.2.2.2.1 x3.2.2.2.2.2.2.1 x3.2.2.2.2.2.2.2.1 x3.2.2.2.2.2.2.2.2.1 x3.2.2.2.2.2.2.2.2.2.1 x3.2.2.2.2.2.2.2.2.2.2.1 x3.2.2.2.2.2.2.2.2.2.2.2.1 (Expr.mk x3.2.2.2.2.2.2.2.2.2.2.2.2.1 x3.2.2.2.2.2.2.2.2.2.2.2.2.2.1 x3.2.2.2.2.2.2.2.2.2.2.2.2.2.2.1 x3.2.2.2.2.2.2.2.2.2.2.2.2.2.2.2.1 x3.2.2.2.2.2.2.2.2.2.2.2.2.2.2.2.2.1) (zj.mk x3.2.2.2.2.2.2.2.2.2.2.2.2.2.2.2.2.2.1 x3.2.2.2.2.2.2.2.2.2.2.2.2.2.2.2.2.2.2.1 x3.2.2.2.2.2.2.2.2.2.2.2.2.2.2.2.2.2.2.2.1 x3.2.2.2.2.2.2.2.2.2.2.2.2.2.2.2.2.2.2.2.2.1) x3.2.2.2.2.2.2.2.2.2.2.2.2.2.2.2.2.2.2.2.2.2.1 x3.2.2.2.2.2.2.2.2.2.2.2.2.2.2.2.2.2.2.2.2.2.2.1 x3.2.2.2.2.2.2.2.2.2.2.2.2.2.2.2.2.2.2.2.2.2.2.2.1) (Expr.mk x3.2.2.2.2.2.2.2.2.2.2.2.2.2.2.2.2.2.2.2.2.2.2.2.2.1 x3.2.2.2.2.2.2.2.2.2.2.2.2.2.2.2.2.2.2.2.2.2.2.2.2.2.1 x3.2.2.2.2.2.2.2.2.2.2.2.2.2.2.2.2.2.2.2.2.2.2.2.2.2.2.1 x3.2.2.2.2.2.2.2.2.2.2.2.2.2.2.2.2.2.2.2.2.2.2.2.2.2.2.2.1 x3.2.2.2.2.2.2.2.2.2.2.2.2.2.2.2.2.2.2.2.2.2.2.2.2.2.2.2.2.1) x3.2.2.2.2.2.2.2.2.2.2.2.2.2.2.2.2.2.2.2.2.2.2.2.2.2.2.2.2.2) (zN.mk e.aM e.aL e.Key e.N (zd.mk e.zd.aL e.zd.aB e.zd.Except e.zd.gY e.zd.gW e.zd.hU e.zd.gZ e.zd.aM (Expr.mk e.zd.Test.Op e.zd.Test.N e.zd.Test.S e.zd.Test.Key e.zd.Test.aZ) e.zd.zj e.zd.Uses e.zd.gS e.zd.N) (Expr.mk e.Body.Op e.Body.N e.Body.S e.Body.Key e.Body.aZ) e.aA)) λx4=>bc x4 else bc bd)else(aN (qt (zN.mk e.aM e.aL e.Key e.N (zd.mk e.zd.aL e.zd.aB e.zd.Except e.zd.gY e.zd.gW e.zd.hU e.zd.gZ e.zd.aM (Expr.mk e.zd.Test.Op e.zd.Test.N e.zd.Test.S e.zd.Test.Key e.zd.Test.aZ) e.zd.zj e.zd.Uses e.zd.gS e.zd.N) (Expr.mk e.Body.Op e.Body.N e.Body.S e.Body.Key e.Body.aZ) e.aA) (zN.mk e.aM e.aL e.Key e.N (zd.mk ([]:aj) [] [] 0 0 0 bd 0 (Expr.mk 0 0 ([]:aj) ([]:aj) []) (zj.mk 0 0 0 0) 0 0 0) (Expr.mk 0 0 ([]:aj) ([]:aj) []) [])) λx6=>(bif (!x6)then bc bg else(Qu e.aL).bind λx7=>bc (!x7))).bind λx5=>(bif x5 then bc bd else(bif (decide (e.aM=1))then(bif (decide (e.Key=([]:aj)))then(bif (decide (e.N>=1))then bc (decide (e.N<=1073741824))else bc bd)else bc bd)else(bif (decide (e.aM=3))then(Qu e.Key).bind λx8=>(bif x8 then(bif (decide (e.N>=(-1099511627776)))then bc (decide (e.N<=1099511627776))else bc bd)else bc bd)else(bif (decide (e.aM=5))then(bif (decide (e.Key=([]:aj)))then(bif (decide (e.N>=0))then bc (decide (e.N<=1099511627776))else bc bd)else bc bd)else bc bd)))))
def HJ(e:zN):Option (Bool):=aN (vy (zN.mk e.aM e.aL e.Key e.N (zd.mk e.zd.aL e.zd.aB e.zd.Except e.zd.gY e.zd.gW e.zd.hU e.zd.gZ e.zd.aM (Expr.mk e.zd.Test.Op e.zd.Test.N e.zd.Test.S e.zd.Test.Key e.zd.Test.aZ) e.zd.zj e.zd.Uses e.zd.gS e.zd.N) (Expr.mk e.Body.Op e.Body.N e.Body.S e.Body.Key e.Body.aZ) e.aA)) λx1=>bc (!x1)
def yt(c0:List zN)(c1:Int):Nat->(Int)->Option ((Int)⊕(Unit))
 |0,_=>bh
 |K+1,q=>(bif (decide (q<c1))then(idx c0 q).bind λx1=>aN (HJ x1) λx2=>(bif x2 then bc (bp q)else yt c0 c1 K (aS (q+1)))else bc (br ()))
def j9(s:List zN):Option (Int):=(yt s (s.length:Int) KK 0).bind (xo bc λ_=>bc (-1))
def xK(s:List zN):Option (Bool):=aN (j9 s) λx1=>bc (decide (x1>=0))
def A6(a0:aj):Option (aj):=bc a0
def HK(a0:aj)(a1:Int):Option (aj):=Px a0 a1
def oK(a0:aj)(a1:aj):Option (Int×aj):=aN (ea (bf a0+bf a1<=140737488355328)) λ_=>bc ((a1.length:Int),a0++a1)
def Jk(a0:Int):Option (aj):=L6 a0
def u6(c0:List (Int⊕aj))(c1:Int):Nat->(aj×Int)->Option (aj)
 |0,_=>bh
 |K+1,q=>(bif (decide (q.2<c1))then(aN (idx c0 q.2) λx2=>aN (aN (A6 q.1) λx4=>aN ((bif (!(decide (x4=([]:aj))))then(idx x4 (aS ((x4.length:Int)-1))).bind λx6=>bc (!(decide (((x6.toNat:Nat):Int)=10)))else bc bd)) λx5=>(bif x5 then(HK q.1 32).bind λx7=>bc x7 else bc q.1)) λx3=>(bif (Eu x2)then(oK x3 (anyS x2)).bind λx8=>bc x8.2 else(bif (!(Eu x2))then((bif (decide ((anyI x2)<0))then(oK x3 ud).bind λgw=>bc (gw.2,(aS (0-(anyI x2))))else bc (x3,(anyI x2)))).bind λx9=>aN (Jk x9.2) λgK=>aN (oK x9.1 gK) λiZ=>bc iZ.2 else bc x3))).bind λx1=>u6 c0 c1 K (x1,(aS (q.2+1)))else bc q.1)
def yc(b:aj)(l:List (Int⊕aj)):Option (aj):=aN (u6 l (l.length:Int) KK (b,0)) λx1=>bc x1
def HM(c0:List zf)(c1:Int)(c2:Int)(c3:Int)(c4:aj)(c5:aj)(c6:List Expr):Nat->(Int)->Option ((Int×aj)⊕(Unit))
 |0,_=>bh
 |K+1,q=>(bif (decide (q<c1))then(idx c0 q).bind λx1=>(bif (decide (x1.op=c2))then bc (bp (x1.form,x1.text))else HM c0 c1 c2 c3 c4 c5 c6 K (aS (q+1)))else bc (br ()))
def Ox(e:Expr):Option (Int×aj):=aN jC λx1=>(HM x1 (x1.length:Int) e.Op e.N e.S e.Key e.aZ KK 0).bind (xo bc λ_=>(bif (decide (e.Op=16))then bc (0,([]:aj))else(bif (decide (e.Op=15))then bc (3,([]:aj))else(bif (decide (e.Op=9))then bc (7,([]:aj))else bc (8,([]:aj))))))
def yz(a0:aj)(a1:aj):Option (Int×aj):=aN (ea (bf a0+bf a1<=140737488355328)) λ_=>bc ((a1.length:Int),a0++a1)
def jP(MO:aj->Expr->Int->Option (aj))(c0:Int)(c1:Int)(c2:Int)(c3:aj)(c4:aj)(c5:List Expr)(c6:List aj):Nat->(aj×Int)->Option (aj)
 |0,_=>bh
 |K+1,q=>(bif (decide (q.2<c0))then(ea (0<=q.2/\q.2<(((bf c6):Nat):Int))).bind λ_=>aN ((c6)[(bQ q.2)]?) λx2=>aN (yz q.1 x2) λx3=>aN (idx c5 q.2) λx4=>aN (MO x3.2 x4 0) λx5=>jP MO c0 c1 c2 c3 c4 c5 c6 K (x5,(aS (q.2+1)))else bc q.1)
def jQ(MO:aj->Expr->Int->Option (aj))(c0:Int)(c1:Int)(c2:Int)(c3:aj)(c4:aj)(c5:List Expr)(c6:List aj):Nat->(aj×Int)->Option (aj)
 |0,_=>bh
 |K+1,q=>(bif (decide (q.2<c0))then(ea (0<=q.2/\q.2<(((bf c6):Nat):Int))).bind λ_=>aN ((c6)[(bQ q.2)]?) λx2=>aN (yz q.1 x2) λx3=>aN (idx c5 q.2) λx4=>aN (MO x3.2 x4 0) λx5=>jQ MO c0 c1 c2 c3 c4 c5 c6 K (x5,(aS (q.2+1)))else bc q.1)
def xN:Nat->aj->Expr->Int->Option (aj)
 |0,_,_,_=>bh
 |RK+1,b,e,form=>aN (Ox (Expr.mk e.Op e.N e.S e.Key e.aZ)) λx1=>(bif (decide (x1.1<form))then(yz b Gp).bind λx2=>(bif (decide (e.Op=0))then(Jk e.N).bind λx3=>aN (yz x2.2 x3) λx4=>aN (tI x4.2) λx5=>bc x5 else(bif (decide (e.Op=1))then(yz x2.2 e.S).bind λx6=>aN (tI x6.2) λx7=>bc x7 else(bif (decide (e.Op=2))then(ea (bf wC+bf e.S<=9223372036854775807)).bind λ_=>aN (ea (bf (wC++e.S)+bf gU<=9223372036854775807)) λ_=>aN (ea (bf ((wC++e.S)++gU)+bf e.Key<=9223372036854775807)) λ_=>aN (yz x2.2 (((wC++e.S)++gU)++e.Key)) λgK=>aN (tI gK.2) λiZ=>bc iZ else(bif (decide (e.Op=3))then(ea (bf oC+bf e.S<=9223372036854775807)).bind λ_=>aN (yz x2.2 (oC++e.S)) λlP=>aN (tI lP.2) λlx=>bc lx else(bif (decide (e.Op=16))then(jP (xN RK) ((3:Nat):Int) e.Op e.N e.S e.Key e.aZ ([oA,yF,yE]:List aj) KK (x2.2,0)).bind λlY=>aN (tI lY) λl9=>bc l9 else(bif (decide (e.Op=15))then(yz x2.2 VS).bind λmK=>aN (idx e.aZ 0) λi_=>aN (xN RK mK.2 i_ x1.1) λnF=>aN (tI nF) λmY=>bc mY else(bif (decide (e.Op=9))then(yz x2.2 ud).bind λmy=>aN (idx e.aZ 0) λpM=>aN (xN RK my.2 pM x1.1) λmZ=>aN (tI mZ) λrZ=>bc rZ else((bif (decide (x1.1=4))then bc (aS (x1.1+1))else bc x1.1)).bind λmj=>aN (idx e.aZ 0) λmz=>aN (xN RK x2.2 mz mj) λtD=>aN (ea (bf gU+bf x1.2<=9223372036854775807)) λ_=>aN (ea (bf (gU++x1.2)+bf gU<=9223372036854775807)) λ_=>aN (yz tD ((gU++x1.2)++gU)) λpN=>aN (idx e.aZ 1) λnG=>aN (xN RK pN.2 nG (aS (x1.1+1))) λoB=>aN (tI oB) λr7=>bc r7)))))))else(bif (decide (e.Op=0))then(Jk e.N).bind λsN=>aN (yz b sN) λnR=>bc nR.2 else(bif (decide (e.Op=1))then(yz b e.S).bind λs9=>bc s9.2 else(bif (decide (e.Op=2))then(ea (bf wC+bf e.S<=9223372036854775807)).bind λ_=>aN (ea (bf (wC++e.S)+bf gU<=9223372036854775807)) λ_=>aN (ea (bf ((wC++e.S)++gU)+bf e.Key<=9223372036854775807)) λ_=>aN (yz b (((wC++e.S)++gU)++e.Key)) λC4=>bc C4.2 else(bif (decide (e.Op=3))then(ea (bf oC+bf e.S<=9223372036854775807)).bind λ_=>aN (yz b (oC++e.S)) λIS=>bc IS.2 else(bif (decide (e.Op=16))then(jQ (xN RK) ((3:Nat):Int) e.Op e.N e.S e.Key e.aZ ([oA,yF,yE]:List aj) KK (b,0)).bind λEl=>bc El else(bif (decide (e.Op=15))then(yz b VS).bind λEm=>aN (idx e.aZ 0) λIT=>aN (xN RK Em.2 IT x1.1) λCb=>bc Cb else(bif (decide (e.Op=9))then(yz b ud).bind λC6=>aN (idx e.aZ 0) λBg=>aN (xN RK C6.2 Bg x1.1) λIU=>bc IU else((bif (decide (x1.1=4))then bc (aS (x1.1+1))else bc x1.1)).bind λC7=>aN (idx e.aZ 0) λIV=>aN (xN RK b IV C7) λr9=>aN (ea (bf gU+bf x1.2<=9223372036854775807)) λ_=>aN (ea (bf (gU++x1.2)+bf gU<=9223372036854775807)) λ_=>aN (yz r9 ((gU++x1.2)++gU)) λFV=>aN (idx e.aZ 1) λrH=>aN (xN RK FV.2 rH (aS (x1.1+1))) λFW=>bc FW))))))))
def kN(a0:aj):Option (aj):=bc a0
def qc(b:aj):Option (aj):=aN (yc b ([(br z8)]:List (Int⊕aj))) λx1=>aN (HK x1 10) λx2=>bc x2
def K5(b:aj)(e:Expr):Option (aj):=aN (xN KK ([]:aj) (Expr.mk e.Op e.N e.S e.Key e.aZ) 0) λx1=>aN (kN x1) λx2=>aN (yc b ([(br x2)]:List (Int⊕aj))) λx3=>aN (qc x3) λx4=>bc x4
def xL(c0:List zx)(c1:Int):Nat->(aj×Int)->Option (aj)
 |0,_=>bh
 |K+1,q=>(bif (decide (q.2<c1))then(idx c0 q.2).bind λx1=>aN (yc q.1 ([(bp x1.X),(bp x1.Y)]:List (Int⊕aj))) λx2=>xL c0 c1 K (x2,(aS (q.2+1)))else bc q.1)
def A7(b:aj)(l:List zx):Option (aj):=aN (xL l (l.length:Int) KK (b,0)) λx1=>aN (qc x1) λx2=>bc x2
def L8(a0:List aj)(a1:aj):Option (aj):=J.qo a0 a1
def jH(c0:Int)(c1:aj)(c2:List aj)(c3:List aj)(c4:Int)(c5:Int)(c6:Int)(c7:Bool)(c8:Int)(c9:Int)(c10:Int)(c11:aj)(c12:aj)(c13:List Expr)(c14:Int)(c15:Int)(c16:Int)(c17:Int)(c18:Int)(c19:Int)(c20:Int)(po:(List (List aj))):Nat->(aj×Int)->Option (aj)
 |0,_=>bh
 |K+1,q=>(bif (decide (q.2<c0))then(aN (ea (0<=q.2/\q.2<(((bf po):Nat):Int))) λ_=>aN ((po)[(bQ q.2)]?) λx3=>(bif (decide ((x3.length:Int)>0))then(ea (0<=q.2/\q.2<((2:Nat):Int))).bind λ_=>aN ((([Z9,yx]:List aj))[(bQ q.2)]?) λx5=>aN (L8 x3 gU) λx6=>aN (yc q.1 ([(br x5),(br x6)]:List (Int⊕aj))) λx7=>bc x7 else bc q.1)).bind λx1=>jH c0 c1 c2 c3 c4 c5 c6 c7 c8 c9 c10 c11 c12 c13 c14 c15 c16 c17 c18 c19 c20 po K (x1,(aS (q.2+1)))else bc q.1)
def vz(c0:Int)(c1:aj)(c2:List aj)(c3:List aj)(c4:Int)(c5:Int)(c6:Int)(c7:Bool)(c8:Int)(c9:Int)(c10:Int)(c11:aj)(c12:aj)(c13:List Expr)(c14:Int)(c15:Int)(c16:Int)(c17:Int)(c18:Int)(c19:Int)(c20:Int)(po:List Int):Nat->(aj×Int)->Option (aj)
 |0,_=>bh
 |K+1,q=>(bif (decide (q.2<c0))then(aN (ea (0<=q.2/\q.2<(((bf po):Nat):Int))) λ_=>aN ((po)[(bQ q.2)]?) λx3=>(bif (!(decide (x3=0)))then(ea (0<=q.2/\q.2<((3:Nat):Int))).bind λ_=>aN ((([wP,xi,xp]:List aj))[(bQ q.2)]?) λx5=>aN (yc q.1 ([(br x5),(bp x3)]:List (Int⊕aj))) λx6=>bc x6 else bc q.1)).bind λx1=>vz c0 c1 c2 c3 c4 c5 c6 c7 c8 c9 c10 c11 c12 c13 c14 c15 c16 c17 c18 c19 c20 po K (x1,(aS (q.2+1)))else bc q.1)
def xO(c0:Int)(c1:aj)(c2:List aj)(c3:List aj)(c4:Int)(c5:Int)(c6:Int)(c7:Bool)(c8:Int)(c9:Int)(c10:Int)(c11:aj)(c12:aj)(c13:List Expr)(c14:Int)(c15:Int)(c16:Int)(c17:Int)(c18:Int)(c19:Int)(c20:Int)(po:List aj):Nat->(aj×Int)->Option (aj)
 |0,_=>bh
 |K+1,q=>(bif (decide (q.2<c0))then(aN (ea (0<=q.2/\q.2<(((bf po):Nat):Int))) λ_=>aN ((po)[(bQ q.2)]?) λx3=>aN (ea (0<=q.2)) λ_=>(bif (decide ((IntKind.i64.wrap ((cM IntKind.i64.bits (ik c18 (2 ^ (min (bQ q.2) IntKind.i64.bits))) &&& cM IntKind.i64.bits 1).toNat:Int))=1))then(yc q.1 ([(br x3)]:List (Int⊕aj))).bind λx5=>bc x5 else bc q.1)).bind λx1=>xO c0 c1 c2 c3 c4 c5 c6 c7 c8 c9 c10 c11 c12 c13 c14 c15 c16 c17 c18 c19 c20 po K (x1,(aS (q.2+1)))else bc q.1)
def Oy(b:aj)(r_:zd):Option (aj):=
 aN (yc b ([(br yn),(br r_.aL)]:List (Int⊕aj))) λx1=>aN (jH ((2:Nat):Int) r_.aL r_.aB r_.Except r_.gY r_.gW r_.hU r_.gZ r_.aM r_.Test.Op r_.Test.N r_.Test.S r_.Test.Key r_.Test.aZ r_.zj.lz r_.zj.ly r_.zj.ln r_.zj.Den r_.Uses r_.gS r_.N ([r_.aB,r_.Except]:List (List aj)) KK (x1,0)) λx2=>aN (vz ((3:Nat):Int) r_.aL r_.aB r_.Except r_.gY r_.gW r_.hU r_.gZ r_.aM r_.Test.Op r_.Test.N r_.Test.S r_.Test.Key r_.Test.aZ r_.zj.lz r_.zj.ly r_.zj.ln r_.zj.Den r_.Uses r_.gS r_.N ([r_.gY,r_.gW,r_.hU]:List Int) KK (x2,0)) λx3=>aN ((bif r_.gZ then(yc x3 ([(br yB)]:List (Int⊕aj))).bind λx5=>bc x5 else bc x3)) λx4=>aN (yc x4 ([(br wQ)]:List (Int⊕aj))) λx6=>aN (jx zi) λx7=>((bif (decide (r_.aM=0))then(K5 x6 (Expr.mk r_.Test.Op r_.Test.N r_.Test.S r_.Test.Key r_.Test.aZ)).bind λx9=>bc (bp x9)else(bif (decide (r_.aM=1))then(yc x6 ([(br jh),(bp r_.zj.lz),(br qD),(bp r_.zj.ly),(br wB),(bp r_.zj.ln),(bp r_.zj.Den)]:List (Int⊕aj))).bind λgw=>bc (br gw)else(bif (decide (r_.aM=3))then(ea (0<=r_.Uses/\r_.Uses<(((bf x7):Nat):Int))).bind λ_=>aN ((x7)[(bQ r_.Uses)]?) λiZ=>aN (ea (0<=r_.gS/\r_.gS<(((bf x7):Nat):Int))) λ_=>aN ((x7)[(bQ r_.gS)]?) λlP=>aN (yc x6 ([(br jg),(br iZ),(br lP),(bp r_.N)]:List (Int⊕aj))) λlx=>bc (br lx)else(bif (decide (r_.aM=2))then(yc x6 ([(br kH)]:List (Int⊕aj))).bind λlY=>aN (xO (((bf x7):Nat):Int) r_.aL r_.aB r_.Except r_.gY r_.gW r_.hU r_.gZ r_.aM r_.Test.Op r_.Test.N r_.Test.S r_.Test.Key r_.Test.aZ r_.zj.lz r_.zj.ly r_.zj.ln r_.zj.Den r_.Uses r_.gS r_.N x7 KK (lY,0)) λl9=>bc (br l9)else bc (br x6)))))).bind (xo bc λx8=>aN (qc x8) λmK=>bc mK)
def XO(a0:aj):Option (Int):=bc (a0.length:Int)
def vL(c0:List Def)(c1:Int)(c2:List au)(c3:List zM)(c4:List zd)(c5:List bD)(c6:List av)(c7:List zl)(c8:Int):Nat->(Int×aj)->Option (aj)
 |0,_=>bh
 |K+1,q=>(bif (decide (q.1<c1))then(idx c0 q.1).bind λx1=>aN (yc q.2 ([(br zO),(br x1.aL),(br uy)]:List (Int⊕aj))) λx2=>aN (K5 x2 (Expr.mk x1.Body.Op x1.Body.N x1.Body.S x1.Body.Key x1.Body.aZ)) λx3=>vL c0 c1 c2 c3 c4 c5 c6 c7 c8 K ((aS (q.1+1)),x3)else bc q.2)
def vM(c0:List au)(c1:Int)(c2:Int)(c3:List aw)(c4:Int)(c5:List Def)(c6:List zM)(c7:List zd)(c8:List bD)(c9:List av)(c10:List zl)(c11:Int)(c12:aj)(c13:Int):Nat->(Int×aj)->Option (aj)
 |0,_=>bh
 |K+1,q=>(bif (decide (q.1<c4))then(idx c3 q.1).bind λx1=>aN (yc q.2 ([(br x1.aL),(bp x1.N)]:List (Int⊕aj))) λx2=>vM c0 c1 c2 c3 c4 c5 c6 c7 c8 c9 c10 c11 c12 c13 K ((aS (q.1+1)),x2)else bc q.2)
def vN(c0:List au)(c1:Int)(c2:List Def)(c3:List zM)(c4:List zd)(c5:List bD)(c6:List av)(c7:List zl)(c8:Int):Nat->(Int×aj)->Option (aj)
 |0,_=>bh
 |K+1,q=>(bif (decide (q.1<c1))then(idx c0 q.1).bind λx1=>aN (yc q.2 ([(br yG),(br x1.aL)]:List (Int⊕aj))) λx2=>aN (vM c0 c1 q.1 x1.Rows (x1.Rows.length:Int) c2 c3 c4 c5 c6 c7 c8 x1.aL x1.nn KK (0,x2)) λx3=>aN (yc x3 ([(br je),(bp x1.nn)]:List (Int⊕aj))) λx4=>aN (qc x4) λx5=>vN c0 c1 c2 c3 c4 c5 c6 c7 c8 K ((aS (q.1+1)),x5)else bc q.2)
def vO(c0:List zM)(c1:Int)(c2:List Def)(c3:List au)(c4:List zd)(c5:List bD)(c6:List av)(c7:List zl)(c8:Int):Nat->(Int×aj)->Option (aj)
 |0,_=>bh
 |K+1,q=>(bif (decide (q.1<c1))then(idx c0 q.1).bind λx1=>aN ((bif x1.mN then bc zu else bc zR)) λx2=>aN (yc q.2 ([(br x2),(br x1.aL)]:List (Int⊕aj))) λx3=>aN (A7 x3 x1.aA) λx4=>vO c0 c1 c2 c3 c4 c5 c6 c7 c8 K ((aS (q.1+1)),x4)else bc q.2)
def vP(c0:List zd)(c1:Int)(c2:List Def)(c3:List au)(c4:List zM)(c5:List bD)(c6:List av)(c7:List zl)(c8:Int):Nat->(Int×aj)->Option (aj)
 |0,_=>bh
 |K+1,q=>(bif (decide (q.1<c1))then(idx c0 q.1).bind λx1=>aN (Oy q.2 (zd.mk x1.aL x1.aB x1.Except x1.gY x1.gW x1.hU x1.gZ x1.aM (Expr.mk x1.Test.Op x1.Test.N x1.Test.S x1.Test.Key x1.Test.aZ) x1.zj x1.Uses x1.gS x1.N)) λx2=>vP c0 c1 c2 c3 c4 c5 c6 c7 c8 K ((aS (q.1+1)),x2)else bc q.2)
def vQ(c0:List bD)(c1:Int)(c2:List Def)(c3:List au)(c4:List zM)(c5:List zd)(c6:List av)(c7:List zl)(c8:Int):Nat->(Int×aj)->Option (aj)
 |0,_=>bh
 |K+1,q=>(bif (decide (q.1<c1))then(idx c0 q.1).bind λx1=>aN (jx zQ) λx2=>aN (ea (0<=x1.np/\x1.np<(((bf x2):Nat):Int))) λ_=>aN ((x2)[(bQ x1.np)]?) λx4=>aN (yc q.2 ([(br Br),(br x1.aL),(br x4),(bp x1.pH)]:List (Int⊕aj))) λx5=>aN (A7 x5 x1.aA) λx6=>vQ c0 c1 c2 c3 c4 c5 c6 c7 c8 K ((aS (q.1+1)),x6)else bc q.2)
def vR(c0:List av)(c1:Int)(c2:Int)(c3:List zl)(c4:Int)(c5:List Def)(c6:List au)(c7:List zM)(c8:List zd)(c9:List bD)(c10:List zl)(c11:Int):Nat->(Int×aj)->Option (aj)
 |0,_=>bh
 |K+1,q=>(bif (decide (q.1<c4))then(idx c3 q.1).bind λx1=>aN (yc q.2 ([(bp x1.X),(bp x1.Y),(bp x1.Z_)]:List (Int⊕aj))) λx2=>vR c0 c1 c2 c3 c4 c5 c6 c7 c8 c9 c10 c11 K ((aS (q.1+1)),x2)else bc q.2)
def vS(c0:List av)(c1:Int)(c2:List Def)(c3:List au)(c4:List zM)(c5:List zd)(c6:List bD)(c7:List zl)(c8:Int):Nat->(Int×aj)->Option (aj)
 |0,_=>bh
 |K+1,q=>(bif (decide (q.1<c1))then(idx c0 q.1).bind λx1=>aN (yc q.2 ([(br Qt),(br x1.aL),(bp x1.iW.X),(bp x1.iW.Y),(bp x1.iW.Z_),(br Yc),(bp x1.nB),(br wQ)]:List (Int⊕aj))) λx2=>aN (vR c0 c1 q.1 x1.lB (x1.lB.length:Int) c2 c3 c4 c5 c6 c7 c8 KK (0,x2)) λx3=>aN (qc x3) λx4=>vS c0 c1 c2 c3 c4 c5 c6 c7 c8 K ((aS (q.1+1)),x4)else bc q.2)
def vT(c0:List zl)(c1:Int)(c2:List Def)(c3:List au)(c4:List zM)(c5:List zd)(c6:List bD)(c7:List av)(c8:Int):Nat->(Int×aj)->Option (aj)
 |0,_=>bh
 |K+1,q=>(bif (decide (q.1<c1))then(idx c0 q.1).bind λx1=>aN (ea (0<=(min q.1 1)/\(min q.1 1)<((2:Nat):Int))) λ_=>aN ((([QR,QT]:List aj))[(bQ (min q.1 1))]?) λx3=>aN (yc q.2 ([(br x3),(bp x1.X),(bp x1.Y),(bp x1.Z_)]:List (Int⊕aj))) λx4=>vT c0 c1 c2 c3 c4 c5 c6 c7 c8 K ((aS (q.1+1)),x4)else bc q.2)
def QZ(p:xP):Option (aj×Int):=aN (HI p) λx1=>(bif (!x1)then bc (([]:aj),1)else(vL p.aF (p.aF.length:Int) p.Tables p.aB p.aE p.aJ p.aG p.aK p.aI KK (0,([]:aj))).bind λx2=>aN (vN p.Tables (p.Tables.length:Int) p.aF p.aB p.aE p.aJ p.aG p.aK p.aI KK (0,x2)) λx3=>aN (vO p.aB (p.aB.length:Int) p.aF p.Tables p.aE p.aJ p.aG p.aK p.aI KK (0,x3)) λx4=>aN (vP p.aE (p.aE.length:Int) p.aF p.Tables p.aB p.aJ p.aG p.aK p.aI KK (0,x4)) λx5=>aN (vQ p.aJ (p.aJ.length:Int) p.aF p.Tables p.aB p.aE p.aG p.aK p.aI KK (0,x5)) λx6=>aN (vS p.aG (p.aG.length:Int) p.aF p.Tables p.aB p.aE p.aJ p.aK p.aI KK (0,x6)) λx7=>aN (vT p.aK (p.aK.length:Int) p.aF p.Tables p.aB p.aE p.aJ p.aG p.aI KK (0,x7)) λx8=>aN ((bif (decide ((p.aK.length:Int)>0))then(qc x8).bind λgw=>bc gw else bc x8)) λx9=>aN ((bif (!(decide (p.aI=0)))then(yc x9 ([(br AG),(bp p.aI)]:List (Int⊕aj))).bind λiZ=>aN (qc iZ) λkO=>bc kO else bc x9)) λgK=>aN (XO gK) λlP=>(bif (decide (lP>8000))then bc (([]:aj),6)else(A6 gK).bind λlx=>bc (lx,0)))
def VW(a0:aj)(a1:aj)(a2:aj)(a3:Int):Option (aj):=VP a0 a1 a2 a3
def ka(e:zN):Option (aj):=aN (Jk e.N) λx1=>aN (VW x1 yX ud 1) λx2=>(bif (decide (e.aM=1))then(ea (bf YX+bf e.aL<=9223372036854775807)).bind λ_=>aN (ea (bf (YX++e.aL)+bf gU<=9223372036854775807)) λ_=>aN (ea (bf ((YX++e.aL)++gU)+bf x2<=9223372036854775807)) λ_=>aN (ea (bf (((YX++e.aL)++gU)++x2)+bf xB<=9223372036854775807)) λ_=>bc ((((YX++e.aL)++gU)++x2)++xB)else(bif (decide (e.aM=3))then(ea (bf Qs+bf e.aL<=9223372036854775807)).bind λ_=>aN (ea (bf (Qs++e.aL)+bf gU<=9223372036854775807)) λ_=>aN (ea (bf ((Qs++e.aL)++gU)+bf e.Key<=9223372036854775807)) λ_=>aN (ea (bf (((Qs++e.aL)++gU)++e.Key)+bf gU<=9223372036854775807)) λ_=>aN (ea (bf ((((Qs++e.aL)++gU)++e.Key)++gU)+bf x2<=9223372036854775807)) λ_=>aN (ea (bf (((((Qs++e.aL)++gU)++e.Key)++gU)++x2)+bf xB<=9223372036854775807)) λ_=>bc ((((((Qs++e.aL)++gU)++e.Key)++gU)++x2)++xB)else(ea (bf Ac+bf e.aL<=9223372036854775807)).bind λ_=>aN (ea (bf (Ac++e.aL)+bf gU<=9223372036854775807)) λ_=>aN (ea (bf ((Ac++e.aL)++gU)+bf x2<=9223372036854775807)) λ_=>aN (ea (bf (((Ac++e.aL)++gU)++x2)+bf xB<=9223372036854775807)) λ_=>bc ((((Ac++e.aL)++gU)++x2)++xB)))
def O_(a0:aj):Option (Int):=bc (a0.length:Int)
def yN(c0:List zN)(c1:Int):Nat->(Int×Int×aj)->Option ((aj×Int)⊕(Int×aj))
 |0,_=>bh
 |K+1,q=>(bif (decide (q.2.1<c1))then(idx c0 q.2.1).bind λx1=>aN (vy (zN.mk x1.aM x1.aL x1.Key x1.N (zd.mk x1.zd.aL x1.zd.aB x1.zd.Except x1.zd.gY x1.zd.gW x1.zd.hU x1.zd.gZ x1.zd.aM (Expr.mk x1.zd.Test.Op x1.zd.Test.N x1.zd.Test.S x1.zd.Test.Key x1.zd.Test.aZ) x1.zd.zj x1.zd.Uses x1.zd.gS x1.zd.N) (Expr.mk x1.Body.Op x1.Body.N x1.Body.S x1.Body.Key x1.Body.aZ) x1.aA)) λx2=>(bif (!x2)then bc (bp (([]:aj),1))else(aN (jo (zN.mk x1.aM x1.aL x1.Key x1.N (zd.mk x1.zd.aL x1.zd.aB x1.zd.Except x1.zd.gY x1.zd.gW x1.zd.hU x1.zd.gZ x1.zd.aM (Expr.mk x1.zd.Test.Op x1.zd.Test.N x1.zd.Test.S x1.zd.Test.Key x1.zd.Test.aZ) x1.zd.zj x1.zd.Uses x1.zd.gS x1.zd.N) (Expr.mk x1.Body.Op x1.Body.N x1.Body.S x1.Body.Key x1.Body.aZ) x1.aA)) λx4=>(bif x4.1 then(QZ (xP.mk x4.2.1 x4.2.2.1 x4.2.2.2.1 x4.2.2.2.2.1 x4.2.2.2.2.2.1 x4.2.2.2.2.2.2.1 x4.2.2.2.2.2.2.2.1 x4.2.2.2.2.2.2.2.2)).bind λx5=>(bif (!(decide (x5.2=0)))then bc (6,x5.1)else bc (q.1,x5.1))else(ka (zN.mk x1.aM x1.aL x1.Key x1.N (zd.mk x1.zd.aL x1.zd.aB x1.zd.Except x1.zd.gY x1.zd.gW x1.zd.hU x1.zd.gZ x1.zd.aM (Expr.mk x1.zd.Test.Op x1.zd.Test.N x1.zd.Test.S x1.zd.Test.Key x1.zd.Test.aZ) x1.zd.zj x1.zd.Uses x1.zd.gS x1.zd.N) (Expr.mk x1.Body.Op x1.Body.N x1.Body.S x1.Body.Key x1.Body.aZ) x1.aA)).bind λx6=>bc (q.1,x6))).bind λx3=>aN (yz q.2.2 x3.2) λx7=>yN c0 c1 K (x3.1,(aS (q.2.1+1)),x7.2))else bc (br (q.1,q.2.2)))
def jt(l:List zN):Option (aj×Int):=aN (aN (xK l) λx2=>(bif (!x2)then bc (decide ((l.length:Int)>200))else bc bd)) λx1=>(bif x1 then bc (([]:aj),6)else(yN l (l.length:Int) KK (0,0,([]:aj))).bind (xo bc λx3=>aN ((bif (!(decide (x3.1=0)))then bc bg else(O_ x3.2).bind λx5=>bc (decide (x5>8000)))) λx4=>(bif x4 then bc (([]:aj),6)else(kN x3.2).bind λx6=>bc (x6,0))))
def qP(s:List Def):Option ((List Def)):=aN (ea (bf (([]:List Def)++s)*88<=140737488355328)) λ_=>bc (([]:List Def)++s)
def abJ(ed:EB)(c0:List Def)(G_:Int)(BN:Int):Nat->(Unit)->Option (Unit)
 |0,_=>bh
 |K+1,q=>(bif (decide (BN<G_))then(ea (0<=BN/\BN<(((bf c0):Nat):Int))).bind λ_=>aN ((c0)[(bQ BN)]?) λ_=>bh else bc ())
def ab5(s:List Def)(ed:EB):Option (Int):=aN (abJ ed s (((bf s):Nat):Int) 0 KK ()) λ_=>bc (-1)
def zcg(d:List Def)(aaT:Int)(ed:EB):Option ((List Def)):=aN ((d)[(bQ aaT)]?) λ_=>bc (iP d (bQ aaT) (Def.mk ed.n (Expr.mk ed.b0 ed.b1 ed.b2 ed.b3 ed.b4)))
def zC4(l:List Def)(ed:EB)(lV:Int):Option ((List Def)×Int):=
 aN (qP l) λx1=>aN (ab5 x1 ed) λx2=>((bif (decide (x2<0))then(bif (decide ((((bf x1):Nat):Int)>=lV))then(ea (DX []=bg)).bind λ_=>bc (bp ([],6))else(ea (bf (x1++([(Def.mk ([]:aj) (Expr.mk 0 0 ([]:aj) ([]:aj) []))]:List Def))*88<=140737488355328)).bind λ_=>bc (br ((((bf x1):Nat):Int),(x1++([(Def.mk ([]:aj) (Expr.mk 0 0 ([]:aj) ([]:aj) []))]:List Def)))))else bc (br (x2,x1)))).bind (xo bc λx3=>aN (ea (0<=x3.1/\x3.1<(((bf x3.2):Nat):Int))) λ_=>aN (zcg x3.2 (((bQ x3.1):Nat):Int) ed) λx6=>aN (ea (DX [((bf x3.2),bf x6)]=bg)) λ_=>bc (x6,0))
def abK(ed:EB)(Q_:List bD)(G_:Int)(BN:Int):Nat->(Unit)->Option (Unit)
 |0,_=>bh
 |K+1,q=>(bif (decide (BN<G_))then(idx Q_ BN).bind λ_=>bh else bc ())
def ab6(s:List bD)(ed:EB):Option (Int):=aN (abK ed s (s.length:Int) 0 KK ()) λ_=>bc (-1)
def abL(s:List bD)(ed:EB):Option (Bool):=aN (ab6 s ed) λx1=>bc (decide (x1>=0))
def aaH(l:List bD)(ed:EB):Option ((List bD)×Int):=aN (abL l ed) λx1=>(bif (!x1)then bc ([],4)else bh)
def znj(p:xP)(e:zN):Option (Int×(List Def)×(List au)×(List zM)×(List zd)×(List bD)×(List av)×(List zl)×Int):=aN ((bif (decide (e.aM=0))then bh else(bif (decide (e.aM=1))then bh else(bif (decide (e.aM=2))then(zC4 p.aF (EB.mk e.aM e.aL e.Key e.N e.zd.aL e.zd.aB e.zd.Except e.zd.gY e.zd.gW e.zd.hU e.zd.gZ e.zd.aM e.zd.Test.Op e.zd.Test.N e.zd.Test.S e.zd.Test.Key e.zd.Test.aZ e.zd.zj.lz e.zd.zj.ly e.zd.zj.ln e.zd.zj.Den e.zd.Uses e.zd.gS e.zd.N e.Body.Op e.Body.N e.Body.S e.Body.Key e.Body.aZ e.aA) 60).bind λx2=>bc (x2.2,x2.1,p.aJ)else(bif (decide (e.aM=3))then bh else(bif (decide (e.aM=4))then bh else(aaH p.aJ (EB.mk e.aM e.aL e.Key e.N e.zd.aL e.zd.aB e.zd.Except e.zd.gY e.zd.gW e.zd.hU e.zd.gZ e.zd.aM e.zd.Test.Op e.zd.Test.N e.zd.Test.S e.zd.Test.Key e.zd.Test.aZ e.zd.zj.lz e.zd.zj.ly e.zd.zj.ln e.zd.zj.Den e.zd.Uses e.zd.gS e.zd.N e.Body.Op e.Body.N e.Body.S e.Body.Key e.Body.aZ e.aA)).bind λx3=>bc (x3.2,p.aF,x3.1))))))) λx1=>bc (x1.1,x1.2.1,p.Tables,p.aB,p.aE,x1.2.2,p.aG,p.aK,p.aI)
def Jl(s:List au):Option ((List au)):=aN (ea (bf (([]:List au)++s)*48<=140737488355328)) λ_=>bc (([]:List au)++s)
def Jm(s:List zM):Option ((List zM)):=aN (ea (bf (([]:List zM)++s)*48<=140737488355328)) λ_=>bc (([]:List zM)++s)
def Jn(s:List zd):Option ((List zd)):=aN (ea (bf (([]:List zd)++s)*232<=140737488355328)) λ_=>bc (([]:List zd)++s)
def Jo(s:List bD):Option ((List bD)):=aN (ea (bf (([]:List bD)++s)*56<=140737488355328)) λ_=>bc (([]:List bD)++s)
def Jp(s:List av):Option ((List av)):=aN (ea (bf (([]:List av)++s)*72<=140737488355328)) λ_=>bc (([]:List av)++s)
def qQ(s:List zl):Option ((List zl)):=aN (ea (bf (([]:List zl)++s)*24<=140737488355328)) λ_=>bc (([]:List zl)++s)
def AL(ad6:Expr->Option (Int×Int×aj×aj×(List Expr)))(c0:List Expr)(c1:Int)(c2:Int)(c3:Int)(c4:aj)(c5:aj)(c6:Int)(c7:aj)(c8:List Expr):Nat->(Int×(List Expr))->Option ((List Expr))
 |0,_=>bh
 |K+1,q=>(bif (decide (q.1<c1))then(idx c0 q.1).bind λx1=>aN (ad6 (Expr.mk x1.Op x1.N x1.S x1.Key x1.aZ)) λx2=>aN (ea (bf (q.2++([(Expr.mk x2.1 x2.2.1 x2.2.2.1 x2.2.2.2.1 x2.2.2.2.2)]:List Expr))*72<=140737488355328)) λ_=>AL ad6 c0 c1 c2 c3 c4 c5 c6 c7 c8 K ((aS (q.1+1)),(q.2++([(Expr.mk x2.1 x2.2.1 x2.2.2.1 x2.2.2.2.1 x2.2.2.2.2)]:List Expr)))else bc q.2)
def HN:Nat->Expr->Option (Int×Int×aj×aj×(List Expr))
 |0,_=>bh
 |RK+1,e=>aN (AL (HN RK) e.aZ (e.aZ.length:Int) e.Op e.N e.S e.Key 0 ([]:aj) [] KK (0,[])) λx1=>bc (e.Op,e.N,e.S,e.Key,x1)
def Ye(c0:Int)(c1:List zl)(c2:Int)(c3:List zl)(c4:Int)(c5:List au)(c6:List zM)(c7:List zd)(c8:List bD)(c9:List av)(c10:List Def)(c11:List au)(c12:List zM)(c13:List zd)(c14:List bD)(c15:List av):Nat->(Int×(List Def))->Option ((List Def))
 |0,_=>bh
 |K+1,q=>(bif (decide (q.1<c0))then(ea (0<=q.1/\q.1<(((bf q.2):Nat):Int))).bind λ_=>aN ((q.2)[(bQ q.1)]?) λx2=>aN (HN KK x2.Body) λx3=>aN (ea (0<=q.1/\q.1<(((bf q.2):Nat):Int))) λ_=>aN ((q.2)[(bQ q.1)]?) λx5=>Ye c0 c1 c2 c3 c4 c5 c6 c7 c8 c9 c10 c11 c12 c13 c14 c15 K ((aS (q.1+1)),(iP q.2 (bQ q.1) (Def.mk x5.aL (Expr.mk x3.1 x3.2.1 x3.2.2.1 x3.2.2.2.1 x3.2.2.2.2))))else bc q.2)
def zgi(c0:Int)(c1:Int)(c2:List zl)(c3:Int)(c4:List zl)(c5:List Def)(c6:List au)(c7:List zM)(c8:List zd)(c9:List bD)(c10:List av)(c11:List Def)(c12:List au)(c13:List zM)(c14:List zd)(c15:List bD)(c16:List av):Nat->(Unit)->Option (Unit)
 |0,_=>bh
 |K+1,q=>(bif (decide (c1<c0))then(ea (0<=c1/\c1<(((bf c6):Nat):Int))).bind λ_=>aN ((c6)[(bQ c1)]?) λ_=>bh else bc ())
def zgj(c0:Int)(c1:Int)(c2:List zl)(c3:Int)(c4:List zl)(c5:List Def)(c6:List au)(c7:List zM)(c8:List zd)(c9:List bD)(c10:List av)(c11:List Def)(c12:List au)(c13:List zM)(c14:List zd)(c15:List bD)(c16:List av):Nat->(Unit)->Option (Unit)
 |0,_=>bh
 |K+1,q=>(bif (decide (c1<c0))then(ea (0<=c1/\c1<(((bf c7):Nat):Int))).bind λ_=>aN ((c7)[(bQ c1)]?) λ_=>bh else bc ())
def zgk(c0:Int)(c1:Int)(c2:List zl)(c3:Int)(c4:List zl)(c5:List zd)(c6:List Def)(c7:List au)(c8:List zM)(c9:List bD)(c10:List av)(c11:List Def)(c12:List au)(c13:List zM)(c14:List zd)(c15:List bD)(c16:List av):Nat->(Unit)->Option (Unit)
 |0,_=>bh
 |K+1,q=>(bif (decide (c1<c0))then(ea (0<=c1/\c1<(((bf c5):Nat):Int))).bind λ_=>aN ((c5)[(bQ c1)]?) λ_=>bh else bc ())
def zgl(c0:Int)(c1:Int)(c2:List zl)(c3:Int)(c4:List zl)(c5:List Def)(c6:List au)(c7:List zM)(c8:List zd)(c9:List bD)(c10:List av)(c11:List Def)(c12:List au)(c13:List zM)(c14:List zd)(c15:List bD)(c16:List av):Nat->(Unit)->Option (Unit)
 |0,_=>bh
 |K+1,q=>(bif (decide (c1<c0))then(ea (0<=c1/\c1<(((bf c9):Nat):Int))).bind λ_=>aN ((c9)[(bQ c1)]?) λ_=>bh else bc ())
def Yf(c0:Int)(c1:List zl)(c2:Int)(c3:List zl)(c4:Int)(c5:List Def)(c6:List au)(c7:List zM)(c8:List zd)(c9:List bD)(c10:List Def)(c11:List au)(c12:List zM)(c13:List zd)(c14:List bD)(c15:List av):Nat->(Int×(List av))->Option ((List av))
 |0,_=>bh
 |K+1,q=>(bif (decide (q.1<c0))then(ea (0<=q.1/\q.1<(((bf q.2):Nat):Int))).bind λ_=>aN ((q.2)[(bQ q.1)]?) λx2=>aN (qQ x2.lB) λx3=>aN (ea (0<=q.1/\q.1<(((bf q.2):Nat):Int))) λ_=>aN ((q.2)[(bQ q.1)]?) λx5=>Yf c0 c1 c2 c3 c4 c5 c6 c7 c8 c9 c10 c11 c12 c13 c14 c15 K ((aS (q.1+1)),(iP q.2 (bQ q.1) (av.mk x5.aL x5.iW x5.nB x3)))else bc q.2)
def O'(p:xP):Option ((List zl)×Int×(List Def)×(List au)×(List zM)×(List zd)×(List bD)×(List av)):=aN (qP p.aF) λx1=>aN (Jl p.Tables) λx2=>aN (Jm p.aB) λx3=>aN (Jn p.aE) λx4=>aN (Jo p.aJ) λx5=>aN (Jp p.aG) λx6=>aN (qQ p.aK) λx7=>aN (Ye (((bf x1):Nat):Int) x7 p.aI [] 0 x2 x3 x4 x5 x6 ([]:List Def) ([]:List au) ([]:List zM) ([]:List zd) ([]:List bD) ([]:List av) KK (0,x1)) λx8=>aN (zgi (((bf x2):Nat):Int) 0 x7 p.aI [] x8 x2 x3 x4 x5 x6 ([]:List Def) ([]:List au) ([]:List zM) ([]:List zd) ([]:List bD) ([]:List av) KK ()) λ_=>aN (zgj (((bf x3):Nat):Int) 0 x7 p.aI [] x8 x2 x3 x4 x5 x6 ([]:List Def) ([]:List au) ([]:List zM) ([]:List zd) ([]:List bD) ([]:List av) KK ()) λ_=>aN (zgk (((bf x4):Nat):Int) 0 x7 p.aI [] x4 x8 x2 x3 x5 x6 ([]:List Def) ([]:List au) ([]:List zM) ([]:List zd) ([]:List bD) ([]:List av) KK ()) λ_=>aN (zgl (((bf x5):Nat):Int) 0 x7 p.aI [] x8 x2 x3 x4 x5 x6 ([]:List Def) ([]:List au) ([]:List zM) ([]:List zd) ([]:List bD) ([]:List av) KK ()) λ_=>aN (Yf (((bf x6):Nat):Int) x7 p.aI [] 0 x8 x2 x3 x4 x5 ([]:List Def) ([]:List au) ([]:List zM) ([]:List zd) ([]:List bD) ([]:List av) KK (0,x6)) λkO=>bc (x7,p.aI,x8,x2,x3,x4,x5,kO)
def Pa(p:xP)(e:zN):Option (Int×(List Def)×(List au)×(List zM)×(List zd)×(List bD)×(List av)×(List zl)×Int):=aN (aN (HI p) λx2=>(bif (!x2)then bc bg else(vy (zN.mk e.aM e.aL e.Key e.N (zd.mk e.zd.aL e.zd.aB e.zd.Except e.zd.gY e.zd.gW e.zd.hU e.zd.gZ e.zd.aM (Expr.mk e.zd.Test.Op e.zd.Test.N e.zd.Test.S e.zd.Test.Key e.zd.Test.aZ) e.zd.zj e.zd.Uses e.zd.gS e.zd.N) (Expr.mk e.Body.Op e.Body.N e.Body.S e.Body.Key e.Body.aZ) e.aA)).bind λx3=>bc (!x3))) λx1=>(bif x1 then bc (1,[],[],[],[],[],[],[],0)else(znj p (zN.mk e.aM e.aL e.Key e.N (zd.mk e.zd.aL e.zd.aB e.zd.Except e.zd.gY e.zd.gW e.zd.hU e.zd.gZ e.zd.aM (Expr.mk e.zd.Test.Op e.zd.Test.N e.zd.Test.S e.zd.Test.Key e.zd.Test.aZ) e.zd.zj e.zd.Uses e.zd.gS e.zd.N) (Expr.mk e.Body.Op e.Body.N e.Body.S e.Body.Key e.Body.aZ) e.aA)).bind λx4=>(bif (!(decide (x4.1=0)))then bc (x4.1,[],[],[],[],[],[],[],0)else(O' (xP.mk x4.2.1 x4.2.2.1 x4.2.2.2.1 x4.2.2.2.2.1 x4.2.2.2.2.2.1 x4.2.2.2.2.2.2.1 x4.2.2.2.2.2.2.2.1 x4.2.2.2.2.2.2.2.2)).bind λx5=>bc (0,x5.2.2.1,x5.2.2.2.1,x5.2.2.2.2.1,x5.2.2.2.2.2.1,x5.2.2.2.2.2.2.1,x5.2.2.2.2.2.2.2,x5.1,x5.2.1)))
def UR(n:Int):Option (Int×Int×aj×aj×(List Expr)):=bc (0,n,([]:aj),([]:aj),[])
def abM(c0:aj)(c1:Int)(c2:Int)(c3:aj)(c4:aj)(c5:List Expr)(c6:List Def)(c7:Int)(c8:Int):Nat->(Unit)->Option (Unit)
 |0,_=>bh
 |K+1,q=>(bif (decide (c8<c7))then(idx c6 c8).bind λ_=>bh else bc ())
def ab7(s:List Def)(ο:aj)(χ:Int)(ς:Int)(υ:aj)(ψ:aj)(ω:List Expr):Option (Int):=aN (abM ο χ ς υ ψ ω s (s.length:Int) 0 KK ()) λ_=>bc (-1)
def zum(l:List Def)(ο:aj)(χ:Int)(ς:Int)(υ:aj)(ψ:aj)(ω:List Expr):Option (Bool×aj×Int×Int×aj×aj×(List Expr)):=aN (ab7 l ο χ ς υ ψ ω) λx1=>(bif (decide (x1>=0))then(idx l x1).bind λx2=>bc (bg,x2.aL,x2.Body.Op,x2.Body.N,x2.Body.S,x2.Body.Key,x2.Body.aZ)else bc (bd,([]:aj),0,0,([]:aj),([]:aj),[]))
def AM(c0:List Def)(c1:Int)(c2:List Def)(c3:List au)(c4:List zM)(c5:List zd)(c6:List bD)(c7:List av)(c8:List zl)(c9:Int)(c10:List au)(c11:List zM)(c12:List zd)(c13:List bD)(c14:List av)(c15:List zl)(c16:Int):Nat->(Int×(List zN))->Option ((List zN))
 |0,_=>bh
 |K+1,q=>(bif (decide (q.1<c1))then(aN (idx c0 q.1) λx2=>aN (zum c2 x2.aL x2.Body.Op x2.Body.N x2.Body.S x2.Body.Key x2.Body.aZ) λx3=>aN ((bif (!x3.1)then bc bg else(qt (zN.mk 2 x2.aL ([]:aj) 0 (zd.mk ([]:aj) [] [] 0 0 0 bd 0 (Expr.mk 0 0 ([]:aj) ([]:aj) []) (zj.mk 0 0 0 0) 0 0 0) (Expr.mk x2.Body.Op x2.Body.N x2.Body.S x2.Body.Key x2.Body.aZ) []) (zN.mk 2 x2.aL ([]:aj) 0 (zd.mk ([]:aj) [] [] 0 0 0 bd 0 (Expr.mk 0 0 ([]:aj) ([]:aj) []) (zj.mk 0 0 0 0) 0 0 0) (Expr.mk x3.2.2.1 x3.2.2.2.1 x3.2.2.2.2.1 x3.2.2.2.2.2.1 x3.2.2.2.2.2.2) [])).bind λx5=>bc (!x5))) λx4=>(bif x4 then(ea (bf (q.2++([(zN.mk 2 x2.aL ([]:aj) 0 (zd.mk ([]:aj) [] [] 0 0 0 bd 0 (Expr.mk 0 0 ([]:aj) ([]:aj) []) (zj.mk 0 0 0 0) 0 0 0) (Expr.mk x2.Body.Op x2.Body.N x2.Body.S x2.Body.Key x2.Body.aZ) [])]:List zN))*376<=140737488355328)).bind λ_=>bc (q.2++([(zN.mk 2 x2.aL ([]:aj) 0 (zd.mk ([]:aj) [] [] 0 0 0 bd 0 (Expr.mk 0 0 ([]:aj) ([]:aj) []) (zj.mk 0 0 0 0) 0 0 0) (Expr.mk x2.Body.Op x2.Body.N x2.Body.S x2.Body.Key x2.Body.aZ) [])]:List zN))else bc q.2)).bind λx1=>AM c0 c1 c2 c3 c4 c5 c6 c7 c8 c9 c10 c11 c12 c13 c14 c15 c16 K ((aS (q.1+1)),x1)else bc q.2)
def aad(c0:List au)(c1:Int)(c2:Int)(c3:List Def)(c4:List au)(c5:List zM)(c6:List zd)(c7:List bD)(c8:List av)(c9:List zl)(c10:Int)(c11:List Def)(c12:List zM)(c13:List zd)(c14:List bD)(c15:List av)(c16:List zl)(c17:Int)(c18:List zN):Nat->(Unit)->Option (Unit)
 |0,_=>bh
 |K+1,q=>(bif (decide (c2<c1))then(idx c0 c2).bind λ_=>bh else bc ())
def aae(c0:List zM)(c1:Int)(c2:Int)(c3:List Def)(c4:List au)(c5:List zM)(c6:List zd)(c7:List bD)(c8:List av)(c9:List zl)(c10:Int)(c11:List Def)(c12:List au)(c13:List zd)(c14:List bD)(c15:List av)(c16:List zl)(c17:Int)(c18:List zN):Nat->(Unit)->Option (Unit)
 |0,_=>bh
 |K+1,q=>(bif (decide (c2<c1))then(idx c0 c2).bind λ_=>bh else bc ())
def aaf(c0:List zd)(c1:Int)(c2:Int)(c3:List Def)(c4:List au)(c5:List zM)(c6:List zd)(c7:List bD)(c8:List av)(c9:List zl)(c10:Int)(c11:List Def)(c12:List au)(c13:List zM)(c14:List bD)(c15:List av)(c16:List zl)(c17:Int)(c18:List zN):Nat->(Unit)->Option (Unit)
 |0,_=>bh
 |K+1,q=>(bif (decide (c2<c1))then(idx c0 c2).bind λ_=>bh else bc ())
def aag(c0:List bD)(c1:Int)(c2:Int)(c3:List Def)(c4:List au)(c5:List zM)(c6:List zd)(c7:List bD)(c8:List av)(c9:List zl)(c10:Int)(c11:List zN):Nat->(Unit)->Option (Unit)
 |0,_=>bh
 |K+1,q=>(bif (decide (c2<c1))then(idx c0 c2).bind λ_=>bh else bc ())
def zci(a:xP)(b:xP):Option ((List zN)):=aN (AM b.aF (b.aF.length:Int) a.aF a.Tables a.aB a.aE a.aJ a.aG a.aK a.aI b.Tables b.aB b.aE b.aJ b.aG b.aK b.aI KK (0,[])) λx1=>aN (aad b.Tables (b.Tables.length:Int) 0 a.aF a.Tables a.aB a.aE a.aJ a.aG a.aK a.aI b.aF b.aB b.aE b.aJ b.aG b.aK b.aI x1 KK ()) λ_=>aN (aae b.aB (b.aB.length:Int) 0 a.aF a.Tables a.aB a.aE a.aJ a.aG a.aK a.aI b.aF b.Tables b.aE b.aJ b.aG b.aK b.aI x1 KK ()) λ_=>aN (aaf b.aE (b.aE.length:Int) 0 a.aF a.Tables a.aB a.aE a.aJ a.aG a.aK a.aI b.aF b.Tables b.aB b.aJ b.aG b.aK b.aI x1 KK ()) λ_=>aN (aag b.aJ (b.aJ.length:Int) 0 a.aF a.Tables a.aB a.aE a.aJ a.aG a.aK a.aI x1 KK ()) λ_=>bc x1
def JX(c0:List zN)(c1:Int)(c2:List Def)(c3:List au)(c4:List zM)(c5:List zd)(c6:List bD)(c7:List av)(c8:List zl)(c9:Int):Nat->(Int×(List Def)×(List au)×(List zM)×(List zd)×(List bD)×(List av)×(List zl)×Int)->Option ((Int×(List Def)×(List au)×(List zM)×(List zd)×(List bD)×(List av)×(List zl)×Int)⊕((List Def)×(List au)×(List zM)×(List zd)×(List bD)×(List av)×(List zl)×Int))
 |0,_=>bh
 |K+1,q=>(bif (decide (q.1<c1))then(idx c0 q.1).bind λx1=>aN (Pa (xP.mk q.2.1 q.2.2.1 q.2.2.2.1 q.2.2.2.2.1 q.2.2.2.2.2.1 q.2.2.2.2.2.2.1 q.2.2.2.2.2.2.2.1 q.2.2.2.2.2.2.2.2) (zN.mk x1.aM x1.aL x1.Key x1.N (zd.mk x1.zd.aL x1.zd.aB x1.zd.Except x1.zd.gY x1.zd.gW x1.zd.hU x1.zd.gZ x1.zd.aM (Expr.mk x1.zd.Test.Op x1.zd.Test.N x1.zd.Test.S x1.zd.Test.Key x1.zd.Test.aZ) x1.zd.zj x1.zd.Uses x1.zd.gS x1.zd.N) (Expr.mk x1.Body.Op x1.Body.N x1.Body.S x1.Body.Key x1.Body.aZ) x1.aA)) λx2=>(bif (!(decide (x2.1=0)))then bc (bp (x2.1,[],[],[],[],[],[],[],0))else JX c0 c1 c2 c3 c4 c5 c6 c7 c8 c9 K ((aS (q.1+1)),x2.2.1,x2.2.2.1,x2.2.2.2.1,x2.2.2.2.2.1,x2.2.2.2.2.2.1,x2.2.2.2.2.2.2.1,x2.2.2.2.2.2.2.2.1,x2.2.2.2.2.2.2.2.2))else bc (br (q.2.1,q.2.2.1,q.2.2.2.1,q.2.2.2.2.1,q.2.2.2.2.2.1,q.2.2.2.2.2.2.1,q.2.2.2.2.2.2.2.1,q.2.2.2.2.2.2.2.2)))
def znk(p:xP)(l:List zN):Option (Int×(List Def)×(List au)×(List zM)×(List zd)×(List bD)×(List av)×(List zl)×Int):=aN (HI p) λx1=>(bif (!x1)then bc (1,[],[],[],[],[],[],[],0)else(JX l (l.length:Int) [] [] [] [] [] [] [] 0 KK (0,p.aF,p.Tables,p.aB,p.aE,p.aJ,p.aG,p.aK,p.aI)).bind (xo bc λx2=>aN (O' (xP.mk x2.1 x2.2.1 x2.2.2.1 x2.2.2.2.1 x2.2.2.2.2.1 x2.2.2.2.2.2.1 x2.2.2.2.2.2.2.1 x2.2.2.2.2.2.2.2)) λx3=>bc (0,x3.2.2.1,x3.2.2.2.1,x3.2.2.2.2.1,x3.2.2.2.2.2.1,x3.2.2.2.2.2.2.1,x3.2.2.2.2.2.2.2,x3.1,x3.2.1)))
def zun(a:xP)(b:xP):Option ((List zN)×Int):=aN (aN (HI a) λx2=>(bif (!x2)then bc bg else(HI b).bind λx3=>bc (!x3))) λx1=>(bif x1 then bc ([],1)else(O' b).bind λx4=>aN (zci a (xP.mk x4.2.2.1 x4.2.2.2.1 x4.2.2.2.2.1 x4.2.2.2.2.2.1 x4.2.2.2.2.2.2.1 x4.2.2.2.2.2.2.2 x4.1 x4.2.1)) λx5=>aN (znk a x5) λx6=>aN ((bif (!(decide (x6.1=0)))then bc bg else(L7 (xP.mk x6.2.1 x6.2.2.1 x6.2.2.2.1 x6.2.2.2.2.1 x6.2.2.2.2.2.1 x6.2.2.2.2.2.2.1 x6.2.2.2.2.2.2.2.1 x6.2.2.2.2.2.2.2.2) b).bind λx8=>bc (!x8))) λx7=>(bif x7 then bc ([],25)else bc (x5,0)))
def vU(c0:List zl)(c1:List zl):Nat->(Int)->Option ((Bool)⊕(Unit))
 |0,_=>bh
 |K+1,q=>(bif (decide (q<(c0.length:Int)))then(idx c0 q).bind λx1=>aN (idx c1 q) λx2=>(bif (!(decide (x1.X=x2.X)&&(decide (x1.Y=x2.Y)&&(decide (x1.Z_=x2.Z_)))))then bc (bp bd)else vU c0 c1 K (aS (q+1)))else bc (br ()))
def qu(a:List zl)(b:List zl):Option (Bool):=(bif (!(decide ((a.length:Int)=(b.length:Int))))then bc bd else(vU a b KK 0).bind (xo bc λ_=>bc bg))
def kh(ad8:Expr->Expr->Option (Bool))(c0:Int)(c1:Int)(c2:aj)(c3:aj)(c4:List Expr)(c5:Int)(c6:Int)(c7:aj)(c8:aj)(c9:List Expr):Nat->(Int)->Option ((Bool)⊕(Unit))
 |0,_=>bh
 |K+1,q=>(bif (decide (q<(c4.length:Int)))then(idx c4 q).bind λx1=>aN (idx c9 q) λx2=>aN (ad8 x1 x2) λx3=>(bif (!x3)then bc (bp bd)else kh ad8 c0 c1 c2 c3 c4 c5 c6 c7 c8 c9 K (aS (q+1)))else bc (br ()))
def xb:Nat->Expr->Expr->Option (Bool)
 |0,_,_=>bh
 |RK+1,a,b=>aN ((bif (!(decide (a.Op=b.Op)))then bc bg else(bif (!(decide (a.N=b.N)))then bc bg else(bif (!(decide (a.S=b.S)))then bc bg else(bif (!(decide (a.Key=b.Key)))then bc bg else bc (!(decide ((a.aZ.length:Int)=(b.aZ.length:Int))))))))) λx1=>(bif x1 then bc bd else(kh (xb RK) a.Op a.N a.S a.Key a.aZ b.Op b.N b.S b.Key b.aZ KK 0).bind (xo bc λ_=>bc bg))
def kj(c0:List aw)(c1:List aw):Nat->(Int)->Option ((Bool)⊕(Unit))
 |0,_=>bh
 |K+1,q=>(bif (decide (q<(c0.length:Int)))then(idx c0 q).bind λx1=>aN (idx c1 q) λx2=>(bif (!(decide (x1.aL=x2.aL)&&(decide (x1.N=x2.N))))then bc (bp bd)else kj c0 c1 K (aS (q+1)))else bc (br ()))
def JY(a:List aw)(b:List aw):Option (Bool):=(bif (!(decide ((a.length:Int)=(b.length:Int))))then bc bd else(kj a b KK 0).bind (xo bc λ_=>bc bg))
def qd(c0:List zx)(c1:List zx):Nat->(Int)->Option ((Bool)⊕(Unit))
 |0,_=>bh
 |K+1,q=>(bif (decide (q<(c0.length:Int)))then(idx c0 q).bind λx1=>aN (idx c1 q) λx2=>(bif (!(decide (x1.X=x2.X)&&(decide (x1.Y=x2.Y))))then bc (bp bd)else qd c0 c1 K (aS (q+1)))else bc (br ()))
def AN(a:List zx)(b:List zx):Option (Bool):=(bif (!(decide ((a.length:Int)=(b.length:Int))))then bc bd else(qd a b KK 0).bind (xo bc λ_=>bc bg))
def qR(c0:List aj)(c1:List aj):Nat->(Int)->Option ((Bool)⊕(Unit))
 |0,_=>bh
 |K+1,q=>(bif (decide (q<(c0.length:Int)))then(idx c0 q).bind λx1=>aN (idx c1 q) λx2=>(bif (!(decide (x1=x2)))then bc (bp bd)else qR c0 c1 K (aS (q+1)))else bc (br ()))
def kl(a:List aj)(b:List aj):Option (Bool):=(bif (!(decide ((a.length:Int)=(b.length:Int))))then bc bd else(qR a b KK 0).bind (xo bc λ_=>bc bg))
def Ah(a:zd)(b:zd):Option (Bool):=aN (aN (kl a.aB b.aB) λx2=>(bif x2 then(kl a.Except b.Except).bind λx3=>(bif x3 then(xb KK (Expr.mk a.Test.Op a.Test.N a.Test.S a.Test.Key a.Test.aZ) (Expr.mk b.Test.Op b.Test.N b.Test.S b.Test.Key b.Test.aZ)).bind λx4=>bc x4 else bc bd)else bc bd)) λx1=>aN ((bif (decide (a.gY=b.gY))then(bif (decide (a.gW=b.gW))then(bif (decide (a.hU=b.hU))then bc (a.gZ==b.gZ)else bc bd)else bc bd)else bc bd)) λx5=>(bif (decide (a.aL=b.aL))then(bif x1 then(bif x5 then(bif (decide (a.aM=b.aM))then(bif (decide (a.zj.lz=b.zj.lz)&&(decide (a.zj.ly=b.zj.ly)&&(decide (a.zj.ln=b.zj.ln)&&(decide (a.zj.Den=b.zj.Den)))))then(bif (decide (a.Uses=b.Uses))then(bif (decide (a.gS=b.gS))then bc (decide (a.N=b.N))else bc bd)else bc bd)else bc bd)else bc bd)else bc bd)else bc bd)else bc bd)
def HO(c0:List Def)(c1:List au)(c2:List zM)(c3:List zd)(c4:List bD)(c5:List av)(c6:List zl)(c7:Int)(c8:List Def)(c9:List au)(c10:List zM)(c11:List zd)(c12:List bD)(c13:List av)(c14:List zl)(c15:Int):Nat->(Int)->Option ((Bool)⊕(Unit))
 |0,_=>bh
 |K+1,q=>(bif (decide (q<(c0.length:Int)))then(aN (idx c0 q) λx2=>aN (idx c8 q) λx3=>(bif (!(decide (x2.aL=x3.aL)))then bc bg else(idx c0 q).bind λx4=>aN (idx c8 q) λx5=>aN (xb KK x4.Body x5.Body) λx6=>bc (!x6))).bind λx1=>(bif x1 then bc (bp bd)else HO c0 c1 c2 c3 c4 c5 c6 c7 c8 c9 c10 c11 c12 c13 c14 c15 K (aS (q+1)))else bc (br ()))
def HP(c0:List Def)(c1:List au)(c2:List zM)(c3:List zd)(c4:List bD)(c5:List av)(c6:List zl)(c7:Int)(c8:List Def)(c9:List au)(c10:List zM)(c11:List zd)(c12:List bD)(c13:List av)(c14:List zl)(c15:Int):Nat->(Int)->Option ((Bool)⊕(Unit))
 |0,_=>bh
 |K+1,q=>(bif (decide (q<(c1.length:Int)))then(aN (idx c1 q) λx2=>aN (idx c9 q) λx3=>(bif (!(decide (x2.aL=x3.aL)))then bc bg else(idx c1 q).bind λx4=>aN (idx c9 q) λx5=>(bif (!(decide (x4.nn=x5.nn)))then bc bg else(idx c1 q).bind λx6=>aN (idx c9 q) λx7=>aN (JY x6.Rows x7.Rows) λx8=>bc (!x8)))).bind λx1=>(bif x1 then bc (bp bd)else HP c0 c1 c2 c3 c4 c5 c6 c7 c8 c9 c10 c11 c12 c13 c14 c15 K (aS (q+1)))else bc (br ()))
def HQ(c0:List Def)(c1:List au)(c2:List zM)(c3:List zd)(c4:List bD)(c5:List av)(c6:List zl)(c7:Int)(c8:List Def)(c9:List au)(c10:List zM)(c11:List zd)(c12:List bD)(c13:List av)(c14:List zl)(c15:Int):Nat->(Int)->Option ((Bool)⊕(Unit))
 |0,_=>bh
 |K+1,q=>(bif (decide (q<(c2.length:Int)))then(aN (idx c2 q) λx2=>aN (idx c10 q) λx3=>(bif (!(decide (x2.aL=x3.aL)))then bc bg else(idx c2 q).bind λx4=>aN (idx c10 q) λx5=>(bif (!(x4.mN==x5.mN))then bc bg else(idx c2 q).bind λx6=>aN (idx c10 q) λx7=>aN (AN x6.aA x7.aA) λx8=>bc (!x8)))).bind λx1=>(bif x1 then bc (bp bd)else HQ c0 c1 c2 c3 c4 c5 c6 c7 c8 c9 c10 c11 c12 c13 c14 c15 K (aS (q+1)))else bc (br ()))
def HR(c0:List Def)(c1:List au)(c2:List zM)(c3:List zd)(c4:List bD)(c5:List av)(c6:List zl)(c7:Int)(c8:List Def)(c9:List au)(c10:List zM)(c11:List zd)(c12:List bD)(c13:List av)(c14:List zl)(c15:Int):Nat->(Int)->Option ((Bool)⊕(Unit))
 |0,_=>bh
 |K+1,q=>(bif (decide (q<(c3.length:Int)))then(idx c3 q).bind λx1=>aN (idx c11 q) λx2=>aN (Ah x1 x2) λx3=>(bif (!x3)then bc (bp bd)else HR c0 c1 c2 c3 c4 c5 c6 c7 c8 c9 c10 c11 c12 c13 c14 c15 K (aS (q+1)))else bc (br ()))
def HU(c0:List Def)(c1:List au)(c2:List zM)(c3:List zd)(c4:List bD)(c5:List av)(c6:List zl)(c7:Int)(c8:List Def)(c9:List au)(c10:List zM)(c11:List zd)(c12:List bD)(c13:List av)(c14:List zl)(c15:Int):Nat->(Int)->Option ((Bool)⊕(Unit))
 |0,_=>bh
 |K+1,q=>(bif (decide (q<(c4.length:Int)))then(aN (idx c4 q) λx2=>aN (idx c12 q) λx3=>(bif (!(decide (x2.aL=x3.aL)))then bc bg else(idx c4 q).bind λx4=>aN (idx c12 q) λx5=>(bif (!(decide (x4.np=x5.np)))then bc bg else(idx c4 q).bind λx6=>aN (idx c12 q) λx7=>(bif (!(decide (x6.pH=x7.pH)))then bc bg else(idx c4 q).bind λx8=>aN (idx c12 q) λx9=>aN (AN x8.aA x9.aA) λgw=>bc (!gw))))).bind λx1=>(bif x1 then bc (bp bd)else HU c0 c1 c2 c3 c4 c5 c6 c7 c8 c9 c10 c11 c12 c13 c14 c15 K (aS (q+1)))else bc (br ()))
def HV(c0:List Def)(c1:List au)(c2:List zM)(c3:List zd)(c4:List bD)(c5:List av)(c6:List zl)(c7:Int)(c8:List Def)(c9:List au)(c10:List zM)(c11:List zd)(c12:List bD)(c13:List av)(c14:List zl)(c15:Int):Nat->(Int)->Option ((Bool)⊕(Unit))
 |0,_=>bh
 |K+1,q=>(bif (decide (q<(c5.length:Int)))then(aN (idx c5 q) λx2=>aN (idx c13 q) λx3=>(bif (!(decide (x2.aL=x3.aL)))then bc bg else(idx c5 q).bind λx4=>aN (idx c13 q) λx5=>(bif (!(decide (x4.iW.X=x5.iW.X)&&(decide (x4.iW.Y=x5.iW.Y)&&(decide (x4.iW.Z_=x5.iW.Z_)))))then bc bg else(idx c5 q).bind λx6=>aN (idx c13 q) λx7=>(bif (!(decide (x6.nB=x7.nB)))then bc bg else(idx c5 q).bind λx8=>aN (idx c13 q) λx9=>aN (qu x8.lB x9.lB) λgw=>bc (!gw))))).bind λx1=>(bif x1 then bc (bp bd)else HV c0 c1 c2 c3 c4 c5 c6 c7 c8 c9 c10 c11 c12 c13 c14 c15 K (aS (q+1)))else bc (br ()))
def VX(a:xP)(b:xP):Option (Bool):=aN ((bif (!(decide ((a.aF.length:Int)=(b.aF.length:Int))))then bc bg else(bif (!(decide ((a.Tables.length:Int)=(b.Tables.length:Int))))then bc bg else(bif (!(decide ((a.aB.length:Int)=(b.aB.length:Int))))then bc bg else(bif (!(decide ((a.aE.length:Int)=(b.aE.length:Int))))then bc bg else(bif (!(decide ((a.aJ.length:Int)=(b.aJ.length:Int))))then bc bg else(bif (!(decide ((a.aG.length:Int)=(b.aG.length:Int))))then bc bg else(qu a.aK b.aK).bind λx2=>(bif (!x2)then bc bg else bc (!(decide (a.aI=b.aI))))))))))) λx1=>(bif x1 then bc bd else(HO a.aF a.Tables a.aB a.aE a.aJ a.aG a.aK a.aI b.aF b.Tables b.aB b.aE b.aJ b.aG b.aK b.aI KK 0).bind (xo bc λ_=>(HP a.aF a.Tables a.aB a.aE a.aJ a.aG a.aK a.aI b.aF b.Tables b.aB b.aE b.aJ b.aG b.aK b.aI KK 0).bind (xo bc λ_=>(HQ a.aF a.Tables a.aB a.aE a.aJ a.aG a.aK a.aI b.aF b.Tables b.aB b.aE b.aJ b.aG b.aK b.aI KK 0).bind (xo bc λ_=>(HR a.aF a.Tables a.aB a.aE a.aJ a.aG a.aK a.aI b.aF b.Tables b.aB b.aE b.aJ b.aG b.aK b.aI KK 0).bind (xo bc λ_=>(HU a.aF a.Tables a.aB a.aE a.aJ a.aG a.aK a.aI b.aF b.Tables b.aB b.aE b.aJ b.aG b.aK b.aI KK 0).bind (xo bc λ_=>(HV a.aF a.Tables a.aB a.aE a.aJ a.aG a.aK a.aI b.aF b.Tables b.aB b.aE b.aJ b.aG b.aK b.aI KK 0).bind (xo bc λ_=>bc bg)))))))
def Q0(c0:Int)(c1:aj)(c2:aj)(c3:Int)(c4:aj)(c5:List aj)(c6:List aj)(c7:Int)(c8:Int)(c9:Int)(c10:Bool)(c11:Int)(c12:Int)(c13:Int)(c14:aj)(c15:aj)(c16:List Expr)(c17:Int)(c18:Int)(c19:Int)(c20:Int)(po:Int)(DO:Int)(DP:Int)(DQ:Int)(DR:Int)(DS:aj)(DT:aj)(DU:List Expr)(G9:List zx)(Q_:Int)(G_:aj)(BN:aj)(af1:Int)(af2:aj)(af3:List aj)(af4:List aj)(af5:Int)(af6:Int)(af7:Int)(af8:Bool)(af9:Int)(af_:Int)(af':Int)(aga:aj)(agb:aj)(agc:List Expr)(agd:Int)(age:Int)(agf:Int)(agh:Int)(agi:Int)(agj:Int)(agk:Int)(agl:Int)(agm:Int)(agn:aj)(ago:aj)(agp:List Expr)(aco:List zx):Nat->(Int)->Option ((Bool)⊕(Unit))
 |0,_=>bh
 |K+1,q=>(bif (decide (q<(G9.length:Int)))then(idx G9 q).bind λx1=>aN (idx aco q) λx2=>(bif (!(decide (x1.X=x2.X)&&(decide (x1.Y=x2.Y))))then bc (bp bd)else Q0 c0 c1 c2 c3 c4 c5 c6 c7 c8 c9 c10 c11 c12 c13 c14 c15 c16 c17 c18 c19 c20 po DO DP DQ DR DS DT DU G9 Q_ G_ BN af1 af2 af3 af4 af5 af6 af7 af8 af9 af_ af' aga agb agc agd age agf agh agi agj agk agl agm agn ago agp aco K (aS (q+1)))else bc (br ()))
def HW(a:zN)(b:zN):Option (Bool):=aN ((bif (!(decide (a.aM=b.aM)))then bc bg else(bif (!(decide (a.aL=b.aL)))then bc bg else(bif (!(decide (a.Key=b.Key)))then bc bg else(bif (!(decide (a.N=b.N)))then bc bg else bc (!(decide ((a.aA.length:Int)=(b.aA.length:Int))))))))) λx1=>(bif x1 then bc bd else(Q0 a.aM a.aL a.Key a.N a.zd.aL a.zd.aB a.zd.Except a.zd.gY a.zd.gW a.zd.hU a.zd.gZ a.zd.aM a.zd.Test.Op a.zd.Test.N a.zd.Test.S a.zd.Test.Key a.zd.Test.aZ a.zd.zj.lz a.zd.zj.ly a.zd.zj.ln a.zd.zj.Den a.zd.Uses a.zd.gS a.zd.N a.Body.Op a.Body.N a.Body.S a.Body.Key a.Body.aZ a.aA b.aM b.aL b.Key b.N b.zd.aL b.zd.aB b.zd.Except b.zd.gY b.zd.gW b.zd.hU b.zd.gZ b.zd.aM b.zd.Test.Op b.zd.Test.N b.zd.Test.S b.zd.Test.Key b.zd.Test.aZ b.zd.zj.lz b.zd.zj.ly b.zd.zj.ln b.zd.zj.Den b.zd.Uses b.zd.gS b.zd.N b.Body.Op b.Body.N b.Body.S b.Body.Key b.Body.aZ b.aA KK 0).bind (xo bc λ_=>aN (VX (xP.mk [] [] [] ([(zd.mk a.zd.aL a.zd.aB a.zd.Except a.zd.gY a.zd.gW a.zd.hU a.zd.gZ a.zd.aM (Expr.mk a.zd.Test.Op a.zd.Test.N a.zd.Test.S a.zd.Test.Key a.zd.Test.aZ) a.zd.zj a.zd.Uses a.zd.gS a.zd.N)]:List zd) [] [] [] 0) (xP.mk [] [] [] ([(zd.mk b.zd.aL b.zd.aB b.zd.Except b.zd.gY b.zd.gW b.zd.hU b.zd.gZ b.zd.aM (Expr.mk b.zd.Test.Op b.zd.Test.N b.zd.Test.S b.zd.Test.Key b.zd.Test.aZ) b.zd.zj b.zd.Uses b.zd.gS b.zd.N)]:List zd) [] [] [] 0)) λx3=>(bif x3 then(xb KK (Expr.mk a.Body.Op a.Body.N a.Body.S a.Body.Key a.Body.aZ) (Expr.mk b.Body.Op b.Body.N b.Body.S b.Body.Key b.Body.aZ)).bind λx4=>bc x4 else bc bd)))
def US(e:zN):Option (aj×aj×aj):=(bif (decide (e.aM=0))then bc (yn,e.zd.aL,([]:aj))else(bif (decide (e.aM=1))then bc (yn,e.aL,([]:aj))else(Jk e.aM).bind λx1=>bc (x1,e.aL,e.Key)))
def UT(a:zN)(b:zN):Option (Bool):=aN (vy (zN.mk a.aM a.aL a.Key a.N (zd.mk a.zd.aL a.zd.aB a.zd.Except a.zd.gY a.zd.gW a.zd.hU a.zd.gZ a.zd.aM (Expr.mk a.zd.Test.Op a.zd.Test.N a.zd.Test.S a.zd.Test.Key a.zd.Test.aZ) a.zd.zj a.zd.Uses a.zd.gS a.zd.N) (Expr.mk a.Body.Op a.Body.N a.Body.S a.Body.Key a.Body.aZ) a.aA)) λx1=>(bif x1 then(vy (zN.mk b.aM b.aL b.Key b.N (zd.mk b.zd.aL b.zd.aB b.zd.Except b.zd.gY b.zd.gW b.zd.hU b.zd.gZ b.zd.aM (Expr.mk b.zd.Test.Op b.zd.Test.N b.zd.Test.S b.zd.Test.Key b.zd.Test.aZ) b.zd.zj b.zd.Uses b.zd.gS b.zd.N) (Expr.mk b.Body.Op b.Body.N b.Body.S b.Body.Key b.Body.aZ) b.aA)).bind λx2=>(bif x2 then(US (zN.mk a.aM a.aL a.Key a.N (zd.mk a.zd.aL a.zd.aB a.zd.Except a.zd.gY a.zd.gW a.zd.hU a.zd.gZ a.zd.aM (Expr.mk a.zd.Test.Op a.zd.Test.N a.zd.Test.S a.zd.Test.Key a.zd.Test.aZ) a.zd.zj a.zd.Uses a.zd.gS a.zd.N) (Expr.mk a.Body.Op a.Body.N a.Body.S a.Body.Key a.Body.aZ) a.aA)).bind λx3=>aN (US (zN.mk b.aM b.aL b.Key b.N (zd.mk b.zd.aL b.zd.aB b.zd.Except b.zd.gY b.zd.gW b.zd.hU b.zd.gZ b.zd.aM (Expr.mk b.zd.Test.Op b.zd.Test.N b.zd.Test.S b.zd.Test.Key b.zd.Test.aZ) b.zd.zj b.zd.Uses b.zd.gS b.zd.N) (Expr.mk b.Body.Op b.Body.N b.Body.S b.Body.Key b.Body.aZ) b.aA)) λx4=>bc (decide (x3.1=x4.1)&&(decide (x3.2.1=x4.2.1)&&(decide (x3.2.2=x4.2.2))))else bc bd)else bc bd)
def HX:Option (Bool):=aN (wc afB) λx1=>aN (jt ([(zN.mk 3 zm9 zMp 5 (zd.mk ([]:aj) [] [] 0 0 0 bd 0 (Expr.mk 0 0 ([]:aj) ([]:aj) []) (zj.mk 0 0 0 0) 0 0 0) (Expr.mk 0 0 ([]:aj) ([]:aj) []) [])]:List zN)) λx2=>aN (Pa (xP.mk [] [] [] [] [] [] [] 0) (zN.mk 5 zC3 ([]:aj) 60 (zd.mk ([]:aj) [] [] 0 0 0 bd 0 (Expr.mk 0 0 ([]:aj) ([]:aj) []) (zj.mk 0 0 0 0) 0 0 0) (Expr.mk 0 0 ([]:aj) ([]:aj) []) [])) λx3=>aN (UR 3) λx4=>aN (Pa (xP.mk [] [] [] [] [] [] [] 0) (zN.mk 2 SN ([]:aj) 0 (zd.mk ([]:aj) [] [] 0 0 0 bd 0 (Expr.mk 0 0 ([]:aj) ([]:aj) []) (zj.mk 0 0 0 0) 0 0 0) (Expr.mk x4.1 x4.2.1 x4.2.2.1 x4.2.2.2.1 x4.2.2.2.2) [])) λx5=>aN (zun (xP.mk [] [] [] [] [] [] [] 0) (xP.mk x5.2.1 x5.2.2.1 x5.2.2.2.1 x5.2.2.2.2.1 x5.2.2.2.2.2.1 x5.2.2.2.2.2.2.1 x5.2.2.2.2.2.2.2.1 x5.2.2.2.2.2.2.2.2)) λx6=>aN ((bif (!(decide ((x1.1.length:Int)=2)))then bc bg else(bif (!(decide ((x6.1.length:Int)=1)))then bc bg else bc (!(decide ((x5.2.1.length:Int)=1)))))) λx7=>(bif x7 then bc bd else((bif (decide (x1.2=0))then(bif (decide (x2.2=0))then(bif (decide (x3.1=4))then(bif (decide (x5.1=0))then(bif (decide (x6.2=0))then bc (decide (x2.1=afH))else bc bd)else bc bd)else bc bd)else bc bd)else bc bd)).bind λx8=>aN (aN (idx x1.1 0) λgw=>aN (HW gw (zN.mk 5 zC3 ([]:aj) 60 (zd.mk ([]:aj) [] [] 0 0 0 bd 0 (Expr.mk 0 0 ([]:aj) ([]:aj) []) (zj.mk 0 0 0 0) 0 0 0) (Expr.mk 0 0 ([]:aj) ([]:aj) []) [])) λgK=>(bif gK then(idx x1.1 1).bind λiZ=>aN (HW iZ (zN.mk 1 SN ([]:aj) 90 (zd.mk ([]:aj) [] [] 0 0 0 bd 0 (Expr.mk 0 0 ([]:aj) ([]:aj) []) (zj.mk 0 0 0 0) 0 0 0) (Expr.mk 0 0 ([]:aj) ([]:aj) []) [])) λkO=>bc kO else bc bd)) λx9=>(bif x8 then(bif x9 then(idx x6.1 0).bind λlP=>aN (UR 3) λlx=>aN (HW lP (zN.mk 2 SN ([]:aj) 0 (zd.mk ([]:aj) [] [] 0 0 0 bd 0 (Expr.mk 0 0 ([]:aj) ([]:aj) []) (zj.mk 0 0 0 0) 0 0 0) (Expr.mk lx.1 lx.2.1 lx.2.2.1 lx.2.2.2.1 lx.2.2.2.2) [])) λlY=>(bif lY then(idx x6.1 0).bind λl9=>aN (vy l9) λmK=>(bif mK then(idx x1.1 1).bind λi_=>aN (idx x1.1 1) λnF=>aN (UT i_ nF) λmY=>(bif mY then(idx x1.1 0).bind λmy=>aN (idx x1.1 1) λpM=>aN (UT my pM) λmZ=>(bif (!mZ)then(idx x1.1 0).bind λrZ=>aN (idx x1.1 0) λmj=>aN (qt rZ mj) λmz=>bc mz else bc bd)else bc bd)else bc bd)else bc bd)else bc bd)else bc bd))
def wY(ad7:Expr->Int->Int->Option (Int))(c0:Int)(c1:Int)(c2:Int)(c3:Int)(c4:aj)(c5:aj)(c6:List Expr):Nat->(Int×Int)->Option (Int)
 |0,_=>bh
 |K+1,q=>aN ((bif (decide (q.2<(c6.length:Int)))then bc (decide (q.1<=c0))else bc bd)) λx1=>(bif x1 then(idx c6 q.2).bind λx2=>aN (ad7 x2 (aS (c0-q.1)) (aS (c1-1))) λx3=>wY ad7 c0 c1 c2 c3 c4 c5 c6 K ((aS (q.1+x3)),(aS (q.2+1)))else bc q.1)
def yT:Nat->Expr->Int->Int->Option (Int)
 |0,_,_,_=>bh
 |RK+1,e,lV,levels=>(bif (decide (levels<1))then bc (aS (lV+1))else(wY (yT RK) lV levels e.Op e.N e.S e.Key e.aZ KK (1,0)).bind λx1=>bc x1)
def K6(r_:zd):Option (Bool):=aN (yT KK (Expr.mk r_.Test.Op r_.Test.N r_.Test.S r_.Test.Key r_.Test.aZ) 20 14) λx1=>(bif (decide (x1<=20))then(bif (decide ((r_.aB.length:Int)<=6))then bc (decide ((r_.Except.length:Int)<=6))else bc bd)else bc bd)
def jR(c0:List zN):Nat->(Int)->Option ((Bool)⊕(Unit))
 |0,_=>bh
 |K+1,q=>aN ((bif (decide (q<(c0.length:Int)))then bc (decide (q<7))else bc bd)) λx1=>(bif x1 then(aN (idx c0 q) λx3=>aN (K6 x3.zd) λx4=>(bif (!x4)then bc bg else(idx c0 q).bind λx5=>aN (yT KK x5.Body 20 14) λx6=>(bif (decide (x6>20))then bc bg else(idx c0 q).bind λx7=>bc (decide ((x7.aA.length:Int)>12))))).bind λx2=>(bif x2 then bc (bp bd)else jR c0 K (aS (q+1)))else bc (br ()))
def VY(l:List zN):Option (Bool):=(jR l KK 0).bind (xo bc λ_=>bc (decide ((l.length:Int)<=6)))
def vV(c0:List zN)(c1:List zN):Nat->(Int)->Option ((Bool)⊕(Unit))
 |0,_=>bh
 |K+1,q=>(bif (decide (q<(c0.length:Int)))then(idx c0 q).bind λx1=>aN (idx c1 q) λx2=>aN (HW x1 x2) λx3=>(bif (!x3)then bc (bp bd)else vV c0 c1 K (aS (q+1)))else bc (br ()))
def u7(a:List zN)(b:List zN):Option (Bool):=(bif (!(decide ((a.length:Int)=(b.length:Int))))then bc bd else(vV a b KK 0).bind (xo bc λ_=>bc bg))
def yU(c0:List zN)(c1:aj)(c2:Bool):Nat->(Bool×Int)->Option (Bool)
 |0,_=>bh
 |K+1,q=>(bif (decide (q.2<(c0.length:Int)))then((bif q.1 then(idx c0 q.2).bind λx2=>aN (vy x2) λx3=>bc x3 else bc bd)).bind λx1=>yU c0 c1 c2 K (x1,(aS (q.2+1)))else bc q.1)
def jz(l:List zN)(s:aj):Option (Bool):=aN HX λx1=>aN (aN (VY l) λx3=>(bif (!x3)then bc bg else bc (decide ((s.length:Int)>400)))) λx2=>(bif x2 then bc x1 else(yU l s x1 KK (bg,0)).bind λx4=>aN (jt l) λx5=>(bif (!(x4==(!(decide (x5.2=1)))))then bc bd else((bif (decide (x5.2=0))then(wc x5.1).bind λx7=>aN ((bif (!(decide (x7.2=0)))then bc bg else(u7 l x7.1).bind λx9=>bc (!x9))) λx8=>(bif x8 then bc (bp bd)else bc (br ()))else bc (br ()))).bind (xo bc λ_=>aN (wc s) λgw=>(bif (!(decide (gw.2=0)))then(bif x1 then bc (decide ((gw.1.length:Int)=0))else bc bd)else(jt gw.1).bind λgK=>aN (wc gK.1) λiZ=>aN (jt iZ.1) λkO=>(bif x1 then(bif (decide (gK.2=0))then(bif (decide (iZ.2=0))then(bif (decide (kO.2=0))then(u7 gw.1 iZ.1).bind λlP=>(bif lP then bc (decide (kO.1=gK.1))else bc bd)else bc bd)else bc bd)else bc bd)else bc bd)))))
end Go.Proofs.YtmjfiffpolkdeaaGreatDoor
