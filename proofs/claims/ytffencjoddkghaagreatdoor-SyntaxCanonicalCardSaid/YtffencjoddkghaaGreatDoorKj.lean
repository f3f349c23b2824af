/- texts that the proof reaches, part 10 -/
import Derived.Test.YtffencjoddkghaaGreatDoorKi
set_option linter.all false
open Bool renaming false->bd,true->bf
open Nat renaming beq->bk
open Option renaming some->bc,none->bh
set_option maxRecDepth 100000
namespace Go.Proofs.YtffencjoddkghaaGreatDoor
open Go Go.RowKit Go.Eng Go.EV Go.EQ
noncomputable abbrev PGq:=Tryz.prog
abbrev i6:TC:=.i .i64
abbrev dI(k:Nat):Tp:=.d i6 k
abbrev mBQ:TC:=.l (.m .s .b)
abbrev mPQ:TC:=.m .s .b
abbrev lsQ:TC:=.l .s
abbrev l0Q:TC:=.l (.st 0)
abbrev l1Q:TC:=.l (.st 1)
abbrev l2Q:TC:=.l (.st 2)
abbrev l3Q:TC:=.l (.st 3)
abbrev l4Q:TC:=.l (.st 4)
abbrev l5Q:TC:=.l (.st 5)
abbrev l7Q:TC:=.l (.st 7)
abbrev l8Q:TC:=.l (.st 8)
abbrev l9Q:TC:=.l (.st 9)
abbrev wu:TC:=.l (.st 10)
abbrev wx:TC:=.l (.st 11)
abbrev zp3:TC:=.l (.st 12)
abbrev ze6:TC:=.l (.st 13)
abbrev gpQ(l:List (Nat×TO)):List (Nat×TO):=(900000000,.rw 1)::(900000001,.rw 2)::(900000002,.rw 3)::(900000003,.rw 4)::l
abbrev pnQ(n:Nat):Nat×Tp:=(n,.ptr (1000000+n) 0)
abbrev p0Q:Nat×Tp:=(0,.ptr 1 0)
def u2Q{α0 α1 β:Type}(f:α0->α1->β)(x:α0×α1):β:=f x.1 x.2
def u3Q{α0 α1 α2 β:Type}(f:α0->α1->α2->β)(x:α0×α1×α2):β:=f x.1 x.2.1 x.2.2
def u4Q{α0 α1 α2 α3 β:Type}(f:α0->α1->α2->α3->β)(x:α0×α1×α2×α3):β:=f x.1 x.2.1 x.2.2.1 x.2.2.2
def u5Q{α0 α1 α2 α3 α4 β:Type}(f:α0->α1->α2->α3->α4->β)(x:α0×α1×α2×α3×α4):β:=f x.1 x.2.1 x.2.2.1 x.2.2.2.1 x.2.2.2.2
def u7Q{α0 α1 α2 α3 α4 α5 α6 β:Type}(f:α0->α1->α2->α3->α4->α5->α6->β)(x:α0×α1×α2×α3×α4×α5×α6):β:=f x.1 x.2.1 x.2.2.1 x.2.2.2.1 x.2.2.2.2.1 x.2.2.2.2.2.1 x.2.2.2.2.2.2
def u9Q{α0 α1 α2 α3 α4 α5 α6 α7 α8 β:Type}(f:α0->α1->α2->α3->α4->α5->α6->α7->α8->β)(x:α0×α1×α2×α3×α4×α5×α6×α7×α8):β:=f x.1 x.2.1 x.2.2.1 x.2.2.2.1 x.2.2.2.2.1 x.2.2.2.2.2.1 x.2.2.2.2.2.2.1 x.2.2.2.2.2.2.2.1 x.2.2.2.2.2.2.2.2
def u12Q{α0 α1 α2 α3 α4 α5 α6 α7 α8 α9 α10 α11 β:Type}(f:α0->α1->α2->α3->α4->α5->α6->α7->α8->α9->α10->α11->β)(x:α0×α1×α2×α3×α4×α5×α6×α7×α8×α9×α10×α11):β:=f x.1 x.2.1 x.2.2.1 x.2.2.2.1 x.2.2.2.2.1 x.2.2.2.2.2.1 x.2.2.2.2.2.2.1 x.2.2.2.2.2.2.2.1 x.2.2.2.2.2.2.2.2.1 x.2.2.2.2.2.2.2.2.2.1 x.2.2.2.2.2.2.2.2.2.2.1 x.2.2.2.2.2.2.2.2.2.2.2
def u14Q{α0 α1 α2 α3 α4 α5 α6 α7 α8 α9 α10 α11 α12 α13 β:Type}(f:α0->α1->α2->α3->α4->α5->α6->α7->α8->α9->α10->α11->α12->α13->β)(x:α0×α1×α2×α3×α4×α5×α6×α7×α8×α9×α10×α11×α12×α13):β:=f x.1 x.2.1 x.2.2.1 x.2.2.2.1 x.2.2.2.2.1 x.2.2.2.2.2.1 x.2.2.2.2.2.2.1 x.2.2.2.2.2.2.2.1 x.2.2.2.2.2.2.2.2.1 x.2.2.2.2.2.2.2.2.2.1 x.2.2.2.2.2.2.2.2.2.2.1 x.2.2.2.2.2.2.2.2.2.2.2.1 x.2.2.2.2.2.2.2.2.2.2.2.2.1 x.2.2.2.2.2.2.2.2.2.2.2.2.2
def u17Q{α0 α1 α2 α3 α4 α5 α6 α7 α8 α9 α10 α11 α12 α13 α14 α15 α16 β:Type}(f:α0->α1->α2->α3->α4->α5->α6->α7->α8->α9->α10->α11->α12->α13->α14->α15->α16->β)(x:α0×α1×α2×α3×α4×α5×α6×α7×α8×α9×α10×α11×α12×α13×α14×α15×α16):β:=f x.1 x.2.1 x.2.2.1 x.2.2.2.1 x.2.2.2.2.1 x.2.2.2.2.2.1 x.2.2.2.2.2.2.1 x.2.2.2.2.2.2.2.1 x.2.2.2.2.2.2.2.2.1 x.2.2.2.2.2.2.2.2.2.1 x.2.2.2.2.2.2.2.2.2.2.1 x.2.2.2.2.2.2.2.2.2.2.2.1 x.2.2.2.2.2.2.2.2.2.2.2.2.1 x.2.2.2.2.2.2.2.2.2.2.2.2.2.1 x.2.2.2.2.2.2.2.2.2.2.2.2.2.2.1 x.2.2.2.2.2.2.2.2.2.2.2.2.2.2.2.1 x.2.2.2.2.2.2.2.2.2.2.2.2.2.2.2.2
def u22Q{α0 α1 α2 α3 α4 α5 α6 α7 α8 α9 α10 α11 α12 α13 α14 α15 α16 α17 α18 α19 α20 α21 β:Type}(f:α0->α1->α2->α3->α4->α5->α6->α7->α8->α9->α10->α11->α12->α13->α14->α15->α16->α17->α18->α19->α20->α21->β)(x:α0×α1×α2×α3×α4×α5×α6×α7×α8×α9×α10×α11×α12×α13×α14×α15×α16×α17×α18×α19×α20×α21):β:=f x.1 x.2.1 x.2.2.1 x.2.2.2.1 x.2.2.2.2.1 x.2.2.2.2.2.1 x.2.2.2.2.2.2.1 x.2.2.2.2.2.2.2.1 x.2.2.2.2.2.2.2.2.1 x.2.2.2.2.2.2.2.2.2.1 x.2.2.2.2.2.2.2.2.2.2.1 x.2.2.2.2.2.2.2.2.2.2.2.1 x.2.2.2.2.2.2.2.2.2.2.2.2.1 x.2.2.2.2.2.2.2.2.2.2.2.2.2.1 x.2.2.2.2.2.2.2.2.2.2.2.2.2.2.1 x.2.2.2.2.2.2.2.2.2.2.2.2.2.2.2.1 x.2.2.2.2.2.2.2.2.2.2.2.2.2.2.2.2.1 x.2.2.2.2.2.2.2.2.2.2.2.2.2.2.2.2.2.1 x.2.2.2.2.2.2.2.2.2.2.2.2.2.2.2.2.2.2.1 x.2.2.2.2.2.2.2.2.2.2.2.2.2.2.2.2.2.2.2.1 x.2.2.2.2.2.2.2.2.2.2.2.2.2.2.2.2.2.2.2.2.1 x.2.2.2.2.2.2.2.2.2.2.2.2.2.2.2.2.2.2.2.2.2
def p5Q{α0 α1 α2 α3 α4 β:Type}(x:α0×α1×α2×α3×α4×β):β:=x.2.2.2.2.2
def p6Q{α0 α1 α2 α3 α4 α5 β:Type}(x:α0×α1×α2×α3×α4×α5×β):β:=x.2.2.2.2.2.2
def p7Q{α0 α1 α2 α3 α4 α5 α6 β:Type}(x:α0×α1×α2×α3×α4×α5×α6×β):β:=x.2.2.2.2.2.2.2
def p8Q{α0 α1 α2 α3 α4 α5 α6 α7 β:Type}(x:α0×α1×α2×α3×α4×α5×α6×α7×β):β:=x.2.2.2.2.2.2.2.2
def p9Q{α0 α1 α2 α3 α4 α5 α6 α7 α8 β:Type}(x:α0×α1×α2×α3×α4×α5×α6×α7×α8×β):β:=x.2.2.2.2.2.2.2.2.2
def zls{α0 α1 α2 α3 α4 α5 α6 α7 α8 α9 β:Type}(x:α0×α1×α2×α3×α4×α5×α6×α7×α8×α9×β):β:=x.2.2.2.2.2.2.2.2.2.2
def zlt{α0 α1 α2 α3 α4 α5 α6 α7 α8 α9 α10 β:Type}(x:α0×α1×α2×α3×α4×α5×α6×α7×α8×α9×α10×β):β:=x.2.2.2.2.2.2.2.2.2.2.2
def zlu{α0 α1 α2 α3 α4 α5 α6 α7 α8 α9 α10 α11 β:Type}(x:α0×α1×α2×α3×α4×α5×α6×α7×α8×α9×α10×α11×β):β:=x.2.2.2.2.2.2.2.2.2.2.2.2
def zp4{α0 α1 α2 α3 α4 α5 α6 α7 α8 α9 α10 α11 α12 β:Type}(x:α0×α1×α2×α3×α4×α5×α6×α7×α8×α9×α10×α11×α12×β):β:=x.2.2.2.2.2.2.2.2.2.2.2.2.2
def zp5{α0 α1 α2 α3 α4 α5 α6 α7 α8 α9 α10 α11 α12 α13 β:Type}(x:α0×α1×α2×α3×α4×α5×α6×α7×α8×α9×α10×α11×α12×α13×β):β:=x.2.2.2.2.2.2.2.2.2.2.2.2.2.2
def zun{α0 α1 α2 α3 α4 α5 α6 α7 α8 α9 α10 α11 α12 α13 α14 β:Type}(x:α0×α1×α2×α3×α4×α5×α6×α7×α8×α9×α10×α11×α12×α13×α14×β):β:=x.2.2.2.2.2.2.2.2.2.2.2.2.2.2.2
def zMs{α0 α1 α2 α3 α4 α5 α6 α7 α8 α9 α10 α11 α12 α13 α14 α15 β:Type}(x:α0×α1×α2×α3×α4×α5×α6×α7×α8×α9×α10×α11×α12×α13×α14×α15×β):β:=x.2.2.2.2.2.2.2.2.2.2.2.2.2.2.2.2
def zMt{α0 α1 α2 α3 α4 α5 α6 α7 α8 α9 α10 α11 α12 α13 α14 α15 α16 β:Type}(x:α0×α1×α2×α3×α4×α5×α6×α7×α8×α9×α10×α11×α12×α13×α14×α15×α16×β):β:=x.2.2.2.2.2.2.2.2.2.2.2.2.2.2.2.2.2
def zTx{α0 α1 α2 α3 α4 α5 α6 α7 α8 α9 α10 α11 α12 α13 α14 α15 α16 α17 β:Type}(x:α0×α1×α2×α3×α4×α5×α6×α7×α8×α9×α10×α11×α12×α13×α14×α15×α16×α17×β):β:=x.2.2.2.2.2.2.2.2.2.2.2.2.2.2.2.2.2.2
def zTy{α0 α1 α2 α3 α4 α5 α6 α7 α8 α9 α10 α11 α12 α13 α14 α15 α16 α17 α18 β:Type}(x:α0×α1×α2×α3×α4×α5×α6×α7×α8×α9×α10×α11×α12×α13×α14×α15×α16×α17×α18×β):β:=x.2.2.2.2.2.2.2.2.2.2.2.2.2.2.2.2.2.2.2
def zZ7{α0 α1 α2 α3 α4 α5 α6 α7 α8 α9 α10 α11 α12 α13 α14 α15 α16 α17 α18 α19 β:Type}(x:α0×α1×α2×α3×α4×α5×α6×α7×α8×α9×α10×α11×α12×α13×α14×α15×α16×α17×α18×α19×β):β:=x.2.2.2.2.2.2.2.2.2.2.2.2.2.2.2.2.2.2.2.2
def p21Q{α0 α1 α2 α3 α4 α5 α6 α7 α8 α9 α10 α11 α12 α13 α14 α15 α16 α17 α18 α19 α20 β:Type}(x:α0×α1×α2×α3×α4×α5×α6×α7×α8×α9×α10×α11×α12×α13×α14×α15×α16×α17×α18×α19×α20×β):β:=x.2.2.2.2.2.2.2.2.2.2.2.2.2.2.2.2.2.2.2.2.2
def p22Q{α0 α1 α2 α3 α4 α5 α6 α7 α8 α9 α10 α11 α12 α13 α14 α15 α16 α17 α18 α19 α20 α21 β:Type}(x:α0×α1×α2×α3×α4×α5×α6×α7×α8×α9×α10×α11×α12×α13×α14×α15×α16×α17×α18×α19×α20×α21×β):β:=x.2.2.2.2.2.2.2.2.2.2.2.2.2.2.2.2.2.2.2.2.2.2
def p23Q{α0 α1 α2 α3 α4 α5 α6 α7 α8 α9 α10 α11 α12 α13 α14 α15 α16 α17 α18 α19 α20 α21 α22 β:Type}(x:α0×α1×α2×α3×α4×α5×α6×α7×α8×α9×α10×α11×α12×α13×α14×α15×α16×α17×α18×α19×α20×α21×α22×β):β:=x.2.2.2.2.2.2.2.2.2.2.2.2.2.2.2.2.2.2.2.2.2.2.2
def p24Q{α0 α1 α2 α3 α4 α5 α6 α7 α8 α9 α10 α11 α12 α13 α14 α15 α16 α17 α18 α19 α20 α21 α22 α23 β:Type}(x:α0×α1×α2×α3×α4×α5×α6×α7×α8×α9×α10×α11×α12×α13×α14×α15×α16×α17×α18×α19×α20×α21×α22×α23×β):β:=x.2.2.2.2.2.2.2.2.2.2.2.2.2.2.2.2.2.2.2.2.2.2.2.2
def p25Q{α0 α1 α2 α3 α4 α5 α6 α7 α8 α9 α10 α11 α12 α13 α14 α15 α16 α17 α18 α19 α20 α21 α22 α23 α24 β:Type}(x:α0×α1×α2×α3×α4×α5×α6×α7×α8×α9×α10×α11×α12×α13×α14×α15×α16×α17×α18×α19×α20×α21×α22×α23×α24×β):β:=x.2.2.2.2.2.2.2.2.2.2.2.2.2.2.2.2.2.2.2.2.2.2.2.2.2
def p26Q{α0 α1 α2 α3 α4 α5 α6 α7 α8 α9 α10 α11 α12 α13 α14 α15 α16 α17 α18 α19 α20 α21 α22 α23 α24 α25 β:Type}(x:α0×α1×α2×α3×α4×α5×α6×α7×α8×α9×α10×α11×α12×α13×α14×α15×α16×α17×α18×α19×α20×α21×α22×α23×α24×α25×β):β:=x.2.2.2.2.2.2.2.2.2.2.2.2.2.2.2.2.2.2.2.2.2.2.2.2.2.2
def p27Q{α0 α1 α2 α3 α4 α5 α6 α7 α8 α9 α10 α11 α12 α13 α14 α15 α16 α17 α18 α19 α20 α21 α22 α23 α24 α25 α26 β:Type}(x:α0×α1×α2×α3×α4×α5×α6×α7×α8×α9×α10×α11×α12×α13×α14×α15×α16×α17×α18×α19×α20×α21×α22×α23×α24×α25×α26×β):β:=x.2.2.2.2.2.2.2.2.2.2.2.2.2.2.2.2.2.2.2.2.2.2.2.2.2.2.2
def p28Q{α0 α1 α2 α3 α4 α5 α6 α7 α8 α9 α10 α11 α12 α13 α14 α15 α16 α17 α18 α19 α20 α21 α22 α23 α24 α25 α26 α27 β:Type}(x:α0×α1×α2×α3×α4×α5×α6×α7×α8×α9×α10×α11×α12×α13×α14×α15×α16×α17×α18×α19×α20×α21×α22×α23×α24×α25×α26×α27×β):β:=x.2.2.2.2.2.2.2.2.2.2.2.2.2.2.2.2.2.2.2.2.2.2.2.2.2.2.2.2
variable[Vl]
def kmp{a b:Prop}(h:a=b)(x:a):b:=h▸x
def zJi{n:Int}(h0:0<=n)(h1:n<256):(((UInt8.ofNat (Int.toNat n)).toNat:Nat):Int)=n:=by
 rw[UInt8.toNat_ofNat'];omega
def zV3{T:Nat}(hT:zzs T)(s:ak)(n:Int)(r:ak)(h:zum s n=bc r):FnA PGq 168 [.ptr 1 0 0,.int .u8 n] [(1,sb T s)] .nili [(1,sb T r)]:=by
 obtain⟨_,h1,h2⟩:=bind_some h;obtain⟨g1,g2,g3⟩:=xo h1;cases h2;have:=zI2 hT 1 s (UInt8.ofNat (Int.toNat n)) g3;rw[zJi g1 g2]at this;exact this
def k1:List TC:=[i6,i6,i6,i6]
def k2:List TC:=[i6,i6,i6]
def k3:List TC:=[i6,.s,i6,i6]
def k4:List TC:=[l1Q,l3Q,l5Q,l7Q,l8Q,wu,l9Q,i6]
def h5:List (Nat×TO):=[(900000000,.rw 1),(900000001,.rw 2),(900000002,.rw 3),(900000003,.rw 4)]
def h6(v0 v1 v2 v3 v4:Nat):List (Nat×TO):=[(900000000,.rw 1),(900000001,.rw 2),(900000002,.rw 3),(900000003,.rw 4),(v0,.box 51 [dI v1,.d .s v2,dI v3,dI v4])]
def k7:List TC:=[wx,i6,i6]
def h8(v0:Nat):List (Nat×TO):=[(1,.box 67 [.d wx 0,dI v0])]
def k9:List TC:=[wx,i6,i6,i6]
def h10(v0:Nat):List (Nat×TO):=[(1,.box 67 [.d wx 0,dI v0]),(900000000,.rw 1),(900000001,.rw 2),(900000002,.rw 3),(900000003,.rw 4)]
def h11(v0 v1 v2 v3 v4 v5 v6:Nat):List (Nat×TO):=[(1,.box 67 [.d wx 0,dI v0]),(900000000,.rw 1),(900000001,.rw 2),(900000002,.rw 3),(900000003,.rw 4),(v1,.box 37 [dI v2,dI v3,.d .s v4,.d .s v5,.d l0Q v6])]
abbrev zJj:List (Nat×TO):=(h11 5 1000004 2 2 3 3 4)
def k12:List TC:=[i6,i6,i6,i6,.s,.s,l0Q]
def k13:List TC:=[i6,i6,i6,.s,.s,l0Q]
def k14:List TC:=[wx,i6,i6,.s,l0Q]
def h15:List (Nat×TO):=[(1,.box 67 [.d wx 0,dI 5]),(900000000,.rw 1),(900000001,.rw 2),(900000002,.rw 3),(900000003,.rw 4),(1000004,.box 37 [dI 2,dI 2,.d .s 3,.d .s 3,.d l0Q 4]),(1000005,.box 37 [dI 7,dI 8,.d .s 9,.d .s 10,.d l0Q 11])]
def h16(v0 v1 v2 v3 v4 v5 v6 v7 v8 v9 v10:Nat):List (Nat×TO):=[(1,.box 67 [.d wx 0,dI 1]),(900000000,.rw 1),(900000001,.rw 2),(900000002,.rw 3),(900000003,.rw 4),(1000004,.box 37 [dI v0,dI v0,.d .s v1,.d .s v1,.d l0Q v2]),(1000005,.box 37 [dI v3,dI v4,.d .s v5,.d .s v6,.d l0Q v7]),(1000007,.box 184 [.d .s v8,dI v9,dI v10])]
def k17:List TC:=[wx,i6,i6,i6,zp3,i6,i6,.s,l0Q,i6,i6,.s,.s,l0Q]
def k18:List TC:=[wx,i6,i6,i6,zp3,i6,i6,i6,.s,l0Q,i6,i6,.s,.s,l0Q]
def k19:List TC:=[wx,i6,i6,i6,.s,l0Q,i6,i6,.s,.s,l0Q,.s,i6,i6]
def h20(v0 v1 v2 v3 v4 v5:Nat):List (Nat×TO):=[(1,.box 67 [.d wx 0,dI v0]),(2,.box 78 [.ptr 1 0]),(3,.box 37 [dI v1,dI v2,.d .s v3,.d .s v4,.d l0Q v5])]
abbrev zJk:List (Nat×TO):=((h20 1 2 3 4 5 6)++h5)
def k21:List TC:=[wx,i6,i6,i6,.s,.s,l0Q]
def k22:List TC:=[i6,i6,i6,i6,i6,.s,.s,l0Q]
def h23(v0 v1 v2 v3 v4 v5:Nat):List (Nat×TO):=[(900000000,.rw 1),(900000001,.rw 2),(900000002,.rw 3),(900000003,.rw 4),(v0,.box 37 [dI v1,dI v2,.d .s v3,.d .s v4,.d l0Q v5])]
def h24(v0 v1 v2 v3 v4 v5:Nat):List (Nat×TO):=[(900000000,.rw 1),(900000001,.rw 2),(900000002,.rw 3),(900000003,.rw 4),(1000002,.box 37 [dI v0,dI v1,.d .s v2,.d .s v3,.d l0Q v4]),(1000005,.box 37 [dI v0,dI 7,.d .s 8,.d .s v5,.d l0Q v4])]
def h25(v0 v1 v2 v3 v4 v5:Nat):List (Nat×TO):=[(v0,.box 37 [dI v1,dI v2,.d .s v3,.d .s v4,.d l0Q v5])]
def h26(v0 v1:Nat):List (Nat×TO):=[(1,.gn v0 .s v1),(900000000,.rw 1),(900000001,.rw 2),(900000002,.rw 3),(900000003,.rw 4)]
def h27:List (Nat×TO):=[(1,.gn 0 .s 7),(900000000,.rw 1),(900000001,.rw 2),(900000002,.rw 3),(900000003,.rw 4),(1000004,.box 37 [dI 1,dI 2,.d .s 3,.d .s 4,.d l0Q 5]),(1000090,.row 9 .s 6 bd)]
def h28:List (Nat×TO):=[(1,.gn 0 .s 0),(900000000,.rw 1),(900000001,.rw 2),(900000002,.rw 3),(900000003,.rw 4),(1000004,.box 37 [dI 3,dI 4,.d .s 5,.d .s 6,.d l0Q 7])]
def h29(v0 v1 v2 v3 v4 v5 v6 v7 v8 v9 v10 v11 v12 v13 v14 v15:Nat):List (Nat×TO):=[(1,.box 71 [.d wx 0,dI v0,.row 6 2,.row 3 3,.row 3 4,.row 20 5,.row 4 6,.row 6 7,.nrow 3 8,dI v1,.om 9,.om 10,.om 11,.om 12,.om 13,.om 14,.d .b v2]),(2,.row 57 (.st 1) v3 bd),(3,.row 87 (.st 3) v4 bd),(4,.row 64 (.st 5) v5 bd),(5,.row 94 (.st 7) v6 bd),(6,.row 96 (.st 8) v7 bd),(7,.row 100 (.st 10) v8 bd),(8,.row 98 (.st 9) v9 bd),(9,.gn 7 mBQ v10),(10,.gn 7 mBQ v11),(11,.gn 7 mBQ v12),(12,.gn 7 mBQ v13),(13,.gn 7 mBQ v14),(14,.gn 7 mBQ v15)]
abbrev zV4:List (Nat×TO):=((h29 19 1 2 3 4 5 6 7 8 9 10 11 12 13 14 15)++h5++(h25 1000004 16 16 17 17 18))
abbrev zJl:List (Nat×TO):=(h29 15 1 2 3 4 5 6 7 8 16 9 10 11 12 13 14)
abbrev zTz:List (Nat×TO):=(h29 18 9 16 2 3 4 5 6 7 8 10 11 12 13 14 15)
abbrev zT0:List (Nat×TO):=(h29 19 9 16 2 3 4 5 6 7 8 10 11 12 13 14 15)
abbrev zZ8:List (Nat×TO):=((h29 20 1 2 3 4 5 6 7 8 9 10 11 12 13 14 15)++h5++(h25 1000004 17 17 18 18 19))
abbrev zMu:List (Nat×TO):=(h29 16 1 2 3 4 5 6 7 8 9 10 11 12 13 14 15)
abbrev zlv:List (Nat×TO):=(h29 1 2 3 4 5 6 7 8 9 10 11 12 13 14 15 16)
abbrev vv:List (Nat×TO):=(h29 1 9 16 2 3 4 5 6 7 8 10 11 12 13 14 15)
def k30:List TC:=[wx,i6,l1Q,l3Q,l5Q,l7Q,l8Q,wu,l9Q,i6,mBQ,mBQ,mBQ,mBQ,mBQ,mBQ,.b]
def h31(v0 v1 v2 v3 v4:Nat):List (Nat×TO):=[(v0,.box 51 [dI v1,.d .s v2,dI v3,dI v4])]
def k32:List TC:=[wx,i6,l1Q,l3Q,l5Q,l7Q,l8Q,wu,l9Q,i6,mBQ,mBQ,mBQ,mBQ,mBQ,mBQ,.b,.b,i6]
def k33:List TC:=[wx,i6,l1Q,l3Q,l5Q,l7Q,l8Q,wu,l9Q,i6,mBQ,mBQ,mBQ,mBQ,mBQ,mBQ,.b,i6,i6]
def k34:List TC:=[.s,i6,mBQ]
def h35(v0 v1 v2 v3 v4 v5 v6 v7 v8 v9 v10:Nat):List (Nat×TO):=[(1,.box 71 [.d wx 0,dI v0,.row 6 2,.row 3 3,.row 3 4,.row 20 5,.row 4 6,.row 6 7,.nrow 3 8,dI v1,.om v2,.om 10,.om 11,.om 12,.om 13,.om 14,.d .b v3]),(2,.row 57 (.st 1) v4 bd),(3,.row 87 (.st 3) v5 bd),(4,.row 64 (.st 5) v6 bd),(5,.row 94 (.st 7) v7 bd),(6,.row 96 (.st 8) v8 bd),(7,.row 100 (.st 10) v9 bd),(8,.row 98 (.st 9) v10 bd),(9,.rw 0),(10,.gn 7 mBQ 11),(11,.gn 7 mBQ 12),(12,.gn 7 mBQ 13),(13,.gn 7 mBQ 14),(14,.gn 7 mBQ 15)]
def h36(v0 v1:Nat):List (Nat×TO):=[(v0,.gn 7 mBQ v1)]
def k37:List TC:=[wx,i6,i6,.b,l1Q,l3Q,l5Q,l7Q,l8Q,wu,l9Q,mBQ,mBQ,mBQ,mBQ,mBQ,i6]
def k38:List TC:=[wx,i6,l1Q,l3Q,l5Q,l7Q,l8Q,wu,l9Q,i6,mBQ,mBQ,mBQ,mBQ,mBQ,mBQ,.b,.s]
def k39:List TC:=[wx,i6,i6,.b,l1Q,l3Q,l5Q,l7Q,l8Q,wu,l9Q,mBQ,mBQ,mBQ,mBQ,mBQ,mBQ,i6]
def k40:List TC:=[wx,i6,l1Q,l3Q,l5Q,l7Q,l8Q,wu,l9Q,i6,mBQ,mBQ,mBQ,mBQ,mBQ,mBQ,.b,i6]
def k41:List TC:=[wx,i6,.b,l1Q,l3Q,l5Q,l7Q,l8Q,wu,l9Q,mBQ,mBQ,mBQ,mBQ,mBQ,mBQ,i6,i6,.s,l0Q]
def k42:List TC:=[wx,i6,.b,l1Q,l3Q,l5Q,l7Q,l8Q,wu,l9Q,mBQ,mBQ,mBQ,mBQ,mBQ,mBQ,i6,.s,l0Q]
def h43(v0 v1 v2 v3 v4 v5 v6 v7 v8 v9 v10 v11:Nat):List (Nat×TO):=[(v0,.box 37 [dI v1,dI v2,.d .s v3,.d .s v4,.d l0Q v5]),(v6,.box 37 [dI v7,dI v8,.d .s v9,.d .s v10,.d l0Q v11])]
abbrev zV5:List (Nat×TO):=((h29 20 1 2 3 4 5 6 7 8 9 10 11 12 13 14 15)++h5++(h43 1000004 17 17 18 18 19 1000005 22 23 24 25 26))
def h44(v0 v1 v2 v3 v4 v5 v6 v7 v8 v9 v10:Nat):List (Nat×TO):=[(1000004,.box 37 [dI v0,dI v0,.d .s v1,.d .s v1,.d l0Q v2]),(1000005,.box 37 [dI v3,dI v4,.d .s v5,.d .s v6,.d l0Q v7]),(1000007,.box 184 [.d .s v8,dI v9,dI v10])]
def k45:List TC:=[wx,i6,i6,.b,l1Q,l3Q,l5Q,l7Q,l8Q,wu,l9Q,mBQ,mBQ,mBQ,mBQ,mBQ,mBQ,i6,i6,zp3,i6,i6,.s,l0Q,i6,i6,.s,.s,l0Q]
def k46:List TC:=[wx,i6,i6,.b,l1Q,l3Q,l5Q,l7Q,l8Q,wu,l9Q,mBQ,mBQ,mBQ,mBQ,mBQ,mBQ,i6,i6,zp3,i6,i6,i6,.s,l0Q,i6,i6,.s,.s,l0Q]
def k47:List TC:=[wx,i6,i6,.b,l1Q,l3Q,l5Q,l7Q,l8Q,wu,l9Q,mBQ,mBQ,mBQ,mBQ,mBQ,mBQ,i6,i6,.s,l0Q,i6,i6,.s,.s,l0Q,.s,i6,i6]
def h48(v0 v1 v2 v3 v4 v5 v6 v7 v8 v9 v10 v11 v12 v13 v14 v15:Nat):List (Nat×TO):=[(1,.box 71 [.d wx 0,dI v0,.row 6 2,.row 3 3,.row 3 4,.row 20 5,.row 4 6,.row 6 7,.nrow 3 8,dI v1,.om 9,.om v2,.om 11,.om 12,.om 13,.om 14,.d .b v3]),(2,.row 57 (.st 1) v4 bd),(3,.row 87 (.st 3) v5 bd),(4,.row 64 (.st 5) v6 bd),(5,.row 94 (.st 7) v7 bd),(6,.row 96 (.st 8) v8 bd),(7,.row 100 (.st 10) v9 bd),(8,.row 98 (.st 9) v10 bd),(9,.gn 7 mBQ v11),(10,.rw 0),(11,.gn 7 mBQ v12),(12,.gn 7 mBQ v13),(13,.gn 7 mBQ v14),(14,.gn 7 mBQ v15)]
abbrev zV6:List (Nat×TO):=((h48 1 2 7000001 3 4 5 6 7 8 9 10 11 12 13 14 15)++h5++(h36 7000001 17))
abbrev zJm:List (Nat×TO):=(h48 18 1 103000500 2 3 4 5 6 7 8 9 10 11 12 13 14)
def h49(v0 v1:Nat):List (Nat×TO):=[(1,.box 71 [.d wx 0,dI v0,.row 6 2,.row 3 3,.row 3 4,.row 20 5,.row 4 6,.row 6 7,.nrow 3 8,dI 9,.om 9,.om 10,.om 11,.om 12,.om 13,.om 14,.d .b 16]),(2,.row 57 (.st 1) 2 bd),(3,.row 87 (.st 3) 3 bd),(4,.row 64 (.st 5) 4 bd),(5,.row 94 (.st 7) 5 bd),(6,.row 96 (.st 8) 6 bd),(7,.row 100 (.st 10) 7 bd),(8,.row 98 (.st 9) 8 bd),(9,.gn 7 mBQ 10),(10,.gn 7 mBQ 11),(11,.gn 7 mBQ 12),(12,.gn 7 mBQ 13),(13,.gn 7 mBQ 14),(14,.gn 7 mBQ 15),(15,.map .s .b v1)]
def k50:List TC:=[wx,i6,l1Q,l3Q,l5Q,l7Q,l8Q,wu,l9Q,i6,mBQ,mBQ,mBQ,mBQ,mBQ,mBQ,.b,.m .s .b]
def h51:List (Nat×TO):=[(103000500,.gn 7 mBQ 15),(1000002,.box 87 [.d .s 16,.row 2 1001000002001,dI 17]),(1000007,.map .s .b 19),(1001000002001,.row 119 (.st 2) 20 bd)]
def k52:List TC:=[wx,i6,.b,l1Q,l3Q,l5Q,l7Q,l8Q,wu,l9Q,mBQ,mBQ,mBQ,mBQ,mBQ,mBQ,.s,i6]
def h53:List (Nat×TO):=[(103000500,.gn 7 mBQ 15),(1000002,.box 87 [.d .s 16,.row 2 1001000002001,dI 17]),(1001000002001,.row 119 (.st 2) 19 bd)]
def h54(v0 v1 v2 v3 v4 v5 v6 v7 v8 v9 v10 v11 v12:Nat):List (Nat×TO):=[(1,.box 71 [.d wx 0,dI v0,.row 6 2,.row 3 3,.row 3 4,.row 20 5,.row 4 6,.row 6 7,.nrow 3 8,dI v1,.om 9,.om 10,.om v2,.om 12,.om 13,.om 14,.d .b v3]),(2,.row 57 (.st 1) v4 bd),(3,.row 87 (.st 3) v5 bd),(4,.row 64 (.st 5) v6 bd),(5,.row 94 (.st 7) v7 bd),(6,.row 96 (.st 8) v8 bd),(7,.row 100 (.st 10) v9 bd),(8,.row 98 (.st 9) v10 bd),(9,.gn 7 mBQ v11),(10,.gn 7 mBQ v12),(11,.rw 0),(12,.gn 7 mBQ 13),(13,.gn 7 mBQ 14),(14,.gn 7 mBQ 15)]
abbrev zV7:List (Nat×TO):=((h54 1 2 7000001 3 4 5 6 7 8 9 10 11 12)++h5++(h36 7000001 17))
def k55:List TC:=[wx,i6,.b,l1Q,l3Q,l5Q,l7Q,l8Q,wu,l9Q,mBQ,mBQ,mBQ,mBQ,mBQ,mBQ]
def h56(v0 v1 v2 v3 v4 v5 v6 v7 v8 v9 v10 v11 v12 v13 v14 v15:Nat):List (Nat×TO):=[(1,.box 71 [.d wx 0,dI v0,.row 6 2,.row 3 3,.row 3 4,.row 20 5,.row 4 6,.row 6 7,.nrow 3 8,dI v1,.om 9,.om 10,.om 11,.om v2,.om 13,.om 14,.d .b v3]),(2,.row 57 (.st 1) v4 bd),(3,.row 87 (.st 3) v5 bd),(4,.row 64 (.st 5) v6 bd),(5,.row 94 (.st 7) v7 bd),(6,.row 96 (.st 8) v8 bd),(7,.row 100 (.st 10) v9 bd),(8,.row 98 (.st 9) v10 bd),(9,.gn 7 mBQ v11),(10,.gn 7 mBQ v12),(11,.gn 7 mBQ v13),(12,.rw 0),(13,.gn 7 mBQ v14),(14,.gn 7 mBQ v15)]
abbrev zV8:List (Nat×TO):=((h56 1 2 7000001 3 4 5 6 7 8 9 10 11 12 13 14 15)++h5++(h36 7000001 17))
abbrev zZ9:List (Nat×TO):=(h56 22 1 103000400 2 3 4 5 6 7 8 9 10 11 12 13 14)
abbrev z0a:List (Nat×TO):=(h56 23 1 103000400 2 3 4 5 6 7 8 9 10 11 12 13 14)
def h57(v0 v1:Nat):List (Nat×TO):=[(v0,.row 9 .s v1 bd)]
def k58:List TC:=[wx,i6,i6,.b,l1Q,l3Q,l5Q,l7Q,l8Q,wu,l9Q,mBQ,mBQ,mBQ,mBQ,mBQ,mBQ,i6,i6]
def h59(v0 v1 v2 v3 v4 v5 v6 v7 v8 v9 v10 v11 v12 v13 v14 v15 v16 v17 v18:Nat):List (Nat×TO):=[(103000400,.gn 7 mBQ 15),(1000002,.box 94 [.d .s 16,.d lsQ v0,.d lsQ v1,dI v2,dI v3,dI v4,.d .b v5,dI v6,dI v7,dI v8,.d .s v9,.d .s v10,.d l0Q v11,dI v12,dI v13,dI v14,dI v15,dI v16,dI v17,dI v18])]
abbrev zV9:List (Nat×TO):=((h56 24 1 103000400 2 3 4 5 6 7 8 9 10 11 12 13 14)++h5++(h59 17 18 19 25 20 21 20 20 20 22 22 23 20 20 20 20 20 20 20))
abbrev zWa:List (Nat×TO):=((h56 25 1 103000400 2 3 4 5 6 7 8 9 10 11 12 13 14)++h5++(h59 17 18 19 20 26 21 22 22 22 23 23 24 22 22 22 22 22 22 22))
def k60:List TC:=[wx,i6,.b,l1Q,l3Q,l5Q,l7Q,l8Q,wu,l9Q,mBQ,mBQ,mBQ,mBQ,mBQ,mBQ,.s,lsQ,i6,.b,.s,l0Q]
def k61:List TC:=[wx,i6,.b,l1Q,l3Q,l5Q,l7Q,l8Q,wu,l9Q,mBQ,mBQ,mBQ,mBQ,mBQ,mBQ,.s,lsQ,lsQ,i6,.b,.s,l0Q]
def k62:List TC:=[wx,i6,.b,l1Q,l3Q,l5Q,l7Q,l8Q,wu,l9Q,mBQ,mBQ,mBQ,mBQ,mBQ,mBQ,.s,lsQ,lsQ,i6,i6,.b,.s,l0Q]
def k63:List TC:=[wx,i6,.b,l1Q,l3Q,l5Q,l7Q,l8Q,wu,l9Q,mBQ,mBQ,mBQ,mBQ,mBQ,mBQ,.s,lsQ,lsQ,i6,i6,.b,i6,.s,l0Q]
def k64:List TC:=[wx,i6,.b,l1Q,l3Q,l5Q,l7Q,l8Q,wu,l9Q,mBQ,mBQ,mBQ,mBQ,mBQ,mBQ,.s,lsQ,lsQ,i6,i6,i6,.b]
def k65:List TC:=[i6,i6,i6,i6,.s,.s,l0Q,i6,i6,i6,i6,i6,i6,i6]
def h66(v0 v1 v2 v3 v4 v5 v6 v7 v8 v9 v10 v11 v12 v13 v14:Nat):List (Nat×TO):=[(1,.box 71 [.d wx 0,dI v0,.row 6 2,.row 3 3,.row 3 4,.row 20 5,.row 4 6,.row 6 7,.nrow 3 8,dI v1,.om 9,.om 10,.om 11,.om 12,.om v2,.om 14,.d .b v3]),(2,.row 57 (.st 1) v4 bd),(3,.row 87 (.st 3) v5 bd),(4,.row 64 (.st 5) v6 bd),(5,.row 94 (.st 7) v7 bd),(6,.row 96 (.st 8) v8 bd),(7,.row 100 (.st 10) v9 bd),(8,.row 98 (.st 9) v10 bd),(9,.gn 7 mBQ v11),(10,.gn 7 mBQ v12),(11,.gn 7 mBQ v13),(12,.gn 7 mBQ v14),(13,.rw 0),(14,.gn 7 mBQ 15)]
abbrev zWb:List (Nat×TO):=((h66 1 2 7000001 3 4 5 6 7 8 9 10 11 12 13 14)++h5++(h36 7000001 17))
def h67(v0 v1 v2 v3 v4 v5 v6 v7 v8 v9 v10 v11 v12 v13 v14 v15:Nat):List (Nat×TO):=[(1,.box 71 [.d wx 0,dI v0,.row 6 2,.row 3 3,.row 3 4,.row 20 5,.row 4 6,.row 6 7,.nrow 3 8,dI v1,.om 9,.om 10,.om 11,.om 12,.om 13,.om v2,.d .b v3]),(2,.row 57 (.st 1) v4 bd),(3,.row 87 (.st 3) v5 bd),(4,.row 64 (.st 5) v6 bd),(5,.row 94 (.st 7) v7 bd),(6,.row 96 (.st 8) v8 bd),(7,.row 100 (.st 10) v9 bd),(8,.row 98 (.st 9) v10 bd),(9,.gn 7 mBQ v11),(10,.gn 7 mBQ v12),(11,.gn 7 mBQ v13),(12,.gn 7 mBQ v14),(13,.gn 7 mBQ v15),(14,.rw 0)]
abbrev zWc:List (Nat×TO):=((h67 1 2 7000001 3 4 5 6 7 8 9 10 11 12 13 14 15)++h5++(h36 7000001 17))
def h68:List (Nat×TO):=[(103000400,.gn 7 mBQ 15),(1000002,.box 100 [.d .s 16,dI 17,dI 18,dI 19,dI 20,.row 3 1001000002005]),(1001000002005,.row 98 (.st 9) 22 bd)]
abbrev z0b:List (Nat×TO):=((h67 21 1 103000400 2 3 4 5 6 7 8 9 10 11 12 13 14)++h5++h68)
def k69:List TC:=[wx,i6,.b,l1Q,l3Q,l5Q,l7Q,l8Q,wu,l9Q,mBQ,mBQ,mBQ,mBQ,mBQ,mBQ,.s,i6,i6,i6,i6]
def k70:List TC:=[wx,i6,.b,l1Q,l3Q,l5Q,l7Q,l8Q,wu,mBQ,mBQ,mBQ,mBQ,mBQ,mBQ]
def k71:List TC:=[wx,i6,i6,.b,l1Q,l3Q,l5Q,l7Q,l8Q,wu,l9Q,mBQ,mBQ,mBQ,mBQ,mBQ,mBQ]
def h72(v0 v1 v2 v3 v4 v5 v6 v7 v8 v9 v10 v11 v12 v13 v14 v15:Nat):List (Nat×TO):=[(1,.box 71 [.d wx 0,dI v0,.row 6 2,.row 3 3,.row 3 4,.row 20 5,.row 4 6,.row 6 7,.nrow 3 8,dI v1,.om v2,.om v3,.om v4,.om v5,.om v6,.om v7,.d .b v8]),(2,.row 57 (.st 1) v9 bd),(3,.row 87 (.st 3) v10 bd),(4,.row 64 (.st 5) v11 bd),(5,.row 94 (.st 7) v12 bd),(6,.row 96 (.st 8) v13 bd),(7,.row 100 (.st 10) v14 bd),(8,.row 98 (.st 9) v15 bd),(9,.rw 0),(10,.rw 0),(11,.rw 0),(12,.rw 0),(13,.rw 0),(14,.rw 0)]
def h73(v0 v1 v2 v3 v4 v5 v6 v7 v8 v9 v10 v11:Nat):List (Nat×TO):=[(v0,.gn 7 mBQ v1),(v2,.gn 7 mBQ v3),(v4,.gn 7 mBQ v5),(v6,.gn 7 mBQ v7),(v8,.gn 7 mBQ v9),(v10,.gn 7 mBQ v11)]
abbrev z0c:List (Nat×TO):=((h72 1 2 7000001 7000002 7000003 7000004 7000005 7000006 3 4 5 6 7 8 9 10)++h5++(h73 7000001 11 7000002 12 7000003 13 7000004 14 7000005 15 7000006 16))
def k74:List TC:=[i6,i6,.b,l1Q,l3Q,l5Q,l7Q,l8Q,wu,l9Q,mBQ,mBQ,mBQ,mBQ,mBQ,mBQ]
def h75(v0 v1 v2 v3 v4 v5 v6 v7 v8 v9 v10 v11 v12 v13 v14:Nat):List (Nat×TO):=[(900000000,.rw 1),(900000001,.rw 2),(900000002,.rw 3),(900000003,.rw 4),(v0,.box 31 [.row 6 v1,.row 3 v2,.row 3 v3,.row 20 v4,.row 4 v5,.row 6 v6,.d l9Q v7,dI v8]),(v1,.row 57 (.st 1) v9 bd),(v2,.row 87 (.st 3) v10 bd),(v3,.row 64 (.st 5) v11 bd),(v4,.row 94 (.st 7) v12 bd),(v5,.row 96 (.st 8) v13 bd),(v6,.row 100 (.st 10) v14 bd)]
def k76:List TC:=[i6,i6,l9Q,i6,l1Q,l3Q,l5Q,l7Q,l8Q,wu]
def h77(v0:Nat):List (Nat×TO):=[(900000000,.rw 1),(900000001,.rw 2),(900000002,.rw 3),(900000003,.rw 4),(7000001,.row 9 .s v0 bd)]
def h78(v0 v1 v2 v3 v4 v5 v6 v7 v8 v9 v10 v11 v12 v13 v14 v15 v16 v17 v18 v19 v20 v21 v22 v23 v24 v25 v26 v27 v28 v29 v30 v31 v32 v33 v34 v35 v36 v37 v38 v39:Nat):List (Nat×TO):=[(1000002,.box 94 [.d .s v0,.d lsQ v1,.d lsQ v2,dI v3,dI v4,dI v5,.d .b v6,dI v7,dI v8,dI v9,.d .s v10,.d .s v11,.d l0Q v12,dI v13,dI v14,dI v15,dI v16,dI v17,dI v18,dI v19]),(1000003,.box 94 [.d .s v20,.d lsQ v21,.d lsQ v22,dI v23,dI v24,dI v25,.d .b v26,dI v27,dI v28,dI v29,.d .s v30,.d .s v31,.d l0Q v32,dI v33,dI v34,dI v35,dI v36,dI v37,dI v38,dI v39])]
abbrev zWd:List (Nat×TO):=(h78 0 1 2 3 4 5 6 7 8 9 10 11 12 13 14 15 16 17 18 19 20 21 22 23 24 25 26 27 28 29 30 31 32 33 34 35 36 37 38 39)
def k79:List TC:=[.s,lsQ,lsQ,i6,i6,i6,.b,i6,i6,i6,.s,.s,l0Q,i6,i6,i6,i6,i6,i6,i6,.s,lsQ,lsQ,i6,i6,i6,.b,i6,i6,i6,.s,.s,l0Q,i6,i6,i6,i6,i6,i6,i6]
def k80:List TC:=[.s,lsQ,lsQ,i6,i6,i6,.b,i6,i6,i6,.s,.s,l0Q,i6,i6,i6,i6,i6,i6,i6]
def h81(v0 v1 v2 v3 v4 v5 v6 v7 v8:Nat):List (Nat×TO):=[(900000000,.rw 1),(900000001,.rw 2),(900000002,.rw 3),(900000003,.rw 4),(v0,.box 31 [.d l1Q v1,.d l3Q v2,.d l5Q v3,.d l7Q v4,.d l8Q v5,.d wu v6,.d l9Q v7,dI v8])]
def k82:List TC:=[l1Q,i6,l3Q,l5Q,l7Q,l8Q,wu,l9Q,i6]
def k83:List TC:=[l3Q,i6,l1Q,l5Q,l7Q,l8Q,wu,l9Q,i6]
def k84:List TC:=[l5Q,i6,l1Q,l3Q,l7Q,l8Q,wu,l9Q,i6]
def k85:List TC:=[l7Q,i6,l1Q,l3Q,l5Q,l8Q,wu,l9Q,i6]
def k86:List TC:=[l8Q,i6,l1Q,l3Q,l5Q,l7Q,wu,l9Q,i6]
def k87:List TC:=[wu,i6,l1Q,l3Q,l5Q,l7Q,l8Q,l9Q,i6]
def h88(v0 v1 v2 v3 v4 v5 v6 v7:Nat):List (Nat×TO):=[(900000000,.rw 1),(900000001,.rw 2),(900000002,.rw 3),(900000003,.rw 4),(1000001,.box 31 [.d l1Q v0,.d l3Q v1,.d l5Q v2,.d l7Q v3,.d l8Q v4,.d wu 0,.d l9Q v5,dI v6]),(1000170,.row 98 (.st 9) v7 bd)]
def k89:List TC:=[l9Q,i6,l1Q,l3Q,l5Q,l7Q,l8Q,wu,i6]
def h90(v0 v1 v2 v3 v4 v5 v6 v7 v8 v9 v10 v11 v12 v13 v14 v15 v16 v17 v18 v19 v20 v21:Nat):List (Nat×TO):=[(1,.gn 1 .s v0),(900000000,.rw 1),(900000001,.rw 2),(900000002,.rw 3),(900000003,.rw 4),(1000003,.box 94 [.d .s v1,.d lsQ v2,.d lsQ v3,dI v4,dI v5,dI v6,.d .b v7,dI v8,dI v9,dI v10,.d .s v11,.d .s v12,.d l0Q v13,dI v14,dI v15,dI v16,dI v17,dI v18,dI v19,dI v20]),(1000022,.row 58 lsQ v21 bd)]
def h91(v0 v1 v2 v3 v4 v5 v6 v7 v8 v9 v10 v11 v12 v13 v14 v15 v16 v17 v18 v19 v20:Nat):List (Nat×TO):=[(1,.gn 1 .s v0),(900000000,.rw 1),(900000001,.rw 2),(900000002,.rw 3),(900000003,.rw 4),(1000003,.box 94 [.d .s v1,.d lsQ v2,.d lsQ v3,dI v4,dI v5,dI v6,.d .b v7,dI v8,dI v9,dI v10,.d .s v11,.d .s v12,.d l0Q v13,dI v14,dI v15,dI v16,dI v17,dI v18,dI v19,dI v20])]
def h92(v0 v1 v2 v3 v4 v5 v6 v7 v8 v9 v10 v11 v12 v13 v14 v15 v16 v17 v18 v19 v20 v21:Nat):List (Nat×TO):=[(1,.gn 1 .s v0),(900000000,.rw 1),(900000001,.rw 2),(900000002,.rw 3),(900000003,.rw 4),(1000003,.box 94 [.d .s v1,.d lsQ v2,.d lsQ v3,dI v4,dI v5,dI v6,.d .b v7,dI v8,dI v9,dI v10,.d .s v11,.d .s v12,.d l0Q v13,dI v14,dI v15,dI v16,dI v17,dI v18,dI v19,dI v20]),(1000050,.row 3 i6 v21 bd)]
def h93(v0 v1 v2 v3 v4 v5 v6 v7 v8 v9 v10 v11 v12 v13 v14 v15 v16 v17 v18 v19 v20 v21:Nat):List (Nat×TO):=[(1,.gn 1 .s v0),(900000000,.rw 1),(900000001,.rw 2),(900000002,.rw 3),(900000003,.rw 4),(1000003,.box 94 [.d .s v1,.d lsQ v2,.d lsQ v3,dI v4,dI v5,dI v6,.d .b v7,dI v8,dI v9,dI v10,.d .s v11,.d .s v12,.d l0Q v13,dI v14,dI v15,dI v16,dI v17,dI v18,dI v19,dI v20]),(103008000,.row 9 .s v21 bd)]
def h94(v0 v1 v2 v3 v4 v5 v6 v7 v8:Nat):List (Nat×TO):=[(900000000,.rw 1),(900000001,.rw 2),(900000002,.rw 3),(900000003,.rw 4),(1000001,.box 31 [.d l1Q v0,.d l3Q v1,.d l5Q v2,.d l7Q v3,.d l8Q v4,.d wu v5,.d l9Q v6,dI v7]),(1000028,.gn 1 .s v8)]
def h95(v0:Nat):List (Nat×TO):=[(900000000,.rw 1),(900000001,.rw 2),(900000002,.rw 3),(900000003,.rw 4),(1000001,.box 31 [.d l1Q 5,.d l3Q 0,.d l5Q 6,.d l7Q 7,.d l8Q 8,.d wu 9,.d l9Q 10,dI 11]),(1000028,.gn 1 .s v0),(1000008,.box 87 [.d .s 12,.d l2Q 3,dI 13])]
def k96:List TC:=[.b,l9Q,i6,l1Q,l3Q,l5Q,l7Q,l8Q,wu]
def h120(v0 v1 v2 v3 v4 v5 v6 v7 v8 v9 v10 v11 v12 v13 v14 v15:Nat):List (Nat×TO):=[(1000002,.box 31 [.d l1Q v0,.d l3Q v1,.d l5Q v2,.d l7Q v3,.d l8Q v4,.d wu v5,.d l9Q v6,dI v7]),(1000003,.box 31 [.d l1Q v8,.d l3Q v9,.d l5Q v10,.d l7Q v11,.d l8Q v12,.d wu v13,.d l9Q v14,dI v15])]
def k121:List TC:=[l1Q,l3Q,l5Q,l7Q,l8Q,wu,l9Q,i6,l1Q,l3Q,l5Q,l7Q,l8Q,wu,l9Q,i6]
def k129:List TC:=[.b,l1Q,l3Q,l5Q,l7Q,l8Q,wu,l9Q,i6,l1Q,l3Q,l5Q,l7Q,l8Q,wu,l9Q,i6]
def zMq:Nat->Type
 |0=>Expr
 |1=>Def
 |2=>aw
 |3=>au
 |4=>zU
 |5=>yD
 |6=>zx
 |7=>zX
 |8=>Cap
 |9=>zg
 |10=>av
 |11=>ar
 |12=>zd
 |13=>zI
 |14=>yJ
 |_=>Unit
def TS0:Tab where
 T:=zMq
 dflt:=λn=>match n with
  |0=>(default:Expr)
  |1=>(default:Def)
  |2=>(default:aw)
  |3=>(default:au)
  |4=>(default:zU)
  |5=>(default:yD)
  |6=>(default:zx)
  |7=>(default:zX)
  |8=>(default:Cap)
  |9=>(default:zg)
  |10=>(default:av)
  |11=>(default:ar)
  |12=>(default:zd)
  |13=>(default:zI)
  |14=>(default:yJ)
  |_+15=>()
 fl:=λn=>match n with
  |0=>[i6,i6,.s,.s,l0Q]
  |1=>[.s,.st 0]
  |2=>[.s,i6]
  |3=>[.s,l2Q,i6]
  |4=>[i6,i6]
  |5=>[.s,.b,l4Q]
  |6=>k1
  |7=>[.s,lsQ,lsQ,i6,i6,i6,.b,i6,.st 0,.st 6,i6,i6,i6]
  |8=>[.s,i6,i6,l4Q]
  |9=>k2
  |10=>[.s,.st 9,i6,l9Q]
  |11=>k3
  |12=>[.s,i6,i6]
  |13=>[.st 4,.st 4]
  |14=>k4
  |_+15=>[]
 cn:=λn=>match n with
  |0=>5
  |1=>6
  |2=>2
  |3=>3
  |4=>2
  |5=>3
  |6=>4
  |7=>20
  |8=>4
  |9=>3
  |10=>6
  |11=>4
  |12=>3
  |13=>4
  |14=>8
  |_+15=>0
 out:=λn=>match n with
  |0=>λx=>((x:Expr).Op,(x:Expr).N,(x:Expr).S,(x:Expr).Key,(x:Expr).Args)
  |1=>λx=>((x:Def).aL,(x:Def).Body)
  |2=>λx=>((x:aw).aL,(x:aw).N)
  |3=>λx=>((x:au).aL,(x:au).Rows,(x:au).Else)
  |4=>λx=>((x:zU).X,(x:zU).Y)
  |5=>λx=>((x:yD).aL,(x:yD).Overlay,(x:yD).aA)
  |6=>λx=>((x:zx).Side,(x:zx).Base,(x:zx).Num,(x:zx).Den)
  |7=>λx=>((x:zX).aL,(x:zX).aB,(x:zX).Except,(x:zX).From,(x:zX).Until,(x:zX).Grace,(x:zX).Vary,(x:zX).aM,(x:zX).Test,(x:zX).zx,(x:zX).Uses,(x:zX).Other,(x:zX).N)
  |8=>λx=>((x:Cap).aL,(x:Cap).Load,(x:Cap).Limit,(x:Cap).aA)
  |9=>λx=>((x:zg).X,(x:zg).Y,(x:zg).Z_)
  |10=>λx=>((x:av).aL,(x:av).Eye,(x:av).Least,(x:av).Targets)
  |11=>λx=>((x:ar).aM,(x:ar).Text,(x:ar).N,(x:ar).Pos)
  |12=>λx=>((x:zd).text,(x:zd).op,(x:zd).form)
  |13=>λx=>((x:zI).a,(x:zI).b)
  |14=>λx=>((x:yJ).aF,(x:yJ).Tables,(x:yJ).aB,(x:yJ).aE,(x:yJ).aJ,(x:yJ).aG,(x:yJ).aK,(x:yJ).aI)
  |_+15=>λ_=>()
 inj:=λn=>match n with
  |0=>λx=>(⟨x.1,x.2.1,x.2.2.1,x.2.2.2.1,x.2.2.2.2⟩:Expr)
  |1=>λx=>(⟨x.1,x.2⟩:Def)
  |2=>λx=>(⟨x.1,x.2⟩:aw)
  |3=>λx=>(⟨x.1,x.2.1,x.2.2⟩:au)
  |4=>λx=>(⟨x.1,x.2⟩:zU)
  |5=>λx=>(⟨x.1,x.2.1,x.2.2⟩:yD)
  |6=>λx=>(⟨x.1,x.2.1,x.2.2.1,x.2.2.2⟩:zx)
  |7=>λx=>(⟨x.1,x.2.1,x.2.2.1,x.2.2.2.1,x.2.2.2.2.1,(p5Q x).1,(p6Q x).1,(p7Q x).1,(p8Q x).1,(p9Q x).1,(zls x).1,(zlt x).1,(zlu x)⟩:zX)
  |8=>λx=>(⟨x.1,x.2.1,x.2.2.1,x.2.2.2⟩:Cap)
  |9=>λx=>(⟨x.1,x.2.1,x.2.2⟩:zg)
  |10=>λx=>(⟨x.1,x.2.1,x.2.2.1,x.2.2.2⟩:av)
  |11=>λx=>(⟨x.1,x.2.1,x.2.2.1,x.2.2.2⟩:ar)
  |12=>λx=>(⟨x.1,x.2.1,x.2.2⟩:zd)
  |13=>λx=>(⟨x.1,x.2⟩:zI)
  |14=>λx=>(⟨x.1,x.2.1,x.2.2.1,x.2.2.2.1,x.2.2.2.2.1,(p5Q x).1,(p6Q x).1,(p7Q x)⟩:yJ)
  |_+15=>λ_=>()
 enc:=λn=>match n with
  |0=>jM
  |1=>zcq
  |2=>Hj
  |3=>KX
  |4=>qR
  |5=>WJ
  |6=>WK
  |7=>WL
  |8=>zcr
  |9=>qc
  |10=>WM
  |11=>WN
  |12=>oR
  |13=>JU
  |14=>zul
  |_+15=>λ_=>[]
 ro:=λn=>match n with
  |1=>gl0 Vl.ob0
  |2=>gl1 Vl.ob1
  |3=>gl2 Vl.ob2 Vl.m2
  |4=>gl3 Vl.ob3
  |_=>.gen gone
def goT(i:Nat):(c:TC)->c.ty zMq->EV.Obj
 |.s,x=>sb (bif bk i 0 then 108 else 123) x
 |.l (.m kc ec),x=>.gen (As (List.map (ze4 (vL TS0 kc) (vL TS0 ec)) x))
 |_,_=>.gen gone
def glT:Nat->Option (Nat×Nat×List ak)
 |1=>bc (0,200,zgr)
 |_=>bh
def gaT:Nat->Option (Nat×Dy zMq×List V)
 |108=>bc (0,⟨.s,([]:ak)⟩,[.nilp,.nils])
 |123=>bc (1,⟨.s,([]:ak)⟩,[.nilp,.nils])
 |_=>bh
def zWe(t i:Nat)(d:Dy zMq)(cs:List V)(h:gaT t=bc (i,d,cs))(m:M)(Z:ZM)(w:World)(k:Nat)(hh:EV.Holds m Z w k (.box t cs)):EV.Holds m Z w k (goT i d.1 d.2)/\∀b,blk m (k,goT i d.1 d.2) b->blk m (k,.box t cs) b:=by
 unfold gaT at h;split at h
 ·cases h;exact zCn hh
 ·cases h;exact zCn hh
 ·cases h
def TS:Tab where
 T:=zMq
 dflt:=λn=>match n with
  |0=>(default:Expr)
  |1=>(default:Def)
  |2=>(default:aw)
  |3=>(default:au)
  |4=>(default:zU)
  |5=>(default:yD)
  |6=>(default:zx)
  |7=>(default:zX)
  |8=>(default:Cap)
  |9=>(default:zg)
  |10=>(default:av)
  |11=>(default:ar)
  |12=>(default:zd)
  |13=>(default:zI)
  |14=>(default:yJ)
  |_+15=>()
 fl:=λn=>match n with
  |0=>[i6,i6,.s,.s,l0Q]
  |1=>[.s,.st 0]
  |2=>[.s,i6]
  |3=>[.s,l2Q,i6]
  |4=>[i6,i6]
  |5=>[.s,.b,l4Q]
  |6=>k1
  |7=>[.s,lsQ,lsQ,i6,i6,i6,.b,i6,.st 0,.st 6,i6,i6,i6]
  |8=>[.s,i6,i6,l4Q]
  |9=>k2
  |10=>[.s,.st 9,i6,l9Q]
  |11=>k3
  |12=>[.s,i6,i6]
  |13=>[.st 4,.st 4]
  |14=>k4
  |_+15=>[]
 cn:=λn=>match n with
  |0=>5
  |1=>6
  |2=>2
  |3=>3
  |4=>2
  |5=>3
  |6=>4
  |7=>20
  |8=>4
  |9=>3
  |10=>6
  |11=>4
  |12=>3
  |13=>4
  |14=>8
  |_+15=>0
 out:=λn=>match n with
  |0=>λx=>((x:Expr).Op,(x:Expr).N,(x:Expr).S,(x:Expr).Key,(x:Expr).Args)
  |1=>λx=>((x:Def).aL,(x:Def).Body)
  |2=>λx=>((x:aw).aL,(x:aw).N)
  |3=>λx=>((x:au).aL,(x:au).Rows,(x:au).Else)
  |4=>λx=>((x:zU).X,(x:zU).Y)
  |5=>λx=>((x:yD).aL,(x:yD).Overlay,(x:yD).aA)
  |6=>λx=>((x:zx).Side,(x:zx).Base,(x:zx).Num,(x:zx).Den)
  |7=>λx=>((x:zX).aL,(x:zX).aB,(x:zX).Except,(x:zX).From,(x:zX).Until,(x:zX).Grace,(x:zX).Vary,(x:zX).aM,(x:zX).Test,(x:zX).zx,(x:zX).Uses,(x:zX).Other,(x:zX).N)
  |8=>λx=>((x:Cap).aL,(x:Cap).Load,(x:Cap).Limit,(x:Cap).aA)
  |9=>λx=>((x:zg).X,(x:zg).Y,(x:zg).Z_)
  |10=>λx=>((x:av).aL,(x:av).Eye,(x:av).Least,(x:av).Targets)
  |11=>λx=>((x:ar).aM,(x:ar).Text,(x:ar).N,(x:ar).Pos)
  |12=>λx=>((x:zd).text,(x:zd).op,(x:zd).form)
  |13=>λx=>((x:zI).a,(x:zI).b)
  |14=>λx=>((x:yJ).aF,(x:yJ).Tables,(x:yJ).aB,(x:yJ).aE,(x:yJ).aJ,(x:yJ).aG,(x:yJ).aK,(x:yJ).aI)
  |_+15=>λ_=>()
 inj:=λn=>match n with
  |0=>λx=>(⟨x.1,x.2.1,x.2.2.1,x.2.2.2.1,x.2.2.2.2⟩:Expr)
  |1=>λx=>(⟨x.1,x.2⟩:Def)
  |2=>λx=>(⟨x.1,x.2⟩:aw)
  |3=>λx=>(⟨x.1,x.2.1,x.2.2⟩:au)
  |4=>λx=>(⟨x.1,x.2⟩:zU)
  |5=>λx=>(⟨x.1,x.2.1,x.2.2⟩:yD)
  |6=>λx=>(⟨x.1,x.2.1,x.2.2.1,x.2.2.2⟩:zx)
  |7=>λx=>(⟨x.1,x.2.1,x.2.2.1,x.2.2.2.1,x.2.2.2.2.1,(p5Q x).1,(p6Q x).1,(p7Q x).1,(p8Q x).1,(p9Q x).1,(zls x).1,(zlt x).1,(zlu x)⟩:zX)
  |8=>λx=>(⟨x.1,x.2.1,x.2.2.1,x.2.2.2⟩:Cap)
  |9=>λx=>(⟨x.1,x.2.1,x.2.2⟩:zg)
  |10=>λx=>(⟨x.1,x.2.1,x.2.2.1,x.2.2.2⟩:av)
  |11=>λx=>(⟨x.1,x.2.1,x.2.2.1,x.2.2.2⟩:ar)
  |12=>λx=>(⟨x.1,x.2.1,x.2.2⟩:zd)
  |13=>λx=>(⟨x.1,x.2⟩:zI)
  |14=>λx=>(⟨x.1,x.2.1,x.2.2.1,x.2.2.2.1,x.2.2.2.2.1,(p5Q x).1,(p6Q x).1,(p7Q x)⟩:yJ)
  |_+15=>λ_=>()
 enc:=λn=>match n with
  |0=>jM
  |1=>zcq
  |2=>Hj
  |3=>KX
  |4=>qR
  |5=>WJ
  |6=>WK
  |7=>WL
  |8=>zcr
  |9=>qc
  |10=>WM
  |11=>WN
  |12=>oR
  |13=>JU
  |14=>zul
  |_+15=>λ_=>[]
 ro:=λn=>match n with
  |1=>gl0 Vl.ob0
  |2=>gl1 Vl.ob1
  |3=>gl2 Vl.ob2 Vl.m2
  |4=>gl3 Vl.ob3
  |_=>.gen gone
 go:=goT
 gl:=glT
 ga:=gaT
 om:=bf
def zQ1:TS.OK where
 enc_out:=λn x=>match n with
  |0=>by
   show jM x=_
   unfold jM;simp only[qQ];rfl
  |1=>rfl
  |2=>rfl
  |3=>rfl
  |4=>rfl
  |5=>rfl
  |6=>rfl
  |7=>rfl
  |8=>rfl
  |9=>rfl
  |10=>rfl
  |11=>rfl
  |12=>rfl
  |13=>rfl
  |14=>rfl
  |_+15=>rfl
 out_mk:=λn h=>match n with
  |0=>rfl
  |1=>rfl
  |2=>rfl
  |3=>rfl
  |4=>rfl
  |5=>rfl
  |6=>rfl
  |7=>rfl
  |8=>rfl
  |9=>rfl
  |10=>rfl
  |11=>rfl
  |12=>rfl
  |13=>rfl
  |14=>rfl
  |_+15=>rfl
 ro0:=rfl
 rren:=λi σ=>match i with|0=>rfl|1=>rfl|2=>rfl|3=>rfl|4=>rfl|_+5=>rfl
 rref:=λi=>match i with|0=>rfl|1=>rfl|2=>rfl|3=>rfl|4=>rfl|_+5=>rfl
 rfrz:=λi k=>match i with|0=>rfl|1=>rfl|2=>rfl|3=>rfl|4=>rfl|_+5=>rfl
 len:=λn x=>match n with
  |0=>rfl
  |1=>rfl
  |2=>rfl
  |3=>rfl
  |4=>rfl
  |5=>rfl
  |6=>rfl
  |7=>rfl
  |8=>rfl
  |9=>rfl
  |10=>rfl
  |11=>rfl
  |12=>rfl
  |13=>rfl
  |14=>rfl
  |_+15=>rfl
 one:=λn x=>match n with
  |0=>rfl
  |1=>rfl
  |2=>rfl
  |3=>rfl
  |4=>rfl
  |5=>rfl
  |6=>rfl
  |7=>rfl
  |8=>rfl
  |9=>rfl
  |10=>rfl
  |11=>rfl
  |12=>rfl
  |13=>rfl
  |14=>rfl
  |_+15=>rfl
 refs:=λn x=>match n with
  |0=>rfl
  |1=>rfl
  |2=>rfl
  |3=>rfl
  |4=>rfl
  |5=>rfl
  |6=>rfl
  |7=>rfl
  |8=>rfl
  |9=>rfl
  |10=>rfl
  |11=>rfl
  |12=>rfl
  |13=>rfl
  |14=>rfl
  |_+15=>rfl
 gren:=λi c x σ=>by cases c with
  |l t=>cases t<;>rfl
  |_=>rfl
 gref:=λi c x=>by cases c with
  |l t=>cases t<;>rfl
  |_=>rfl
 gfrz:=λi c x k=>by cases c with
  |l t=>cases t<;>rfl
  |_=>rfl
 gom:=λ_ kc ec x=>by kernel_rfl
 ggl:=λi c x k=>by cases c with
  |l t=>cases t<;>rfl
  |_=>rfl
 gbox:=λt i d cs h m Z w k hh=>zWe t i d cs h m Z w k hh
 glob:=λi g t l h=>by
  change glT i=bc (g,t,l)at h;unfold glT at h;split at h
  ·cases h;exact⟨_,rfl⟩
  ·cases h
def cdT(t:Nat):Option TC:=bif bk t 3 then bc i6 else bif bk t 4 then bc .b else bif bk t 5 then bc (.i .u8)else bif bk t 9 then bc .s else bif bk t 20 then bc (.a 3 9)else bif bk t 37 then bc (.st 0)else bif bk t 51 then bc (.st 11)else bif bk t 57 then bc (.st 1)else bif bk t 58 then bc lsQ else bif bk t 64 then bc (.st 5)else bif bk t 87 then bc (.st 3)else bif bk t 94 then bc (.st 7)else bif bk t 96 then bc (.st 8)else bif bk t 98 then bc (.st 9)else bif bk t 100 then bc (.st 10)else bif bk t 119 then bc (.st 2)else bif bk t 156 then bc (.st 4)else bif bk t 184 then bc (.st 12)else bif bk t 229 then bc (.st 13)else bh
def cdL(t:Nat):Option TC:=cdT (bif Nat.ble 1000000 t then Nat.sub t 1000000 else t)
def cdO(t:Nat):Option TC:=bif bk t 3000068 then bc .b else  cdT t
def nbT:NB:=λt=>bif bk t 31 then[(0,bf,57,.st 1),(1,bf,87,.st 3),(2,bf,64,.st 5),(3,bf,94,.st 7),(4,bf,96,.st 8),(5,bf,100,.st 10),(6,bf,98,.st 9)]else bif bk t 37 then[(4,bd,37,.st 0)]else bif bk t 57 then[(5,bd,37,.st 0)]else bif bk t 64 then[(2,bd,156,.st 4)]else bif bk t 67 then[(0,bd,51,.st 11)]else bif bk t 71 then[(0,bd,51,.st 11),(2,bf,57,.st 1),(3,bf,87,.st 3),(4,bf,64,.st 5),(5,bf,94,.st 7),(6,bf,96,.st 8),(7,bf,100,.st 10),(8,bf,8000098,.st 9),(10,bf,7000000,mBQ),(11,bf,7000000,mBQ),(12,bf,7000000,mBQ),(13,bf,7000000,mBQ),(14,bf,7000000,mBQ),(15,bf,7000000,mBQ)]else bif bk t 76 then[(0,bd,51,.st 11)]else bif bk t 87 then[(1,bf,119,.st 2)]else bif bk t 94 then[(1,bd,9,.s),(2,bd,9,.s),(12,bd,37,.st 0)]else bif bk t 96 then[(3,bd,156,.st 4)]else bif bk t 100 then[(5,bf,98,.st 9)]else[]
def zad:NB:=λt=>bif bk t 31 then[(0,bf,57,.st 1),(1,bf,87,.st 3),(2,bf,64,.st 5),(3,bf,94,.st 7),(4,bf,96,.st 8),(5,bf,100,.st 10),(6,bd,98,.st 9)]else  nbT t
def PC:List TC:=[i6,i6]
def PT:Tp:=.ifc 168 (.ag [dI 0,dI 1])
def dW:zI9 TS:=λc _ s=>match c,s with
 |.s,s=>zzp s
 |_,_=>bh
def dW_ok(ct:TC)(i:Nat)(s s':ct.ty TS.T)(h:dW ct i s=bc s')(k:Nat):FnD PGq 162 [.ptr k 0 0,.str [32,41]] [(k,TS.go i ct s)] (.tup [.int .i64 2,.nili]) [(k,TS.go i ct s')]:=by
 cases ct<;>first|(cases h;done)|skip
 obtain⟨_,h1,h2⟩:=bind_some (show zzp s=bc s' from h);cases h2
 have hT:zzs (bif bk i 0 then 108 else 123):=by
  cases bk i 0
  ·exact zp6
  ·exact zh9
 exact zQ0 hT k s [32,41] (xo h1)
def zQ2:PGq.follows .mixedOrders=bf:=by kernel_rfl
variable[Fuel]
def hbv63:ze PGq 63:=zj (by kernel_rfl)
def zJn:ze PGq 62:=zj (by kernel_rfl)
def zWf:ze PGq 155:=zj (by kernel_rfl)
def zWg:ze PGq 157:=zj (by kernel_rfl)
def zWh:ze PGq 164:=zj (by kernel_rfl)
def zWi:ze PGq 156:=zj (by kernel_rfl)
def hbv51:ze PGq 51:=zj (by kernel_rfl)
def zWj:ze PGq 165:=zj (by kernel_rfl)
def zWk:ze PGq 166:=zj (by kernel_rfl)
def hbv64:ze PGq 64:=zj (by kernel_rfl)
def hbv21:ze PGq 21:=zj (by kernel_rfl)
def zWl:ze PGq 42:=zj (by kernel_rfl)
def zMv:ze PGq 124:=zj (by kernel_rfl)
def zMw:ze PGq 194:=zj (by kernel_rfl)
def zMx:ze PGq 193:=zj (by kernel_rfl)
def zJo:ze PGq 41:=zj (by kernel_rfl)
def zuo:ze PGq 130:=zj (by kernel_rfl)
def hbv52:ze PGq 52:=zj (by kernel_rfl)
def hbv16:ze PGq 16:=zj (by kernel_rfl)
def zMy:ze PGq 190:=zj (by kernel_rfl)
def zup:ze PGq 207:=zj (by kernel_rfl)
def zWm:ze PGq 151:=zj (by kernel_rfl)
def zuq:ze PGq 133:=zj (by kernel_rfl)
def Vb:ze PGq 40:=zj (by kernel_rfl)
def Vn:ze PGq 150:=zj (by kernel_rfl)
def zQ6:ze PGq 43:=zj (by kernel_rfl)
def zWn:ze PGq 39:=zj (by kernel_rfl)
def zMz:ze PGq 134:=zj (by kernel_rfl)
def zJp:ze PGq 35:=zj (by kernel_rfl)
def hbv12:ze PGq 12:=zj (by kernel_rfl)
def zQ7:ze PGq 61:=zj (by kernel_rfl)
def hbv20:ze PGq 20:=zj (by kernel_rfl)
def zWo:ze PGq 161:=zj (by kernel_rfl)
def zuj:ze PGq 162:=zj (by kernel_rfl)
def zM0:ze PGq 163:=zj (by kernel_rfl)
def zWp:ze PGq 58:=zj (by kernel_rfl)
def zWq:ze PGq 59:=zj (by kernel_rfl)
def zx8:ze PGq 60:=zj (by kernel_rfl)
def hbv19:ze PGq 19:=zj (by kernel_rfl)
def zM1:ze PGq 121:=zj (by kernel_rfl)
def AJ:ze PGq 191:=zj (by kernel_rfl)
def JX:ze PGq 125:=zj (by kernel_rfl)
def zM2:ze PGq 127:=zj (by kernel_rfl)
def zM3:ze PGq 122:=zj (by kernel_rfl)
def zM4:ze PGq 192:=zj (by kernel_rfl)
def zM5:ze PGq 123:=zj (by kernel_rfl)
def zM6:ze PGq 126:=zj (by kernel_rfl)
def zWr:ze PGq 214:=zj (by kernel_rfl)
def zWs:ze PGq 215:=zj (by kernel_rfl)
def zWt:ze PGq 216:=zj (by kernel_rfl)
def zWu:ze PGq 238:=zj (by kernel_rfl)
def zWv:ze PGq 231:=zj (by kernel_rfl)
def zWw:ze PGq 230:=zj (by kernel_rfl)
def zWx:ze PGq 217:=zj (by kernel_rfl)
def zWy:ze PGq 218:=zj (by kernel_rfl)
def zWz:ze PGq 180:=zj (by kernel_rfl)
def hbv94:ze PGq 94:=zj (by kernel_rfl)
def zM7:ze PGq 195:=zj (by kernel_rfl)
def zW0:ze PGq 219:=zj (by kernel_rfl)
def zQ8:ze PGq 72:=zj (by kernel_rfl)
def zW1:ze PGq 197:=zj (by kernel_rfl)
def zM8:ze PGq 129:=zj (by kernel_rfl)
def zM9:ze PGq 196:=zj (by kernel_rfl)
def zNa:ze PGq 128:=zj (by kernel_rfl)
def zNb:ze PGq 198:=zj (by kernel_rfl)
def zNc:ze PGq 131:=zj (by kernel_rfl)
def zNd:ze PGq 132:=zj (by kernel_rfl)
def zW2:ze PGq 36:=zj (by kernel_rfl)
def hbv10:ze PGq 10:=zj (by kernel_rfl)
def hbv80:ze PGq 80:=zj (by kernel_rfl)
def zW3:ze PGq 179:=zj (by kernel_rfl)
def hbv79:ze PGq 79:=zj (by kernel_rfl)
def hbv82:ze PGq 82:=zj (by kernel_rfl)
def hbv81:ze PGq 81:=zj (by kernel_rfl)
def hbv84:ze PGq 84:=zj (by kernel_rfl)
def hbv83:ze PGq 83:=zj (by kernel_rfl)
def hbv86:ze PGq 86:=zj (by kernel_rfl)
def hbv85:ze PGq 85:=zj (by kernel_rfl)
def hbv88:ze PGq 88:=zj (by kernel_rfl)
def hbv87:ze PGq 87:=zj (by kernel_rfl)
def hbv90:ze PGq 90:=zj (by kernel_rfl)
def hbv89:ze PGq 89:=zj (by kernel_rfl)
def hbv92:ze PGq 92:=zj (by kernel_rfl)
def hbv91:ze PGq 91:=zj (by kernel_rfl)
def hbv93:ze PGq 93:=zj (by kernel_rfl)
def zW4:ze PGq 188:=zj (by kernel_rfl)
def zCy:ze PGq 104:=zj (by kernel_rfl)
def zNe:ze PGq 187:=zj (by kernel_rfl)
def zW5:ze PGq 115:=zj (by kernel_rfl)
def hbv95:ze PGq 95:=zj (by kernel_rfl)
def hbv28:ze PGq 28:=zj (by kernel_rfl)
def zNf:ze PGq 168:=zj (by kernel_rfl)
def hbv67:ze PGq 67:=zj (by kernel_rfl)
def hbv69:ze PGq 69:=zj (by kernel_rfl)
def hbv68:ze PGq 68:=zj (by kernel_rfl)
def hbv70:ze PGq 70:=zj (by kernel_rfl)
def zJe:ze PGq 65:=zj (by kernel_rfl)
def hbv71:ze PGq 71:=zj (by kernel_rfl)
def hbv26:ze PGq 26:=zj (by kernel_rfl)
def hbv9:ze PGq 9:=zj (by kernel_rfl)
def zW6:ze PGq 103:=zj (by kernel_rfl)
def zW7:ze PGq 112:=zj (by kernel_rfl)
def zW8:ze PGq 106:=zj (by kernel_rfl)
def zW9:ze PGq 105:=zj (by kernel_rfl)
def zXa:ze PGq 113:=zj (by kernel_rfl)
def zXb:ze PGq 114:=zj (by kernel_rfl)
def zXc:ze PGq 108:=zj (by kernel_rfl)
def zXd:ze PGq 107:=zj (by kernel_rfl)
def zXe:ze PGq 116:=zj (by kernel_rfl)
def zXf:ze PGq 109:=zj (by kernel_rfl)
def zXg:ze PGq 117:=zj (by kernel_rfl)
def zXh:ze PGq 111:=zj (by kernel_rfl)
def zXi:ze PGq 110:=zj (by kernel_rfl)
def zXj:ze PGq 118:=zj (by kernel_rfl)
def hbv30:ze PGq 30:=zj (by kernel_rfl)
def hbv22:ze PGq 22:=zj (by kernel_rfl)
def hbv8:ze PGq 8:=zj (by kernel_rfl)
def ctg{f:Nat}{fn:Func}{code:Code}{T:CtT TS}{cd:Nat->Option TC}{nb:NB}{rc:List (Nat×Nat×Nat)}{c:Ct TS}{h:HT TS c.co}(hf:PGq.funcs[f]?=bc fn)(hb:fn.body=bc code)(hB:ze PGq f)(hT:CtT.OK PGq T)(hr:∀x,((evF PGq fn code T cd KK nb c rc h x).run,(evF PGq fn code T cd KK nb c rc h x).tr bf)=(c.fn x,(evF PGq fn code T cd KK nb c rc h x).tr bd)):ze PGq f/\c.OK PGq f :=
 ⟨hB,zQv (T:=T) (cd:=cd) (kk:=KK) (nb:=nb) (rc:=rc) (h:=h) zQ1 hf hb zQ2 hT (λx=>aQ Prod.fst (hr x)) (λx=>aQ Prod.snd (hr x))⟩
def ctk{f:Nat}{fn:Func}{code:Code}{T:CtT TS}{c:Ct TS}{h:HT TS c.co}(hf:PGq.funcs[f]?=bc fn)(hb:fn.body=bc code)(hB:ze PGq f)(hT:CtT.OK PGq T)(hr:∀x,((evF PGq fn code T cdT KK nbT c [] h x).run,(evF PGq fn code T cdT KK nbT c [] h x).tr bf)=(c.fn x,(evF PGq fn code T cdT KK nbT c [] h x).tr bd)):ze PGq f/\c.OK PGq f :=
 ⟨hB,zQv (T:=T) (cd:=cdT) (kk:=KK) (nb:=nbT) (rc:=[]) (h:=h) zQ1 hf hb zQ2 hT (λx=>aQ Prod.fst (hr x)) (λx=>aQ Prod.snd (hr x))⟩
def zT1{f:Nat}{fn:Func}{code:Code}{T:CtT TS}{TP:zgm TS PC}{cd:Nat->Option TC}{nb:NB}{c:CtP TS PC}{h:HT TS PC}(hf:PGq.funcs[f]?=bc fn)(hb:fn.body=bc code)(hB:ze PGq f)(hT:CtT.OK PGq T)(hTP:zgm.OK PGq (pvT PT PC) TP)(hr:∀x,((evP PGq fn code T cd KK nb PT TP c h x).run,(evP PGq fn code T cd KK nb PT TP c h x).tr bf)=(c.fn x,(evP PGq fn code T cd KK nb PT TP c h x).tr bd)):ze PGq f/\c.OK PGq (pvT PT PC) f :=
 ⟨hB,zMp (T:=T) (TP:=TP) (pt:=PT) (cd:=cd) (kk:=KK) (nb:=nb) (h:=h) zQ1 hf hb zQ2 hT hTP (λx=>aQ Prod.fst (hr x)) (λx=>aQ Prod.snd (hr x))⟩
def ctp{f:Nat}{fn:Func}{code:Code}{T:CtT TS}{TP:zgm TS PC}{c:CtP TS PC}{h:HT TS PC}(hf:PGq.funcs[f]?=bc fn)(hb:fn.body=bc code)(hB:ze PGq f)(hT:CtT.OK PGq T)(hTP:zgm.OK PGq (pvT PT PC) TP)(hr:∀x,((evP PGq fn code T cdT KK nbT PT TP c h x).run,(evP PGq fn code T cdT KK nbT PT TP c h x).tr bf)=(c.fn x,(evP PGq fn code T cdT KK nbT PT TP c h x).tr bd)):ze PGq f/\c.OK PGq (pvT PT PC) f :=
 ⟨hB,zMp (T:=T) (TP:=TP) (pt:=PT) (cd:=cdT) (kk:=KK) (nb:=nbT) (h:=h) zQ1 hf hb zQ2 hT hTP (λx=>aQ Prod.fst (hr x)) (λx=>aQ Prod.snd (hr x))⟩
def znx:Ct TS:=⟨[.d (.i .u8) 0],[],[.i .u8],.d .b 1,[],[.b],bd,λx=>KZ x⟩
abbrev HBc(n:Nat)(c:Ct TS):Prop:=ze PGq n/\c.OK PGq n
abbrev HBp(n:Nat)(c:CtP TS PC):Prop:=ze PGq n/\c.OK PGq (pvT PT PC) n
def zx9:HBc 63 znx:=ctk (T:=[]) (h:=.n) Tryz.func63 rfl hbv63 trivial λx=>by kernel_rfl
def zur:Ct TS:=⟨[.d .s 0,.fn 63 [] []],[],[.s],dI 1,[],[i6],bd,λx=>zay x⟩
def zCz:HBc 62 zur:=ctk (T:=[(63,znx)]) (h:=.s .n (.s .n (.s (.s (.l ⟨[(0,.d .s 0),(1,.fn 63 [] []),(5,dI 1)],[],[.s],[i6]⟩ [(5,dI 1)] [] [i6] 0 (λx K v=>Jh x K v) (.s (.s (.j ⟨[(0,.d .s 0),(1,.fn 63 [] []),(5,dI 1),(16,.d .b 2)],[],[.s,i6],[.b]⟩ bd .n) .n) .n)) .n) .n))) Tryz.func62 rfl zJn ⟨zx9,trivial⟩ λx=>by kernel_rfl
def Hw:Ct TS:=⟨[.d (.i .u8) 0],[],[.i .u8],.d .b 1,[],[.b],bd,λx=>qh x⟩
def Jy:HBc 155 Hw:=ctk (T:=[]) (h:=.n) Tryz.func155 rfl zWf trivial λx=>by kernel_rfl
def K9:Ct TS:=⟨[.d (.i .u8) 0],[],[.i .u8],.d .b 1,[],[.b],bd,λx=>qW x⟩
def Q3:HBc 157 K9:=ctk (T:=[]) (h:=.n) Tryz.func157 rfl zWg trivial λx=>by kernel_rfl
def zgz:Ct TS:=⟨[.d (.i .u8) 0],[],[.i .u8],.d .b 1,[],[.b],bd,λx=>QN x⟩
def zrj:HBc 164 zgz:=ctk (T:=[(155,Hw),(157,K9)]) (h:=.n) Tryz.func164 rfl zWh ⟨Jy,Q3,trivial⟩ λx=>by kernel_rfl
def zg0:Ct TS:=⟨[.d .s 0,.fn 164 [] []],[],[.s],dI 1,[],[i6],bd,λx=>QO x⟩
def zrk:HBc 62 zg0:=ctk (T:=[(164,zgz)]) (h:=.s .n (.s .n (.s (.s (.l ⟨[(0,.d .s 0),(1,.fn 164 [] []),(5,dI 1)],[],[.s],[i6]⟩ [(5,dI 1)] [] [i6] 0 (λx K v=>uK x K v) (.s (.s (.j ⟨[(0,.d .s 0),(1,.fn 164 [] []),(5,dI 1),(16,.d .b 2)],[],[.s,i6],[.b]⟩ bd .n) .n) .n)) .n) .n))) Tryz.func62 rfl zJn ⟨zrj,trivial⟩ λx=>by kernel_rfl
def zg1:Ct TS:=⟨[.d (.i .u8) 0],[],[.i .u8],.d .b 1,[],[.b],bd,λx=>og x⟩
def zrl:HBc 156 zg1:=ctk (T:=[(155,Hw),(157,K9)]) (h:=.n) Tryz.func156 rfl zWi ⟨Jy,Q3,trivial⟩ λx=>by kernel_rfl
def zg2:Ct TS:=⟨[.d .s 0,.fn 156 [] []],[],[.s],dI 1,[],[i6],bd,λx=>QP x⟩
def zrm:HBc 62 zg2:=ctk (T:=[(156,zg1)]) (h:=.s .n (.s .n (.s (.s (.l ⟨[(0,.d .s 0),(1,.fn 156 [] []),(5,dI 1)],[],[.s],[i6]⟩ [(5,dI 1)] [] [i6] 0 (λx K v=>uL x K v) (.s (.s (.j ⟨[(0,.d .s 0),(1,.fn 156 [] []),(5,dI 1),(16,.d .b 2)],[],[.s,i6],[.b]⟩ bd .n) .n) .n)) .n) .n))) Tryz.func62 rfl zJn ⟨zrl,trivial⟩ λx=>by kernel_rfl
def zj0:Ct TS:=⟨[.d .s 0],[],[.s],.d .b 1,[],[.b],bd,λx=>WU x⟩
def zny:HBc 51 zj0:=ctk (T:=[(155,Hw),(62,zg2)]) (h:=.s .n (.s (.s (.j ⟨[(0,.d .s 0),(15,.d .b 1)],[],[.s],[.b]⟩ bd .n) .n) .n)) Tryz.func51 rfl hbv51 ⟨Jy,zrm,trivial⟩ λx=>by kernel_rfl
def Y0:Ct TS:=⟨[.d .s 0,.fn 157 [] []],[],[.s],dI 1,[],[i6],bd,λx=>Hk x⟩
def zc3:HBc 62 Y0:=ctk (T:=[(157,K9)]) (h:=.s .n (.s .n (.s (.s (.l ⟨[(0,.d .s 0),(1,.fn 157 [] []),(5,dI 1)],[],[.s],[i6]⟩ [(5,dI 1)] [] [i6] 0 (λx K v=>uM x K v) (.s (.s (.j ⟨[(0,.d .s 0),(1,.fn 157 [] []),(5,dI 1),(16,.d .b 2)],[],[.s,i6],[.b]⟩ bd .n) .n) .n)) .n) .n))) Tryz.func62 rfl zJn ⟨Q3,trivial⟩ λx=>by kernel_rfl
def zg3:Ct TS:=⟨[.d .s 0],[],[.s],.tup [dI 1,.d .b 2],[],[i6,.b],bd,λx=>QQ x⟩
def zrn:HBc 165 zg3:=ctk (T:=[(62,Y0)]) (h:=.s .n (.s (.s (.j ⟨[(0,.d .s 0),(28,.d .b 1)],[],[.s],[.b]⟩ bd .n) .n) (.s .n (.s (.s .n (.s (.l ⟨[(0,.d .s 0),(4,dI 2),(30,dI 1),(31,dI 3)],[],[.s,i6],[i6,i6]⟩ [(4,dI 2)] [] [i6] 0 (u2Q jc) .n) .n)) .n)))) Tryz.func165 rfl zWj ⟨zc3,trivial⟩ λx=>by kernel_rfl
def zc4:Ct TS:=⟨[.d .s 0,.d .s 1],[],[.s,.s],.d .b 2,[],[.b],bd,u2Q VD⟩
def znz:zc4.OK PGq 166:=λx r h=>kmp (by kernel_rfl) (zrh x.1 x.2 r h)
def zus:Ct TS:=⟨[.d .s 0],h5,[.s],.tup [.ag [dI 2,.d .s 3,dI 4,dI 5],dI 1],(h6 7000001 2 3 4 5),[i6,i6,.s,i6,i6],bd,λx=>zaz x⟩
def zC0:HBc 64 zus:=ctg (cd:=cdT) (nb:=nbT) (rc:=[(2,7000001,0)]) (T:=[(155,Hw),(62,zg0),(51,zj0),(157,K9),(62,Y0),(165,zg3),(166,zc4)]) (h:=.s .n (.s .n (.s (.s .n (.s (.lr ⟨[(0,.d .s 0),(2,.ptr 1000002 0),(43,.ag [.d .s 1,.d .s 2,.d .s 3,.d .s 4,.d .s 5,.d .s 6,.d .s 7,.d .s 8,.d .s 9,.d .s 10,.d .s 11,.d .s 12,.d .s 13,.d .s 14]),(44,dI 17)],(h6 1000002 15 16 15 15),[.s,.s,.s,.s,.s,.s,.s,.s,.s,.s,.s,.s,.s,.s,.s,i6,.s],[i6]⟩ [(2,.ptr 1000002 0)] (h6 1000002 15 16 15 15) [] 1 (u17Q qi) .n) .n)) .n))) Tryz.func64 rfl hbv64 ⟨Jy,zrk,zny,Q3,zc3,zrn,⟨zWk,znz⟩,trivial⟩ λx=>by kernel_rfl
def zj1:Ct TS:=⟨[.d .s 0],h5,[.s],.tup [.d wx 1,dI 2,dI 3],h5,k7,bd,λx=>VE x⟩
def zj2:HBc 21 zj1:=ctk (T:=[(62,zur),(64,zus)]) (h:=.s .n (.s .n (.s .n (.s .n (.s (.lr ⟨[(0,.d .s 0),(5,.row 4 7000001),(6,dI 1)],[(900000000,.rw 1),(900000001,.rw 2),(900000002,.rw 3),(900000003,.rw 4),(7000001,.row 51 (.st 11) 2 bd)],[.s],[i6,wx]⟩ [] [] [] 999999999 (λx K v=>oi x K v) .n) .n))))) Tryz.func21 rfl hbv21 ⟨zCz,zC0,trivial⟩ λx=>by kernel_rfl
def uU:Ct TS:=⟨[.ptr 1 0],(h8 1),[wx,i6],.ag [dI 2,.d .s 3,dI 4,dI 5],[(1,.box 67 [.d wx 0,dI 1]),(7000001,.box 51 [dI 2,.d .s 3,dI 4,dI 5])],k3,bd,u2Q vE⟩
def ua:HBc 42 uU:=ctg (cd:=cdT) (nb:=nbT) (rc:=[(2,7000001,0)]) (T:=[]) (h:=.n) Tryz.func42 rfl zWl trivial λx=>by kernel_rfl
def zut:Ct TS:=⟨[.ptr 1 0,.d .s 2],(h8 1),[wx,i6,.s],.d .b 3,(h8 1),[.b],bd,u3Q zcw⟩
def zro:HBc 124 zut:=ctk (T:=[(42,uU)]) (h:=.n) Tryz.func124 rfl zMv ⟨ua,trivial⟩ λx=>by kernel_rfl
def zc5:Ct TS:=⟨[.ptr 1 0,.d .s 2],(h8 1),[wx,i6,.s],.d .b 3,(h8 4),[.b,i6],bd,u3Q xz⟩
def zba:HBc 194 zc5:=ctk (T:=[(124,zut)]) (h:=.n) Tryz.func194 rfl zMw ⟨zro,trivial⟩ λx=>by kernel_rfl
def ub:Ct TS:=⟨[.ptr 1 0],(h8 1),[wx,i6],.d .b 2,(h8 1),[.b],bd,u2Q xK⟩
def uV:HBc 193 ub:=ctk (T:=[(42,uU)]) (h:=.n) Tryz.func193 rfl zMx ⟨ua,trivial⟩ λx=>by kernel_rfl
def kN:Ct TS:=⟨[.ptr 1 0,.d .b 2,dI 3],(h8 1),[wx,i6,.b,i6],.tup [],(h8 1),[],bd,u4Q yA⟩
def kj:HBc 41 kN:=ctk (T:=[]) (h:=.n) Tryz.func41 rfl zJo trivial λx=>by kernel_rfl
def Y1:Ct TS:=⟨[.ptr 1 0,dI 2,dI 3],(h8 1),k9,dI 4,(h8 5),[i6,i6],bd,u4Q j9⟩
def zc6:HBc 130 Y1:=ctk (T:=[(193,ub),(41,kN),(42,uU)]) (h:=.s .n (.s .n (.s .n (.s (.j ⟨[(0,.ptr 1 0),(7,dI 2)],(h8 1),k7,[]⟩ bd .n) .n)))) Tryz.func130 rfl zuo ⟨uV,kj,ua,trivial⟩ λx=>by kernel_rfl
def zg4:Ct TS:=⟨[.d .s 0,.d .s 1],h5,[.s,.s],.d .b 2,h5,[.b],bd,u2Q QR⟩
def zrp:zg4.OK PGq 52:=λx r h=>kmp (by kernel_rfl) (zx3 x.1 x.2 r h)
def zg5:Ct TS:=⟨[.d .s 0],h5,[.s],.d .b 1,h5,[.b],bd,λx=>Vm x⟩
def zc7:HBc 16 zg5:=ctk (T:=[(51,zj0),(52,zg4)]) (h:=.n) Tryz.func16 rfl hbv16 ⟨zny,⟨hbv52,zrp⟩,trivial⟩ λx=>by kernel_rfl
def Y2:Ct TS:=⟨[.ptr 1 0],(h10 1),[wx,i6],.d .b 2,(h10 1),[.b],bd,u2Q oj⟩
def zc8:HBc 190 Y2:=ctk (T:=[(42,uU),(16,zg5)]) (h:=.n) Tryz.func190 rfl zMy ⟨ua,zc7,trivial⟩ λx=>by kernel_rfl
def zj3:Ct TS:=⟨[.ptr 1 0],(h10 1),[wx,i6],.d .s 2,(h10 3),[.s,i6],bd,u2Q xq⟩
def zn0:HBc 207 zj3:=ctk (T:=[(190,Y2),(41,kN)]) (h:=.n) Tryz.func207 rfl zup ⟨zc8,kj,trivial⟩ λx=>by kernel_rfl
def qu:Ct TS:=⟨[],[],[],.d zp3 0,[],[zp3],bd,λ_=>vc⟩
def uc:HBc 151 qu:=ctk (T:=[]) (h:=.n) Tryz.func151 rfl zWm trivial λx=>by kernel_rfl
def zj4:Ct TS:=⟨[.ptr 1 0,.d .s 2],(h8 1),[wx,i6,.s],.tup [],(h8 3),[i6],bd,u3Q jN⟩
def zn1:HBc 133 zj4:=ctk (T:=[(194,zc5),(41,kN)]) (h:=.n) Tryz.func133 rfl zuq ⟨zba,kj,trivial⟩ λx=>by kernel_rfl
def Hx(RK:Nat):Ct TS:=⟨[.ptr 1 0,dI 2],(h10 1),k7,.tup [.ag [dI 5,dI 6,.d .s 7,.d .s 8,.d l0Q 9],dI 3],(h11 4 7000001 5 6 7 8 9),k12,bd,λx=>ka RK x.1 x.2.1 x.2.2⟩
def uW(RK:Nat):Ct TS:=⟨[.ptr 1 0,dI 2],(h10 1),k7,.ag [dI 4,dI 5,.d .s 6,.d .s 7,.d l0Q 8],(h11 3 7000001 4 5 6 7 8),k13,bd,λx=>ya RK x.1 x.2.1 x.2.2⟩
def ud:∀RK,(Hx RK).OK PGq 150/\(uW RK).OK PGq 40
 |0=>⟨(λx r h=>nomatch (show(bh:Option _)=bc r from h)),(λx r h=>nomatch (show(bh:Option _)=bc r from h))⟩
 |RK+1=>⟨(ctg (c:=Hx (RK+1)) (cd:=cdT) (nb:=nbT) (rc:=[(4,7000001,0)]) (T:=[(194,zc5),(40,uW RK),(133,zj4),(193,ub),(130,Y1),(207,zj3)]) (h:=.s .n (.s (.s (.s (.j ⟨[(0,.ptr 1 0),(1,dI 1),(4,.ptr 1000004 0),(10,.d .b 6)],zJj,k14,[i6,.b]⟩ bd .n) (.s .n (.s (.j ⟨[(0,.ptr 1 0),(1,dI 1),(4,.ptr 1000004 0),(31,.d .b 6)],zJj,k14,[i6,.b]⟩ bd .n) (.s .n (.s (.j ⟨[(0,.ptr 1 0),(4,.ptr 1000004 0),(42,.d .b 5)],(h11 4 1000004 1 1 2 2 3),[wx,i6,.s,l0Q],[i6,.b]⟩ bd .n) .n))))) .n) .n)) Tryz.func150 rfl Vn ⟨zba,⟨Vb,(ud RK).2⟩,zn1,uV,zc6,zn0,trivial⟩ λx=>by kernel_rfl).2,(ctg (c:=uW (RK+1)) (cd:=cdT) (nb:=nbT) (rc:=[(4,7000001,0)]) (T:=[(150,Hx RK),(151,qu),(124,zut),(40,uW RK)]) (h:=.s .n (.s .n (.s (.lr ⟨[(0,.ptr 1 0),(1,dI 1),(4,.ptr 1000004 0),(5,.ptr 1000005 0),(6,dI 6)],h15,k14,k12⟩ [] [] [] 999999999 (λx K v=>jT (ya RK) x.1 x.2.1 x.2.2.1 x.2.2.2.1 x.2.2.2.2 K v) (.s (.s .n (.s (.s .n (.s (.l ⟨[(0,.ptr 1 0),(1,dI 2),(4,.ptr 1000004 0),(5,.ptr 1000005 0),(6,dI 3),(7,.ptr 1000007 0),(16,.d zp3 4),(17,dI 5),(18,dI 14)],(h16 6 7 8 9 10 11 12 13 15 16 17),k17,k3⟩ [(0,.ptr 1 0),(1,dI 2),(4,.ptr 1000004 0),(5,.ptr 1000005 0),(6,dI 3),(7,.ptr 1000007 0)] (h16 6 7 8 9 10 11 12 13 14 15 16) [.s,i6,i6] 2 (u14Q xS) (.s .n (.s .n (.s (.j ⟨[(0,.ptr 1 0),(1,dI 2),(4,.ptr 1000004 0),(5,.ptr 1000005 0),(6,dI 3),(7,.ptr 1000007 0),(16,.d zp3 4),(17,dI 5),(18,dI 6)],(h16 7 8 9 10 11 12 13 14 15 16 17),k18,[.s,i6,i6]⟩ bd .n) .n)))) .n)) (.s (.s (.j ⟨[(0,.ptr 1 0),(1,dI 2),(4,.ptr 1000004 0),(5,.ptr 1000005 0),(7,.ptr 1000007 0),(51,.d .b 14)],(h16 3 4 5 6 7 8 9 10 11 12 13),k19,[.b]⟩ bd .n) .n) .n))) .n)) .n))) Tryz.func40 rfl Vb ⟨⟨Vn,(ud RK).1⟩,uc,zro,⟨Vb,(ud RK).2⟩,trivial⟩ λx=>by kernel_rfl).2⟩
def zrq(RK:Nat):ze PGq 150/\(Hx RK).OK PGq 150:=⟨Vn,(ud RK).1⟩
def W5(RK:Nat):ze PGq 40/\(uW RK).OK PGq 40:=⟨Vb,(ud RK).2⟩
def qH(RK:Nat):Ct TS:=⟨[.d (.st 0) 0],[],[.st 0],dI 1,[],[i6],bd,λx=>jd RK x⟩
def zg6:∀RK,(qH RK).OK PGq 43
 |0=>(λx r h=>nomatch (show(bh:Option _)=bc r from h))
 |RK+1=>(ctk (c:=qH (RK+1)) (T:=[(43,qH RK)]) (h:=.s .n (.s .n (.s (.s .n (.s (.l ⟨[(3,dI 2),(7,.d l0Q 0),(8,dI 1),(9,dI 3)],[],[l0Q,i6],[i6,i6]⟩ [(3,dI 2)] [] [i6] 0 (λx K v=>qj (jd RK) x.1 x.2 K v) .n) .n)) .n))) Tryz.func43 rfl zQ6 ⟨⟨zQ6,(zg6 RK)⟩,trivial⟩ λx=>by kernel_rfl).2
def Hy(RK:Nat):ze PGq 43/\(qH RK).OK PGq 43:=⟨zQ6,(zg6 RK)⟩
def jw:Ct TS:=⟨[.ptr 2 0,.ptr 3 0],zJk,k21,.tup [],((h20 7 8 9 10 11 12)++h5),k13,bd,u7Q WV⟩
def zfr:HBc 39 jw:=ctk (T:=[(40,uW KK),(42,uU),(41,kN),(43,qH KK)]) (h:=.n) Tryz.func39 rfl zWn ⟨(W5 KK),ua,kj,(Hy KK),trivial⟩ λx=>by kernel_rfl
def zn2:CtP TS PC:=⟨[.ptr 1 0,dI 2],(h8 1),k7,u3Q QT⟩
def zya:HBp 134 zn2:=ctp (T:=[(42,uU)]) (TP:=[]) (h:=.n) Tryz.func134 rfl zMz ⟨ua,trivial⟩ trivial λx=>by kernel_rfl
def Hz:CtP TS PC:=⟨[.ptr 1 0,.d .b 2,dI 3],(h8 1),[wx,i6,.b,i6],u4Q we⟩
def Jz:HBp 41 Hz:=ctp (T:=[]) (TP:=[(134,zn2)]) (h:=.n) Tryz.func41 rfl zJo trivial ⟨zya,trivial⟩ λx=>by kernel_rfl
def zn3:CtP TS PC:=⟨[.ptr 1 0,.d .s 2],(h8 1),[wx,i6,.s],u3Q AF⟩
def zyb:HBp 133 zn3:=ctp (T:=[(194,zc5),(41,kN)]) (TP:=[(41,Hz)]) (h:=.n) Tryz.func133 rfl zuq ⟨zba,kj,trivial⟩ ⟨Jz,trivial⟩ λx=>by kernel_rfl
def zc9:CtP TS PC:=⟨[.ptr 1 0,dI 2,dI 3],(h8 1),k9,u4Q oo⟩
def zn4:HBp 130 zc9:=ctp (T:=[(193,ub),(41,kN),(42,uU)]) (TP:=[(41,Hz)]) (h:=.s .n (.s .n (.s .n (.s (.j ⟨[(0,.ptr 1 0),(7,dI 2)],(h8 1),k7,[]⟩ bf .n) .n)))) Tryz.func130 rfl zuo ⟨uV,kj,ua,trivial⟩ ⟨Jz,trivial⟩ λx=>by kernel_rfl
def zn5:CtP TS PC:=⟨[.ptr 1 0],(h10 1),[wx,i6],u2Q jO⟩
def zyc:HBp 207 zn5:=ctp (T:=[(190,Y2),(41,kN)]) (TP:=[(41,Hz)]) (h:=.n) Tryz.func207 rfl zup ⟨zc8,kj,trivial⟩ ⟨Jz,trivial⟩ λx=>by kernel_rfl
def VJ(RK:Nat):CtP TS PC:=⟨[.ptr 1 0,dI 2],(h10 1),k7,λx=>oq RK x.1 x.2.1 x.2.2⟩
def HA(RK:Nat):CtP TS PC:=⟨[.ptr 1 0,dI 2],(h10 1),k7,λx=>xa RK x.1 x.2.1 x.2.2⟩
def uX:∀RK,(VJ RK).OK PGq (pvT PT PC) 150/\(HA RK).OK PGq (pvT PT PC) 40
 |0=>⟨(λx r h=>nomatch (show(bh:Option _)=bc r from h)),(λx r h=>nomatch (show(bh:Option _)=bc r from h))⟩
 |RK+1=>⟨(ctp (c:=VJ (RK+1)) (T:=[(194,zc5),(40,uW KK),(133,zj4),(193,ub),(130,Y1),(207,zj3)]) (TP:=[(40,HA RK),(133,zn3),(130,zc9),(207,zn5)]) (h:=.s .n (.s (.s (.s (.j ⟨[(0,.ptr 1 0),(1,dI 1),(4,.ptr 1000004 0),(10,.d .b 6)],zJj,k14,[i6,.b]⟩ bd .n) (.s .n (.s (.j ⟨[(0,.ptr 1 0),(1,dI 1),(4,.ptr 1000004 0),(31,.d .b 6)],zJj,k14,[i6,.b]⟩ bd .n) (.s .n (.s (.j ⟨[(0,.ptr 1 0),(4,.ptr 1000004 0),(42,.d .b 5)],(h11 4 1000004 1 1 2 2 3),[wx,i6,.s,l0Q],[i6,.b]⟩ bd .n) .n))))) .n) .n)) Tryz.func150 rfl Vn ⟨zba,(W5 KK),zn1,uV,zc6,zn0,trivial⟩ ⟨⟨Vb,(uX RK).2⟩,zyb,zn4,zyc,trivial⟩ λx=>by kernel_rfl).2,(ctp (c:=HA (RK+1)) (T:=[(150,Hx KK),(151,qu),(124,zut),(40,uW KK)]) (TP:=[(150,VJ RK),(40,HA RK)]) (h:=.s .n (.s .n (.s (.lr ⟨[(0,.ptr 1 0),(1,dI 1),(4,.ptr 1000004 0),(5,.ptr 1000005 0),(6,dI 6)],h15,k14,k12⟩ [] [] [] 999999999 (λx K v=>jU (xa RK) x.1 x.2.1 x.2.2.1 x.2.2.2.1 x.2.2.2.2 K v) (.s (.s .n (.s (.s .n (.s (.l ⟨[(0,.ptr 1 0),(1,dI 2),(4,.ptr 1000004 0),(5,.ptr 1000005 0),(6,dI 3),(7,.ptr 1000007 0),(16,.d zp3 4),(17,dI 5),(18,dI 14)],(h16 6 7 8 9 10 11 12 13 15 16 17),k17,k3⟩ [(0,.ptr 1 0),(1,dI 2),(4,.ptr 1000004 0),(5,.ptr 1000005 0),(6,dI 3),(7,.ptr 1000007 0)] (h16 6 7 8 9 10 11 12 13 14 15 16) [.s,i6,i6] 2 (u14Q vN) (.s .n (.s .n (.s (.j ⟨[(0,.ptr 1 0),(1,dI 2),(4,.ptr 1000004 0),(5,.ptr 1000005 0),(6,dI 3),(7,.ptr 1000007 0),(16,.d zp3 4),(17,dI 5),(18,dI 6)],(h16 7 8 9 10 11 12 13 14 15 16 17),k18,[.s,i6,i6]⟩ bd .n) .n)))) .n)) (.s (.s (.j ⟨[(0,.ptr 1 0),(1,dI 2),(4,.ptr 1000004 0),(5,.ptr 1000005 0),(7,.ptr 1000007 0),(51,.d .b 14)],(h16 3 4 5 6 7 8 9 10 11 12 13),k19,[.b]⟩ bd .n) .n) .n))) .n)) .n))) Tryz.func40 rfl Vb ⟨(zrq KK),uc,zro,(W5 KK),trivial⟩ ⟨⟨Vn,(uX RK).1⟩,⟨Vb,(uX RK).2⟩,trivial⟩ λx=>by kernel_rfl).2⟩
def zyd(RK:Nat):ze PGq 40/\(HA RK).OK PGq (pvT PT PC) 40:=⟨Vb,(uX RK).2⟩
def A2:CtP TS PC:=⟨[.ptr 2 0,.ptr 3 0],zJk,k21,u7Q WW⟩
def zda:HBp 39 A2:=ctp (T:=[(40,uW KK),(42,uU),(41,kN),(43,qH KK)]) (TP:=[(40,HA KK),(41,Hz)]) (h:=.n) Tryz.func39 rfl zWn ⟨(W5 KK),ua,kj,(Hy KK),trivial⟩ ⟨(zyd KK),Jz,trivial⟩ λx=>by kernel_rfl
def HB:Ct TS:=⟨[.ptr 1 0,.fn 39 [] [.ptr 2 0,.ptr 3 0]],zJk,k21,.tup [dI 7,dI 8],((h20 9 10 11 12 13 14)++h5),k22,bf,u7Q Hl⟩
def W6:HB.OK PGq 35:=λx r h=>by
 obtain⟨q,h1,h2⟩:=bind_some h;cases h2;exact kmp (by kernel_rfl) (zno (F:=hV (oa jw.hin (yT (S:=TS) jw.ci x))) (F':=hV (oa jw.hout (yT (S:=TS) jw.ci x++yT (S:=TS) jw.co q))) (a:=.ptr 2 0 0) (b:=.ptr 3 0 0) (pv:=.ptr 1 0 0) (kmp (by kernel_rfl) (zfr.2 x q h1)))
def AK:Ct TS:=⟨[.ptr 1 0,.fn 39 [] [.ptr 2 0,.ptr 3 0]],zJk,k21,.tup [dI 7,dI 8],([(1,.rw 0),(2,.rw 0),(3,.rw 0)]++h5),[i6,i6],bf,u7Q AG⟩
def VK:AK.OK PGq 35:=λx r h=>kmp (by kernel_rfl) (zjt (F:=hV (oa A2.hin (yT (S:=TS) A2.ci x))) (a:=.ptr 2 0 0) (b:=.ptr 3 0 0) (pv:=.ptr 1 0 0) (x:=r.1) (y:=r.2) (kmp (by kernel_rfl) (zda.2 x r h)))
def zdb:Ct TS:=⟨[.d .s 0],h5,[.s],.tup [.ag [dI 3,dI 4,.d .s 5,.d .s 6,.d l0Q 7],dI 1,dI 2],(h23 7000001 3 4 5 6 7),k12,bd,λx=>zcx x⟩
def zn6:HBc 12 zdb:=ctg (cd:=cdT) (nb:=nbT) (rc:=[(2,7000001,0)]) (T:=[(21,zj1),(35,HB),(35,AK)]) (h:=.n) Tryz.func12 rfl hbv12 ⟨zj2,⟨zJp,W6⟩,⟨zJp,VK⟩,trivial⟩ λx=>by kernel_rfl
def zdc(RK:Nat):Ct TS:=⟨[.d (.st 0) 0,dI 1],h5,[.st 0,i6],.d .b 2,h5,[.b],bd,λx=>yp RK x.1 x.2⟩
def zn7:∀RK,(zdc RK).OK PGq 61
 |0=>(λx r h=>nomatch (show(bh:Option _)=bc r from h))
 |RK+1=>(ctk (c:=zdc (RK+1)) (T:=[(16,zg5),(61,zdc RK)]) (h:=.s .n (.s (.s (.j ⟨[(1,dI 0),(2,.ptr 1000002 0),(20,.d .b 6)],(h23 1000002 1 2 3 4 5),k13,[.b]⟩ bd .n) .n) (.s .n (.s .n (.s (.j ⟨[(1,dI 0),(2,.ptr 1000002 0),(5,.ptr 1000005 0),(6,dI 6)],(h24 1 2 3 4 5 9),k13,[i6,i6,.s,.s]⟩ bf (.s .n (.s (.s .n (.s .n (.s (.j ⟨[(1,dI 0),(2,.ptr 1000002 0),(5,.ptr 1000005 0),(6,dI 1),(27,dI 2),(35,.d .b 9)],(h24 2 3 4 5 6 8),[i6,i6,i6,i6,.s,.s,l0Q,i6,.s],[.b]⟩ bd .n) (.s .n (.s .n (.s .n (.s (.j ⟨[(1,dI 0),(2,.ptr 1000002 0),(5,.ptr 1000005 0),(6,dI 1),(27,dI 2),(53,.d .b 9)],(h24 2 3 4 5 6 8),[i6,i6,i6,i6,.s,.s,l0Q,i6,.s],[.b]⟩ bd .n) .n))))))) .n))) (.s (.s (.j ⟨[(1,dI 0),(2,.ptr 1000002 0),(98,.d .b 6)],(h23 1000002 1 2 3 4 5),k13,[.b]⟩ bd .n) .n) (.s (.s .n (.s (.lr ⟨[(1,dI 0),(100,.d l0Q 1),(101,dI 2),(102,dI 3)],h5,[i6,l0Q,i6],[i6]⟩ [] h5 [] 1 (λx K v=>xN (yp RK) x.1 x.2.1 x.2.2 K v) .n) .n)) .n))))))) Tryz.func61 rfl zQ7 ⟨zc7,⟨zQ7,(zn7 RK)⟩,trivial⟩ λx=>by kernel_rfl).2
def zJq(RK:Nat):ze PGq 61/\(zdc RK).OK PGq 61:=⟨zQ7,(zn7 RK)⟩
def JA:Ct TS:=⟨[.d (.st 0) 0],h5,[.st 0],.d .b 1,h5,[.b],bd,λx=>jV x⟩
def Qa:HBc 20 JA:=ctk (T:=[(61,zdc KK)]) (h:=.n) Tryz.func20 rfl hbv20 ⟨(zJq KK),trivial⟩ λx=>by kernel_rfl
def zuu:Ct TS:=⟨[.d (.st 0) 0],[],[.st 0],.tup [dI 1,.d .s 2],[],[i6,.s],bd,λx=>za0 x⟩
def zC1:HBc 161 zuu:=ctk (T:=[(151,qu)]) (h:=.s .n (.s (.s .n (.s (.lr ⟨[(1,.ptr 1000001 0),(6,.d zp3 0),(7,dI 1),(8,dI 7)],(h25 1000001 2 3 4 5 6),[zp3,i6,i6,i6,.s,.s,l0Q],[i6]⟩ [(1,.ptr 1000001 0)] (h25 1000001 2 3 4 5 6) [] 0 (u7Q Ji) .n) .n)) .n)) Tryz.func161 rfl zWo ⟨uc,trivial⟩ λx=>by kernel_rfl
def zcs:Ct TS:=⟨[.ptr 1 0,.d .s 1],[(1,.gn 0 .s 0)],[.s,.s],.tup [dI 2,.nili],[(1,.gn 0 .s 3)],[i6,.s],bd,u2Q yX⟩
def zjr:zcs.OK PGq 162:=λx r h=>by
 obtain⟨_,h1,h2⟩:=bind_some h;cases h2;exact kmp (by kernel_rfl) (zrg zh9 1 x.1 x.2 (xo h1))
def zC2:Ct TS:=⟨[dI 0],h5,[i6],.d .s 1,h5,[.s],bd,λx=>ZD x⟩
def zC3:zC2.OK PGq 163:=λx r h=>kmp (by kernel_rfl) (zVl x r h)
def zdd(RK:Nat):Ct TS:=⟨[.ptr 1 0,.d (.st 0) 1,dI 2],(h26 0 0),[.s,.st 0,i6],.tup [],(h26 0 3),[.s],bd,λx=>wa RK x.1 x.2.1 x.2.2⟩
def zn8:∀RK,(zdd RK).OK PGq 58
 |0=>(λx r h=>nomatch (show(bh:Option _)=bc r from h))
 |RK+1=>zJa (T:=[(161,zuu),(162,zcs),(163,zC2),(58,zdd RK)]) (cd:=cdT) (kk:=KK) (nb:=nbT) (rs:=[]) (D:=dW) (k0:=1) (hB:=.s (.s .n (.s .n (.s .n (.s .n (.s .n (.s .n (.s .n (.s .n (.s .n (.s (.s .n (.s (.l ⟨[(0,.ptr 1 0),(4,.ptr 1000004 0),(90,.row 1 1000090),(91,dI 0),(92,dI 8)],h27,[i6,i6,i6,.s,.s,l0Q,lsQ],[.s,i6]⟩ [] (h26 0 7) [.s] 1 (λx K v=>kd (wa RK) x.1 x.2.1 x.2.2.1 x.2.2.2.1 x.2.2.2.2.1 (p5Q x).1 (p6Q x) K v) .n) .n)) (.s .n (.s .n (.s .n (.s .n (.s .n (.s (.j ⟨[(0,.ptr 1 0),(4,.ptr 1000004 0),(6,dI 1),(7,.d .s 2),(10,dI 8)],h28,[.s,i6,.s,i6,i6,.s,.s,l0Q],[i6]⟩ bd .n) .n)))))))))))))))) .n) (hB':=.s (.s .n (.s .n (.s .n (.s .n (.s .n (.s .n (.s .n (.s .n (.s .n (.s (.s .n (.s (.l ⟨[(0,.ptr 1 0),(4,.ptr 1000004 0),(90,.row 1 1000090),(91,dI 0),(92,dI 8)],h27,[i6,i6,i6,.s,.s,l0Q,lsQ],[.s,i6]⟩ [] (h26 0 7) [.s] 1 (λx K v=>ke (wa RK) x.1 x.2.1 x.2.2.1 x.2.2.2.1 x.2.2.2.2.1 (p5Q x).1 (p6Q x) K v) .n) .n)) (.s .n (.s .n (.s .n (.s .n (.s .n (.s (.j ⟨[(0,.ptr 1 0),(4,.ptr 1000004 0),(6,dI 1),(7,.d .s 2),(10,dI 8)],h28,[.s,i6,.s,i6,i6,.s,.s,l0Q],[i6]⟩ bd .n) .n)))))))))))))))) .n) zQ1 Tryz.func58 rfl zQ2 ⟨zC1,⟨zuj,zjr⟩,⟨zM0,zC3⟩,⟨zWp,(zn8 RK)⟩,trivial⟩ rfl (by kernel_rfl) rfl dW_ok zCq (λx=>by kernel_rfl) (λx=>by kernel_rfl)
def zuv(RK:Nat):ze PGq 58/\(zdd RK).OK PGq 58:=⟨zWp,(zn8 RK)⟩
def zC4:Ct TS:=⟨[.ptr 1 0],[(1,.gn 0 .s 0)],[.s],dI 1,[(1,.gn 0 .s 0)],[i6],bd,λx=>zCx x⟩
def zJr:zC4.OK PGq 59:=λx r h=>by
 cases h;exact kmp (by kernel_rfl) (zCm (T:=108) 1 x)
def oe:Ct TS:=⟨[.ptr 1 0],[(1,.gn 0 .s 0)],[.s],.d .s 1,[(1,.gn 0 .s 0)],[.s],bd,λx=>qd x⟩
def Jc:oe.OK PGq 60:=λx r h=>by
 cases h;exact kmp (by kernel_rfl) (YW (T:=108) 1 x)
def zde:Ct TS:=⟨[.d (.st 0) 0],h5,[.st 0],.tup [.d .s 1,dI 2],h5,[.s,i6],bd,λx=>VF x⟩
def zn9:HBc 19 zde:=ctk (T:=[(20,JA),(58,zdd KK),(59,zC4),(60,oe)]) (h:=.n) Tryz.func19 rfl hbv19 ⟨Qa,(zuv KK),⟨zWq,zJr⟩,⟨zx8,Jc⟩,trivial⟩ λx=>by kernel_rfl
def zQ:Ct TS:=⟨[.ptr 1 0],vv,k30,.ag [dI 17,.d .s 18,dI 19,dI 20],(vv++(h31 7000001 17 18 19 20)),k3,bd,λx=>zn (xy x)⟩
def zK:HBc 42 zQ:=ctg (cd:=cdT) (nb:=nbT) (rc:=[(2,7000001,0)]) (T:=[]) (h:=.n) Tryz.func42 rfl zWl trivial λx=>by kernel_rfl
def zw:Ct TS:=⟨[.ptr 1 0,.d .b 17,dI 18],vv,k32,.tup [],vv,[],bd,λx=>zf (zcu x) (rBB x).1 (rBB x).2⟩
def zr:HBc 41 zw:=ctk (T:=[]) (h:=.n) Tryz.func41 rfl zJo trivial λx=>by kernel_rfl
def zj5:Ct TS:=⟨[.ptr 1 0,dI 17,dI 18],vv,k33,.tup [],zT0,[i6],bd,λx=>yO (zcu x) (rBB x).1 (rBB x).2⟩
def zoa:HBc 121 zj5:=ctk (T:=[(41,zw)]) (h:=.n) Tryz.func121 rfl zM1 ⟨zr,trivial⟩ λx=>by kernel_rfl
def zP:Ct TS:=⟨[.ptr 1 0],(vv++h5),k30,.d .b 17,(vv++h5),[.b],bd,λx=>zJ (xy x)⟩
def zM:HBc 190 zP:=ctk (T:=[(42,zQ),(16,zg5)]) (h:=.n) Tryz.func190 rfl zMy ⟨zK,zc7,trivial⟩ λx=>by kernel_rfl
def yv:Ct TS:=⟨[.ptr 1 0],(vv++h5),k30,.d .s 17,(zTz++h5),[.s,i6],bd,λx=>zL (xy x)⟩
def yk:HBc 207 yv:=ctk (T:=[(190,zP),(41,zw)]) (h:=.n) Tryz.func207 rfl zup ⟨zM,zr,trivial⟩ λx=>by kernel_rfl
def zdf:Ct TS:=⟨[.ptr 1 0,.om 9],(vv++h5),k30,.d .s 17,((h29 18 9 16 2 3 4 5 6 7 8 19 11 12 13 14 15)++h5),k34,bd,λx=>K1 (xy x)⟩
def zg7:HBc 191 zdf:=ctk (T:=[(190,zP),(41,zw),(42,zQ),(207,yv)]) (h:=.n) Tryz.func191 rfl AJ ⟨zM,zr,zK,yk,trivial⟩ λx=>by kernel_rfl
def zrr:Ct TS:=⟨[.ptr 1 0,.ci .i64 0],(vv++h5),k30,.d .s 17,((h35 18 9 7001001 16 2 3 4 5 6 7 8)++h5++(h36 7001001 19)),k34,bd,λx=>zcy (xy x)⟩
def zuw:HBc 125 zrr:=ctg (cd:=cdO) (nb:=nbT) (rc:=[]) (T:=[(191,zdf)]) (h:=.s .n (.s (.j ⟨[(0,.ptr 1 0),(1,dI 16)],((h35 1 2 7000001 3 4 5 6 7 8 9 10)++h5++(h36 7000001 17)),k37,[mBQ]⟩ bd .n) .n)) Tryz.func125 rfl JX ⟨zg7,trivial⟩ λx=>by kernel_rfl
def qI:Ct TS:=⟨[.ptr 1 0,.d .s 17],vv,k38,.d .b 18,vv,[.b],bd,λx=>vF (zcu x) (rBB x)⟩
def kO:HBc 124 qI:=ctk (T:=[(42,zQ)]) (h:=.n) Tryz.func124 rfl zMv ⟨zK,trivial⟩ λx=>by kernel_rfl
def vR:Ct TS:=⟨[.ptr 1 0,.d .s 17],vv,k38,.d .b 18,zT0,[.b,i6],bd,λx=>zC (zcu x) (rBB x)⟩
def vy:HBc 194 vR:=ctk (T:=[(124,qI)]) (h:=.n) Tryz.func194 rfl zMw ⟨kO,trivial⟩ λx=>by kernel_rfl
def xh:Ct TS:=⟨[.ptr 1 0,.d .s 17],vv,k38,.tup [],zTz,[i6],bd,λx=>zy (zcu x) (rBB x)⟩
def yP:HBc 133 xh:=ctk (T:=[(194,vR),(41,zw)]) (h:=.n) Tryz.func133 rfl zuq ⟨vy,zr,trivial⟩ λx=>by kernel_rfl
def yB:Ct TS:=⟨[.ptr 1 0],vv,k30,.d .b 17,vv,[.b],bd,λx=>yg (xy x)⟩
def yC:HBc 193 yB:=ctk (T:=[(42,zQ)]) (h:=.n) Tryz.func193 rfl zMx ⟨zK,trivial⟩ λx=>by kernel_rfl
def yb:Ct TS:=⟨[.ptr 1 0,dI 17,dI 18],vv,k33,dI 19,(h29 20 9 16 2 3 4 5 6 7 8 10 11 12 13 14 15),[i6,i6],bd,λx=>zk (zcu x) (rBB x).1 (rBB x).2⟩
def z6:HBc 130 yb:=ctk (T:=[(193,yB),(41,zw),(42,zQ)]) (h:=.s .n (.s .n (.s .n (.s (.j ⟨[(0,.ptr 1 0),(7,dI 17)],zlv,k39,[]⟩ bd .n) .n)))) Tryz.func130 rfl zuo ⟨yC,zr,zK,trivial⟩ λx=>by kernel_rfl
def ue(RK:Nat):Ct TS:=⟨[.ptr 1 0,dI 17],(vv++h5),k40,.tup [.ag [dI 20,dI 21,.d .s 22,.d .s 23,.d l0Q 24],dI 18],(zT0++h5++(h25 7000001 20 21 22 23 24)),k12,bd,λx=>qX RK (zcu x) (rBB x)⟩
def wK(RK:Nat):Ct TS:=⟨[.ptr 1 0,dI 17],(vv++h5),k40,.ag [dI 19,dI 20,.d .s 21,.d .s 22,.d l0Q 23],(zTz++h5++(h25 7000001 19 20 21 22 23)),k13,bd,λx=>z7 RK (zcu x) (rBB x)⟩
def jH:∀RK,(ue RK).OK PGq 150/\(wK RK).OK PGq 40
 |0=>⟨(λx r h=>nomatch (show(bh:Option _)=bc r from h)),(λx r h=>nomatch (show(bh:Option _)=bc r from h))⟩
 |RK+1=>⟨(ctg (c:=ue (RK+1)) (cd:=cdT) (nb:=nbT) (rc:=[(4,7000001,0)]) (T:=[(194,vR),(40,wK RK),(133,xh),(193,yB),(130,yb),(207,yv)]) (h:=.s .n (.s (.s (.s (.j ⟨[(0,.ptr 1 0),(1,dI 16),(4,.ptr 1000004 0),(10,.d .b 21)],zZ8,k41,[i6,.b]⟩ bd .n) (.s .n (.s (.j ⟨[(0,.ptr 1 0),(1,dI 16),(4,.ptr 1000004 0),(31,.d .b 21)],zZ8,k41,[i6,.b]⟩ bd .n) (.s .n (.s (.j ⟨[(0,.ptr 1 0),(4,.ptr 1000004 0),(42,.d .b 20)],zV4,k42,[i6,.b]⟩ bd .n) .n))))) .n) .n)) Tryz.func150 rfl Vn ⟨vy,⟨Vb,(jH RK).2⟩,yP,yC,z6,yk,trivial⟩ λx=>by kernel_rfl).2,(ctg (c:=wK (RK+1)) (cd:=cdT) (nb:=nbT) (rc:=[(4,7000001,0)]) (T:=[(150,ue RK),(151,qu),(124,qI),(40,wK RK)]) (h:=.s .n (.s .n (.s (.lr ⟨[(0,.ptr 1 0),(1,dI 16),(4,.ptr 1000004 0),(5,.ptr 1000005 0),(6,dI 21)],zV5,k41,k12⟩ [] [] [] 999999999 (λx K v=>kG (z7 RK) (BB.mk x.1 0 x.2.2.2.1 x.2.2.2.2.1 (p5Q x).1 (p6Q x).1 (p7Q x).1 (p8Q x).1 (p9Q x).1 x.2.1 (zls x).1 (zlt x).1 (zlu x).1 (zp4 x).1 (zp5 x).1 (zun x).1 x.2.2.1) (zMs x).1 (zMt x).1 (zTx x).1 (zTy x) K v) (.s (.s .n (.s (.s .n (.s (.l ⟨[(0,.ptr 1 0),(1,dI 17),(4,.ptr 1000004 0),(5,.ptr 1000005 0),(6,dI 18),(7,.ptr 1000007 0),(16,.d zp3 19),(17,dI 20),(18,dI 29)],(zlv++h5++(h44 21 22 23 24 25 26 27 28 30 31 32)),k45,k3⟩ [(0,.ptr 1 0),(1,dI 17),(4,.ptr 1000004 0),(5,.ptr 1000005 0),(6,dI 18),(7,.ptr 1000007 0)] (zlv++h5++(h44 21 22 23 24 25 26 27 28 29 30 31)) [.s,i6,i6] 2 (λx K v=>kE (BB.mk x.1 0 x.2.2.2.2.1 (p5Q x).1 (p6Q x).1 (p7Q x).1 (p8Q x).1 (p9Q x).1 (zls x).1 x.2.2.1 (zlt x).1 (zlu x).1 (zp4 x).1 (zp5 x).1 (zun x).1 (zMs x).1 x.2.2.2.1) x.2.1 (zMt x).1 (zTx x).1 (zTy x).1 (zZ7 x).1 (p21Q x).1 (p22Q x).1 (p23Q x).1 (p24Q x).1 (p25Q x).1 (p26Q x).1 (p27Q x).1 (p28Q x) K v) (.s .n (.s .n (.s (.j ⟨[(0,.ptr 1 0),(1,dI 17),(4,.ptr 1000004 0),(5,.ptr 1000005 0),(6,dI 18),(7,.ptr 1000007 0),(16,.d zp3 19),(17,dI 20),(18,dI 21)],(zlv++h5++(h44 22 23 24 25 26 27 28 29 30 31 32)),k46,[.s,i6,i6]⟩ bd .n) .n)))) .n)) (.s (.s (.j ⟨[(0,.ptr 1 0),(1,dI 17),(4,.ptr 1000004 0),(5,.ptr 1000005 0),(7,.ptr 1000007 0),(51,.d .b 29)],(zlv++h5++(h44 18 19 20 21 22 23 24 25 26 27 28)),k47,[.b]⟩ bd .n) .n) .n))) .n)) .n))) Tryz.func40 rfl Vb ⟨⟨Vn,(jH RK).1⟩,uc,kO,⟨Vb,(jH RK).2⟩,trivial⟩ λx=>by kernel_rfl).2⟩
def zj6(RK:Nat):ze PGq 150/\(ue RK).OK PGq 150:=⟨Vn,(jH RK).1⟩
def qv(RK:Nat):ze PGq 40/\(wK RK).OK PGq 40:=⟨Vb,(jH RK).2⟩
def VL:Ct TS:=⟨[.ptr 1 0,.d .b 17,dI 18],vv,k32,.tup [],zT0,[i6],bd,λx=>jW (zcu x) (rBB x).1 (rBB x).2⟩
def Q4:HBc 127 VL:=ctk (T:=[(124,qI),(41,zw)]) (h:=.n) Tryz.func127 rfl zM2 ⟨kO,zr,trivial⟩ λx=>by kernel_rfl
def Y3:Ct TS:=⟨[.ptr 1 0],(vv++h5),k30,.tup [],((h35 17 9 7000001 16 18 3 4 5 6 7 8)++h5++(h36 7000001 19)),[i6,l1Q,mBQ],bd,λx=>Hm (xy x)⟩
def zdg:HBc 122 Y3:=ctk (T:=[(125,zrr),(133,xh),(40,wK KK),(43,qH KK),(127,VL)]) (h:=.n) Tryz.func122 rfl zM3 ⟨zuw,yP,(qv KK),(Hy KK),Q4,trivial⟩ λx=>by kernel_rfl
def VM:Ct TS:=⟨[.ptr 1 0,.om 10],(vv++h5),k30,.d .s 17,((h29 18 9 16 2 3 4 5 6 7 8 10 19 12 13 14 15)++h5),k34,bd,λx=>oV (xy x)⟩
def ZG:HBc 191 VM:=ctk (T:=[(190,zP),(41,zw),(42,zQ),(207,yv)]) (h:=.n) Tryz.func191 rfl AJ ⟨zM,zr,zK,yk,trivial⟩ λx=>by kernel_rfl
def zdh:Ct TS:=⟨[.ptr 1 0,.ci .i64 1],(vv++h5),k30,.d .s 17,((h48 18 9 7001001 16 2 3 4 5 6 7 8 10 12 13 14 15)++h5++(h36 7001001 19)),k34,bd,λx=>K2 (xy x)⟩
def zg8:HBc 125 zdh:=ctg (cd:=cdO) (nb:=nbT) (rc:=[]) (T:=[(191,VM)]) (h:=.s .n (.s (.j ⟨[(0,.ptr 1 0),(1,dI 16)],zV6,k37,[mBQ]⟩ bd .n) .n)) Tryz.func125 rfl JX ⟨ZG,trivial⟩ λx=>by kernel_rfl
def VN:Ct TS:=⟨[.ptr 1 0,.mp 15],((h49 1 17)++h5),k50,.d .s 18,((h49 19 20)++h5),[.s,i6,.m .s .b],bd,λx=>yc (zcu x) (rBB x)⟩
def ZH:HBc 191 VN:=ctk (T:=[(190,zP),(41,zw),(42,zQ),(207,yv)]) (h:=.n) Tryz.func191 rfl AJ ⟨zM,zr,zK,yk,trivial⟩ λx=>by kernel_rfl
def HC:Ct TS:=⟨[.ptr 1 0,dI 17],vv,k40,dI 18,zT0,[i6,i6],bd,λx=>wI (zcu x) (rBB x)⟩
def JB:HBc 192 HC:=ctk (T:=[(194,vR),(130,yb)]) (h:=.n) Tryz.func192 rfl zM4 ⟨vy,z6,trivial⟩ λx=>by kernel_rfl
def zdi:Ct TS:=⟨[.ptr 1 0],(vv++h5),k30,.tup [],((h48 17 9 7000001 16 2 18 4 5 6 7 8 10 12 13 14 15)++h5++(h36 7000001 19)),[i6,l3Q,mBQ],bd,λx=>K3 (xy x)⟩
def zg9:HBc 123 zdi:=ctk (T:=[(125,zdh),(190,zP),(41,zw),(191,VN),(192,HC),(133,xh)]) (h:=.s .n (.s .n (.s (.s (.l ⟨[(0,.ptr 1 0),(2,.ptr 1000002 0),(3,.mp 1000007)],(zJm++h5++h51),k52,[i6,.m .s .b,l2Q]⟩ [(0,.ptr 1 0),(2,.ptr 1000002 0)] (zJm++h5++h53) [i6,l2Q] 0 (λx K v=>qY (BB.mk x.1 0 x.2.2.2.1 x.2.2.2.2.1 (p5Q x).1 (p6Q x).1 (p7Q x).1 (p8Q x).1 (p9Q x).1 x.2.1 (zls x).1 [] (zlt x).1 (zlu x).1 (zp4 x).1 (zp5 x).1 x.2.2.1) (zun x).1 (zMs x).1 (zMt x) K v) .n) .n) .n))) Tryz.func123 rfl zM5 ⟨zg8,zM,zr,ZH,JB,yP,trivial⟩ λx=>by kernel_rfl
def VO:Ct TS:=⟨[.ptr 1 0,.om 11],(vv++h5),k30,.d .s 17,((h29 18 9 16 2 3 4 5 6 7 8 10 11 19 13 14 15)++h5),k34,bd,λx=>oW (xy x)⟩
def ZI:HBc 191 VO:=ctk (T:=[(190,zP),(41,zw),(42,zQ),(207,yv)]) (h:=.n) Tryz.func191 rfl AJ ⟨zM,zr,zK,yk,trivial⟩ λx=>by kernel_rfl
def zdj:Ct TS:=⟨[.ptr 1 0,.ci .i64 2],(vv++h5),k30,.d .s 17,((h54 18 9 7001001 16 2 3 4 5 6 7 8 10 11)++h5++(h36 7001001 19)),k34,bd,λx=>oX (xy x)⟩
def zha:HBc 125 zdj:=ctg (cd:=cdO) (nb:=nbT) (rc:=[]) (T:=[(191,VO)]) (h:=.s .n (.s (.j ⟨[(0,.ptr 1 0),(1,dI 16)],zV7,k37,[mBQ]⟩ bd .n) .n)) Tryz.func125 rfl JX ⟨ZI,trivial⟩ λx=>by kernel_rfl
def Y4:Ct TS:=⟨[.ptr 1 0],vv,k30,.d l4Q 17,zTz,[l4Q,i6],bd,λx=>wJ (xy x)⟩
def zdk:HBc 126 Y4:=ctk (T:=[(130,yb),(193,yB)]) (h:=.s .n (.s .n (.s (.lr ⟨[(0,.ptr 1 0),(3,.row 2 7000001)],(zMu++[(7000001,.row 156 (.st 4) 17 bd)]),k55,[i6,l4Q]⟩ [] [] [] 999999999 (λx K v=>kH (BB.mk x.1 0 x.2.2.2.1 x.2.2.2.2.1 (p5Q x).1 (p6Q x).1 (p7Q x).1 (p8Q x).1 (p9Q x).1 x.2.1 (zls x).1 (zlt x).1 (zlu x).1 (zp4 x).1 (zp5 x).1 (zun x) x.2.2.1) K v) .n) .n))) Tryz.func126 rfl zM6 ⟨z6,yC,trivial⟩ λx=>by kernel_rfl
def zhb:Ct TS:=⟨[.d l4Q 0],[],[l4Q],.d ze6 1,[],[ze6],bd,λx=>QU x⟩
def zrs:HBc 214 zhb:=ctk (T:=[]) (h:=.s .n (.s .n (.s (.s .n (.s (.l ⟨[(0,.d l4Q 0),(3,.row 4 1000007),(9,dI 1),(10,dI 2)],[(1000007,.row 229 (.st 13) 3 bd)],[l4Q,i6],[i6,ze6]⟩ [(3,.row 4 1000007)] [(1000007,.row 229 (.st 13) 2 bd)] [ze6] 0 (u2Q vd) .n) .n)) .n))) Tryz.func214 rfl zWr trivial λx=>by kernel_rfl
def zhc:Ct TS:=⟨[.d (.st 4) 0],[],[.st 4],.d .b 1,[],[.b],bd,λx=>YZ x⟩
def zrt:HBc 215 zhc:=ctk (T:=[]) (h:=.n) Tryz.func215 rfl zWs trivial λx=>by kernel_rfl
def JY:Ct TS:=⟨[.d (.st 13) 0],[],[.st 13],.d .b 1,[],[.b],bd,λx=>xA x⟩
def Y5:HBc 216 JY:=ctk (T:=[]) (h:=.n) Tryz.func216 rfl zWt trivial λx=>by kernel_rfl
def zdl:Ct TS:=⟨[dI 0],[],[i6],.d .b 1,[],[.b],bd,λx=>Jj x⟩
def zob:HBc 238 zdl:=ctk (T:=[]) (h:=.n) Tryz.func238 rfl zWu trivial λx=>by kernel_rfl
def W7:Ct TS:=⟨[dI 0,dI 1],[],[i6,i6],dI 2,[],[i6],bd,u2Q kI⟩
def zfs:HBc 231 W7:=ctk (T:=[(238,zdl)]) (h:=.n) Tryz.func231 rfl zWv ⟨zob,trivial⟩ λx=>by kernel_rfl
def zux:Ct TS:=⟨[.d (.l i6) 0],[],[.l i6],dI 1,[],[i6],bd,λx=>za1 x⟩
def zC5:HBc 230 zux:=ctk (T:=[]) (h:=.s .n (.s .n (.s (.s .n (.s (.lr ⟨[(3,dI 0),(6,.d (.l i6) 1),(7,dI 2),(8,dI 3)],[],[i6,.l i6,i6],[i6]⟩ [(3,dI 0)] [] [] 0 (u3Q qk) .n) .n)) .n))) Tryz.func230 rfl zWw trivial λx=>by kernel_rfl
def zdm:Ct TS:=⟨[.d (.st 4) 0,.d (.st 4) 1],[],[.st 4,.st 4],dI 2,[],[i6],bd,u2Q Jk⟩
def zoc:HBc 217 zdm:=ctk (T:=[(231,W7),(230,zux)]) (h:=.n) Tryz.func217 rfl zWx ⟨zfs,zC5,trivial⟩ λx=>by kernel_rfl
def JZ:Ct TS:=⟨[.d (.st 13) 0,.d (.st 13) 1],[],[.st 13,.st 13],.d .b 2,[],[.b],bd,u2Q JW⟩
def Y6:HBc 218 JZ:=ctk (T:=[]) (h:=.n) Tryz.func218 rfl zWy trivial λx=>by kernel_rfl
def zod:Ct TS:=⟨[.d l4Q 0],[],[l4Q],.d .b 1,[],[.b],bd,λx=>zcz x⟩
def zye:HBc 180 zod:=ctk (T:=[(214,zhb),(215,zhc),(216,JY),(217,zdm),(218,JZ)]) (h:=.s .n (.s (.s (.j ⟨[(0,.d l4Q 0),(16,.d .b 1)],[],[l4Q],[.b]⟩ bd .n) .n) (.s .n (.s (.s .n (.s (.lr ⟨[(0,.d l4Q 0),(3,.d ze6 1),(19,.d ze6 1),(20,dI 2),(21,dI 3)],[],[l4Q,ze6,i6],[i6]⟩ [(3,.d ze6 1)] [] [] 0 (u3Q kf) (.s .n (.s .n (.s (.s (.s .n (.s .n (.s (.s (.j ⟨[(0,.d l4Q 0),(3,.d ze6 1),(4,dI 2),(19,.d ze6 1),(20,dI 3),(21,dI 2),(61,.d .b 4)],[],[l4Q,ze6,i6,i6],[.b]⟩ bd .n) .n) (.s (.j ⟨[(0,.d l4Q 0),(3,.d ze6 1),(19,.d ze6 1),(20,dI 2),(21,dI 3),(74,.d .b 4)],[],[l4Q,ze6,i6,i6],[.b]⟩ bd .n) .n)))) .n) .n)))) .n)) (.s (.s .n (.s (.lr ⟨[(3,.d ze6 0),(77,dI 1),(78,dI 2)],[],[ze6,i6],[i6]⟩ [(3,.d ze6 0)] [] [] 2 (u2Q kh) (.s .n (.s .n (.s (.s (.s .n (.s .n (.s (.lr ⟨[(3,.d ze6 0),(7,dI 1),(8,dI 3),(77,dI 2),(78,dI 1)],[],[ze6,i6,i6],[i6]⟩ [(3,.d ze6 0),(77,dI 2),(78,dI 1)] [] [] 4 (u3Q kg) (.s .n (.s (.s (.s (.j ⟨[(3,.d ze6 0),(7,dI 1),(8,dI 2),(77,dI 3),(78,dI 1),(106,.d .b 4)],[],[ze6,i6,i6,i6],[.b]⟩ bd .n) .n) .n) .n))) .n))) .n) .n)))) .n)) .n))))) Tryz.func180 rfl zWz ⟨zrs,zrt,Y5,zoc,Y6,trivial⟩ λx=>by kernel_rfl
def zbb:Ct TS:=⟨[.d l4Q 0],[],[l4Q],.d .b 1,[],[.b],bd,λx=>ve x⟩
def zdn:HBc 94 zbb:=ctk (T:=[(180,zod)]) (h:=.n) Tryz.func94 rfl hbv94 ⟨zye,trivial⟩ λx=>by kernel_rfl
def VP:Ct TS:=⟨[.ptr 1 0,.om 12],(vv++h5),k30,.d .s 17,((h29 18 9 16 2 3 4 5 6 7 8 10 11 12 19 14 15)++h5),k34,bd,λx=>oY (xy x)⟩
def ZJ:HBc 191 VP:=ctk (T:=[(190,zP),(41,zw),(42,zQ),(207,yv)]) (h:=.n) Tryz.func191 rfl AJ ⟨zM,zr,zK,yk,trivial⟩ λx=>by kernel_rfl
def zdo:Ct TS:=⟨[.ptr 1 0,.ci .i64 3],(vv++h5),k30,.d .s 17,((h56 18 9 7001001 16 2 3 4 5 6 7 8 10 11 12 14 15)++h5++(h36 7001001 19)),k34,bd,λx=>K4 (xy x)⟩
def zhd:HBc 125 zdo:=ctg (cd:=cdO) (nb:=nbT) (rc:=[]) (T:=[(191,VP)]) (h:=.s .n (.s (.j ⟨[(0,.ptr 1 0),(1,dI 16)],zV8,k37,[mBQ]⟩ bd .n) .n)) Tryz.func125 rfl JX ⟨ZJ,trivial⟩ λx=>by kernel_rfl
def zj7:Ct TS:=⟨[.ptr 1 0],(vv++h5),k30,.d lsQ 17,(zTz++h5),[lsQ,i6],bd,λx=>uN (xy x)⟩
def zoe:HBc 195 zj7:=ctk (T:=[(207,yv),(190,zP)]) (h:=.s .n (.s .n (.s (.s (.l ⟨[(0,.ptr 1 0),(3,.row 1 1000008)],(zMu++h5++(h57 1000008 17)),k55,[i6,lsQ]⟩ [(3,.row 1 1000008)] (zMu++h5++(h57 1000008 17)) [i6,lsQ] 0 (λx K v=>oZ (BB.mk x.1 0 x.2.2.2.1 x.2.2.2.2.1 (p5Q x).1 (p6Q x).1 (p7Q x).1 (p8Q x).1 (p9Q x).1 x.2.1 (zls x).1 (zlt x).1 (zlu x).1 (zp4 x).1 (zp5 x).1 (zun x) x.2.2.1) K v) .n) .n) .n))) Tryz.func195 rfl zM7 ⟨yk,zM,trivial⟩ λx=>by kernel_rfl
def zbc:Ct TS:=⟨[.d .s 0],h5,[.s],.row 1 60,[(60,.row 9 .s 1 bd),(900000000,.rw 1),(900000001,.rw 2),(900000002,.rw 3),(900000003,.rw 4)],[lsQ],bd,λx=>vG x⟩
def zdp:zbc.OK PGq 72:=λx r h=>kmp (by kernel_rfl) (zI3 x r h)
def Vo:Ct TS:=⟨[.d lsQ 0,.d .s 1],[],[lsQ,.s],dI 2,[],[i6],bd,u2Q A1⟩
def zdq:HBc 219 Vo:=ctk (T:=[]) (h:=.s .n (.s (.s .n (.s (.lr ⟨[(0,.d lsQ 0),(1,.d .s 1),(7,dI 2),(8,dI 3)],[],[lsQ,.s,i6],[i6]⟩ [] [] [] 0 (u3Q xO) .n) .n)) .n)) Tryz.func219 rfl zW0 trivial λx=>by kernel_rfl
def zdr:Ct TS:=⟨[.d .s 0,.d .s 1],h5,[.s,.s],dI 2,h5,[i6],bd,u2Q VG⟩
def zbd:HBc 197 zdr:=ctk (T:=[(72,zbc),(219,Vo)]) (h:=.n) Tryz.func197 rfl zW1 ⟨⟨zQ8,zdp⟩,zdq,trivial⟩ λx=>by kernel_rfl
def qw:Ct TS:=⟨[.ptr 1 0,.d .s 17],(vv++h5),k38,dI 18,(zT0++h5),[i6,i6],bd,λx=>xr (zcu x) (rBB x)⟩
def qx:HBc 129 qw:=ctk (T:=[(42,zQ),(197,zdr),(41,zw)]) (h:=.s .n (.s .n (.s (.j ⟨[(0,.ptr 1 0),(5,dI 17)],(zlv++h5),k39,[]⟩ bd .n) .n))) Tryz.func129 rfl zM8 ⟨zK,zbd,zr,trivial⟩ λx=>by kernel_rfl
def zru:Ct TS:=⟨[.ptr 1 0],(vv++h5),k30,dI 17,(zTz++h5),[i6,i6],bd,λx=>zc0 (xy x)⟩
def zuy:HBc 196 zru:=ctk (T:=[(42,zQ),(197,zdr),(41,zw),(129,qw)]) (h:=.s .n (.s .n (.s (.lr ⟨[(0,.ptr 1 0),(3,dI 17)],(zMu++h5),k55,[i6,i6]⟩ [] [] [] 999999999 (λx K v=>Hn (BB.mk x.1 0 x.2.2.2.1 x.2.2.2.2.1 (p5Q x).1 (p6Q x).1 (p7Q x).1 (p8Q x).1 (p9Q x).1 x.2.1 (zls x).1 (zlt x).1 (zlu x).1 (zp4 x).1 (zp5 x).1 (zun x) x.2.2.1) K v) (.s (.s .n (.s (.s (.j ⟨[(0,.ptr 1 0),(3,dI 17),(4,dI 18),(24,.d .b 19)],(zlv++h5),k58,[.b]⟩ bd .n) .n) (.s (.j ⟨[(0,.ptr 1 0),(3,dI 17)],(zlv++h5),k39,[]⟩ bd .n) .n))) .n)) .n))) Tryz.func196 rfl zM9 ⟨zK,zbd,zr,qx,trivial⟩ λx=>by kernel_rfl
def zj8:Ct TS:=⟨[.ptr 1 0],(vv++h5),k30,.tup [],((h56 17 9 7000001 16 2 3 4 18 6 7 8 10 11 12 14 15)++h5++(h36 7000001 19)),[i6,l7Q,mBQ],bd,λx=>Jl (xy x)⟩
def zof:HBc 128 zj8:=ctk (T:=[(125,zdo),(194,vR),(195,zj7),(130,yb),(133,xh),(196,zru),(129,qw),(40,wK KK),(43,qH KK),(127,VL)]) (h:=.s .n (.s (.j ⟨[(0,.ptr 1 0),(2,.ptr 1000002 0)],(zZ9++h5++(h59 23 17 18 18 18 19 18 18 18 20 20 21 18 18 18 18 18 18 18)),k60,[i6,lsQ]⟩ bd .n) (.s (.j ⟨[(0,.ptr 1 0),(2,.ptr 1000002 0)],(zZ9++h5++(h59 17 23 18 18 18 19 18 18 18 20 20 21 18 18 18 18 18 18 18)),k60,[i6,lsQ]⟩ bd .n) (.s (.j ⟨[(0,.ptr 1 0),(2,.ptr 1000002 0)],(z0a++h5++(h59 17 18 24 19 19 20 19 19 19 21 21 22 19 19 19 19 19 19 19)),k61,[i6,i6]⟩ bd .n) (.s (.j ⟨[(0,.ptr 1 0),(2,.ptr 1000002 0)],zV9,k62,[i6,i6]⟩ bd .n) (.s (.j ⟨[(0,.ptr 1 0),(2,.ptr 1000002 0)],zWa,k63,[i6,i6]⟩ bd .n) (.s .n (.s .n (.s (.j ⟨[(0,.ptr 1 0),(2,.ptr 1000002 0)],(z0a++h5++(h59 17 18 19 20 21 22 24 25 26 27 28 29 30 31 32 33 34 35 36)),k64,k65⟩ bd .n) .n))))))))) Tryz.func128 rfl zNa ⟨zhd,vy,zoe,z6,yP,zuy,qx,(qv KK),(Hy KK),Q4,trivial⟩ λx=>by kernel_rfl
def VQ:Ct TS:=⟨[.ptr 1 0,.om 13],(vv++h5),k30,.d .s 17,((h29 18 9 16 2 3 4 5 6 7 8 10 11 12 13 19 15)++h5),k34,bd,λx=>o4 (xy x)⟩
def ZK:HBc 191 VQ:=ctk (T:=[(190,zP),(41,zw),(42,zQ),(207,yv)]) (h:=.n) Tryz.func191 rfl AJ ⟨zM,zr,zK,yk,trivial⟩ λx=>by kernel_rfl
def zds:Ct TS:=⟨[.ptr 1 0,.ci .i64 4],(vv++h5),k30,.d .s 17,((h66 18 9 7001001 16 2 3 4 5 6 7 8 10 11 12 13)++h5++(h36 7001001 19)),k34,bd,λx=>o5 (xy x)⟩
def zhe:HBc 125 zds:=ctg (cd:=cdO) (nb:=nbT) (rc:=[]) (T:=[(191,VQ)]) (h:=.s .n (.s (.j ⟨[(0,.ptr 1 0),(1,dI 16)],zWb,k37,[mBQ]⟩ bd .n) .n)) Tryz.func125 rfl JX ⟨ZK,trivial⟩ λx=>by kernel_rfl
def VR:Ct TS:=⟨[.ptr 1 0,.om 14],(vv++h5),k30,.d .s 17,((h29 18 9 16 2 3 4 5 6 7 8 10 11 12 13 14 19)++h5),k34,bd,λx=>o6 (xy x)⟩
def ZL:HBc 191 VR:=ctk (T:=[(190,zP),(41,zw),(42,zQ),(207,yv)]) (h:=.n) Tryz.func191 rfl AJ ⟨zM,zr,zK,yk,trivial⟩ λx=>by kernel_rfl
def zdt:Ct TS:=⟨[.ptr 1 0,.ci .i64 5],(vv++h5),k30,.d .s 17,((h67 18 9 7001001 16 2 3 4 5 6 7 8 10 11 12 13 14)++h5++(h36 7001001 19)),k34,bd,λx=>K5 (xy x)⟩
def zhf:HBc 125 zdt:=ctg (cd:=cdO) (nb:=nbT) (rc:=[]) (T:=[(191,VR)]) (h:=.s .n (.s (.j ⟨[(0,.ptr 1 0),(1,dI 16)],zWc,k37,[mBQ]⟩ bd .n) .n)) Tryz.func125 rfl JX ⟨ZL,trivial⟩ λx=>by kernel_rfl
def zdu:Ct TS:=⟨[.ptr 1 0],vv,k30,.ag [dI 18,dI 19,dI 20],((h29 17 9 16 2 3 4 5 6 7 8 10 11 12 13 14 15)++[(7000001,.box 98 [dI 18,dI 19,dI 20])]),k1,bd,λx=>kJ (xy x)⟩
def zhg:HBc 198 zdu:=ctg (cd:=cdT) (nb:=nbT) (rc:=[(2,7000001,0)]) (T:=[(130,yb)]) (h:=.n) Tryz.func198 rfl zNb ⟨z6,trivial⟩ λx=>by kernel_rfl
def zj9:Ct TS:=⟨[.ptr 1 0],(vv++h5),k30,.tup [],((h67 17 9 7000001 16 2 3 4 5 6 18 8 10 11 12 13 14)++h5++(h36 7000001 19)),[i6,wu,mBQ],bd,λx=>Jm (xy x)⟩
def zog:HBc 131 zj9:=ctk (T:=[(125,zdt),(198,zdu),(133,xh),(130,yb),(193,yB),(41,zw)]) (h:=.s .n (.s .n (.s .n (.s .n (.s .n (.s (.s (.l ⟨[(0,.ptr 1 0),(2,.ptr 1000002 0)],z0b,k69,[i6,l9Q]⟩ [(0,.ptr 1 0),(2,.ptr 1000002 0)] z0b [i6,l9Q] 0 (λx K v=>o7 (BB.mk x.1 0 x.2.2.2.1 x.2.2.2.2.1 (p5Q x).1 (p6Q x).1 (p7Q x).1 (p8Q x).1 (p9Q x).1 x.2.1 (zls x).1 (zlt x).1 (zlu x).1 (zp4 x).1 (zp5 x).1 [] x.2.2.1) (zun x).1 (zMs x).1 (zMt x).1 (zTx x).1 (zTy x).1 (zZ7 x) K v) .n) .n) .n)))))) Tryz.func131 rfl zNc ⟨zhf,zhg,yP,z6,yC,zr,trivial⟩ λx=>by kernel_rfl
def zrv:Ct TS:=⟨[.ptr 1 0],vv,k30,.tup [],(h29 17 9 16 2 3 4 5 6 7 18 10 11 12 13 14 15),[i6,l9Q],bd,λx=>VH (xy x)⟩
def zuz:HBc 132 zrv:=ctk (T:=[(124,qI),(41,zw),(193,yB),(192,HC),(130,yb),(194,vR),(133,xh)]) (h:=.s (.s .n (.s (.l ⟨[(0,.ptr 1 0),(2,.d .b 17)],zJl,k70,[i6,l9Q,.b]⟩ [(0,.ptr 1 0)] zJl [i6,l9Q] 0 (λx K v=>ou (BB.mk x.1 0 x.2.2.2.1 x.2.2.2.2.1 (p5Q x).1 (p6Q x).1 (p7Q x).1 (p8Q x).1 [] x.2.1 (p9Q x).1 (zls x).1 (zlt x).1 (zlu x).1 (zp4 x).1 (zp5 x) x.2.2.1) K v) (.s .n (.s (.s (.s (.j ⟨[(0,.ptr 1 0)],zlv,k71,[]⟩ bd .n) .n) .n) .n))) .n)) .n) Tryz.func132 rfl zNd ⟨kO,zr,yC,JB,z6,vy,yP,trivial⟩ λx=>by kernel_rfl
def Q5:Ct TS:=⟨[.ptr 1 0],(vv++h5),k30,.tup [],((h72 17 18 7001001 7001002 7001003 7001004 7001005 7001006 19 20 21 22 23 24 25 26)++h5++(h73 7001001 27 7001002 28 7001003 29 7001004 30 7001005 31 7001006 32)),k74,bd,λx=>zjw (xy x)⟩
set_option maxHeartbeats 4000000 in
theorem zC6:HBc 36 Q5:=ctk (T:=[(42,zQ),(121,zj5),(122,Y3),(123,zdi),(124,qI),(125,zdj),(126,Y4),(94,zbb),(127,VL),(128,zj8),(125,zds),(129,qw),(130,yb),(131,zj9),(41,zw),(132,zrv),(133,xh)]) (h:=.s (.l ⟨[(0,.ptr 1 0)],z0c,[wx],k74⟩ [] z0c k74 0 (λx K v=>yi (BB.mk x 0 [] [] [] [] [] [] [] 0 [] [] [] [] [] [] bd) K v) .n) .n) Tryz.func36 rfl zW2 ⟨zK,zoa,zdg,zg9,kO,zha,zdk,zdn,Q4,zof,zhe,qx,z6,zog,zr,zuz,yP,trivial⟩ λx=>(by  kernel_rfl)
def VS:CtP TS PC:=⟨[.ptr 1 0,dI 17],vv,k40,λx=>Ho (zcu x) (rBB x)⟩
def ZN:HBp 134 VS:=ctp (T:=[(42,zQ)]) (TP:=[]) (h:=.n) Tryz.func134 rfl zMz ⟨zK,trivial⟩ trivial λx=>by kernel_rfl
def zZ:CtP TS PC:=⟨[.ptr 1 0,.d .b 17,dI 18],vv,k32,λx=>zt (zcu x) (rBB x).1 (rBB x).2⟩
def zW:HBp 41 zZ:=ctp (T:=[]) (TP:=[(134,VS)]) (h:=.n) Tryz.func41 rfl zJo trivial ⟨ZN,trivial⟩ λx=>by kernel_rfl
def zoh:CtP TS PC:=⟨[.ptr 1 0,dI 17,dI 18],vv,k33,λx=>je (zcu x) (rBB x).1 (rBB x).2⟩
def zyf:HBp 121 zoh:=ctp (T:=[(41,zw)]) (TP:=[(41,zZ)]) (h:=.n) Tryz.func121 rfl zM1 ⟨zr,trivial⟩ ⟨zW,trivial⟩ λx=>by kernel_rfl
def wm:CtP TS PC:=⟨[.ptr 1 0],(vv++h5),k30,λx=>yS (xy x)⟩
def wi:HBp 207 wm:=ctp (T:=[(190,zP),(41,zw)]) (TP:=[(41,zZ)]) (h:=.n) Tryz.func207 rfl zup ⟨zM,zr,trivial⟩ ⟨zW,trivial⟩ λx=>by kernel_rfl
def zhh:CtP TS PC:=⟨[.ptr 1 0,.om 9],(vv++h5),k30,λx=>WX (xy x)⟩
def zrw:HBp 191 zhh:=ctp (T:=[(190,zP),(41,zw),(42,zQ),(207,yv)]) (TP:=[(41,zZ),(207,wm)]) (h:=.n) Tryz.func191 rfl AJ ⟨zM,zr,zK,yk,trivial⟩ ⟨zW,wi,trivial⟩ λx=>by kernel_rfl
def zu0:CtP TS PC:=⟨[.ptr 1 0,.ci .i64 0],(vv++h5),k30,λx=>zjx (xy x)⟩
def zC7:HBp 125 zu0:=zT1 (cd:=cdO) (nb:=nbT) (T:=[(191,zdf)]) (TP:=[(191,zhh)]) (h:=.s .n (.s (.j ⟨[(0,.ptr 1 0),(1,dI 16)],((h35 1 2 7000001 3 4 5 6 7 8 9 10)++h5++(h36 7000001 17)),k37,[mBQ]⟩ bd .n) .n)) Tryz.func125 rfl JX ⟨zg7,trivial⟩ ⟨zrw,trivial⟩ λx=>by kernel_rfl
def vS:CtP TS PC:=⟨[.ptr 1 0,.d .s 17],vv,k38,λx=>yh (zcu x) (rBB x)⟩
def vT:HBp 133 vS:=ctp (T:=[(194,vR),(41,zw)]) (TP:=[(41,zZ)]) (h:=.n) Tryz.func133 rfl zuq ⟨vy,zr,trivial⟩ ⟨zW,trivial⟩ λx=>by kernel_rfl
def xG:CtP TS PC:=⟨[.ptr 1 0,dI 17,dI 18],vv,k33,λx=>zA (zcu x) (rBB x).1 (rBB x).2⟩
def xL:HBp 130 xG:=ctp (T:=[(193,yB),(41,zw),(42,zQ)]) (TP:=[(41,zZ)]) (h:=.s .n (.s .n (.s .n (.s (.j ⟨[(0,.ptr 1 0),(7,dI 17)],zlv,k39,[]⟩ bf .n) .n)))) Tryz.func130 rfl zuo ⟨yC,zr,zK,trivial⟩ ⟨zW,trivial⟩ λx=>by kernel_rfl
def JC(RK:Nat):CtP TS PC:=⟨[.ptr 1 0,dI 17],(vv++h5),k40,λx=>AI RK (zcu x) (rBB x)⟩
def j4(RK:Nat):CtP TS PC:=⟨[.ptr 1 0,dI 17],(vv++h5),k40,λx=>xu RK (zcu x) (rBB x)⟩
def kP:∀RK,(JC RK).OK PGq (pvT PT PC) 150/\(j4 RK).OK PGq (pvT PT PC) 40
 |0=>⟨(λx r h=>nomatch (show(bh:Option _)=bc r from h)),(λx r h=>nomatch (show(bh:Option _)=bc r from h))⟩
 |RK+1=>⟨(ctp (c:=JC (RK+1)) (T:=[(194,vR),(40,wK KK),(133,xh),(193,yB),(130,yb),(207,yv)]) (TP:=[(40,j4 RK),(133,vS),(130,xG),(207,wm)]) (h:=.s .n (.s (.s (.s (.j ⟨[(0,.ptr 1 0),(1,dI 16),(4,.ptr 1000004 0),(10,.d .b 21)],zZ8,k41,[i6,.b]⟩ bd .n) (.s .n (.s (.j ⟨[(0,.ptr 1 0),(1,dI 16),(4,.ptr 1000004 0),(31,.d .b 21)],zZ8,k41,[i6,.b]⟩ bd .n) (.s .n (.s (.j ⟨[(0,.ptr 1 0),(4,.ptr 1000004 0),(42,.d .b 20)],zV4,k42,[i6,.b]⟩ bd .n) .n))))) .n) .n)) Tryz.func150 rfl Vn ⟨vy,(qv KK),yP,yC,z6,yk,trivial⟩ ⟨⟨Vb,(kP RK).2⟩,vT,xL,wi,trivial⟩ λx=>by kernel_rfl).2,(ctp (c:=j4 (RK+1)) (T:=[(150,ue KK),(151,qu),(124,qI),(40,wK KK)]) (TP:=[(150,JC RK),(40,j4 RK)]) (h:=.s .n (.s .n (.s (.lr ⟨[(0,.ptr 1 0),(1,dI 16),(4,.ptr 1000004 0),(5,.ptr 1000005 0),(6,dI 21)],zV5,k41,k12⟩ [] [] [] 999999999 (λx K v=>kL (xu RK) (BB.mk x.1 0 x.2.2.2.1 x.2.2.2.2.1 (p5Q x).1 (p6Q x).1 (p7Q x).1 (p8Q x).1 (p9Q x).1 x.2.1 (zls x).1 (zlt x).1 (zlu x).1 (zp4 x).1 (zp5 x).1 (zun x).1 x.2.2.1) (zMs x).1 (zMt x).1 (zTx x).1 (zTy x) K v) (.s (.s .n (.s (.s .n (.s (.l ⟨[(0,.ptr 1 0),(1,dI 17),(4,.ptr 1000004 0),(5,.ptr 1000005 0),(6,dI 18),(7,.ptr 1000007 0),(16,.d zp3 19),(17,dI 20),(18,dI 29)],(zlv++h5++(h44 21 22 23 24 25 26 27 28 30 31 32)),k45,k3⟩ [(0,.ptr 1 0),(1,dI 17),(4,.ptr 1000004 0),(5,.ptr 1000005 0),(6,dI 18),(7,.ptr 1000007 0)] (zlv++h5++(h44 21 22 23 24 25 26 27 28 29 30 31)) [.s,i6,i6] 2 (λx K v=>kK (BB.mk x.1 0 x.2.2.2.2.1 (p5Q x).1 (p6Q x).1 (p7Q x).1 (p8Q x).1 (p9Q x).1 (zls x).1 x.2.2.1 (zlt x).1 (zlu x).1 (zp4 x).1 (zp5 x).1 (zun x).1 (zMs x).1 x.2.2.2.1) x.2.1 (zMt x).1 (zTx x).1 (zTy x).1 (zZ7 x).1 (p21Q x).1 (p22Q x).1 (p23Q x).1 (p24Q x).1 (p25Q x).1 (p26Q x).1 (p27Q x).1 (p28Q x) K v) (.s .n (.s .n (.s (.j ⟨[(0,.ptr 1 0),(1,dI 17),(4,.ptr 1000004 0),(5,.ptr 1000005 0),(6,dI 18),(7,.ptr 1000007 0),(16,.d zp3 19),(17,dI 20),(18,dI 21)],(zlv++h5++(h44 22 23 24 25 26 27 28 29 30 31 32)),k46,[.s,i6,i6]⟩ bd .n) .n)))) .n)) (.s (.s (.j ⟨[(0,.ptr 1 0),(1,dI 17),(4,.ptr 1000004 0),(5,.ptr 1000005 0),(7,.ptr 1000007 0),(51,.d .b 29)],(zlv++h5++(h44 18 19 20 21 22 23 24 25 26 27 28)),k47,[.b]⟩ bd .n) .n) .n))) .n)) .n))) Tryz.func40 rfl Vb ⟨(zj6 KK),uc,kO,(qv KK),trivial⟩ ⟨⟨Vn,(kP RK).1⟩,⟨Vb,(kP RK).2⟩,trivial⟩ λx=>by kernel_rfl).2⟩
def ZO(RK:Nat):ze PGq 40/\(j4 RK).OK PGq (pvT PT PC) 40:=⟨Vb,(kP RK).2⟩
def zbe:CtP TS PC:=⟨[.ptr 1 0,.d .b 17,dI 18],vv,k32,λx=>Jn (zcu x) (rBB x).1 (rBB x).2⟩
def zdv:HBp 127 zbe:=ctp (T:=[(124,qI),(41,zw)]) (TP:=[(41,zZ)]) (h:=.n) Tryz.func127 rfl zM2 ⟨kO,zr,trivial⟩ ⟨zW,trivial⟩ λx=>by kernel_rfl
def zdw:CtP TS PC:=⟨[.ptr 1 0],(vv++h5),k30,λx=>QV (xy x)⟩
def zoi:HBp 122 zdw:=ctp (T:=[(125,zrr),(133,xh),(40,wK KK),(43,qH KK),(127,VL)]) (TP:=[(125,zu0),(133,vS),(40,j4 KK),(127,zbe)]) (h:=.n) Tryz.func122 rfl zM3 ⟨zuw,yP,(qv KK),(Hy KK),Q4,trivial⟩ ⟨zC7,vT,(ZO KK),zdv,trivial⟩ λx=>by kernel_rfl
def ZP:CtP TS PC:=⟨[.ptr 1 0,.om 10],(vv++h5),k30,λx=>Jo (xy x)⟩
def zka:HBp 191 ZP:=ctp (T:=[(190,zP),(41,zw),(42,zQ),(207,yv)]) (TP:=[(41,zZ),(207,wm)]) (h:=.n) Tryz.func191 rfl AJ ⟨zM,zr,zK,yk,trivial⟩ ⟨zW,wi,trivial⟩ λx=>by kernel_rfl
def zhi:CtP TS PC:=⟨[.ptr 1 0,.ci .i64 1],(vv++h5),k30,λx=>WY (xy x)⟩
def zrx:HBp 125 zhi:=zT1 (cd:=cdO) (nb:=nbT) (T:=[(191,VM)]) (TP:=[(191,ZP)]) (h:=.s .n (.s (.j ⟨[(0,.ptr 1 0),(1,dI 16)],zV6,k37,[mBQ]⟩ bd .n) .n)) Tryz.func125 rfl JX ⟨ZG,trivial⟩ ⟨zka,trivial⟩ λx=>by kernel_rfl
def ZQ:CtP TS PC:=⟨[.ptr 1 0,.mp 15],((h49 1 17)++h5),k50,λx=>yq (zcu x) (rBB x)⟩
def zkb:HBp 191 ZQ:=ctp (T:=[(190,zP),(41,zw),(42,zQ),(207,yv)]) (TP:=[(41,zZ),(207,wm)]) (h:=.n) Tryz.func191 rfl AJ ⟨zM,zr,zK,yk,trivial⟩ ⟨zW,wi,trivial⟩ λx=>by kernel_rfl
def VT:CtP TS PC:=⟨[.ptr 1 0,dI 17],vv,k40,λx=>ql (zcu x) (rBB x)⟩
def ZR:HBp 192 VT:=ctp (T:=[(194,vR),(130,yb)]) (TP:=[(130,xG)]) (h:=.n) Tryz.func192 rfl zM4 ⟨vy,z6,trivial⟩ ⟨xL,trivial⟩ λx=>by kernel_rfl
def zhj:CtP TS PC:=⟨[.ptr 1 0],(vv++h5),k30,λx=>WZ (xy x)⟩
def zry:HBp 123 zhj:=ctp (T:=[(125,zdh),(190,zP),(41,zw),(191,VN),(192,HC),(133,xh)]) (TP:=[(125,zhi),(41,zZ),(191,ZQ),(192,VT),(133,vS)]) (h:=.s .n (.s .n (.s (.s (.lr ⟨[(0,.ptr 1 0),(2,.ptr 1000002 0),(3,.mp 1000007)],(zJm++h5++h51),k52,[i6,.m .s .b,l2Q]⟩ [(0,.ptr 1 0),(2,.ptr 1000002 0)] (zJm++h5++h53) [i6,l2Q] 0 (λx K v=>qZ (BB.mk x.1 0 x.2.2.2.1 x.2.2.2.2.1 (p5Q x).1 (p6Q x).1 (p7Q x).1 (p8Q x).1 (p9Q x).1 x.2.1 (zls x).1 [] (zlt x).1 (zlu x).1 (zp4 x).1 (zp5 x).1 x.2.2.1) (zun x).1 (zMs x).1 (zMt x) K v) .n) .n) .n))) Tryz.func123 rfl zM5 ⟨zg8,zM,zr,ZH,JB,yP,trivial⟩ ⟨zrx,zW,zkb,ZR,vT,trivial⟩ λx=>by kernel_rfl
def ZS:CtP TS PC:=⟨[.ptr 1 0,.om 11],(vv++h5),k30,λx=>Jp (xy x)⟩
def zkc:HBp 191 ZS:=ctp (T:=[(190,zP),(41,zw),(42,zQ),(207,yv)]) (TP:=[(41,zZ),(207,wm)]) (h:=.n) Tryz.func191 rfl AJ ⟨zM,zr,zK,yk,trivial⟩ ⟨zW,wi,trivial⟩ λx=>by kernel_rfl
def zhk:CtP TS PC:=⟨[.ptr 1 0,.ci .i64 2],(vv++h5),k30,λx=>K6 (xy x)⟩
def zrz:HBp 125 zhk:=zT1 (cd:=cdO) (nb:=nbT) (T:=[(191,VO)]) (TP:=[(191,ZS)]) (h:=.s .n (.s (.j ⟨[(0,.ptr 1 0),(1,dI 16)],zV7,k37,[mBQ]⟩ bd .n) .n)) Tryz.func125 rfl JX ⟨ZI,trivial⟩ ⟨zkc,trivial⟩ λx=>by kernel_rfl
def zdx:CtP TS PC:=⟨[.ptr 1 0],vv,k30,λx=>qm (xy x)⟩
def zoj:HBp 126 zdx:=ctp (T:=[(130,yb),(193,yB)]) (TP:=[(130,xG)]) (h:=.s .n (.s .n (.s (.lr ⟨[(0,.ptr 1 0),(3,.row 2 7000001)],(zMu++[(7000001,.row 156 (.st 4) 17 bd)]),k55,[i6,l4Q]⟩ [] [] [] 999999999 (λx K v=>kM (BB.mk x.1 0 x.2.2.2.1 x.2.2.2.2.1 (p5Q x).1 (p6Q x).1 (p7Q x).1 (p8Q x).1 (p9Q x).1 x.2.1 (zls x).1 (zlt x).1 (zlu x).1 (zp4 x).1 (zp5 x).1 (zun x) x.2.2.1) K v) .n) .n))) Tryz.func126 rfl zM6 ⟨z6,yC,trivial⟩ ⟨xL,trivial⟩ λx=>by kernel_rfl
def ZT:CtP TS PC:=⟨[.ptr 1 0,.om 12],(vv++h5),k30,λx=>Jq (xy x)⟩
def zkd:HBp 191 ZT:=ctp (T:=[(190,zP),(41,zw),(42,zQ),(207,yv)]) (TP:=[(41,zZ),(207,wm)]) (h:=.n) Tryz.func191 rfl AJ ⟨zM,zr,zK,yk,trivial⟩ ⟨zW,wi,trivial⟩ λx=>by kernel_rfl
def zhl:CtP TS PC:=⟨[.ptr 1 0,.ci .i64 3],(vv++h5),k30,λx=>W1 (xy x)⟩
def zr0:HBp 125 zhl:=zT1 (cd:=cdO) (nb:=nbT) (T:=[(191,VP)]) (TP:=[(191,ZT)]) (h:=.s .n (.s (.j ⟨[(0,.ptr 1 0),(1,dI 16)],zV8,k37,[mBQ]⟩ bd .n) .n)) Tryz.func125 rfl JX ⟨ZJ,trivial⟩ ⟨zkd,trivial⟩ λx=>by kernel_rfl
def zok:CtP TS PC:=⟨[.ptr 1 0],(vv++h5),k30,λx=>Jr (xy x)⟩
def zyg:HBp 195 zok:=ctp (T:=[(207,yv),(190,zP)]) (TP:=[(207,wm)]) (h:=.s .n (.s .n (.s (.s (.lr ⟨[(0,.ptr 1 0),(3,.row 1 1000008)],(zMu++h5++(h57 1000008 17)),k55,[i6,lsQ]⟩ [(3,.row 1 1000008)] (zMu++h5++(h57 1000008 17)) [i6,lsQ] 0 (λx K v=>o8 (BB.mk x.1 0 x.2.2.2.1 x.2.2.2.2.1 (p5Q x).1 (p6Q x).1 (p7Q x).1 (p8Q x).1 (p9Q x).1 x.2.1 (zls x).1 (zlt x).1 (zlu x).1 (zp4 x).1 (zp5 x).1 (zun x) x.2.2.1) K v) .n) .n) .n))) Tryz.func195 rfl zM7 ⟨yk,zM,trivial⟩ ⟨wi,trivial⟩ λx=>by kernel_rfl
def JD:CtP TS PC:=⟨[.ptr 1 0,.d .s 17],(vv++h5),k38,λx=>jf (zcu x) (rBB x)⟩
def Qb:HBp 129 JD:=ctp (T:=[(42,zQ),(197,zdr),(41,zw)]) (TP:=[(41,zZ)]) (h:=.s .n (.s .n (.s (.j ⟨[(0,.ptr 1 0),(5,dI 17)],(zlv++h5),k39,[]⟩ bf .n) .n))) Tryz.func129 rfl zM8 ⟨zK,zbd,zr,trivial⟩ ⟨zW,trivial⟩ λx=>by kernel_rfl
def zu1:CtP TS PC:=⟨[.ptr 1 0],(vv++h5),k30,λx=>zjy (xy x)⟩
def zC8:HBp 196 zu1:=ctp (T:=[(42,zQ),(197,zdr),(41,zw),(129,qw)]) (TP:=[(41,zZ),(129,JD)]) (h:=.s .n (.s .n (.s (.lr ⟨[(0,.ptr 1 0),(3,dI 17)],(zMu++h5),k55,[i6,i6]⟩ [] [] [] 999999999 (λx K v=>Hp (BB.mk x.1 0 x.2.2.2.1 x.2.2.2.2.1 (p5Q x).1 (p6Q x).1 (p7Q x).1 (p8Q x).1 (p9Q x).1 x.2.1 (zls x).1 (zlt x).1 (zlu x).1 (zp4 x).1 (zp5 x).1 (zun x) x.2.2.1) K v) (.s (.s .n (.s (.s (.j ⟨[(0,.ptr 1 0),(3,dI 17),(4,dI 18),(24,.d .b 19)],(zlv++h5),k58,[.b]⟩ bd .n) .n) (.s (.j ⟨[(0,.ptr 1 0),(3,dI 17)],(zlv++h5),k39,[]⟩ bf .n) .n))) .n)) .n))) Tryz.func196 rfl zM9 ⟨zK,zbd,zr,qx,trivial⟩ ⟨zW,Qb,trivial⟩ λx=>by kernel_rfl
def zol:CtP TS PC:=⟨[.ptr 1 0],(vv++h5),k30,λx=>W2 (xy x)⟩
def zyh:HBp 128 zol:=ctp (T:=[(125,zdo),(194,vR),(195,zj7),(130,yb),(133,xh),(196,zru),(129,qw),(40,wK KK),(43,qH KK),(127,VL)]) (TP:=[(125,zhl),(195,zok),(130,xG),(133,vS),(196,zu1),(129,JD),(40,j4 KK),(127,zbe)]) (h:=.s .n (.s (.j ⟨[(0,.ptr 1 0),(2,.ptr 1000002 0)],(zZ9++h5++(h59 23 17 18 18 18 19 18 18 18 20 20 21 18 18 18 18 18 18 18)),k60,[i6,lsQ]⟩ bf .n) (.s (.j ⟨[(0,.ptr 1 0),(2,.ptr 1000002 0)],(zZ9++h5++(h59 17 23 18 18 18 19 18 18 18 20 20 21 18 18 18 18 18 18 18)),k60,[i6,lsQ]⟩ bf .n) (.s (.j ⟨[(0,.ptr 1 0),(2,.ptr 1000002 0)],(z0a++h5++(h59 17 18 24 19 19 20 19 19 19 21 21 22 19 19 19 19 19 19 19)),k61,[i6,i6]⟩ bf .n) (.s (.j ⟨[(0,.ptr 1 0),(2,.ptr 1000002 0)],zV9,k62,[i6,i6]⟩ bf .n) (.s (.j ⟨[(0,.ptr 1 0),(2,.ptr 1000002 0)],zWa,k63,[i6,i6]⟩ bf .n) (.s .n (.s .n (.s (.j ⟨[(0,.ptr 1 0),(2,.ptr 1000002 0)],(z0a++h5++(h59 17 18 19 20 21 22 24 25 26 27 28 29 30 31 32 33 34 35 36)),k64,k65⟩ bf .n) .n))))))))) Tryz.func128 rfl zNa ⟨zhd,vy,zoe,z6,yP,zuy,qx,(qv KK),(Hy KK),Q4,trivial⟩ ⟨zr0,zyg,xL,vT,zC8,Qb,(ZO KK),zdv,trivial⟩ λx=>by kernel_rfl
def ZU:CtP TS PC:=⟨[.ptr 1 0,.om 13],(vv++h5),k30,λx=>Js (xy x)⟩
def zke:HBp 191 ZU:=ctp (T:=[(190,zP),(41,zw),(42,zQ),(207,yv)]) (TP:=[(41,zZ),(207,wm)]) (h:=.n) Tryz.func191 rfl AJ ⟨zM,zr,zK,yk,trivial⟩ ⟨zW,wi,trivial⟩ λx=>by kernel_rfl
def zhm:CtP TS PC:=⟨[.ptr 1 0,.ci .i64 4],(vv++h5),k30,λx=>K7 (xy x)⟩
def zr1:HBp 125 zhm:=zT1 (cd:=cdO) (nb:=nbT) (T:=[(191,VQ)]) (TP:=[(191,ZU)]) (h:=.s .n (.s (.j ⟨[(0,.ptr 1 0),(1,dI 16)],zWb,k37,[mBQ]⟩ bd .n) .n)) Tryz.func125 rfl JX ⟨ZK,trivial⟩ ⟨zke,trivial⟩ λx=>by kernel_rfl
def ZV:CtP TS PC:=⟨[.ptr 1 0,.om 14],(vv++h5),k30,λx=>Jt (xy x)⟩
def zkf:HBp 191 ZV:=ctp (T:=[(190,zP),(41,zw),(42,zQ),(207,yv)]) (TP:=[(41,zZ),(207,wm)]) (h:=.n) Tryz.func191 rfl AJ ⟨zM,zr,zK,yk,trivial⟩ ⟨zW,wi,trivial⟩ λx=>by kernel_rfl
def zhn:CtP TS PC:=⟨[.ptr 1 0,.ci .i64 5],(vv++h5),k30,λx=>W3 (xy x)⟩
def zr2:HBp 125 zhn:=zT1 (cd:=cdO) (nb:=nbT) (T:=[(191,VR)]) (TP:=[(191,ZV)]) (h:=.s .n (.s (.j ⟨[(0,.ptr 1 0),(1,dI 16)],zWc,k37,[mBQ]⟩ bd .n) .n)) Tryz.func125 rfl JX ⟨ZL,trivial⟩ ⟨zkf,trivial⟩ λx=>by kernel_rfl
def zho:CtP TS PC:=⟨[.ptr 1 0],vv,k30,λx=>Hq (xy x)⟩
def zr3:HBp 198 zho:=ctp (T:=[(130,yb)]) (TP:=[(130,xG)]) (h:=.n) Tryz.func198 rfl zNb ⟨z6,trivial⟩ ⟨xL,trivial⟩ λx=>by kernel_rfl
def zom:CtP TS PC:=⟨[.ptr 1 0],(vv++h5),k30,λx=>W4 (xy x)⟩
def zyi:HBp 131 zom:=ctp (T:=[(125,zdt),(198,zdu),(133,xh),(130,yb),(193,yB),(41,zw)]) (TP:=[(125,zhn),(198,zho),(133,vS),(130,xG),(41,zZ)]) (h:=.s .n (.s .n (.s .n (.s .n (.s .n (.s (.s (.lr ⟨[(0,.ptr 1 0),(2,.ptr 1000002 0)],z0b,k69,[i6,l9Q]⟩ [(0,.ptr 1 0),(2,.ptr 1000002 0)] z0b [i6,l9Q] 0 (λx K v=>Aa (BB.mk x.1 0 x.2.2.2.1 x.2.2.2.2.1 (p5Q x).1 (p6Q x).1 (p7Q x).1 (p8Q x).1 (p9Q x).1 x.2.1 (zls x).1 (zlt x).1 (zlu x).1 (zp4 x).1 (zp5 x).1 [] x.2.2.1) (zun x).1 (zMs x).1 (zMt x).1 (zTx x).1 (zTy x).1 (zZ7 x) K v) .n) .n) .n)))))) Tryz.func131 rfl zNc ⟨zhf,zhg,yP,z6,yC,zr,trivial⟩ ⟨zr2,zr3,vT,xL,zW,trivial⟩ λx=>by kernel_rfl
def zu2:CtP TS PC:=⟨[.ptr 1 0],vv,k30,λx=>zc1 (xy x)⟩
def zC9:HBp 132 zu2:=ctp (T:=[(124,qI),(41,zw),(193,yB),(192,HC),(130,yb),(194,vR),(133,xh)]) (TP:=[(41,zZ),(192,VT),(130,xG),(133,vS)]) (h:=.s (.s .n (.s (.lr ⟨[(0,.ptr 1 0),(2,.d .b 17)],zJl,k70,[i6,l9Q,.b]⟩ [(0,.ptr 1 0)] zJl [i6,l9Q] 0 (λx K v=>ow (BB.mk x.1 0 x.2.2.2.1 x.2.2.2.2.1 (p5Q x).1 (p6Q x).1 (p7Q x).1 (p8Q x).1 [] x.2.1 (p9Q x).1 (zls x).1 (zlt x).1 (zlu x).1 (zp4 x).1 (zp5 x) x.2.2.1) K v) (.s .n (.s (.s (.s (.j ⟨[(0,.ptr 1 0)],zlv,k71,[]⟩ bf .n) .n) .n) .n))) .n)) .n) Tryz.func132 rfl zNd ⟨kO,zr,yC,JB,z6,vy,yP,trivial⟩ ⟨zW,ZR,xL,vT,trivial⟩ λx=>by kernel_rfl
def zdy:CtP TS PC:=⟨[.ptr 1 0],(vv++h5),k30,λx=>zjz (xy x)⟩
set_option maxHeartbeats 4000000 in
theorem zyj:HBp 36 zdy:=ctp (T:=[(42,zQ),(121,zj5),(122,Y3),(123,zdi),(124,qI),(125,zdj),(126,Y4),(94,zbb),(127,VL),(128,zj8),(125,zds),(129,qw),(130,yb),(131,zj9),(41,zw),(132,zrv),(133,xh)]) (TP:=[(121,zoh),(122,zdw),(123,zhj),(125,zhk),(126,zdx),(127,zbe),(128,zol),(125,zhm),(129,JD),(130,xG),(131,zom),(41,zZ),(132,zu2),(133,vS),(134,VS)]) (h:=.s (.lr ⟨[(0,.ptr 1 0)],z0c,[wx],k74⟩ [] z0c k74 0 (λx K v=>yj (BB.mk x 0 [] [] [] [] [] [] [] 0 [] [] [] [] [] [] bd) K v) .n) .n) Tryz.func36 rfl zW2 ⟨zK,zoa,zdg,zg9,kO,zha,zdk,zdn,Q4,zof,zhe,qx,z6,zog,zr,zuz,yP,trivial⟩ ⟨zyf,zoi,zry,zrz,zoj,zdv,zyh,zr1,Qb,xL,zyi,zW,zC9,vT,ZN,trivial⟩ λx=>(by  kernel_rfl)
def ZW:Ct TS:=⟨[.ptr 1 0,.fn 36 [.ptr 1 0] []],(vv++h5),k30,.tup [dI 17,dI 18],((h72 19 20 7001001 7001002 7001003 7001004 7001005 7001006 21 22 23 24 25 26 27 28)++h5++(h73 7001001 29 7001002 30 7001003 31 7001004 32 7001005 33 7001006 34)),[i6,i6,i6,i6,.b,l1Q,l3Q,l5Q,l7Q,l8Q,wu,l9Q,mBQ,mBQ,mBQ,mBQ,mBQ,mBQ],bf,λx=>K8 (xy x)⟩
def zkg:ZW.OK PGq 35:=λx r h=>by
 obtain⟨q,h1,h2⟩:=bind_some h;cases h2;exact kmp (by kernel_rfl) (znp (F:=hV (oa Q5.hin (yT (S:=TS) Q5.ci x))) (F':=hV (oa Q5.hout (yT (S:=TS) Q5.ci x++yT (S:=TS) Q5.co q))) (a:=.ptr 1 0 0) (pv:=.ptr 1 0 0) (kmp (by kernel_rfl) (zC6.2 x q h1)))
def W8:Ct TS:=⟨[.ptr 1 0,.fn 36 [.ptr 1 0] []],(vv++h5),k30,.tup [dI 17,dI 18],([(1,.rw 0),(2,.rw 0),(3,.rw 0),(4,.rw 0),(5,.rw 0),(6,.rw 0),(7,.rw 0),(8,.rw 0),(9,.rw 0),(10,.rw 0),(11,.rw 0),(12,.rw 0),(13,.rw 0),(14,.rw 0)]++h5),[i6,i6],bf,λx=>Ju (xy x)⟩
def zft:W8.OK PGq 35:=λx r h=>kmp (by kernel_rfl) (zju (F:=hV (oa zdy.hin (yT (S:=TS) zdy.ci x))) (a:=.ptr 1 0 0) (pv:=.ptr 1 0 0) (x:=r.1) (y:=r.2) (kmp (by kernel_rfl) (zyj.2 x r h)))
def zr4:Ct TS:=⟨[.d .s 0],h5,[.s],.tup [.ag [.row 6 7000002,.row 3 7000003,.row 3 7000004,.row 20 7000005,.row 4 7000006,.row 6 7000007,.d l9Q 3,dI 4],dI 1,dI 2],(h75 7000001 7000002 7000003 7000004 7000005 7000006 7000007 3 4 5 6 7 8 9 10),k76,bd,λx=>um x⟩
def zu3:HBc 10 zr4:=ctg (cd:=cdT) (nb:=zad) (rc:=[(2,7000001,0)]) (T:=[(21,zj1),(35,ZW),(35,W8)]) (h:=.n) Tryz.func10 rfl hbv10 ⟨zj2,⟨zJp,zkg⟩,⟨zJp,zft⟩,trivial⟩ λx=>by kernel_rfl
def zon:Ct TS:=⟨[.d (.st 1) 0],[],[.st 1],.d .s 1,[],[.s],bd,λx=>znq x⟩
def zyk:HBc 80 zon:=ctk (T:=[]) (h:=.n) Tryz.func80 rfl hbv80 trivial λx=>by kernel_rfl
def JE:Ct TS:=⟨[.d lsQ 0,.d .b 1],h5,[lsQ,.b],.d .b 2,h5,[.b],bd,u2Q qn⟩
def AL:HBc 179 JE:=ctk (T:=[(16,zg5)]) (h:=.s .n (.s .n (.s (.s .n (.s (.lr ⟨[(1,.d .b 0),(5,.mp 1000008),(9,.d lsQ 1),(10,dI 2),(11,dI 3)],[(900000000,.rw 1),(900000001,.rw 2),(900000002,.rw 3),(900000003,.rw 4),(1000008,.map .s .b 4)],[.b,lsQ,i6],[i6,.m .s .b]⟩ [] h5 [] 0 (u3Q oy) (.s .n (.s .n (.s (.s (.s .n (.s (.s (.j ⟨[(1,.d .b 0),(5,.mp 1000008),(7,.d .s 1),(9,.d lsQ 2),(10,dI 3),(11,dI 4),(25,.d .b 6)],[(900000000,.rw 1),(900000001,.rw 2),(900000002,.rw 3),(900000003,.rw 4),(1000008,.map .s .b 5)],[.b,.s,lsQ,i6,i6,.m .s .b],[.b]⟩ bd .n) .n) .n)) .n) .n)))) .n)) .n))) Tryz.func179 rfl zW3 ⟨zc7,trivial⟩ λx=>by kernel_rfl
def zu4:Ct TS:=⟨[.d l1Q 0,dI 1,.fn 80 [] []],h5,[l1Q,i6],.d .b 2,h5,[.b],bd,u2Q za2⟩
def zDa:HBc 79 zu4:=ctk (T:=[(80,zon),(179,JE)]) (h:=.s .n (.s .n (.s (.s .n (.s (.l ⟨[(0,.d l1Q 0),(1,dI 1),(2,.fn 80 [] []),(7,.row 1 7000001),(10,.d l1Q 0),(11,dI 2),(12,dI 3)],(h77 4),[l1Q,i6,i6],[i6,lsQ]⟩ [(0,.d l1Q 0),(1,dI 1),(7,.row 1 7000001)] (h77 3) [lsQ] 0 (u3Q Jv) .n) .n)) .n))) Tryz.func79 rfl hbv79 ⟨zyk,AL,trivial⟩ λx=>by kernel_rfl
def zoo:Ct TS:=⟨[.d (.st 3) 0],[],[.st 3],.d .s 1,[],[.s],bd,λx=>znr x⟩
def zyl:HBc 82 zoo:=ctk (T:=[]) (h:=.n) Tryz.func82 rfl hbv82 trivial λx=>by kernel_rfl
def zhp:Ct TS:=⟨[.d l3Q 0,dI 1,.fn 82 [] []],h5,[l3Q,i6],.d .b 2,h5,[.b],bd,u2Q QW⟩
def zr5:HBc 81 zhp:=ctk (T:=[(82,zoo),(179,JE)]) (h:=.s .n (.s .n (.s (.s .n (.s (.l ⟨[(0,.d l3Q 0),(1,dI 1),(2,.fn 82 [] []),(7,.row 1 7000001),(10,.d l3Q 0),(11,dI 2),(12,dI 3)],(h77 4),[l3Q,i6,i6],[i6,lsQ]⟩ [(0,.d l3Q 0),(1,dI 1),(7,.row 1 7000001)] (h77 3) [lsQ] 0 (u3Q uO) .n) .n)) .n))) Tryz.func81 rfl hbv81 ⟨zyl,AL,trivial⟩ λx=>by kernel_rfl
def zop:Ct TS:=⟨[.d (.st 5) 0],[],[.st 5],.d .s 1,[],[.s],bd,λx=>zns x⟩
def zym:HBc 84 zop:=ctk (T:=[]) (h:=.n) Tryz.func84 rfl hbv84 trivial λx=>by kernel_rfl
def zhq:Ct TS:=⟨[.d l5Q 0,dI 1,.fn 84 [] []],h5,[l5Q,i6],.d .b 2,h5,[.b],bd,u2Q QX⟩
def zr6:HBc 83 zhq:=ctk (T:=[(84,zop),(179,JE)]) (h:=.s .n (.s .n (.s (.s .n (.s (.l ⟨[(0,.d l5Q 0),(1,dI 1),(2,.fn 84 [] []),(7,.row 1 7000001),(10,.d l5Q 0),(11,dI 2),(12,dI 3)],(h77 4),[l5Q,i6,i6],[i6,lsQ]⟩ [(0,.d l5Q 0),(1,dI 1),(7,.row 1 7000001)] (h77 3) [lsQ] 0 (u3Q uP) .n) .n)) .n))) Tryz.func83 rfl hbv83 ⟨zym,AL,trivial⟩ λx=>by kernel_rfl
def zoq:Ct TS:=⟨[.d (.st 7) 0],[],[.st 7],.d .s 1,[],[.s],bd,λx=>znt x⟩
def zyn:HBc 86 zoq:=ctk (T:=[]) (h:=.n) Tryz.func86 rfl hbv86 trivial λx=>by kernel_rfl
def zhr:Ct TS:=⟨[.d l7Q 0,dI 1,.fn 86 [] []],h5,[l7Q,i6],.d .b 2,h5,[.b],bd,u2Q QY⟩
def zr7:HBc 85 zhr:=ctk (T:=[(86,zoq),(179,JE)]) (h:=.s .n (.s .n (.s (.s .n (.s (.l ⟨[(0,.d l7Q 0),(1,dI 1),(2,.fn 86 [] []),(7,.row 1 7000001),(10,.d l7Q 0),(11,dI 2),(12,dI 3)],(h77 4),[l7Q,i6,i6],[i6,lsQ]⟩ [(0,.d l7Q 0),(1,dI 1),(7,.row 1 7000001)] (h77 3) [lsQ] 0 (u3Q uQ) .n) .n)) .n))) Tryz.func85 rfl hbv85 ⟨zyn,AL,trivial⟩ λx=>by kernel_rfl
def zor:Ct TS:=⟨[.d (.st 8) 0],[],[.st 8],.d .s 1,[],[.s],bd,λx=>znu x⟩
def zyo:HBc 88 zor:=ctk (T:=[]) (h:=.n) Tryz.func88 rfl hbv88 trivial λx=>by kernel_rfl
def zhs:Ct TS:=⟨[.d l8Q 0,dI 1,.fn 88 [] []],h5,[l8Q,i6],.d .b 2,h5,[.b],bd,u2Q QZ⟩
def zr8:HBc 87 zhs:=ctk (T:=[(88,zor),(179,JE)]) (h:=.s .n (.s .n (.s (.s .n (.s (.l ⟨[(0,.d l8Q 0),(1,dI 1),(2,.fn 88 [] []),(7,.row 1 7000001),(10,.d l8Q 0),(11,dI 2),(12,dI 3)],(h77 4),[l8Q,i6,i6],[i6,lsQ]⟩ [(0,.d l8Q 0),(1,dI 1),(7,.row 1 7000001)] (h77 3) [lsQ] 0 (u3Q uR) .n) .n)) .n))) Tryz.func87 rfl hbv87 ⟨zyo,AL,trivial⟩ λx=>by kernel_rfl
def zos:Ct TS:=⟨[.d (.st 10) 0],[],[.st 10],.d .s 1,[],[.s],bd,λx=>znv x⟩
def zyp:HBc 90 zos:=ctk (T:=[]) (h:=.n) Tryz.func90 rfl hbv90 trivial λx=>by kernel_rfl
def zht:Ct TS:=⟨[.d wu 0,dI 1,.fn 90 [] []],h5,[wu,i6],.d .b 2,h5,[.b],bd,u2Q Q0⟩
def zr9:HBc 89 zht:=ctk (T:=[(90,zos),(179,JE)]) (h:=.s .n (.s .n (.s (.s .n (.s (.l ⟨[(0,.d wu 0),(1,dI 1),(2,.fn 90 [] []),(7,.row 1 7000001),(10,.d wu 0),(11,dI 2),(12,dI 3)],(h77 4),[wu,i6,i6],[i6,lsQ]⟩ [(0,.d wu 0),(1,dI 1),(7,.row 1 7000001)] (h77 3) [lsQ] 0 (u3Q uS) .n) .n)) .n))) Tryz.func89 rfl hbv89 ⟨zyp,AL,trivial⟩ λx=>by kernel_rfl
def zot:Ct TS:=⟨[.d (.st 2) 0],[],[.st 2],.d .s 1,[],[.s],bd,λx=>znw x⟩
def zyq:HBc 92 zot:=ctk (T:=[]) (h:=.n) Tryz.func92 rfl hbv92 trivial λx=>by kernel_rfl
def zhu:Ct TS:=⟨[.d l2Q 0,dI 1,.fn 92 [] []],h5,[l2Q,i6],.d .b 2,h5,[.b],bd,u2Q Q1⟩
def zsa:HBc 91 zhu:=ctk (T:=[(92,zot),(179,JE)]) (h:=.s .n (.s .n (.s (.s .n (.s (.l ⟨[(0,.d l2Q 0),(1,dI 1),(2,.fn 92 [] []),(7,.row 1 7000001),(10,.d l2Q 0),(11,dI 2),(12,dI 3)],(h77 4),[l2Q,i6,i6],[i6,lsQ]⟩ [(0,.d l2Q 0),(1,dI 1),(7,.row 1 7000001)] (h77 3) [lsQ] 0 (u3Q uT) .n) .n)) .n))) Tryz.func91 rfl hbv91 ⟨zyq,AL,trivial⟩ λx=>by kernel_rfl
def zkh:Ct TS:=⟨[dI 0,dI 1,.d (.l i6) 2],[],[i6,i6,.l i6],.d .b 3,[],[.b],bd,u3Q yd⟩
def zou:HBc 93 zkh:=ctk (T:=[]) (h:=.s .n (.s (.s .n (.s (.lr ⟨[(0,dI 0),(1,dI 1),(9,.d (.l i6) 2),(10,dI 3),(11,dI 4)],[],[i6,i6,.l i6,i6],[i6]⟩ [] [] [] 0 (u4Q Ab) (.s .n (.s .n (.s (.s (.s .n (.s (.j ⟨[(0,dI 0),(1,dI 1),(9,.d (.l i6) 2),(10,dI 3),(11,dI 4),(22,.d .b 5)],[],[i6,i6,.l i6,i6,i6],[.b]⟩ bd .n) .n)) .n) .n)))) .n)) .n)) Tryz.func93 rfl hbv93 trivial λx=>by kernel_rfl
def Vp:Ct TS:=⟨[.d lsQ 0,.d lsQ 1],[],[lsQ,lsQ],.d .b 2,[],[.b],bd,u2Q jG⟩
def zdz:HBc 188 Vp:=ctk (T:=[]) (h:=.s .n (.s .n (.s (.s .n (.s (.lr ⟨[(0,.d lsQ 0),(1,.d lsQ 1),(12,dI 2),(13,dI 3)],[],[lsQ,lsQ,i6],[i6]⟩ [] [] [] 0 (u3Q qo) .n) .n)) .n))) Tryz.func188 rfl zW4 trivial λx=>by kernel_rfl
def kQ(RK:Nat):Ct TS:=⟨[.d l0Q 0,.d l0Q 1,.fn 104 [] []],[],[l0Q,l0Q],.d .b 2,[],[.b],bd,λx=>vH RK x.1 x.2⟩
def oF(RK:Nat):Ct TS:=⟨[.d (.st 0) 0,.d (.st 0) 1],[],[.st 0,.st 0],.d .b 2,[],[.b],bd,λx=>jg RK x.1 x.2⟩
def jB:∀RK,(kQ RK).OK PGq 187/\(oF RK).OK PGq 104
 |0=>⟨(λx r h=>nomatch (show(bh:Option _)=bc r from h)),(λx r h=>nomatch (show(bh:Option _)=bc r from h))⟩
 |RK+1=>⟨(ctk (c:=kQ (RK+1)) (T:=[(104,oF RK)]) (h:=.s .n (.s .n (.s (.s .n (.s (.lr ⟨[(1,.d l0Q 0),(2,.fn 104 [] []),(15,.d l0Q 1),(16,dI 2),(17,dI 3)],[],[l0Q,l0Q,i6],[i6]⟩ [] [] [] 0 (λx K v=>vO (jg RK) x.1 x.2.1 x.2.2 K v) .n) .n)) .n))) Tryz.func187 rfl zNe ⟨⟨zCy,(jB RK).2⟩,trivial⟩ λx=>by kernel_rfl).2,(ctk (c:=oF (RK+1)) (T:=[(187,kQ RK)]) (h:=.n) Tryz.func104 rfl zCy ⟨⟨zNe,(jB RK).1⟩,trivial⟩ λx=>by kernel_rfl).2⟩
def zd0(RK:Nat):ze PGq 104/\(oF RK).OK PGq 104:=⟨zCy,(jB RK).2⟩
def Y7:Ct TS:=⟨[.d (.st 7) 0,.d (.st 7) 1],[],[.st 7,.st 7],.d .b 2,[],[.b],bd,u2Q qp⟩
def zd1:HBc 115 Y7:=ctk (T:=[(188,Vp),(104,oF KK)]) (h:=.s .n (.s (.s (.j ⟨[(2,.ptr 1000002 0),(3,.ptr 1000003 0),(27,.d .b 40)],zWd,k79,[.b]⟩ bd .n) .n) (.s (.j ⟨[(2,.ptr 1000002 0),(3,.ptr 1000003 0),(5,.d .b 40)],zWd,k79,[.b]⟩ bd .n) .n))) Tryz.func115 rfl zW5 ⟨zdz,(zd0 KK),trivial⟩ λx=>by kernel_rfl
def zd2:Ct TS:=⟨[.d (.st 7) 0],h5,[.st 7],.d .b 1,h5,[.b],bd,λx=>Ac x⟩
def zov:HBc 95 zd2:=ctk (T:=[(179,JE),(93,zkh),(20,JA),(115,Y7)]) (h:=.s .n (.s (.s (.j ⟨[(1,.ptr 1000001 0),(37,.d .b 20)],[(900000000,.rw 1),(900000001,.rw 2),(900000002,.rw 3),(900000003,.rw 4),(1000001,.box 94 [.d .s 0,.d lsQ 1,.d lsQ 2,dI 3,dI 4,dI 5,.d .b 6,dI 7,dI 8,dI 9,.d .s 10,.d .s 11,.d l0Q 12,dI 13,dI 14,dI 15,dI 16,dI 17,dI 18,dI 19])],k80,[.b]⟩ bd .n) .n) (.s .n (.s .n (.s (.j ⟨[(1,.ptr 1000001 0),(3,.ptr 1000003 0),(4,.d .b 20)],[(900000000,.rw 1),(900000001,.rw 2),(900000002,.rw 3),(900000003,.rw 4),(1000001,.box 94 [.d .s 0,.d lsQ 1,.d lsQ 2,dI 3,dI 4,dI 5,.d .b 6,dI 7,dI 8,dI 9,.d .s 10,.d .s 11,.d l0Q 12,dI 13,dI 14,dI 15,dI 16,dI 17,dI 18,dI 19]),(1000003,.box 94 [.d .s 0,.d lsQ 1,.d lsQ 2,dI 3,dI 4,dI 5,.d .b 6,dI 7,dI 21,dI 22,.d .s 23,.d .s 24,.d l0Q 25,dI 26,dI 27,dI 28,dI 29,dI 30,dI 31,dI 32])],k80,[.b,i6,i6,.s,.s,l0Q,i6,i6,i6,i6,i6,i6,i6]⟩ bd .n) .n))))) Tryz.func95 rfl hbv95 ⟨AL,zou,Qa,zd1,trivial⟩ λx=>by kernel_rfl
def zki:Ct TS:=⟨[.d (.st 14) 0],h5,[.st 14],.d .b 1,h5,[.b],bd,λx=>VI x⟩
def zkj:HBc 28 zki:=ctk (T:=[(79,zu4),(81,zhp),(83,zhq),(85,zhr),(87,zhs),(89,zht),(20,JA),(91,zhu),(93,zkh),(94,zbb),(95,zd2)]) (h:=.s .n (.s (.s (.j ⟨[(1,.ptr 1000001 0),(54,.d .b 8)],(h81 1000001 0 1 2 3 4 5 6 7),k4,[.b]⟩ bd .n) .n) (.s (.s .n (.s (.lr ⟨[(1,.ptr 1000001 0),(56,.d l1Q 0),(57,dI 1),(58,dI 9)],(h81 1000001 0 2 3 4 5 6 7 8),k82,[i6]⟩ [(1,.ptr 1000001 0)] (h81 1000001 0 2 3 4 5 6 7 8) [] 0 (u9Q oz) .n) .n)) (.s (.s .n (.s (.lr ⟨[(1,.ptr 1000001 0),(68,.d l3Q 0),(69,dI 1),(70,dI 9)],(h81 1000001 2 0 3 4 5 6 7 8),k83,[i6]⟩ [(1,.ptr 1000001 0)] (h81 1000001 2 0 3 4 5 6 7 8) [] 2 (u9Q qq) (.s .n (.s .n (.s (.s (.s .n (.s (.s (.j ⟨[(1,.ptr 1000001 0),(6,.ptr 1000006 0),(68,.d l3Q 0),(69,dI 1),(70,dI 2),(84,.d .b 13)],[(900000000,.rw 1),(900000001,.rw 2),(900000002,.rw 3),(900000003,.rw 4),(1000001,.box 31 [.d l1Q 3,.d l3Q 0,.d l5Q 4,.d l7Q 5,.d l8Q 6,.d wu 7,.d l9Q 8,dI 9]),(1000006,.box 87 [.d .s 10,.d l2Q 11,dI 12])],[l3Q,i6,i6,l1Q,l5Q,l7Q,l8Q,wu,l9Q,i6,.s,l2Q,i6],[.b]⟩ bd .n) .n) (.s .n (.s (.lr ⟨[(1,.ptr 1000001 0),(68,.d l3Q 0),(69,dI 1),(70,dI 2),(86,.d l2Q 3),(87,dI 4),(88,dI 12)],(h81 1000001 5 0 6 7 8 9 10 11),[l3Q,i6,i6,l2Q,i6,l1Q,l5Q,l7Q,l8Q,wu,l9Q,i6],[i6]⟩ [(1,.ptr 1000001 0),(68,.d l3Q 0),(69,dI 1),(70,dI 2)] (h81 1000001 5 0 6 7 8 9 10 11) [] 4 (u12Q Hr) .n) .n)))) .n) .n)))) .n)) (.s (.s .n (.s (.lr ⟨[(1,.ptr 1000001 0),(100,.d l5Q 0),(101,dI 1),(102,dI 9)],(h81 1000001 2 3 0 4 5 6 7 8),k84,[i6]⟩ [(1,.ptr 1000001 0)] (h81 1000001 2 3 0 4 5 6 7 8) [] 6 (u9Q oA) .n) .n)) (.s (.s .n (.s (.lr ⟨[(1,.ptr 1000001 0),(112,.d l7Q 0),(113,dI 1),(114,dI 9)],(h81 1000001 2 3 4 0 5 6 7 8),k85,[i6]⟩ [(1,.ptr 1000001 0)] (h81 1000001 2 3 4 0 5 6 7 8) [] 8 (u9Q oB) .n) .n)) (.s (.s .n (.s (.lr ⟨[(1,.ptr 1000001 0),(123,.d l8Q 0),(124,dI 1),(125,dI 9)],(h81 1000001 2 3 4 5 0 6 7 8),k86,[i6]⟩ [(1,.ptr 1000001 0)] (h81 1000001 2 3 4 5 0 6 7 8) [] 10 (u9Q oC) (.s .n (.s .n (.s (.s (.s .n (.s (.j ⟨[(1,.ptr 1000001 0),(123,.d l8Q 0),(124,dI 1),(125,dI 2),(146,.d .b 10)],(h81 1000001 3 4 5 6 0 7 8 9),[l8Q,i6,i6,l1Q,l3Q,l5Q,l7Q,wu,l9Q,i6],[.b]⟩ bd .n) .n)) .n) .n)))) .n)) (.s (.s .n (.s (.lr ⟨[(1,.ptr 1000001 0),(149,.d wu 0),(150,dI 1),(151,dI 9)],(h81 1000001 2 3 4 5 6 0 7 8),k87,[i6]⟩ [(1,.ptr 1000001 0)] (h81 1000001 2 3 4 5 6 0 7 8) [] 12 (u9Q qs) (.s .n (.s .n (.s (.s (.s .n (.s (.s (.j ⟨[(1,.ptr 1000001 0),(16,.ptr 1000016 0),(149,.d wu 0),(150,dI 1),(151,dI 2),(167,.d .b 16)],[(900000000,.rw 1),(900000001,.rw 2),(900000002,.rw 3),(900000003,.rw 4),(1000001,.box 31 [.d l1Q 3,.d l3Q 4,.d l5Q 5,.d l7Q 6,.d l8Q 7,.d wu 0,.d l9Q 8,dI 9]),(1000016,.box 100 [.d .s 10,dI 11,dI 12,dI 13,dI 14,.d l9Q 15])],[wu,i6,i6,l1Q,l3Q,l5Q,l7Q,l8Q,l9Q,i6,.s,i6,i6,i6,i6,l9Q],[.b]⟩ bd .n) .n) (.s .n (.s (.lr ⟨[(1,.ptr 1000001 0),(149,.d wu 0),(150,dI 1),(151,dI 2),(173,.row 3 1000170),(174,dI 3),(175,dI 12)],(h88 4 5 6 7 8 9 10 11),[wu,i6,i6,i6,l1Q,l3Q,l5Q,l7Q,l8Q,l9Q,i6,l9Q],[i6]⟩ [(1,.ptr 1000001 0),(149,.d wu 0),(150,dI 1),(151,dI 2)] (h81 1000001 4 5 6 7 8 0 9 10) [] 14 (u12Q Hs) (.s .n (.s .n (.s (.s (.s .n (.s (.j ⟨[(1,.ptr 1000001 0),(149,.d wu 0),(150,dI 1),(151,dI 2),(173,.row 3 1000170),(174,dI 3),(175,dI 4),(192,.d .b 13)],(h88 5 6 7 8 9 10 11 12),[wu,i6,i6,i6,i6,l1Q,l3Q,l5Q,l7Q,l8Q,l9Q,i6,l9Q],[.b]⟩ bd .n) .n)) .n) .n)))) .n)))) .n) .n)))) .n)) (.s (.s .n (.s (.lr ⟨[(1,.ptr 1000001 0),(196,.d l9Q 0),(197,dI 1),(198,dI 9)],(h81 1000001 2 3 4 5 6 7 0 8),k89,[i6]⟩ [(1,.ptr 1000001 0)] (h81 1000001 2 3 4 5 6 7 0 8) [] 16 (u9Q oD) (.s .n (.s .n (.s (.s (.s .n (.s (.j ⟨[(1,.ptr 1000001 0),(196,.d l9Q 0),(197,dI 1),(198,dI 2),(215,.d .b 10)],(h81 1000001 3 4 5 6 7 8 0 9),[l9Q,i6,i6,l1Q,l3Q,l5Q,l7Q,l8Q,wu,i6],[.b]⟩ bd .n) .n)) .n) .n)))) .n)) .n))))))))) Tryz.func28 rfl hbv28 ⟨zDa,zr5,zr6,zr7,zr8,zr9,Qa,zsa,zou,zdn,zov,trivial⟩ λx=>by kernel_rfl
def Y8:Ct TS:=⟨[.ptr 1 0],[(1,.gn 1 .s 0)],[.s],.d .s 1,[(1,.gn 1 .s 0)],[.s],bd,λx=>Ht x⟩
def zd3:Y8.OK PGq 60:=λx r h=>by
 cases h;exact kmp (by kernel_rfl) (YW (T:=123) 1 x)
def zkk:Ct TS:=⟨[.ptr 1 0,.d (.i .u8) 1],[(1,.gn 1 .s 0)],[.s,.i .u8],.nili,[(1,.gn 1 .s 2)],[.s],bd,u2Q Jw⟩
def zow:zkk.OK PGq 168:=λx r h=>kmp (by kernel_rfl) (zV3 zp6 x.1 x.2 r h)
def zDb:Ct TS:=⟨[.ptr 1 0,.d .s 1],[(1,.gn 1 .s 0)],[.s,.s],.tup [dI 2,.nili],[(1,.gn 1 .s 3)],[i6,.s],bd,u2Q Ad⟩
def zJs:zDb.OK PGq 162:=λx r h=>by
 obtain⟨_,h1,h2⟩:=bind_some h;cases h2;exact kmp (by kernel_rfl) (zrg zp6 1 x.1 x.2 (xo h1))
def Y9:Ct TS:=⟨[.ptr 1 0,.d (.l (.a 3 9)) 1],(h26 1 0),[.s,.l (.a 3 9)],.tup [],(h26 1 2),[.s],bd,u2Q yu⟩
def W9:HBc 67 Y9:=ctk (T:=[(60,Y8),(168,zkk),(162,zDb),(163,zC2)]) (h:=.s .n (.s (.l ⟨[(0,.ptr 1 0),(9,.d (.l (.a 3 9)) 0),(10,dI 1),(11,dI 3)],(h26 1 2),[.l (.a 3 9),i6],[.s,i6]⟩ [] (h26 1 2) [.s] 0 (u2Q oE) (.s .n (.s .n (.s (.j ⟨[(0,.ptr 1 0),(9,.d (.l (.a 3 9)) 0),(10,dI 1),(11,dI 2)],(h26 1 3),[.l (.a 3 9),i6,i6],[.s]⟩ bd (.s (.s .n (.s (.j ⟨[(0,.ptr 1 0),(5,.d (.a 3 9) 0),(9,.d (.l (.a 3 9)) 1),(10,dI 2),(11,dI 3)],(h26 1 4),[.a 3 9,.l (.a 3 9),i6,i6],[.s]⟩ bd (.s .n (.s (.j ⟨[(0,.ptr 1 0),(5,.d (.a 3 9) 1),(9,.d (.l (.a 3 9)) 2),(10,dI 3),(11,dI 4),(28,.d .b 5)],(h26 1 0),[.s,.a 3 9,.l (.a 3 9),i6,i6],[.b]⟩ bd .n) .n))) (.s .n (.s (.s .n (.s .n (.s .n (.s (.s .n (.s (.j ⟨[(0,.ptr 1 0),(8,dI 4),(9,.d (.l (.a 3 9)) 0),(10,dI 1),(11,dI 2)],(h26 1 3),[.l (.a 3 9),i6,i6],[.s,i6]⟩ bd .n) .n)) .n)))) .n)))) .n)) .n)))) .n)) Tryz.func67 rfl hbv67 ⟨⟨zx8,zd3⟩,⟨zNf,zow⟩,⟨zuj,zJs⟩,⟨zM0,zC3⟩,trivial⟩ λx=>by kernel_rfl
def zd4:Ct TS:=⟨[.ptr 1 0],(h26 1 0),[.s],.tup [],(h26 1 1),[.s],bd,λx=>qt x⟩
def zbf:HBc 69 zd4:=ctk (T:=[(67,Y9),(168,zkk)]) (h:=.n) Tryz.func69 rfl hbv69 ⟨W9,⟨zNf,zow⟩,trivial⟩ λx=>by kernel_rfl
def zkl:Ct TS:=⟨[.ptr 1 0,.d (.st 0) 1],(h26 1 0),[.s,.st 0],.tup [],(h26 1 2),[.s],bd,u2Q Q2⟩
def zox:HBc 68 zkl:=ctk (T:=[(58,zdd KK),(60,oe),(67,Y9),(69,zd4)]) (h:=.n) Tryz.func68 rfl hbv68 ⟨(zuv KK),⟨zx8,Jc⟩,W9,zbf,trivial⟩ λx=>by kernel_rfl
def zhv:Ct TS:=⟨[.ptr 1 0,.d l4Q 1],(h26 1 0),[.s,l4Q],.tup [],(h26 1 2),[.s],bd,u2Q Hu⟩
def zsb:HBc 70 zhv:=ctk (T:=[(67,Y9),(69,zd4)]) (h:=.s (.s .n (.s (.l ⟨[(0,.ptr 1 0),(6,.d l4Q 0),(7,dI 1),(8,dI 3)],(h26 1 2),[l4Q,i6],[.s,i6]⟩ [(0,.ptr 1 0)] (h26 1 2) [.s] 0 (u2Q wg) .n) .n)) .n) Tryz.func70 rfl hbv70 ⟨W9,zbf,trivial⟩ λx=>by kernel_rfl
def zDc:Ct TS:=⟨[.d lsQ 0,.d .s 1],[],[lsQ,.s],.d .s 2,[],[.s],bd,u2Q ZE⟩
def zDd:zDc.OK PGq 65:=λx r h=>kmp (by kernel_rfl) (J.zVu x.1 x.2 r h)
def zu5:Ct TS:=⟨[.ptr 1 0,.d (.st 7) 1],(h26 1 0),[.s,.st 7],.tup [],(h26 1 2),[.s],bd,u2Q za3⟩
def zDe:HBc 71 zu5:=ctk (T:=[(67,Y9),(65,zDc),(72,zbc),(68,zkl),(69,zd4)]) (h:=.s .n (.s .n (.s (.s .n (.s (.l ⟨[(0,.ptr 1 0),(3,.ptr 1000003 0),(22,.row 1 1000022),(23,dI 0),(24,dI 23)],(h90 22 1 2 3 4 5 6 7 8 9 10 11 12 13 14 15 16 17 18 19 20 21),[i6,.s,lsQ,lsQ,i6,i6,i6,.b,i6,i6,i6,.s,.s,l0Q,i6,i6,i6,i6,i6,i6,i6,.l lsQ],[.s,i6]⟩ [(0,.ptr 1 0),(3,.ptr 1000003 0)] (h91 22 1 2 3 4 5 6 7 8 9 10 11 12 13 14 15 16 17 18 19 20) [.s] 0 (u22Q jX) (.s .n (.s .n (.s (.j ⟨[(0,.ptr 1 0),(3,.ptr 1000003 0),(22,.row 1 1000022),(23,dI 0),(24,dI 1)],(h90 23 2 3 4 5 6 7 8 9 10 11 12 13 14 15 16 17 18 19 20 21 22),[i6,i6,.s,lsQ,lsQ,i6,i6,i6,.b,i6,i6,i6,.s,.s,l0Q,i6,i6,i6,i6,i6,i6,i6,.l lsQ],[.s]⟩ bd .n) .n)))) .n)) (.s (.s .n (.s (.l ⟨[(0,.ptr 1 0),(3,.ptr 1000003 0),(50,.row 1 1000050),(51,dI 0),(52,dI 23)],(h92 22 1 2 3 4 5 6 7 8 9 10 11 12 13 14 15 16 17 18 19 20 21),[i6,.s,lsQ,lsQ,i6,i6,i6,.b,i6,i6,i6,.s,.s,l0Q,i6,i6,i6,i6,i6,i6,i6,.l i6],[.s,i6]⟩ [(0,.ptr 1 0),(3,.ptr 1000003 0)] (h91 22 1 2 3 4 5 6 7 8 9 10 11 12 13 14 15 16 17 18 19 20) [.s] 2 (u22Q vP) (.s .n (.s .n (.s (.j ⟨[(0,.ptr 1 0),(3,.ptr 1000003 0),(50,.row 1 1000050),(51,dI 0),(52,dI 1)],(h92 23 2 3 4 5 6 7 8 9 10 11 12 13 14 15 16 17 18 19 20 21 22),[i6,i6,.s,lsQ,lsQ,i6,i6,i6,.b,i6,i6,i6,.s,.s,l0Q,i6,i6,i6,i6,i6,i6,i6,.l i6],[.s]⟩ bd .n) .n)))) .n)) (.s (.j ⟨[(0,.ptr 1 0),(3,.ptr 1000003 0)],(h91 20 0 1 2 3 4 5 6 7 8 9 10 11 12 13 14 15 16 17 18 19),k80,[.s]⟩ bd .n) (.s .n (.s .n (.s (.j ⟨[(0,.ptr 1 0)],(h26 1 0),[],[.s]⟩ bf (.s .n (.s (.s .n (.s .n (.s .n (.s .n (.s .n (.s .n (.s .n (.s (.s .n (.s .n (.s (.l ⟨[(0,.ptr 1 0),(3,.ptr 1000003 0),(140,.row 1 103008000),(141,dI 0),(142,dI 23)],(h93 22 1 2 3 4 5 6 7 8 9 10 11 12 13 14 15 16 17 18 19 20 21),[i6,.s,lsQ,lsQ,i6,i6,i6,.b,i6,i6,i6,.s,.s,l0Q,i6,i6,i6,i6,i6,i6,i6,lsQ],[.s,i6]⟩ [(0,.ptr 1 0)] (h26 1 22) [.s] 5 (u22Q wk) (.s .n (.s .n (.s (.j ⟨[(0,.ptr 1 0),(3,.ptr 1000003 0),(140,.row 1 103008000),(141,dI 0),(142,dI 1)],(h93 23 2 3 4 5 6 7 8 9 10 11 12 13 14 15 16 17 18 19 20 21 22),[i6,i6,.s,lsQ,lsQ,i6,i6,i6,.b,i6,i6,i6,.s,.s,l0Q,i6,i6,i6,i6,i6,i6,i6,lsQ],[.s]⟩ bd .n) .n)))) .n))) .n)))))))) .n))) .n)))))))) Tryz.func71 rfl hbv71 ⟨W9,⟨zJe,zDd⟩,⟨zQ8,zdp⟩,zox,zbf,trivial⟩ λx=>by kernel_rfl
def zDf:Ct TS:=⟨[.ptr 1 0],[(1,.gn 1 .s 0)],[.s],dI 1,[(1,.gn 1 .s 0)],[i6],bd,λx=>zri x⟩
def zJt:zDf.OK PGq 59:=λx r h=>by
 cases h;exact kmp (by kernel_rfl) (zCm (T:=123) 1 x)
def zsc:Ct TS:=⟨[.d (.st 14) 0],h5,[.st 14],.tup [.d .s 1,dI 2],h5,[.s,i6],bd,λx=>zc2 x⟩
def zu6:HBc 26 zsc:=ctk (T:=[(28,zki),(67,Y9),(68,zkl),(69,zd4),(70,zhv),(71,zu5),(72,zbc),(59,zDf),(60,Y8)]) (h:=.s .n (.s .n (.s .n (.s (.s .n (.s (.l ⟨[(1,.ptr 1000001 0),(4,.ptr 1000028 0),(30,.d l1Q 0),(31,dI 1),(32,dI 9)],(h94 0 2 3 4 5 6 7 8 10),k82,[i6,.s]⟩ [(1,.ptr 1000001 0),(4,.ptr 1000028 0)] (h94 0 2 3 4 5 6 7 8 9) [.s] 0 (u9Q jh) .n) .n)) (.s (.s .n (.s (.l ⟨[(1,.ptr 1000001 0),(4,.ptr 1000028 0),(50,.d l3Q 0),(51,dI 1),(52,dI 9)],(h94 2 0 3 4 5 6 7 8 10),k83,[i6,.s]⟩ [(1,.ptr 1000001 0),(4,.ptr 1000028 0)] (h94 2 0 3 4 5 6 7 8 9) [.s] 2 (u9Q jj) (.s .n (.s .n (.s (.s (.s .n (.s .n (.s (.s .n (.s (.l ⟨[(1,.ptr 1000001 0),(4,.ptr 1000028 0),(8,.ptr 1000008 0),(50,.d l3Q 0),(51,dI 1),(52,dI 2),(64,.d l2Q 3),(65,dI 4),(66,dI 14)],(h95 15),[l3Q,i6,i6,l2Q,i6,l1Q,l5Q,l7Q,l8Q,wu,l9Q,i6,.s,i6],[i6,.s]⟩ [(1,.ptr 1000001 0),(4,.ptr 1000028 0),(8,.ptr 1000008 0),(50,.d l3Q 0),(51,dI 1),(52,dI 2)] (h95 14) [.s] 4 (u14Q ji) .n) .n)) .n))) .n) .n)))) .n)) (.s (.s .n (.s (.l ⟨[(1,.ptr 1000001 0),(4,.ptr 1000028 0),(91,.d l5Q 0),(92,dI 1),(93,dI 9)],(h94 2 3 0 4 5 6 7 8 10),k84,[i6,.s]⟩ [(1,.ptr 1000001 0),(4,.ptr 1000028 0)] (h94 2 3 0 4 5 6 7 8 9) [.s] 6 (u9Q jk) (.s .n (.s .n (.s (.s (.s .n (.s .n (.s (.j ⟨[(1,.ptr 1000001 0),(4,.ptr 1000028 0),(12,.ptr 1000012 0),(13,.d .s 14),(91,.d l5Q 0),(92,dI 1),(93,dI 2)],[(900000000,.rw 1),(900000001,.rw 2),(900000002,.rw 3),(900000003,.rw 4),(1000001,.box 31 [.d l1Q 3,.d l3Q 4,.d l5Q 0,.d l7Q 5,.d l8Q 6,.d wu 7,.d l9Q 8,dI 9]),(1000028,.gn 1 .s 10),(1000012,.box 64 [.d .s 11,.d .b 12,.d l4Q 13])],[l5Q,i6,i6,l1Q,l3Q,l7Q,l8Q,wu,l9Q,i6,.s,.s,.b,l4Q],[.s]⟩ bd .n) .n))) .n) .n)))) .n)) (.s (.s .n (.s (.l ⟨[(1,.ptr 1000001 0),(4,.ptr 1000028 0),(113,.d l7Q 0),(114,dI 1),(115,dI 9)],(h94 2 3 4 0 5 6 7 8 10),k85,[i6,.s]⟩ [(1,.ptr 1000001 0),(4,.ptr 1000028 0)] (h94 2 3 4 0 5 6 7 8 9) [.s] 8 (u9Q jm) .n) .n)) (.s (.s .n (.s (.l ⟨[(1,.ptr 1000001 0),(4,.ptr 1000028 0),(124,.d l8Q 0),(125,dI 1),(126,dI 9)],(h94 2 3 4 5 0 6 7 8 10),k86,[i6,.s]⟩ [(1,.ptr 1000001 0),(4,.ptr 1000028 0)] (h94 2 3 4 5 0 6 7 8 9) [.s] 10 (u9Q jo) .n) .n)) (.s (.s .n (.s (.l ⟨[(1,.ptr 1000001 0),(4,.ptr 1000028 0),(152,.d wu 0),(153,dI 1),(154,dI 9)],(h94 2 3 4 5 6 0 7 8 10),k87,[i6,.s]⟩ [(1,.ptr 1000001 0),(4,.ptr 1000028 0)] (h94 2 3 4 5 6 0 7 8 9) [.s] 12 (u9Q ju) (.s .n (.s .n (.s (.s (.s .n (.s .n (.s (.s .n (.s (.l ⟨[(1,.ptr 1000001 0),(4,.ptr 1000028 0),(152,.d wu 0),(153,dI 1),(154,dI 2),(183,.d l9Q 3),(184,dI 4),(185,dI 12)],(h94 5 6 7 8 9 0 10 11 13),[wu,i6,i6,l9Q,i6,l1Q,l3Q,l5Q,l7Q,l8Q,l9Q,i6],[i6,.s]⟩ [(1,.ptr 1000001 0),(4,.ptr 1000028 0),(152,.d wu 0),(153,dI 1),(154,dI 2)] (h94 5 6 7 8 9 0 10 11 12) [.s] 14 (u12Q jt) .n) .n)) .n))) .n) .n)))) .n)) (.s (.s .n (.s (.l ⟨[(1,.ptr 1000001 0),(4,.ptr 1000028 0),(206,.d l9Q 0),(207,dI 1),(208,dI 9)],(h94 2 3 4 5 6 7 0 8 10),k89,[i6,.s]⟩ [(1,.ptr 1000001 0),(4,.ptr 1000028 0)] (h94 2 3 4 5 6 7 0 8 9) [.s] 16 (u9Q jv) .n) .n)) (.s (.j ⟨[(1,.ptr 1000001 0),(4,.ptr 1000028 0)],(h94 0 1 2 3 4 5 6 7 8),k4,[.s]⟩ bd .n) (.s (.j ⟨[(4,.ptr 1000028 0)],[(900000000,.rw 1),(900000001,.rw 2),(900000002,.rw 3),(900000003,.rw 4),(1000028,.gn 1 .s 0)],[],[.s]⟩ bd .n) .n)))))))))))) Tryz.func26 rfl hbv26 ⟨zkj,W9,zox,zbf,zsb,zDe,⟨zQ8,zdp⟩,⟨zWq,zJt⟩,⟨zx8,zd3⟩,trivial⟩ λx=>by kernel_rfl
def zd5:Ct TS:=⟨[],h5,[],.d .b 0,h5,[.b],bd,λ_=>Jx⟩
def zoy:HBc 9 zd5:=ctg (cd:=cdL) (nb:=nbT) (rc:=[]) (T:=[(12,zdb),(19,zde),(10,zr4),(26,zsc),(28,zki),(16,zg5)]) (h:=.s .n (.s .n (.s .n (.s .n (.s .n (.s .n (.s .n (.s .n (.s .n (.s .n (.s .n (.s (.j ⟨[(9,.ptr 1000009 0),(13,dI 0),(14,dI 1),(16,dI 2),(17,dI 3),(19,dI 4),(20,dI 5),(22,dI 6),(23,dI 7),(25,dI 8),(26,dI 9),(27,.d .b 18)],(h75 1000009 103005401 103005402 103005403 103005404 103005405 103005406 10 11 12 13 14 15 16 17),[i6,i6,i6,i6,i6,i6,i6,i6,i6,i6,l9Q,i6,l1Q,l3Q,l5Q,l7Q,l8Q,wu],[.b]⟩ bd .n) (.s (.j ⟨[(9,.ptr 1000009 0),(27,.d .b 0),(28,.d .b 9)],(h75 1000009 103005401 103005402 103005403 103005404 103005405 103005406 1 2 3 4 5 6 7 8),k96,[.b]⟩ bd .n) .n))))))))))))) Tryz.func9 rfl hbv9 ⟨zn6,zn9,zu3,zu6,zkj,zc7,trivial⟩ λx=>by kernel_rfl
def zu7:Ct TS:=⟨[.d (.st 1) 0,.d (.st 1) 1],[],[.st 1,.st 1],.d .b 2,[],[.b],bd,u2Q za4⟩
def zDg:HBc 103 zu7:=ctk (T:=[(104,oF KK)]) (h:=.n) Tryz.func103 rfl zW6 ⟨(zd0 KK),trivial⟩ λx=>by kernel_rfl
def uB:Ct TS:=⟨[.d l1Q 0,.d l1Q 1,.fn 103 [] []],[],[l1Q,l1Q],.d .b 2,[],[.b],bd,u2Q wz⟩
def Qc:HBc 112 uB:=ctk (T:=[(103,zu7)]) (h:=.s .n (.s .n (.s (.s .n (.s (.lr ⟨[(1,.d l1Q 0),(2,.fn 103 [] []),(15,.d l1Q 1),(16,dI 2),(17,dI 3)],[],[l1Q,l1Q,i6],[i6]⟩ [] [] [] 0 (u3Q vf) .n) .n)) .n))) Tryz.func112 rfl zW7 ⟨zDg,trivial⟩ λx=>by kernel_rfl
def J0:Ct TS:=⟨[.d l2Q 0,.d l2Q 1],[],[l2Q,l2Q],.d .b 2,[],[.b],bd,u2Q jP⟩
def Za:HBc 106 J0:=ctk (T:=[]) (h:=.s .n (.s .n (.s (.s .n (.s (.lr ⟨[(0,.d l2Q 0),(1,.d l2Q 1),(12,dI 2),(13,dI 3)],[],[l2Q,l2Q,i6],[i6]⟩ [] [] [] 0 (u3Q jY) .n) .n)) .n))) Tryz.func106 rfl zW8 trivial λx=>by kernel_rfl
def zu8:Ct TS:=⟨[.d (.st 3) 0,.d (.st 3) 1],[],[.st 3,.st 3],.d .b 2,[],[.b],bd,u2Q za5⟩
def zDh:HBc 105 zu8:=ctk (T:=[(106,J0)]) (h:=.n) Tryz.func105 rfl zW9 ⟨Za,trivial⟩ λx=>by kernel_rfl
def uC:Ct TS:=⟨[.d l3Q 0,.d l3Q 1,.fn 105 [] []],[],[l3Q,l3Q],.d .b 2,[],[.b],bd,u2Q wA⟩
def Qd:HBc 113 uC:=ctk (T:=[(105,zu8)]) (h:=.s .n (.s .n (.s (.s .n (.s (.lr ⟨[(1,.d l3Q 0),(2,.fn 105 [] []),(15,.d l3Q 1),(16,dI 2),(17,dI 3)],[],[l3Q,l3Q,i6],[i6]⟩ [] [] [] 0 (u3Q vg) .n) .n)) .n))) Tryz.func113 rfl zXa ⟨zDh,trivial⟩ λx=>by kernel_rfl
def uD:Ct TS:=⟨[.d l7Q 0,.d l7Q 1,.fn 115 [] []],[],[l7Q,l7Q],.d .b 2,[],[.b],bd,u2Q wB⟩
def Qf:HBc 114 uD:=ctk (T:=[(115,Y7)]) (h:=.s .n (.s .n (.s (.s .n (.s (.lr ⟨[(1,.d l7Q 0),(2,.fn 115 [] []),(15,.d l7Q 1),(16,dI 2),(17,dI 3)],[],[l7Q,l7Q,i6],[i6]⟩ [] [] [] 0 (u3Q vh) .n) .n)) .n))) Tryz.func114 rfl zXb ⟨zd1,trivial⟩ λx=>by kernel_rfl
def uo:Ct TS:=⟨[.d l4Q 0,.d l4Q 1],[],[l4Q,l4Q],.d .b 2,[],[.b],bd,u2Q vt⟩
def HD:HBc 108 uo:=ctk (T:=[]) (h:=.s .n (.s .n (.s (.s .n (.s (.lr ⟨[(0,.d l4Q 0),(1,.d l4Q 1),(12,dI 2),(13,dI 3)],[],[l4Q,l4Q,i6],[i6]⟩ [] [] [] 0 (u3Q jZ) .n) .n)) .n))) Tryz.func108 rfl zXc trivial λx=>by kernel_rfl
def zu9:Ct TS:=⟨[.d (.st 5) 0,.d (.st 5) 1],[],[.st 5,.st 5],.d .b 2,[],[.b],bd,u2Q za6⟩
def zDi:HBc 107 zu9:=ctk (T:=[(108,uo)]) (h:=.n) Tryz.func107 rfl zXd ⟨HD,trivial⟩ λx=>by kernel_rfl
def uE:Ct TS:=⟨[.d l5Q 0,.d l5Q 1,.fn 107 [] []],[],[l5Q,l5Q],.d .b 2,[],[.b],bd,u2Q wC⟩
def Qg:HBc 116 uE:=ctk (T:=[(107,zu9)]) (h:=.s .n (.s .n (.s (.s .n (.s (.lr ⟨[(1,.d l5Q 0),(2,.fn 107 [] []),(15,.d l5Q 1),(16,dI 2),(17,dI 3)],[],[l5Q,l5Q,i6],[i6]⟩ [] [] [] 0 (u3Q vi) .n) .n)) .n))) Tryz.func116 rfl zXe ⟨zDi,trivial⟩ λx=>by kernel_rfl
def zva:Ct TS:=⟨[.d (.st 8) 0,.d (.st 8) 1],[],[.st 8,.st 8],.d .b 2,[],[.b],bd,u2Q za7⟩
def zDj:HBc 109 zva:=ctk (T:=[(108,uo)]) (h:=.n) Tryz.func109 rfl zXf ⟨HD,trivial⟩ λx=>by kernel_rfl
def uF:Ct TS:=⟨[.d l8Q 0,.d l8Q 1,.fn 109 [] []],[],[l8Q,l8Q],.d .b 2,[],[.b],bd,u2Q wD⟩
def Qh:HBc 117 uF:=ctk (T:=[(109,zva)]) (h:=.s .n (.s .n (.s (.s .n (.s (.lr ⟨[(1,.d l8Q 0),(2,.fn 109 [] []),(15,.d l8Q 1),(16,dI 2),(17,dI 3)],[],[l8Q,l8Q,i6],[i6]⟩ [] [] [] 0 (u3Q vj) .n) .n)) .n))) Tryz.func117 rfl zXg ⟨zDj,trivial⟩ λx=>by kernel_rfl
def uq:Ct TS:=⟨[.d l9Q 0,.d l9Q 1],[],[l9Q,l9Q],.d .b 2,[],[.b],bd,u2Q vu⟩
def HE:HBc 111 uq:=ctk (T:=[]) (h:=.s .n (.s .n (.s (.s .n (.s (.lr ⟨[(0,.d l9Q 0),(1,.d l9Q 1),(12,dI 2),(13,dI 3)],[],[l9Q,l9Q,i6],[i6]⟩ [] [] [] 0 (u3Q j3) .n) .n)) .n))) Tryz.func111 rfl zXh trivial λx=>by kernel_rfl
def zvb:Ct TS:=⟨[.d (.st 10) 0,.d (.st 10) 1],[],[.st 10,.st 10],.d .b 2,[],[.b],bd,u2Q za8⟩
def zDk:HBc 110 zvb:=ctk (T:=[(111,uq)]) (h:=.n) Tryz.func110 rfl zXi ⟨HE,trivial⟩ λx=>by kernel_rfl
def uG:Ct TS:=⟨[.d wu 0,.d wu 1,.fn 110 [] []],[],[wu,wu],.d .b 2,[],[.b],bd,u2Q wE⟩
def Qi:HBc 118 uG:=ctk (T:=[(110,zvb)]) (h:=.s .n (.s .n (.s (.s .n (.s (.lr ⟨[(1,.d wu 0),(2,.fn 110 [] []),(15,.d wu 1),(16,dI 2),(17,dI 3)],[],[wu,wu,i6],[i6]⟩ [] [] [] 0 (u3Q vk) .n) .n)) .n))) Tryz.func118 rfl zXj ⟨zDk,trivial⟩ λx=>by kernel_rfl
def zNg:Ct TS:=⟨[.d (.st 14) 0,.d (.st 14) 1],[],[.st 14,.st 14],.d .b 2,[],[.b],bd,u2Q ZF⟩
def zQ9:HBc 30 zNg:=ctk (T:=[(112,uB),(113,uC),(114,uD),(116,uE),(117,uF),(118,uG),(111,uq)]) (h:=.s .n (.s .n (.s .n (.s .n (.s .n (.s .n (.s (.j ⟨[(2,.ptr 1000002 0),(3,.ptr 1000003 0),(7,.fn 107 [] []),(8,.fn 109 [] []),(9,.fn 110 [] []),(10,.d .b 16)],(h120 0 1 2 3 4 5 6 7 8 9 10 11 12 13 14 15),k121,[.b]⟩ bd .n) (.s (.j ⟨[(2,.ptr 1000002 0),(3,.ptr 1000003 0),(10,.d .b 0),(11,.d .b 17)],(h120 1 2 3 4 5 6 7 8 9 10 11 12 13 14 15 16),k129,[.b]⟩ bd .n) .n)))))))) Tryz.func30 rfl hbv30 ⟨Qc,Qd,Qf,Qg,Qh,Qi,HE,trivial⟩ λx=>by kernel_rfl
def zvc:Ct TS:=⟨[.d wx 0],[],[wx],.d .s 1,[],[.s],bd,λx=>za9 x⟩
def zDl:HBc 22 zvc:=ctk (T:=[(65,zDc)]) (h:=.s .n (.s .n (.s (.s .n (.s (.l ⟨[(3,.row 1 7001001),(6,.d wx 0),(7,dI 1),(8,dI 2)],(h57 7001001 3),[wx,i6],[i6,lsQ]⟩ [(3,.row 1 7001001)] (h57 7001001 2) [lsQ] 0 (u2Q vQ) (.s .n (.s .n (.s (.j ⟨[(3,.row 1 7000001),(6,.d wx 0),(7,dI 1),(8,dI 2)],(h57 7000001 3),k7,[lsQ]⟩ bd .n) .n)))) .n)) .n))) Tryz.func22 rfl hbv22 ⟨⟨zJe,zDd⟩,trivial⟩ λx=>by kernel_rfl
def Qj:Ct TS:=⟨[.d .s 0],h5,[.s],.d .b 1,h5,[.b],bd,λx=>wh x⟩
def Ks:HBc 8 Qj:=ctk (T:=[(9,zd5),(10,zr4),(21,zj1),(30,zNg),(22,zvc),(26,zsc),(28,zki)]) (h:=.s .n (.s .n (.s .n (.s .n (.s .n (.s .n (.s .n (.s .n (.s .n (.s (.s (.j ⟨[(3,.d .b 0),(4,.ptr 1000004 0),(5,dI 1),(6,dI 2),(7,.d wx 3),(11,.ptr 1000011 0),(12,dI 4),(13,dI 5),(14,.d wx 6),(77,.d .b 23)],[(900000000,.rw 1),(900000001,.rw 2),(900000002,.rw 3),(900000003,.rw 4),(1000004,.box 31 [.row 6 103003101,.row 3 103003102,.row 3 103003103,.row 20 103003104,.row 4 103003105,.row 6 103003106,.d l9Q 7,dI 8]),(1000011,.box 31 [.row 6 103005801,.row 3 103005802,.row 3 103005803,.row 20 103005804,.row 4 103005805,.row 6 103005806,.d l9Q 9,dI 10]),(103003101,.row 57 (.st 1) 11 bd),(103003102,.row 87 (.st 3) 12 bd),(103003103,.row 64 (.st 5) 13 bd),(103003104,.row 94 (.st 7) 14 bd),(103003105,.row 96 (.st 8) 15 bd),(103003106,.row 100 (.st 10) 16 bd),(103005801,.row 57 (.st 1) 17 bd),(103005802,.row 87 (.st 3) 18 bd),(103005803,.row 64 (.st 5) 19 bd),(103005804,.row 94 (.st 7) 20 bd),(103005805,.row 96 (.st 8) 21 bd),(103005806,.row 100 (.st 10) 22 bd)],[.b,i6,i6,wx,i6,i6,wx,l9Q,i6,l9Q,i6,l1Q,l3Q,l5Q,l7Q,l8Q,wu,l1Q,l3Q,l5Q,l7Q,l8Q,wu],[.b]⟩ bd .n) .n) (.s (.s (.j ⟨[(3,.d .b 0),(4,.ptr 1000004 0),(5,dI 1),(6,dI 2),(7,.d wx 3),(12,dI 4),(14,.d wx 5),(87,.d .b 14)],(h75 1000004 103003101 103003102 103003103 103003104 103003105 103003106 6 7 8 9 10 11 12 13),[.b,i6,i6,wx,i6,wx,l9Q,i6,l1Q,l3Q,l5Q,l7Q,l8Q,wu],[.b]⟩ bd .n) .n) (.s (.s .n (.s (.s .n (.s (.s .n (.s (.l ⟨[(3,.d .b 0),(5,dI 1),(7,.d wx 2),(12,dI 3),(14,.d wx 4),(17,.d .b 5),(18,dI 6)],h5,[.b,i6,wx,i6,wx],[.b,i6]⟩ [(3,.d .b 0),(17,.d .b 5)] h5 [.b] 0 (u5Q z8) (.s .n (.s (.j ⟨[(3,.d .b 0),(5,dI 1),(7,.d wx 2),(12,dI 3),(14,.d wx 4),(17,.d .b 6),(18,dI 5)],h5,[.b,i6,wx,i6,wx,i6],[.b]⟩ bd .n) .n))) .n)) .n)) .n)) .n)))))))))))) Tryz.func8 rfl hbv8 ⟨zoy,zu3,zj2,zQ9,zDl,zu6,zkj,trivial⟩ λx=>by kernel_rfl
end Go.Proofs.YtffencjoddkghaaGreatDoor
