/- texts that the proof reaches, part 10 -/
import Derived.Test.YtffencjoddkghaaGreatDoorKi
set_option linter.all false
set_option maxRecDepth 100000
namespace Go.Proofs.YtffencjoddkghaaGreatDoor
open Go Go.RowKit Go.Eng Go.EV Go.EQ
noncomputable abbrev PGq:=Tryz.prog
abbrev i6:TC:=.i .i64
abbrev dI(k:Nat):Tp:=.d i6 k
abbrev mBQ:TC:=.l (.m .s .b)
abbrev mPQ:TC:=.m .s .b
abbrev lsQ:TC:=.l .s
abbrev l0Q:TC:=.l (.st 0)
abbrev l1Q:TC:=.l (.st 1)
abbrev l2Q:TC:=.l (.st 2)
abbrev l3Q:TC:=.l (.st 3)
abbrev l4Q:TC:=.l (.st 4)
abbrev l5Q:TC:=.l (.st 5)
abbrev l7Q:TC:=.l (.st 7)
abbrev l8Q:TC:=.l (.st 8)
abbrev l9Q:TC:=.l (.st 9)
abbrev wi:TC:=.l (.st 10)
abbrev jN:TC:=.l (.st 11)
abbrev zp3:TC:=.l (.st 12)
abbrev ze2:TC:=.l (.st 13)
abbrev gpQ(l:List (Nat×TO)):List (Nat×TO):=(900000000,.rw 1)::(900000001,.rw 2)::(900000002,.rw 3)::(900000003,.rw 4)::l
abbrev pnQ(n:Nat):Nat×Tp:=(n,.ptr (1000000+n) 0)
abbrev p0Q:Nat×Tp:=(0,.ptr 1 0)
def u2Q{α0 α1 β:Type}(f:α0->α1->β)(x:α0×α1):β:=f x.1 x.2
def u3Q{α0 α1 α2 β:Type}(f:α0->α1->α2->β)(x:α0×α1×α2):β:=f x.1 x.2.1 x.2.2
def u4Q{α0 α1 α2 α3 β:Type}(f:α0->α1->α2->α3->β)(x:α0×α1×α2×α3):β:=f x.1 x.2.1 x.2.2.1 x.2.2.2
def u7Q{α0 α1 α2 α3 α4 α5 α6 β:Type}(f:α0->α1->α2->α3->α4->α5->α6->β)(x:α0×α1×α2×α3×α4×α5×α6):β:=f x.1 x.2.1 x.2.2.1 x.2.2.2.1 x.2.2.2.2.1 x.2.2.2.2.2.1 x.2.2.2.2.2.2
def u8Q{α0 α1 α2 α3 α4 α5 α6 α7 β:Type}(f:α0->α1->α2->α3->α4->α5->α6->α7->β)(x:α0×α1×α2×α3×α4×α5×α6×α7):β:=f x.1 x.2.1 x.2.2.1 x.2.2.2.1 x.2.2.2.2.1 x.2.2.2.2.2.1 x.2.2.2.2.2.2.1 x.2.2.2.2.2.2.2
def u9Q{α0 α1 α2 α3 α4 α5 α6 α7 α8 β:Type}(f:α0->α1->α2->α3->α4->α5->α6->α7->α8->β)(x:α0×α1×α2×α3×α4×α5×α6×α7×α8):β:=f x.1 x.2.1 x.2.2.1 x.2.2.2.1 x.2.2.2.2.1 x.2.2.2.2.2.1 x.2.2.2.2.2.2.1 x.2.2.2.2.2.2.2.1 x.2.2.2.2.2.2.2.2
def zZ1{α0 α1 α2 α3 α4 α5 α6 α7 α8 α9 α10 α11 β:Type}(f:α0->α1->α2->α3->α4->α5->α6->α7->α8->α9->α10->α11->β)(x:α0×α1×α2×α3×α4×α5×α6×α7×α8×α9×α10×α11):β:=f x.1 x.2.1 x.2.2.1 x.2.2.2.1 x.2.2.2.2.1 x.2.2.2.2.2.1 x.2.2.2.2.2.2.1 x.2.2.2.2.2.2.2.1 x.2.2.2.2.2.2.2.2.1 x.2.2.2.2.2.2.2.2.2.1 x.2.2.2.2.2.2.2.2.2.2.1 x.2.2.2.2.2.2.2.2.2.2.2
def u14Q{α0 α1 α2 α3 α4 α5 α6 α7 α8 α9 α10 α11 α12 α13 β:Type}(f:α0->α1->α2->α3->α4->α5->α6->α7->α8->α9->α10->α11->α12->α13->β)(x:α0×α1×α2×α3×α4×α5×α6×α7×α8×α9×α10×α11×α12×α13):β:=f x.1 x.2.1 x.2.2.1 x.2.2.2.1 x.2.2.2.2.1 x.2.2.2.2.2.1 x.2.2.2.2.2.2.1 x.2.2.2.2.2.2.2.1 x.2.2.2.2.2.2.2.2.1 x.2.2.2.2.2.2.2.2.2.1 x.2.2.2.2.2.2.2.2.2.2.1 x.2.2.2.2.2.2.2.2.2.2.2.1 x.2.2.2.2.2.2.2.2.2.2.2.2.1 x.2.2.2.2.2.2.2.2.2.2.2.2.2
def u17Q{α0 α1 α2 α3 α4 α5 α6 α7 α8 α9 α10 α11 α12 α13 α14 α15 α16 β:Type}(f:α0->α1->α2->α3->α4->α5->α6->α7->α8->α9->α10->α11->α12->α13->α14->α15->α16->β)(x:α0×α1×α2×α3×α4×α5×α6×α7×α8×α9×α10×α11×α12×α13×α14×α15×α16):β:=f x.1 x.2.1 x.2.2.1 x.2.2.2.1 x.2.2.2.2.1 x.2.2.2.2.2.1 x.2.2.2.2.2.2.1 x.2.2.2.2.2.2.2.1 x.2.2.2.2.2.2.2.2.1 x.2.2.2.2.2.2.2.2.2.1 x.2.2.2.2.2.2.2.2.2.2.1 x.2.2.2.2.2.2.2.2.2.2.2.1 x.2.2.2.2.2.2.2.2.2.2.2.2.1 x.2.2.2.2.2.2.2.2.2.2.2.2.2.1 x.2.2.2.2.2.2.2.2.2.2.2.2.2.2.1 x.2.2.2.2.2.2.2.2.2.2.2.2.2.2.2.1 x.2.2.2.2.2.2.2.2.2.2.2.2.2.2.2.2
def u22Q{α0 α1 α2 α3 α4 α5 α6 α7 α8 α9 α10 α11 α12 α13 α14 α15 α16 α17 α18 α19 α20 α21 β:Type}(f:α0->α1->α2->α3->α4->α5->α6->α7->α8->α9->α10->α11->α12->α13->α14->α15->α16->α17->α18->α19->α20->α21->β)(x:α0×α1×α2×α3×α4×α5×α6×α7×α8×α9×α10×α11×α12×α13×α14×α15×α16×α17×α18×α19×α20×α21):β:=f x.1 x.2.1 x.2.2.1 x.2.2.2.1 x.2.2.2.2.1 x.2.2.2.2.2.1 x.2.2.2.2.2.2.1 x.2.2.2.2.2.2.2.1 x.2.2.2.2.2.2.2.2.1 x.2.2.2.2.2.2.2.2.2.1 x.2.2.2.2.2.2.2.2.2.2.1 x.2.2.2.2.2.2.2.2.2.2.2.1 x.2.2.2.2.2.2.2.2.2.2.2.2.1 x.2.2.2.2.2.2.2.2.2.2.2.2.2.1 x.2.2.2.2.2.2.2.2.2.2.2.2.2.2.1 x.2.2.2.2.2.2.2.2.2.2.2.2.2.2.2.1 x.2.2.2.2.2.2.2.2.2.2.2.2.2.2.2.2.1 x.2.2.2.2.2.2.2.2.2.2.2.2.2.2.2.2.2.1 x.2.2.2.2.2.2.2.2.2.2.2.2.2.2.2.2.2.2.1 x.2.2.2.2.2.2.2.2.2.2.2.2.2.2.2.2.2.2.2.1 x.2.2.2.2.2.2.2.2.2.2.2.2.2.2.2.2.2.2.2.2.1 x.2.2.2.2.2.2.2.2.2.2.2.2.2.2.2.2.2.2.2.2.2
def p5Q{α0 α1 α2 α3 α4 β:Type}(x:α0×α1×α2×α3×α4×β):β:=x.2.2.2.2.2
def p6Q{α0 α1 α2 α3 α4 α5 β:Type}(x:α0×α1×α2×α3×α4×α5×β):β:=x.2.2.2.2.2.2
def p7Q{α0 α1 α2 α3 α4 α5 α6 β:Type}(x:α0×α1×α2×α3×α4×α5×α6×β):β:=x.2.2.2.2.2.2.2
def p8Q{α0 α1 α2 α3 α4 α5 α6 α7 β:Type}(x:α0×α1×α2×α3×α4×α5×α6×α7×β):β:=x.2.2.2.2.2.2.2.2
def p9Q{α0 α1 α2 α3 α4 α5 α6 α7 α8 β:Type}(x:α0×α1×α2×α3×α4×α5×α6×α7×α8×β):β:=x.2.2.2.2.2.2.2.2.2
def zlr{α0 α1 α2 α3 α4 α5 α6 α7 α8 α9 β:Type}(x:α0×α1×α2×α3×α4×α5×α6×α7×α8×α9×β):β:=x.2.2.2.2.2.2.2.2.2.2
def zls{α0 α1 α2 α3 α4 α5 α6 α7 α8 α9 α10 β:Type}(x:α0×α1×α2×α3×α4×α5×α6×α7×α8×α9×α10×β):β:=x.2.2.2.2.2.2.2.2.2.2.2
def zlt{α0 α1 α2 α3 α4 α5 α6 α7 α8 α9 α10 α11 β:Type}(x:α0×α1×α2×α3×α4×α5×α6×α7×α8×α9×α10×α11×β):β:=x.2.2.2.2.2.2.2.2.2.2.2.2
def zp4{α0 α1 α2 α3 α4 α5 α6 α7 α8 α9 α10 α11 α12 β:Type}(x:α0×α1×α2×α3×α4×α5×α6×α7×α8×α9×α10×α11×α12×β):β:=x.2.2.2.2.2.2.2.2.2.2.2.2.2
def zp5{α0 α1 α2 α3 α4 α5 α6 α7 α8 α9 α10 α11 α12 α13 β:Type}(x:α0×α1×α2×α3×α4×α5×α6×α7×α8×α9×α10×α11×α12×α13×β):β:=x.2.2.2.2.2.2.2.2.2.2.2.2.2.2
def zum{α0 α1 α2 α3 α4 α5 α6 α7 α8 α9 α10 α11 α12 α13 α14 β:Type}(x:α0×α1×α2×α3×α4×α5×α6×α7×α8×α9×α10×α11×α12×α13×α14×β):β:=x.2.2.2.2.2.2.2.2.2.2.2.2.2.2.2
def zMo{α0 α1 α2 α3 α4 α5 α6 α7 α8 α9 α10 α11 α12 α13 α14 α15 β:Type}(x:α0×α1×α2×α3×α4×α5×α6×α7×α8×α9×α10×α11×α12×α13×α14×α15×β):β:=x.2.2.2.2.2.2.2.2.2.2.2.2.2.2.2.2
def zMp{α0 α1 α2 α3 α4 α5 α6 α7 α8 α9 α10 α11 α12 α13 α14 α15 α16 β:Type}(x:α0×α1×α2×α3×α4×α5×α6×α7×α8×α9×α10×α11×α12×α13×α14×α15×α16×β):β:=x.2.2.2.2.2.2.2.2.2.2.2.2.2.2.2.2.2
def zTx{α0 α1 α2 α3 α4 α5 α6 α7 α8 α9 α10 α11 α12 α13 α14 α15 α16 α17 β:Type}(x:α0×α1×α2×α3×α4×α5×α6×α7×α8×α9×α10×α11×α12×α13×α14×α15×α16×α17×β):β:=x.2.2.2.2.2.2.2.2.2.2.2.2.2.2.2.2.2.2
def zTy{α0 α1 α2 α3 α4 α5 α6 α7 α8 α9 α10 α11 α12 α13 α14 α15 α16 α17 α18 β:Type}(x:α0×α1×α2×α3×α4×α5×α6×α7×α8×α9×α10×α11×α12×α13×α14×α15×α16×α17×α18×β):β:=x.2.2.2.2.2.2.2.2.2.2.2.2.2.2.2.2.2.2.2
def zZ2{α0 α1 α2 α3 α4 α5 α6 α7 α8 α9 α10 α11 α12 α13 α14 α15 α16 α17 α18 α19 β:Type}(x:α0×α1×α2×α3×α4×α5×α6×α7×α8×α9×α10×α11×α12×α13×α14×α15×α16×α17×α18×α19×β):β:=x.2.2.2.2.2.2.2.2.2.2.2.2.2.2.2.2.2.2.2.2
def p21Q{α0 α1 α2 α3 α4 α5 α6 α7 α8 α9 α10 α11 α12 α13 α14 α15 α16 α17 α18 α19 α20 β:Type}(x:α0×α1×α2×α3×α4×α5×α6×α7×α8×α9×α10×α11×α12×α13×α14×α15×α16×α17×α18×α19×α20×β):β:=x.2.2.2.2.2.2.2.2.2.2.2.2.2.2.2.2.2.2.2.2.2
def p22Q{α0 α1 α2 α3 α4 α5 α6 α7 α8 α9 α10 α11 α12 α13 α14 α15 α16 α17 α18 α19 α20 α21 β:Type}(x:α0×α1×α2×α3×α4×α5×α6×α7×α8×α9×α10×α11×α12×α13×α14×α15×α16×α17×α18×α19×α20×α21×β):β:=x.2.2.2.2.2.2.2.2.2.2.2.2.2.2.2.2.2.2.2.2.2.2
def p23Q{α0 α1 α2 α3 α4 α5 α6 α7 α8 α9 α10 α11 α12 α13 α14 α15 α16 α17 α18 α19 α20 α21 α22 β:Type}(x:α0×α1×α2×α3×α4×α5×α6×α7×α8×α9×α10×α11×α12×α13×α14×α15×α16×α17×α18×α19×α20×α21×α22×β):β:=x.2.2.2.2.2.2.2.2.2.2.2.2.2.2.2.2.2.2.2.2.2.2.2
def p24Q{α0 α1 α2 α3 α4 α5 α6 α7 α8 α9 α10 α11 α12 α13 α14 α15 α16 α17 α18 α19 α20 α21 α22 α23 β:Type}(x:α0×α1×α2×α3×α4×α5×α6×α7×α8×α9×α10×α11×α12×α13×α14×α15×α16×α17×α18×α19×α20×α21×α22×α23×β):β:=x.2.2.2.2.2.2.2.2.2.2.2.2.2.2.2.2.2.2.2.2.2.2.2.2
def p25Q{α0 α1 α2 α3 α4 α5 α6 α7 α8 α9 α10 α11 α12 α13 α14 α15 α16 α17 α18 α19 α20 α21 α22 α23 α24 β:Type}(x:α0×α1×α2×α3×α4×α5×α6×α7×α8×α9×α10×α11×α12×α13×α14×α15×α16×α17×α18×α19×α20×α21×α22×α23×α24×β):β:=x.2.2.2.2.2.2.2.2.2.2.2.2.2.2.2.2.2.2.2.2.2.2.2.2.2
def p26Q{α0 α1 α2 α3 α4 α5 α6 α7 α8 α9 α10 α11 α12 α13 α14 α15 α16 α17 α18 α19 α20 α21 α22 α23 α24 α25 β:Type}(x:α0×α1×α2×α3×α4×α5×α6×α7×α8×α9×α10×α11×α12×α13×α14×α15×α16×α17×α18×α19×α20×α21×α22×α23×α24×α25×β):β:=x.2.2.2.2.2.2.2.2.2.2.2.2.2.2.2.2.2.2.2.2.2.2.2.2.2.2
def p27Q{α0 α1 α2 α3 α4 α5 α6 α7 α8 α9 α10 α11 α12 α13 α14 α15 α16 α17 α18 α19 α20 α21 α22 α23 α24 α25 α26 β:Type}(x:α0×α1×α2×α3×α4×α5×α6×α7×α8×α9×α10×α11×α12×α13×α14×α15×α16×α17×α18×α19×α20×α21×α22×α23×α24×α25×α26×β):β:=x.2.2.2.2.2.2.2.2.2.2.2.2.2.2.2.2.2.2.2.2.2.2.2.2.2.2.2
def p28Q{α0 α1 α2 α3 α4 α5 α6 α7 α8 α9 α10 α11 α12 α13 α14 α15 α16 α17 α18 α19 α20 α21 α22 α23 α24 α25 α26 α27 β:Type}(x:α0×α1×α2×α3×α4×α5×α6×α7×α8×α9×α10×α11×α12×α13×α14×α15×α16×α17×α18×α19×α20×α21×α22×α23×α24×α25×α26×α27×β):β:=x.2.2.2.2.2.2.2.2.2.2.2.2.2.2.2.2.2.2.2.2.2.2.2.2.2.2.2.2
variable[QL]
def kmp{a b:Prop}(h:a=b)(x:a):b:=h▸x
def zJf{n:Int}(h0:0<=n)(h1:n<256):(((UInt8.ofNat (Int.toNat n)).toNat:Nat):Int)=n:=by
 rw[UInt8.toNat_ofNat'];omega
def zV2{T:Nat}(hT:zzn T)(s:ak)(n:Int)(r:ak)(h:zuj s n=some r):FnA PGq 168 [.ptr 1 0 0,.int .u8 n] [(1,sb T s)] .nili [(1,sb T r)]:=by
 obtain⟨_,h1,h2⟩:=bind_some h;obtain⟨g1,g2,g3⟩:=xl h1;cases h2;have:=zIw hT 1 s (UInt8.ofNat (Int.toNat n)) g3;rw[zJf g1 g2]at this;exact this
def k1:List TC:=[i6,i6,i6,i6]
def k2:List TC:=[i6,i6,i6]
def k3:List TC:=[i6,.s,i6,i6]
def k4:List TC:=[l1Q,l3Q,l5Q,l7Q,l8Q,wi,l9Q,i6]
def h5:List (Nat×TO):=[(900000000,.rw 1),(900000001,.rw 2),(900000002,.rw 3),(900000003,.rw 4)]
def h6(v0 v1 v2 v3 v4:Nat):List (Nat×TO):=[(900000000,.rw 1),(900000001,.rw 2),(900000002,.rw 3),(900000003,.rw 4),(v0,.box 51 [dI v1,.d .s v2,dI v3,dI v4])]
def k7:List TC:=[jN,i6,i6]
def h8(v0:Nat):List (Nat×TO):=[(1,.box 67 [.d jN 0,dI v0])]
def k9:List TC:=[jN,i6,i6,i6]
def h10(v0:Nat):List (Nat×TO):=[(1,.box 67 [.d jN 0,dI v0]),(900000000,.rw 1),(900000001,.rw 2),(900000002,.rw 3),(900000003,.rw 4)]
def h11(v0 v1 v2 v3 v4 v5 v6:Nat):List (Nat×TO):=[(1,.box 67 [.d jN 0,dI v0]),(900000000,.rw 1),(900000001,.rw 2),(900000002,.rw 3),(900000003,.rw 4),(v1,.box 37 [dI v2,dI v3,.d .s v4,.d .s v5,.d l0Q v6])]
abbrev zJg:List (Nat×TO):=(h11 5 1000004 2 2 3 3 4)
def k12:List TC:=[i6,i6,i6,i6,.s,.s,l0Q]
def k13:List TC:=[i6,i6,i6,.s,.s,l0Q]
def k14:List TC:=[jN,i6,i6,.s,l0Q]
def h15:List (Nat×TO):=[(1,.box 67 [.d jN 0,dI 5]),(900000000,.rw 1),(900000001,.rw 2),(900000002,.rw 3),(900000003,.rw 4),(1000004,.box 37 [dI 2,dI 2,.d .s 3,.d .s 3,.d l0Q 4]),(1000005,.box 37 [dI 7,dI 8,.d .s 9,.d .s 10,.d l0Q 11])]
def h16(v0 v1 v2 v3 v4 v5 v6 v7 v8 v9 v10:Nat):List (Nat×TO):=[(1,.box 67 [.d jN 0,dI 1]),(900000000,.rw 1),(900000001,.rw 2),(900000002,.rw 3),(900000003,.rw 4),(1000004,.box 37 [dI v0,dI v0,.d .s v1,.d .s v1,.d l0Q v2]),(1000005,.box 37 [dI v3,dI v4,.d .s v5,.d .s v6,.d l0Q v7]),(1000007,.box 184 [.d .s v8,dI v9,dI v10])]
def k17:List TC:=[jN,i6,i6,i6,zp3,i6,i6,.s,l0Q,i6,i6,.s,.s,l0Q]
def k18:List TC:=[jN,i6,i6,i6,zp3,i6,i6,i6,.s,l0Q,i6,i6,.s,.s,l0Q]
def k19:List TC:=[jN,i6,i6,i6,.s,l0Q,i6,i6,.s,.s,l0Q,.s,i6,i6]
def h20(v0 v1 v2 v3 v4 v5:Nat):List (Nat×TO):=[(1,.box 67 [.d jN 0,dI v0]),(2,.box 78 [.ptr 1 0]),(3,.box 37 [dI v1,dI v2,.d .s v3,.d .s v4,.d l0Q v5])]
abbrev zJh:List (Nat×TO):=((h20 1 2 3 4 5 6)++h5)
def k21:List TC:=[jN,i6,i6,i6,.s,.s,l0Q]
def k22:List TC:=[i6,i6,i6,i6,i6,.s,.s,l0Q]
def h23(v0 v1 v2 v3 v4 v5:Nat):List (Nat×TO):=[(900000000,.rw 1),(900000001,.rw 2),(900000002,.rw 3),(900000003,.rw 4),(v0,.box 37 [dI v1,dI v2,.d .s v3,.d .s v4,.d l0Q v5])]
def h24(v0 v1 v2 v3 v4 v5:Nat):List (Nat×TO):=[(900000000,.rw 1),(900000001,.rw 2),(900000002,.rw 3),(900000003,.rw 4),(1000002,.box 37 [dI v0,dI v1,.d .s v2,.d .s v3,.d l0Q v4]),(1000005,.box 37 [dI v0,dI 7,.d .s 8,.d .s v5,.d l0Q v4])]
def h25(v0 v1 v2 v3 v4 v5:Nat):List (Nat×TO):=[(v0,.box 37 [dI v1,dI v2,.d .s v3,.d .s v4,.d l0Q v5])]
def h26(v0 v1:Nat):List (Nat×TO):=[(1,.gn v0 .s v1),(900000000,.rw 1),(900000001,.rw 2),(900000002,.rw 3),(900000003,.rw 4)]
def h27:List (Nat×TO):=[(1,.gn 0 .s 7),(900000000,.rw 1),(900000001,.rw 2),(900000002,.rw 3),(900000003,.rw 4),(1000004,.box 37 [dI 1,dI 2,.d .s 3,.d .s 4,.d l0Q 5]),(1000090,.row 9 .s 6 false)]
def h28:List (Nat×TO):=[(1,.gn 0 .s 0),(900000000,.rw 1),(900000001,.rw 2),(900000002,.rw 3),(900000003,.rw 4),(1000004,.box 37 [dI 3,dI 4,.d .s 5,.d .s 6,.d l0Q 7])]
def h29(v0 v1 v2 v3 v4 v5 v6 v7 v8 v9 v10 v11 v12 v13 v14 v15:Nat):List (Nat×TO):=[(1,.box 71 [.d jN 0,dI v0,.row 6 2,.row 3 3,.row 3 4,.row 20 5,.row 4 6,.row 6 7,.nrow 3 8,dI v1,.om 9,.om 10,.om 11,.om 12,.om 13,.om 14,.d .b v2]),(2,.row 57 (.st 1) v3 false),(3,.row 87 (.st 3) v4 false),(4,.row 64 (.st 5) v5 false),(5,.row 94 (.st 7) v6 false),(6,.row 96 (.st 8) v7 false),(7,.row 100 (.st 10) v8 false),(8,.row 98 (.st 9) v9 false),(9,.gn 7 mBQ v10),(10,.gn 7 mBQ v11),(11,.gn 7 mBQ v12),(12,.gn 7 mBQ v13),(13,.gn 7 mBQ v14),(14,.gn 7 mBQ v15)]
abbrev zV3:List (Nat×TO):=((h29 19 1 2 3 4 5 6 7 8 9 10 11 12 13 14 15)++h5++(h25 1000004 16 16 17 17 18))
abbrev zJi:List (Nat×TO):=(h29 15 1 2 3 4 5 6 7 8 16 9 10 11 12 13 14)
abbrev zTz:List (Nat×TO):=(h29 18 9 16 2 3 4 5 6 7 8 10 11 12 13 14 15)
abbrev zT0:List (Nat×TO):=(h29 19 9 16 2 3 4 5 6 7 8 10 11 12 13 14 15)
abbrev zZ3:List (Nat×TO):=((h29 20 1 2 3 4 5 6 7 8 9 10 11 12 13 14 15)++h5++(h25 1000004 17 17 18 18 19))
abbrev zMq:List (Nat×TO):=(h29 16 1 2 3 4 5 6 7 8 9 10 11 12 13 14 15)
abbrev zlu:List (Nat×TO):=(h29 1 2 3 4 5 6 7 8 9 10 11 12 13 14 15 16)
abbrev vi:List (Nat×TO):=(h29 1 9 16 2 3 4 5 6 7 8 10 11 12 13 14 15)
def k30:List TC:=[jN,i6,l1Q,l3Q,l5Q,l7Q,l8Q,wi,l9Q,i6,mBQ,mBQ,mBQ,mBQ,mBQ,mBQ,.b]
def h31(v0 v1 v2 v3 v4:Nat):List (Nat×TO):=[(v0,.box 51 [dI v1,.d .s v2,dI v3,dI v4])]
def k32:List TC:=[jN,i6,l1Q,l3Q,l5Q,l7Q,l8Q,wi,l9Q,i6,mBQ,mBQ,mBQ,mBQ,mBQ,mBQ,.b,.b,i6]
def k33:List TC:=[jN,i6,l1Q,l3Q,l5Q,l7Q,l8Q,wi,l9Q,i6,mBQ,mBQ,mBQ,mBQ,mBQ,mBQ,.b,i6,i6]
def k34:List TC:=[.s,i6,mBQ]
def h35(v0 v1 v2 v3 v4 v5 v6 v7 v8 v9 v10:Nat):List (Nat×TO):=[(1,.box 71 [.d jN 0,dI v0,.row 6 2,.row 3 3,.row 3 4,.row 20 5,.row 4 6,.row 6 7,.nrow 3 8,dI v1,.om v2,.om 10,.om 11,.om 12,.om 13,.om 14,.d .b v3]),(2,.row 57 (.st 1) v4 false),(3,.row 87 (.st 3) v5 false),(4,.row 64 (.st 5) v6 false),(5,.row 94 (.st 7) v7 false),(6,.row 96 (.st 8) v8 false),(7,.row 100 (.st 10) v9 false),(8,.row 98 (.st 9) v10 false),(9,.rw 0),(10,.gn 7 mBQ 11),(11,.gn 7 mBQ 12),(12,.gn 7 mBQ 13),(13,.gn 7 mBQ 14),(14,.gn 7 mBQ 15)]
def h36(v0 v1:Nat):List (Nat×TO):=[(v0,.gn 7 mBQ v1)]
def k37:List TC:=[jN,i6,i6,.b,l1Q,l3Q,l5Q,l7Q,l8Q,wi,l9Q,mBQ,mBQ,mBQ,mBQ,mBQ,i6]
def k38:List TC:=[jN,i6,l1Q,l3Q,l5Q,l7Q,l8Q,wi,l9Q,i6,mBQ,mBQ,mBQ,mBQ,mBQ,mBQ,.b,.s]
def k39:List TC:=[jN,i6,i6,.b,l1Q,l3Q,l5Q,l7Q,l8Q,wi,l9Q,mBQ,mBQ,mBQ,mBQ,mBQ,mBQ,i6]
def k40:List TC:=[jN,i6,l1Q,l3Q,l5Q,l7Q,l8Q,wi,l9Q,i6,mBQ,mBQ,mBQ,mBQ,mBQ,mBQ,.b,i6]
def k41:List TC:=[jN,i6,.b,l1Q,l3Q,l5Q,l7Q,l8Q,wi,l9Q,mBQ,mBQ,mBQ,mBQ,mBQ,mBQ,i6,i6,.s,l0Q]
def k42:List TC:=[jN,i6,.b,l1Q,l3Q,l5Q,l7Q,l8Q,wi,l9Q,mBQ,mBQ,mBQ,mBQ,mBQ,mBQ,i6,.s,l0Q]
def h43(v0 v1 v2 v3 v4 v5 v6 v7 v8 v9 v10 v11:Nat):List (Nat×TO):=[(v0,.box 37 [dI v1,dI v2,.d .s v3,.d .s v4,.d l0Q v5]),(v6,.box 37 [dI v7,dI v8,.d .s v9,.d .s v10,.d l0Q v11])]
abbrev zV4:List (Nat×TO):=((h29 20 1 2 3 4 5 6 7 8 9 10 11 12 13 14 15)++h5++(h43 1000004 17 17 18 18 19 1000005 22 23 24 25 26))
def h44(v0 v1 v2 v3 v4 v5 v6 v7 v8 v9 v10:Nat):List (Nat×TO):=[(1000004,.box 37 [dI v0,dI v0,.d .s v1,.d .s v1,.d l0Q v2]),(1000005,.box 37 [dI v3,dI v4,.d .s v5,.d .s v6,.d l0Q v7]),(1000007,.box 184 [.d .s v8,dI v9,dI v10])]
def k45:List TC:=[jN,i6,i6,.b,l1Q,l3Q,l5Q,l7Q,l8Q,wi,l9Q,mBQ,mBQ,mBQ,mBQ,mBQ,mBQ,i6,i6,zp3,i6,i6,.s,l0Q,i6,i6,.s,.s,l0Q]
def k46:List TC:=[jN,i6,i6,.b,l1Q,l3Q,l5Q,l7Q,l8Q,wi,l9Q,mBQ,mBQ,mBQ,mBQ,mBQ,mBQ,i6,i6,zp3,i6,i6,i6,.s,l0Q,i6,i6,.s,.s,l0Q]
def k47:List TC:=[jN,i6,i6,.b,l1Q,l3Q,l5Q,l7Q,l8Q,wi,l9Q,mBQ,mBQ,mBQ,mBQ,mBQ,mBQ,i6,i6,.s,l0Q,i6,i6,.s,.s,l0Q,.s,i6,i6]
def h48(v0 v1 v2 v3 v4 v5 v6 v7 v8 v9 v10 v11 v12 v13 v14 v15:Nat):List (Nat×TO):=[(1,.box 71 [.d jN 0,dI v0,.row 6 2,.row 3 3,.row 3 4,.row 20 5,.row 4 6,.row 6 7,.nrow 3 8,dI v1,.om 9,.om v2,.om 11,.om 12,.om 13,.om 14,.d .b v3]),(2,.row 57 (.st 1) v4 false),(3,.row 87 (.st 3) v5 false),(4,.row 64 (.st 5) v6 false),(5,.row 94 (.st 7) v7 false),(6,.row 96 (.st 8) v8 false),(7,.row 100 (.st 10) v9 false),(8,.row 98 (.st 9) v10 false),(9,.gn 7 mBQ v11),(10,.rw 0),(11,.gn 7 mBQ v12),(12,.gn 7 mBQ v13),(13,.gn 7 mBQ v14),(14,.gn 7 mBQ v15)]
abbrev zV5:List (Nat×TO):=((h48 1 2 7000001 3 4 5 6 7 8 9 10 11 12 13 14 15)++h5++(h36 7000001 17))
abbrev zJj:List (Nat×TO):=(h48 18 1 103000500 2 3 4 5 6 7 8 9 10 11 12 13 14)
def h49(v0 v1:Nat):List (Nat×TO):=[(1,.box 71 [.d jN 0,dI v0,.row 6 2,.row 3 3,.row 3 4,.row 20 5,.row 4 6,.row 6 7,.nrow 3 8,dI 9,.om 9,.om 10,.om 11,.om 12,.om 13,.om 14,.d .b 16]),(2,.row 57 (.st 1) 2 false),(3,.row 87 (.st 3) 3 false),(4,.row 64 (.st 5) 4 false),(5,.row 94 (.st 7) 5 false),(6,.row 96 (.st 8) 6 false),(7,.row 100 (.st 10) 7 false),(8,.row 98 (.st 9) 8 false),(9,.gn 7 mBQ 10),(10,.gn 7 mBQ 11),(11,.gn 7 mBQ 12),(12,.gn 7 mBQ 13),(13,.gn 7 mBQ 14),(14,.gn 7 mBQ 15),(15,.map .s .b v1)]
def k50:List TC:=[jN,i6,l1Q,l3Q,l5Q,l7Q,l8Q,wi,l9Q,i6,mBQ,mBQ,mBQ,mBQ,mBQ,mBQ,.b,.m .s .b]
def h51:List (Nat×TO):=[(103000500,.gn 7 mBQ 15),(1000002,.box 87 [.d .s 16,.row 2 1001000002001,dI 17]),(1000007,.map .s .b 19),(1001000002001,.row 119 (.st 2) 20 false)]
def k52:List TC:=[jN,i6,.b,l1Q,l3Q,l5Q,l7Q,l8Q,wi,l9Q,mBQ,mBQ,mBQ,mBQ,mBQ,mBQ,.s,i6]
def h53:List (Nat×TO):=[(103000500,.gn 7 mBQ 15),(1000002,.box 87 [.d .s 16,.row 2 1001000002001,dI 17]),(1001000002001,.row 119 (.st 2) 19 false)]
def h54(v0 v1 v2 v3 v4 v5 v6 v7 v8 v9 v10 v11 v12:Nat):List (Nat×TO):=[(1,.box 71 [.d jN 0,dI v0,.row 6 2,.row 3 3,.row 3 4,.row 20 5,.row 4 6,.row 6 7,.nrow 3 8,dI v1,.om 9,.om 10,.om v2,.om 12,.om 13,.om 14,.d .b v3]),(2,.row 57 (.st 1) v4 false),(3,.row 87 (.st 3) v5 false),(4,.row 64 (.st 5) v6 false),(5,.row 94 (.st 7) v7 false),(6,.row 96 (.st 8) v8 false),(7,.row 100 (.st 10) v9 false),(8,.row 98 (.st 9) v10 false),(9,.gn 7 mBQ v11),(10,.gn 7 mBQ v12),(11,.rw 0),(12,.gn 7 mBQ 13),(13,.gn 7 mBQ 14),(14,.gn 7 mBQ 15)]
abbrev zV6:List (Nat×TO):=((h54 1 2 7000001 3 4 5 6 7 8 9 10 11 12)++h5++(h36 7000001 17))
def k55:List TC:=[jN,i6,.b,l1Q,l3Q,l5Q,l7Q,l8Q,wi,l9Q,mBQ,mBQ,mBQ,mBQ,mBQ,mBQ]
def h56(v0 v1 v2 v3 v4 v5 v6 v7 v8 v9 v10 v11 v12 v13 v14 v15:Nat):List (Nat×TO):=[(1,.box 71 [.d jN 0,dI v0,.row 6 2,.row 3 3,.row 3 4,.row 20 5,.row 4 6,.row 6 7,.nrow 3 8,dI v1,.om 9,.om 10,.om 11,.om v2,.om 13,.om 14,.d .b v3]),(2,.row 57 (.st 1) v4 false),(3,.row 87 (.st 3) v5 false),(4,.row 64 (.st 5) v6 false),(5,.row 94 (.st 7) v7 false),(6,.row 96 (.st 8) v8 false),(7,.row 100 (.st 10) v9 false),(8,.row 98 (.st 9) v10 false),(9,.gn 7 mBQ v11),(10,.gn 7 mBQ v12),(11,.gn 7 mBQ v13),(12,.rw 0),(13,.gn 7 mBQ v14),(14,.gn 7 mBQ v15)]
abbrev zV7:List (Nat×TO):=((h56 1 2 7000001 3 4 5 6 7 8 9 10 11 12 13 14 15)++h5++(h36 7000001 17))
abbrev zJk:List (Nat×TO):=(h56 22 1 103000400 2 3 4 5 6 7 8 9 10 11 12 13 14)
abbrev zZ4:List (Nat×TO):=(h56 23 1 103000400 2 3 4 5 6 7 8 9 10 11 12 13 14)
def h57(v0 v1:Nat):List (Nat×TO):=[(v0,.row 9 .s v1 false)]
def k58:List TC:=[jN,i6,i6,.b,l1Q,l3Q,l5Q,l7Q,l8Q,wi,l9Q,mBQ,mBQ,mBQ,mBQ,mBQ,mBQ,i6,i6]
def h59(v0 v1 v2 v3 v4 v5 v6 v7 v8 v9 v10 v11 v12 v13 v14 v15 v16 v17 v18:Nat):List (Nat×TO):=[(103000400,.gn 7 mBQ 15),(1000002,.box 94 [.d .s 16,.d lsQ v0,.d lsQ v1,dI v2,dI v3,dI v4,.d .b v5,dI v6,dI v7,dI v8,.d .s v9,.d .s v10,.d l0Q v11,dI v12,dI v13,dI v14,dI v15,dI v16,dI v17,dI v18])]
abbrev zV8:List (Nat×TO):=((h56 24 1 103000400 2 3 4 5 6 7 8 9 10 11 12 13 14)++h5++(h59 17 18 19 25 20 21 20 20 20 22 22 23 20 20 20 20 20 20 20))
abbrev zV9:List (Nat×TO):=((h56 25 1 103000400 2 3 4 5 6 7 8 9 10 11 12 13 14)++h5++(h59 17 18 19 20 26 21 22 22 22 23 23 24 22 22 22 22 22 22 22))
def k60:List TC:=[jN,i6,.b,l1Q,l3Q,l5Q,l7Q,l8Q,wi,l9Q,mBQ,mBQ,mBQ,mBQ,mBQ,mBQ,.s,lsQ,i6,.b,.s,l0Q]
def k61:List TC:=[jN,i6,.b,l1Q,l3Q,l5Q,l7Q,l8Q,wi,l9Q,mBQ,mBQ,mBQ,mBQ,mBQ,mBQ,.s,lsQ,lsQ,i6,.b,.s,l0Q]
def k62:List TC:=[jN,i6,.b,l1Q,l3Q,l5Q,l7Q,l8Q,wi,l9Q,mBQ,mBQ,mBQ,mBQ,mBQ,mBQ,.s,lsQ,lsQ,i6,i6,.b,.s,l0Q]
def k63:List TC:=[jN,i6,.b,l1Q,l3Q,l5Q,l7Q,l8Q,wi,l9Q,mBQ,mBQ,mBQ,mBQ,mBQ,mBQ,.s,lsQ,lsQ,i6,i6,.b,i6,.s,l0Q]
def k64:List TC:=[jN,i6,.b,l1Q,l3Q,l5Q,l7Q,l8Q,wi,l9Q,mBQ,mBQ,mBQ,mBQ,mBQ,mBQ,.s,lsQ,lsQ,i6,i6,i6,.b]
def k65:List TC:=[i6,i6,i6,i6,.s,.s,l0Q,i6,i6,i6,i6,i6,i6,i6]
def h66(v0 v1 v2 v3 v4 v5 v6 v7 v8 v9 v10 v11 v12 v13 v14:Nat):List (Nat×TO):=[(1,.box 71 [.d jN 0,dI v0,.row 6 2,.row 3 3,.row 3 4,.row 20 5,.row 4 6,.row 6 7,.nrow 3 8,dI v1,.om 9,.om 10,.om 11,.om 12,.om v2,.om 14,.d .b v3]),(2,.row 57 (.st 1) v4 false),(3,.row 87 (.st 3) v5 false),(4,.row 64 (.st 5) v6 false),(5,.row 94 (.st 7) v7 false),(6,.row 96 (.st 8) v8 false),(7,.row 100 (.st 10) v9 false),(8,.row 98 (.st 9) v10 false),(9,.gn 7 mBQ v11),(10,.gn 7 mBQ v12),(11,.gn 7 mBQ v13),(12,.gn 7 mBQ v14),(13,.rw 0),(14,.gn 7 mBQ 15)]
abbrev zWa:List (Nat×TO):=((h66 1 2 7000001 3 4 5 6 7 8 9 10 11 12 13 14)++h5++(h36 7000001 17))
def h67(v0 v1 v2 v3 v4 v5 v6 v7 v8 v9 v10 v11 v12 v13 v14 v15:Nat):List (Nat×TO):=[(1,.box 71 [.d jN 0,dI v0,.row 6 2,.row 3 3,.row 3 4,.row 20 5,.row 4 6,.row 6 7,.nrow 3 8,dI v1,.om 9,.om 10,.om 11,.om 12,.om 13,.om v2,.d .b v3]),(2,.row 57 (.st 1) v4 false),(3,.row 87 (.st 3) v5 false),(4,.row 64 (.st 5) v6 false),(5,.row 94 (.st 7) v7 false),(6,.row 96 (.st 8) v8 false),(7,.row 100 (.st 10) v9 false),(8,.row 98 (.st 9) v10 false),(9,.gn 7 mBQ v11),(10,.gn 7 mBQ v12),(11,.gn 7 mBQ v13),(12,.gn 7 mBQ v14),(13,.gn 7 mBQ v15),(14,.rw 0)]
abbrev zWb:List (Nat×TO):=((h67 1 2 7000001 3 4 5 6 7 8 9 10 11 12 13 14 15)++h5++(h36 7000001 17))
def h68:List (Nat×TO):=[(103000400,.gn 7 mBQ 15),(1000002,.box 100 [.d .s 16,dI 17,dI 18,dI 19,dI 20,.row 3 1001000002005]),(1001000002005,.row 98 (.st 9) 22 false)]
abbrev zZ5:List (Nat×TO):=((h67 21 1 103000400 2 3 4 5 6 7 8 9 10 11 12 13 14)++h5++h68)
def k69:List TC:=[jN,i6,.b,l1Q,l3Q,l5Q,l7Q,l8Q,wi,l9Q,mBQ,mBQ,mBQ,mBQ,mBQ,mBQ,.s,i6,i6,i6,i6]
def k70:List TC:=[jN,i6,.b,l1Q,l3Q,l5Q,l7Q,l8Q,wi,mBQ,mBQ,mBQ,mBQ,mBQ,mBQ]
def k71:List TC:=[jN,i6,i6,.b,l1Q,l3Q,l5Q,l7Q,l8Q,wi,l9Q,mBQ,mBQ,mBQ,mBQ,mBQ,mBQ]
def h72(v0 v1 v2 v3 v4 v5 v6 v7 v8 v9 v10 v11 v12 v13 v14 v15:Nat):List (Nat×TO):=[(1,.box 71 [.d jN 0,dI v0,.row 6 2,.row 3 3,.row 3 4,.row 20 5,.row 4 6,.row 6 7,.nrow 3 8,dI v1,.om v2,.om v3,.om v4,.om v5,.om v6,.om v7,.d .b v8]),(2,.row 57 (.st 1) v9 false),(3,.row 87 (.st 3) v10 false),(4,.row 64 (.st 5) v11 false),(5,.row 94 (.st 7) v12 false),(6,.row 96 (.st 8) v13 false),(7,.row 100 (.st 10) v14 false),(8,.row 98 (.st 9) v15 false),(9,.rw 0),(10,.rw 0),(11,.rw 0),(12,.rw 0),(13,.rw 0),(14,.rw 0)]
def h73(v0 v1 v2 v3 v4 v5 v6 v7 v8 v9 v10 v11:Nat):List (Nat×TO):=[(v0,.gn 7 mBQ v1),(v2,.gn 7 mBQ v3),(v4,.gn 7 mBQ v5),(v6,.gn 7 mBQ v7),(v8,.gn 7 mBQ v9),(v10,.gn 7 mBQ v11)]
abbrev zZ6:List (Nat×TO):=((h72 1 2 7000001 7000002 7000003 7000004 7000005 7000006 3 4 5 6 7 8 9 10)++h5++(h73 7000001 11 7000002 12 7000003 13 7000004 14 7000005 15 7000006 16))
def k74:List TC:=[i6,i6,.b,l1Q,l3Q,l5Q,l7Q,l8Q,wi,l9Q,mBQ,mBQ,mBQ,mBQ,mBQ,mBQ]
def h75(v0 v1 v2 v3 v4 v5 v6 v7 v8 v9 v10 v11 v12 v13 v14:Nat):List (Nat×TO):=[(900000000,.rw 1),(900000001,.rw 2),(900000002,.rw 3),(900000003,.rw 4),(v0,.box 31 [.row 6 v1,.row 3 v2,.row 3 v3,.row 20 v4,.row 4 v5,.row 6 v6,.d l9Q v7,dI v8]),(v1,.row 57 (.st 1) v9 false),(v2,.row 87 (.st 3) v10 false),(v3,.row 64 (.st 5) v11 false),(v4,.row 94 (.st 7) v12 false),(v5,.row 96 (.st 8) v13 false),(v6,.row 100 (.st 10) v14 false)]
def k76:List TC:=[i6,i6,l9Q,i6,l1Q,l3Q,l5Q,l7Q,l8Q,wi]
def h77(v0:Nat):List (Nat×TO):=[(900000000,.rw 1),(900000001,.rw 2),(900000002,.rw 3),(900000003,.rw 4),(7000001,.row 9 .s v0 false)]
def h78(v0 v1 v2 v3 v4 v5 v6 v7 v8 v9 v10 v11 v12 v13 v14 v15 v16 v17 v18 v19 v20 v21 v22 v23 v24 v25 v26 v27 v28 v29 v30 v31 v32 v33 v34 v35 v36 v37 v38 v39:Nat):List (Nat×TO):=[(1000002,.box 94 [.d .s v0,.d lsQ v1,.d lsQ v2,dI v3,dI v4,dI v5,.d .b v6,dI v7,dI v8,dI v9,.d .s v10,.d .s v11,.d l0Q v12,dI v13,dI v14,dI v15,dI v16,dI v17,dI v18,dI v19]),(1000003,.box 94 [.d .s v20,.d lsQ v21,.d lsQ v22,dI v23,dI v24,dI v25,.d .b v26,dI v27,dI v28,dI v29,.d .s v30,.d .s v31,.d l0Q v32,dI v33,dI v34,dI v35,dI v36,dI v37,dI v38,dI v39])]
abbrev zWc:List (Nat×TO):=(h78 0 1 2 3 4 5 6 7 8 9 10 11 12 13 14 15 16 17 18 19 20 21 22 23 24 25 26 27 28 29 30 31 32 33 34 35 36 37 38 39)
def k79:List TC:=[.s,lsQ,lsQ,i6,i6,i6,.b,i6,i6,i6,.s,.s,l0Q,i6,i6,i6,i6,i6,i6,i6,.s,lsQ,lsQ,i6,i6,i6,.b,i6,i6,i6,.s,.s,l0Q,i6,i6,i6,i6,i6,i6,i6]
def k80:List TC:=[.s,lsQ,lsQ,i6,i6,i6,.b,i6,i6,i6,.s,.s,l0Q,i6,i6,i6,i6,i6,i6,i6]
def h81(v0 v1 v2 v3 v4 v5 v6 v7 v8:Nat):List (Nat×TO):=[(900000000,.rw 1),(900000001,.rw 2),(900000002,.rw 3),(900000003,.rw 4),(v0,.box 31 [.d l1Q v1,.d l3Q v2,.d l5Q v3,.d l7Q v4,.d l8Q v5,.d wi v6,.d l9Q v7,dI v8])]
def k82:List TC:=[l1Q,i6,l3Q,l5Q,l7Q,l8Q,wi,l9Q,i6]
def k83:List TC:=[l3Q,i6,l1Q,l5Q,l7Q,l8Q,wi,l9Q,i6]
def k84:List TC:=[l5Q,i6,l1Q,l3Q,l7Q,l8Q,wi,l9Q,i6]
def k85:List TC:=[l7Q,i6,l1Q,l3Q,l5Q,l8Q,wi,l9Q,i6]
def k86:List TC:=[l8Q,i6,l1Q,l3Q,l5Q,l7Q,wi,l9Q,i6]
def k87:List TC:=[wi,i6,l1Q,l3Q,l5Q,l7Q,l8Q,l9Q,i6]
def h88(v0 v1 v2 v3 v4 v5 v6 v7:Nat):List (Nat×TO):=[(900000000,.rw 1),(900000001,.rw 2),(900000002,.rw 3),(900000003,.rw 4),(1000001,.box 31 [.d l1Q v0,.d l3Q v1,.d l5Q v2,.d l7Q v3,.d l8Q v4,.d wi 0,.d l9Q v5,dI v6]),(1000170,.row 98 (.st 9) v7 false)]
def k89:List TC:=[l9Q,i6,l1Q,l3Q,l5Q,l7Q,l8Q,wi,i6]
def h90(v0 v1 v2 v3 v4 v5 v6 v7 v8 v9 v10 v11 v12 v13 v14 v15 v16 v17 v18 v19 v20 v21:Nat):List (Nat×TO):=[(1,.gn 1 .s v0),(900000000,.rw 1),(900000001,.rw 2),(900000002,.rw 3),(900000003,.rw 4),(1000003,.box 94 [.d .s v1,.d lsQ v2,.d lsQ v3,dI v4,dI v5,dI v6,.d .b v7,dI v8,dI v9,dI v10,.d .s v11,.d .s v12,.d l0Q v13,dI v14,dI v15,dI v16,dI v17,dI v18,dI v19,dI v20]),(1000022,.row 58 lsQ v21 false)]
def h91(v0 v1 v2 v3 v4 v5 v6 v7 v8 v9 v10 v11 v12 v13 v14 v15 v16 v17 v18 v19 v20:Nat):List (Nat×TO):=[(1,.gn 1 .s v0),(900000000,.rw 1),(900000001,.rw 2),(900000002,.rw 3),(900000003,.rw 4),(1000003,.box 94 [.d .s v1,.d lsQ v2,.d lsQ v3,dI v4,dI v5,dI v6,.d .b v7,dI v8,dI v9,dI v10,.d .s v11,.d .s v12,.d l0Q v13,dI v14,dI v15,dI v16,dI v17,dI v18,dI v19,dI v20])]
def h92(v0 v1 v2 v3 v4 v5 v6 v7 v8 v9 v10 v11 v12 v13 v14 v15 v16 v17 v18 v19 v20 v21:Nat):List (Nat×TO):=[(1,.gn 1 .s v0),(900000000,.rw 1),(900000001,.rw 2),(900000002,.rw 3),(900000003,.rw 4),(1000003,.box 94 [.d .s v1,.d lsQ v2,.d lsQ v3,dI v4,dI v5,dI v6,.d .b v7,dI v8,dI v9,dI v10,.d .s v11,.d .s v12,.d l0Q v13,dI v14,dI v15,dI v16,dI v17,dI v18,dI v19,dI v20]),(1000050,.row 3 i6 v21 false)]
def h93(v0 v1 v2 v3 v4 v5 v6 v7 v8 v9 v10 v11 v12 v13 v14 v15 v16 v17 v18 v19 v20 v21:Nat):List (Nat×TO):=[(1,.gn 1 .s v0),(900000000,.rw 1),(900000001,.rw 2),(900000002,.rw 3),(900000003,.rw 4),(1000003,.box 94 [.d .s v1,.d lsQ v2,.d lsQ v3,dI v4,dI v5,dI v6,.d .b v7,dI v8,dI v9,dI v10,.d .s v11,.d .s v12,.d l0Q v13,dI v14,dI v15,dI v16,dI v17,dI v18,dI v19,dI v20]),(103008000,.row 9 .s v21 false)]
def h94(v0 v1 v2 v3 v4 v5 v6 v7 v8:Nat):List (Nat×TO):=[(900000000,.rw 1),(900000001,.rw 2),(900000002,.rw 3),(900000003,.rw 4),(1000001,.box 31 [.d l1Q v0,.d l3Q v1,.d l5Q v2,.d l7Q v3,.d l8Q v4,.d wi v5,.d l9Q v6,dI v7]),(1000028,.gn 1 .s v8)]
def h95(v0:Nat):List (Nat×TO):=[(900000000,.rw 1),(900000001,.rw 2),(900000002,.rw 3),(900000003,.rw 4),(1000001,.box 31 [.d l1Q 5,.d l3Q 0,.d l5Q 6,.d l7Q 7,.d l8Q 8,.d wi 9,.d l9Q 10,dI 11]),(1000028,.gn 1 .s v0),(1000008,.box 87 [.d .s 12,.d l2Q 3,dI 13])]
def k96:List TC:=[.b,l9Q,i6,l1Q,l3Q,l5Q,l7Q,l8Q,wi]
def zWd:List TC:=[i6,l1Q,l3Q,l5Q,l7Q,l8Q,wi,l9Q,i6]
def h120(v0 v1 v2 v3 v4 v5 v6 v7 v8 v9 v10 v11 v12 v13 v14 v15:Nat):List (Nat×TO):=[(1000002,.box 31 [.d l1Q v0,.d l3Q v1,.d l5Q v2,.d l7Q v3,.d l8Q v4,.d wi v5,.d l9Q v6,dI v7]),(1000003,.box 31 [.d l1Q v8,.d l3Q v9,.d l5Q v10,.d l7Q v11,.d l8Q v12,.d wi v13,.d l9Q v14,dI v15])]
def k121:List TC:=[l1Q,l3Q,l5Q,l7Q,l8Q,wi,l9Q,i6,l1Q,l3Q,l5Q,l7Q,l8Q,wi,l9Q,i6]
def h123(v0 v1 v2 v3 v4 v5 v6 v7:Nat):List (Nat×TO):=[(1000001,.box 31 [.d l1Q v0,.d l3Q v1,.d l5Q v2,.d l7Q v3,.d l8Q v4,.d wi v5,.d l9Q v6,dI v7])]
abbrev zx3:List (Nat×TO):=(h123 1 2 3 4 5 6 7 8)
abbrev zzh:List (Nat×TO):=(h123 0 1 2 3 4 5 6 7)
def h124(v0:Nat):List (Nat×TO):=[(1000001,.box 31 [.d l1Q 1,.d l3Q 2,.d l5Q 3,.d l7Q 4,.d l8Q 5,.d wi 6,.d l9Q 7,dI 8]),(v0,.box 87 [.d .s 9,.d l2Q 10,dI 11])]
def k125:List TC:=[i6,l1Q,l3Q,l5Q,l7Q,l8Q,wi,l9Q,i6,.s,l2Q,i6]
def k129:List TC:=[.b,l1Q,l3Q,l5Q,l7Q,l8Q,wi,l9Q,i6,l1Q,l3Q,l5Q,l7Q,l8Q,wi,l9Q,i6]
def zMl:Nat->Type
 |0=>Expr
 |1=>Def
 |2=>Entry
 |3=>Table
 |4=>zV
 |5=>yp
 |6=>zy
 |7=>zO
 |8=>Cap
 |9=>zg
 |10=>View
 |11=>Token
 |12=>zd
 |13=>zI
 |14=>yX
 |_=>Unit
def TS0:Tab where
 T:=zMl
 dflt:=λn=>match n with
  |0=>(default:Expr)
  |1=>(default:Def)
  |2=>(default:Entry)
  |3=>(default:Table)
  |4=>(default:zV)
  |5=>(default:yp)
  |6=>(default:zy)
  |7=>(default:zO)
  |8=>(default:Cap)
  |9=>(default:zg)
  |10=>(default:View)
  |11=>(default:Token)
  |12=>(default:zd)
  |13=>(default:zI)
  |14=>(default:yX)
  |_+15=>()
 fl:=λn=>match n with
  |0=>[i6,i6,.s,.s,l0Q]
  |1=>[.s,.st 0]
  |2=>[.s,i6]
  |3=>[.s,l2Q,i6]
  |4=>[i6,i6]
  |5=>[.s,.b,l4Q]
  |6=>k1
  |7=>[.s,lsQ,lsQ,i6,i6,i6,.b,i6,.st 0,.st 6,i6,i6,i6]
  |8=>[.s,i6,i6,l4Q]
  |9=>k2
  |10=>[.s,.st 9,i6,l9Q]
  |11=>k3
  |12=>[.s,i6,i6]
  |13=>[.st 4,.st 4]
  |14=>k4
  |_+15=>[]
 cn:=λn=>match n with
  |0=>5
  |1=>6
  |2=>2
  |3=>3
  |4=>2
  |5=>3
  |6=>4
  |7=>20
  |8=>4
  |9=>3
  |10=>6
  |11=>4
  |12=>3
  |13=>4
  |14=>8
  |_+15=>0
 out:=λn=>match n with
  |0=>λx=>((x:Expr).Op,(x:Expr).N,(x:Expr).S,(x:Expr).Key,(x:Expr).Args)
  |1=>λx=>((x:Def).Name,(x:Def).Body)
  |2=>λx=>((x:Entry).Name,(x:Entry).N)
  |3=>λx=>((x:Table).Name,(x:Table).Rows,(x:Table).Else)
  |4=>λx=>((x:zV).X,(x:zV).Y)
  |5=>λx=>((x:yp).Name,(x:yp).Overlay,(x:yp).Corners)
  |6=>λx=>((x:zy).Side,(x:zy).Base,(x:zy).Num,(x:zy).Den)
  |7=>λx=>((x:zO).Name,(x:zO).Zones,(x:zO).Except,(x:zO).From,(x:zO).Until,(x:zO).Grace,(x:zO).Vary,(x:zO).Kind,(x:zO).Test,(x:zO).zy,(x:zO).Uses,(x:zO).Other,(x:zO).N)
  |8=>λx=>((x:Cap).Name,(x:Cap).Load,(x:Cap).Limit,(x:Cap).Corners)
  |9=>λx=>((x:zg).X,(x:zg).Y,(x:zg).Z_)
  |10=>λx=>((x:View).Name,(x:View).Eye,(x:View).Least,(x:View).Targets)
  |11=>λx=>((x:Token).Kind,(x:Token).Text,(x:Token).N,(x:Token).Pos)
  |12=>λx=>((x:zd).text,(x:zd).op,(x:zd).form)
  |13=>λx=>((x:zI).a,(x:zI).b)
  |14=>λx=>((x:yX).Defs,(x:yX).Tables,(x:yX).Zones,(x:yX).Rules,(x:yX).Caps,(x:yX).Views,(x:yX).Sun,(x:yX).Hours)
  |_+15=>λ_=>()
 inj:=λn=>match n with
  |0=>λx=>(⟨x.1,x.2.1,x.2.2.1,x.2.2.2.1,x.2.2.2.2⟩:Expr)
  |1=>λx=>(⟨x.1,x.2⟩:Def)
  |2=>λx=>(⟨x.1,x.2⟩:Entry)
  |3=>λx=>(⟨x.1,x.2.1,x.2.2⟩:Table)
  |4=>λx=>(⟨x.1,x.2⟩:zV)
  |5=>λx=>(⟨x.1,x.2.1,x.2.2⟩:yp)
  |6=>λx=>(⟨x.1,x.2.1,x.2.2.1,x.2.2.2⟩:zy)
  |7=>λx=>(⟨x.1,x.2.1,x.2.2.1,x.2.2.2.1,x.2.2.2.2.1,(p5Q x).1,(p6Q x).1,(p7Q x).1,(p8Q x).1,(p9Q x).1,(zlr x).1,(zls x).1,(zlt x)⟩:zO)
  |8=>λx=>(⟨x.1,x.2.1,x.2.2.1,x.2.2.2⟩:Cap)
  |9=>λx=>(⟨x.1,x.2.1,x.2.2⟩:zg)
  |10=>λx=>(⟨x.1,x.2.1,x.2.2.1,x.2.2.2⟩:View)
  |11=>λx=>(⟨x.1,x.2.1,x.2.2.1,x.2.2.2⟩:Token)
  |12=>λx=>(⟨x.1,x.2.1,x.2.2⟩:zd)
  |13=>λx=>(⟨x.1,x.2⟩:zI)
  |14=>λx=>(⟨x.1,x.2.1,x.2.2.1,x.2.2.2.1,x.2.2.2.2.1,(p5Q x).1,(p6Q x).1,(p7Q x)⟩:yX)
  |_+15=>λ_=>()
 enc:=λn=>match n with
  |0=>vv
  |1=>Q6
  |2=>qY
  |3=>oT
  |4=>jC
  |5=>Jg
  |6=>Kp
  |7=>Jh
  |8=>Q7
  |9=>vV
  |10=>Ji
  |11=>V5
  |12=>oU
  |13=>J1
  |14=>Qd
  |_+15=>λ_=>[]
 ro:=λn=>match n with
  |1=>gl0 QL.ob0
  |2=>gl1 QL.ob1
  |3=>gl2 QL.ob2 QL.m2
  |4=>gl3 QL.ob3
  |_=>.gen gone
def goT(i:Nat):(c:TC)->c.ty zMl->EV.Obj
 |.s,x=>sb (bif Nat.beq i 0 then 108 else 123) x
 |.l (.m kc ec),x=>.gen (Ax (List.map (ze0 (vE TS0 kc) (vE TS0 ec)) x))
 |_,_=>.gen gone
def glT:Nat->Option (Nat×Nat×List ak)
 |1=>some (0,200,zgn)
 |_=>none
def gaT:Nat->Option (Nat×Dy zMl×List V)
 |108=>some (0,⟨.s,([]:ak)⟩,[.nilp,.nils])
 |123=>some (1,⟨.s,([]:ak)⟩,[.nilp,.nils])
 |_=>none
def zWe(t i:Nat)(d:Dy zMl)(cs:List V)(h:gaT t=some (i,d,cs))(m:M)(Z:ZM)(w:World)(k:Nat)(hh:EV.Holds m Z w k (.box t cs)):EV.Holds m Z w k (goT i d.1 d.2)/\∀b,blk m (k,goT i d.1 d.2) b->blk m (k,.box t cs) b:=by
 unfold gaT at h;split at h
 ·cases h;exact zCi hh
 ·cases h;exact zCi hh
 ·cases h
def TS:Tab where
 T:=zMl
 dflt:=λn=>match n with
  |0=>(default:Expr)
  |1=>(default:Def)
  |2=>(default:Entry)
  |3=>(default:Table)
  |4=>(default:zV)
  |5=>(default:yp)
  |6=>(default:zy)
  |7=>(default:zO)
  |8=>(default:Cap)
  |9=>(default:zg)
  |10=>(default:View)
  |11=>(default:Token)
  |12=>(default:zd)
  |13=>(default:zI)
  |14=>(default:yX)
  |_+15=>()
 fl:=λn=>match n with
  |0=>[i6,i6,.s,.s,l0Q]
  |1=>[.s,.st 0]
  |2=>[.s,i6]
  |3=>[.s,l2Q,i6]
  |4=>[i6,i6]
  |5=>[.s,.b,l4Q]
  |6=>k1
  |7=>[.s,lsQ,lsQ,i6,i6,i6,.b,i6,.st 0,.st 6,i6,i6,i6]
  |8=>[.s,i6,i6,l4Q]
  |9=>k2
  |10=>[.s,.st 9,i6,l9Q]
  |11=>k3
  |12=>[.s,i6,i6]
  |13=>[.st 4,.st 4]
  |14=>k4
  |_+15=>[]
 cn:=λn=>match n with
  |0=>5
  |1=>6
  |2=>2
  |3=>3
  |4=>2
  |5=>3
  |6=>4
  |7=>20
  |8=>4
  |9=>3
  |10=>6
  |11=>4
  |12=>3
  |13=>4
  |14=>8
  |_+15=>0
 out:=λn=>match n with
  |0=>λx=>((x:Expr).Op,(x:Expr).N,(x:Expr).S,(x:Expr).Key,(x:Expr).Args)
  |1=>λx=>((x:Def).Name,(x:Def).Body)
  |2=>λx=>((x:Entry).Name,(x:Entry).N)
  |3=>λx=>((x:Table).Name,(x:Table).Rows,(x:Table).Else)
  |4=>λx=>((x:zV).X,(x:zV).Y)
  |5=>λx=>((x:yp).Name,(x:yp).Overlay,(x:yp).Corners)
  |6=>λx=>((x:zy).Side,(x:zy).Base,(x:zy).Num,(x:zy).Den)
  |7=>λx=>((x:zO).Name,(x:zO).Zones,(x:zO).Except,(x:zO).From,(x:zO).Until,(x:zO).Grace,(x:zO).Vary,(x:zO).Kind,(x:zO).Test,(x:zO).zy,(x:zO).Uses,(x:zO).Other,(x:zO).N)
  |8=>λx=>((x:Cap).Name,(x:Cap).Load,(x:Cap).Limit,(x:Cap).Corners)
  |9=>λx=>((x:zg).X,(x:zg).Y,(x:zg).Z_)
  |10=>λx=>((x:View).Name,(x:View).Eye,(x:View).Least,(x:View).Targets)
  |11=>λx=>((x:Token).Kind,(x:Token).Text,(x:Token).N,(x:Token).Pos)
  |12=>λx=>((x:zd).text,(x:zd).op,(x:zd).form)
  |13=>λx=>((x:zI).a,(x:zI).b)
  |14=>λx=>((x:yX).Defs,(x:yX).Tables,(x:yX).Zones,(x:yX).Rules,(x:yX).Caps,(x:yX).Views,(x:yX).Sun,(x:yX).Hours)
  |_+15=>λ_=>()
 inj:=λn=>match n with
  |0=>λx=>(⟨x.1,x.2.1,x.2.2.1,x.2.2.2.1,x.2.2.2.2⟩:Expr)
  |1=>λx=>(⟨x.1,x.2⟩:Def)
  |2=>λx=>(⟨x.1,x.2⟩:Entry)
  |3=>λx=>(⟨x.1,x.2.1,x.2.2⟩:Table)
  |4=>λx=>(⟨x.1,x.2⟩:zV)
  |5=>λx=>(⟨x.1,x.2.1,x.2.2⟩:yp)
  |6=>λx=>(⟨x.1,x.2.1,x.2.2.1,x.2.2.2⟩:zy)
  |7=>λx=>(⟨x.1,x.2.1,x.2.2.1,x.2.2.2.1,x.2.2.2.2.1,(p5Q x).1,(p6Q x).1,(p7Q x).1,(p8Q x).1,(p9Q x).1,(zlr x).1,(zls x).1,(zlt x)⟩:zO)
  |8=>λx=>(⟨x.1,x.2.1,x.2.2.1,x.2.2.2⟩:Cap)
  |9=>λx=>(⟨x.1,x.2.1,x.2.2⟩:zg)
  |10=>λx=>(⟨x.1,x.2.1,x.2.2.1,x.2.2.2⟩:View)
  |11=>λx=>(⟨x.1,x.2.1,x.2.2.1,x.2.2.2⟩:Token)
  |12=>λx=>(⟨x.1,x.2.1,x.2.2⟩:zd)
  |13=>λx=>(⟨x.1,x.2⟩:zI)
  |14=>λx=>(⟨x.1,x.2.1,x.2.2.1,x.2.2.2.1,x.2.2.2.2.1,(p5Q x).1,(p6Q x).1,(p7Q x)⟩:yX)
  |_+15=>λ_=>()
 enc:=λn=>match n with
  |0=>vv
  |1=>Q6
  |2=>qY
  |3=>oT
  |4=>jC
  |5=>Jg
  |6=>Kp
  |7=>Jh
  |8=>Q7
  |9=>vV
  |10=>Ji
  |11=>V5
  |12=>oU
  |13=>J1
  |14=>Qd
  |_+15=>λ_=>[]
 ro:=λn=>match n with
  |1=>gl0 QL.ob0
  |2=>gl1 QL.ob1
  |3=>gl2 QL.ob2 QL.m2
  |4=>gl3 QL.ob3
  |_=>.gen gone
 go:=goT
 gl:=glT
 ga:=gaT
 om:=true
def zQu:TS.OK where
 enc_out:=λn x=>match n with
  |0=>by
   show vv x=_
   unfold vv;simp only[j8];rfl
  |1=>rfl
  |2=>rfl
  |3=>rfl
  |4=>rfl
  |5=>rfl
  |6=>rfl
  |7=>rfl
  |8=>rfl
  |9=>rfl
  |10=>rfl
  |11=>rfl
  |12=>rfl
  |13=>rfl
  |14=>rfl
  |_+15=>rfl
 out_mk:=λn h=>match n with
  |0=>rfl
  |1=>rfl
  |2=>rfl
  |3=>rfl
  |4=>rfl
  |5=>rfl
  |6=>rfl
  |7=>rfl
  |8=>rfl
  |9=>rfl
  |10=>rfl
  |11=>rfl
  |12=>rfl
  |13=>rfl
  |14=>rfl
  |_+15=>rfl
 ro0:=rfl
 rren:=λi σ=>match i with|0=>rfl|1=>rfl|2=>rfl|3=>rfl|4=>rfl|_+5=>rfl
 rref:=λi=>match i with|0=>rfl|1=>rfl|2=>rfl|3=>rfl|4=>rfl|_+5=>rfl
 rfrz:=λi k=>match i with|0=>rfl|1=>rfl|2=>rfl|3=>rfl|4=>rfl|_+5=>rfl
 len:=λn x=>match n with
  |0=>rfl
  |1=>rfl
  |2=>rfl
  |3=>rfl
  |4=>rfl
  |5=>rfl
  |6=>rfl
  |7=>rfl
  |8=>rfl
  |9=>rfl
  |10=>rfl
  |11=>rfl
  |12=>rfl
  |13=>rfl
  |14=>rfl
  |_+15=>rfl
 one:=λn x=>match n with
  |0=>rfl
  |1=>rfl
  |2=>rfl
  |3=>rfl
  |4=>rfl
  |5=>rfl
  |6=>rfl
  |7=>rfl
  |8=>rfl
  |9=>rfl
  |10=>rfl
  |11=>rfl
  |12=>rfl
  |13=>rfl
  |14=>rfl
  |_+15=>rfl
 refs:=λn x=>match n with
  |0=>rfl
  |1=>rfl
  |2=>rfl
  |3=>rfl
  |4=>rfl
  |5=>rfl
  |6=>rfl
  |7=>rfl
  |8=>rfl
  |9=>rfl
  |10=>rfl
  |11=>rfl
  |12=>rfl
  |13=>rfl
  |14=>rfl
  |_+15=>rfl
 gren:=λi c x σ=>by cases c with
  |l t=>cases t<;>rfl
  |_=>rfl
 gref:=λi c x=>by cases c with
  |l t=>cases t<;>rfl
  |_=>rfl
 gfrz:=λi c x k=>by cases c with
  |l t=>cases t<;>rfl
  |_=>rfl
 gom:=λ_ kc ec x=>aj
 ggl:=λi c x k=>by cases c with
  |l t=>cases t<;>rfl
  |_=>rfl
 gbox:=λt i d cs h m Z w k hh=>zWe t i d cs h m Z w k hh
 glob:=λi g t l h=>by
  change glT i=some (g,t,l)at h;unfold glT at h;split at h
  ·cases h;exact⟨_,rfl⟩
  ·cases h
def cdT(t:Nat):Option TC:=bif Nat.beq t 3 then some i6 else bif Nat.beq t 4 then some .b else bif Nat.beq t 5 then some (.i .u8)else bif Nat.beq t 9 then some .s else bif Nat.beq t 20 then some (.a 3 9)else bif Nat.beq t 37 then some (.st 0)else bif Nat.beq t 51 then some (.st 11)else bif Nat.beq t 57 then some (.st 1)else bif Nat.beq t 58 then some lsQ else bif Nat.beq t 64 then some (.st 5)else bif Nat.beq t 87 then some (.st 3)else bif Nat.beq t 94 then some (.st 7)else bif Nat.beq t 96 then some (.st 8)else bif Nat.beq t 98 then some (.st 9)else bif Nat.beq t 100 then some (.st 10)else bif Nat.beq t 119 then some (.st 2)else bif Nat.beq t 156 then some (.st 4)else bif Nat.beq t 184 then some (.st 12)else bif Nat.beq t 229 then some (.st 13)else none
def cdL(t:Nat):Option TC:=cdT (bif Nat.ble 1000000 t then Nat.sub t 1000000 else t)
def cdO(t:Nat):Option TC:=bif Nat.beq t 3000068 then some .b else  cdT t
def nbT:NB:=λt=>bif Nat.beq t 31 then[(0,true,57,.st 1),(1,true,87,.st 3),(2,true,64,.st 5),(3,true,94,.st 7),(4,true,96,.st 8),(5,true,100,.st 10),(6,true,98,.st 9)]else bif Nat.beq t 37 then[(4,false,37,.st 0)]else bif Nat.beq t 57 then[(5,false,37,.st 0)]else bif Nat.beq t 64 then[(2,false,156,.st 4)]else bif Nat.beq t 67 then[(0,false,51,.st 11)]else bif Nat.beq t 71 then[(0,false,51,.st 11),(2,true,57,.st 1),(3,true,87,.st 3),(4,true,64,.st 5),(5,true,94,.st 7),(6,true,96,.st 8),(7,true,100,.st 10),(8,true,8000098,.st 9),(10,true,7000000,mBQ),(11,true,7000000,mBQ),(12,true,7000000,mBQ),(13,true,7000000,mBQ),(14,true,7000000,mBQ),(15,true,7000000,mBQ)]else bif Nat.beq t 76 then[(0,false,51,.st 11)]else bif Nat.beq t 87 then[(1,true,119,.st 2)]else bif Nat.beq t 94 then[(1,false,9,.s),(2,false,9,.s),(12,false,37,.st 0)]else bif Nat.beq t 96 then[(3,false,156,.st 4)]else bif Nat.beq t 100 then[(5,true,98,.st 9)]else[]
def Z9:NB:=λt=>bif Nat.beq t 31 then[(0,true,57,.st 1),(1,true,87,.st 3),(2,true,64,.st 5),(3,true,94,.st 7),(4,true,96,.st 8),(5,true,100,.st 10),(6,false,98,.st 9)]else  nbT t
def PC:List TC:=[i6,i6]
def PT:Tp:=.ifc 168 (.ag [dI 0,dI 1])
def dW:zI4 TS:=λc _ s=>match c,s with
 |.s,s=>zzg s
 |_,_=>none
def dW_ok(ct:TC)(i:Nat)(s s':ct.ty TS.T)(h:dW ct i s=some s')(k:Nat):FnD PGq 162 [.ptr k 0 0,.str [32,41]] [(k,TS.go i ct s)] (.tup [.int .i64 2,.nili]) [(k,TS.go i ct s')]:=by
 cases ct<;>first|(cases h;done)|skip
 obtain⟨_,h1,h2⟩:=bind_some (show zzg s=some s' from h);cases h2
 have hT:zzn (bif Nat.beq i 0 then 108 else 123):=by
  cases Nat.beq i 0
  ·exact zp6
  ·exact zh7
 exact zQt hT k s [32,41] (xl h1)
def zQv:PGq.follows .mixedOrders=true:=aj
variable[Fuel]
def hbv63:ze PGq 63:=zi aj
def zJl:ze PGq 62:=zi aj
def zWf:ze PGq 155:=zi aj
def zWg:ze PGq 157:=zi aj
def zWh:ze PGq 164:=zi aj
def zWi:ze PGq 156:=zi aj
def hbv51:ze PGq 51:=zi aj
def zWj:ze PGq 165:=zi aj
def zWk:ze PGq 166:=zi aj
def hbv64:ze PGq 64:=zi aj
def hbv21:ze PGq 21:=zi aj
def zWl:ze PGq 42:=zi aj
def zMr:ze PGq 124:=zi aj
def zMs:ze PGq 194:=zi aj
def zMt:ze PGq 193:=zi aj
def zJm:ze PGq 41:=zi aj
def zun:ze PGq 130:=zi aj
def hbv52:ze PGq 52:=zi aj
def hbv16:ze PGq 16:=zi aj
def zMu:ze PGq 190:=zi aj
def zuo:ze PGq 207:=zi aj
def zWm:ze PGq 151:=zi aj
def zup:ze PGq 133:=zi aj
def QD:ze PGq 40:=zi aj
def QO:ze PGq 150:=zi aj
def zRi:ze PGq 43:=zi aj
def zWn:ze PGq 39:=zi aj
def zMv:ze PGq 134:=zi aj
def zJn:ze PGq 35:=zi aj
def hbv12:ze PGq 12:=zi aj
def zRj:ze PGq 61:=zi aj
def hbv20:ze PGq 20:=zi aj
def zWo:ze PGq 161:=zi aj
def zuh:ze PGq 162:=zi aj
def zMw:ze PGq 163:=zi aj
def zWp:ze PGq 58:=zi aj
def zWq:ze PGq 59:=zi aj
def zx2:ze PGq 60:=zi aj
def hbv19:ze PGq 19:=zi aj
def zMx:ze PGq 121:=zi aj
def AR:ze PGq 191:=zi aj
def J4:ze PGq 125:=zi aj
def zMy:ze PGq 127:=zi aj
def zMz:ze PGq 122:=zi aj
def zM0:ze PGq 192:=zi aj
def zM1:ze PGq 123:=zi aj
def zM2:ze PGq 126:=zi aj
def zWr:ze PGq 214:=zi aj
def zWs:ze PGq 215:=zi aj
def zWt:ze PGq 216:=zi aj
def zWu:ze PGq 238:=zi aj
def zWv:ze PGq 231:=zi aj
def zWw:ze PGq 230:=zi aj
def zWx:ze PGq 217:=zi aj
def zWy:ze PGq 218:=zi aj
def zWz:ze PGq 180:=zi aj
def hbv94:ze PGq 94:=zi aj
def zM3:ze PGq 195:=zi aj
def zW0:ze PGq 219:=zi aj
def zRk:ze PGq 72:=zi aj
def zW1:ze PGq 197:=zi aj
def zM4:ze PGq 129:=zi aj
def zM5:ze PGq 196:=zi aj
def zM6:ze PGq 128:=zi aj
def zM7:ze PGq 198:=zi aj
def zM8:ze PGq 131:=zi aj
def zM9:ze PGq 132:=zi aj
def zW2:ze PGq 36:=zi aj
def hbv10:ze PGq 10:=zi aj
def hbv80:ze PGq 80:=zi aj
def zW3:ze PGq 179:=zi aj
def hbv79:ze PGq 79:=zi aj
def hbv82:ze PGq 82:=zi aj
def hbv81:ze PGq 81:=zi aj
def hbv84:ze PGq 84:=zi aj
def hbv83:ze PGq 83:=zi aj
def hbv86:ze PGq 86:=zi aj
def hbv85:ze PGq 85:=zi aj
def hbv88:ze PGq 88:=zi aj
def hbv87:ze PGq 87:=zi aj
def hbv90:ze PGq 90:=zi aj
def hbv89:ze PGq 89:=zi aj
def hbv92:ze PGq 92:=zi aj
def hbv91:ze PGq 91:=zi aj
def hbv93:ze PGq 93:=zi aj
def zW4:ze PGq 188:=zi aj
def zC5:ze PGq 104:=zi aj
def zNa:ze PGq 187:=zi aj
def zW5:ze PGq 115:=zi aj
def hbv95:ze PGq 95:=zi aj
def hbv28:ze PGq 28:=zi aj
def zNb:ze PGq 168:=zi aj
def hbv67:ze PGq 67:=zi aj
def hbv69:ze PGq 69:=zi aj
def hbv68:ze PGq 68:=zi aj
def hbv70:ze PGq 70:=zi aj
def zQw:ze PGq 65:=zi aj
def hbv71:ze PGq 71:=zi aj
def hbv26:ze PGq 26:=zi aj
def hbv9:ze PGq 9:=zi aj
def zRl:ze PGq 56:=zi aj
def zRm:ze PGq 57:=zi aj
def hbv18:ze PGq 18:=zi aj
def hbv66:ze PGq 66:=zi aj
def hbv25:ze PGq 25:=zi aj
def zW6:ze PGq 103:=zi aj
def zW7:ze PGq 112:=zi aj
def zW8:ze PGq 106:=zi aj
def zW9:ze PGq 105:=zi aj
def zXa:ze PGq 113:=zi aj
def zXb:ze PGq 114:=zi aj
def zXc:ze PGq 108:=zi aj
def zXd:ze PGq 107:=zi aj
def zXe:ze PGq 116:=zi aj
def zXf:ze PGq 109:=zi aj
def zXg:ze PGq 117:=zi aj
def zXh:ze PGq 111:=zi aj
def zXi:ze PGq 110:=zi aj
def zXj:ze PGq 118:=zi aj
def hbv30:ze PGq 30:=zi aj
def hbv6:ze PGq 6:=zi aj
def ctg{f:Nat}{fn:Func}{code:Code}{T:CtT TS}{cd:Nat->Option TC}{nb:NB}{rc:List (Nat×Nat×Nat)}{c:Ct TS}{h:HT TS c.co}(hf:PGq.funcs[f]?=some fn)(hb:fn.body=some code)(hB:ze PGq f)(hT:CtT.OK PGq T)(hr:∀x,((evF PGq fn code T cd KK nb c rc h x).run,(evF PGq fn code T cd KK nb c rc h x).tr true)=(c.fn x,(evF PGq fn code T cd KK nb c rc h x).tr false)):ze PGq f/\c.OK PGq f :=
 ⟨hB,zQo (T:=T) (cd:=cd) (kk:=KK) (nb:=nb) (rc:=rc) (h:=h) zQu hf hb zQv hT (λx=>congrArg Prod.fst (hr x)) (λx=>congrArg Prod.snd (hr x))⟩
def ctk{f:Nat}{fn:Func}{code:Code}{T:CtT TS}{c:Ct TS}{h:HT TS c.co}(hf:PGq.funcs[f]?=some fn)(hb:fn.body=some code)(hB:ze PGq f)(hT:CtT.OK PGq T)(hr:∀x,((evF PGq fn code T cdT KK nbT c [] h x).run,(evF PGq fn code T cdT KK nbT c [] h x).tr true)=(c.fn x,(evF PGq fn code T cdT KK nbT c [] h x).tr false)):ze PGq f/\c.OK PGq f :=
 ⟨hB,zQo (T:=T) (cd:=cdT) (kk:=KK) (nb:=nbT) (rc:=[]) (h:=h) zQu hf hb zQv hT (λx=>congrArg Prod.fst (hr x)) (λx=>congrArg Prod.snd (hr x))⟩
def zT1{f:Nat}{fn:Func}{code:Code}{T:CtT TS}{TP:zgi TS PC}{cd:Nat->Option TC}{nb:NB}{c:CtP TS PC}{h:HT TS PC}(hf:PGq.funcs[f]?=some fn)(hb:fn.body=some code)(hB:ze PGq f)(hT:CtT.OK PGq T)(hTP:zgi.OK PGq (pvT PT PC) TP)(hr:∀x,((evP PGq fn code T cd KK nb PT TP c h x).run,(evP PGq fn code T cd KK nb PT TP c h x).tr true)=(c.fn x,(evP PGq fn code T cd KK nb PT TP c h x).tr false)):ze PGq f/\c.OK PGq (pvT PT PC) f :=
 ⟨hB,zMk (T:=T) (TP:=TP) (pt:=PT) (cd:=cd) (kk:=KK) (nb:=nb) (h:=h) zQu hf hb zQv hT hTP (λx=>congrArg Prod.fst (hr x)) (λx=>congrArg Prod.snd (hr x))⟩
def ctp{f:Nat}{fn:Func}{code:Code}{T:CtT TS}{TP:zgi TS PC}{c:CtP TS PC}{h:HT TS PC}(hf:PGq.funcs[f]?=some fn)(hb:fn.body=some code)(hB:ze PGq f)(hT:CtT.OK PGq T)(hTP:zgi.OK PGq (pvT PT PC) TP)(hr:∀x,((evP PGq fn code T cdT KK nbT PT TP c h x).run,(evP PGq fn code T cdT KK nbT PT TP c h x).tr true)=(c.fn x,(evP PGq fn code T cdT KK nbT PT TP c h x).tr false)):ze PGq f/\c.OK PGq (pvT PT PC) f :=
 ⟨hB,zMk (T:=T) (TP:=TP) (pt:=PT) (cd:=cdT) (kk:=KK) (nb:=nbT) (h:=h) zQu hf hb zQv hT hTP (λx=>congrArg Prod.fst (hr x)) (λx=>congrArg Prod.snd (hr x))⟩
def znw:Ct TS:=⟨[.d (.i .u8) 0],[],[.i .u8],.d .b 1,[],[.b],false,λx=>Kr x⟩
abbrev HBc(n:Nat)(c:Ct TS):Prop:=ze PGq n/\c.OK PGq n
abbrev HBp(n:Nat)(c:CtP TS PC):Prop:=ze PGq n/\c.OK PGq (pvT PT PC) n
def zx4:HBc 63 znw:=ctk (T:=[]) (h:=.n) Tryz.func63 rfl hbv63 trivial λx=>aj
def zuq:Ct TS:=⟨[.d .s 0,.fn 63 [] []],[],[.s],dI 1,[],[i6],false,λx=>zaw x⟩
def zC6:HBc 62 zuq:=ctk (T:=[(63,znw)]) (h:=.s .n (.s .n (.s (.s (.l ⟨[(0,.d .s 0),(1,.fn 63 [] []),(5,dI 1)],[],[.s],[i6]⟩ [(5,dI 1)] [] [i6] 0 (λx K v=>Jo x K v) (.s (.s (.j ⟨[(0,.d .s 0),(1,.fn 63 [] []),(5,dI 1),(16,.d .b 2)],[],[.s,i6],[.b]⟩ false .n) .n) .n)) .n) .n))) Tryz.func62 rfl zJl ⟨zx4,trivial⟩ λx=>aj
def HD:Ct TS:=⟨[.d (.i .u8) 0],[],[.i .u8],.d .b 1,[],[.b],false,λx=>qk x⟩
def JF:HBc 155 HD:=ctk (T:=[]) (h:=.n) Tryz.func155 rfl zWf trivial λx=>aj
def KA:Ct TS:=⟨[.d (.i .u8) 0],[],[.i .u8],.d .b 1,[],[.b],false,λx=>uc x⟩
def Qu:HBc 157 KA:=ctk (T:=[]) (h:=.n) Tryz.func157 rfl zWg trivial λx=>aj
def zgv:Ct TS:=⟨[.d (.i .u8) 0],[],[.i .u8],.d .b 1,[],[.b],false,λx=>Qf x⟩
def zrl:HBc 164 zgv:=ctk (T:=[(155,HD),(157,KA)]) (h:=.n) Tryz.func164 rfl zWh ⟨JF,Qu,trivial⟩ λx=>aj
def zgw:Ct TS:=⟨[.d .s 0,.fn 164 [] []],[],[.s],dI 1,[],[i6],false,λx=>Qg x⟩
def zrm:HBc 62 zgw:=ctk (T:=[(164,zgv)]) (h:=.s .n (.s .n (.s (.s (.l ⟨[(0,.d .s 0),(1,.fn 164 [] []),(5,dI 1)],[],[.s],[i6]⟩ [(5,dI 1)] [] [i6] 0 (λx K v=>uM x K v) (.s (.s (.j ⟨[(0,.d .s 0),(1,.fn 164 [] []),(5,dI 1),(16,.d .b 2)],[],[.s,i6],[.b]⟩ false .n) .n) .n)) .n) .n))) Tryz.func62 rfl zJl ⟨zrl,trivial⟩ λx=>aj
def zgx:Ct TS:=⟨[.d (.i .u8) 0],[],[.i .u8],.d .b 1,[],[.b],false,λx=>oj x⟩
def zrn:HBc 156 zgx:=ctk (T:=[(155,HD),(157,KA)]) (h:=.n) Tryz.func156 rfl zWi ⟨JF,Qu,trivial⟩ λx=>aj
def zgy:Ct TS:=⟨[.d .s 0,.fn 156 [] []],[],[.s],dI 1,[],[i6],false,λx=>Qh x⟩
def zro:HBc 62 zgy:=ctk (T:=[(156,zgx)]) (h:=.s .n (.s .n (.s (.s (.l ⟨[(0,.d .s 0),(1,.fn 156 [] []),(5,dI 1)],[],[.s],[i6]⟩ [(5,dI 1)] [] [i6] 0 (λx K v=>uN x K v) (.s (.s (.j ⟨[(0,.d .s 0),(1,.fn 156 [] []),(5,dI 1),(16,.d .b 2)],[],[.s,i6],[.b]⟩ false .n) .n) .n)) .n) .n))) Tryz.func62 rfl zJl ⟨zrn,trivial⟩ λx=>aj
def zjz:Ct TS:=⟨[.d .s 0],[],[.s],.d .b 1,[],[.b],false,λx=>Wb x⟩
def znx:HBc 51 zjz:=ctk (T:=[(155,HD),(62,zgy)]) (h:=.s .n (.s (.s (.j ⟨[(0,.d .s 0),(15,.d .b 1)],[],[.s],[.b]⟩ false .n) .n) .n)) Tryz.func51 rfl hbv51 ⟨JF,zro,trivial⟩ λx=>aj
def YJ:Ct TS:=⟨[.d .s 0,.fn 157 [] []],[],[.s],dI 1,[],[i6],false,λx=>Hr x⟩
def zc2:HBc 62 YJ:=ctk (T:=[(157,KA)]) (h:=.s .n (.s .n (.s (.s (.l ⟨[(0,.d .s 0),(1,.fn 157 [] []),(5,dI 1)],[],[.s],[i6]⟩ [(5,dI 1)] [] [i6] 0 (λx K v=>uO x K v) (.s (.s (.j ⟨[(0,.d .s 0),(1,.fn 157 [] []),(5,dI 1),(16,.d .b 2)],[],[.s,i6],[.b]⟩ false .n) .n) .n)) .n) .n))) Tryz.func62 rfl zJl ⟨Qu,trivial⟩ λx=>aj
def zgz:Ct TS:=⟨[.d .s 0],[],[.s],.tup [dI 1,.d .b 2],[],[i6,.b],false,λx=>Qi x⟩
def zrp:HBc 165 zgz:=ctk (T:=[(62,YJ)]) (h:=.s .n (.s (.s (.j ⟨[(0,.d .s 0),(28,.d .b 1)],[],[.s],[.b]⟩ false .n) .n) (.s .n (.s (.s .n (.s (.l ⟨[(0,.d .s 0),(4,dI 2),(30,dI 1),(31,dI 3)],[],[.s,i6],[i6,i6]⟩ [(4,dI 2)] [] [i6] 0 (u2Q vW) .n) .n)) .n)))) Tryz.func165 rfl zWj ⟨zc2,trivial⟩ λx=>aj
def zc3:Ct TS:=⟨[.d .s 0,.d .s 1],[],[.s,.s],.d .b 2,[],[.b],false,u2Q Q8⟩
def zny:zc3.OK PGq 166:=λx r h=>kmp aj (zrh x.1 x.2 r h)
def zur:Ct TS:=⟨[.d .s 0],h5,[.s],.tup [.ag [dI 2,.d .s 3,dI 4,dI 5],dI 1],(h6 7000001 2 3 4 5),[i6,i6,.s,i6,i6],false,λx=>zax x⟩
def zC7:HBc 64 zur:=ctg (cd:=cdT) (nb:=nbT) (rc:=[(2,7000001,0)]) (T:=[(155,HD),(62,zgw),(51,zjz),(157,KA),(62,YJ),(165,zgz),(166,zc3)]) (h:=.s .n (.s .n (.s (.s .n (.s (.lr ⟨[(0,.d .s 0),(2,.ptr 1000002 0),(43,.ag [.d .s 1,.d .s 2,.d .s 3,.d .s 4,.d .s 5,.d .s 6,.d .s 7,.d .s 8,.d .s 9,.d .s 10,.d .s 11,.d .s 12,.d .s 13,.d .s 14]),(44,dI 17)],(h6 1000002 15 16 15 15),[.s,.s,.s,.s,.s,.s,.s,.s,.s,.s,.s,.s,.s,.s,.s,i6,.s],[i6]⟩ [(2,.ptr 1000002 0)] (h6 1000002 15 16 15 15) [] 1 (u17Q ql) .n) .n)) .n))) Tryz.func64 rfl hbv64 ⟨JF,zrm,znx,Qu,zc2,zrp,⟨zWk,zny⟩,trivial⟩ λx=>aj
def zrq:Ct TS:=⟨[.d .s 0],h5,[.s],.tup [.d jN 1,dI 2,dI 3],h5,k7,false,λx=>zcv x⟩
def zus:HBc 21 zrq:=ctk (T:=[(62,zuq),(64,zur)]) (h:=.s .n (.s .n (.s .n (.s .n (.s (.lr ⟨[(0,.d .s 0),(5,.row 4 7000001),(6,dI 1)],[(900000000,.rw 1),(900000001,.rw 2),(900000002,.rw 3),(900000003,.rw 4),(7000001,.row 51 (.st 11) 2 false)],[.s],[i6,jN]⟩ [] [] [] 999999999 (λx K v=>oo x K v) .n) .n))))) Tryz.func21 rfl hbv21 ⟨zC6,zC7,trivial⟩ λx=>aj
def uW:Ct TS:=⟨[.ptr 1 0],(h8 1),[jN,i6],.ag [dI 2,.d .s 3,dI 4,dI 5],[(1,.box 67 [.d jN 0,dI 1]),(7000001,.box 51 [dI 2,.d .s 3,dI 4,dI 5])],k3,false,u2Q vx⟩
def uh:HBc 42 uW:=ctg (cd:=cdT) (nb:=nbT) (rc:=[(2,7000001,0)]) (T:=[]) (h:=.n) Tryz.func42 rfl zWl trivial λx=>aj
def zut:Ct TS:=⟨[.ptr 1 0,.d .s 2],(h8 1),[jN,i6,.s],.d .b 3,(h8 1),[.b],false,u3Q zcw⟩
def zrr:HBc 124 zut:=ctk (T:=[(42,uW)]) (h:=.n) Tryz.func124 rfl zMr ⟨uh,trivial⟩ λx=>aj
def zc4:Ct TS:=⟨[.ptr 1 0,.d .s 2],(h8 1),[jN,i6,.s],.d .b 3,(h8 4),[.b,i6],false,u3Q xx⟩
def za7:HBc 194 zc4:=ctk (T:=[(124,zut)]) (h:=.n) Tryz.func194 rfl zMs ⟨zrr,trivial⟩ λx=>aj
def ui:Ct TS:=⟨[.ptr 1 0],(h8 1),[jN,i6],.d .b 2,(h8 1),[.b],false,u2Q xG⟩
def uX:HBc 193 ui:=ctk (T:=[(42,uW)]) (h:=.n) Tryz.func193 rfl zMt ⟨uh,trivial⟩ λx=>aj
def kO:Ct TS:=⟨[.ptr 1 0,.d .b 2,dI 3],(h8 1),[jN,i6,.b,i6],.tup [],(h8 1),[],false,u4Q yB⟩
def km:HBc 41 kO:=ctk (T:=[]) (h:=.n) Tryz.func41 rfl zJm trivial λx=>aj
def YK:Ct TS:=⟨[.ptr 1 0,dI 2,dI 3],(h8 1),k9,dI 4,(h8 5),[i6,i6],false,u4Q ka⟩
def zc5:HBc 130 YK:=ctk (T:=[(193,ui),(41,kO),(42,uW)]) (h:=.s .n (.s .n (.s .n (.s (.j ⟨[(0,.ptr 1 0),(7,dI 2)],(h8 1),k7,[]⟩ false .n) .n)))) Tryz.func130 rfl zun ⟨uX,km,uh,trivial⟩ λx=>aj
def zg0:Ct TS:=⟨[.d .s 0,.d .s 1],h5,[.s,.s],.d .b 2,h5,[.b],false,u2Q Qj⟩
def zrs:zg0.OK PGq 52:=λx r h=>kmp aj (zxx x.1 x.2 r h)
def zg1:Ct TS:=⟨[.d .s 0],h5,[.s],.d .b 1,h5,[.b],false,λx=>QM x⟩
def zc6:HBc 16 zg1:=ctk (T:=[(51,zjz),(52,zg0)]) (h:=.n) Tryz.func16 rfl hbv16 ⟨znx,⟨hbv52,zrs⟩,trivial⟩ λx=>aj
def YL:Ct TS:=⟨[.ptr 1 0],(h10 1),[jN,i6],.d .b 2,(h10 1),[.b],false,u2Q oq⟩
def zc7:HBc 190 YL:=ctk (T:=[(42,uW),(16,zg1)]) (h:=.n) Tryz.func190 rfl zMu ⟨uh,zc6,trivial⟩ λx=>aj
def zj0:Ct TS:=⟨[.ptr 1 0],(h10 1),[jN,i6],.d .s 2,(h10 3),[.s,i6],false,u2Q xn⟩
def znz:HBc 207 zj0:=ctk (T:=[(190,YL),(41,kO)]) (h:=.n) Tryz.func207 rfl zuo ⟨zc7,km,trivial⟩ λx=>aj
def qx:Ct TS:=⟨[],[],[],.d zp3 0,[],[zp3],false,λ_=>wT⟩
def uj:HBc 151 qx:=ctk (T:=[]) (h:=.n) Tryz.func151 rfl zWm trivial λx=>aj
def zj1:Ct TS:=⟨[.ptr 1 0,.d .s 2],(h8 1),[jN,i6,.s],.tup [],(h8 3),[i6],false,u3Q jJ⟩
def zn0:HBc 133 zj1:=ctk (T:=[(194,zc4),(41,kO)]) (h:=.n) Tryz.func133 rfl zup ⟨za7,km,trivial⟩ λx=>aj
def HE(RK:Nat):Ct TS:=⟨[.ptr 1 0,dI 2],(h10 1),k7,.tup [.ag [dI 5,dI 6,.d .s 7,.d .s 8,.d l0Q 9],dI 3],(h11 4 7000001 5 6 7 8 9),k12,false,λx=>kd RK x.1 x.2.1 x.2.2⟩
def uY(RK:Nat):Ct TS:=⟨[.ptr 1 0,dI 2],(h10 1),k7,.ag [dI 4,dI 5,.d .s 6,.d .s 7,.d l0Q 8],(h11 3 7000001 4 5 6 7 8),k13,false,λx=>ya RK x.1 x.2.1 x.2.2⟩
def uk:∀RK,(HE RK).OK PGq 150/\(uY RK).OK PGq 40
 |0=>⟨(λx r h=>nomatch (show(none:Option _)=some r from h)),(λx r h=>nomatch (show(none:Option _)=some r from h))⟩
 |RK+1=>⟨(ctg (c:=HE (RK+1)) (cd:=cdT) (nb:=nbT) (rc:=[(4,7000001,0)]) (T:=[(194,zc4),(40,uY RK),(133,zj1),(193,ui),(130,YK),(207,zj0)]) (h:=.s .n (.s (.s (.s (.j ⟨[(0,.ptr 1 0),(1,dI 1),(4,.ptr 1000004 0),(10,.d .b 6)],zJg,k14,[i6,.b]⟩ false .n) (.s .n (.s (.j ⟨[(0,.ptr 1 0),(1,dI 1),(4,.ptr 1000004 0),(31,.d .b 6)],zJg,k14,[i6,.b]⟩ false .n) (.s .n (.s (.j ⟨[(0,.ptr 1 0),(4,.ptr 1000004 0),(42,.d .b 5)],(h11 4 1000004 1 1 2 2 3),[jN,i6,.s,l0Q],[i6,.b]⟩ false .n) .n))))) .n) .n)) Tryz.func150 rfl QO ⟨za7,⟨QD,(uk RK).2⟩,zn0,uX,zc5,znz,trivial⟩ λx=>aj).2,(ctg (c:=uY (RK+1)) (cd:=cdT) (nb:=nbT) (rc:=[(4,7000001,0)]) (T:=[(150,HE RK),(151,qx),(124,zut),(40,uY RK)]) (h:=.s .n (.s .n (.s (.lr ⟨[(0,.ptr 1 0),(1,dI 1),(4,.ptr 1000004 0),(5,.ptr 1000005 0),(6,dI 6)],h15,k14,k12⟩ [] [] [] 999999999 (λx K v=>jP (ya RK) x.1 x.2.1 x.2.2.1 x.2.2.2.1 x.2.2.2.2 K v) (.s (.s .n (.s (.s .n (.s (.l ⟨[(0,.ptr 1 0),(1,dI 2),(4,.ptr 1000004 0),(5,.ptr 1000005 0),(6,dI 3),(7,.ptr 1000007 0),(16,.d zp3 4),(17,dI 5),(18,dI 14)],(h16 6 7 8 9 10 11 12 13 15 16 17),k17,k3⟩ [(0,.ptr 1 0),(1,dI 2),(4,.ptr 1000004 0),(5,.ptr 1000005 0),(6,dI 3),(7,.ptr 1000007 0)] (h16 6 7 8 9 10 11 12 13 14 15 16) [.s,i6,i6] 2 (u14Q xP) (.s .n (.s .n (.s (.j ⟨[(0,.ptr 1 0),(1,dI 2),(4,.ptr 1000004 0),(5,.ptr 1000005 0),(6,dI 3),(7,.ptr 1000007 0),(16,.d zp3 4),(17,dI 5),(18,dI 6)],(h16 7 8 9 10 11 12 13 14 15 16 17),k18,[.s,i6,i6]⟩ false .n) .n)))) .n)) (.s (.s (.j ⟨[(0,.ptr 1 0),(1,dI 2),(4,.ptr 1000004 0),(5,.ptr 1000005 0),(7,.ptr 1000007 0),(51,.d .b 14)],(h16 3 4 5 6 7 8 9 10 11 12 13),k19,[.b]⟩ false .n) .n) .n))) .n)) .n))) Tryz.func40 rfl QD ⟨⟨QO,(uk RK).1⟩,uj,zrr,⟨QD,(uk RK).2⟩,trivial⟩ λx=>aj).2⟩
def zrt(RK:Nat):ze PGq 150/\(HE RK).OK PGq 150:=⟨QO,(uk RK).1⟩
def Wn(RK:Nat):ze PGq 40/\(uY RK).OK PGq 40:=⟨QD,(uk RK).2⟩
def qN(RK:Nat):Ct TS:=⟨[.d (.st 0) 0],[],[.st 0],dI 1,[],[i6],false,λx=>vX RK x⟩
def zg2:∀RK,(qN RK).OK PGq 43
 |0=>(λx r h=>nomatch (show(none:Option _)=some r from h))
 |RK+1=>(ctk (c:=qN (RK+1)) (T:=[(43,qN RK)]) (h:=.s .n (.s .n (.s (.s .n (.s (.l ⟨[(3,dI 2),(7,.d l0Q 0),(8,dI 1),(9,dI 3)],[],[l0Q,i6],[i6,i6]⟩ [(3,dI 2)] [] [i6] 0 (λx K v=>qm (vX RK) x.1 x.2 K v) .n) .n)) .n))) Tryz.func43 rfl zRi ⟨⟨zRi,(zg2 RK)⟩,trivial⟩ λx=>aj).2
def HG(RK:Nat):ze PGq 43/\(qN RK).OK PGq 43:=⟨zRi,(zg2 RK)⟩
def jo:Ct TS:=⟨[.ptr 2 0,.ptr 3 0],zJh,k21,.tup [],((h20 7 8 9 10 11 12)++h5),k13,false,u7Q Wc⟩
def zfm:HBc 39 jo:=ctk (T:=[(40,uY KK),(42,uW),(41,kO),(43,qN KK)]) (h:=.n) Tryz.func39 rfl zWn ⟨(Wn KK),uh,km,(HG KK),trivial⟩ λx=>aj
def zn1:CtP TS PC:=⟨[.ptr 1 0,dI 2],(h8 1),k7,u3Q Qk⟩
def zx5:HBp 134 zn1:=ctp (T:=[(42,uW)]) (TP:=[]) (h:=.n) Tryz.func134 rfl zMv ⟨uh,trivial⟩ trivial λx=>aj
def HH:CtP TS PC:=⟨[.ptr 1 0,.d .b 2,dI 3],(h8 1),[jN,i6,.b,i6],u4Q xX⟩
def JG:HBp 41 HH:=ctp (T:=[]) (TP:=[(134,zn1)]) (h:=.n) Tryz.func41 rfl zJm trivial ⟨zx5,trivial⟩ λx=>aj
def zn2:CtP TS PC:=⟨[.ptr 1 0,.d .s 2],(h8 1),[jN,i6,.s],u3Q AK⟩
def zx6:HBp 133 zn2:=ctp (T:=[(194,zc4),(41,kO)]) (TP:=[(41,HH)]) (h:=.n) Tryz.func133 rfl zup ⟨za7,km,trivial⟩ ⟨JG,trivial⟩ λx=>aj
def zc8:CtP TS PC:=⟨[.ptr 1 0,dI 2,dI 3],(h8 1),k9,u4Q ou⟩
def zn3:HBp 130 zc8:=ctp (T:=[(193,ui),(41,kO),(42,uW)]) (TP:=[(41,HH)]) (h:=.s .n (.s .n (.s .n (.s (.j ⟨[(0,.ptr 1 0),(7,dI 2)],(h8 1),k7,[]⟩ true .n) .n)))) Tryz.func130 rfl zun ⟨uX,km,uh,trivial⟩ ⟨JG,trivial⟩ λx=>aj
def zn4:CtP TS PC:=⟨[.ptr 1 0],(h10 1),[jN,i6],u2Q jK⟩
def zx7:HBp 207 zn4:=ctp (T:=[(190,YL),(41,kO)]) (TP:=[(41,HH)]) (h:=.n) Tryz.func207 rfl zuo ⟨zc7,km,trivial⟩ ⟨JG,trivial⟩ λx=>aj
def Vc(RK:Nat):CtP TS PC:=⟨[.ptr 1 0,dI 2],(h10 1),k7,λx=>ow RK x.1 x.2.1 x.2.2⟩
def HI(RK:Nat):CtP TS PC:=⟨[.ptr 1 0,dI 2],(h10 1),k7,λx=>yV RK x.1 x.2.1 x.2.2⟩
def uZ:∀RK,(Vc RK).OK PGq (pvT PT PC) 150/\(HI RK).OK PGq (pvT PT PC) 40
 |0=>⟨(λx r h=>nomatch (show(none:Option _)=some r from h)),(λx r h=>nomatch (show(none:Option _)=some r from h))⟩
 |RK+1=>⟨(ctp (c:=Vc (RK+1)) (T:=[(194,zc4),(40,uY KK),(133,zj1),(193,ui),(130,YK),(207,zj0)]) (TP:=[(40,HI RK),(133,zn2),(130,zc8),(207,zn4)]) (h:=.s .n (.s (.s (.s (.j ⟨[(0,.ptr 1 0),(1,dI 1),(4,.ptr 1000004 0),(10,.d .b 6)],zJg,k14,[i6,.b]⟩ false .n) (.s .n (.s (.j ⟨[(0,.ptr 1 0),(1,dI 1),(4,.ptr 1000004 0),(31,.d .b 6)],zJg,k14,[i6,.b]⟩ false .n) (.s .n (.s (.j ⟨[(0,.ptr 1 0),(4,.ptr 1000004 0),(42,.d .b 5)],(h11 4 1000004 1 1 2 2 3),[jN,i6,.s,l0Q],[i6,.b]⟩ false .n) .n))))) .n) .n)) Tryz.func150 rfl QO ⟨za7,(Wn KK),zn0,uX,zc5,znz,trivial⟩ ⟨⟨QD,(uZ RK).2⟩,zx6,zn3,zx7,trivial⟩ λx=>aj).2,(ctp (c:=HI (RK+1)) (T:=[(150,HE KK),(151,qx),(124,zut),(40,uY KK)]) (TP:=[(150,Vc RK),(40,HI RK)]) (h:=.s .n (.s .n (.s (.lr ⟨[(0,.ptr 1 0),(1,dI 1),(4,.ptr 1000004 0),(5,.ptr 1000005 0),(6,dI 6)],h15,k14,k12⟩ [] [] [] 999999999 (λx K v=>jQ (yV RK) x.1 x.2.1 x.2.2.1 x.2.2.2.1 x.2.2.2.2 K v) (.s (.s .n (.s (.s .n (.s (.l ⟨[(0,.ptr 1 0),(1,dI 2),(4,.ptr 1000004 0),(5,.ptr 1000005 0),(6,dI 3),(7,.ptr 1000007 0),(16,.d zp3 4),(17,dI 5),(18,dI 14)],(h16 6 7 8 9 10 11 12 13 15 16 17),k17,k3⟩ [(0,.ptr 1 0),(1,dI 2),(4,.ptr 1000004 0),(5,.ptr 1000005 0),(6,dI 3),(7,.ptr 1000007 0)] (h16 6 7 8 9 10 11 12 13 14 15 16) [.s,i6,i6] 2 (u14Q vH) (.s .n (.s .n (.s (.j ⟨[(0,.ptr 1 0),(1,dI 2),(4,.ptr 1000004 0),(5,.ptr 1000005 0),(6,dI 3),(7,.ptr 1000007 0),(16,.d zp3 4),(17,dI 5),(18,dI 6)],(h16 7 8 9 10 11 12 13 14 15 16 17),k18,[.s,i6,i6]⟩ false .n) .n)))) .n)) (.s (.s (.j ⟨[(0,.ptr 1 0),(1,dI 2),(4,.ptr 1000004 0),(5,.ptr 1000005 0),(7,.ptr 1000007 0),(51,.d .b 14)],(h16 3 4 5 6 7 8 9 10 11 12 13),k19,[.b]⟩ false .n) .n) .n))) .n)) .n))) Tryz.func40 rfl QD ⟨(zrt KK),uj,zrr,(Wn KK),trivial⟩ ⟨⟨QO,(uZ RK).1⟩,⟨QD,(uZ RK).2⟩,trivial⟩ λx=>aj).2⟩
def zx8(RK:Nat):ze PGq 40/\(HI RK).OK PGq (pvT PT PC) 40:=⟨QD,(uZ RK).2⟩
def He:CtP TS PC:=⟨[.ptr 2 0,.ptr 3 0],zJh,k21,u7Q Wd⟩
def zc9:HBp 39 He:=ctp (T:=[(40,uY KK),(42,uW),(41,kO),(43,qN KK)]) (TP:=[(40,HI KK),(41,HH)]) (h:=.n) Tryz.func39 rfl zWn ⟨(Wn KK),uh,km,(HG KK),trivial⟩ ⟨(zx8 KK),JG,trivial⟩ λx=>aj
def HJ:Ct TS:=⟨[.ptr 1 0,.fn 39 [] [.ptr 2 0,.ptr 3 0]],zJh,k21,.tup [dI 7,dI 8],((h20 9 10 11 12 13 14)++h5),k22,true,u7Q Hs⟩
def Wo:HJ.OK PGq 35:=λx r h=>by
 obtain⟨q,h1,h2⟩:=bind_some h;cases h2;exact kmp aj (znl (F:=hV (od jo.hin (yR (S:=TS) jo.ci x))) (F':=hV (od jo.hout (yR (S:=TS) jo.ci x++yR (S:=TS) jo.co q))) (a:=.ptr 2 0 0) (b:=.ptr 3 0 0) (pv:=.ptr 1 0 0) (kmp aj (zfm.2 x q h1)))
def AS:Ct TS:=⟨[.ptr 1 0,.fn 39 [] [.ptr 2 0,.ptr 3 0]],zJh,k21,.tup [dI 7,dI 8],([(1,.rw 0),(2,.rw 0),(3,.rw 0)]++h5),[i6,i6],true,u7Q AL⟩
def Vd:AS.OK PGq 35:=λx r h=>kmp aj (zjr (F:=hV (od He.hin (yR (S:=TS) He.ci x))) (a:=.ptr 2 0 0) (b:=.ptr 3 0 0) (pv:=.ptr 1 0 0) (x:=r.1) (y:=r.2) (kmp aj (zc9.2 x r h)))
def zda:Ct TS:=⟨[.d .s 0],h5,[.s],.tup [.ag [dI 3,dI 4,.d .s 5,.d .s 6,.d l0Q 7],dI 1,dI 2],(h23 7000001 3 4 5 6 7),k12,false,λx=>zcx x⟩
def zn5:HBc 12 zda:=ctg (cd:=cdT) (nb:=nbT) (rc:=[(2,7000001,0)]) (T:=[(21,zrq),(35,HJ),(35,AS)]) (h:=.n) Tryz.func12 rfl hbv12 ⟨zus,⟨zJn,Wo⟩,⟨zJn,Vd⟩,trivial⟩ λx=>aj
def zdb(RK:Nat):Ct TS:=⟨[.d (.st 0) 0,dI 1],h5,[.st 0,i6],.d .b 2,h5,[.b],false,λx=>yr RK x.1 x.2⟩
def zn6:∀RK,(zdb RK).OK PGq 61
 |0=>(λx r h=>nomatch (show(none:Option _)=some r from h))
 |RK+1=>(ctk (c:=zdb (RK+1)) (T:=[(16,zg1),(61,zdb RK)]) (h:=.s .n (.s (.s (.j ⟨[(1,dI 0),(2,.ptr 1000002 0),(20,.d .b 6)],(h23 1000002 1 2 3 4 5),k13,[.b]⟩ false .n) .n) (.s .n (.s .n (.s (.j ⟨[(1,dI 0),(2,.ptr 1000002 0),(5,.ptr 1000005 0),(6,dI 6)],(h24 1 2 3 4 5 9),k13,[i6,i6,.s,.s]⟩ true (.s .n (.s (.s .n (.s .n (.s (.j ⟨[(1,dI 0),(2,.ptr 1000002 0),(5,.ptr 1000005 0),(6,dI 1),(27,dI 2),(35,.d .b 9)],(h24 2 3 4 5 6 8),[i6,i6,i6,i6,.s,.s,l0Q,i6,.s],[.b]⟩ false .n) (.s .n (.s .n (.s .n (.s (.j ⟨[(1,dI 0),(2,.ptr 1000002 0),(5,.ptr 1000005 0),(6,dI 1),(27,dI 2),(53,.d .b 9)],(h24 2 3 4 5 6 8),[i6,i6,i6,i6,.s,.s,l0Q,i6,.s],[.b]⟩ false .n) .n))))))) .n))) (.s (.s (.j ⟨[(1,dI 0),(2,.ptr 1000002 0),(98,.d .b 6)],(h23 1000002 1 2 3 4 5),k13,[.b]⟩ false .n) .n) (.s (.s .n (.s (.lr ⟨[(1,dI 0),(100,.d l0Q 1),(101,dI 2),(102,dI 3)],h5,[i6,l0Q,i6],[i6]⟩ [] h5 [] 1 (λx K v=>xJ (yr RK) x.1 x.2.1 x.2.2 K v) .n) .n)) .n))))))) Tryz.func61 rfl zRj ⟨zc6,⟨zRj,(zn6 RK)⟩,trivial⟩ λx=>aj).2
def zJo(RK:Nat):ze PGq 61/\(zdb RK).OK PGq 61:=⟨zRj,(zn6 RK)⟩
def JH:Ct TS:=⟨[.d (.st 0) 0],h5,[.st 0],.d .b 1,h5,[.b],false,λx=>jR x⟩
def KB:HBc 20 JH:=ctk (T:=[(61,zdb KK)]) (h:=.n) Tryz.func20 rfl hbv20 ⟨(zJo KK),trivial⟩ λx=>aj
def zuu:Ct TS:=⟨[.d (.st 0) 0],[],[.st 0],.tup [dI 1,.d .s 2],[],[i6,.s],false,λx=>zay x⟩
def zC8:HBc 161 zuu:=ctk (T:=[(151,qx)]) (h:=.s .n (.s (.s .n (.s (.lr ⟨[(1,.ptr 1000001 0),(6,.d zp3 0),(7,dI 1),(8,dI 7)],(h25 1000001 2 3 4 5 6),[zp3,i6,i6,i6,.s,.s,l0Q],[i6]⟩ [(1,.ptr 1000001 0)] (h25 1000001 2 3 4 5 6) [] 0 (u7Q Jp) .n) .n)) .n)) Tryz.func161 rfl zWo ⟨uj,trivial⟩ λx=>aj
def zcr:Ct TS:=⟨[.ptr 1 0,.d .s 1],[(1,.gn 0 .s 0)],[.s,.s],.tup [dI 2,.nili],[(1,.gn 0 .s 3)],[i6,.s],false,u2Q yT⟩
def zjp:zcr.OK PGq 162:=λx r h=>by
 obtain⟨_,h1,h2⟩:=bind_some h;cases h2;exact kmp aj (zrg zh7 1 x.1 x.2 (xl h1))
def zC9:Ct TS:=⟨[dI 0],h5,[i6],.d .s 1,h5,[.s],false,λx=>Zp x⟩
def zDa:zC9.OK PGq 163:=λx r h=>kmp aj (zVl x r h)
def zdc(RK:Nat):Ct TS:=⟨[.ptr 1 0,.d (.st 0) 1,dI 2],(h26 0 0),[.s,.st 0,i6],.tup [],(h26 0 3),[.s],false,λx=>xU RK x.1 x.2.1 x.2.2⟩
def zn7:∀RK,(zdc RK).OK PGq 58
 |0=>(λx r h=>nomatch (show(none:Option _)=some r from h))
 |RK+1=>zI5 (T:=[(161,zuu),(162,zcr),(163,zC9),(58,zdc RK)]) (cd:=cdT) (kk:=KK) (nb:=nbT) (rs:=[]) (D:=dW) (k0:=1) (hB:=.s (.s .n (.s .n (.s .n (.s .n (.s .n (.s .n (.s .n (.s .n (.s .n (.s (.s .n (.s (.l ⟨[(0,.ptr 1 0),(4,.ptr 1000004 0),(90,.row 1 1000090),(91,dI 0),(92,dI 8)],h27,[i6,i6,i6,.s,.s,l0Q,lsQ],[.s,i6]⟩ [] (h26 0 7) [.s] 1 (λx K v=>ke (xU RK) x.1 x.2.1 x.2.2.1 x.2.2.2.1 x.2.2.2.2.1 (p5Q x).1 (p6Q x) K v) .n) .n)) (.s .n (.s .n (.s .n (.s .n (.s .n (.s (.j ⟨[(0,.ptr 1 0),(4,.ptr 1000004 0),(6,dI 1),(7,.d .s 2),(10,dI 8)],h28,[.s,i6,.s,i6,i6,.s,.s,l0Q],[i6]⟩ false .n) .n)))))))))))))))) .n) (hB':=.s (.s .n (.s .n (.s .n (.s .n (.s .n (.s .n (.s .n (.s .n (.s .n (.s (.s .n (.s (.l ⟨[(0,.ptr 1 0),(4,.ptr 1000004 0),(90,.row 1 1000090),(91,dI 0),(92,dI 8)],h27,[i6,i6,i6,.s,.s,l0Q,lsQ],[.s,i6]⟩ [] (h26 0 7) [.s] 1 (λx K v=>kf (xU RK) x.1 x.2.1 x.2.2.1 x.2.2.2.1 x.2.2.2.2.1 (p5Q x).1 (p6Q x) K v) .n) .n)) (.s .n (.s .n (.s .n (.s .n (.s .n (.s (.j ⟨[(0,.ptr 1 0),(4,.ptr 1000004 0),(6,dI 1),(7,.d .s 2),(10,dI 8)],h28,[.s,i6,.s,i6,i6,.s,.s,l0Q],[i6]⟩ false .n) .n)))))))))))))))) .n) zQu Tryz.func58 rfl zQv ⟨zC8,⟨zuh,zjp⟩,⟨zMw,zDa⟩,⟨zWp,(zn7 RK)⟩,trivial⟩ rfl aj rfl dW_ok zCm (λx=>aj) (λx=>aj)
def zuv(RK:Nat):ze PGq 58/\(zdc RK).OK PGq 58:=⟨zWp,(zn7 RK)⟩
def zDb:Ct TS:=⟨[.ptr 1 0],[(1,.gn 0 .s 0)],[.s],dI 1,[(1,.gn 0 .s 0)],[i6],false,λx=>zCt x⟩
def zJp:zDb.OK PGq 59:=λx r h=>by
 cases h;exact kmp aj (zCh (T:=108) 1 x)
def oi:Ct TS:=⟨[.ptr 1 0],[(1,.gn 0 .s 0)],[.s],.d .s 1,[(1,.gn 0 .s 0)],[.s],false,λx=>qg x⟩
def Jj:oi.OK PGq 60:=λx r h=>by
 cases h;exact kmp aj (Yi (T:=108) 1 x)
def zdd:Ct TS:=⟨[.d (.st 0) 0],h5,[.st 0],.tup [.d .s 1,dI 2],h5,[.s,i6],false,λx=>Q9 x⟩
def zn8:HBc 19 zdd:=ctk (T:=[(20,JH),(58,zdc KK),(59,zDb),(60,oi)]) (h:=.n) Tryz.func19 rfl hbv19 ⟨KB,(zuv KK),⟨zWq,zJp⟩,⟨zx2,Jj⟩,trivial⟩ λx=>aj
def zS:Ct TS:=⟨[.ptr 1 0],vi,k30,.ag [dI 17,.d .s 18,dI 19,dI 20],(vi++(h31 7000001 17 18 19 20)),k3,false,λx=>zo (xw x)⟩
def zK:HBc 42 zS:=ctg (cd:=cdT) (nb:=nbT) (rc:=[(2,7000001,0)]) (T:=[]) (h:=.n) Tryz.func42 rfl zWl trivial λx=>aj
def zx:Ct TS:=⟨[.ptr 1 0,.d .b 17,dI 18],vi,k32,.tup [],vi,[],false,λx=>zf (zct x) (rBB x).1 (rBB x).2⟩
def zr:HBc 41 zx:=ctk (T:=[]) (h:=.n) Tryz.func41 rfl zJm trivial λx=>aj
def zj2:Ct TS:=⟨[.ptr 1 0,dI 17,dI 18],vi,k33,.tup [],zT0,[i6],false,λx=>yN (zct x) (rBB x).1 (rBB x).2⟩
def zn9:HBc 121 zj2:=ctk (T:=[(41,zx)]) (h:=.n) Tryz.func121 rfl zMx ⟨zr,trivial⟩ λx=>aj
def zR:Ct TS:=⟨[.ptr 1 0],(vi++h5),k30,.d .b 17,(vi++h5),[.b],false,λx=>zJ (xw x)⟩
def zM:HBc 190 zR:=ctk (T:=[(42,zS),(16,zg1)]) (h:=.n) Tryz.func190 rfl zMu ⟨zK,zc6,trivial⟩ λx=>aj
def yx:Ct TS:=⟨[.ptr 1 0],(vi++h5),k30,.d .s 17,(zTz++h5),[.s,i6],false,λx=>zL (xw x)⟩
def yl:HBc 207 yx:=ctk (T:=[(190,zR),(41,zx)]) (h:=.n) Tryz.func207 rfl zuo ⟨zM,zr,trivial⟩ λx=>aj
def zde:Ct TS:=⟨[.ptr 1 0,.om 9],(vi++h5),k30,.d .s 17,((h29 18 9 16 2 3 4 5 6 7 8 19 11 12 13 14 15)++h5),k34,false,λx=>Ks (xw x)⟩
def zg3:HBc 191 zde:=ctk (T:=[(190,zR),(41,zx),(42,zS),(207,yx)]) (h:=.n) Tryz.func191 rfl AR ⟨zM,zr,zK,yl,trivial⟩ λx=>aj
def zru:Ct TS:=⟨[.ptr 1 0,.ci .i64 0],(vi++h5),k30,.d .s 17,((h35 18 9 7001001 16 2 3 4 5 6 7 8)++h5++(h36 7001001 19)),k34,false,λx=>zcy (xw x)⟩
def zuw:HBc 125 zru:=ctg (cd:=cdO) (nb:=nbT) (rc:=[]) (T:=[(191,zde)]) (h:=.s .n (.s (.j ⟨[(0,.ptr 1 0),(1,dI 16)],((h35 1 2 7000001 3 4 5 6 7 8 9 10)++h5++(h36 7000001 17)),k37,[mBQ]⟩ false .n) .n)) Tryz.func125 rfl J4 ⟨zg3,trivial⟩ λx=>aj
def qO:Ct TS:=⟨[.ptr 1 0,.d .s 17],vi,k38,.d .b 18,vi,[.b],false,λx=>vy (zct x) (rBB x)⟩
def kP:HBc 124 qO:=ctk (T:=[(42,zS)]) (h:=.n) Tryz.func124 rfl zMr ⟨zK,trivial⟩ λx=>aj
def vM:Ct TS:=⟨[.ptr 1 0,.d .s 17],vi,k38,.d .b 18,zT0,[.b,i6],false,λx=>zC (zct x) (rBB x)⟩
def vq:HBc 194 vM:=ctk (T:=[(124,qO)]) (h:=.n) Tryz.func194 rfl zMs ⟨kP,trivial⟩ λx=>aj
def xb:Ct TS:=⟨[.ptr 1 0,.d .s 17],vi,k38,.tup [],zTz,[i6],false,λx=>zA (zct x) (rBB x)⟩
def yO:HBc 133 xb:=ctk (T:=[(194,vM),(41,zx)]) (h:=.n) Tryz.func133 rfl zup ⟨vq,zr,trivial⟩ λx=>aj
def yC:Ct TS:=⟨[.ptr 1 0],vi,k30,.d .b 17,vi,[.b],false,λx=>yh (xw x)⟩
def yD:HBc 193 yC:=ctk (T:=[(42,zS)]) (h:=.n) Tryz.func193 rfl zMt ⟨zK,trivial⟩ λx=>aj
def yb:Ct TS:=⟨[.ptr 1 0,dI 17,dI 18],vi,k33,dI 19,(h29 20 9 16 2 3 4 5 6 7 8 10 11 12 13 14 15),[i6,i6],false,λx=>zk (zct x) (rBB x).1 (rBB x).2⟩
def z7:HBc 130 yb:=ctk (T:=[(193,yC),(41,zx),(42,zS)]) (h:=.s .n (.s .n (.s .n (.s (.j ⟨[(0,.ptr 1 0),(7,dI 17)],zlu,k39,[]⟩ false .n) .n)))) Tryz.func130 rfl zun ⟨yD,zr,zK,trivial⟩ λx=>aj
def um(RK:Nat):Ct TS:=⟨[.ptr 1 0,dI 17],(vi++h5),k40,.tup [.ag [dI 20,dI 21,.d .s 22,.d .s 23,.d l0Q 24],dI 18],(zT0++h5++(h25 7000001 20 21 22 23 24)),k12,false,λx=>ud RK (zct x) (rBB x)⟩
def wE(RK:Nat):Ct TS:=⟨[.ptr 1 0,dI 17],(vi++h5),k40,.ag [dI 19,dI 20,.d .s 21,.d .s 22,.d l0Q 23],(zTz++h5++(h25 7000001 19 20 21 22 23)),k13,false,λx=>z8 RK (zct x) (rBB x)⟩
def jE:∀RK,(um RK).OK PGq 150/\(wE RK).OK PGq 40
 |0=>⟨(λx r h=>nomatch (show(none:Option _)=some r from h)),(λx r h=>nomatch (show(none:Option _)=some r from h))⟩
 |RK+1=>⟨(ctg (c:=um (RK+1)) (cd:=cdT) (nb:=nbT) (rc:=[(4,7000001,0)]) (T:=[(194,vM),(40,wE RK),(133,xb),(193,yC),(130,yb),(207,yx)]) (h:=.s .n (.s (.s (.s (.j ⟨[(0,.ptr 1 0),(1,dI 16),(4,.ptr 1000004 0),(10,.d .b 21)],zZ3,k41,[i6,.b]⟩ false .n) (.s .n (.s (.j ⟨[(0,.ptr 1 0),(1,dI 16),(4,.ptr 1000004 0),(31,.d .b 21)],zZ3,k41,[i6,.b]⟩ false .n) (.s .n (.s (.j ⟨[(0,.ptr 1 0),(4,.ptr 1000004 0),(42,.d .b 20)],zV3,k42,[i6,.b]⟩ false .n) .n))))) .n) .n)) Tryz.func150 rfl QO ⟨vq,⟨QD,(jE RK).2⟩,yO,yD,z7,yl,trivial⟩ λx=>aj).2,(ctg (c:=wE (RK+1)) (cd:=cdT) (nb:=nbT) (rc:=[(4,7000001,0)]) (T:=[(150,um RK),(151,qx),(124,qO),(40,wE RK)]) (h:=.s .n (.s .n (.s (.lr ⟨[(0,.ptr 1 0),(1,dI 16),(4,.ptr 1000004 0),(5,.ptr 1000005 0),(6,dI 21)],zV4,k41,k12⟩ [] [] [] 999999999 (λx K v=>kH (z8 RK) (BB.mk x.1 0 x.2.2.2.1 x.2.2.2.2.1 (p5Q x).1 (p6Q x).1 (p7Q x).1 (p8Q x).1 (p9Q x).1 x.2.1 (zlr x).1 (zls x).1 (zlt x).1 (zp4 x).1 (zp5 x).1 (zum x).1 x.2.2.1) (zMo x).1 (zMp x).1 (zTx x).1 (zTy x) K v) (.s (.s .n (.s (.s .n (.s (.l ⟨[(0,.ptr 1 0),(1,dI 17),(4,.ptr 1000004 0),(5,.ptr 1000005 0),(6,dI 18),(7,.ptr 1000007 0),(16,.d zp3 19),(17,dI 20),(18,dI 29)],(zlu++h5++(h44 21 22 23 24 25 26 27 28 30 31 32)),k45,k3⟩ [(0,.ptr 1 0),(1,dI 17),(4,.ptr 1000004 0),(5,.ptr 1000005 0),(6,dI 18),(7,.ptr 1000007 0)] (zlu++h5++(h44 21 22 23 24 25 26 27 28 29 30 31)) [.s,i6,i6] 2 (λx K v=>kG (BB.mk x.1 0 x.2.2.2.2.1 (p5Q x).1 (p6Q x).1 (p7Q x).1 (p8Q x).1 (p9Q x).1 (zlr x).1 x.2.2.1 (zls x).1 (zlt x).1 (zp4 x).1 (zp5 x).1 (zum x).1 (zMo x).1 x.2.2.2.1) x.2.1 (zMp x).1 (zTx x).1 (zTy x).1 (zZ2 x).1 (p21Q x).1 (p22Q x).1 (p23Q x).1 (p24Q x).1 (p25Q x).1 (p26Q x).1 (p27Q x).1 (p28Q x) K v) (.s .n (.s .n (.s (.j ⟨[(0,.ptr 1 0),(1,dI 17),(4,.ptr 1000004 0),(5,.ptr 1000005 0),(6,dI 18),(7,.ptr 1000007 0),(16,.d zp3 19),(17,dI 20),(18,dI 21)],(zlu++h5++(h44 22 23 24 25 26 27 28 29 30 31 32)),k46,[.s,i6,i6]⟩ false .n) .n)))) .n)) (.s (.s (.j ⟨[(0,.ptr 1 0),(1,dI 17),(4,.ptr 1000004 0),(5,.ptr 1000005 0),(7,.ptr 1000007 0),(51,.d .b 29)],(zlu++h5++(h44 18 19 20 21 22 23 24 25 26 27 28)),k47,[.b]⟩ false .n) .n) .n))) .n)) .n))) Tryz.func40 rfl QD ⟨⟨QO,(jE RK).1⟩,uj,kP,⟨QD,(jE RK).2⟩,trivial⟩ λx=>aj).2⟩
def zj3(RK:Nat):ze PGq 150/\(um RK).OK PGq 150:=⟨QO,(jE RK).1⟩
def qy(RK:Nat):ze PGq 40/\(wE RK).OK PGq 40:=⟨QD,(jE RK).2⟩
def Ve:Ct TS:=⟨[.ptr 1 0,.d .b 17,dI 18],vi,k32,.tup [],zT0,[i6],false,λx=>jS (zct x) (rBB x).1 (rBB x).2⟩
def Qv:HBc 127 Ve:=ctk (T:=[(124,qO),(41,zx)]) (h:=.n) Tryz.func127 rfl zMy ⟨kP,zr,trivial⟩ λx=>aj
def YM:Ct TS:=⟨[.ptr 1 0],(vi++h5),k30,.tup [],((h35 17 9 7000001 16 18 3 4 5 6 7 8)++h5++(h36 7000001 19)),[i6,l1Q,mBQ],false,λx=>Ht (xw x)⟩
def zdf:HBc 122 YM:=ctk (T:=[(125,zru),(133,xb),(40,wE KK),(43,qN KK),(127,Ve)]) (h:=.n) Tryz.func122 rfl zMz ⟨zuw,yO,(qy KK),(HG KK),Qv,trivial⟩ λx=>aj
def Vf:Ct TS:=⟨[.ptr 1 0,.om 10],(vi++h5),k30,.d .s 17,((h29 18 9 16 2 3 4 5 6 7 8 10 19 12 13 14 15)++h5),k34,false,λx=>oY (xw x)⟩
def Zq:HBc 191 Vf:=ctk (T:=[(190,zR),(41,zx),(42,zS),(207,yx)]) (h:=.n) Tryz.func191 rfl AR ⟨zM,zr,zK,yl,trivial⟩ λx=>aj
def zdg:Ct TS:=⟨[.ptr 1 0,.ci .i64 1],(vi++h5),k30,.d .s 17,((h48 18 9 7001001 16 2 3 4 5 6 7 8 10 12 13 14 15)++h5++(h36 7001001 19)),k34,false,λx=>Kt (xw x)⟩
def zg4:HBc 125 zdg:=ctg (cd:=cdO) (nb:=nbT) (rc:=[]) (T:=[(191,Vf)]) (h:=.s .n (.s (.j ⟨[(0,.ptr 1 0),(1,dI 16)],zV5,k37,[mBQ]⟩ false .n) .n)) Tryz.func125 rfl J4 ⟨Zq,trivial⟩ λx=>aj
def Vg:Ct TS:=⟨[.ptr 1 0,.mp 15],((h49 1 17)++h5),k50,.d .s 18,((h49 19 20)++h5),[.s,i6,.m .s .b],false,λx=>yc (zct x) (rBB x)⟩
def Zr:HBc 191 Vg:=ctk (T:=[(190,zR),(41,zx),(42,zS),(207,yx)]) (h:=.n) Tryz.func191 rfl AR ⟨zM,zr,zK,yl,trivial⟩ λx=>aj
def HK:Ct TS:=⟨[.ptr 1 0,dI 17],vi,k40,dI 18,zT0,[i6,i6],false,λx=>wC (zct x) (rBB x)⟩
def JI:HBc 192 HK:=ctk (T:=[(194,vM),(130,yb)]) (h:=.n) Tryz.func192 rfl zM0 ⟨vq,z7,trivial⟩ λx=>aj
def zdh:Ct TS:=⟨[.ptr 1 0],(vi++h5),k30,.tup [],((h48 17 9 7000001 16 2 18 4 5 6 7 8 10 12 13 14 15)++h5++(h36 7000001 19)),[i6,l3Q,mBQ],false,λx=>Ku (xw x)⟩
def zg5:HBc 123 zdh:=ctk (T:=[(125,zdg),(190,zR),(41,zx),(191,Vg),(192,HK),(133,xb)]) (h:=.s .n (.s .n (.s (.s (.l ⟨[(0,.ptr 1 0),(2,.ptr 1000002 0),(3,.mp 1000007)],(zJj++h5++h51),k52,[i6,.m .s .b,l2Q]⟩ [(0,.ptr 1 0),(2,.ptr 1000002 0)] (zJj++h5++h53) [i6,l2Q] 0 (λx K v=>ue (BB.mk x.1 0 x.2.2.2.1 x.2.2.2.2.1 (p5Q x).1 (p6Q x).1 (p7Q x).1 (p8Q x).1 (p9Q x).1 x.2.1 (zlr x).1 [] (zls x).1 (zlt x).1 (zp4 x).1 (zp5 x).1 x.2.2.1) (zum x).1 (zMo x).1 (zMp x) K v) .n) .n) .n))) Tryz.func123 rfl zM1 ⟨zg4,zM,zr,Zr,JI,yO,trivial⟩ λx=>aj
def Vh:Ct TS:=⟨[.ptr 1 0,.om 11],(vi++h5),k30,.d .s 17,((h29 18 9 16 2 3 4 5 6 7 8 10 11 19 13 14 15)++h5),k34,false,λx=>oZ (xw x)⟩
def Zs:HBc 191 Vh:=ctk (T:=[(190,zR),(41,zx),(42,zS),(207,yx)]) (h:=.n) Tryz.func191 rfl AR ⟨zM,zr,zK,yl,trivial⟩ λx=>aj
def zdi:Ct TS:=⟨[.ptr 1 0,.ci .i64 2],(vi++h5),k30,.d .s 17,((h54 18 9 7001001 16 2 3 4 5 6 7 8 10 11)++h5++(h36 7001001 19)),k34,false,λx=>o5 (xw x)⟩
def zg6:HBc 125 zdi:=ctg (cd:=cdO) (nb:=nbT) (rc:=[]) (T:=[(191,Vh)]) (h:=.s .n (.s (.j ⟨[(0,.ptr 1 0),(1,dI 16)],zV6,k37,[mBQ]⟩ false .n) .n)) Tryz.func125 rfl J4 ⟨Zs,trivial⟩ λx=>aj
def YN:Ct TS:=⟨[.ptr 1 0],vi,k30,.d l4Q 17,zTz,[l4Q,i6],false,λx=>wD (xw x)⟩
def zdj:HBc 126 YN:=ctk (T:=[(130,yb),(193,yC)]) (h:=.s .n (.s .n (.s (.lr ⟨[(0,.ptr 1 0),(3,.row 2 7000001)],(zMq++[(7000001,.row 156 (.st 4) 17 false)]),k55,[i6,l4Q]⟩ [] [] [] 999999999 (λx K v=>kI (BB.mk x.1 0 x.2.2.2.1 x.2.2.2.2.1 (p5Q x).1 (p6Q x).1 (p7Q x).1 (p8Q x).1 (p9Q x).1 x.2.1 (zlr x).1 (zls x).1 (zlt x).1 (zp4 x).1 (zp5 x).1 (zum x) x.2.2.1) K v) .n) .n))) Tryz.func126 rfl zM2 ⟨z7,yD,trivial⟩ λx=>aj
def zg7:Ct TS:=⟨[.d l4Q 0],[],[l4Q],.d ze2 1,[],[ze2],false,λx=>Ql x⟩
def zrv:HBc 214 zg7:=ctk (T:=[]) (h:=.s .n (.s .n (.s (.s .n (.s (.l ⟨[(0,.d l4Q 0),(3,.row 4 1000007),(9,dI 1),(10,dI 2)],[(1000007,.row 229 (.st 13) 3 false)],[l4Q,i6],[i6,ze2]⟩ [(3,.row 4 1000007)] [(1000007,.row 229 (.st 13) 2 false)] [ze2] 0 (u2Q wU) .n) .n)) .n))) Tryz.func214 rfl zWr trivial λx=>aj
def zg8:Ct TS:=⟨[.d (.st 4) 0],[],[.st 4],.d .b 1,[],[.b],false,λx=>YH x⟩
def zrw:HBc 215 zg8:=ctk (T:=[]) (h:=.n) Tryz.func215 rfl zWs trivial λx=>aj
def J5:Ct TS:=⟨[.d (.st 13) 0],[],[.st 13],.d .b 1,[],[.b],false,λx=>xy x⟩
def YO:HBc 216 J5:=ctk (T:=[]) (h:=.n) Tryz.func216 rfl zWt trivial λx=>aj
def zdk:Ct TS:=⟨[dI 0],[],[i6],.d .b 1,[],[.b],false,λx=>Jq x⟩
def zoa:HBc 238 zdk:=ctk (T:=[]) (h:=.n) Tryz.func238 rfl zWu trivial λx=>aj
def Wq:Ct TS:=⟨[dI 0,dI 1],[],[i6,i6],dI 2,[],[i6],false,u2Q kJ⟩
def zfn:HBc 231 Wq:=ctk (T:=[(238,zdk)]) (h:=.n) Tryz.func231 rfl zWv ⟨zoa,trivial⟩ λx=>aj
def zux:Ct TS:=⟨[.d (.l i6) 0],[],[.l i6],dI 1,[],[i6],false,λx=>zaz x⟩
def zDc:HBc 230 zux:=ctk (T:=[]) (h:=.s .n (.s .n (.s (.s .n (.s (.lr ⟨[(3,dI 0),(6,.d (.l i6) 1),(7,dI 2),(8,dI 3)],[],[i6,.l i6,i6],[i6]⟩ [(3,dI 0)] [] [] 0 (u3Q qn) .n) .n)) .n))) Tryz.func230 rfl zWw trivial λx=>aj
def zdl:Ct TS:=⟨[.d (.st 4) 0,.d (.st 4) 1],[],[.st 4,.st 4],dI 2,[],[i6],false,u2Q Jr⟩
def zob:HBc 217 zdl:=ctk (T:=[(231,Wq),(230,zux)]) (h:=.n) Tryz.func217 rfl zWx ⟨zfn,zDc,trivial⟩ λx=>aj
def J6:Ct TS:=⟨[.d (.st 13) 0,.d (.st 13) 1],[],[.st 13,.st 13],.d .b 2,[],[.b],false,u2Q J3⟩
def YP:HBc 218 J6:=ctk (T:=[]) (h:=.n) Tryz.func218 rfl zWy trivial λx=>aj
def zoc:Ct TS:=⟨[.d l4Q 0],[],[l4Q],.d .b 1,[],[.b],false,λx=>zcz x⟩
def zx9:HBc 180 zoc:=ctk (T:=[(214,zg7),(215,zg8),(216,J5),(217,zdl),(218,J6)]) (h:=.s .n (.s (.s (.j ⟨[(0,.d l4Q 0),(16,.d .b 1)],[],[l4Q],[.b]⟩ false .n) .n) (.s .n (.s (.s .n (.s (.lr ⟨[(0,.d l4Q 0),(3,.d ze2 1),(19,.d ze2 1),(20,dI 2),(21,dI 3)],[],[l4Q,ze2,i6],[i6]⟩ [(3,.d ze2 1)] [] [] 0 (u3Q kg) (.s .n (.s .n (.s (.s (.s .n (.s .n (.s (.s (.j ⟨[(0,.d l4Q 0),(3,.d ze2 1),(4,dI 2),(19,.d ze2 1),(20,dI 3),(21,dI 2),(61,.d .b 4)],[],[l4Q,ze2,i6,i6],[.b]⟩ false .n) .n) (.s (.j ⟨[(0,.d l4Q 0),(3,.d ze2 1),(19,.d ze2 1),(20,dI 2),(21,dI 3),(74,.d .b 4)],[],[l4Q,ze2,i6,i6],[.b]⟩ false .n) .n)))) .n) .n)))) .n)) (.s (.s .n (.s (.lr ⟨[(3,.d ze2 0),(77,dI 1),(78,dI 2)],[],[ze2,i6],[i6]⟩ [(3,.d ze2 0)] [] [] 2 (u2Q kj) (.s .n (.s .n (.s (.s (.s .n (.s .n (.s (.lr ⟨[(3,.d ze2 0),(7,dI 1),(8,dI 3),(77,dI 2),(78,dI 1)],[],[ze2,i6,i6],[i6]⟩ [(3,.d ze2 0),(77,dI 2),(78,dI 1)] [] [] 4 (u3Q kh) (.s .n (.s (.s (.s (.j ⟨[(3,.d ze2 0),(7,dI 1),(8,dI 2),(77,dI 3),(78,dI 1),(106,.d .b 4)],[],[ze2,i6,i6,i6],[.b]⟩ false .n) .n) .n) .n))) .n))) .n) .n)))) .n)) .n))))) Tryz.func180 rfl zWz ⟨zrv,zrw,YO,zob,YP,trivial⟩ λx=>aj
def za8:Ct TS:=⟨[.d l4Q 0],[],[l4Q],.d .b 1,[],[.b],false,λx=>wV x⟩
def zdm:HBc 94 za8:=ctk (T:=[(180,zoc)]) (h:=.n) Tryz.func94 rfl hbv94 ⟨zx9,trivial⟩ λx=>aj
def Vi:Ct TS:=⟨[.ptr 1 0,.om 12],(vi++h5),k30,.d .s 17,((h29 18 9 16 2 3 4 5 6 7 8 10 11 12 19 14 15)++h5),k34,false,λx=>o6 (xw x)⟩
def Zt:HBc 191 Vi:=ctk (T:=[(190,zR),(41,zx),(42,zS),(207,yx)]) (h:=.n) Tryz.func191 rfl AR ⟨zM,zr,zK,yl,trivial⟩ λx=>aj
def zdn:Ct TS:=⟨[.ptr 1 0,.ci .i64 3],(vi++h5),k30,.d .s 17,((h56 18 9 7001001 16 2 3 4 5 6 7 8 10 11 12 14 15)++h5++(h36 7001001 19)),k34,false,λx=>Kv (xw x)⟩
def zg9:HBc 125 zdn:=ctg (cd:=cdO) (nb:=nbT) (rc:=[]) (T:=[(191,Vi)]) (h:=.s .n (.s (.j ⟨[(0,.ptr 1 0),(1,dI 16)],zV7,k37,[mBQ]⟩ false .n) .n)) Tryz.func125 rfl J4 ⟨Zt,trivial⟩ λx=>aj
def zj4:Ct TS:=⟨[.ptr 1 0],(vi++h5),k30,.d lsQ 17,(zTz++h5),[lsQ,i6],false,λx=>uP (xw x)⟩
def zod:HBc 195 zj4:=ctk (T:=[(207,yx),(190,zR)]) (h:=.s .n (.s .n (.s (.s (.l ⟨[(0,.ptr 1 0),(3,.row 1 1000008)],(zMq++h5++(h57 1000008 17)),k55,[i6,lsQ]⟩ [(3,.row 1 1000008)] (zMq++h5++(h57 1000008 17)) [i6,lsQ] 0 (λx K v=>o7 (BB.mk x.1 0 x.2.2.2.1 x.2.2.2.2.1 (p5Q x).1 (p6Q x).1 (p7Q x).1 (p8Q x).1 (p9Q x).1 x.2.1 (zlr x).1 (zls x).1 (zlt x).1 (zp4 x).1 (zp5 x).1 (zum x) x.2.2.1) K v) .n) .n) .n))) Tryz.func195 rfl zM3 ⟨yl,zM,trivial⟩ λx=>aj
def za9:Ct TS:=⟨[.d .s 0],h5,[.s],.row 1 60,[(60,.row 9 .s 1 false),(900000000,.rw 1),(900000001,.rw 2),(900000002,.rw 3),(900000003,.rw 4)],[lsQ],false,λx=>vz x⟩
def zdo:za9.OK PGq 72:=λx r h=>kmp aj (zIx x r h)
def QP:Ct TS:=⟨[.d lsQ 0,.d .s 1],[],[lsQ,.s],dI 2,[],[i6],false,u2Q Hb⟩
def zdp:HBc 219 QP:=ctk (T:=[]) (h:=.s .n (.s (.s .n (.s (.lr ⟨[(0,.d lsQ 0),(1,.d .s 1),(7,dI 2),(8,dI 3)],[],[lsQ,.s,i6],[i6]⟩ [] [] [] 0 (u3Q xK) .n) .n)) .n)) Tryz.func219 rfl zW0 trivial λx=>aj
def zdq:Ct TS:=⟨[.d .s 0,.d .s 1],h5,[.s,.s],dI 2,h5,[i6],false,u2Q Va⟩
def zba:HBc 197 zdq:=ctk (T:=[(72,za9),(219,QP)]) (h:=.n) Tryz.func197 rfl zW1 ⟨⟨zRk,zdo⟩,zdp,trivial⟩ λx=>aj
def qz:Ct TS:=⟨[.ptr 1 0,.d .s 17],(vi++h5),k38,dI 18,(zT0++h5),[i6,i6],false,λx=>xo (zct x) (rBB x)⟩
def qA:HBc 129 qz:=ctk (T:=[(42,zS),(197,zdq),(41,zx)]) (h:=.s .n (.s .n (.s (.j ⟨[(0,.ptr 1 0),(5,dI 17)],(zlu++h5),k39,[]⟩ false .n) .n))) Tryz.func129 rfl zM4 ⟨zK,zba,zr,trivial⟩ λx=>aj
def zrx:Ct TS:=⟨[.ptr 1 0],(vi++h5),k30,dI 17,(zTz++h5),[i6,i6],false,λx=>zc0 (xw x)⟩
def zuy:HBc 196 zrx:=ctk (T:=[(42,zS),(197,zdq),(41,zx),(129,qz)]) (h:=.s .n (.s .n (.s (.lr ⟨[(0,.ptr 1 0),(3,dI 17)],(zMq++h5),k55,[i6,i6]⟩ [] [] [] 999999999 (λx K v=>Hu (BB.mk x.1 0 x.2.2.2.1 x.2.2.2.2.1 (p5Q x).1 (p6Q x).1 (p7Q x).1 (p8Q x).1 (p9Q x).1 x.2.1 (zlr x).1 (zls x).1 (zlt x).1 (zp4 x).1 (zp5 x).1 (zum x) x.2.2.1) K v) (.s (.s .n (.s (.s (.j ⟨[(0,.ptr 1 0),(3,dI 17),(4,dI 18),(24,.d .b 19)],(zlu++h5),k58,[.b]⟩ false .n) .n) (.s (.j ⟨[(0,.ptr 1 0),(3,dI 17)],(zlu++h5),k39,[]⟩ false .n) .n))) .n)) .n))) Tryz.func196 rfl zM5 ⟨zK,zba,zr,qA,trivial⟩ λx=>aj
def zj5:Ct TS:=⟨[.ptr 1 0],(vi++h5),k30,.tup [],((h56 17 9 7000001 16 2 3 4 18 6 7 8 10 11 12 14 15)++h5++(h36 7000001 19)),[i6,l7Q,mBQ],false,λx=>Js (xw x)⟩
def zoe:HBc 128 zj5:=ctk (T:=[(125,zdn),(194,vM),(195,zj4),(130,yb),(133,xb),(196,zrx),(129,qz),(40,wE KK),(43,qN KK),(127,Ve)]) (h:=.s .n (.s (.j ⟨[(0,.ptr 1 0),(2,.ptr 1000002 0)],(zJk++h5++(h59 23 17 18 18 18 19 18 18 18 20 20 21 18 18 18 18 18 18 18)),k60,[i6,lsQ]⟩ false .n) (.s (.j ⟨[(0,.ptr 1 0),(2,.ptr 1000002 0)],(zJk++h5++(h59 17 23 18 18 18 19 18 18 18 20 20 21 18 18 18 18 18 18 18)),k60,[i6,lsQ]⟩ false .n) (.s (.j ⟨[(0,.ptr 1 0),(2,.ptr 1000002 0)],(zZ4++h5++(h59 17 18 24 19 19 20 19 19 19 21 21 22 19 19 19 19 19 19 19)),k61,[i6,i6]⟩ false .n) (.s (.j ⟨[(0,.ptr 1 0),(2,.ptr 1000002 0)],zV8,k62,[i6,i6]⟩ false .n) (.s (.j ⟨[(0,.ptr 1 0),(2,.ptr 1000002 0)],zV9,k63,[i6,i6]⟩ false .n) (.s .n (.s .n (.s (.j ⟨[(0,.ptr 1 0),(2,.ptr 1000002 0)],(zZ4++h5++(h59 17 18 19 20 21 22 24 25 26 27 28 29 30 31 32 33 34 35 36)),k64,k65⟩ false .n) .n))))))))) Tryz.func128 rfl zM6 ⟨zg9,vq,zod,z7,yO,zuy,qA,(qy KK),(HG KK),Qv,trivial⟩ λx=>aj
def Vj:Ct TS:=⟨[.ptr 1 0,.om 13],(vi++h5),k30,.d .s 17,((h29 18 9 16 2 3 4 5 6 7 8 10 11 12 13 19 15)++h5),k34,false,λx=>o8 (xw x)⟩
def Zu:HBc 191 Vj:=ctk (T:=[(190,zR),(41,zx),(42,zS),(207,yx)]) (h:=.n) Tryz.func191 rfl AR ⟨zM,zr,zK,yl,trivial⟩ λx=>aj
def zdr:Ct TS:=⟨[.ptr 1 0,.ci .i64 4],(vi++h5),k30,.d .s 17,((h66 18 9 7001001 16 2 3 4 5 6 7 8 10 11 12 13)++h5++(h36 7001001 19)),k34,false,λx=>Aa (xw x)⟩
def zha:HBc 125 zdr:=ctg (cd:=cdO) (nb:=nbT) (rc:=[]) (T:=[(191,Vj)]) (h:=.s .n (.s (.j ⟨[(0,.ptr 1 0),(1,dI 16)],zWa,k37,[mBQ]⟩ false .n) .n)) Tryz.func125 rfl J4 ⟨Zu,trivial⟩ λx=>aj
def Vk:Ct TS:=⟨[.ptr 1 0,.om 14],(vi++h5),k30,.d .s 17,((h29 18 9 16 2 3 4 5 6 7 8 10 11 12 13 14 19)++h5),k34,false,λx=>Ab (xw x)⟩
def Zv:HBc 191 Vk:=ctk (T:=[(190,zR),(41,zx),(42,zS),(207,yx)]) (h:=.n) Tryz.func191 rfl AR ⟨zM,zr,zK,yl,trivial⟩ λx=>aj
def zds:Ct TS:=⟨[.ptr 1 0,.ci .i64 5],(vi++h5),k30,.d .s 17,((h67 18 9 7001001 16 2 3 4 5 6 7 8 10 11 12 13 14)++h5++(h36 7001001 19)),k34,false,λx=>Kw (xw x)⟩
def zhb:HBc 125 zds:=ctg (cd:=cdO) (nb:=nbT) (rc:=[]) (T:=[(191,Vk)]) (h:=.s .n (.s (.j ⟨[(0,.ptr 1 0),(1,dI 16)],zWb,k37,[mBQ]⟩ false .n) .n)) Tryz.func125 rfl J4 ⟨Zv,trivial⟩ λx=>aj
def zdt:Ct TS:=⟨[.ptr 1 0],vi,k30,.ag [dI 18,dI 19,dI 20],((h29 17 9 16 2 3 4 5 6 7 8 10 11 12 13 14 15)++[(7000001,.box 98 [dI 18,dI 19,dI 20])]),k1,false,λx=>kK (xw x)⟩
def zhc:HBc 198 zdt:=ctg (cd:=cdT) (nb:=nbT) (rc:=[(2,7000001,0)]) (T:=[(130,yb)]) (h:=.n) Tryz.func198 rfl zM7 ⟨z7,trivial⟩ λx=>aj
def zj6:Ct TS:=⟨[.ptr 1 0],(vi++h5),k30,.tup [],((h67 17 9 7000001 16 2 3 4 5 6 18 8 10 11 12 13 14)++h5++(h36 7000001 19)),[i6,wi,mBQ],false,λx=>Jt (xw x)⟩
def zof:HBc 131 zj6:=ctk (T:=[(125,zds),(198,zdt),(133,xb),(130,yb),(193,yC),(41,zx)]) (h:=.s .n (.s .n (.s .n (.s .n (.s .n (.s (.s (.l ⟨[(0,.ptr 1 0),(2,.ptr 1000002 0)],zZ5,k69,[i6,l9Q]⟩ [(0,.ptr 1 0),(2,.ptr 1000002 0)] zZ5 [i6,l9Q] 0 (λx K v=>Ac (BB.mk x.1 0 x.2.2.2.1 x.2.2.2.2.1 (p5Q x).1 (p6Q x).1 (p7Q x).1 (p8Q x).1 (p9Q x).1 x.2.1 (zlr x).1 (zls x).1 (zlt x).1 (zp4 x).1 (zp5 x).1 [] x.2.2.1) (zum x).1 (zMo x).1 (zMp x).1 (zTx x).1 (zTy x).1 (zZ2 x) K v) .n) .n) .n)))))) Tryz.func131 rfl zM8 ⟨zhb,zhc,yO,z7,yD,zr,trivial⟩ λx=>aj
def zry:Ct TS:=⟨[.ptr 1 0],vi,k30,.tup [],(h29 17 9 16 2 3 4 5 6 7 18 10 11 12 13 14 15),[i6,l9Q],false,λx=>Vb (xw x)⟩
def zuz:HBc 132 zry:=ctk (T:=[(124,qO),(41,zx),(193,yC),(192,HK),(130,yb),(194,vM),(133,xb)]) (h:=.s (.s .n (.s (.l ⟨[(0,.ptr 1 0),(2,.d .b 17)],zJi,k70,[i6,l9Q,.b]⟩ [(0,.ptr 1 0)] zJi [i6,l9Q] 0 (λx K v=>oy (BB.mk x.1 0 x.2.2.2.1 x.2.2.2.2.1 (p5Q x).1 (p6Q x).1 (p7Q x).1 (p8Q x).1 [] x.2.1 (p9Q x).1 (zlr x).1 (zls x).1 (zlt x).1 (zp4 x).1 (zp5 x) x.2.2.1) K v) (.s .n (.s (.s (.s (.j ⟨[(0,.ptr 1 0)],zlu,k71,[]⟩ false .n) .n) .n) .n))) .n)) .n) Tryz.func132 rfl zM9 ⟨kP,zr,yD,JI,z7,vq,yO,trivial⟩ λx=>aj
def Qw:Ct TS:=⟨[.ptr 1 0],(vi++h5),k30,.tup [],((h72 17 18 7001001 7001002 7001003 7001004 7001005 7001006 19 20 21 22 23 24 25 26)++h5++(h73 7001001 27 7001002 28 7001003 29 7001004 30 7001005 31 7001006 32)),k74,false,λx=>zju (xw x)⟩
set_option maxHeartbeats 4000000 in
theorem zDd:HBc 36 Qw:=ctk (T:=[(42,zS),(121,zj2),(122,YM),(123,zdh),(124,qO),(125,zdi),(126,YN),(94,za8),(127,Ve),(128,zj5),(125,zdr),(129,qz),(130,yb),(131,zj6),(41,zx),(132,zry),(133,xb)]) (h:=.s (.l ⟨[(0,.ptr 1 0)],zZ6,[jN],k74⟩ [] zZ6 k74 0 (λx K v=>yj (BB.mk x 0 [] [] [] [] [] [] [] 0 [] [] [] [] [] [] false) K v) .n) .n) Tryz.func36 rfl zW2 ⟨zK,zn9,zdf,zg5,kP,zg6,zdj,zdm,Qv,zoe,zha,qA,z7,zof,zr,zuz,yO,trivial⟩ λx=>by kernel_rfl
def Vl:CtP TS PC:=⟨[.ptr 1 0,dI 17],vi,k40,λx=>Hw (zct x) (rBB x)⟩
def Zw:HBp 134 Vl:=ctp (T:=[(42,zS)]) (TP:=[]) (h:=.n) Tryz.func134 rfl zMv ⟨zK,trivial⟩ trivial λx=>aj
def z6:CtP TS PC:=⟨[.ptr 1 0,.d .b 17,dI 18],vi,k32,λx=>zt (zct x) (rBB x).1 (rBB x).2⟩
def zY:HBp 41 z6:=ctp (T:=[]) (TP:=[(134,Vl)]) (h:=.n) Tryz.func41 rfl zJm trivial ⟨Zw,trivial⟩ λx=>aj
def zog:CtP TS PC:=⟨[.ptr 1 0,dI 17,dI 18],vi,k33,λx=>vY (zct x) (rBB x).1 (rBB x).2⟩
def zya:HBp 121 zog:=ctp (T:=[(41,zx)]) (TP:=[(41,z6)]) (h:=.n) Tryz.func121 rfl zMx ⟨zr,trivial⟩ ⟨zY,trivial⟩ λx=>aj
def wj:CtP TS PC:=⟨[.ptr 1 0],(vi++h5),k30,λx=>yQ (xw x)⟩
def xZ:HBp 207 wj:=ctp (T:=[(190,zR),(41,zx)]) (TP:=[(41,z6)]) (h:=.n) Tryz.func207 rfl zuo ⟨zM,zr,trivial⟩ ⟨zY,trivial⟩ λx=>aj
def zhd:CtP TS PC:=⟨[.ptr 1 0,.om 9],(vi++h5),k30,λx=>We (xw x)⟩
def zrz:HBp 191 zhd:=ctp (T:=[(190,zR),(41,zx),(42,zS),(207,yx)]) (TP:=[(41,z6),(207,wj)]) (h:=.n) Tryz.func191 rfl AR ⟨zM,zr,zK,yl,trivial⟩ ⟨zY,xZ,trivial⟩ λx=>aj
def zu0:CtP TS PC:=⟨[.ptr 1 0,.ci .i64 0],(vi++h5),k30,λx=>zjv (xw x)⟩
def zDe:HBp 125 zu0:=zT1 (cd:=cdO) (nb:=nbT) (T:=[(191,zde)]) (TP:=[(191,zhd)]) (h:=.s .n (.s (.j ⟨[(0,.ptr 1 0),(1,dI 16)],((h35 1 2 7000001 3 4 5 6 7 8 9 10)++h5++(h36 7000001 17)),k37,[mBQ]⟩ false .n) .n)) Tryz.func125 rfl J4 ⟨zg3,trivial⟩ ⟨zrz,trivial⟩ λx=>aj
def vN:CtP TS PC:=⟨[.ptr 1 0,.d .s 17],vi,k38,λx=>yi (zct x) (rBB x)⟩
def vO:HBp 133 vN:=ctp (T:=[(194,vM),(41,zx)]) (TP:=[(41,z6)]) (h:=.n) Tryz.func133 rfl zup ⟨vq,zr,trivial⟩ ⟨zY,trivial⟩ λx=>aj
def xD:CtP TS PC:=⟨[.ptr 1 0,dI 17,dI 18],vi,k33,λx=>zB (zct x) (rBB x).1 (rBB x).2⟩
def xH:HBp 130 xD:=ctp (T:=[(193,yC),(41,zx),(42,zS)]) (TP:=[(41,z6)]) (h:=.s .n (.s .n (.s .n (.s (.j ⟨[(0,.ptr 1 0),(7,dI 17)],zlu,k39,[]⟩ true .n) .n)))) Tryz.func130 rfl zun ⟨yD,zr,zK,trivial⟩ ⟨zY,trivial⟩ λx=>aj
def JJ(RK:Nat):CtP TS PC:=⟨[.ptr 1 0,dI 17],(vi++h5),k40,λx=>AM RK (zct x) (rBB x)⟩
def jY(RK:Nat):CtP TS PC:=⟨[.ptr 1 0,dI 17],(vi++h5),k40,λx=>xp RK (zct x) (rBB x)⟩
def kQ:∀RK,(JJ RK).OK PGq (pvT PT PC) 150/\(jY RK).OK PGq (pvT PT PC) 40
 |0=>⟨(λx r h=>nomatch (show(none:Option _)=some r from h)),(λx r h=>nomatch (show(none:Option _)=some r from h))⟩
 |RK+1=>⟨(ctp (c:=JJ (RK+1)) (T:=[(194,vM),(40,wE KK),(133,xb),(193,yC),(130,yb),(207,yx)]) (TP:=[(40,jY RK),(133,vN),(130,xD),(207,wj)]) (h:=.s .n (.s (.s (.s (.j ⟨[(0,.ptr 1 0),(1,dI 16),(4,.ptr 1000004 0),(10,.d .b 21)],zZ3,k41,[i6,.b]⟩ false .n) (.s .n (.s (.j ⟨[(0,.ptr 1 0),(1,dI 16),(4,.ptr 1000004 0),(31,.d .b 21)],zZ3,k41,[i6,.b]⟩ false .n) (.s .n (.s (.j ⟨[(0,.ptr 1 0),(4,.ptr 1000004 0),(42,.d .b 20)],zV3,k42,[i6,.b]⟩ false .n) .n))))) .n) .n)) Tryz.func150 rfl QO ⟨vq,(qy KK),yO,yD,z7,yl,trivial⟩ ⟨⟨QD,(kQ RK).2⟩,vO,xH,xZ,trivial⟩ λx=>aj).2,(ctp (c:=jY (RK+1)) (T:=[(150,um KK),(151,qx),(124,qO),(40,wE KK)]) (TP:=[(150,JJ RK),(40,jY RK)]) (h:=.s .n (.s .n (.s (.lr ⟨[(0,.ptr 1 0),(1,dI 16),(4,.ptr 1000004 0),(5,.ptr 1000005 0),(6,dI 21)],zV4,k41,k12⟩ [] [] [] 999999999 (λx K v=>kM (xp RK) (BB.mk x.1 0 x.2.2.2.1 x.2.2.2.2.1 (p5Q x).1 (p6Q x).1 (p7Q x).1 (p8Q x).1 (p9Q x).1 x.2.1 (zlr x).1 (zls x).1 (zlt x).1 (zp4 x).1 (zp5 x).1 (zum x).1 x.2.2.1) (zMo x).1 (zMp x).1 (zTx x).1 (zTy x) K v) (.s (.s .n (.s (.s .n (.s (.l ⟨[(0,.ptr 1 0),(1,dI 17),(4,.ptr 1000004 0),(5,.ptr 1000005 0),(6,dI 18),(7,.ptr 1000007 0),(16,.d zp3 19),(17,dI 20),(18,dI 29)],(zlu++h5++(h44 21 22 23 24 25 26 27 28 30 31 32)),k45,k3⟩ [(0,.ptr 1 0),(1,dI 17),(4,.ptr 1000004 0),(5,.ptr 1000005 0),(6,dI 18),(7,.ptr 1000007 0)] (zlu++h5++(h44 21 22 23 24 25 26 27 28 29 30 31)) [.s,i6,i6] 2 (λx K v=>kL (BB.mk x.1 0 x.2.2.2.2.1 (p5Q x).1 (p6Q x).1 (p7Q x).1 (p8Q x).1 (p9Q x).1 (zlr x).1 x.2.2.1 (zls x).1 (zlt x).1 (zp4 x).1 (zp5 x).1 (zum x).1 (zMo x).1 x.2.2.2.1) x.2.1 (zMp x).1 (zTx x).1 (zTy x).1 (zZ2 x).1 (p21Q x).1 (p22Q x).1 (p23Q x).1 (p24Q x).1 (p25Q x).1 (p26Q x).1 (p27Q x).1 (p28Q x) K v) (.s .n (.s .n (.s (.j ⟨[(0,.ptr 1 0),(1,dI 17),(4,.ptr 1000004 0),(5,.ptr 1000005 0),(6,dI 18),(7,.ptr 1000007 0),(16,.d zp3 19),(17,dI 20),(18,dI 21)],(zlu++h5++(h44 22 23 24 25 26 27 28 29 30 31 32)),k46,[.s,i6,i6]⟩ false .n) .n)))) .n)) (.s (.s (.j ⟨[(0,.ptr 1 0),(1,dI 17),(4,.ptr 1000004 0),(5,.ptr 1000005 0),(7,.ptr 1000007 0),(51,.d .b 29)],(zlu++h5++(h44 18 19 20 21 22 23 24 25 26 27 28)),k47,[.b]⟩ false .n) .n) .n))) .n)) .n))) Tryz.func40 rfl QD ⟨(zj3 KK),uj,kP,(qy KK),trivial⟩ ⟨⟨QO,(kQ RK).1⟩,⟨QD,(kQ RK).2⟩,trivial⟩ λx=>aj).2⟩
def Zx(RK:Nat):ze PGq 40/\(jY RK).OK PGq (pvT PT PC) 40:=⟨QD,(kQ RK).2⟩
def zbb:CtP TS PC:=⟨[.ptr 1 0,.d .b 17,dI 18],vi,k32,λx=>Ju (zct x) (rBB x).1 (rBB x).2⟩
def zdu:HBp 127 zbb:=ctp (T:=[(124,qO),(41,zx)]) (TP:=[(41,z6)]) (h:=.n) Tryz.func127 rfl zMy ⟨kP,zr,trivial⟩ ⟨zY,trivial⟩ λx=>aj
def zdv:CtP TS PC:=⟨[.ptr 1 0],(vi++h5),k30,λx=>Qm (xw x)⟩
def zoh:HBp 122 zdv:=ctp (T:=[(125,zru),(133,xb),(40,wE KK),(43,qN KK),(127,Ve)]) (TP:=[(125,zu0),(133,vN),(40,jY KK),(127,zbb)]) (h:=.n) Tryz.func122 rfl zMz ⟨zuw,yO,(qy KK),(HG KK),Qv,trivial⟩ ⟨zDe,vO,(Zx KK),zdu,trivial⟩ λx=>aj
def Zy:CtP TS PC:=⟨[.ptr 1 0,.om 10],(vi++h5),k30,λx=>Jv (xw x)⟩
def zj7:HBp 191 Zy:=ctp (T:=[(190,zR),(41,zx),(42,zS),(207,yx)]) (TP:=[(41,z6),(207,wj)]) (h:=.n) Tryz.func191 rfl AR ⟨zM,zr,zK,yl,trivial⟩ ⟨zY,xZ,trivial⟩ λx=>aj
def zhe:CtP TS PC:=⟨[.ptr 1 0,.ci .i64 1],(vi++h5),k30,λx=>Wf (xw x)⟩
def zr0:HBp 125 zhe:=zT1 (cd:=cdO) (nb:=nbT) (T:=[(191,Vf)]) (TP:=[(191,Zy)]) (h:=.s .n (.s (.j ⟨[(0,.ptr 1 0),(1,dI 16)],zV5,k37,[mBQ]⟩ false .n) .n)) Tryz.func125 rfl J4 ⟨Zq,trivial⟩ ⟨zj7,trivial⟩ λx=>aj
def Zz:CtP TS PC:=⟨[.ptr 1 0,.mp 15],((h49 1 17)++h5),k50,λx=>yt (zct x) (rBB x)⟩
def zj8:HBp 191 Zz:=ctp (T:=[(190,zR),(41,zx),(42,zS),(207,yx)]) (TP:=[(41,z6),(207,wj)]) (h:=.n) Tryz.func191 rfl AR ⟨zM,zr,zK,yl,trivial⟩ ⟨zY,xZ,trivial⟩ λx=>aj
def Vm:CtP TS PC:=⟨[.ptr 1 0,dI 17],vi,k40,λx=>qo (zct x) (rBB x)⟩
def ZA:HBp 192 Vm:=ctp (T:=[(194,vM),(130,yb)]) (TP:=[(130,xD)]) (h:=.n) Tryz.func192 rfl zM0 ⟨vq,z7,trivial⟩ ⟨xH,trivial⟩ λx=>aj
def zhf:CtP TS PC:=⟨[.ptr 1 0],(vi++h5),k30,λx=>Wg (xw x)⟩
def zr1:HBp 123 zhf:=ctp (T:=[(125,zdg),(190,zR),(41,zx),(191,Vg),(192,HK),(133,xb)]) (TP:=[(125,zhe),(41,z6),(191,Zz),(192,Vm),(133,vN)]) (h:=.s .n (.s .n (.s (.s (.lr ⟨[(0,.ptr 1 0),(2,.ptr 1000002 0),(3,.mp 1000007)],(zJj++h5++h51),k52,[i6,.m .s .b,l2Q]⟩ [(0,.ptr 1 0),(2,.ptr 1000002 0)] (zJj++h5++h53) [i6,l2Q] 0 (λx K v=>uf (BB.mk x.1 0 x.2.2.2.1 x.2.2.2.2.1 (p5Q x).1 (p6Q x).1 (p7Q x).1 (p8Q x).1 (p9Q x).1 x.2.1 (zlr x).1 [] (zls x).1 (zlt x).1 (zp4 x).1 (zp5 x).1 x.2.2.1) (zum x).1 (zMo x).1 (zMp x) K v) .n) .n) .n))) Tryz.func123 rfl zM1 ⟨zg4,zM,zr,Zr,JI,yO,trivial⟩ ⟨zr0,zY,zj8,ZA,vO,trivial⟩ λx=>aj
def ZB:CtP TS PC:=⟨[.ptr 1 0,.om 11],(vi++h5),k30,λx=>Jw (xw x)⟩
def zj9:HBp 191 ZB:=ctp (T:=[(190,zR),(41,zx),(42,zS),(207,yx)]) (TP:=[(41,z6),(207,wj)]) (h:=.n) Tryz.func191 rfl AR ⟨zM,zr,zK,yl,trivial⟩ ⟨zY,xZ,trivial⟩ λx=>aj
def zhg:CtP TS PC:=⟨[.ptr 1 0,.ci .i64 2],(vi++h5),k30,λx=>Kx (xw x)⟩
def zr2:HBp 125 zhg:=zT1 (cd:=cdO) (nb:=nbT) (T:=[(191,Vh)]) (TP:=[(191,ZB)]) (h:=.s .n (.s (.j ⟨[(0,.ptr 1 0),(1,dI 16)],zV6,k37,[mBQ]⟩ false .n) .n)) Tryz.func125 rfl J4 ⟨Zs,trivial⟩ ⟨zj9,trivial⟩ λx=>aj
def zdw:CtP TS PC:=⟨[.ptr 1 0],vi,k30,λx=>qp (xw x)⟩
def zoi:HBp 126 zdw:=ctp (T:=[(130,yb),(193,yC)]) (TP:=[(130,xD)]) (h:=.s .n (.s .n (.s (.lr ⟨[(0,.ptr 1 0),(3,.row 2 7000001)],(zMq++[(7000001,.row 156 (.st 4) 17 false)]),k55,[i6,l4Q]⟩ [] [] [] 999999999 (λx K v=>kN (BB.mk x.1 0 x.2.2.2.1 x.2.2.2.2.1 (p5Q x).1 (p6Q x).1 (p7Q x).1 (p8Q x).1 (p9Q x).1 x.2.1 (zlr x).1 (zls x).1 (zlt x).1 (zp4 x).1 (zp5 x).1 (zum x) x.2.2.1) K v) .n) .n))) Tryz.func126 rfl zM2 ⟨z7,yD,trivial⟩ ⟨xH,trivial⟩ λx=>aj
def ZC:CtP TS PC:=⟨[.ptr 1 0,.om 12],(vi++h5),k30,λx=>Jx (xw x)⟩
def zka:HBp 191 ZC:=ctp (T:=[(190,zR),(41,zx),(42,zS),(207,yx)]) (TP:=[(41,z6),(207,wj)]) (h:=.n) Tryz.func191 rfl AR ⟨zM,zr,zK,yl,trivial⟩ ⟨zY,xZ,trivial⟩ λx=>aj
def zhh:CtP TS PC:=⟨[.ptr 1 0,.ci .i64 3],(vi++h5),k30,λx=>Wh (xw x)⟩
def zr3:HBp 125 zhh:=zT1 (cd:=cdO) (nb:=nbT) (T:=[(191,Vi)]) (TP:=[(191,ZC)]) (h:=.s .n (.s (.j ⟨[(0,.ptr 1 0),(1,dI 16)],zV7,k37,[mBQ]⟩ false .n) .n)) Tryz.func125 rfl J4 ⟨Zt,trivial⟩ ⟨zka,trivial⟩ λx=>aj
def zoj:CtP TS PC:=⟨[.ptr 1 0],(vi++h5),k30,λx=>Jy (xw x)⟩
def zyb:HBp 195 zoj:=ctp (T:=[(207,yx),(190,zR)]) (TP:=[(207,wj)]) (h:=.s .n (.s .n (.s (.s (.lr ⟨[(0,.ptr 1 0),(3,.row 1 1000008)],(zMq++h5++(h57 1000008 17)),k55,[i6,lsQ]⟩ [(3,.row 1 1000008)] (zMq++h5++(h57 1000008 17)) [i6,lsQ] 0 (λx K v=>Ad (BB.mk x.1 0 x.2.2.2.1 x.2.2.2.2.1 (p5Q x).1 (p6Q x).1 (p7Q x).1 (p8Q x).1 (p9Q x).1 x.2.1 (zlr x).1 (zls x).1 (zlt x).1 (zp4 x).1 (zp5 x).1 (zum x) x.2.2.1) K v) .n) .n) .n))) Tryz.func195 rfl zM3 ⟨yl,zM,trivial⟩ ⟨xZ,trivial⟩ λx=>aj
def JK:CtP TS PC:=⟨[.ptr 1 0,.d .s 17],(vi++h5),k38,λx=>vZ (zct x) (rBB x)⟩
def KC:HBp 129 JK:=ctp (T:=[(42,zS),(197,zdq),(41,zx)]) (TP:=[(41,z6)]) (h:=.s .n (.s .n (.s (.j ⟨[(0,.ptr 1 0),(5,dI 17)],(zlu++h5),k39,[]⟩ true .n) .n))) Tryz.func129 rfl zM4 ⟨zK,zba,zr,trivial⟩ ⟨zY,trivial⟩ λx=>aj
def zu1:CtP TS PC:=⟨[.ptr 1 0],(vi++h5),k30,λx=>zjw (xw x)⟩
def zDf:HBp 196 zu1:=ctp (T:=[(42,zS),(197,zdq),(41,zx),(129,qz)]) (TP:=[(41,z6),(129,JK)]) (h:=.s .n (.s .n (.s (.lr ⟨[(0,.ptr 1 0),(3,dI 17)],(zMq++h5),k55,[i6,i6]⟩ [] [] [] 999999999 (λx K v=>Hx (BB.mk x.1 0 x.2.2.2.1 x.2.2.2.2.1 (p5Q x).1 (p6Q x).1 (p7Q x).1 (p8Q x).1 (p9Q x).1 x.2.1 (zlr x).1 (zls x).1 (zlt x).1 (zp4 x).1 (zp5 x).1 (zum x) x.2.2.1) K v) (.s (.s .n (.s (.s (.j ⟨[(0,.ptr 1 0),(3,dI 17),(4,dI 18),(24,.d .b 19)],(zlu++h5),k58,[.b]⟩ false .n) .n) (.s (.j ⟨[(0,.ptr 1 0),(3,dI 17)],(zlu++h5),k39,[]⟩ true .n) .n))) .n)) .n))) Tryz.func196 rfl zM5 ⟨zK,zba,zr,qA,trivial⟩ ⟨zY,KC,trivial⟩ λx=>aj
def zok:CtP TS PC:=⟨[.ptr 1 0],(vi++h5),k30,λx=>Wi (xw x)⟩
def zyc:HBp 128 zok:=ctp (T:=[(125,zdn),(194,vM),(195,zj4),(130,yb),(133,xb),(196,zrx),(129,qz),(40,wE KK),(43,qN KK),(127,Ve)]) (TP:=[(125,zhh),(195,zoj),(130,xD),(133,vN),(196,zu1),(129,JK),(40,jY KK),(127,zbb)]) (h:=.s .n (.s (.j ⟨[(0,.ptr 1 0),(2,.ptr 1000002 0)],(zJk++h5++(h59 23 17 18 18 18 19 18 18 18 20 20 21 18 18 18 18 18 18 18)),k60,[i6,lsQ]⟩ true .n) (.s (.j ⟨[(0,.ptr 1 0),(2,.ptr 1000002 0)],(zJk++h5++(h59 17 23 18 18 18 19 18 18 18 20 20 21 18 18 18 18 18 18 18)),k60,[i6,lsQ]⟩ true .n) (.s (.j ⟨[(0,.ptr 1 0),(2,.ptr 1000002 0)],(zZ4++h5++(h59 17 18 24 19 19 20 19 19 19 21 21 22 19 19 19 19 19 19 19)),k61,[i6,i6]⟩ true .n) (.s (.j ⟨[(0,.ptr 1 0),(2,.ptr 1000002 0)],zV8,k62,[i6,i6]⟩ true .n) (.s (.j ⟨[(0,.ptr 1 0),(2,.ptr 1000002 0)],zV9,k63,[i6,i6]⟩ true .n) (.s .n (.s .n (.s (.j ⟨[(0,.ptr 1 0),(2,.ptr 1000002 0)],(zZ4++h5++(h59 17 18 19 20 21 22 24 25 26 27 28 29 30 31 32 33 34 35 36)),k64,k65⟩ true .n) .n))))))))) Tryz.func128 rfl zM6 ⟨zg9,vq,zod,z7,yO,zuy,qA,(qy KK),(HG KK),Qv,trivial⟩ ⟨zr3,zyb,xH,vO,zDf,KC,(Zx KK),zdu,trivial⟩ λx=>aj
def ZD:CtP TS PC:=⟨[.ptr 1 0,.om 13],(vi++h5),k30,λx=>Jz (xw x)⟩
def zkb:HBp 191 ZD:=ctp (T:=[(190,zR),(41,zx),(42,zS),(207,yx)]) (TP:=[(41,z6),(207,wj)]) (h:=.n) Tryz.func191 rfl AR ⟨zM,zr,zK,yl,trivial⟩ ⟨zY,xZ,trivial⟩ λx=>aj
def zhi:CtP TS PC:=⟨[.ptr 1 0,.ci .i64 4],(vi++h5),k30,λx=>Ky (xw x)⟩
def zr4:HBp 125 zhi:=zT1 (cd:=cdO) (nb:=nbT) (T:=[(191,Vj)]) (TP:=[(191,ZD)]) (h:=.s .n (.s (.j ⟨[(0,.ptr 1 0),(1,dI 16)],zWa,k37,[mBQ]⟩ false .n) .n)) Tryz.func125 rfl J4 ⟨Zu,trivial⟩ ⟨zkb,trivial⟩ λx=>aj
def ZE:CtP TS PC:=⟨[.ptr 1 0,.om 14],(vi++h5),k30,λx=>JA (xw x)⟩
def zkc:HBp 191 ZE:=ctp (T:=[(190,zR),(41,zx),(42,zS),(207,yx)]) (TP:=[(41,z6),(207,wj)]) (h:=.n) Tryz.func191 rfl AR ⟨zM,zr,zK,yl,trivial⟩ ⟨zY,xZ,trivial⟩ λx=>aj
def zhj:CtP TS PC:=⟨[.ptr 1 0,.ci .i64 5],(vi++h5),k30,λx=>Wj (xw x)⟩
def zr5:HBp 125 zhj:=zT1 (cd:=cdO) (nb:=nbT) (T:=[(191,Vk)]) (TP:=[(191,ZE)]) (h:=.s .n (.s (.j ⟨[(0,.ptr 1 0),(1,dI 16)],zWb,k37,[mBQ]⟩ false .n) .n)) Tryz.func125 rfl J4 ⟨Zv,trivial⟩ ⟨zkc,trivial⟩ λx=>aj
def zhk:CtP TS PC:=⟨[.ptr 1 0],vi,k30,λx=>Hy (xw x)⟩
def zr6:HBp 198 zhk:=ctp (T:=[(130,yb)]) (TP:=[(130,xD)]) (h:=.n) Tryz.func198 rfl zM7 ⟨z7,trivial⟩ ⟨xH,trivial⟩ λx=>aj
def zol:CtP TS PC:=⟨[.ptr 1 0],(vi++h5),k30,λx=>Wk (xw x)⟩
def zyd:HBp 131 zol:=ctp (T:=[(125,zds),(198,zdt),(133,xb),(130,yb),(193,yC),(41,zx)]) (TP:=[(125,zhj),(198,zhk),(133,vN),(130,xD),(41,z6)]) (h:=.s .n (.s .n (.s .n (.s .n (.s .n (.s (.s (.lr ⟨[(0,.ptr 1 0),(2,.ptr 1000002 0)],zZ5,k69,[i6,l9Q]⟩ [(0,.ptr 1 0),(2,.ptr 1000002 0)] zZ5 [i6,l9Q] 0 (λx K v=>Ae (BB.mk x.1 0 x.2.2.2.1 x.2.2.2.2.1 (p5Q x).1 (p6Q x).1 (p7Q x).1 (p8Q x).1 (p9Q x).1 x.2.1 (zlr x).1 (zls x).1 (zlt x).1 (zp4 x).1 (zp5 x).1 [] x.2.2.1) (zum x).1 (zMo x).1 (zMp x).1 (zTx x).1 (zTy x).1 (zZ2 x) K v) .n) .n) .n)))))) Tryz.func131 rfl zM8 ⟨zhb,zhc,yO,z7,yD,zr,trivial⟩ ⟨zr5,zr6,vO,xH,zY,trivial⟩ λx=>aj
def zu2:CtP TS PC:=⟨[.ptr 1 0],vi,k30,λx=>zc1 (xw x)⟩
def zDg:HBp 132 zu2:=ctp (T:=[(124,qO),(41,zx),(193,yC),(192,HK),(130,yb),(194,vM),(133,xb)]) (TP:=[(41,z6),(192,Vm),(130,xD),(133,vN)]) (h:=.s (.s .n (.s (.lr ⟨[(0,.ptr 1 0),(2,.d .b 17)],zJi,k70,[i6,l9Q,.b]⟩ [(0,.ptr 1 0)] zJi [i6,l9Q] 0 (λx K v=>oz (BB.mk x.1 0 x.2.2.2.1 x.2.2.2.2.1 (p5Q x).1 (p6Q x).1 (p7Q x).1 (p8Q x).1 [] x.2.1 (p9Q x).1 (zlr x).1 (zls x).1 (zlt x).1 (zp4 x).1 (zp5 x) x.2.2.1) K v) (.s .n (.s (.s (.s (.j ⟨[(0,.ptr 1 0)],zlu,k71,[]⟩ true .n) .n) .n) .n))) .n)) .n) Tryz.func132 rfl zM9 ⟨kP,zr,yD,JI,z7,vq,yO,trivial⟩ ⟨zY,ZA,xH,vO,trivial⟩ λx=>aj
def zdx:CtP TS PC:=⟨[.ptr 1 0],(vi++h5),k30,λx=>zjx (xw x)⟩
set_option maxHeartbeats 4000000 in
theorem zye:HBp 36 zdx:=ctp (T:=[(42,zS),(121,zj2),(122,YM),(123,zdh),(124,qO),(125,zdi),(126,YN),(94,za8),(127,Ve),(128,zj5),(125,zdr),(129,qz),(130,yb),(131,zj6),(41,zx),(132,zry),(133,xb)]) (TP:=[(121,zog),(122,zdv),(123,zhf),(125,zhg),(126,zdw),(127,zbb),(128,zok),(125,zhi),(129,JK),(130,xD),(131,zol),(41,z6),(132,zu2),(133,vN),(134,Vl)]) (h:=.s (.lr ⟨[(0,.ptr 1 0)],zZ6,[jN],k74⟩ [] zZ6 k74 0 (λx K v=>yk (BB.mk x 0 [] [] [] [] [] [] [] 0 [] [] [] [] [] [] false) K v) .n) .n) Tryz.func36 rfl zW2 ⟨zK,zn9,zdf,zg5,kP,zg6,zdj,zdm,Qv,zoe,zha,qA,z7,zof,zr,zuz,yO,trivial⟩ ⟨zya,zoh,zr1,zr2,zoi,zdu,zyc,zr4,KC,xH,zyd,zY,zDg,vO,Zw,trivial⟩ λx=>by kernel_rfl
def ZF:Ct TS:=⟨[.ptr 1 0,.fn 36 [.ptr 1 0] []],(vi++h5),k30,.tup [dI 17,dI 18],((h72 19 20 7001001 7001002 7001003 7001004 7001005 7001006 21 22 23 24 25 26 27 28)++h5++(h73 7001001 29 7001002 30 7001003 31 7001004 32 7001005 33 7001006 34)),[i6,i6,i6,i6,.b,l1Q,l3Q,l5Q,l7Q,l8Q,wi,l9Q,mBQ,mBQ,mBQ,mBQ,mBQ,mBQ],true,λx=>Kz (xw x)⟩
def zkd:ZF.OK PGq 35:=λx r h=>by
 obtain⟨q,h1,h2⟩:=bind_some h;cases h2;exact kmp aj (znm (F:=hV (od Qw.hin (yR (S:=TS) Qw.ci x))) (F':=hV (od Qw.hout (yR (S:=TS) Qw.ci x++yR (S:=TS) Qw.co q))) (a:=.ptr 1 0 0) (pv:=.ptr 1 0 0) (kmp aj (zDd.2 x q h1)))
def Wr:Ct TS:=⟨[.ptr 1 0,.fn 36 [.ptr 1 0] []],(vi++h5),k30,.tup [dI 17,dI 18],([(1,.rw 0),(2,.rw 0),(3,.rw 0),(4,.rw 0),(5,.rw 0),(6,.rw 0),(7,.rw 0),(8,.rw 0),(9,.rw 0),(10,.rw 0),(11,.rw 0),(12,.rw 0),(13,.rw 0),(14,.rw 0)]++h5),[i6,i6],true,λx=>JB (xw x)⟩
def zfo:Wr.OK PGq 35:=λx r h=>kmp aj (zjs (F:=hV (od zdx.hin (yR (S:=TS) zdx.ci x))) (a:=.ptr 1 0 0) (pv:=.ptr 1 0 0) (x:=r.1) (y:=r.2) (kmp aj (zye.2 x r h)))
def zr7:Ct TS:=⟨[.d .s 0],h5,[.s],.tup [.ag [.row 6 7000002,.row 3 7000003,.row 3 7000004,.row 20 7000005,.row 4 7000006,.row 6 7000007,.d l9Q 3,dI 4],dI 1,dI 2],(h75 7000001 7000002 7000003 7000004 7000005 7000006 7000007 3 4 5 6 7 8 9 10),k76,false,λx=>Hc x⟩
def zu3:HBc 10 zr7:=ctg (cd:=cdT) (nb:=Z9) (rc:=[(2,7000001,0)]) (T:=[(21,zrq),(35,ZF),(35,Wr)]) (h:=.n) Tryz.func10 rfl hbv10 ⟨zus,⟨zJn,zkd⟩,⟨zJn,zfo⟩,trivial⟩ λx=>aj
def zom:Ct TS:=⟨[.d (.st 1) 0],[],[.st 1],.d .s 1,[],[.s],false,λx=>znn x⟩
def zyf:HBc 80 zom:=ctk (T:=[]) (h:=.n) Tryz.func80 rfl hbv80 trivial λx=>aj
def JL:Ct TS:=⟨[.d lsQ 0,.d .b 1],h5,[lsQ,.b],.d .b 2,h5,[.b],false,u2Q qq⟩
def AT:HBc 179 JL:=ctk (T:=[(16,zg1)]) (h:=.s .n (.s .n (.s (.s .n (.s (.lr ⟨[(1,.d .b 0),(5,.mp 1000008),(9,.d lsQ 1),(10,dI 2),(11,dI 3)],[(900000000,.rw 1),(900000001,.rw 2),(900000002,.rw 3),(900000003,.rw 4),(1000008,.map .s .b 4)],[.b,lsQ,i6],[i6,.m .s .b]⟩ [] h5 [] 0 (u3Q oA) (.s .n (.s .n (.s (.s (.s .n (.s (.s (.j ⟨[(1,.d .b 0),(5,.mp 1000008),(7,.d .s 1),(9,.d lsQ 2),(10,dI 3),(11,dI 4),(25,.d .b 6)],[(900000000,.rw 1),(900000001,.rw 2),(900000002,.rw 3),(900000003,.rw 4),(1000008,.map .s .b 5)],[.b,.s,lsQ,i6,i6,.m .s .b],[.b]⟩ false .n) .n) .n)) .n) .n)))) .n)) .n))) Tryz.func179 rfl zW3 ⟨zc6,trivial⟩ λx=>aj
def zu4:Ct TS:=⟨[.d l1Q 0,dI 1,.fn 80 [] []],h5,[l1Q,i6],.d .b 2,h5,[.b],false,u2Q za0⟩
def zDh:HBc 79 zu4:=ctk (T:=[(80,zom),(179,JL)]) (h:=.s .n (.s .n (.s (.s .n (.s (.l ⟨[(0,.d l1Q 0),(1,dI 1),(2,.fn 80 [] []),(7,.row 1 7000001),(10,.d l1Q 0),(11,dI 2),(12,dI 3)],(h77 4),[l1Q,i6,i6],[i6,lsQ]⟩ [(0,.d l1Q 0),(1,dI 1),(7,.row 1 7000001)] (h77 3) [lsQ] 0 (u3Q JC) .n) .n)) .n))) Tryz.func79 rfl hbv79 ⟨zyf,AT,trivial⟩ λx=>aj
def zon:Ct TS:=⟨[.d (.st 3) 0],[],[.st 3],.d .s 1,[],[.s],false,λx=>zno x⟩
def zyg:HBc 82 zon:=ctk (T:=[]) (h:=.n) Tryz.func82 rfl hbv82 trivial λx=>aj
def zhl:Ct TS:=⟨[.d l3Q 0,dI 1,.fn 82 [] []],h5,[l3Q,i6],.d .b 2,h5,[.b],false,u2Q Qn⟩
def zr8:HBc 81 zhl:=ctk (T:=[(82,zon),(179,JL)]) (h:=.s .n (.s .n (.s (.s .n (.s (.l ⟨[(0,.d l3Q 0),(1,dI 1),(2,.fn 82 [] []),(7,.row 1 7000001),(10,.d l3Q 0),(11,dI 2),(12,dI 3)],(h77 4),[l3Q,i6,i6],[i6,lsQ]⟩ [(0,.d l3Q 0),(1,dI 1),(7,.row 1 7000001)] (h77 3) [lsQ] 0 (u3Q uQ) .n) .n)) .n))) Tryz.func81 rfl hbv81 ⟨zyg,AT,trivial⟩ λx=>aj
def zoo:Ct TS:=⟨[.d (.st 5) 0],[],[.st 5],.d .s 1,[],[.s],false,λx=>znp x⟩
def zyh:HBc 84 zoo:=ctk (T:=[]) (h:=.n) Tryz.func84 rfl hbv84 trivial λx=>aj
def zhm:Ct TS:=⟨[.d l5Q 0,dI 1,.fn 84 [] []],h5,[l5Q,i6],.d .b 2,h5,[.b],false,u2Q Qo⟩
def zr9:HBc 83 zhm:=ctk (T:=[(84,zoo),(179,JL)]) (h:=.s .n (.s .n (.s (.s .n (.s (.l ⟨[(0,.d l5Q 0),(1,dI 1),(2,.fn 84 [] []),(7,.row 1 7000001),(10,.d l5Q 0),(11,dI 2),(12,dI 3)],(h77 4),[l5Q,i6,i6],[i6,lsQ]⟩ [(0,.d l5Q 0),(1,dI 1),(7,.row 1 7000001)] (h77 3) [lsQ] 0 (u3Q uR) .n) .n)) .n))) Tryz.func83 rfl hbv83 ⟨zyh,AT,trivial⟩ λx=>aj
def zop:Ct TS:=⟨[.d (.st 7) 0],[],[.st 7],.d .s 1,[],[.s],false,λx=>znq x⟩
def zyi:HBc 86 zop:=ctk (T:=[]) (h:=.n) Tryz.func86 rfl hbv86 trivial λx=>aj
def zhn:Ct TS:=⟨[.d l7Q 0,dI 1,.fn 86 [] []],h5,[l7Q,i6],.d .b 2,h5,[.b],false,u2Q Qp⟩
def zsa:HBc 85 zhn:=ctk (T:=[(86,zop),(179,JL)]) (h:=.s .n (.s .n (.s (.s .n (.s (.l ⟨[(0,.d l7Q 0),(1,dI 1),(2,.fn 86 [] []),(7,.row 1 7000001),(10,.d l7Q 0),(11,dI 2),(12,dI 3)],(h77 4),[l7Q,i6,i6],[i6,lsQ]⟩ [(0,.d l7Q 0),(1,dI 1),(7,.row 1 7000001)] (h77 3) [lsQ] 0 (u3Q uS) .n) .n)) .n))) Tryz.func85 rfl hbv85 ⟨zyi,AT,trivial⟩ λx=>aj
def zoq:Ct TS:=⟨[.d (.st 8) 0],[],[.st 8],.d .s 1,[],[.s],false,λx=>znr x⟩
def zyj:HBc 88 zoq:=ctk (T:=[]) (h:=.n) Tryz.func88 rfl hbv88 trivial λx=>aj
def zho:Ct TS:=⟨[.d l8Q 0,dI 1,.fn 88 [] []],h5,[l8Q,i6],.d .b 2,h5,[.b],false,u2Q Qq⟩
def zsb:HBc 87 zho:=ctk (T:=[(88,zoq),(179,JL)]) (h:=.s .n (.s .n (.s (.s .n (.s (.l ⟨[(0,.d l8Q 0),(1,dI 1),(2,.fn 88 [] []),(7,.row 1 7000001),(10,.d l8Q 0),(11,dI 2),(12,dI 3)],(h77 4),[l8Q,i6,i6],[i6,lsQ]⟩ [(0,.d l8Q 0),(1,dI 1),(7,.row 1 7000001)] (h77 3) [lsQ] 0 (u3Q uT) .n) .n)) .n))) Tryz.func87 rfl hbv87 ⟨zyj,AT,trivial⟩ λx=>aj
def zor:Ct TS:=⟨[.d (.st 10) 0],[],[.st 10],.d .s 1,[],[.s],false,λx=>zns x⟩
def zyk:HBc 90 zor:=ctk (T:=[]) (h:=.n) Tryz.func90 rfl hbv90 trivial λx=>aj
def zhp:Ct TS:=⟨[.d wi 0,dI 1,.fn 90 [] []],h5,[wi,i6],.d .b 2,h5,[.b],false,u2Q Qr⟩
def zsc:HBc 89 zhp:=ctk (T:=[(90,zor),(179,JL)]) (h:=.s .n (.s .n (.s (.s .n (.s (.l ⟨[(0,.d wi 0),(1,dI 1),(2,.fn 90 [] []),(7,.row 1 7000001),(10,.d wi 0),(11,dI 2),(12,dI 3)],(h77 4),[wi,i6,i6],[i6,lsQ]⟩ [(0,.d wi 0),(1,dI 1),(7,.row 1 7000001)] (h77 3) [lsQ] 0 (u3Q uU) .n) .n)) .n))) Tryz.func89 rfl hbv89 ⟨zyk,AT,trivial⟩ λx=>aj
def zos:Ct TS:=⟨[.d (.st 2) 0],[],[.st 2],.d .s 1,[],[.s],false,λx=>znt x⟩
def zyl:HBc 92 zos:=ctk (T:=[]) (h:=.n) Tryz.func92 rfl hbv92 trivial λx=>aj
def zhq:Ct TS:=⟨[.d l2Q 0,dI 1,.fn 92 [] []],h5,[l2Q,i6],.d .b 2,h5,[.b],false,u2Q Qs⟩
def zsd:HBc 91 zhq:=ctk (T:=[(92,zos),(179,JL)]) (h:=.s .n (.s .n (.s (.s .n (.s (.l ⟨[(0,.d l2Q 0),(1,dI 1),(2,.fn 92 [] []),(7,.row 1 7000001),(10,.d l2Q 0),(11,dI 2),(12,dI 3)],(h77 4),[l2Q,i6,i6],[i6,lsQ]⟩ [(0,.d l2Q 0),(1,dI 1),(7,.row 1 7000001)] (h77 3) [lsQ] 0 (u3Q uV) .n) .n)) .n))) Tryz.func91 rfl hbv91 ⟨zyl,AT,trivial⟩ λx=>aj
def zke:Ct TS:=⟨[dI 0,dI 1,.d (.l i6) 2],[],[i6,i6,.l i6],.d .b 3,[],[.b],false,u3Q yd⟩
def zot:HBc 93 zke:=ctk (T:=[]) (h:=.s .n (.s (.s .n (.s (.lr ⟨[(0,dI 0),(1,dI 1),(9,.d (.l i6) 2),(10,dI 3),(11,dI 4)],[],[i6,i6,.l i6,i6],[i6]⟩ [] [] [] 0 (u4Q Af) (.s .n (.s .n (.s (.s (.s .n (.s (.j ⟨[(0,dI 0),(1,dI 1),(9,.d (.l i6) 2),(10,dI 3),(11,dI 4),(22,.d .b 5)],[],[i6,i6,.l i6,i6,i6],[.b]⟩ false .n) .n)) .n) .n)))) .n)) .n)) Tryz.func93 rfl hbv93 trivial λx=>aj
def QQ:Ct TS:=⟨[.d lsQ 0,.d lsQ 1],[],[lsQ,lsQ],.d .b 2,[],[.b],false,u2Q jD⟩
def zdy:HBc 188 QQ:=ctk (T:=[]) (h:=.s .n (.s .n (.s (.s .n (.s (.lr ⟨[(0,.d lsQ 0),(1,.d lsQ 1),(12,dI 2),(13,dI 3)],[],[lsQ,lsQ,i6],[i6]⟩ [] [] [] 0 (u3Q qs) .n) .n)) .n))) Tryz.func188 rfl zW4 trivial λx=>aj
def kS(RK:Nat):Ct TS:=⟨[.d l0Q 0,.d l0Q 1,.fn 104 [] []],[],[l0Q,l0Q],.d .b 2,[],[.b],false,λx=>vA RK x.1 x.2⟩
def oH(RK:Nat):Ct TS:=⟨[.d (.st 0) 0,.d (.st 0) 1],[],[.st 0,.st 0],.d .b 2,[],[.b],false,λx=>ja RK x.1 x.2⟩
def jy:∀RK,(kS RK).OK PGq 187/\(oH RK).OK PGq 104
 |0=>⟨(λx r h=>nomatch (show(none:Option _)=some r from h)),(λx r h=>nomatch (show(none:Option _)=some r from h))⟩
 |RK+1=>⟨(ctk (c:=kS (RK+1)) (T:=[(104,oH RK)]) (h:=.s .n (.s .n (.s (.s .n (.s (.lr ⟨[(1,.d l0Q 0),(2,.fn 104 [] []),(15,.d l0Q 1),(16,dI 2),(17,dI 3)],[],[l0Q,l0Q,i6],[i6]⟩ [] [] [] 0 (λx K v=>vI (ja RK) x.1 x.2.1 x.2.2 K v) .n) .n)) .n))) Tryz.func187 rfl zNa ⟨⟨zC5,(jy RK).2⟩,trivial⟩ λx=>aj).2,(ctk (c:=oH (RK+1)) (T:=[(187,kS RK)]) (h:=.n) Tryz.func104 rfl zC5 ⟨⟨zNa,(jy RK).1⟩,trivial⟩ λx=>aj).2⟩
def zdz(RK:Nat):ze PGq 104/\(oH RK).OK PGq 104:=⟨zC5,(jy RK).2⟩
def YQ:Ct TS:=⟨[.d (.st 7) 0,.d (.st 7) 1],[],[.st 7,.st 7],.d .b 2,[],[.b],false,u2Q qt⟩
def zd0:HBc 115 YQ:=ctk (T:=[(188,QQ),(104,oH KK)]) (h:=.s .n (.s (.s (.j ⟨[(2,.ptr 1000002 0),(3,.ptr 1000003 0),(27,.d .b 40)],zWc,k79,[.b]⟩ false .n) .n) (.s (.j ⟨[(2,.ptr 1000002 0),(3,.ptr 1000003 0),(5,.d .b 40)],zWc,k79,[.b]⟩ false .n) .n))) Tryz.func115 rfl zW5 ⟨zdy,(zdz KK),trivial⟩ λx=>aj
def zd1:Ct TS:=⟨[.d (.st 7) 0],h5,[.st 7],.d .b 1,h5,[.b],false,λx=>Ag x⟩
def zou:HBc 95 zd1:=ctk (T:=[(179,JL),(93,zke),(20,JH),(115,YQ)]) (h:=.s .n (.s (.s (.j ⟨[(1,.ptr 1000001 0),(37,.d .b 20)],[(900000000,.rw 1),(900000001,.rw 2),(900000002,.rw 3),(900000003,.rw 4),(1000001,.box 94 [.d .s 0,.d lsQ 1,.d lsQ 2,dI 3,dI 4,dI 5,.d .b 6,dI 7,dI 8,dI 9,.d .s 10,.d .s 11,.d l0Q 12,dI 13,dI 14,dI 15,dI 16,dI 17,dI 18,dI 19])],k80,[.b]⟩ false .n) .n) (.s .n (.s .n (.s (.j ⟨[(1,.ptr 1000001 0),(3,.ptr 1000003 0),(4,.d .b 20)],[(900000000,.rw 1),(900000001,.rw 2),(900000002,.rw 3),(900000003,.rw 4),(1000001,.box 94 [.d .s 0,.d lsQ 1,.d lsQ 2,dI 3,dI 4,dI 5,.d .b 6,dI 7,dI 8,dI 9,.d .s 10,.d .s 11,.d l0Q 12,dI 13,dI 14,dI 15,dI 16,dI 17,dI 18,dI 19]),(1000003,.box 94 [.d .s 0,.d lsQ 1,.d lsQ 2,dI 3,dI 4,dI 5,.d .b 6,dI 7,dI 21,dI 22,.d .s 23,.d .s 24,.d l0Q 25,dI 26,dI 27,dI 28,dI 29,dI 30,dI 31,dI 32])],k80,[.b,i6,i6,.s,.s,l0Q,i6,i6,i6,i6,i6,i6,i6]⟩ false .n) .n))))) Tryz.func95 rfl hbv95 ⟨AT,zot,KB,zd0,trivial⟩ λx=>aj
def zkf:Ct TS:=⟨[.d (.st 14) 0],h5,[.st 14],.d .b 1,h5,[.b],false,λx=>Hd x⟩
def zkg:HBc 28 zkf:=ctk (T:=[(79,zu4),(81,zhl),(83,zhm),(85,zhn),(87,zho),(89,zhp),(20,JH),(91,zhq),(93,zke),(94,za8),(95,zd1)]) (h:=.s .n (.s (.s (.j ⟨[(1,.ptr 1000001 0),(54,.d .b 8)],(h81 1000001 0 1 2 3 4 5 6 7),k4,[.b]⟩ false .n) .n) (.s (.s .n (.s (.lr ⟨[(1,.ptr 1000001 0),(56,.d l1Q 0),(57,dI 1),(58,dI 9)],(h81 1000001 0 2 3 4 5 6 7 8),k82,[i6]⟩ [(1,.ptr 1000001 0)] (h81 1000001 0 2 3 4 5 6 7 8) [] 0 (u9Q oB) .n) .n)) (.s (.s .n (.s (.lr ⟨[(1,.ptr 1000001 0),(68,.d l3Q 0),(69,dI 1),(70,dI 9)],(h81 1000001 2 0 3 4 5 6 7 8),k83,[i6]⟩ [(1,.ptr 1000001 0)] (h81 1000001 2 0 3 4 5 6 7 8) [] 2 (u9Q qu) (.s .n (.s .n (.s (.s (.s .n (.s (.s (.j ⟨[(1,.ptr 1000001 0),(6,.ptr 1000006 0),(68,.d l3Q 0),(69,dI 1),(70,dI 2),(84,.d .b 13)],[(900000000,.rw 1),(900000001,.rw 2),(900000002,.rw 3),(900000003,.rw 4),(1000001,.box 31 [.d l1Q 3,.d l3Q 0,.d l5Q 4,.d l7Q 5,.d l8Q 6,.d wi 7,.d l9Q 8,dI 9]),(1000006,.box 87 [.d .s 10,.d l2Q 11,dI 12])],[l3Q,i6,i6,l1Q,l5Q,l7Q,l8Q,wi,l9Q,i6,.s,l2Q,i6],[.b]⟩ false .n) .n) (.s .n (.s (.lr ⟨[(1,.ptr 1000001 0),(68,.d l3Q 0),(69,dI 1),(70,dI 2),(86,.d l2Q 3),(87,dI 4),(88,dI 12)],(h81 1000001 5 0 6 7 8 9 10 11),[l3Q,i6,i6,l2Q,i6,l1Q,l5Q,l7Q,l8Q,wi,l9Q,i6],[i6]⟩ [(1,.ptr 1000001 0),(68,.d l3Q 0),(69,dI 1),(70,dI 2)] (h81 1000001 5 0 6 7 8 9 10 11) [] 4 (zZ1 Hz) .n) .n)))) .n) .n)))) .n)) (.s (.s .n (.s (.lr ⟨[(1,.ptr 1000001 0),(100,.d l5Q 0),(101,dI 1),(102,dI 9)],(h81 1000001 2 3 0 4 5 6 7 8),k84,[i6]⟩ [(1,.ptr 1000001 0)] (h81 1000001 2 3 0 4 5 6 7 8) [] 6 (u9Q oC) .n) .n)) (.s (.s .n (.s (.lr ⟨[(1,.ptr 1000001 0),(112,.d l7Q 0),(113,dI 1),(114,dI 9)],(h81 1000001 2 3 4 0 5 6 7 8),k85,[i6]⟩ [(1,.ptr 1000001 0)] (h81 1000001 2 3 4 0 5 6 7 8) [] 8 (u9Q oD) .n) .n)) (.s (.s .n (.s (.lr ⟨[(1,.ptr 1000001 0),(123,.d l8Q 0),(124,dI 1),(125,dI 9)],(h81 1000001 2 3 4 5 0 6 7 8),k86,[i6]⟩ [(1,.ptr 1000001 0)] (h81 1000001 2 3 4 5 0 6 7 8) [] 10 (u9Q oE) (.s .n (.s .n (.s (.s (.s .n (.s (.j ⟨[(1,.ptr 1000001 0),(123,.d l8Q 0),(124,dI 1),(125,dI 2),(146,.d .b 10)],(h81 1000001 3 4 5 6 0 7 8 9),[l8Q,i6,i6,l1Q,l3Q,l5Q,l7Q,wi,l9Q,i6],[.b]⟩ false .n) .n)) .n) .n)))) .n)) (.s (.s .n (.s (.lr ⟨[(1,.ptr 1000001 0),(149,.d wi 0),(150,dI 1),(151,dI 9)],(h81 1000001 2 3 4 5 6 0 7 8),k87,[i6]⟩ [(1,.ptr 1000001 0)] (h81 1000001 2 3 4 5 6 0 7 8) [] 12 (u9Q qv) (.s .n (.s .n (.s (.s (.s .n (.s (.s (.j ⟨[(1,.ptr 1000001 0),(16,.ptr 1000016 0),(149,.d wi 0),(150,dI 1),(151,dI 2),(167,.d .b 16)],[(900000000,.rw 1),(900000001,.rw 2),(900000002,.rw 3),(900000003,.rw 4),(1000001,.box 31 [.d l1Q 3,.d l3Q 4,.d l5Q 5,.d l7Q 6,.d l8Q 7,.d wi 0,.d l9Q 8,dI 9]),(1000016,.box 100 [.d .s 10,dI 11,dI 12,dI 13,dI 14,.d l9Q 15])],[wi,i6,i6,l1Q,l3Q,l5Q,l7Q,l8Q,l9Q,i6,.s,i6,i6,i6,i6,l9Q],[.b]⟩ false .n) .n) (.s .n (.s (.lr ⟨[(1,.ptr 1000001 0),(149,.d wi 0),(150,dI 1),(151,dI 2),(173,.row 3 1000170),(174,dI 3),(175,dI 12)],(h88 4 5 6 7 8 9 10 11),[wi,i6,i6,i6,l1Q,l3Q,l5Q,l7Q,l8Q,l9Q,i6,l9Q],[i6]⟩ [(1,.ptr 1000001 0),(149,.d wi 0),(150,dI 1),(151,dI 2)] (h81 1000001 4 5 6 7 8 0 9 10) [] 14 (zZ1 HA) (.s .n (.s .n (.s (.s (.s .n (.s (.j ⟨[(1,.ptr 1000001 0),(149,.d wi 0),(150,dI 1),(151,dI 2),(173,.row 3 1000170),(174,dI 3),(175,dI 4),(192,.d .b 13)],(h88 5 6 7 8 9 10 11 12),[wi,i6,i6,i6,i6,l1Q,l3Q,l5Q,l7Q,l8Q,l9Q,i6,l9Q],[.b]⟩ false .n) .n)) .n) .n)))) .n)))) .n) .n)))) .n)) (.s (.s .n (.s (.lr ⟨[(1,.ptr 1000001 0),(196,.d l9Q 0),(197,dI 1),(198,dI 9)],(h81 1000001 2 3 4 5 6 7 0 8),k89,[i6]⟩ [(1,.ptr 1000001 0)] (h81 1000001 2 3 4 5 6 7 0 8) [] 16 (u9Q oF) (.s .n (.s .n (.s (.s (.s .n (.s (.j ⟨[(1,.ptr 1000001 0),(196,.d l9Q 0),(197,dI 1),(198,dI 2),(215,.d .b 10)],(h81 1000001 3 4 5 6 7 8 0 9),[l9Q,i6,i6,l1Q,l3Q,l5Q,l7Q,l8Q,wi,i6],[.b]⟩ false .n) .n)) .n) .n)))) .n)) .n))))))))) Tryz.func28 rfl hbv28 ⟨zDh,zr8,zr9,zsa,zsb,zsc,KB,zsd,zot,zdm,zou,trivial⟩ λx=>aj
def YR:Ct TS:=⟨[.ptr 1 0],[(1,.gn 1 .s 0)],[.s],.d .s 1,[(1,.gn 1 .s 0)],[.s],false,λx=>HB x⟩
def zd2:YR.OK PGq 60:=λx r h=>by
 cases h;exact kmp aj (Yi (T:=123) 1 x)
def zkh:Ct TS:=⟨[.ptr 1 0,.d (.i .u8) 1],[(1,.gn 1 .s 0)],[.s,.i .u8],.nili,[(1,.gn 1 .s 2)],[.s],false,u2Q JD⟩
def zov:zkh.OK PGq 168:=λx r h=>kmp aj (zV2 zp6 x.1 x.2 r h)
def zDi:Ct TS:=⟨[.ptr 1 0,.d .s 1],[(1,.gn 1 .s 0)],[.s,.s],.tup [dI 2,.nili],[(1,.gn 1 .s 3)],[i6,.s],false,u2Q Ah⟩
def zJq:zDi.OK PGq 162:=λx r h=>by
 obtain⟨_,h1,h2⟩:=bind_some h;cases h2;exact kmp aj (zrg zp6 1 x.1 x.2 (xl h1))
def YS:Ct TS:=⟨[.ptr 1 0,.d (.l (.a 3 9)) 1],(h26 1 0),[.s,.l (.a 3 9)],.tup [],(h26 1 2),[.s],false,u2Q yw⟩
def Ws:HBc 67 YS:=ctk (T:=[(60,YR),(168,zkh),(162,zDi),(163,zC9)]) (h:=.s .n (.s (.l ⟨[(0,.ptr 1 0),(9,.d (.l (.a 3 9)) 0),(10,dI 1),(11,dI 3)],(h26 1 2),[.l (.a 3 9),i6],[.s,i6]⟩ [] (h26 1 2) [.s] 0 (u2Q oG) (.s .n (.s .n (.s (.j ⟨[(0,.ptr 1 0),(9,.d (.l (.a 3 9)) 0),(10,dI 1),(11,dI 2)],(h26 1 3),[.l (.a 3 9),i6,i6],[.s]⟩ false (.s (.s .n (.s (.j ⟨[(0,.ptr 1 0),(5,.d (.a 3 9) 0),(9,.d (.l (.a 3 9)) 1),(10,dI 2),(11,dI 3)],(h26 1 4),[.a 3 9,.l (.a 3 9),i6,i6],[.s]⟩ false (.s .n (.s (.j ⟨[(0,.ptr 1 0),(5,.d (.a 3 9) 1),(9,.d (.l (.a 3 9)) 2),(10,dI 3),(11,dI 4),(28,.d .b 5)],(h26 1 0),[.s,.a 3 9,.l (.a 3 9),i6,i6],[.b]⟩ false .n) .n))) (.s .n (.s (.s .n (.s .n (.s .n (.s (.s .n (.s (.j ⟨[(0,.ptr 1 0),(8,dI 4),(9,.d (.l (.a 3 9)) 0),(10,dI 1),(11,dI 2)],(h26 1 3),[.l (.a 3 9),i6,i6],[.s,i6]⟩ false .n) .n)) .n)))) .n)))) .n)) .n)))) .n)) Tryz.func67 rfl hbv67 ⟨⟨zx2,zd2⟩,⟨zNb,zov⟩,⟨zuh,zJq⟩,⟨zMw,zDa⟩,trivial⟩ λx=>aj
def zd3:Ct TS:=⟨[.ptr 1 0],(h26 1 0),[.s],.tup [],(h26 1 1),[.s],false,λx=>qw x⟩
def zbc:HBc 69 zd3:=ctk (T:=[(67,YS),(168,zkh)]) (h:=.n) Tryz.func69 rfl hbv69 ⟨Ws,⟨zNb,zov⟩,trivial⟩ λx=>aj
def zki:Ct TS:=⟨[.ptr 1 0,.d (.st 0) 1],(h26 1 0),[.s,.st 0],.tup [],(h26 1 2),[.s],false,u2Q Qt⟩
def zow:HBc 68 zki:=ctk (T:=[(58,zdc KK),(60,oi),(67,YS),(69,zd3)]) (h:=.n) Tryz.func68 rfl hbv68 ⟨(zuv KK),⟨zx2,Jj⟩,Ws,zbc,trivial⟩ λx=>aj
def zhr:Ct TS:=⟨[.ptr 1 0,.d l4Q 1],(h26 1 0),[.s,l4Q],.tup [],(h26 1 2),[.s],false,u2Q HC⟩
def zse:HBc 70 zhr:=ctk (T:=[(67,YS),(69,zd3)]) (h:=.s (.s .n (.s (.l ⟨[(0,.ptr 1 0),(6,.d l4Q 0),(7,dI 1),(8,dI 3)],(h26 1 2),[l4Q,i6],[.s,i6]⟩ [(0,.ptr 1 0)] (h26 1 2) [.s] 0 (u2Q xY) .n) .n)) .n) Tryz.func70 rfl hbv70 ⟨Ws,zbc,trivial⟩ λx=>aj
def zNc:Ct TS:=⟨[.d lsQ 0,.d .s 1],[],[lsQ,.s],.d .s 2,[],[.s],false,u2Q znu⟩
def zRn:zNc.OK PGq 65:=λx r h=>kmp aj (J.zVu x.1 x.2 r h)
def zu5:Ct TS:=⟨[.ptr 1 0,.d (.st 7) 1],(h26 1 0),[.s,.st 7],.tup [],(h26 1 2),[.s],false,u2Q za1⟩
def zDj:HBc 71 zu5:=ctk (T:=[(67,YS),(65,zNc),(72,za9),(68,zki),(69,zd3)]) (h:=.s .n (.s .n (.s (.s .n (.s (.l ⟨[(0,.ptr 1 0),(3,.ptr 1000003 0),(22,.row 1 1000022),(23,dI 0),(24,dI 23)],(h90 22 1 2 3 4 5 6 7 8 9 10 11 12 13 14 15 16 17 18 19 20 21),[i6,.s,lsQ,lsQ,i6,i6,i6,.b,i6,i6,i6,.s,.s,l0Q,i6,i6,i6,i6,i6,i6,i6,.l lsQ],[.s,i6]⟩ [(0,.ptr 1 0),(3,.ptr 1000003 0)] (h91 22 1 2 3 4 5 6 7 8 9 10 11 12 13 14 15 16 17 18 19 20) [.s] 0 (u22Q jT) (.s .n (.s .n (.s (.j ⟨[(0,.ptr 1 0),(3,.ptr 1000003 0),(22,.row 1 1000022),(23,dI 0),(24,dI 1)],(h90 23 2 3 4 5 6 7 8 9 10 11 12 13 14 15 16 17 18 19 20 21 22),[i6,i6,.s,lsQ,lsQ,i6,i6,i6,.b,i6,i6,i6,.s,.s,l0Q,i6,i6,i6,i6,i6,i6,i6,.l lsQ],[.s]⟩ false .n) .n)))) .n)) (.s (.s .n (.s (.l ⟨[(0,.ptr 1 0),(3,.ptr 1000003 0),(50,.row 1 1000050),(51,dI 0),(52,dI 23)],(h92 22 1 2 3 4 5 6 7 8 9 10 11 12 13 14 15 16 17 18 19 20 21),[i6,.s,lsQ,lsQ,i6,i6,i6,.b,i6,i6,i6,.s,.s,l0Q,i6,i6,i6,i6,i6,i6,i6,.l i6],[.s,i6]⟩ [(0,.ptr 1 0),(3,.ptr 1000003 0)] (h91 22 1 2 3 4 5 6 7 8 9 10 11 12 13 14 15 16 17 18 19 20) [.s] 2 (u22Q vJ) (.s .n (.s .n (.s (.j ⟨[(0,.ptr 1 0),(3,.ptr 1000003 0),(50,.row 1 1000050),(51,dI 0),(52,dI 1)],(h92 23 2 3 4 5 6 7 8 9 10 11 12 13 14 15 16 17 18 19 20 21 22),[i6,i6,.s,lsQ,lsQ,i6,i6,i6,.b,i6,i6,i6,.s,.s,l0Q,i6,i6,i6,i6,i6,i6,i6,.l i6],[.s]⟩ false .n) .n)))) .n)) (.s (.j ⟨[(0,.ptr 1 0),(3,.ptr 1000003 0)],(h91 20 0 1 2 3 4 5 6 7 8 9 10 11 12 13 14 15 16 17 18 19),k80,[.s]⟩ false .n) (.s .n (.s .n (.s (.j ⟨[(0,.ptr 1 0)],(h26 1 0),[],[.s]⟩ true (.s .n (.s (.s .n (.s .n (.s .n (.s .n (.s .n (.s .n (.s .n (.s (.s .n (.s .n (.s (.l ⟨[(0,.ptr 1 0),(3,.ptr 1000003 0),(140,.row 1 103008000),(141,dI 0),(142,dI 23)],(h93 22 1 2 3 4 5 6 7 8 9 10 11 12 13 14 15 16 17 18 19 20 21),[i6,.s,lsQ,lsQ,i6,i6,i6,.b,i6,i6,i6,.s,.s,l0Q,i6,i6,i6,i6,i6,i6,i6,lsQ],[.s,i6]⟩ [(0,.ptr 1 0)] (h26 1 22) [.s] 5 (u22Q wg) (.s .n (.s .n (.s (.j ⟨[(0,.ptr 1 0),(3,.ptr 1000003 0),(140,.row 1 103008000),(141,dI 0),(142,dI 1)],(h93 23 2 3 4 5 6 7 8 9 10 11 12 13 14 15 16 17 18 19 20 21 22),[i6,i6,.s,lsQ,lsQ,i6,i6,i6,.b,i6,i6,i6,.s,.s,l0Q,i6,i6,i6,i6,i6,i6,i6,lsQ],[.s]⟩ false .n) .n)))) .n))) .n)))))))) .n))) .n)))))))) Tryz.func71 rfl hbv71 ⟨Ws,⟨zQw,zRn⟩,⟨zRk,zdo⟩,zow,zbc,trivial⟩ λx=>aj
def zDk:Ct TS:=⟨[.ptr 1 0],[(1,.gn 1 .s 0)],[.s],dI 1,[(1,.gn 1 .s 0)],[i6],false,λx=>zri x⟩
def zJr:zDk.OK PGq 59:=λx r h=>by
 cases h;exact kmp aj (zCh (T:=123) 1 x)
def zsf:Ct TS:=⟨[.d (.st 14) 0],h5,[.st 14],.tup [.d .s 1,dI 2],h5,[.s,i6],false,λx=>YI x⟩
def zu6:HBc 26 zsf:=ctk (T:=[(28,zkf),(67,YS),(68,zki),(69,zd3),(70,zhr),(71,zu5),(72,za9),(59,zDk),(60,YR)]) (h:=.s .n (.s .n (.s .n (.s (.s .n (.s (.l ⟨[(1,.ptr 1000001 0),(4,.ptr 1000028 0),(30,.d l1Q 0),(31,dI 1),(32,dI 9)],(h94 0 2 3 4 5 6 7 8 10),k82,[i6,.s]⟩ [(1,.ptr 1000001 0),(4,.ptr 1000028 0)] (h94 0 2 3 4 5 6 7 8 9) [.s] 0 (u9Q jb) .n) .n)) (.s (.s .n (.s (.l ⟨[(1,.ptr 1000001 0),(4,.ptr 1000028 0),(50,.d l3Q 0),(51,dI 1),(52,dI 9)],(h94 2 0 3 4 5 6 7 8 10),k83,[i6,.s]⟩ [(1,.ptr 1000001 0),(4,.ptr 1000028 0)] (h94 2 0 3 4 5 6 7 8 9) [.s] 2 (u9Q jd) (.s .n (.s .n (.s (.s (.s .n (.s .n (.s (.s .n (.s (.l ⟨[(1,.ptr 1000001 0),(4,.ptr 1000028 0),(8,.ptr 1000008 0),(50,.d l3Q 0),(51,dI 1),(52,dI 2),(64,.d l2Q 3),(65,dI 4),(66,dI 14)],(h95 15),[l3Q,i6,i6,l2Q,i6,l1Q,l5Q,l7Q,l8Q,wi,l9Q,i6,.s,i6],[i6,.s]⟩ [(1,.ptr 1000001 0),(4,.ptr 1000028 0),(8,.ptr 1000008 0),(50,.d l3Q 0),(51,dI 1),(52,dI 2)] (h95 14) [.s] 4 (u14Q jc) .n) .n)) .n))) .n) .n)))) .n)) (.s (.s .n (.s (.l ⟨[(1,.ptr 1000001 0),(4,.ptr 1000028 0),(91,.d l5Q 0),(92,dI 1),(93,dI 9)],(h94 2 3 0 4 5 6 7 8 10),k84,[i6,.s]⟩ [(1,.ptr 1000001 0),(4,.ptr 1000028 0)] (h94 2 3 0 4 5 6 7 8 9) [.s] 6 (u9Q je) (.s .n (.s .n (.s (.s (.s .n (.s .n (.s (.j ⟨[(1,.ptr 1000001 0),(4,.ptr 1000028 0),(12,.ptr 1000012 0),(13,.d .s 14),(91,.d l5Q 0),(92,dI 1),(93,dI 2)],[(900000000,.rw 1),(900000001,.rw 2),(900000002,.rw 3),(900000003,.rw 4),(1000001,.box 31 [.d l1Q 3,.d l3Q 4,.d l5Q 0,.d l7Q 5,.d l8Q 6,.d wi 7,.d l9Q 8,dI 9]),(1000028,.gn 1 .s 10),(1000012,.box 64 [.d .s 11,.d .b 12,.d l4Q 13])],[l5Q,i6,i6,l1Q,l3Q,l7Q,l8Q,wi,l9Q,i6,.s,.s,.b,l4Q],[.s]⟩ false .n) .n))) .n) .n)))) .n)) (.s (.s .n (.s (.l ⟨[(1,.ptr 1000001 0),(4,.ptr 1000028 0),(113,.d l7Q 0),(114,dI 1),(115,dI 9)],(h94 2 3 4 0 5 6 7 8 10),k85,[i6,.s]⟩ [(1,.ptr 1000001 0),(4,.ptr 1000028 0)] (h94 2 3 4 0 5 6 7 8 9) [.s] 8 (u9Q jf) .n) .n)) (.s (.s .n (.s (.l ⟨[(1,.ptr 1000001 0),(4,.ptr 1000028 0),(124,.d l8Q 0),(125,dI 1),(126,dI 9)],(h94 2 3 4 5 0 6 7 8 10),k86,[i6,.s]⟩ [(1,.ptr 1000001 0),(4,.ptr 1000028 0)] (h94 2 3 4 5 0 6 7 8 9) [.s] 10 (u9Q jg) .n) .n)) (.s (.s .n (.s (.l ⟨[(1,.ptr 1000001 0),(4,.ptr 1000028 0),(152,.d wi 0),(153,dI 1),(154,dI 9)],(h94 2 3 4 5 6 0 7 8 10),k87,[i6,.s]⟩ [(1,.ptr 1000001 0),(4,.ptr 1000028 0)] (h94 2 3 4 5 6 0 7 8 9) [.s] 12 (u9Q ji) (.s .n (.s .n (.s (.s (.s .n (.s .n (.s (.s .n (.s (.l ⟨[(1,.ptr 1000001 0),(4,.ptr 1000028 0),(152,.d wi 0),(153,dI 1),(154,dI 2),(183,.d l9Q 3),(184,dI 4),(185,dI 12)],(h94 5 6 7 8 9 0 10 11 13),[wi,i6,i6,l9Q,i6,l1Q,l3Q,l5Q,l7Q,l8Q,l9Q,i6],[i6,.s]⟩ [(1,.ptr 1000001 0),(4,.ptr 1000028 0),(152,.d wi 0),(153,dI 1),(154,dI 2)] (h94 5 6 7 8 9 0 10 11 12) [.s] 14 (zZ1 jh) .n) .n)) .n))) .n) .n)))) .n)) (.s (.s .n (.s (.l ⟨[(1,.ptr 1000001 0),(4,.ptr 1000028 0),(206,.d l9Q 0),(207,dI 1),(208,dI 9)],(h94 2 3 4 5 6 7 0 8 10),k89,[i6,.s]⟩ [(1,.ptr 1000001 0),(4,.ptr 1000028 0)] (h94 2 3 4 5 6 7 0 8 9) [.s] 16 (u9Q jj) .n) .n)) (.s (.j ⟨[(1,.ptr 1000001 0),(4,.ptr 1000028 0)],(h94 0 1 2 3 4 5 6 7 8),k4,[.s]⟩ false .n) (.s (.j ⟨[(4,.ptr 1000028 0)],[(900000000,.rw 1),(900000001,.rw 2),(900000002,.rw 3),(900000003,.rw 4),(1000028,.gn 1 .s 0)],[],[.s]⟩ false .n) .n)))))))))))) Tryz.func26 rfl hbv26 ⟨zkg,Ws,zow,zbc,zse,zDj,⟨zRk,zdo⟩,⟨zWq,zJr⟩,⟨zx2,zd2⟩,trivial⟩ λx=>aj
def zd4:Ct TS:=⟨[],h5,[],.d .b 0,h5,[.b],false,λ_=>JE⟩
def zox:HBc 9 zd4:=ctg (cd:=cdL) (nb:=nbT) (rc:=[]) (T:=[(12,zda),(19,zdd),(10,zr7),(26,zsf),(28,zkf),(16,zg1)]) (h:=.s .n (.s .n (.s .n (.s .n (.s .n (.s .n (.s .n (.s .n (.s .n (.s .n (.s .n (.s (.j ⟨[(9,.ptr 1000009 0),(13,dI 0),(14,dI 1),(16,dI 2),(17,dI 3),(19,dI 4),(20,dI 5),(22,dI 6),(23,dI 7),(25,dI 8),(26,dI 9),(27,.d .b 18)],(h75 1000009 103005401 103005402 103005403 103005404 103005405 103005406 10 11 12 13 14 15 16 17),[i6,i6,i6,i6,i6,i6,i6,i6,i6,i6,l9Q,i6,l1Q,l3Q,l5Q,l7Q,l8Q,wi],[.b]⟩ false .n) (.s (.j ⟨[(9,.ptr 1000009 0),(27,.d .b 0),(28,.d .b 9)],(h75 1000009 103005401 103005402 103005403 103005404 103005405 103005406 1 2 3 4 5 6 7 8),k96,[.b]⟩ false .n) .n))))))))))))) Tryz.func9 rfl hbv9 ⟨zn5,zn8,zu3,zu6,zkg,zc6,trivial⟩ λx=>aj
def Ai(RK:Nat):Ct TS:=⟨[.d (.st 0) 0,dI 1],[],[.st 0,i6],dI 2,[],[i6],false,λx=>vK RK x.1 x.2⟩
def Wt:∀RK,(Ai RK).OK PGq 56
 |0=>(λx r h=>nomatch (show(none:Option _)=some r from h))
 |RK+1=>(ctk (c:=Ai (RK+1)) (T:=[(56,Ai RK)]) (h:=.s .n (.s .n (.s (.s .n (.s (.l ⟨[(1,dI 0),(2,.ptr 1000002 0),(5,dI 6),(6,dI 7)],(h25 1000002 1 2 3 4 5),k13,[i6,i6]⟩ [(5,dI 6)] [] [i6] 0 (λx K v=>vn (vK RK) x.1 x.2.1 x.2.2.1 x.2.2.2.1 x.2.2.2.2.1 (p5Q x) K v) (.s (.s (.j ⟨[(1,dI 0),(2,.ptr 1000002 0),(5,dI 1),(6,dI 2),(16,.d .b 8)],(h25 1000002 3 4 5 6 7),k22,[.b]⟩ false .n) .n) .n)) .n)) .n))) Tryz.func56 rfl zRl ⟨⟨zRl,(Wt RK)⟩,trivial⟩ λx=>aj).2
def zoy(RK:Nat):ze PGq 56/\(Ai RK).OK PGq 56:=⟨zRl,(Wt RK)⟩
def Aj(RK:Nat):Ct TS:=⟨[.d (.st 0) 0],[],[.st 0],.d .b 1,[],[.b],false,λx=>jU RK x⟩
def Wu:∀RK,(Aj RK).OK PGq 57
 |0=>(λx r h=>nomatch (show(none:Option _)=some r from h))
 |RK+1=>(ctk (c:=Aj (RK+1)) (T:=[(57,Aj RK)]) (h:=.s .n (.s (.s .n (.s (.lr ⟨[(1,.ptr 1000001 0),(3,dI 5)],(h25 1000001 0 1 2 3 4),[i6,i6,.s,.s,l0Q],[i6]⟩ [(1,.ptr 1000001 0)] (h25 1000001 0 1 2 3 4) [] 0 (λx K v=>qM (jU RK) x.1 x.2.1 x.2.2.1 x.2.2.2.1 x.2.2.2.2 K v) .n) .n)) .n)) Tryz.func57 rfl zRm ⟨⟨zRm,(Wu RK)⟩,trivial⟩ λx=>aj).2
def zoz(RK:Nat):ze PGq 57/\(Aj RK).OK PGq 57:=⟨zRm,(Wu RK)⟩
def Wv:Ct TS:=⟨[.d (.st 0) 0],[],[.st 0],.d .b 1,[],[.b],false,λx=>jk x⟩
def zfp:HBc 18 Wv:=ctk (T:=[(56,Ai KK),(57,Aj KK)]) (h:=.n) Tryz.func18 rfl hbv18 ⟨(zoy KK),(zoz KK),trivial⟩ λx=>aj
def QR:Ct TS:=⟨[.d lsQ 0],[],[lsQ],.d .b 1,[],[.b],false,λx=>wh x⟩
def zd5:HBc 66 QR:=ctk (T:=[]) (h:=.s .n (.s (.s .n (.s (.lr ⟨[(0,.d lsQ 0),(3,dI 1)],[],[lsQ],[i6]⟩ [(0,.d lsQ 0)] [] [] 0 (λx K v=>jm x K v) .n) .n)) .n)) Tryz.func66 rfl hbv66 trivial λx=>aj
def zo0:Ct TS:=⟨[.d (.st 14) 0],[],[.st 14],.d .b 1,[],[.b],false,λx=>Wl x⟩
def zym:HBc 25 zo0:=ctk (T:=[(18,Wv),(66,QR)]) (h:=.s .n (.s (.s (.j ⟨[(1,.ptr 1000001 0),(51,.d .b 8)],zzh,k4,[.b]⟩ false .n) .n) (.s (.s .n (.s (.lr ⟨[(1,.ptr 1000001 0),(3,dI 8)],zzh,k4,[i6]⟩ [(1,.ptr 1000001 0)] zzh [] 0 (u8Q AN) (.s .n (.s (.s (.s (.j ⟨[(1,.ptr 1000001 0),(3,dI 0),(76,.d .b 9)],zx3,zWd,[.b]⟩ false .n) .n) .n) .n))) .n)) (.s (.s .n (.s (.lr ⟨[(1,.ptr 1000001 0),(4,dI 8)],zzh,k4,[i6]⟩ [(1,.ptr 1000001 0)] zzh [] 2 (u8Q vL) (.s .n (.s (.s (.s .n (.s (.s (.j ⟨[(1,.ptr 1000001 0),(4,dI 0),(5,.ptr 1000005 0),(98,.d .b 12)],(h124 1000005),k125,[.b]⟩ false .n) .n) (.s .n (.s (.lr ⟨[(1,.ptr 1000001 0),(4,dI 0),(5,.ptr 1000005 0),(6,dI 12)],(h124 1000005),k125,[i6]⟩ [(1,.ptr 1000001 0),(4,dI 0)] zx3 [] 4 (zZ1 ug) .n) .n)))) .n) .n))) .n)) (.s (.s .n (.s (.lr ⟨[(1,.ptr 1000001 0),(7,dI 8)],zzh,k4,[i6]⟩ [(1,.ptr 1000001 0)] zzh [] 6 (u8Q AO) (.s .n (.s (.s (.s (.j ⟨[(1,.ptr 1000001 0),(7,dI 0),(138,.d .b 9)],zx3,zWd,[.b]⟩ false .n) .n) .n) .n))) .n)) (.s (.s .n (.s (.lr ⟨[(1,.ptr 1000001 0),(8,dI 8)],zzh,k4,[i6]⟩ [(1,.ptr 1000001 0)] zzh [] 8 (u8Q kl) (.s .n (.s (.s (.s .n (.s (.j ⟨[(1,.ptr 1000001 0),(8,dI 0),(172,.d .b 9)],zx3,zWd,[.b]⟩ false .n) .n)) .n) .n))) .n)) (.s (.s .n (.s (.lr ⟨[(1,.ptr 1000001 0),(10,dI 8)],zzh,k4,[i6]⟩ [(1,.ptr 1000001 0)] zzh [] 10 (u8Q AP) (.s .n (.s (.s (.s (.j ⟨[(1,.ptr 1000001 0),(10,dI 0),(197,.d .b 9)],zx3,zWd,[.b]⟩ false .n) .n) .n) .n))) .n)) (.s (.s .n (.s (.lr ⟨[(1,.ptr 1000001 0),(11,dI 8)],zzh,k4,[i6]⟩ [] [] [] 12 (u8Q AQ) (.s .n (.s (.s (.s (.j ⟨[(1,.ptr 1000001 0),(11,dI 0),(222,.d .b 9)],zx3,zWd,[.b]⟩ false .n) .n) .n) .n))) .n)) .n)))))))) Tryz.func25 rfl hbv25 ⟨zfp,zd5,trivial⟩ λx=>aj
def zu7:Ct TS:=⟨[.d (.st 1) 0,.d (.st 1) 1],[],[.st 1,.st 1],.d .b 2,[],[.b],false,u2Q za2⟩
def zDl:HBc 103 zu7:=ctk (T:=[(104,oH KK)]) (h:=.n) Tryz.func103 rfl zW6 ⟨(zdz KK),trivial⟩ λx=>aj
def uF:Ct TS:=⟨[.d l1Q 0,.d l1Q 1,.fn 103 [] []],[],[l1Q,l1Q],.d .b 2,[],[.b],false,u2Q wq⟩
def KD:HBc 112 uF:=ctk (T:=[(103,zu7)]) (h:=.s .n (.s .n (.s (.s .n (.s (.lr ⟨[(1,.d l1Q 0),(2,.fn 103 [] []),(15,.d l1Q 1),(16,dI 2),(17,dI 3)],[],[l1Q,l1Q,i6],[i6]⟩ [] [] [] 0 (u3Q wW) .n) .n)) .n))) Tryz.func112 rfl zW7 ⟨zDl,trivial⟩ λx=>aj
def J7:Ct TS:=⟨[.d l2Q 0,.d l2Q 1],[],[l2Q,l2Q],.d .b 2,[],[.b],false,u2Q jL⟩
def YT:HBc 106 J7:=ctk (T:=[]) (h:=.s .n (.s .n (.s (.s .n (.s (.lr ⟨[(0,.d l2Q 0),(1,.d l2Q 1),(12,dI 2),(13,dI 3)],[],[l2Q,l2Q,i6],[i6]⟩ [] [] [] 0 (u3Q jV) .n) .n)) .n))) Tryz.func106 rfl zW8 trivial λx=>aj
def zu8:Ct TS:=⟨[.d (.st 3) 0,.d (.st 3) 1],[],[.st 3,.st 3],.d .b 2,[],[.b],false,u2Q za3⟩
def zDm:HBc 105 zu8:=ctk (T:=[(106,J7)]) (h:=.n) Tryz.func105 rfl zW9 ⟨YT,trivial⟩ λx=>aj
def uG:Ct TS:=⟨[.d l3Q 0,.d l3Q 1,.fn 105 [] []],[],[l3Q,l3Q],.d .b 2,[],[.b],false,u2Q wu⟩
def KE:HBc 113 uG:=ctk (T:=[(105,zu8)]) (h:=.s .n (.s .n (.s (.s .n (.s (.lr ⟨[(1,.d l3Q 0),(2,.fn 105 [] []),(15,.d l3Q 1),(16,dI 2),(17,dI 3)],[],[l3Q,l3Q,i6],[i6]⟩ [] [] [] 0 (u3Q wX) .n) .n)) .n))) Tryz.func113 rfl zXa ⟨zDm,trivial⟩ λx=>aj
def uH:Ct TS:=⟨[.d l7Q 0,.d l7Q 1,.fn 115 [] []],[],[l7Q,l7Q],.d .b 2,[],[.b],false,u2Q wv⟩
def KF:HBc 114 uH:=ctk (T:=[(115,YQ)]) (h:=.s .n (.s .n (.s (.s .n (.s (.lr ⟨[(1,.d l7Q 0),(2,.fn 115 [] []),(15,.d l7Q 1),(16,dI 2),(17,dI 3)],[],[l7Q,l7Q,i6],[i6]⟩ [] [] [] 0 (u3Q wY) .n) .n)) .n))) Tryz.func114 rfl zXb ⟨zd0,trivial⟩ λx=>aj
def uv:Ct TS:=⟨[.d l4Q 0,.d l4Q 1],[],[l4Q,l4Q],.d .b 2,[],[.b],false,u2Q vg⟩
def HM:HBc 108 uv:=ctk (T:=[]) (h:=.s .n (.s .n (.s (.s .n (.s (.lr ⟨[(0,.d l4Q 0),(1,.d l4Q 1),(12,dI 2),(13,dI 3)],[],[l4Q,l4Q,i6],[i6]⟩ [] [] [] 0 (u3Q jW) .n) .n)) .n))) Tryz.func108 rfl zXc trivial λx=>aj
def zu9:Ct TS:=⟨[.d (.st 5) 0,.d (.st 5) 1],[],[.st 5,.st 5],.d .b 2,[],[.b],false,u2Q za4⟩
def zDn:HBc 107 zu9:=ctk (T:=[(108,uv)]) (h:=.n) Tryz.func107 rfl zXd ⟨HM,trivial⟩ λx=>aj
def uI:Ct TS:=⟨[.d l5Q 0,.d l5Q 1,.fn 107 [] []],[],[l5Q,l5Q],.d .b 2,[],[.b],false,u2Q wx⟩
def KH:HBc 116 uI:=ctk (T:=[(107,zu9)]) (h:=.s .n (.s .n (.s (.s .n (.s (.lr ⟨[(1,.d l5Q 0),(2,.fn 107 [] []),(15,.d l5Q 1),(16,dI 2),(17,dI 3)],[],[l5Q,l5Q,i6],[i6]⟩ [] [] [] 0 (u3Q wZ) .n) .n)) .n))) Tryz.func116 rfl zXe ⟨zDn,trivial⟩ λx=>aj
def zva:Ct TS:=⟨[.d (.st 8) 0,.d (.st 8) 1],[],[.st 8,.st 8],.d .b 2,[],[.b],false,u2Q za5⟩
def zDo:HBc 109 zva:=ctk (T:=[(108,uv)]) (h:=.n) Tryz.func109 rfl zXf ⟨HM,trivial⟩ λx=>aj
def uJ:Ct TS:=⟨[.d l8Q 0,.d l8Q 1,.fn 109 [] []],[],[l8Q,l8Q],.d .b 2,[],[.b],false,u2Q wy⟩
def KI:HBc 117 uJ:=ctk (T:=[(109,zva)]) (h:=.s .n (.s .n (.s (.s .n (.s (.lr ⟨[(1,.d l8Q 0),(2,.fn 109 [] []),(15,.d l8Q 1),(16,dI 2),(17,dI 3)],[],[l8Q,l8Q,i6],[i6]⟩ [] [] [] 0 (u3Q vb) .n) .n)) .n))) Tryz.func117 rfl zXg ⟨zDo,trivial⟩ λx=>aj
def uw:Ct TS:=⟨[.d l9Q 0,.d l9Q 1],[],[l9Q,l9Q],.d .b 2,[],[.b],false,u2Q vh⟩
def HN:HBc 111 uw:=ctk (T:=[]) (h:=.s .n (.s .n (.s (.s .n (.s (.lr ⟨[(0,.d l9Q 0),(1,.d l9Q 1),(12,dI 2),(13,dI 3)],[],[l9Q,l9Q,i6],[i6]⟩ [] [] [] 0 (u3Q jX) .n) .n)) .n))) Tryz.func111 rfl zXh trivial λx=>aj
def zvb:Ct TS:=⟨[.d (.st 10) 0,.d (.st 10) 1],[],[.st 10,.st 10],.d .b 2,[],[.b],false,u2Q za6⟩
def zDp:HBc 110 zvb:=ctk (T:=[(111,uw)]) (h:=.n) Tryz.func110 rfl zXi ⟨HN,trivial⟩ λx=>aj
def uK:Ct TS:=⟨[.d wi 0,.d wi 1,.fn 110 [] []],[],[wi,wi],.d .b 2,[],[.b],false,u2Q wz⟩
def KJ:HBc 118 uK:=ctk (T:=[(110,zvb)]) (h:=.s .n (.s .n (.s (.s .n (.s (.lr ⟨[(1,.d wi 0),(2,.fn 110 [] []),(15,.d wi 1),(16,dI 2),(17,dI 3)],[],[wi,wi,i6],[i6]⟩ [] [] [] 0 (u3Q vc) .n) .n)) .n))) Tryz.func118 rfl zXj ⟨zDp,trivial⟩ λx=>aj
def zNd:Ct TS:=⟨[.d (.st 14) 0,.d (.st 14) 1],[],[.st 14,.st 14],.d .b 2,[],[.b],false,u2Q zuk⟩
def zRo:HBc 30 zNd:=ctk (T:=[(112,uF),(113,uG),(114,uH),(116,uI),(117,uJ),(118,uK),(111,uw)]) (h:=.s .n (.s .n (.s .n (.s .n (.s .n (.s .n (.s (.j ⟨[(2,.ptr 1000002 0),(3,.ptr 1000003 0),(7,.fn 107 [] []),(8,.fn 109 [] []),(9,.fn 110 [] []),(10,.d .b 16)],(h120 0 1 2 3 4 5 6 7 8 9 10 11 12 13 14 15),k121,[.b]⟩ false .n) (.s (.j ⟨[(2,.ptr 1000002 0),(3,.ptr 1000003 0),(10,.d .b 0),(11,.d .b 17)],(h120 1 2 3 4 5 6 7 8 9 10 11 12 13 14 15 16),k129,[.b]⟩ false .n) .n)))))))) Tryz.func30 rfl hbv30 ⟨KD,KE,KF,KH,KI,KJ,HN,trivial⟩ λx=>aj
def zaa:Ct TS:=⟨[.d (.st 14) 0],h5,[.st 14],.d .b 1,h5,[.b],false,λx=>jM x⟩
def YU:HBc 6 zaa:=ctk (T:=[(9,zd4),(25,zo0),(26,zsf),(28,zkf),(10,zr7),(30,zNd)]) (h:=.n) Tryz.func6 rfl hbv6 ⟨zox,zym,zu6,zkg,zu3,zRo,trivial⟩ λx=>aj
end Go.Proofs.YtffencjoddkghaaGreatDoor
