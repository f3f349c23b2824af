/- texts that the proof reaches, part 10 -/
import Derived.Test.YtffencjoddkghaaGreatDoorKi
set_option linter.all false
open Bool renaming false->bd,true->bg
open Nat renaming beq->bk
open Option renaming some->bc,none->bh
set_option maxRecDepth 100000
namespace Go.Proofs.YtffencjoddkghaaGreatDoor
open Go Go.RowKit Go.Eng Go.EV Go.EQ
noncomputable abbrev PGq:=Tryz.prog
abbrev i6:TC:=.i .i64
abbrev dI(k:Nat):Tp:=.d i6 k
abbrev mBQ:TC:=.l (.m .s .b)
abbrev mPQ:TC:=.m .s .b
abbrev lsQ:TC:=.l .s
abbrev l0Q:TC:=.l (.st 0)
abbrev l1Q:TC:=.l (.st 1)
abbrev l2Q:TC:=.l (.st 2)
abbrev l3Q:TC:=.l (.st 3)
abbrev l4Q:TC:=.l (.st 4)
abbrev l5Q:TC:=.l (.st 5)
abbrev l7Q:TC:=.l (.st 7)
abbrev l8Q:TC:=.l (.st 8)
abbrev l9Q:TC:=.l (.st 9)
abbrev wj:TC:=.l (.st 10)
abbrev jY:TC:=.l (.st 11)
abbrev zqy:TC:=.l (.st 12)
abbrev zfu:TC:=.l (.st 13)
abbrev gpQ(l:List (Nat×TO)):List (Nat×TO):=(900000000,.rw 1)::(900000001,.rw 2)::(900000002,.rw 3)::(900000003,.rw 4)::l
abbrev pnQ(n:Nat):Nat×Tp:=(n,.ptr (1000000+n) 0)
abbrev p0Q:Nat×Tp:=(0,.ptr 1 0)
def u2Q{α0 α1 β:Type}(f:α0->α1->β)(x:α0×α1):β:=f x.1 x.2
def u3Q{α0 α1 α2 β:Type}(f:α0->α1->α2->β)(x:α0×α1×α2):β:=f x.1 x.2.1 x.2.2
def u4Q{α0 α1 α2 α3 β:Type}(f:α0->α1->α2->α3->β)(x:α0×α1×α2×α3):β:=f x.1 x.2.1 x.2.2.1 x.2.2.2
def u7Q{α0 α1 α2 α3 α4 α5 α6 β:Type}(f:α0->α1->α2->α3->α4->α5->α6->β)(x:α0×α1×α2×α3×α4×α5×α6):β:=f x.1 x.2.1 x.2.2.1 x.2.2.2.1 x.2.2.2.2.1 x.2.2.2.2.2.1 x.2.2.2.2.2.2
def u8Q{α0 α1 α2 α3 α4 α5 α6 α7 β:Type}(f:α0->α1->α2->α3->α4->α5->α6->α7->β)(x:α0×α1×α2×α3×α4×α5×α6×α7):β:=f x.1 x.2.1 x.2.2.1 x.2.2.2.1 x.2.2.2.2.1 x.2.2.2.2.2.1 x.2.2.2.2.2.2.1 x.2.2.2.2.2.2.2
def u9Q{α0 α1 α2 α3 α4 α5 α6 α7 α8 β:Type}(f:α0->α1->α2->α3->α4->α5->α6->α7->α8->β)(x:α0×α1×α2×α3×α4×α5×α6×α7×α8):β:=f x.1 x.2.1 x.2.2.1 x.2.2.2.1 x.2.2.2.2.1 x.2.2.2.2.2.1 x.2.2.2.2.2.2.1 x.2.2.2.2.2.2.2.1 x.2.2.2.2.2.2.2.2
def z1i{α0 α1 α2 α3 α4 α5 α6 α7 α8 α9 α10 α11 β:Type}(f:α0->α1->α2->α3->α4->α5->α6->α7->α8->α9->α10->α11->β)(x:α0×α1×α2×α3×α4×α5×α6×α7×α8×α9×α10×α11):β:=f x.1 x.2.1 x.2.2.1 x.2.2.2.1 x.2.2.2.2.1 x.2.2.2.2.2.1 x.2.2.2.2.2.2.1 x.2.2.2.2.2.2.2.1 x.2.2.2.2.2.2.2.2.1 x.2.2.2.2.2.2.2.2.2.1 x.2.2.2.2.2.2.2.2.2.2.1 x.2.2.2.2.2.2.2.2.2.2.2
def u13Q{α0 α1 α2 α3 α4 α5 α6 α7 α8 α9 α10 α11 α12 β:Type}(f:α0->α1->α2->α3->α4->α5->α6->α7->α8->α9->α10->α11->α12->β)(x:α0×α1×α2×α3×α4×α5×α6×α7×α8×α9×α10×α11×α12):β:=f x.1 x.2.1 x.2.2.1 x.2.2.2.1 x.2.2.2.2.1 x.2.2.2.2.2.1 x.2.2.2.2.2.2.1 x.2.2.2.2.2.2.2.1 x.2.2.2.2.2.2.2.2.1 x.2.2.2.2.2.2.2.2.2.1 x.2.2.2.2.2.2.2.2.2.2.1 x.2.2.2.2.2.2.2.2.2.2.2.1 x.2.2.2.2.2.2.2.2.2.2.2.2
def z1j{α0 α1 α2 α3 α4 α5 α6 α7 α8 α9 α10 α11 α12 α13 β:Type}(f:α0->α1->α2->α3->α4->α5->α6->α7->α8->α9->α10->α11->α12->α13->β)(x:α0×α1×α2×α3×α4×α5×α6×α7×α8×α9×α10×α11×α12×α13):β:=f x.1 x.2.1 x.2.2.1 x.2.2.2.1 x.2.2.2.2.1 x.2.2.2.2.2.1 x.2.2.2.2.2.2.1 x.2.2.2.2.2.2.2.1 x.2.2.2.2.2.2.2.2.1 x.2.2.2.2.2.2.2.2.2.1 x.2.2.2.2.2.2.2.2.2.2.1 x.2.2.2.2.2.2.2.2.2.2.2.1 x.2.2.2.2.2.2.2.2.2.2.2.2.1 x.2.2.2.2.2.2.2.2.2.2.2.2.2
def u17Q{α0 α1 α2 α3 α4 α5 α6 α7 α8 α9 α10 α11 α12 α13 α14 α15 α16 β:Type}(f:α0->α1->α2->α3->α4->α5->α6->α7->α8->α9->α10->α11->α12->α13->α14->α15->α16->β)(x:α0×α1×α2×α3×α4×α5×α6×α7×α8×α9×α10×α11×α12×α13×α14×α15×α16):β:=f x.1 x.2.1 x.2.2.1 x.2.2.2.1 x.2.2.2.2.1 x.2.2.2.2.2.1 x.2.2.2.2.2.2.1 x.2.2.2.2.2.2.2.1 x.2.2.2.2.2.2.2.2.1 x.2.2.2.2.2.2.2.2.2.1 x.2.2.2.2.2.2.2.2.2.2.1 x.2.2.2.2.2.2.2.2.2.2.2.1 x.2.2.2.2.2.2.2.2.2.2.2.2.1 x.2.2.2.2.2.2.2.2.2.2.2.2.2.1 x.2.2.2.2.2.2.2.2.2.2.2.2.2.2.1 x.2.2.2.2.2.2.2.2.2.2.2.2.2.2.2.1 x.2.2.2.2.2.2.2.2.2.2.2.2.2.2.2.2
def u22Q{α0 α1 α2 α3 α4 α5 α6 α7 α8 α9 α10 α11 α12 α13 α14 α15 α16 α17 α18 α19 α20 α21 β:Type}(f:α0->α1->α2->α3->α4->α5->α6->α7->α8->α9->α10->α11->α12->α13->α14->α15->α16->α17->α18->α19->α20->α21->β)(x:α0×α1×α2×α3×α4×α5×α6×α7×α8×α9×α10×α11×α12×α13×α14×α15×α16×α17×α18×α19×α20×α21):β:=f x.1 x.2.1 x.2.2.1 x.2.2.2.1 x.2.2.2.2.1 x.2.2.2.2.2.1 x.2.2.2.2.2.2.1 x.2.2.2.2.2.2.2.1 x.2.2.2.2.2.2.2.2.1 x.2.2.2.2.2.2.2.2.2.1 x.2.2.2.2.2.2.2.2.2.2.1 x.2.2.2.2.2.2.2.2.2.2.2.1 x.2.2.2.2.2.2.2.2.2.2.2.2.1 x.2.2.2.2.2.2.2.2.2.2.2.2.2.1 x.2.2.2.2.2.2.2.2.2.2.2.2.2.2.1 x.2.2.2.2.2.2.2.2.2.2.2.2.2.2.2.1 x.2.2.2.2.2.2.2.2.2.2.2.2.2.2.2.2.1 x.2.2.2.2.2.2.2.2.2.2.2.2.2.2.2.2.2.1 x.2.2.2.2.2.2.2.2.2.2.2.2.2.2.2.2.2.2.1 x.2.2.2.2.2.2.2.2.2.2.2.2.2.2.2.2.2.2.2.1 x.2.2.2.2.2.2.2.2.2.2.2.2.2.2.2.2.2.2.2.2.1 x.2.2.2.2.2.2.2.2.2.2.2.2.2.2.2.2.2.2.2.2.2
def p5Q{α0 α1 α2 α3 α4 β:Type}(x:α0×α1×α2×α3×α4×β):β:=x.2.2.2.2.2
def p6Q{α0 α1 α2 α3 α4 α5 β:Type}(x:α0×α1×α2×α3×α4×α5×β):β:=x.2.2.2.2.2.2
def p7Q{α0 α1 α2 α3 α4 α5 α6 β:Type}(x:α0×α1×α2×α3×α4×α5×α6×β):β:=x.2.2.2.2.2.2.2
def p8Q{α0 α1 α2 α3 α4 α5 α6 α7 β:Type}(x:α0×α1×α2×α3×α4×α5×α6×α7×β):β:=x.2.2.2.2.2.2.2.2
def p9Q{α0 α1 α2 α3 α4 α5 α6 α7 α8 β:Type}(x:α0×α1×α2×α3×α4×α5×α6×α7×α8×β):β:=x.2.2.2.2.2.2.2.2.2
def zmj{α0 α1 α2 α3 α4 α5 α6 α7 α8 α9 β:Type}(x:α0×α1×α2×α3×α4×α5×α6×α7×α8×α9×β):β:=x.2.2.2.2.2.2.2.2.2.2
def zmk{α0 α1 α2 α3 α4 α5 α6 α7 α8 α9 α10 β:Type}(x:α0×α1×α2×α3×α4×α5×α6×α7×α8×α9×α10×β):β:=x.2.2.2.2.2.2.2.2.2.2.2
def zml{α0 α1 α2 α3 α4 α5 α6 α7 α8 α9 α10 α11 β:Type}(x:α0×α1×α2×α3×α4×α5×α6×α7×α8×α9×α10×α11×β):β:=x.2.2.2.2.2.2.2.2.2.2.2.2
def zqz{α0 α1 α2 α3 α4 α5 α6 α7 α8 α9 α10 α11 α12 β:Type}(x:α0×α1×α2×α3×α4×α5×α6×α7×α8×α9×α10×α11×α12×β):β:=x.2.2.2.2.2.2.2.2.2.2.2.2.2
def zq0{α0 α1 α2 α3 α4 α5 α6 α7 α8 α9 α10 α11 α12 α13 β:Type}(x:α0×α1×α2×α3×α4×α5×α6×α7×α8×α9×α10×α11×α12×α13×β):β:=x.2.2.2.2.2.2.2.2.2.2.2.2.2.2
def zvf{α0 α1 α2 α3 α4 α5 α6 α7 α8 α9 α10 α11 α12 α13 α14 β:Type}(x:α0×α1×α2×α3×α4×α5×α6×α7×α8×α9×α10×α11×α12×α13×α14×β):β:=x.2.2.2.2.2.2.2.2.2.2.2.2.2.2.2
def zN2{α0 α1 α2 α3 α4 α5 α6 α7 α8 α9 α10 α11 α12 α13 α14 α15 β:Type}(x:α0×α1×α2×α3×α4×α5×α6×α7×α8×α9×α10×α11×α12×α13×α14×α15×β):β:=x.2.2.2.2.2.2.2.2.2.2.2.2.2.2.2.2
def zN3{α0 α1 α2 α3 α4 α5 α6 α7 α8 α9 α10 α11 α12 α13 α14 α15 α16 β:Type}(x:α0×α1×α2×α3×α4×α5×α6×α7×α8×α9×α10×α11×α12×α13×α14×α15×α16×β):β:=x.2.2.2.2.2.2.2.2.2.2.2.2.2.2.2.2.2
def zVf{α0 α1 α2 α3 α4 α5 α6 α7 α8 α9 α10 α11 α12 α13 α14 α15 α16 α17 β:Type}(x:α0×α1×α2×α3×α4×α5×α6×α7×α8×α9×α10×α11×α12×α13×α14×α15×α16×α17×β):β:=x.2.2.2.2.2.2.2.2.2.2.2.2.2.2.2.2.2.2
def zVg{α0 α1 α2 α3 α4 α5 α6 α7 α8 α9 α10 α11 α12 α13 α14 α15 α16 α17 α18 β:Type}(x:α0×α1×α2×α3×α4×α5×α6×α7×α8×α9×α10×α11×α12×α13×α14×α15×α16×α17×α18×β):β:=x.2.2.2.2.2.2.2.2.2.2.2.2.2.2.2.2.2.2.2
def z1k{α0 α1 α2 α3 α4 α5 α6 α7 α8 α9 α10 α11 α12 α13 α14 α15 α16 α17 α18 α19 β:Type}(x:α0×α1×α2×α3×α4×α5×α6×α7×α8×α9×α10×α11×α12×α13×α14×α15×α16×α17×α18×α19×β):β:=x.2.2.2.2.2.2.2.2.2.2.2.2.2.2.2.2.2.2.2.2
def p21Q{α0 α1 α2 α3 α4 α5 α6 α7 α8 α9 α10 α11 α12 α13 α14 α15 α16 α17 α18 α19 α20 β:Type}(x:α0×α1×α2×α3×α4×α5×α6×α7×α8×α9×α10×α11×α12×α13×α14×α15×α16×α17×α18×α19×α20×β):β:=x.2.2.2.2.2.2.2.2.2.2.2.2.2.2.2.2.2.2.2.2.2
def p22Q{α0 α1 α2 α3 α4 α5 α6 α7 α8 α9 α10 α11 α12 α13 α14 α15 α16 α17 α18 α19 α20 α21 β:Type}(x:α0×α1×α2×α3×α4×α5×α6×α7×α8×α9×α10×α11×α12×α13×α14×α15×α16×α17×α18×α19×α20×α21×β):β:=x.2.2.2.2.2.2.2.2.2.2.2.2.2.2.2.2.2.2.2.2.2.2
def p23Q{α0 α1 α2 α3 α4 α5 α6 α7 α8 α9 α10 α11 α12 α13 α14 α15 α16 α17 α18 α19 α20 α21 α22 β:Type}(x:α0×α1×α2×α3×α4×α5×α6×α7×α8×α9×α10×α11×α12×α13×α14×α15×α16×α17×α18×α19×α20×α21×α22×β):β:=x.2.2.2.2.2.2.2.2.2.2.2.2.2.2.2.2.2.2.2.2.2.2.2
def p24Q{α0 α1 α2 α3 α4 α5 α6 α7 α8 α9 α10 α11 α12 α13 α14 α15 α16 α17 α18 α19 α20 α21 α22 α23 β:Type}(x:α0×α1×α2×α3×α4×α5×α6×α7×α8×α9×α10×α11×α12×α13×α14×α15×α16×α17×α18×α19×α20×α21×α22×α23×β):β:=x.2.2.2.2.2.2.2.2.2.2.2.2.2.2.2.2.2.2.2.2.2.2.2.2
def p25Q{α0 α1 α2 α3 α4 α5 α6 α7 α8 α9 α10 α11 α12 α13 α14 α15 α16 α17 α18 α19 α20 α21 α22 α23 α24 β:Type}(x:α0×α1×α2×α3×α4×α5×α6×α7×α8×α9×α10×α11×α12×α13×α14×α15×α16×α17×α18×α19×α20×α21×α22×α23×α24×β):β:=x.2.2.2.2.2.2.2.2.2.2.2.2.2.2.2.2.2.2.2.2.2.2.2.2.2
def p26Q{α0 α1 α2 α3 α4 α5 α6 α7 α8 α9 α10 α11 α12 α13 α14 α15 α16 α17 α18 α19 α20 α21 α22 α23 α24 α25 β:Type}(x:α0×α1×α2×α3×α4×α5×α6×α7×α8×α9×α10×α11×α12×α13×α14×α15×α16×α17×α18×α19×α20×α21×α22×α23×α24×α25×β):β:=x.2.2.2.2.2.2.2.2.2.2.2.2.2.2.2.2.2.2.2.2.2.2.2.2.2.2
def p27Q{α0 α1 α2 α3 α4 α5 α6 α7 α8 α9 α10 α11 α12 α13 α14 α15 α16 α17 α18 α19 α20 α21 α22 α23 α24 α25 α26 β:Type}(x:α0×α1×α2×α3×α4×α5×α6×α7×α8×α9×α10×α11×α12×α13×α14×α15×α16×α17×α18×α19×α20×α21×α22×α23×α24×α25×α26×β):β:=x.2.2.2.2.2.2.2.2.2.2.2.2.2.2.2.2.2.2.2.2.2.2.2.2.2.2.2
def p28Q{α0 α1 α2 α3 α4 α5 α6 α7 α8 α9 α10 α11 α12 α13 α14 α15 α16 α17 α18 α19 α20 α21 α22 α23 α24 α25 α26 α27 β:Type}(x:α0×α1×α2×α3×α4×α5×α6×α7×α8×α9×α10×α11×α12×α13×α14×α15×α16×α17×α18×α19×α20×α21×α22×α23×α24×α25×α26×α27×β):β:=x.2.2.2.2.2.2.2.2.2.2.2.2.2.2.2.2.2.2.2.2.2.2.2.2.2.2.2.2
variable[QZ]
def kmp{a b:Prop}(h:a=b)(x:a):b:=h▸x
def zKe{n:Int}(h0:0<=n)(h1:n<256):(((UInt8.ofNat (Int.toNat n)).toNat:Nat):Int)=n:=by
 rw[UInt8.toNat_ofNat'];omega
def zXj{T:Nat}(hT:zAb T)(s:ak)(n:Int)(r:ak)(h:zvc s n=bc r):FnA PGq 168 [.ptr 1 0 0,.int .u8 n] [(1,sb T s)] .nili [(1,sb T r)]:=by
 obtain⟨_,h1,h2⟩:=bind_some h;obtain⟨g1,g2,g3⟩:=xv h1;cases h2;have:=zJv hT 1 s (UInt8.ofNat (Int.toNat n)) g3;rw[zKe g1 g2]at this;exact this
def k1:List TC:=[i6,i6,i6,i6]
def k2:List TC:=[i6,i6,i6]
def k3:List TC:=[i6,.s,i6,i6]
def k4:List TC:=[l1Q,l3Q,l5Q,l7Q,l8Q,wj,l9Q,i6]
def h5:List (Nat×TO):=[(900000000,.rw 1),(900000001,.rw 2),(900000002,.rw 3),(900000003,.rw 4)]
def h6(v0 v1 v2 v3 v4:Nat):List (Nat×TO):=[(900000000,.rw 1),(900000001,.rw 2),(900000002,.rw 3),(900000003,.rw 4),(v0,.box 51 [dI v1,.d .s v2,dI v3,dI v4])]
def k7:List TC:=[jY,i6,i6]
def h8(v0:Nat):List (Nat×TO):=[(1,.box 67 [.d jY 0,dI v0])]
def k9:List TC:=[jY,i6,i6,i6]
def h10(v0:Nat):List (Nat×TO):=[(1,.box 67 [.d jY 0,dI v0]),(900000000,.rw 1),(900000001,.rw 2),(900000002,.rw 3),(900000003,.rw 4)]
def h11(v0 v1 v2 v3 v4 v5 v6:Nat):List (Nat×TO):=[(1,.box 67 [.d jY 0,dI v0]),(900000000,.rw 1),(900000001,.rw 2),(900000002,.rw 3),(900000003,.rw 4),(v1,.box 37 [dI v2,dI v3,.d .s v4,.d .s v5,.d l0Q v6])]
abbrev zKf:List (Nat×TO):=(h11 5 1000004 2 2 3 3 4)
def k12:List TC:=[i6,i6,i6,i6,.s,.s,l0Q]
def k13:List TC:=[i6,i6,i6,.s,.s,l0Q]
def k14:List TC:=[jY,i6,i6,.s,l0Q]
def h15:List (Nat×TO):=[(1,.box 67 [.d jY 0,dI 5]),(900000000,.rw 1),(900000001,.rw 2),(900000002,.rw 3),(900000003,.rw 4),(1000004,.box 37 [dI 2,dI 2,.d .s 3,.d .s 3,.d l0Q 4]),(1000005,.box 37 [dI 7,dI 8,.d .s 9,.d .s 10,.d l0Q 11])]
def h16(v0 v1 v2 v3 v4 v5 v6 v7 v8 v9 v10:Nat):List (Nat×TO):=[(1,.box 67 [.d jY 0,dI 1]),(900000000,.rw 1),(900000001,.rw 2),(900000002,.rw 3),(900000003,.rw 4),(1000004,.box 37 [dI v0,dI v0,.d .s v1,.d .s v1,.d l0Q v2]),(1000005,.box 37 [dI v3,dI v4,.d .s v5,.d .s v6,.d l0Q v7]),(1000007,.box 184 [.d .s v8,dI v9,dI v10])]
def k17:List TC:=[jY,i6,i6,i6,zqy,i6,i6,.s,l0Q,i6,i6,.s,.s,l0Q]
def k18:List TC:=[jY,i6,i6,i6,zqy,i6,i6,i6,.s,l0Q,i6,i6,.s,.s,l0Q]
def k19:List TC:=[jY,i6,i6,i6,.s,l0Q,i6,i6,.s,.s,l0Q,.s,i6,i6]
def h20(v0 v1 v2 v3 v4 v5:Nat):List (Nat×TO):=[(1,.box 67 [.d jY 0,dI v0]),(2,.box 78 [.ptr 1 0]),(3,.box 37 [dI v1,dI v2,.d .s v3,.d .s v4,.d l0Q v5])]
abbrev zKg:List (Nat×TO):=((h20 1 2 3 4 5 6)++h5)
def k21:List TC:=[jY,i6,i6,i6,.s,.s,l0Q]
def k22:List TC:=[i6,i6,i6,i6,i6,.s,.s,l0Q]
def h23(v0 v1 v2 v3 v4 v5:Nat):List (Nat×TO):=[(900000000,.rw 1),(900000001,.rw 2),(900000002,.rw 3),(900000003,.rw 4),(v0,.box 37 [dI v1,dI v2,.d .s v3,.d .s v4,.d l0Q v5])]
def h24(v0 v1 v2 v3 v4 v5:Nat):List (Nat×TO):=[(900000000,.rw 1),(900000001,.rw 2),(900000002,.rw 3),(900000003,.rw 4),(1000002,.box 37 [dI v0,dI v1,.d .s v2,.d .s v3,.d l0Q v4]),(1000005,.box 37 [dI v0,dI 7,.d .s 8,.d .s v5,.d l0Q v4])]
def h25(v0 v1 v2 v3 v4 v5:Nat):List (Nat×TO):=[(v0,.box 37 [dI v1,dI v2,.d .s v3,.d .s v4,.d l0Q v5])]
def h26(v0 v1:Nat):List (Nat×TO):=[(1,.gn v0 .s v1),(900000000,.rw 1),(900000001,.rw 2),(900000002,.rw 3),(900000003,.rw 4)]
def h27:List (Nat×TO):=[(1,.gn 0 .s 7),(900000000,.rw 1),(900000001,.rw 2),(900000002,.rw 3),(900000003,.rw 4),(1000004,.box 37 [dI 1,dI 2,.d .s 3,.d .s 4,.d l0Q 5]),(1000090,.row 9 .s 6 bd)]
def h28:List (Nat×TO):=[(1,.gn 0 .s 0),(900000000,.rw 1),(900000001,.rw 2),(900000002,.rw 3),(900000003,.rw 4),(1000004,.box 37 [dI 3,dI 4,.d .s 5,.d .s 6,.d l0Q 7])]
def h29(v0 v1 v2 v3 v4 v5 v6 v7 v8 v9 v10 v11 v12 v13 v14 v15:Nat):List (Nat×TO):=[(1,.box 71 [.d jY 0,dI v0,.row 6 2,.row 3 3,.row 3 4,.row 20 5,.row 4 6,.row 6 7,.nrow 3 8,dI v1,.om 9,.om 10,.om 11,.om 12,.om 13,.om 14,.d .b v2]),(2,.row 57 (.st 1) v3 bd),(3,.row 87 (.st 3) v4 bd),(4,.row 64 (.st 5) v5 bd),(5,.row 94 (.st 7) v6 bd),(6,.row 96 (.st 8) v7 bd),(7,.row 100 (.st 10) v8 bd),(8,.row 98 (.st 9) v9 bd),(9,.gn 7 mBQ v10),(10,.gn 7 mBQ v11),(11,.gn 7 mBQ v12),(12,.gn 7 mBQ v13),(13,.gn 7 mBQ v14),(14,.gn 7 mBQ v15)]
abbrev zXk:List (Nat×TO):=((h29 19 1 2 3 4 5 6 7 8 9 10 11 12 13 14 15)++h5++(h25 1000004 16 16 17 17 18))
abbrev zKh:List (Nat×TO):=(h29 15 1 2 3 4 5 6 7 8 16 9 10 11 12 13 14)
abbrev zVh:List (Nat×TO):=(h29 18 9 16 2 3 4 5 6 7 8 10 11 12 13 14 15)
abbrev zVi:List (Nat×TO):=(h29 19 9 16 2 3 4 5 6 7 8 10 11 12 13 14 15)
abbrev z1l:List (Nat×TO):=((h29 20 1 2 3 4 5 6 7 8 9 10 11 12 13 14 15)++h5++(h25 1000004 17 17 18 18 19))
abbrev zN4:List (Nat×TO):=(h29 16 1 2 3 4 5 6 7 8 9 10 11 12 13 14 15)
abbrev zmm:List (Nat×TO):=(h29 1 2 3 4 5 6 7 8 9 10 11 12 13 14 15 16)
abbrev vt:List (Nat×TO):=(h29 1 9 16 2 3 4 5 6 7 8 10 11 12 13 14 15)
def k30:List TC:=[jY,i6,l1Q,l3Q,l5Q,l7Q,l8Q,wj,l9Q,i6,mBQ,mBQ,mBQ,mBQ,mBQ,mBQ,.b]
def h31(v0 v1 v2 v3 v4:Nat):List (Nat×TO):=[(v0,.box 51 [dI v1,.d .s v2,dI v3,dI v4])]
def k32:List TC:=[jY,i6,l1Q,l3Q,l5Q,l7Q,l8Q,wj,l9Q,i6,mBQ,mBQ,mBQ,mBQ,mBQ,mBQ,.b,.b,i6]
def k33:List TC:=[jY,i6,l1Q,l3Q,l5Q,l7Q,l8Q,wj,l9Q,i6,mBQ,mBQ,mBQ,mBQ,mBQ,mBQ,.b,i6,i6]
def k34:List TC:=[.s,i6,mBQ]
def h35(v0 v1 v2 v3 v4 v5 v6 v7 v8 v9 v10:Nat):List (Nat×TO):=[(1,.box 71 [.d jY 0,dI v0,.row 6 2,.row 3 3,.row 3 4,.row 20 5,.row 4 6,.row 6 7,.nrow 3 8,dI v1,.om v2,.om 10,.om 11,.om 12,.om 13,.om 14,.d .b v3]),(2,.row 57 (.st 1) v4 bd),(3,.row 87 (.st 3) v5 bd),(4,.row 64 (.st 5) v6 bd),(5,.row 94 (.st 7) v7 bd),(6,.row 96 (.st 8) v8 bd),(7,.row 100 (.st 10) v9 bd),(8,.row 98 (.st 9) v10 bd),(9,.rw 0),(10,.gn 7 mBQ 11),(11,.gn 7 mBQ 12),(12,.gn 7 mBQ 13),(13,.gn 7 mBQ 14),(14,.gn 7 mBQ 15)]
def h36(v0 v1:Nat):List (Nat×TO):=[(v0,.gn 7 mBQ v1)]
def k37:List TC:=[jY,i6,i6,.b,l1Q,l3Q,l5Q,l7Q,l8Q,wj,l9Q,mBQ,mBQ,mBQ,mBQ,mBQ,i6]
def k38:List TC:=[jY,i6,l1Q,l3Q,l5Q,l7Q,l8Q,wj,l9Q,i6,mBQ,mBQ,mBQ,mBQ,mBQ,mBQ,.b,.s]
def k39:List TC:=[jY,i6,i6,.b,l1Q,l3Q,l5Q,l7Q,l8Q,wj,l9Q,mBQ,mBQ,mBQ,mBQ,mBQ,mBQ,i6]
def k40:List TC:=[jY,i6,l1Q,l3Q,l5Q,l7Q,l8Q,wj,l9Q,i6,mBQ,mBQ,mBQ,mBQ,mBQ,mBQ,.b,i6]
def k41:List TC:=[jY,i6,.b,l1Q,l3Q,l5Q,l7Q,l8Q,wj,l9Q,mBQ,mBQ,mBQ,mBQ,mBQ,mBQ,i6,i6,.s,l0Q]
def k42:List TC:=[jY,i6,.b,l1Q,l3Q,l5Q,l7Q,l8Q,wj,l9Q,mBQ,mBQ,mBQ,mBQ,mBQ,mBQ,i6,.s,l0Q]
def h43(v0 v1 v2 v3 v4 v5 v6 v7 v8 v9 v10 v11:Nat):List (Nat×TO):=[(v0,.box 37 [dI v1,dI v2,.d .s v3,.d .s v4,.d l0Q v5]),(v6,.box 37 [dI v7,dI v8,.d .s v9,.d .s v10,.d l0Q v11])]
abbrev zXl:List (Nat×TO):=((h29 20 1 2 3 4 5 6 7 8 9 10 11 12 13 14 15)++h5++(h43 1000004 17 17 18 18 19 1000005 22 23 24 25 26))
def h44(v0 v1 v2 v3 v4 v5 v6 v7 v8 v9 v10:Nat):List (Nat×TO):=[(1000004,.box 37 [dI v0,dI v0,.d .s v1,.d .s v1,.d l0Q v2]),(1000005,.box 37 [dI v3,dI v4,.d .s v5,.d .s v6,.d l0Q v7]),(1000007,.box 184 [.d .s v8,dI v9,dI v10])]
def k45:List TC:=[jY,i6,i6,.b,l1Q,l3Q,l5Q,l7Q,l8Q,wj,l9Q,mBQ,mBQ,mBQ,mBQ,mBQ,mBQ,i6,i6,zqy,i6,i6,.s,l0Q,i6,i6,.s,.s,l0Q]
def k46:List TC:=[jY,i6,i6,.b,l1Q,l3Q,l5Q,l7Q,l8Q,wj,l9Q,mBQ,mBQ,mBQ,mBQ,mBQ,mBQ,i6,i6,zqy,i6,i6,i6,.s,l0Q,i6,i6,.s,.s,l0Q]
def k47:List TC:=[jY,i6,i6,.b,l1Q,l3Q,l5Q,l7Q,l8Q,wj,l9Q,mBQ,mBQ,mBQ,mBQ,mBQ,mBQ,i6,i6,.s,l0Q,i6,i6,.s,.s,l0Q,.s,i6,i6]
def h48(v0 v1 v2 v3 v4 v5 v6 v7 v8 v9 v10 v11 v12 v13 v14 v15:Nat):List (Nat×TO):=[(1,.box 71 [.d jY 0,dI v0,.row 6 2,.row 3 3,.row 3 4,.row 20 5,.row 4 6,.row 6 7,.nrow 3 8,dI v1,.om 9,.om v2,.om 11,.om 12,.om 13,.om 14,.d .b v3]),(2,.row 57 (.st 1) v4 bd),(3,.row 87 (.st 3) v5 bd),(4,.row 64 (.st 5) v6 bd),(5,.row 94 (.st 7) v7 bd),(6,.row 96 (.st 8) v8 bd),(7,.row 100 (.st 10) v9 bd),(8,.row 98 (.st 9) v10 bd),(9,.gn 7 mBQ v11),(10,.rw 0),(11,.gn 7 mBQ v12),(12,.gn 7 mBQ v13),(13,.gn 7 mBQ v14),(14,.gn 7 mBQ v15)]
abbrev zXm:List (Nat×TO):=((h48 1 2 7000001 3 4 5 6 7 8 9 10 11 12 13 14 15)++h5++(h36 7000001 17))
abbrev zKi:List (Nat×TO):=(h48 18 1 103000500 2 3 4 5 6 7 8 9 10 11 12 13 14)
def h49(v0 v1:Nat):List (Nat×TO):=[(1,.box 71 [.d jY 0,dI v0,.row 6 2,.row 3 3,.row 3 4,.row 20 5,.row 4 6,.row 6 7,.nrow 3 8,dI 9,.om 9,.om 10,.om 11,.om 12,.om 13,.om 14,.d .b 16]),(2,.row 57 (.st 1) 2 bd),(3,.row 87 (.st 3) 3 bd),(4,.row 64 (.st 5) 4 bd),(5,.row 94 (.st 7) 5 bd),(6,.row 96 (.st 8) 6 bd),(7,.row 100 (.st 10) 7 bd),(8,.row 98 (.st 9) 8 bd),(9,.gn 7 mBQ 10),(10,.gn 7 mBQ 11),(11,.gn 7 mBQ 12),(12,.gn 7 mBQ 13),(13,.gn 7 mBQ 14),(14,.gn 7 mBQ 15),(15,.map .s .b v1)]
def k50:List TC:=[jY,i6,l1Q,l3Q,l5Q,l7Q,l8Q,wj,l9Q,i6,mBQ,mBQ,mBQ,mBQ,mBQ,mBQ,.b,.m .s .b]
def h51:List (Nat×TO):=[(103000500,.gn 7 mBQ 15),(1000002,.box 87 [.d .s 16,.row 2 1001000002001,dI 17]),(1000007,.map .s .b 19),(1001000002001,.row 119 (.st 2) 20 bd)]
def k52:List TC:=[jY,i6,.b,l1Q,l3Q,l5Q,l7Q,l8Q,wj,l9Q,mBQ,mBQ,mBQ,mBQ,mBQ,mBQ,.s,i6]
def h53:List (Nat×TO):=[(103000500,.gn 7 mBQ 15),(1000002,.box 87 [.d .s 16,.row 2 1001000002001,dI 17]),(1001000002001,.row 119 (.st 2) 19 bd)]
def h54(v0 v1 v2 v3 v4 v5 v6 v7 v8 v9 v10 v11 v12:Nat):List (Nat×TO):=[(1,.box 71 [.d jY 0,dI v0,.row 6 2,.row 3 3,.row 3 4,.row 20 5,.row 4 6,.row 6 7,.nrow 3 8,dI v1,.om 9,.om 10,.om v2,.om 12,.om 13,.om 14,.d .b v3]),(2,.row 57 (.st 1) v4 bd),(3,.row 87 (.st 3) v5 bd),(4,.row 64 (.st 5) v6 bd),(5,.row 94 (.st 7) v7 bd),(6,.row 96 (.st 8) v8 bd),(7,.row 100 (.st 10) v9 bd),(8,.row 98 (.st 9) v10 bd),(9,.gn 7 mBQ v11),(10,.gn 7 mBQ v12),(11,.rw 0),(12,.gn 7 mBQ 13),(13,.gn 7 mBQ 14),(14,.gn 7 mBQ 15)]
abbrev zXn:List (Nat×TO):=((h54 1 2 7000001 3 4 5 6 7 8 9 10 11 12)++h5++(h36 7000001 17))
def k55:List TC:=[jY,i6,.b,l1Q,l3Q,l5Q,l7Q,l8Q,wj,l9Q,mBQ,mBQ,mBQ,mBQ,mBQ,mBQ]
def h56(v0 v1 v2 v3 v4 v5 v6 v7 v8 v9 v10 v11 v12 v13 v14 v15:Nat):List (Nat×TO):=[(1,.box 71 [.d jY 0,dI v0,.row 6 2,.row 3 3,.row 3 4,.row 20 5,.row 4 6,.row 6 7,.nrow 3 8,dI v1,.om 9,.om 10,.om 11,.om v2,.om 13,.om 14,.d .b v3]),(2,.row 57 (.st 1) v4 bd),(3,.row 87 (.st 3) v5 bd),(4,.row 64 (.st 5) v6 bd),(5,.row 94 (.st 7) v7 bd),(6,.row 96 (.st 8) v8 bd),(7,.row 100 (.st 10) v9 bd),(8,.row 98 (.st 9) v10 bd),(9,.gn 7 mBQ v11),(10,.gn 7 mBQ v12),(11,.gn 7 mBQ v13),(12,.rw 0),(13,.gn 7 mBQ v14),(14,.gn 7 mBQ v15)]
abbrev zXo:List (Nat×TO):=((h56 1 2 7000001 3 4 5 6 7 8 9 10 11 12 13 14 15)++h5++(h36 7000001 17))
abbrev zKj:List (Nat×TO):=(h56 22 1 103000400 2 3 4 5 6 7 8 9 10 11 12 13 14)
abbrev z1m:List (Nat×TO):=(h56 23 1 103000400 2 3 4 5 6 7 8 9 10 11 12 13 14)
def h57(v0 v1:Nat):List (Nat×TO):=[(v0,.row 9 .s v1 bd)]
def k58:List TC:=[jY,i6,i6,.b,l1Q,l3Q,l5Q,l7Q,l8Q,wj,l9Q,mBQ,mBQ,mBQ,mBQ,mBQ,mBQ,i6,i6]
def h59(v0 v1 v2 v3 v4 v5 v6 v7 v8 v9 v10 v11 v12 v13 v14 v15 v16 v17 v18:Nat):List (Nat×TO):=[(103000400,.gn 7 mBQ 15),(1000002,.box 94 [.d .s 16,.d lsQ v0,.d lsQ v1,dI v2,dI v3,dI v4,.d .b v5,dI v6,dI v7,dI v8,.d .s v9,.d .s v10,.d l0Q v11,dI v12,dI v13,dI v14,dI v15,dI v16,dI v17,dI v18])]
abbrev zXp:List (Nat×TO):=((h56 24 1 103000400 2 3 4 5 6 7 8 9 10 11 12 13 14)++h5++(h59 17 18 19 25 20 21 20 20 20 22 22 23 20 20 20 20 20 20 20))
abbrev zXq:List (Nat×TO):=((h56 25 1 103000400 2 3 4 5 6 7 8 9 10 11 12 13 14)++h5++(h59 17 18 19 20 26 21 22 22 22 23 23 24 22 22 22 22 22 22 22))
def k60:List TC:=[jY,i6,.b,l1Q,l3Q,l5Q,l7Q,l8Q,wj,l9Q,mBQ,mBQ,mBQ,mBQ,mBQ,mBQ,.s,lsQ,i6,.b,.s,l0Q]
def k61:List TC:=[jY,i6,.b,l1Q,l3Q,l5Q,l7Q,l8Q,wj,l9Q,mBQ,mBQ,mBQ,mBQ,mBQ,mBQ,.s,lsQ,lsQ,i6,.b,.s,l0Q]
def k62:List TC:=[jY,i6,.b,l1Q,l3Q,l5Q,l7Q,l8Q,wj,l9Q,mBQ,mBQ,mBQ,mBQ,mBQ,mBQ,.s,lsQ,lsQ,i6,i6,.b,.s,l0Q]
def k63:List TC:=[jY,i6,.b,l1Q,l3Q,l5Q,l7Q,l8Q,wj,l9Q,mBQ,mBQ,mBQ,mBQ,mBQ,mBQ,.s,lsQ,lsQ,i6,i6,.b,i6,.s,l0Q]
def k64:List TC:=[jY,i6,.b,l1Q,l3Q,l5Q,l7Q,l8Q,wj,l9Q,mBQ,mBQ,mBQ,mBQ,mBQ,mBQ,.s,lsQ,lsQ,i6,i6,i6,.b]
def k65:List TC:=[i6,i6,i6,i6,.s,.s,l0Q,i6,i6,i6,i6,i6,i6,i6]
def h66(v0 v1 v2 v3 v4 v5 v6 v7 v8 v9 v10 v11 v12 v13 v14:Nat):List (Nat×TO):=[(1,.box 71 [.d jY 0,dI v0,.row 6 2,.row 3 3,.row 3 4,.row 20 5,.row 4 6,.row 6 7,.nrow 3 8,dI v1,.om 9,.om 10,.om 11,.om 12,.om v2,.om 14,.d .b v3]),(2,.row 57 (.st 1) v4 bd),(3,.row 87 (.st 3) v5 bd),(4,.row 64 (.st 5) v6 bd),(5,.row 94 (.st 7) v7 bd),(6,.row 96 (.st 8) v8 bd),(7,.row 100 (.st 10) v9 bd),(8,.row 98 (.st 9) v10 bd),(9,.gn 7 mBQ v11),(10,.gn 7 mBQ v12),(11,.gn 7 mBQ v13),(12,.gn 7 mBQ v14),(13,.rw 0),(14,.gn 7 mBQ 15)]
abbrev zXr:List (Nat×TO):=((h66 1 2 7000001 3 4 5 6 7 8 9 10 11 12 13 14)++h5++(h36 7000001 17))
def h67(v0 v1 v2 v3 v4 v5 v6 v7 v8 v9 v10 v11 v12 v13 v14 v15:Nat):List (Nat×TO):=[(1,.box 71 [.d jY 0,dI v0,.row 6 2,.row 3 3,.row 3 4,.row 20 5,.row 4 6,.row 6 7,.nrow 3 8,dI v1,.om 9,.om 10,.om 11,.om 12,.om 13,.om v2,.d .b v3]),(2,.row 57 (.st 1) v4 bd),(3,.row 87 (.st 3) v5 bd),(4,.row 64 (.st 5) v6 bd),(5,.row 94 (.st 7) v7 bd),(6,.row 96 (.st 8) v8 bd),(7,.row 100 (.st 10) v9 bd),(8,.row 98 (.st 9) v10 bd),(9,.gn 7 mBQ v11),(10,.gn 7 mBQ v12),(11,.gn 7 mBQ v13),(12,.gn 7 mBQ v14),(13,.gn 7 mBQ v15),(14,.rw 0)]
abbrev zXs:List (Nat×TO):=((h67 1 2 7000001 3 4 5 6 7 8 9 10 11 12 13 14 15)++h5++(h36 7000001 17))
def h68:List (Nat×TO):=[(103000400,.gn 7 mBQ 15),(1000002,.box 100 [.d .s 16,dI 17,dI 18,dI 19,dI 20,.row 3 1001000002005]),(1001000002005,.row 98 (.st 9) 22 bd)]
abbrev z1n:List (Nat×TO):=((h67 21 1 103000400 2 3 4 5 6 7 8 9 10 11 12 13 14)++h5++h68)
def k69:List TC:=[jY,i6,.b,l1Q,l3Q,l5Q,l7Q,l8Q,wj,l9Q,mBQ,mBQ,mBQ,mBQ,mBQ,mBQ,.s,i6,i6,i6,i6]
def k70:List TC:=[jY,i6,.b,l1Q,l3Q,l5Q,l7Q,l8Q,wj,mBQ,mBQ,mBQ,mBQ,mBQ,mBQ]
def k71:List TC:=[jY,i6,i6,.b,l1Q,l3Q,l5Q,l7Q,l8Q,wj,l9Q,mBQ,mBQ,mBQ,mBQ,mBQ,mBQ]
def h72(v0 v1 v2 v3 v4 v5 v6 v7 v8 v9 v10 v11 v12 v13 v14 v15:Nat):List (Nat×TO):=[(1,.box 71 [.d jY 0,dI v0,.row 6 2,.row 3 3,.row 3 4,.row 20 5,.row 4 6,.row 6 7,.nrow 3 8,dI v1,.om v2,.om v3,.om v4,.om v5,.om v6,.om v7,.d .b v8]),(2,.row 57 (.st 1) v9 bd),(3,.row 87 (.st 3) v10 bd),(4,.row 64 (.st 5) v11 bd),(5,.row 94 (.st 7) v12 bd),(6,.row 96 (.st 8) v13 bd),(7,.row 100 (.st 10) v14 bd),(8,.row 98 (.st 9) v15 bd),(9,.rw 0),(10,.rw 0),(11,.rw 0),(12,.rw 0),(13,.rw 0),(14,.rw 0)]
def h73(v0 v1 v2 v3 v4 v5 v6 v7 v8 v9 v10 v11:Nat):List (Nat×TO):=[(v0,.gn 7 mBQ v1),(v2,.gn 7 mBQ v3),(v4,.gn 7 mBQ v5),(v6,.gn 7 mBQ v7),(v8,.gn 7 mBQ v9),(v10,.gn 7 mBQ v11)]
abbrev z1o:List (Nat×TO):=((h72 1 2 7000001 7000002 7000003 7000004 7000005 7000006 3 4 5 6 7 8 9 10)++h5++(h73 7000001 11 7000002 12 7000003 13 7000004 14 7000005 15 7000006 16))
def k74:List TC:=[i6,i6,.b,l1Q,l3Q,l5Q,l7Q,l8Q,wj,l9Q,mBQ,mBQ,mBQ,mBQ,mBQ,mBQ]
def h75(v0 v1 v2 v3 v4 v5 v6 v7 v8 v9 v10 v11 v12 v13 v14:Nat):List (Nat×TO):=[(900000000,.rw 1),(900000001,.rw 2),(900000002,.rw 3),(900000003,.rw 4),(v0,.box 31 [.row 6 v1,.row 3 v2,.row 3 v3,.row 20 v4,.row 4 v5,.row 6 v6,.d l9Q v7,dI v8]),(v1,.row 57 (.st 1) v9 bd),(v2,.row 87 (.st 3) v10 bd),(v3,.row 64 (.st 5) v11 bd),(v4,.row 94 (.st 7) v12 bd),(v5,.row 96 (.st 8) v13 bd),(v6,.row 100 (.st 10) v14 bd)]
def k76:List TC:=[i6,i6,l9Q,i6,l1Q,l3Q,l5Q,l7Q,l8Q,wj]
def h77(v0:Nat):List (Nat×TO):=[(900000000,.rw 1),(900000001,.rw 2),(900000002,.rw 3),(900000003,.rw 4),(7000001,.row 9 .s v0 bd)]
def h78(v0 v1 v2 v3 v4 v5 v6 v7 v8 v9 v10 v11 v12 v13 v14 v15 v16 v17 v18 v19 v20 v21 v22 v23 v24 v25 v26 v27 v28 v29 v30 v31 v32 v33 v34 v35 v36 v37 v38 v39:Nat):List (Nat×TO):=[(1000002,.box 94 [.d .s v0,.d lsQ v1,.d lsQ v2,dI v3,dI v4,dI v5,.d .b v6,dI v7,dI v8,dI v9,.d .s v10,.d .s v11,.d l0Q v12,dI v13,dI v14,dI v15,dI v16,dI v17,dI v18,dI v19]),(1000003,.box 94 [.d .s v20,.d lsQ v21,.d lsQ v22,dI v23,dI v24,dI v25,.d .b v26,dI v27,dI v28,dI v29,.d .s v30,.d .s v31,.d l0Q v32,dI v33,dI v34,dI v35,dI v36,dI v37,dI v38,dI v39])]
abbrev zXt:List (Nat×TO):=(h78 0 1 2 3 4 5 6 7 8 9 10 11 12 13 14 15 16 17 18 19 20 21 22 23 24 25 26 27 28 29 30 31 32 33 34 35 36 37 38 39)
def k79:List TC:=[.s,lsQ,lsQ,i6,i6,i6,.b,i6,i6,i6,.s,.s,l0Q,i6,i6,i6,i6,i6,i6,i6,.s,lsQ,lsQ,i6,i6,i6,.b,i6,i6,i6,.s,.s,l0Q,i6,i6,i6,i6,i6,i6,i6]
def k80:List TC:=[.s,lsQ,lsQ,i6,i6,i6,.b,i6,i6,i6,.s,.s,l0Q,i6,i6,i6,i6,i6,i6,i6]
def h81(v0 v1 v2 v3 v4 v5 v6 v7 v8:Nat):List (Nat×TO):=[(900000000,.rw 1),(900000001,.rw 2),(900000002,.rw 3),(900000003,.rw 4),(v0,.box 31 [.d l1Q v1,.d l3Q v2,.d l5Q v3,.d l7Q v4,.d l8Q v5,.d wj v6,.d l9Q v7,dI v8])]
def k82:List TC:=[l1Q,i6,l3Q,l5Q,l7Q,l8Q,wj,l9Q,i6]
def k83:List TC:=[l3Q,i6,l1Q,l5Q,l7Q,l8Q,wj,l9Q,i6]
def k84:List TC:=[l5Q,i6,l1Q,l3Q,l7Q,l8Q,wj,l9Q,i6]
def k85:List TC:=[l7Q,i6,l1Q,l3Q,l5Q,l8Q,wj,l9Q,i6]
def k86:List TC:=[l8Q,i6,l1Q,l3Q,l5Q,l7Q,wj,l9Q,i6]
def k87:List TC:=[wj,i6,l1Q,l3Q,l5Q,l7Q,l8Q,l9Q,i6]
def h88(v0 v1 v2 v3 v4 v5 v6 v7:Nat):List (Nat×TO):=[(900000000,.rw 1),(900000001,.rw 2),(900000002,.rw 3),(900000003,.rw 4),(1000001,.box 31 [.d l1Q v0,.d l3Q v1,.d l5Q v2,.d l7Q v3,.d l8Q v4,.d wj 0,.d l9Q v5,dI v6]),(1000170,.row 98 (.st 9) v7 bd)]
def k89:List TC:=[l9Q,i6,l1Q,l3Q,l5Q,l7Q,l8Q,wj,i6]
def h90(v0 v1 v2 v3 v4 v5 v6 v7 v8 v9 v10 v11 v12 v13 v14 v15 v16 v17 v18 v19 v20 v21:Nat):List (Nat×TO):=[(1,.gn 1 .s v0),(900000000,.rw 1),(900000001,.rw 2),(900000002,.rw 3),(900000003,.rw 4),(1000003,.box 94 [.d .s v1,.d lsQ v2,.d lsQ v3,dI v4,dI v5,dI v6,.d .b v7,dI v8,dI v9,dI v10,.d .s v11,.d .s v12,.d l0Q v13,dI v14,dI v15,dI v16,dI v17,dI v18,dI v19,dI v20]),(1000022,.row 58 lsQ v21 bd)]
def h91(v0 v1 v2 v3 v4 v5 v6 v7 v8 v9 v10 v11 v12 v13 v14 v15 v16 v17 v18 v19 v20:Nat):List (Nat×TO):=[(1,.gn 1 .s v0),(900000000,.rw 1),(900000001,.rw 2),(900000002,.rw 3),(900000003,.rw 4),(1000003,.box 94 [.d .s v1,.d lsQ v2,.d lsQ v3,dI v4,dI v5,dI v6,.d .b v7,dI v8,dI v9,dI v10,.d .s v11,.d .s v12,.d l0Q v13,dI v14,dI v15,dI v16,dI v17,dI v18,dI v19,dI v20])]
def h92(v0 v1 v2 v3 v4 v5 v6 v7 v8 v9 v10 v11 v12 v13 v14 v15 v16 v17 v18 v19 v20 v21:Nat):List (Nat×TO):=[(1,.gn 1 .s v0),(900000000,.rw 1),(900000001,.rw 2),(900000002,.rw 3),(900000003,.rw 4),(1000003,.box 94 [.d .s v1,.d lsQ v2,.d lsQ v3,dI v4,dI v5,dI v6,.d .b v7,dI v8,dI v9,dI v10,.d .s v11,.d .s v12,.d l0Q v13,dI v14,dI v15,dI v16,dI v17,dI v18,dI v19,dI v20]),(1000050,.row 3 i6 v21 bd)]
def h93(v0 v1 v2 v3 v4 v5 v6 v7 v8 v9 v10 v11 v12 v13 v14 v15 v16 v17 v18 v19 v20 v21:Nat):List (Nat×TO):=[(1,.gn 1 .s v0),(900000000,.rw 1),(900000001,.rw 2),(900000002,.rw 3),(900000003,.rw 4),(1000003,.box 94 [.d .s v1,.d lsQ v2,.d lsQ v3,dI v4,dI v5,dI v6,.d .b v7,dI v8,dI v9,dI v10,.d .s v11,.d .s v12,.d l0Q v13,dI v14,dI v15,dI v16,dI v17,dI v18,dI v19,dI v20]),(103008000,.row 9 .s v21 bd)]
def h94(v0 v1 v2 v3 v4 v5 v6 v7 v8:Nat):List (Nat×TO):=[(900000000,.rw 1),(900000001,.rw 2),(900000002,.rw 3),(900000003,.rw 4),(1000001,.box 31 [.d l1Q v0,.d l3Q v1,.d l5Q v2,.d l7Q v3,.d l8Q v4,.d wj v5,.d l9Q v6,dI v7]),(1000028,.gn 1 .s v8)]
def h95(v0:Nat):List (Nat×TO):=[(900000000,.rw 1),(900000001,.rw 2),(900000002,.rw 3),(900000003,.rw 4),(1000001,.box 31 [.d l1Q 5,.d l3Q 0,.d l5Q 6,.d l7Q 7,.d l8Q 8,.d wj 9,.d l9Q 10,dI 11]),(1000028,.gn 1 .s v0),(1000008,.box 87 [.d .s 12,.d l2Q 3,dI 13])]
def k96:List TC:=[.b,l9Q,i6,l1Q,l3Q,l5Q,l7Q,l8Q,wj]
def zXu:List TC:=[i6,l1Q,l3Q,l5Q,l7Q,l8Q,wj,l9Q,i6]
def h120(v0 v1 v2 v3 v4 v5 v6 v7 v8 v9 v10 v11 v12 v13 v14 v15:Nat):List (Nat×TO):=[(1000002,.box 31 [.d l1Q v0,.d l3Q v1,.d l5Q v2,.d l7Q v3,.d l8Q v4,.d wj v5,.d l9Q v6,dI v7]),(1000003,.box 31 [.d l1Q v8,.d l3Q v9,.d l5Q v10,.d l7Q v11,.d l8Q v12,.d wj v13,.d l9Q v14,dI v15])]
def k121:List TC:=[l1Q,l3Q,l5Q,l7Q,l8Q,wj,l9Q,i6,l1Q,l3Q,l5Q,l7Q,l8Q,wj,l9Q,i6]
def h123(v0 v1 v2 v3 v4 v5 v6 v7:Nat):List (Nat×TO):=[(1000001,.box 31 [.d l1Q v0,.d l3Q v1,.d l5Q v2,.d l7Q v3,.d l8Q v4,.d wj v5,.d l9Q v6,dI v7])]
abbrev zyr:List (Nat×TO):=(h123 1 2 3 4 5 6 7 8)
abbrev zz5:List (Nat×TO):=(h123 0 1 2 3 4 5 6 7)
def h124(v0:Nat):List (Nat×TO):=[(1000001,.box 31 [.d l1Q 1,.d l3Q 2,.d l5Q 3,.d l7Q 4,.d l8Q 5,.d wj 6,.d l9Q 7,dI 8]),(v0,.box 87 [.d .s 9,.d l2Q 10,dI 11])]
def k125:List TC:=[i6,l1Q,l3Q,l5Q,l7Q,l8Q,wj,l9Q,i6,.s,l2Q,i6]
def k129:List TC:=[.b,l1Q,l3Q,l5Q,l7Q,l8Q,wj,l9Q,i6,l1Q,l3Q,l5Q,l7Q,l8Q,wj,l9Q,i6]
def zNx:Nat->Type
 |0=>Expr
 |1=>Def
 |2=>aw
 |3=>au
 |4=>zV
 |5=>yt
 |6=>zy
 |7=>zO
 |8=>Cap
 |9=>zg
 |10=>av
 |11=>ar
 |12=>zd
 |13=>zI
 |14=>yZ
 |_=>Unit
def TS0:Tab where
 T:=zNx
 dflt:=λn=>match n with
  |0=>(default:Expr)
  |1=>(default:Def)
  |2=>(default:aw)
  |3=>(default:au)
  |4=>(default:zV)
  |5=>(default:yt)
  |6=>(default:zy)
  |7=>(default:zO)
  |8=>(default:Cap)
  |9=>(default:zg)
  |10=>(default:av)
  |11=>(default:ar)
  |12=>(default:zd)
  |13=>(default:zI)
  |14=>(default:yZ)
  |_+15=>()
 fl:=λn=>match n with
  |0=>[i6,i6,.s,.s,l0Q]
  |1=>[.s,.st 0]
  |2=>[.s,i6]
  |3=>[.s,l2Q,i6]
  |4=>[i6,i6]
  |5=>[.s,.b,l4Q]
  |6=>k1
  |7=>[.s,lsQ,lsQ,i6,i6,i6,.b,i6,.st 0,.st 6,i6,i6,i6]
  |8=>[.s,i6,i6,l4Q]
  |9=>k2
  |10=>[.s,.st 9,i6,l9Q]
  |11=>k3
  |12=>[.s,i6,i6]
  |13=>[.st 4,.st 4]
  |14=>k4
  |_+15=>[]
 cn:=λn=>match n with
  |0=>5
  |1=>6
  |2=>2
  |3=>3
  |4=>2
  |5=>3
  |6=>4
  |7=>20
  |8=>4
  |9=>3
  |10=>6
  |11=>4
  |12=>3
  |13=>4
  |14=>8
  |_+15=>0
 out:=λn=>match n with
  |0=>λx=>((x:Expr).Op,(x:Expr).N,(x:Expr).S,(x:Expr).Key,(x:Expr).Args)
  |1=>λx=>((x:Def).aL,(x:Def).Body)
  |2=>λx=>((x:aw).aL,(x:aw).N)
  |3=>λx=>((x:au).aL,(x:au).Rows,(x:au).Else)
  |4=>λx=>((x:zV).X,(x:zV).Y)
  |5=>λx=>((x:yt).aL,(x:yt).Overlay,(x:yt).aA)
  |6=>λx=>((x:zy).Side,(x:zy).Base,(x:zy).Num,(x:zy).Den)
  |7=>λx=>((x:zO).aL,(x:zO).aB,(x:zO).Except,(x:zO).From,(x:zO).Until,(x:zO).Grace,(x:zO).Vary,(x:zO).aM,(x:zO).Test,(x:zO).zy,(x:zO).Uses,(x:zO).Other,(x:zO).N)
  |8=>λx=>((x:Cap).aL,(x:Cap).Load,(x:Cap).Limit,(x:Cap).aA)
  |9=>λx=>((x:zg).X,(x:zg).Y,(x:zg).Z_)
  |10=>λx=>((x:av).aL,(x:av).Eye,(x:av).Least,(x:av).Targets)
  |11=>λx=>((x:ar).aM,(x:ar).Text,(x:ar).N,(x:ar).Pos)
  |12=>λx=>((x:zd).text,(x:zd).op,(x:zd).form)
  |13=>λx=>((x:zI).a,(x:zI).b)
  |14=>λx=>((x:yZ).aF,(x:yZ).Tables,(x:yZ).aB,(x:yZ).aE,(x:yZ).aJ,(x:yZ).aG,(x:yZ).aK,(x:yZ).aI)
  |_+15=>λ_=>()
 inj:=λn=>match n with
  |0=>λx=>(⟨x.1,x.2.1,x.2.2.1,x.2.2.2.1,x.2.2.2.2⟩:Expr)
  |1=>λx=>(⟨x.1,x.2⟩:Def)
  |2=>λx=>(⟨x.1,x.2⟩:aw)
  |3=>λx=>(⟨x.1,x.2.1,x.2.2⟩:au)
  |4=>λx=>(⟨x.1,x.2⟩:zV)
  |5=>λx=>(⟨x.1,x.2.1,x.2.2⟩:yt)
  |6=>λx=>(⟨x.1,x.2.1,x.2.2.1,x.2.2.2⟩:zy)
  |7=>λx=>(⟨x.1,x.2.1,x.2.2.1,x.2.2.2.1,x.2.2.2.2.1,(p5Q x).1,(p6Q x).1,(p7Q x).1,(p8Q x).1,(p9Q x).1,(zmj x).1,(zmk x).1,(zml x)⟩:zO)
  |8=>λx=>(⟨x.1,x.2.1,x.2.2.1,x.2.2.2⟩:Cap)
  |9=>λx=>(⟨x.1,x.2.1,x.2.2⟩:zg)
  |10=>λx=>(⟨x.1,x.2.1,x.2.2.1,x.2.2.2⟩:av)
  |11=>λx=>(⟨x.1,x.2.1,x.2.2.1,x.2.2.2⟩:ar)
  |12=>λx=>(⟨x.1,x.2.1,x.2.2⟩:zd)
  |13=>λx=>(⟨x.1,x.2⟩:zI)
  |14=>λx=>(⟨x.1,x.2.1,x.2.2.1,x.2.2.2.1,x.2.2.2.2.1,(p5Q x).1,(p6Q x).1,(p7Q x)⟩:yZ)
  |_+15=>λ_=>()
 enc:=λn=>match n with
  |0=>vD
  |1=>Vl
  |2=>uk
  |3=>Ac
  |4=>jM
  |5=>Jq
  |6=>KC
  |7=>Jr
  |8=>Vm
  |9=>je
  |10=>Js
  |11=>WI
  |12=>Ad
  |13=>Kb
  |14=>Qq
  |_+15=>λ_=>[]
 ro:=λn=>match n with
  |1=>gl0 QZ.ob0
  |2=>gl1 QZ.ob1
  |3=>gl2 QZ.ob2 QZ.m2
  |4=>gl3 QZ.ob3
  |_=>.gen gone
def goT(i:Nat):(c:TC)->c.ty zNx->EV.Obj
 |.s,x=>sb (bif bk i 0 then 108 else 123) x
 |.l (.m kc ec),x=>.gen (AO (List.map (zfs (vM TS0 kc) (vM TS0 ec)) x))
 |_,_=>.gen gone
def glT:Nat->Option (Nat×Nat×List ak)
 |1=>bc (0,200,zhd)
 |_=>bh
def gaT:Nat->Option (Nat×Dy zNx×List V)
 |108=>bc (0,⟨.s,([]:ak)⟩,[.nilp,.nils])
 |123=>bc (1,⟨.s,([]:ak)⟩,[.nilp,.nils])
 |_=>bh
def zXv(t i:Nat)(d:Dy zNx)(cs:List V)(h:gaT t=bc (i,d,cs))(m:M)(Z:ZM)(w:World)(k:Nat)(hh:EV.Holds m Z w k (.box t cs)):EV.Holds m Z w k (goT i d.1 d.2)/\∀b,blk m (k,goT i d.1 d.2) b->blk m (k,.box t cs) b:=by
 unfold gaT at h;split at h
 ·cases h;exact zC6 hh
 ·cases h;exact zC6 hh
 ·cases h
def TS:Tab where
 T:=zNx
 dflt:=λn=>match n with
  |0=>(default:Expr)
  |1=>(default:Def)
  |2=>(default:aw)
  |3=>(default:au)
  |4=>(default:zV)
  |5=>(default:yt)
  |6=>(default:zy)
  |7=>(default:zO)
  |8=>(default:Cap)
  |9=>(default:zg)
  |10=>(default:av)
  |11=>(default:ar)
  |12=>(default:zd)
  |13=>(default:zI)
  |14=>(default:yZ)
  |_+15=>()
 fl:=λn=>match n with
  |0=>[i6,i6,.s,.s,l0Q]
  |1=>[.s,.st 0]
  |2=>[.s,i6]
  |3=>[.s,l2Q,i6]
  |4=>[i6,i6]
  |5=>[.s,.b,l4Q]
  |6=>k1
  |7=>[.s,lsQ,lsQ,i6,i6,i6,.b,i6,.st 0,.st 6,i6,i6,i6]
  |8=>[.s,i6,i6,l4Q]
  |9=>k2
  |10=>[.s,.st 9,i6,l9Q]
  |11=>k3
  |12=>[.s,i6,i6]
  |13=>[.st 4,.st 4]
  |14=>k4
  |_+15=>[]
 cn:=λn=>match n with
  |0=>5
  |1=>6
  |2=>2
  |3=>3
  |4=>2
  |5=>3
  |6=>4
  |7=>20
  |8=>4
  |9=>3
  |10=>6
  |11=>4
  |12=>3
  |13=>4
  |14=>8
  |_+15=>0
 out:=λn=>match n with
  |0=>λx=>((x:Expr).Op,(x:Expr).N,(x:Expr).S,(x:Expr).Key,(x:Expr).Args)
  |1=>λx=>((x:Def).aL,(x:Def).Body)
  |2=>λx=>((x:aw).aL,(x:aw).N)
  |3=>λx=>((x:au).aL,(x:au).Rows,(x:au).Else)
  |4=>λx=>((x:zV).X,(x:zV).Y)
  |5=>λx=>((x:yt).aL,(x:yt).Overlay,(x:yt).aA)
  |6=>λx=>((x:zy).Side,(x:zy).Base,(x:zy).Num,(x:zy).Den)
  |7=>λx=>((x:zO).aL,(x:zO).aB,(x:zO).Except,(x:zO).From,(x:zO).Until,(x:zO).Grace,(x:zO).Vary,(x:zO).aM,(x:zO).Test,(x:zO).zy,(x:zO).Uses,(x:zO).Other,(x:zO).N)
  |8=>λx=>((x:Cap).aL,(x:Cap).Load,(x:Cap).Limit,(x:Cap).aA)
  |9=>λx=>((x:zg).X,(x:zg).Y,(x:zg).Z_)
  |10=>λx=>((x:av).aL,(x:av).Eye,(x:av).Least,(x:av).Targets)
  |11=>λx=>((x:ar).aM,(x:ar).Text,(x:ar).N,(x:ar).Pos)
  |12=>λx=>((x:zd).text,(x:zd).op,(x:zd).form)
  |13=>λx=>((x:zI).a,(x:zI).b)
  |14=>λx=>((x:yZ).aF,(x:yZ).Tables,(x:yZ).aB,(x:yZ).aE,(x:yZ).aJ,(x:yZ).aG,(x:yZ).aK,(x:yZ).aI)
  |_+15=>λ_=>()
 inj:=λn=>match n with
  |0=>λx=>(⟨x.1,x.2.1,x.2.2.1,x.2.2.2.1,x.2.2.2.2⟩:Expr)
  |1=>λx=>(⟨x.1,x.2⟩:Def)
  |2=>λx=>(⟨x.1,x.2⟩:aw)
  |3=>λx=>(⟨x.1,x.2.1,x.2.2⟩:au)
  |4=>λx=>(⟨x.1,x.2⟩:zV)
  |5=>λx=>(⟨x.1,x.2.1,x.2.2⟩:yt)
  |6=>λx=>(⟨x.1,x.2.1,x.2.2.1,x.2.2.2⟩:zy)
  |7=>λx=>(⟨x.1,x.2.1,x.2.2.1,x.2.2.2.1,x.2.2.2.2.1,(p5Q x).1,(p6Q x).1,(p7Q x).1,(p8Q x).1,(p9Q x).1,(zmj x).1,(zmk x).1,(zml x)⟩:zO)
  |8=>λx=>(⟨x.1,x.2.1,x.2.2.1,x.2.2.2⟩:Cap)
  |9=>λx=>(⟨x.1,x.2.1,x.2.2⟩:zg)
  |10=>λx=>(⟨x.1,x.2.1,x.2.2.1,x.2.2.2⟩:av)
  |11=>λx=>(⟨x.1,x.2.1,x.2.2.1,x.2.2.2⟩:ar)
  |12=>λx=>(⟨x.1,x.2.1,x.2.2⟩:zd)
  |13=>λx=>(⟨x.1,x.2⟩:zI)
  |14=>λx=>(⟨x.1,x.2.1,x.2.2.1,x.2.2.2.1,x.2.2.2.2.1,(p5Q x).1,(p6Q x).1,(p7Q x)⟩:yZ)
  |_+15=>λ_=>()
 enc:=λn=>match n with
  |0=>vD
  |1=>Vl
  |2=>uk
  |3=>Ac
  |4=>jM
  |5=>Jq
  |6=>KC
  |7=>Jr
  |8=>Vm
  |9=>je
  |10=>Js
  |11=>WI
  |12=>Ad
  |13=>Kb
  |14=>Qq
  |_+15=>λ_=>[]
 ro:=λn=>match n with
  |1=>gl0 QZ.ob0
  |2=>gl1 QZ.ob1
  |3=>gl2 QZ.ob2 QZ.m2
  |4=>gl3 QZ.ob3
  |_=>.gen gone
 go:=goT
 gl:=glT
 ga:=gaT
 om:=bg
def zSa:TS.OK where
 enc_out:=λn x=>match n with
  |0=>by
   show vD x=_
   unfold vD;simp only[kp];rfl
  |1=>rfl
  |2=>rfl
  |3=>rfl
  |4=>rfl
  |5=>rfl
  |6=>rfl
  |7=>rfl
  |8=>rfl
  |9=>rfl
  |10=>rfl
  |11=>rfl
  |12=>rfl
  |13=>rfl
  |14=>rfl
  |_+15=>rfl
 out_mk:=λn h=>match n with
  |0=>rfl
  |1=>rfl
  |2=>rfl
  |3=>rfl
  |4=>rfl
  |5=>rfl
  |6=>rfl
  |7=>rfl
  |8=>rfl
  |9=>rfl
  |10=>rfl
  |11=>rfl
  |12=>rfl
  |13=>rfl
  |14=>rfl
  |_+15=>rfl
 ro0:=rfl
 rren:=λi σ=>match i with|0=>rfl|1=>rfl|2=>rfl|3=>rfl|4=>rfl|_+5=>rfl
 rref:=λi=>match i with|0=>rfl|1=>rfl|2=>rfl|3=>rfl|4=>rfl|_+5=>rfl
 rfrz:=λi k=>match i with|0=>rfl|1=>rfl|2=>rfl|3=>rfl|4=>rfl|_+5=>rfl
 len:=λn x=>match n with
  |0=>rfl
  |1=>rfl
  |2=>rfl
  |3=>rfl
  |4=>rfl
  |5=>rfl
  |6=>rfl
  |7=>rfl
  |8=>rfl
  |9=>rfl
  |10=>rfl
  |11=>rfl
  |12=>rfl
  |13=>rfl
  |14=>rfl
  |_+15=>rfl
 one:=λn x=>match n with
  |0=>rfl
  |1=>rfl
  |2=>rfl
  |3=>rfl
  |4=>rfl
  |5=>rfl
  |6=>rfl
  |7=>rfl
  |8=>rfl
  |9=>rfl
  |10=>rfl
  |11=>rfl
  |12=>rfl
  |13=>rfl
  |14=>rfl
  |_+15=>rfl
 refs:=λn x=>match n with
  |0=>rfl
  |1=>rfl
  |2=>rfl
  |3=>rfl
  |4=>rfl
  |5=>rfl
  |6=>rfl
  |7=>rfl
  |8=>rfl
  |9=>rfl
  |10=>rfl
  |11=>rfl
  |12=>rfl
  |13=>rfl
  |14=>rfl
  |_+15=>rfl
 gren:=λi c x σ=>by cases c with
  |l t=>cases t<;>rfl
  |_=>rfl
 gref:=λi c x=>by cases c with
  |l t=>cases t<;>rfl
  |_=>rfl
 gfrz:=λi c x k=>by cases c with
  |l t=>cases t<;>rfl
  |_=>rfl
 gom:=λ_ kc ec x=>aj
 ggl:=λi c x k=>by cases c with
  |l t=>cases t<;>rfl
  |_=>rfl
 gbox:=λt i d cs h m Z w k hh=>zXv t i d cs h m Z w k hh
 glob:=λi g t l h=>by
  change glT i=bc (g,t,l)at h;unfold glT at h;split at h
  ·cases h;exact⟨_,rfl⟩
  ·cases h
def cdT(t:Nat):Option TC:=bif bk t 3 then bc i6 else bif bk t 4 then bc .b else bif bk t 5 then bc (.i .u8)else bif bk t 9 then bc .s else bif bk t 20 then bc (.a 3 9)else bif bk t 37 then bc (.st 0)else bif bk t 51 then bc (.st 11)else bif bk t 57 then bc (.st 1)else bif bk t 58 then bc lsQ else bif bk t 64 then bc (.st 5)else bif bk t 87 then bc (.st 3)else bif bk t 94 then bc (.st 7)else bif bk t 96 then bc (.st 8)else bif bk t 98 then bc (.st 9)else bif bk t 100 then bc (.st 10)else bif bk t 119 then bc (.st 2)else bif bk t 156 then bc (.st 4)else bif bk t 184 then bc (.st 12)else bif bk t 229 then bc (.st 13)else bh
def cdL(t:Nat):Option TC:=cdT (bif Nat.ble 1000000 t then Nat.sub t 1000000 else t)
def cdO(t:Nat):Option TC:=bif bk t 3000068 then bc .b else  cdT t
def nbT:NB:=λt=>bif bk t 31 then[(0,bg,57,.st 1),(1,bg,87,.st 3),(2,bg,64,.st 5),(3,bg,94,.st 7),(4,bg,96,.st 8),(5,bg,100,.st 10),(6,bg,98,.st 9)]else bif bk t 37 then[(4,bd,37,.st 0)]else bif bk t 57 then[(5,bd,37,.st 0)]else bif bk t 64 then[(2,bd,156,.st 4)]else bif bk t 67 then[(0,bd,51,.st 11)]else bif bk t 71 then[(0,bd,51,.st 11),(2,bg,57,.st 1),(3,bg,87,.st 3),(4,bg,64,.st 5),(5,bg,94,.st 7),(6,bg,96,.st 8),(7,bg,100,.st 10),(8,bg,8000098,.st 9),(10,bg,7000000,mBQ),(11,bg,7000000,mBQ),(12,bg,7000000,mBQ),(13,bg,7000000,mBQ),(14,bg,7000000,mBQ),(15,bg,7000000,mBQ)]else bif bk t 76 then[(0,bd,51,.st 11)]else bif bk t 87 then[(1,bg,119,.st 2)]else bif bk t 94 then[(1,bd,9,.s),(2,bd,9,.s),(12,bd,37,.st 0)]else bif bk t 96 then[(3,bd,156,.st 4)]else bif bk t 100 then[(5,bg,98,.st 9)]else[]
def zav:NB:=λt=>bif bk t 31 then[(0,bg,57,.st 1),(1,bg,87,.st 3),(2,bg,64,.st 5),(3,bg,94,.st 7),(4,bg,96,.st 8),(5,bg,100,.st 10),(6,bd,98,.st 9)]else  nbT t
def PC:List TC:=[i6,i6]
def PT:Tp:=.ifc 168 (.ag [dI 0,dI 1])
def dW:zJ3 TS:=λc _ s=>match c,s with
 |.s,s=>zz4 s
 |_,_=>bh
def dW_ok(ct:TC)(i:Nat)(s s':ct.ty TS.T)(h:dW ct i s=bc s')(k:Nat):FnD PGq 162 [.ptr k 0 0,.str [32,41]] [(k,TS.go i ct s)] (.tup [.int .i64 2,.nili]) [(k,TS.go i ct s')]:=by
 cases ct<;>first|(cases h;done)|skip
 obtain⟨_,h1,h2⟩:=bind_some (show zz4 s=bc s' from h);cases h2
 have hT:zAb (bif bk i 0 then 108 else 123):=by
  cases bk i 0
  ·exact zq1
  ·exact zi4
 exact zR9 hT k s [32,41] (xv h1)
def zSb:PGq.follows .mixedOrders=bg:=aj
variable[Fuel]
def hbv63:ze PGq 63:=zi aj
def zKk:ze PGq 62:=zi aj
def zXw:ze PGq 155:=zi aj
def zXx:ze PGq 157:=zi aj
def zXy:ze PGq 164:=zi aj
def zXz:ze PGq 156:=zi aj
def hbv51:ze PGq 51:=zi aj
def zX0:ze PGq 165:=zi aj
def zX1:ze PGq 166:=zi aj
def hbv64:ze PGq 64:=zi aj
def hbv21:ze PGq 21:=zi aj
def zX2:ze PGq 42:=zi aj
def zN5:ze PGq 124:=zi aj
def zN6:ze PGq 194:=zi aj
def zN7:ze PGq 193:=zi aj
def zKl:ze PGq 41:=zi aj
def zvg:ze PGq 130:=zi aj
def hbv52:ze PGq 52:=zi aj
def hbv16:ze PGq 16:=zi aj
def zN8:ze PGq 190:=zi aj
def zvh:ze PGq 207:=zi aj
def zX3:ze PGq 151:=zi aj
def zvi:ze PGq 133:=zi aj
def QP:ze PGq 40:=zi aj
def Q2:ze PGq 150:=zi aj
def zSy:ze PGq 43:=zi aj
def zX4:ze PGq 39:=zi aj
def zN9:ze PGq 134:=zi aj
def zKm:ze PGq 35:=zi aj
def hbv12:ze PGq 12:=zi aj
def zSz:ze PGq 61:=zi aj
def hbv20:ze PGq 20:=zi aj
def zX5:ze PGq 161:=zi aj
def zva:ze PGq 162:=zi aj
def zOa:ze PGq 163:=zi aj
def zX6:ze PGq 58:=zi aj
def zX7:ze PGq 59:=zi aj
def zyq:ze PGq 60:=zi aj
def hbv19:ze PGq 19:=zi aj
def zOb:ze PGq 121:=zi aj
def A5:ze PGq 191:=zi aj
def Ke:ze PGq 125:=zi aj
def zOc:ze PGq 127:=zi aj
def zOd:ze PGq 122:=zi aj
def zOe:ze PGq 192:=zi aj
def zOf:ze PGq 123:=zi aj
def zOg:ze PGq 126:=zi aj
def zX8:ze PGq 214:=zi aj
def zX9:ze PGq 215:=zi aj
def zYa:ze PGq 216:=zi aj
def zYb:ze PGq 238:=zi aj
def zYc:ze PGq 231:=zi aj
def zYd:ze PGq 230:=zi aj
def zYe:ze PGq 217:=zi aj
def zYf:ze PGq 218:=zi aj
def zYg:ze PGq 180:=zi aj
def hbv94:ze PGq 94:=zi aj
def zOh:ze PGq 195:=zi aj
def zYh:ze PGq 219:=zi aj
def zS0:ze PGq 72:=zi aj
def zYi:ze PGq 197:=zi aj
def zOi:ze PGq 129:=zi aj
def zOj:ze PGq 196:=zi aj
def zOk:ze PGq 128:=zi aj
def zOl:ze PGq 198:=zi aj
def zOm:ze PGq 131:=zi aj
def zOn:ze PGq 132:=zi aj
def zYj:ze PGq 36:=zi aj
def hbv10:ze PGq 10:=zi aj
def hbv80:ze PGq 80:=zi aj
def zYk:ze PGq 179:=zi aj
def hbv79:ze PGq 79:=zi aj
def hbv82:ze PGq 82:=zi aj
def hbv81:ze PGq 81:=zi aj
def hbv84:ze PGq 84:=zi aj
def hbv83:ze PGq 83:=zi aj
def hbv86:ze PGq 86:=zi aj
def hbv85:ze PGq 85:=zi aj
def hbv88:ze PGq 88:=zi aj
def hbv87:ze PGq 87:=zi aj
def hbv90:ze PGq 90:=zi aj
def hbv89:ze PGq 89:=zi aj
def hbv92:ze PGq 92:=zi aj
def hbv91:ze PGq 91:=zi aj
def hbv93:ze PGq 93:=zi aj
def zYl:ze PGq 188:=zi aj
def zDv:ze PGq 104:=zi aj
def zOo:ze PGq 187:=zi aj
def zYm:ze PGq 115:=zi aj
def hbv95:ze PGq 95:=zi aj
def hbv28:ze PGq 28:=zi aj
def zOp:ze PGq 168:=zi aj
def hbv67:ze PGq 67:=zi aj
def hbv69:ze PGq 69:=zi aj
def hbv68:ze PGq 68:=zi aj
def hbv70:ze PGq 70:=zi aj
def zSc:ze PGq 65:=zi aj
def hbv71:ze PGq 71:=zi aj
def hbv26:ze PGq 26:=zi aj
def hbv9:ze PGq 9:=zi aj
def zS1:ze PGq 56:=zi aj
def zS2:ze PGq 57:=zi aj
def hbv18:ze PGq 18:=zi aj
def hbv66:ze PGq 66:=zi aj
def hbv25:ze PGq 25:=zi aj
def zYn:ze PGq 103:=zi aj
def zYo:ze PGq 112:=zi aj
def zYp:ze PGq 106:=zi aj
def zYq:ze PGq 105:=zi aj
def zYr:ze PGq 113:=zi aj
def zYs:ze PGq 114:=zi aj
def zYt:ze PGq 108:=zi aj
def zYu:ze PGq 107:=zi aj
def zYv:ze PGq 116:=zi aj
def zYw:ze PGq 109:=zi aj
def zYx:ze PGq 117:=zi aj
def zYy:ze PGq 111:=zi aj
def zYz:ze PGq 110:=zi aj
def zY0:ze PGq 118:=zi aj
def hbv30:ze PGq 30:=zi aj
def hbv33:ze PGq 33:=zi aj
def hbv34:ze PGq 34:=zi aj
def hbv7:ze PGq 7:=zi aj
def ctg{f:Nat}{fn:Func}{code:Code}{T:CtT TS}{cd:Nat->Option TC}{nb:NB}{rc:List (Nat×Nat×Nat)}{c:Ct TS}{h:HT TS c.co}(hf:PGq.funcs[f]?=bc fn)(hb:fn.body=bc code)(hB:ze PGq f)(hT:CtT.OK PGq T)(hr:∀x,((evF PGq fn code T cd KK nb c rc h x).run,(evF PGq fn code T cd KK nb c rc h x).tr bg)=(c.fn x,(evF PGq fn code T cd KK nb c rc h x).tr bd)):ze PGq f/\c.OK PGq f :=
 ⟨hB,zR4 (T:=T) (cd:=cd) (kk:=KK) (nb:=nb) (rc:=rc) (h:=h) zSa hf hb zSb hT (λx=>aQ Prod.fst (hr x)) (λx=>aQ Prod.snd (hr x))⟩
def ctk{f:Nat}{fn:Func}{code:Code}{T:CtT TS}{c:Ct TS}{h:HT TS c.co}(hf:PGq.funcs[f]?=bc fn)(hb:fn.body=bc code)(hB:ze PGq f)(hT:CtT.OK PGq T)(hr:∀x,((evF PGq fn code T cdT KK nbT c [] h x).run,(evF PGq fn code T cdT KK nbT c [] h x).tr bg)=(c.fn x,(evF PGq fn code T cdT KK nbT c [] h x).tr bd)):ze PGq f/\c.OK PGq f :=
 ⟨hB,zR4 (T:=T) (cd:=cdT) (kk:=KK) (nb:=nbT) (rc:=[]) (h:=h) zSa hf hb zSb hT (λx=>aQ Prod.fst (hr x)) (λx=>aQ Prod.snd (hr x))⟩
def zVj{f:Nat}{fn:Func}{code:Code}{T:CtT TS}{TP:zg8 TS PC}{cd:Nat->Option TC}{nb:NB}{c:CtP TS PC}{h:HT TS PC}(hf:PGq.funcs[f]?=bc fn)(hb:fn.body=bc code)(hB:ze PGq f)(hT:CtT.OK PGq T)(hTP:zg8.OK PGq (pvT PT PC) TP)(hr:∀x,((evP PGq fn code T cd KK nb PT TP c h x).run,(evP PGq fn code T cd KK nb PT TP c h x).tr bg)=(c.fn x,(evP PGq fn code T cd KK nb PT TP c h x).tr bd)):ze PGq f/\c.OK PGq (pvT PT PC) f :=
 ⟨hB,zNv (T:=T) (TP:=TP) (pt:=PT) (cd:=cd) (kk:=KK) (nb:=nb) (h:=h) zSa hf hb zSb hT hTP (λx=>aQ Prod.fst (hr x)) (λx=>aQ Prod.snd (hr x))⟩
def ctp{f:Nat}{fn:Func}{code:Code}{T:CtT TS}{TP:zg8 TS PC}{c:CtP TS PC}{h:HT TS PC}(hf:PGq.funcs[f]?=bc fn)(hb:fn.body=bc code)(hB:ze PGq f)(hT:CtT.OK PGq T)(hTP:zg8.OK PGq (pvT PT PC) TP)(hr:∀x,((evP PGq fn code T cdT KK nbT PT TP c h x).run,(evP PGq fn code T cdT KK nbT PT TP c h x).tr bg)=(c.fn x,(evP PGq fn code T cdT KK nbT PT TP c h x).tr bd)):ze PGq f/\c.OK PGq (pvT PT PC) f :=
 ⟨hB,zNv (T:=T) (TP:=TP) (pt:=PT) (cd:=cdT) (kk:=KK) (nb:=nbT) (h:=h) zSa hf hb zSb hT hTP (λx=>aQ Prod.fst (hr x)) (λx=>aQ Prod.snd (hr x))⟩
def zor:Ct TS:=⟨[.d (.i .u8) 0],[],[.i .u8],.d .b 1,[],[.b],bd,λx=>KE x⟩
abbrev HBc(n:Nat)(c:Ct TS):Prop:=ze PGq n/\c.OK PGq n
abbrev HBp(n:Nat)(c:CtP TS PC):Prop:=ze PGq n/\c.OK PGq (pvT PT PC) n
def zys:HBc 63 zor:=ctk (T:=[]) (h:=.n) Tryz.func63 rfl hbv63 trivial λx=>aj
def zvj:Ct TS:=⟨[.d .s 0,.fn 63 [] []],[],[.s],dI 1,[],[i6],bd,λx=>zbg x⟩
def zDw:HBc 62 zvj:=ctk (T:=[(63,zor)]) (h:=.s .n (.s .n (.s (.s (.l ⟨[(0,.d .s 0),(1,.fn 63 [] []),(5,dI 1)],[],[.s],[i6]⟩ [(5,dI 1)] [] [i6] 0 (λx K v=>Jx x K v) (.s (.s (.j ⟨[(0,.d .s 0),(1,.fn 63 [] []),(5,dI 1),(16,.d .b 2)],[],[.s,i6],[.b]⟩ bd .n) .n) .n)) .n) .n))) Tryz.func62 rfl zKk ⟨zys,trivial⟩ λx=>aj
def HR:Ct TS:=⟨[.d (.i .u8) 0],[],[.i .u8],.d .b 1,[],[.b],bd,λx=>qw x⟩
def JP:HBc 155 HR:=ctk (T:=[]) (h:=.n) Tryz.func155 rfl zXw trivial λx=>aj
def KT:Ct TS:=⟨[.d (.i .u8) 0],[],[.i .u8],.d .b 1,[],[.b],bd,λx=>uq x⟩
def QG:HBc 157 KT:=ctk (T:=[]) (h:=.n) Tryz.func157 rfl zXx trivial λx=>aj
def zhm:Ct TS:=⟨[.d (.i .u8) 0],[],[.i .u8],.d .b 1,[],[.b],bd,λx=>Qr x⟩
def zsg:HBc 164 zhm:=ctk (T:=[(155,HR),(157,KT)]) (h:=.n) Tryz.func164 rfl zXy ⟨JP,QG,trivial⟩ λx=>aj
def zhn:Ct TS:=⟨[.d .s 0,.fn 164 [] []],[],[.s],dI 1,[],[i6],bd,λx=>Qs x⟩
def zsh:HBc 62 zhn:=ctk (T:=[(164,zhm)]) (h:=.s .n (.s .n (.s (.s (.l ⟨[(0,.d .s 0),(1,.fn 164 [] []),(5,dI 1)],[],[.s],[i6]⟩ [(5,dI 1)] [] [i6] 0 (λx K v=>uZ x K v) (.s (.s (.j ⟨[(0,.d .s 0),(1,.fn 164 [] []),(5,dI 1),(16,.d .b 2)],[],[.s,i6],[.b]⟩ bd .n) .n) .n)) .n) .n))) Tryz.func62 rfl zKk ⟨zsg,trivial⟩ λx=>aj
def zho:Ct TS:=⟨[.d (.i .u8) 0],[],[.i .u8],.d .b 1,[],[.b],bd,λx=>oG x⟩
def zsi:HBc 156 zho:=ctk (T:=[(155,HR),(157,KT)]) (h:=.n) Tryz.func156 rfl zXz ⟨JP,QG,trivial⟩ λx=>aj
def zhp:Ct TS:=⟨[.d .s 0,.fn 156 [] []],[],[.s],dI 1,[],[i6],bd,λx=>Qt x⟩
def zsj:HBc 62 zhp:=ctk (T:=[(156,zho)]) (h:=.s .n (.s .n (.s (.s (.l ⟨[(0,.d .s 0),(1,.fn 156 [] []),(5,dI 1)],[],[.s],[i6]⟩ [(5,dI 1)] [] [i6] 0 (λx K v=>u0 x K v) (.s (.s (.j ⟨[(0,.d .s 0),(1,.fn 156 [] []),(5,dI 1),(16,.d .b 2)],[],[.s,i6],[.b]⟩ bd .n) .n) .n)) .n) .n))) Tryz.func62 rfl zKk ⟨zsi,trivial⟩ λx=>aj
def zkv:Ct TS:=⟨[.d .s 0],[],[.s],.d .b 1,[],[.b],bd,λx=>WN x⟩
def zos:HBc 51 zkv:=ctk (T:=[(155,HR),(62,zhp)]) (h:=.s .n (.s (.s (.j ⟨[(0,.d .s 0),(15,.d .b 1)],[],[.s],[.b]⟩ bd .n) .n) .n)) Tryz.func51 rfl hbv51 ⟨JP,zsj,trivial⟩ λx=>aj
def Zf:Ct TS:=⟨[.d .s 0,.fn 157 [] []],[],[.s],dI 1,[],[i6],bd,λx=>HE x⟩
def zdo:HBc 62 Zf:=ctk (T:=[(157,KT)]) (h:=.s .n (.s .n (.s (.s (.l ⟨[(0,.d .s 0),(1,.fn 157 [] []),(5,dI 1)],[],[.s],[i6]⟩ [(5,dI 1)] [] [i6] 0 (λx K v=>u5 x K v) (.s (.s (.j ⟨[(0,.d .s 0),(1,.fn 157 [] []),(5,dI 1),(16,.d .b 2)],[],[.s,i6],[.b]⟩ bd .n) .n) .n)) .n) .n))) Tryz.func62 rfl zKk ⟨QG,trivial⟩ λx=>aj
def zhq:Ct TS:=⟨[.d .s 0],[],[.s],.tup [dI 1,.d .b 2],[],[i6,.b],bd,λx=>Qu x⟩
def zsk:HBc 165 zhq:=ctk (T:=[(62,Zf)]) (h:=.s .n (.s (.s (.j ⟨[(0,.d .s 0),(28,.d .b 1)],[],[.s],[.b]⟩ bd .n) .n) (.s .n (.s (.s .n (.s (.l ⟨[(0,.d .s 0),(4,dI 2),(30,dI 1),(31,dI 3)],[],[.s,i6],[i6,i6]⟩ [(4,dI 2)] [] [i6] 0 (u2Q jf) .n) .n)) .n)))) Tryz.func165 rfl zX0 ⟨zdo,trivial⟩ λx=>aj
def zdp:Ct TS:=⟨[.d .s 0,.d .s 1],[],[.s,.s],.d .b 2,[],[.b],bd,u2Q Vn⟩
def zot:zdp.OK PGq 166:=λx r h=>kmp aj (zsc x.1 x.2 r h)
def zvk:Ct TS:=⟨[.d .s 0],h5,[.s],.tup [.ag [dI 2,.d .s 3,dI 4,dI 5],dI 1],(h6 7000001 2 3 4 5),[i6,i6,.s,i6,i6],bd,λx=>zbh x⟩
def zDx:HBc 64 zvk:=ctg (cd:=cdT) (nb:=nbT) (rc:=[(2,7000001,0)]) (T:=[(155,HR),(62,zhn),(51,zkv),(157,KT),(62,Zf),(165,zhq),(166,zdp)]) (h:=.s .n (.s .n (.s (.s .n (.s (.lr ⟨[(0,.d .s 0),(2,.ptr 1000002 0),(43,.ag [.d .s 1,.d .s 2,.d .s 3,.d .s 4,.d .s 5,.d .s 6,.d .s 7,.d .s 8,.d .s 9,.d .s 10,.d .s 11,.d .s 12,.d .s 13,.d .s 14]),(44,dI 17)],(h6 1000002 15 16 15 15),[.s,.s,.s,.s,.s,.s,.s,.s,.s,.s,.s,.s,.s,.s,.s,i6,.s],[i6]⟩ [(2,.ptr 1000002 0)] (h6 1000002 15 16 15 15) [] 1 (u17Q qx) .n) .n)) .n))) Tryz.func64 rfl hbv64 ⟨JP,zsh,zos,QG,zdo,zsk,⟨zX1,zot⟩,trivial⟩ λx=>aj
def zsl:Ct TS:=⟨[.d .s 0],h5,[.s],.tup [.d jY 1,dI 2,dI 3],h5,k7,bd,λx=>zdg x⟩
def zvl:HBc 21 zsl:=ctk (T:=[(62,zvj),(64,zvk)]) (h:=.s .n (.s .n (.s .n (.s .n (.s (.lr ⟨[(0,.d .s 0),(5,.row 4 7000001),(6,dI 1)],[(900000000,.rw 1),(900000001,.rw 2),(900000002,.rw 3),(900000003,.rw 4),(7000001,.row 51 (.st 11) 2 bd)],[.s],[i6,jY]⟩ [] [] [] 999999999 (λx K v=>oH x K v) .n) .n))))) Tryz.func21 rfl hbv21 ⟨zDw,zDx,trivial⟩ λx=>aj
def og:Ct TS:=⟨[.ptr 1 0],(h8 1),[jY,i6],.ag [dI 2,.d .s 3,dI 4,dI 5],[(1,.box 67 [.d jY 0,dI 1]),(7000001,.box 51 [dI 2,.d .s 3,dI 4,dI 5])],k3,bd,u2Q vF⟩
def ux:HBc 42 og:=ctg (cd:=cdT) (nb:=nbT) (rc:=[(2,7000001,0)]) (T:=[]) (h:=.n) Tryz.func42 rfl zX2 trivial λx=>aj
def zvm:Ct TS:=⟨[.ptr 1 0,.d .s 2],(h8 1),[jY,i6,.s],.d .b 3,(h8 1),[.b],bd,u3Q zdh⟩
def zsm:HBc 124 zvm:=ctk (T:=[(42,og)]) (h:=.n) Tryz.func124 rfl zN5 ⟨ux,trivial⟩ λx=>aj
def zdq:Ct TS:=⟨[.ptr 1 0,.d .s 2],(h8 1),[jY,i6,.s],.d .b 3,(h8 4),[.b,i6],bd,u3Q xF⟩
def zbr:HBc 194 zdq:=ctk (T:=[(124,zvm)]) (h:=.n) Tryz.func194 rfl zN6 ⟨zsm,trivial⟩ λx=>aj
def uy:Ct TS:=⟨[.ptr 1 0],(h8 1),[jY,i6],.d .b 2,(h8 1),[.b],bd,u2Q xO⟩
def oi:HBc 193 uy:=ctk (T:=[(42,og)]) (h:=.n) Tryz.func193 rfl zN7 ⟨ux,trivial⟩ λx=>aj
def kZ:Ct TS:=⟨[.ptr 1 0,.d .b 2,dI 3],(h8 1),[jY,i6,.b,i6],.tup [],(h8 1),[],bd,u4Q yH⟩
def kE:HBc 41 kZ:=ctk (T:=[]) (h:=.n) Tryz.func41 rfl zKl trivial λx=>aj
def Zg:Ct TS:=⟨[.ptr 1 0,dI 2,dI 3],(h8 1),k9,dI 4,(h8 5),[i6,i6],bd,u4Q kr⟩
def zdr:HBc 130 Zg:=ctk (T:=[(193,uy),(41,kZ),(42,og)]) (h:=.s .n (.s .n (.s .n (.s (.j ⟨[(0,.ptr 1 0),(7,dI 2)],(h8 1),k7,[]⟩ bd .n) .n)))) Tryz.func130 rfl zvg ⟨oi,kE,ux,trivial⟩ λx=>aj
def zhr:Ct TS:=⟨[.d .s 0,.d .s 1],h5,[.s,.s],.d .b 2,h5,[.b],bd,u2Q Qv⟩
def zsn:zhr.OK PGq 52:=λx r h=>kmp aj (zyl x.1 x.2 r h)
def zhs:Ct TS:=⟨[.d .s 0],h5,[.s],.d .b 1,h5,[.b],bd,λx=>Q0 x⟩
def zds:HBc 16 zhs:=ctk (T:=[(51,zkv),(52,zhr)]) (h:=.n) Tryz.func16 rfl hbv16 ⟨zos,⟨hbv52,zsn⟩,trivial⟩ λx=>aj
def Zh:Ct TS:=⟨[.ptr 1 0],(h10 1),[jY,i6],.d .b 2,(h10 1),[.b],bd,u2Q oI⟩
def zdt:HBc 190 Zh:=ctk (T:=[(42,og),(16,zhs)]) (h:=.n) Tryz.func190 rfl zN8 ⟨ux,zds,trivial⟩ λx=>aj
def zkw:Ct TS:=⟨[.ptr 1 0],(h10 1),[jY,i6],.d .s 2,(h10 3),[.s,i6],bd,u2Q xx⟩
def zou:HBc 207 zkw:=ctk (T:=[(190,Zh),(41,kZ)]) (h:=.n) Tryz.func207 rfl zvh ⟨zdt,kE,trivial⟩ λx=>aj
def qJ:Ct TS:=⟨[],[],[],.d zqy 0,[],[zqy],bd,λ_=>wZ⟩
def uz:HBc 151 qJ:=ctk (T:=[]) (h:=.n) Tryz.func151 rfl zX3 trivial λx=>aj
def zkx:Ct TS:=⟨[.ptr 1 0,.d .s 2],(h8 1),[jY,i6,.s],.tup [],(h8 3),[i6],bd,u3Q jV⟩
def zov:HBc 133 zkx:=ctk (T:=[(194,zdq),(41,kZ)]) (h:=.n) Tryz.func133 rfl zvi ⟨zbr,kE,trivial⟩ λx=>aj
def HU(RK:Nat):Ct TS:=⟨[.ptr 1 0,dI 2],(h10 1),k7,.tup [.ag [dI 5,dI 6,.d .s 7,.d .s 8,.d l0Q 9],dI 3],(h11 4 7000001 5 6 7 8 9),k12,bd,λx=>ku RK x.1 x.2.1 x.2.2⟩
def oj(RK:Nat):Ct TS:=⟨[.ptr 1 0,dI 2],(h10 1),k7,.ag [dI 4,dI 5,.d .s 6,.d .s 7,.d l0Q 8],(h11 3 7000001 4 5 6 7 8),k13,bd,λx=>yd RK x.1 x.2.1 x.2.2⟩
def uA:∀RK,(HU RK).OK PGq 150/\(oj RK).OK PGq 40
 |0=>⟨(λx r h=>nomatch (show(bh:Option _)=bc r from h)),(λx r h=>nomatch (show(bh:Option _)=bc r from h))⟩
 |RK+1=>⟨(ctg (c:=HU (RK+1)) (cd:=cdT) (nb:=nbT) (rc:=[(4,7000001,0)]) (T:=[(194,zdq),(40,oj RK),(133,zkx),(193,uy),(130,Zg),(207,zkw)]) (h:=.s .n (.s (.s (.s (.j ⟨[(0,.ptr 1 0),(1,dI 1),(4,.ptr 1000004 0),(10,.d .b 6)],zKf,k14,[i6,.b]⟩ bd .n) (.s .n (.s (.j ⟨[(0,.ptr 1 0),(1,dI 1),(4,.ptr 1000004 0),(31,.d .b 6)],zKf,k14,[i6,.b]⟩ bd .n) (.s .n (.s (.j ⟨[(0,.ptr 1 0),(4,.ptr 1000004 0),(42,.d .b 5)],(h11 4 1000004 1 1 2 2 3),[jY,i6,.s,l0Q],[i6,.b]⟩ bd .n) .n))))) .n) .n)) Tryz.func150 rfl Q2 ⟨zbr,⟨QP,(uA RK).2⟩,zov,oi,zdr,zou,trivial⟩ λx=>aj).2,(ctg (c:=oj (RK+1)) (cd:=cdT) (nb:=nbT) (rc:=[(4,7000001,0)]) (T:=[(150,HU RK),(151,qJ),(124,zvm),(40,oj RK)]) (h:=.s .n (.s .n (.s (.lr ⟨[(0,.ptr 1 0),(1,dI 1),(4,.ptr 1000004 0),(5,.ptr 1000005 0),(6,dI 6)],h15,k14,k12⟩ [] [] [] 999999999 (λx K v=>j3 (yd RK) x.1 x.2.1 x.2.2.1 x.2.2.2.1 x.2.2.2.2 K v) (.s (.s .n (.s (.s .n (.s (.l ⟨[(0,.ptr 1 0),(1,dI 2),(4,.ptr 1000004 0),(5,.ptr 1000005 0),(6,dI 3),(7,.ptr 1000007 0),(16,.d zqy 4),(17,dI 5),(18,dI 14)],(h16 6 7 8 9 10 11 12 13 15 16 17),k17,k3⟩ [(0,.ptr 1 0),(1,dI 2),(4,.ptr 1000004 0),(5,.ptr 1000005 0),(6,dI 3),(7,.ptr 1000007 0)] (h16 6 7 8 9 10 11 12 13 14 15 16) [.s,i6,i6] 2 (z1j xX) (.s .n (.s .n (.s (.j ⟨[(0,.ptr 1 0),(1,dI 2),(4,.ptr 1000004 0),(5,.ptr 1000005 0),(6,dI 3),(7,.ptr 1000007 0),(16,.d zqy 4),(17,dI 5),(18,dI 6)],(h16 7 8 9 10 11 12 13 14 15 16 17),k18,[.s,i6,i6]⟩ bd .n) .n)))) .n)) (.s (.s (.j ⟨[(0,.ptr 1 0),(1,dI 2),(4,.ptr 1000004 0),(5,.ptr 1000005 0),(7,.ptr 1000007 0),(51,.d .b 14)],(h16 3 4 5 6 7 8 9 10 11 12 13),k19,[.b]⟩ bd .n) .n) .n))) .n)) .n))) Tryz.func40 rfl QP ⟨⟨Q2,(uA RK).1⟩,uz,zsm,⟨QP,(uA RK).2⟩,trivial⟩ λx=>aj).2⟩
def zso(RK:Nat):ze PGq 150/\(HU RK).OK PGq 150:=⟨Q2,(uA RK).1⟩
def W1(RK:Nat):ze PGq 40/\(oj RK).OK PGq 40:=⟨QP,(uA RK).2⟩
def ua(RK:Nat):Ct TS:=⟨[.d (.st 0) 0],[],[.st 0],dI 1,[],[i6],bd,λx=>jg RK x⟩
def zht:∀RK,(ua RK).OK PGq 43
 |0=>(λx r h=>nomatch (show(bh:Option _)=bc r from h))
 |RK+1=>(ctk (c:=ua (RK+1)) (T:=[(43,ua RK)]) (h:=.s .n (.s .n (.s (.s .n (.s (.l ⟨[(3,dI 2),(7,.d l0Q 0),(8,dI 1),(9,dI 3)],[],[l0Q,i6],[i6,i6]⟩ [(3,dI 2)] [] [i6] 0 (λx K v=>qy (jg RK) x.1 x.2 K v) .n) .n)) .n))) Tryz.func43 rfl zSy ⟨⟨zSy,(zht RK)⟩,trivial⟩ λx=>aj).2
def HV(RK:Nat):ze PGq 43/\(ua RK).OK PGq 43:=⟨zSy,(zht RK)⟩
def jC:Ct TS:=⟨[.ptr 2 0,.ptr 3 0],zKg,k21,.tup [],((h20 7 8 9 10 11 12)++h5),k13,bd,u7Q WO⟩
def zge:HBc 39 jC:=ctk (T:=[(40,oj KK),(42,og),(41,kZ),(43,ua KK)]) (h:=.n) Tryz.func39 rfl zX4 ⟨(W1 KK),ux,kE,(HV KK),trivial⟩ λx=>aj
def zow:CtP TS PC:=⟨[.ptr 1 0,dI 2],(h8 1),k7,u3Q Qw⟩
def zyt:HBp 134 zow:=ctp (T:=[(42,og)]) (TP:=[]) (h:=.n) Tryz.func134 rfl zN9 ⟨ux,trivial⟩ trivial λx=>aj
def HW:CtP TS PC:=⟨[.ptr 1 0,.d .b 2,dI 3],(h8 1),[jY,i6,.b,i6],u4Q wm⟩
def JQ:HBp 41 HW:=ctp (T:=[]) (TP:=[(134,zow)]) (h:=.n) Tryz.func41 rfl zKl trivial ⟨zyt,trivial⟩ λx=>aj
def zox:CtP TS PC:=⟨[.ptr 1 0,.d .s 2],(h8 1),[jY,i6,.s],u3Q AY⟩
def zyu:HBp 133 zox:=ctp (T:=[(194,zdq),(41,kZ)]) (TP:=[(41,HW)]) (h:=.n) Tryz.func133 rfl zvi ⟨zbr,kE,trivial⟩ ⟨JQ,trivial⟩ λx=>aj
def zdu:CtP TS PC:=⟨[.ptr 1 0,dI 2,dI 3],(h8 1),k9,u4Q oJ⟩
def zoy:HBp 130 zdu:=ctp (T:=[(193,uy),(41,kZ),(42,og)]) (TP:=[(41,HW)]) (h:=.s .n (.s .n (.s .n (.s (.j ⟨[(0,.ptr 1 0),(7,dI 2)],(h8 1),k7,[]⟩ bg .n) .n)))) Tryz.func130 rfl zvg ⟨oi,kE,ux,trivial⟩ ⟨JQ,trivial⟩ λx=>aj
def zoz:CtP TS PC:=⟨[.ptr 1 0],(h10 1),[jY,i6],u2Q jW⟩
def zyv:HBp 207 zoz:=ctp (T:=[(190,Zh),(41,kZ)]) (TP:=[(41,HW)]) (h:=.n) Tryz.func207 rfl zvh ⟨zdt,kE,trivial⟩ ⟨JQ,trivial⟩ λx=>aj
def Vr(RK:Nat):CtP TS PC:=⟨[.ptr 1 0,dI 2],(h10 1),k7,λx=>oK RK x.1 x.2.1 x.2.2⟩
def HX(RK:Nat):CtP TS PC:=⟨[.ptr 1 0,dI 2],(h10 1),k7,λx=>xf RK x.1 x.2.1 x.2.2⟩
def oo:∀RK,(Vr RK).OK PGq (pvT PT PC) 150/\(HX RK).OK PGq (pvT PT PC) 40
 |0=>⟨(λx r h=>nomatch (show(bh:Option _)=bc r from h)),(λx r h=>nomatch (show(bh:Option _)=bc r from h))⟩
 |RK+1=>⟨(ctp (c:=Vr (RK+1)) (T:=[(194,zdq),(40,oj KK),(133,zkx),(193,uy),(130,Zg),(207,zkw)]) (TP:=[(40,HX RK),(133,zox),(130,zdu),(207,zoz)]) (h:=.s .n (.s (.s (.s (.j ⟨[(0,.ptr 1 0),(1,dI 1),(4,.ptr 1000004 0),(10,.d .b 6)],zKf,k14,[i6,.b]⟩ bd .n) (.s .n (.s (.j ⟨[(0,.ptr 1 0),(1,dI 1),(4,.ptr 1000004 0),(31,.d .b 6)],zKf,k14,[i6,.b]⟩ bd .n) (.s .n (.s (.j ⟨[(0,.ptr 1 0),(4,.ptr 1000004 0),(42,.d .b 5)],(h11 4 1000004 1 1 2 2 3),[jY,i6,.s,l0Q],[i6,.b]⟩ bd .n) .n))))) .n) .n)) Tryz.func150 rfl Q2 ⟨zbr,(W1 KK),zov,oi,zdr,zou,trivial⟩ ⟨⟨QP,(oo RK).2⟩,zyu,zoy,zyv,trivial⟩ λx=>aj).2,(ctp (c:=HX (RK+1)) (T:=[(150,HU KK),(151,qJ),(124,zvm),(40,oj KK)]) (TP:=[(150,Vr RK),(40,HX RK)]) (h:=.s .n (.s .n (.s (.lr ⟨[(0,.ptr 1 0),(1,dI 1),(4,.ptr 1000004 0),(5,.ptr 1000005 0),(6,dI 6)],h15,k14,k12⟩ [] [] [] 999999999 (λx K v=>j4 (xf RK) x.1 x.2.1 x.2.2.1 x.2.2.2.1 x.2.2.2.2 K v) (.s (.s .n (.s (.s .n (.s (.l ⟨[(0,.ptr 1 0),(1,dI 2),(4,.ptr 1000004 0),(5,.ptr 1000005 0),(6,dI 3),(7,.ptr 1000007 0),(16,.d zqy 4),(17,dI 5),(18,dI 14)],(h16 6 7 8 9 10 11 12 13 15 16 17),k17,k3⟩ [(0,.ptr 1 0),(1,dI 2),(4,.ptr 1000004 0),(5,.ptr 1000005 0),(6,dI 3),(7,.ptr 1000007 0)] (h16 6 7 8 9 10 11 12 13 14 15 16) [.s,i6,i6] 2 (z1j vP) (.s .n (.s .n (.s (.j ⟨[(0,.ptr 1 0),(1,dI 2),(4,.ptr 1000004 0),(5,.ptr 1000005 0),(6,dI 3),(7,.ptr 1000007 0),(16,.d zqy 4),(17,dI 5),(18,dI 6)],(h16 7 8 9 10 11 12 13 14 15 16 17),k18,[.s,i6,i6]⟩ bd .n) .n)))) .n)) (.s (.s (.j ⟨[(0,.ptr 1 0),(1,dI 2),(4,.ptr 1000004 0),(5,.ptr 1000005 0),(7,.ptr 1000007 0),(51,.d .b 14)],(h16 3 4 5 6 7 8 9 10 11 12 13),k19,[.b]⟩ bd .n) .n) .n))) .n)) .n))) Tryz.func40 rfl QP ⟨(zso KK),uz,zsm,(W1 KK),trivial⟩ ⟨⟨Q2,(oo RK).1⟩,⟨QP,(oo RK).2⟩,trivial⟩ λx=>aj).2⟩
def zyw(RK:Nat):ze PGq 40/\(HX RK).OK PGq (pvT PT PC) 40:=⟨QP,(oo RK).2⟩
def Hq:CtP TS PC:=⟨[.ptr 2 0,.ptr 3 0],zKg,k21,u7Q WQ⟩
def zdv:HBp 39 Hq:=ctp (T:=[(40,oj KK),(42,og),(41,kZ),(43,ua KK)]) (TP:=[(40,HX KK),(41,HW)]) (h:=.n) Tryz.func39 rfl zX4 ⟨(W1 KK),ux,kE,(HV KK),trivial⟩ ⟨(zyw KK),JQ,trivial⟩ λx=>aj
def HY:Ct TS:=⟨[.ptr 1 0,.fn 39 [] [.ptr 2 0,.ptr 3 0]],zKg,k21,.tup [dI 7,dI 8],((h20 9 10 11 12 13 14)++h5),k22,bg,u7Q HG⟩
def W2:HY.OK PGq 35:=λx r h=>by
 obtain⟨q,h1,h2⟩:=bind_some h;cases h2;exact kmp aj (zoe (F:=hV (oC jC.hin (yY (S:=TS) jC.ci x))) (F':=hV (oC jC.hout (yY (S:=TS) jC.ci x++yY (S:=TS) jC.co q))) (a:=.ptr 2 0 0) (b:=.ptr 3 0 0) (pv:=.ptr 1 0 0) (kmp aj (zge.2 x q h1)))
def A6:Ct TS:=⟨[.ptr 1 0,.fn 39 [] [.ptr 2 0,.ptr 3 0]],zKg,k21,.tup [dI 7,dI 8],([(1,.rw 0),(2,.rw 0),(3,.rw 0)]++h5),[i6,i6],bg,u7Q AZ⟩
def Vs:A6.OK PGq 35:=λx r h=>kmp aj (zkn (F:=hV (oC Hq.hin (yY (S:=TS) Hq.ci x))) (a:=.ptr 2 0 0) (b:=.ptr 3 0 0) (pv:=.ptr 1 0 0) (x:=r.1) (y:=r.2) (kmp aj (zdv.2 x r h)))
def zdw:Ct TS:=⟨[.d .s 0],h5,[.s],.tup [.ag [dI 3,dI 4,.d .s 5,.d .s 6,.d l0Q 7],dI 1,dI 2],(h23 7000001 3 4 5 6 7),k12,bd,λx=>zdi x⟩
def zo0:HBc 12 zdw:=ctg (cd:=cdT) (nb:=nbT) (rc:=[(2,7000001,0)]) (T:=[(21,zsl),(35,HY),(35,A6)]) (h:=.n) Tryz.func12 rfl hbv12 ⟨zvl,⟨zKm,W2⟩,⟨zKm,Vs⟩,trivial⟩ λx=>aj
def zdx(RK:Nat):Ct TS:=⟨[.d (.st 0) 0,dI 1],h5,[.st 0,i6],.d .b 2,h5,[.b],bd,λx=>yx RK x.1 x.2⟩
def zo1:∀RK,(zdx RK).OK PGq 61
 |0=>(λx r h=>nomatch (show(bh:Option _)=bc r from h))
 |RK+1=>(ctk (c:=zdx (RK+1)) (T:=[(16,zhs),(61,zdx RK)]) (h:=.s .n (.s (.s (.j ⟨[(1,dI 0),(2,.ptr 1000002 0),(20,.d .b 6)],(h23 1000002 1 2 3 4 5),k13,[.b]⟩ bd .n) .n) (.s .n (.s .n (.s (.j ⟨[(1,dI 0),(2,.ptr 1000002 0),(5,.ptr 1000005 0),(6,dI 6)],(h24 1 2 3 4 5 9),k13,[i6,i6,.s,.s]⟩ bg (.s .n (.s (.s .n (.s .n (.s (.j ⟨[(1,dI 0),(2,.ptr 1000002 0),(5,.ptr 1000005 0),(6,dI 1),(27,dI 2),(35,.d .b 9)],(h24 2 3 4 5 6 8),[i6,i6,i6,i6,.s,.s,l0Q,i6,.s],[.b]⟩ bd .n) (.s .n (.s .n (.s .n (.s (.j ⟨[(1,dI 0),(2,.ptr 1000002 0),(5,.ptr 1000005 0),(6,dI 1),(27,dI 2),(53,.d .b 9)],(h24 2 3 4 5 6 8),[i6,i6,i6,i6,.s,.s,l0Q,i6,.s],[.b]⟩ bd .n) .n))))))) .n))) (.s (.s (.j ⟨[(1,dI 0),(2,.ptr 1000002 0),(98,.d .b 6)],(h23 1000002 1 2 3 4 5),k13,[.b]⟩ bd .n) .n) (.s (.s .n (.s (.lr ⟨[(1,dI 0),(100,.d l0Q 1),(101,dI 2),(102,dI 3)],h5,[i6,l0Q,i6],[i6]⟩ [] h5 [] 1 (λx K v=>xR (yx RK) x.1 x.2.1 x.2.2 K v) .n) .n)) .n))))))) Tryz.func61 rfl zSz ⟨zds,⟨zSz,(zo1 RK)⟩,trivial⟩ λx=>aj).2
def zKn(RK:Nat):ze PGq 61/\(zdx RK).OK PGq 61:=⟨zSz,(zo1 RK)⟩
def JR:Ct TS:=⟨[.d (.st 0) 0],h5,[.st 0],.d .b 1,h5,[.b],bd,λx=>j5 x⟩
def KU:HBc 20 JR:=ctk (T:=[(61,zdx KK)]) (h:=.n) Tryz.func20 rfl hbv20 ⟨(zKn KK),trivial⟩ λx=>aj
def zvn:Ct TS:=⟨[.d (.st 0) 0],[],[.st 0],.tup [dI 1,.d .s 2],[],[i6,.s],bd,λx=>zbi x⟩
def zDy:HBc 161 zvn:=ctk (T:=[(151,qJ)]) (h:=.s .n (.s (.s .n (.s (.lr ⟨[(1,.ptr 1000001 0),(6,.d zqy 0),(7,dI 1),(8,dI 7)],(h25 1000001 2 3 4 5 6),[zqy,i6,i6,i6,.s,.s,l0Q],[i6]⟩ [(1,.ptr 1000001 0)] (h25 1000001 2 3 4 5 6) [] 0 (u7Q Jy) .n) .n)) .n)) Tryz.func161 rfl zX5 ⟨uz,trivial⟩ λx=>aj
def zdc:Ct TS:=⟨[.ptr 1 0,.d .s 1],[(1,.gn 0 .s 0)],[.s,.s],.tup [dI 2,.nili],[(1,.gn 0 .s 3)],[i6,.s],bd,u2Q xd⟩
def zkl:zdc.OK PGq 162:=λx r h=>by
 obtain⟨_,h1,h2⟩:=bind_some h;cases h2;exact kmp aj (zsb zi4 1 x.1 x.2 (xv h1))
def zDz:Ct TS:=⟨[dI 0],h5,[i6],.d .s 1,h5,[.s],bd,λx=>ZX x⟩
def zD0:zDz.OK PGq 163:=λx r h=>kmp aj (zW3 x r h)
def zdy(RK:Nat):Ct TS:=⟨[.ptr 1 0,.d (.st 0) 1,dI 2],(h26 0 0),[.s,.st 0,i6],.tup [],(h26 0 3),[.s],bd,λx=>wg RK x.1 x.2.1 x.2.2⟩
def zo2:∀RK,(zdy RK).OK PGq 58
 |0=>(λx r h=>nomatch (show(bh:Option _)=bc r from h))
 |RK+1=>zJ4 (T:=[(161,zvn),(162,zdc),(163,zDz),(58,zdy RK)]) (cd:=cdT) (kk:=KK) (nb:=nbT) (rs:=[]) (D:=dW) (k0:=1) (hB:=.s (.s .n (.s .n (.s .n (.s .n (.s .n (.s .n (.s .n (.s .n (.s .n (.s (.s .n (.s (.l ⟨[(0,.ptr 1 0),(4,.ptr 1000004 0),(90,.row 1 1000090),(91,dI 0),(92,dI 8)],h27,[i6,i6,i6,.s,.s,l0Q,lsQ],[.s,i6]⟩ [] (h26 0 7) [.s] 1 (λx K v=>kv (wg RK) x.1 x.2.1 x.2.2.1 x.2.2.2.1 x.2.2.2.2.1 (p5Q x).1 (p6Q x) K v) .n) .n)) (.s .n (.s .n (.s .n (.s .n (.s .n (.s (.j ⟨[(0,.ptr 1 0),(4,.ptr 1000004 0),(6,dI 1),(7,.d .s 2),(10,dI 8)],h28,[.s,i6,.s,i6,i6,.s,.s,l0Q],[i6]⟩ bd .n) .n)))))))))))))))) .n) (hB':=.s (.s .n (.s .n (.s .n (.s .n (.s .n (.s .n (.s .n (.s .n (.s .n (.s (.s .n (.s (.l ⟨[(0,.ptr 1 0),(4,.ptr 1000004 0),(90,.row 1 1000090),(91,dI 0),(92,dI 8)],h27,[i6,i6,i6,.s,.s,l0Q,lsQ],[.s,i6]⟩ [] (h26 0 7) [.s] 1 (λx K v=>kz (wg RK) x.1 x.2.1 x.2.2.1 x.2.2.2.1 x.2.2.2.2.1 (p5Q x).1 (p6Q x) K v) .n) .n)) (.s .n (.s .n (.s .n (.s .n (.s .n (.s (.j ⟨[(0,.ptr 1 0),(4,.ptr 1000004 0),(6,dI 1),(7,.d .s 2),(10,dI 8)],h28,[.s,i6,.s,i6,i6,.s,.s,l0Q],[i6]⟩ bd .n) .n)))))))))))))))) .n) zSa Tryz.func58 rfl zSb ⟨zDy,⟨zva,zkl⟩,⟨zOa,zD0⟩,⟨zX6,(zo2 RK)⟩,trivial⟩ rfl aj rfl dW_ok zDa (λx=>aj) (λx=>aj)
def zvo(RK:Nat):ze PGq 58/\(zdy RK).OK PGq 58:=⟨zX6,(zo2 RK)⟩
def zD1:Ct TS:=⟨[.ptr 1 0],[(1,.gn 0 .s 0)],[.s],dI 1,[(1,.gn 0 .s 0)],[i6],bd,λx=>zDj x⟩
def zKo:zD1.OK PGq 59:=λx r h=>by
 cases h;exact kmp aj (zC5 (T:=108) 1 x)
def oF:Ct TS:=⟨[.ptr 1 0],[(1,.gn 0 .s 0)],[.s],.d .s 1,[(1,.gn 0 .s 0)],[.s],bd,λx=>qq x⟩
def Jt:oF.OK PGq 60:=λx r h=>by
 cases h;exact kmp aj (YZ (T:=108) 1 x)
def zdz:Ct TS:=⟨[.d (.st 0) 0],h5,[.st 0],.tup [.d .s 1,dI 2],h5,[.s,i6],bd,λx=>Vo x⟩
def zo3:HBc 19 zdz:=ctk (T:=[(20,JR),(58,zdy KK),(59,zD1),(60,oF)]) (h:=.n) Tryz.func19 rfl hbv19 ⟨KU,(zvo KK),⟨zX7,zKo⟩,⟨zyq,Jt⟩,trivial⟩ λx=>aj
def zS:Ct TS:=⟨[.ptr 1 0],vt,k30,.ag [dI 17,.d .s 18,dI 19,dI 20],(vt++(h31 7000001 17 18 19 20)),k3,bd,λx=>zo (xE x)⟩
def zK:HBc 42 zS:=ctg (cd:=cdT) (nb:=nbT) (rc:=[(2,7000001,0)]) (T:=[]) (h:=.n) Tryz.func42 rfl zX2 trivial λx=>aj
def zx:Ct TS:=⟨[.ptr 1 0,.d .b 17,dI 18],vt,k32,.tup [],vt,[],bd,λx=>zf (zde x) (rBB x).1 (rBB x).2⟩
def zr:HBc 41 zx:=ctk (T:=[]) (h:=.n) Tryz.func41 rfl zKl trivial λx=>aj
def zky:Ct TS:=⟨[.ptr 1 0,dI 17,dI 18],vt,k33,.tup [],zVi,[i6],bd,λx=>yS (zde x) (rBB x).1 (rBB x).2⟩
def zo4:HBc 121 zky:=ctk (T:=[(41,zx)]) (h:=.n) Tryz.func121 rfl zOb ⟨zr,trivial⟩ λx=>aj
def zR:Ct TS:=⟨[.ptr 1 0],(vt++h5),k30,.d .b 17,(vt++h5),[.b],bd,λx=>zJ (xE x)⟩
def zM:HBc 190 zR:=ctk (T:=[(42,zS),(16,zhs)]) (h:=.n) Tryz.func190 rfl zN8 ⟨zK,zds,trivial⟩ λx=>aj
def yC:Ct TS:=⟨[.ptr 1 0],(vt++h5),k30,.d .s 17,(zVh++h5),[.s,i6],bd,λx=>zL (xE x)⟩
def yp:HBc 207 yC:=ctk (T:=[(190,zR),(41,zx)]) (h:=.n) Tryz.func207 rfl zvh ⟨zM,zr,trivial⟩ λx=>aj
def zd0:Ct TS:=⟨[.ptr 1 0,.om 9],(vt++h5),k30,.d .s 17,((h29 18 9 16 2 3 4 5 6 7 8 19 11 12 13 14 15)++h5),k34,bd,λx=>KF (xE x)⟩
def zhu:HBc 191 zd0:=ctk (T:=[(190,zR),(41,zx),(42,zS),(207,yC)]) (h:=.n) Tryz.func191 rfl A5 ⟨zM,zr,zK,yp,trivial⟩ λx=>aj
def zsp:Ct TS:=⟨[.ptr 1 0,.ci .i64 0],(vt++h5),k30,.d .s 17,((h35 18 9 7001001 16 2 3 4 5 6 7 8)++h5++(h36 7001001 19)),k34,bd,λx=>zdj (xE x)⟩
def zvp:HBc 125 zsp:=ctg (cd:=cdO) (nb:=nbT) (rc:=[]) (T:=[(191,zd0)]) (h:=.s .n (.s (.j ⟨[(0,.ptr 1 0),(1,dI 16)],((h35 1 2 7000001 3 4 5 6 7 8 9 10)++h5++(h36 7000001 17)),k37,[mBQ]⟩ bd .n) .n)) Tryz.func125 rfl Ke ⟨zhu,trivial⟩ λx=>aj
def ub:Ct TS:=⟨[.ptr 1 0,.d .s 17],vt,k38,.d .b 18,vt,[.b],bd,λx=>vG (zde x) (rBB x)⟩
def qa:HBc 124 ub:=ctk (T:=[(42,zS)]) (h:=.n) Tryz.func124 rfl zN5 ⟨zK,trivial⟩ λx=>aj
def vU:Ct TS:=⟨[.ptr 1 0,.d .s 17],vt,k38,.d .b 18,zVi,[.b,i6],bd,λx=>zD (zde x) (rBB x)⟩
def vy:HBc 194 vU:=ctk (T:=[(124,ub)]) (h:=.n) Tryz.func194 rfl zN6 ⟨qa,trivial⟩ λx=>aj
def xl:Ct TS:=⟨[.ptr 1 0,.d .s 17],vt,k38,.tup [],zVh,[i6],bd,λx=>zA (zde x) (rBB x)⟩
def yU:HBc 133 xl:=ctk (T:=[(194,vU),(41,zx)]) (h:=.n) Tryz.func133 rfl zvi ⟨vy,zr,trivial⟩ λx=>aj
def yI:Ct TS:=⟨[.ptr 1 0],vt,k30,.d .b 17,vt,[.b],bd,λx=>yj (xE x)⟩
def yJ:HBc 193 yI:=ctk (T:=[(42,zS)]) (h:=.n) Tryz.func193 rfl zN7 ⟨zK,trivial⟩ λx=>aj
def ye:Ct TS:=⟨[.ptr 1 0,dI 17,dI 18],vt,k33,dI 19,(h29 20 9 16 2 3 4 5 6 7 8 10 11 12 13 14 15),[i6,i6],bd,λx=>zk (zde x) (rBB x).1 (rBB x).2⟩
def ya:HBc 130 ye:=ctk (T:=[(193,yI),(41,zx),(42,zS)]) (h:=.s .n (.s .n (.s .n (.s (.j ⟨[(0,.ptr 1 0),(7,dI 17)],zmm,k39,[]⟩ bd .n) .n)))) Tryz.func130 rfl zvg ⟨yJ,zr,zK,trivial⟩ λx=>aj
def uB(RK:Nat):Ct TS:=⟨[.ptr 1 0,dI 17],(vt++h5),k40,.tup [.ag [dI 20,dI 21,.d .s 22,.d .s 23,.d l0Q 24],dI 18],(zVi++h5++(h25 7000001 20 21 22 23 24)),k12,bd,λx=>ur RK (zde x) (rBB x)⟩
def wN(RK:Nat):Ct TS:=⟨[.ptr 1 0,dI 17],(vt++h5),k40,.ag [dI 19,dI 20,.d .s 21,.d .s 22,.d l0Q 23],(zVh++h5++(h25 7000001 19 20 21 22 23)),k13,bd,λx=>yb RK (zde x) (rBB x)⟩
def jP:∀RK,(uB RK).OK PGq 150/\(wN RK).OK PGq 40
 |0=>⟨(λx r h=>nomatch (show(bh:Option _)=bc r from h)),(λx r h=>nomatch (show(bh:Option _)=bc r from h))⟩
 |RK+1=>⟨(ctg (c:=uB (RK+1)) (cd:=cdT) (nb:=nbT) (rc:=[(4,7000001,0)]) (T:=[(194,vU),(40,wN RK),(133,xl),(193,yI),(130,ye),(207,yC)]) (h:=.s .n (.s (.s (.s (.j ⟨[(0,.ptr 1 0),(1,dI 16),(4,.ptr 1000004 0),(10,.d .b 21)],z1l,k41,[i6,.b]⟩ bd .n) (.s .n (.s (.j ⟨[(0,.ptr 1 0),(1,dI 16),(4,.ptr 1000004 0),(31,.d .b 21)],z1l,k41,[i6,.b]⟩ bd .n) (.s .n (.s (.j ⟨[(0,.ptr 1 0),(4,.ptr 1000004 0),(42,.d .b 20)],zXk,k42,[i6,.b]⟩ bd .n) .n))))) .n) .n)) Tryz.func150 rfl Q2 ⟨vy,⟨QP,(jP RK).2⟩,yU,yJ,ya,yp,trivial⟩ λx=>aj).2,(ctg (c:=wN (RK+1)) (cd:=cdT) (nb:=nbT) (rc:=[(4,7000001,0)]) (T:=[(150,uB RK),(151,qJ),(124,ub),(40,wN RK)]) (h:=.s .n (.s .n (.s (.lr ⟨[(0,.ptr 1 0),(1,dI 16),(4,.ptr 1000004 0),(5,.ptr 1000005 0),(6,dI 21)],zXl,k41,k12⟩ [] [] [] 999999999 (λx K v=>kS (yb RK) (BB.mk x.1 0 x.2.2.2.1 x.2.2.2.2.1 (p5Q x).1 (p6Q x).1 (p7Q x).1 (p8Q x).1 (p9Q x).1 x.2.1 (zmj x).1 (zmk x).1 (zml x).1 (zqz x).1 (zq0 x).1 (zvf x).1 x.2.2.1) (zN2 x).1 (zN3 x).1 (zVf x).1 (zVg x) K v) (.s (.s .n (.s (.s .n (.s (.l ⟨[(0,.ptr 1 0),(1,dI 17),(4,.ptr 1000004 0),(5,.ptr 1000005 0),(6,dI 18),(7,.ptr 1000007 0),(16,.d zqy 19),(17,dI 20),(18,dI 29)],(zmm++h5++(h44 21 22 23 24 25 26 27 28 30 31 32)),k45,k3⟩ [(0,.ptr 1 0),(1,dI 17),(4,.ptr 1000004 0),(5,.ptr 1000005 0),(6,dI 18),(7,.ptr 1000007 0)] (zmm++h5++(h44 21 22 23 24 25 26 27 28 29 30 31)) [.s,i6,i6] 2 (λx K v=>kQ (BB.mk x.1 0 x.2.2.2.2.1 (p5Q x).1 (p6Q x).1 (p7Q x).1 (p8Q x).1 (p9Q x).1 (zmj x).1 x.2.2.1 (zmk x).1 (zml x).1 (zqz x).1 (zq0 x).1 (zvf x).1 (zN2 x).1 x.2.2.2.1) x.2.1 (zN3 x).1 (zVf x).1 (zVg x).1 (z1k x).1 (p21Q x).1 (p22Q x).1 (p23Q x).1 (p24Q x).1 (p25Q x).1 (p26Q x).1 (p27Q x).1 (p28Q x) K v) (.s .n (.s .n (.s (.j ⟨[(0,.ptr 1 0),(1,dI 17),(4,.ptr 1000004 0),(5,.ptr 1000005 0),(6,dI 18),(7,.ptr 1000007 0),(16,.d zqy 19),(17,dI 20),(18,dI 21)],(zmm++h5++(h44 22 23 24 25 26 27 28 29 30 31 32)),k46,[.s,i6,i6]⟩ bd .n) .n)))) .n)) (.s (.s (.j ⟨[(0,.ptr 1 0),(1,dI 17),(4,.ptr 1000004 0),(5,.ptr 1000005 0),(7,.ptr 1000007 0),(51,.d .b 29)],(zmm++h5++(h44 18 19 20 21 22 23 24 25 26 27 28)),k47,[.b]⟩ bd .n) .n) .n))) .n)) .n))) Tryz.func40 rfl QP ⟨⟨Q2,(jP RK).1⟩,uz,qa,⟨QP,(jP RK).2⟩,trivial⟩ λx=>aj).2⟩
def zkz(RK:Nat):ze PGq 150/\(uB RK).OK PGq 150:=⟨Q2,(jP RK).1⟩
def qK(RK:Nat):ze PGq 40/\(wN RK).OK PGq 40:=⟨QP,(jP RK).2⟩
def Vt:Ct TS:=⟨[.ptr 1 0,.d .b 17,dI 18],vt,k32,.tup [],zVi,[i6],bd,λx=>j6 (zde x) (rBB x).1 (rBB x).2⟩
def QH:HBc 127 Vt:=ctk (T:=[(124,ub),(41,zx)]) (h:=.n) Tryz.func127 rfl zOc ⟨qa,zr,trivial⟩ λx=>aj
def Zi:Ct TS:=⟨[.ptr 1 0],(vt++h5),k30,.tup [],((h35 17 9 7000001 16 18 3 4 5 6 7 8)++h5++(h36 7000001 19)),[i6,l1Q,mBQ],bd,λx=>HH (xE x)⟩
def zd1:HBc 122 Zi:=ctk (T:=[(125,zsp),(133,xl),(40,wN KK),(43,ua KK),(127,Vt)]) (h:=.n) Tryz.func122 rfl zOd ⟨zvp,yU,(qK KK),(HV KK),QH,trivial⟩ λx=>aj
def Vu:Ct TS:=⟨[.ptr 1 0,.om 10],(vt++h5),k30,.d .s 17,((h29 18 9 16 2 3 4 5 6 7 8 10 19 12 13 14 15)++h5),k34,bd,λx=>Ah (xE x)⟩
def ZY:HBc 191 Vu:=ctk (T:=[(190,zR),(41,zx),(42,zS),(207,yC)]) (h:=.n) Tryz.func191 rfl A5 ⟨zM,zr,zK,yp,trivial⟩ λx=>aj
def zd2:Ct TS:=⟨[.ptr 1 0,.ci .i64 1],(vt++h5),k30,.d .s 17,((h48 18 9 7001001 16 2 3 4 5 6 7 8 10 12 13 14 15)++h5++(h36 7001001 19)),k34,bd,λx=>KH (xE x)⟩
def zhv:HBc 125 zd2:=ctg (cd:=cdO) (nb:=nbT) (rc:=[]) (T:=[(191,Vu)]) (h:=.s .n (.s (.j ⟨[(0,.ptr 1 0),(1,dI 16)],zXm,k37,[mBQ]⟩ bd .n) .n)) Tryz.func125 rfl Ke ⟨ZY,trivial⟩ λx=>aj
def Vv:Ct TS:=⟨[.ptr 1 0,.mp 15],((h49 1 17)++h5),k50,.d .s 18,((h49 19 20)++h5),[.s,i6,.m .s .b],bd,λx=>yf (zde x) (rBB x)⟩
def ZZ:HBc 191 Vv:=ctk (T:=[(190,zR),(41,zx),(42,zS),(207,yC)]) (h:=.n) Tryz.func191 rfl A5 ⟨zM,zr,zK,yp,trivial⟩ λx=>aj
def HZ:Ct TS:=⟨[.ptr 1 0,dI 17],vt,k40,dI 18,zVi,[i6,i6],bd,λx=>wL (zde x) (rBB x)⟩
def JS:HBc 192 HZ:=ctk (T:=[(194,vU),(130,ye)]) (h:=.n) Tryz.func192 rfl zOe ⟨vy,ya,trivial⟩ λx=>aj
def zd3:Ct TS:=⟨[.ptr 1 0],(vt++h5),k30,.tup [],((h48 17 9 7000001 16 2 18 4 5 6 7 8 10 12 13 14 15)++h5++(h36 7000001 19)),[i6,l3Q,mBQ],bd,λx=>KI (xE x)⟩
def zhw:HBc 123 zd3:=ctk (T:=[(125,zd2),(190,zR),(41,zx),(191,Vv),(192,HZ),(133,xl)]) (h:=.s .n (.s .n (.s (.s (.l ⟨[(0,.ptr 1 0),(2,.ptr 1000002 0),(3,.mp 1000007)],(zKi++h5++h51),k52,[i6,.m .s .b,l2Q]⟩ [(0,.ptr 1 0),(2,.ptr 1000002 0)] (zKi++h5++h53) [i6,l2Q] 0 (λx K v=>uu (BB.mk x.1 0 x.2.2.2.1 x.2.2.2.2.1 (p5Q x).1 (p6Q x).1 (p7Q x).1 (p8Q x).1 (p9Q x).1 x.2.1 (zmj x).1 [] (zmk x).1 (zml x).1 (zqz x).1 (zq0 x).1 x.2.2.1) (zvf x).1 (zN2 x).1 (zN3 x) K v) .n) .n) .n))) Tryz.func123 rfl zOf ⟨zhv,zM,zr,ZZ,JS,yU,trivial⟩ λx=>aj
def Vw:Ct TS:=⟨[.ptr 1 0,.om 11],(vt++h5),k30,.d .s 17,((h29 18 9 16 2 3 4 5 6 7 8 10 11 19 13 14 15)++h5),k34,bd,λx=>Ai (xE x)⟩
def Z1:HBc 191 Vw:=ctk (T:=[(190,zR),(41,zx),(42,zS),(207,yC)]) (h:=.n) Tryz.func191 rfl A5 ⟨zM,zr,zK,yp,trivial⟩ λx=>aj
def zd4:Ct TS:=⟨[.ptr 1 0,.ci .i64 2],(vt++h5),k30,.d .s 17,((h54 18 9 7001001 16 2 3 4 5 6 7 8 10 11)++h5++(h36 7001001 19)),k34,bd,λx=>Aj (xE x)⟩
def zhx:HBc 125 zd4:=ctg (cd:=cdO) (nb:=nbT) (rc:=[]) (T:=[(191,Vw)]) (h:=.s .n (.s (.j ⟨[(0,.ptr 1 0),(1,dI 16)],zXn,k37,[mBQ]⟩ bd .n) .n)) Tryz.func125 rfl Ke ⟨Z1,trivial⟩ λx=>aj
def Zj:Ct TS:=⟨[.ptr 1 0],vt,k30,.d l4Q 17,zVh,[l4Q,i6],bd,λx=>wM (xE x)⟩
def zd5:HBc 126 Zj:=ctk (T:=[(130,ye),(193,yI)]) (h:=.s .n (.s .n (.s (.lr ⟨[(0,.ptr 1 0),(3,.row 2 7000001)],(zN4++[(7000001,.row 156 (.st 4) 17 bd)]),k55,[i6,l4Q]⟩ [] [] [] 999999999 (λx K v=>kT (BB.mk x.1 0 x.2.2.2.1 x.2.2.2.2.1 (p5Q x).1 (p6Q x).1 (p7Q x).1 (p8Q x).1 (p9Q x).1 x.2.1 (zmj x).1 (zmk x).1 (zml x).1 (zqz x).1 (zq0 x).1 (zvf x) x.2.2.1) K v) .n) .n))) Tryz.func126 rfl zOg ⟨ya,yJ,trivial⟩ λx=>aj
def zhy:Ct TS:=⟨[.d l4Q 0],[],[l4Q],.d zfu 1,[],[zfu],bd,λx=>Qx x⟩
def zsq:HBc 214 zhy:=ctk (T:=[]) (h:=.s .n (.s .n (.s (.s .n (.s (.l ⟨[(0,.d l4Q 0),(3,.row 4 1000007),(9,dI 1),(10,dI 2)],[(1000007,.row 229 (.st 13) 3 bd)],[l4Q,i6],[i6,zfu]⟩ [(3,.row 4 1000007)] [(1000007,.row 229 (.st 13) 2 bd)] [zfu] 0 (u2Q vb) .n) .n)) .n))) Tryz.func214 rfl zX8 trivial λx=>aj
def zhz:Ct TS:=⟨[.d (.st 4) 0],[],[.st 4],.d .b 1,[],[.b],bd,λx=>Zd x⟩
def zsr:HBc 215 zhz:=ctk (T:=[]) (h:=.n) Tryz.func215 rfl zX9 trivial λx=>aj
def Kf:Ct TS:=⟨[.d (.st 13) 0],[],[.st 13],.d .b 1,[],[.b],bd,λx=>xG x⟩
def Zk:HBc 216 Kf:=ctk (T:=[]) (h:=.n) Tryz.func216 rfl zYa trivial λx=>aj
def zd6:Ct TS:=⟨[dI 0],[],[i6],.d .b 1,[],[.b],bd,λx=>Jz x⟩
def zo5:HBc 238 zd6:=ctk (T:=[]) (h:=.n) Tryz.func238 rfl zYb trivial λx=>aj
def W3:Ct TS:=⟨[dI 0,dI 1],[],[i6,i6],dI 2,[],[i6],bd,u2Q kU⟩
def zgf:HBc 231 W3:=ctk (T:=[(238,zd6)]) (h:=.n) Tryz.func231 rfl zYc ⟨zo5,trivial⟩ λx=>aj
def zvq:Ct TS:=⟨[.d (.l i6) 0],[],[.l i6],dI 1,[],[i6],bd,λx=>zbj x⟩
def zD2:HBc 230 zvq:=ctk (T:=[]) (h:=.s .n (.s .n (.s (.s .n (.s (.lr ⟨[(3,dI 0),(6,.d (.l i6) 1),(7,dI 2),(8,dI 3)],[],[i6,.l i6,i6],[i6]⟩ [(3,dI 0)] [] [] 0 (u3Q qz) .n) .n)) .n))) Tryz.func230 rfl zYd trivial λx=>aj
def zd7:Ct TS:=⟨[.d (.st 4) 0,.d (.st 4) 1],[],[.st 4,.st 4],dI 2,[],[i6],bd,u2Q JA⟩
def zo6:HBc 217 zd7:=ctk (T:=[(231,W3),(230,zvq)]) (h:=.n) Tryz.func217 rfl zYe ⟨zgf,zD2,trivial⟩ λx=>aj
def Kg:Ct TS:=⟨[.d (.st 13) 0,.d (.st 13) 1],[],[.st 13,.st 13],.d .b 2,[],[.b],bd,u2Q Kd⟩
def Zl:HBc 218 Kg:=ctk (T:=[]) (h:=.n) Tryz.func218 rfl zYf trivial λx=>aj
def zo7:Ct TS:=⟨[.d l4Q 0],[],[l4Q],.d .b 1,[],[.b],bd,λx=>zdk x⟩
def zyx:HBc 180 zo7:=ctk (T:=[(214,zhy),(215,zhz),(216,Kf),(217,zd7),(218,Kg)]) (h:=.s .n (.s (.s (.j ⟨[(0,.d l4Q 0),(16,.d .b 1)],[],[l4Q],[.b]⟩ bd .n) .n) (.s .n (.s (.s .n (.s (.lr ⟨[(0,.d l4Q 0),(3,.d zfu 1),(19,.d zfu 1),(20,dI 2),(21,dI 3)],[],[l4Q,zfu,i6],[i6]⟩ [(3,.d zfu 1)] [] [] 0 (u3Q kA) (.s .n (.s .n (.s (.s (.s .n (.s .n (.s (.s (.j ⟨[(0,.d l4Q 0),(3,.d zfu 1),(4,dI 2),(19,.d zfu 1),(20,dI 3),(21,dI 2),(61,.d .b 4)],[],[l4Q,zfu,i6,i6],[.b]⟩ bd .n) .n) (.s (.j ⟨[(0,.d l4Q 0),(3,.d zfu 1),(19,.d zfu 1),(20,dI 2),(21,dI 3),(74,.d .b 4)],[],[l4Q,zfu,i6,i6],[.b]⟩ bd .n) .n)))) .n) .n)))) .n)) (.s (.s .n (.s (.lr ⟨[(3,.d zfu 0),(77,dI 1),(78,dI 2)],[],[zfu,i6],[i6]⟩ [(3,.d zfu 0)] [] [] 2 (u2Q kC) (.s .n (.s .n (.s (.s (.s .n (.s .n (.s (.lr ⟨[(3,.d zfu 0),(7,dI 1),(8,dI 3),(77,dI 2),(78,dI 1)],[],[zfu,i6,i6],[i6]⟩ [(3,.d zfu 0),(77,dI 2),(78,dI 1)] [] [] 4 (u3Q kB) (.s .n (.s (.s (.s (.j ⟨[(3,.d zfu 0),(7,dI 1),(8,dI 2),(77,dI 3),(78,dI 1),(106,.d .b 4)],[],[zfu,i6,i6,i6],[.b]⟩ bd .n) .n) .n) .n))) .n))) .n) .n)))) .n)) .n))))) Tryz.func180 rfl zYg ⟨zsq,zsr,Zk,zo6,Zl,trivial⟩ λx=>aj
def zbs:Ct TS:=⟨[.d l4Q 0],[],[l4Q],.d .b 1,[],[.b],bd,λx=>vc x⟩
def zd8:HBc 94 zbs:=ctk (T:=[(180,zo7)]) (h:=.n) Tryz.func94 rfl hbv94 ⟨zyx,trivial⟩ λx=>aj
def Vx:Ct TS:=⟨[.ptr 1 0,.om 12],(vt++h5),k30,.d .s 17,((h29 18 9 16 2 3 4 5 6 7 8 10 11 12 19 14 15)++h5),k34,bd,λx=>Ak (xE x)⟩
def Z5:HBc 191 Vx:=ctk (T:=[(190,zR),(41,zx),(42,zS),(207,yC)]) (h:=.n) Tryz.func191 rfl A5 ⟨zM,zr,zK,yp,trivial⟩ λx=>aj
def zd9:Ct TS:=⟨[.ptr 1 0,.ci .i64 3],(vt++h5),k30,.d .s 17,((h56 18 9 7001001 16 2 3 4 5 6 7 8 10 11 12 14 15)++h5++(h36 7001001 19)),k34,bd,λx=>KJ (xE x)⟩
def zh0:HBc 125 zd9:=ctg (cd:=cdO) (nb:=nbT) (rc:=[]) (T:=[(191,Vx)]) (h:=.s .n (.s (.j ⟨[(0,.ptr 1 0),(1,dI 16)],zXo,k37,[mBQ]⟩ bd .n) .n)) Tryz.func125 rfl Ke ⟨Z5,trivial⟩ λx=>aj
def zk0:Ct TS:=⟨[.ptr 1 0],(vt++h5),k30,.d lsQ 17,(zVh++h5),[lsQ,i6],bd,λx=>u6 (xE x)⟩
def zo8:HBc 195 zk0:=ctk (T:=[(207,yC),(190,zR)]) (h:=.s .n (.s .n (.s (.s (.l ⟨[(0,.ptr 1 0),(3,.row 1 1000008)],(zN4++h5++(h57 1000008 17)),k55,[i6,lsQ]⟩ [(3,.row 1 1000008)] (zN4++h5++(h57 1000008 17)) [i6,lsQ] 0 (λx K v=>Al (BB.mk x.1 0 x.2.2.2.1 x.2.2.2.2.1 (p5Q x).1 (p6Q x).1 (p7Q x).1 (p8Q x).1 (p9Q x).1 x.2.1 (zmj x).1 (zmk x).1 (zml x).1 (zqz x).1 (zq0 x).1 (zvf x) x.2.2.1) K v) .n) .n) .n))) Tryz.func195 rfl zOh ⟨yp,zM,trivial⟩ λx=>aj
def zbt:Ct TS:=⟨[.d .s 0],h5,[.s],.row 1 60,[(60,.row 9 .s 1 bd),(900000000,.rw 1),(900000001,.rw 2),(900000002,.rw 3),(900000003,.rw 4)],[lsQ],bd,λx=>vH x⟩
def zea:zbt.OK PGq 72:=λx r h=>kmp aj (zJw x r h)
def Q3:Ct TS:=⟨[.d lsQ 0,.d .s 1],[],[lsQ,.s],dI 2,[],[i6],bd,u2Q Hp⟩
def zeb:HBc 219 Q3:=ctk (T:=[]) (h:=.s .n (.s (.s .n (.s (.lr ⟨[(0,.d lsQ 0),(1,.d .s 1),(7,dI 2),(8,dI 3)],[],[lsQ,.s,i6],[i6]⟩ [] [] [] 0 (u3Q xS) .n) .n)) .n)) Tryz.func219 rfl zYh trivial λx=>aj
def zec:Ct TS:=⟨[.d .s 0,.d .s 1],h5,[.s,.s],dI 2,h5,[i6],bd,u2Q Vp⟩
def zbu:HBc 197 zec:=ctk (T:=[(72,zbt),(219,Q3)]) (h:=.n) Tryz.func197 rfl zYi ⟨⟨zS0,zea⟩,zeb,trivial⟩ λx=>aj
def qL:Ct TS:=⟨[.ptr 1 0,.d .s 17],(vt++h5),k38,dI 18,(zVi++h5),[i6,i6],bd,λx=>xy (zde x) (rBB x)⟩
def qM:HBc 129 qL:=ctk (T:=[(42,zS),(197,zec),(41,zx)]) (h:=.s .n (.s .n (.s (.j ⟨[(0,.ptr 1 0),(5,dI 17)],(zmm++h5),k39,[]⟩ bd .n) .n))) Tryz.func129 rfl zOi ⟨zK,zbu,zr,trivial⟩ λx=>aj
def zss:Ct TS:=⟨[.ptr 1 0],(vt++h5),k30,dI 17,(zVh++h5),[i6,i6],bd,λx=>zdl (xE x)⟩
def zvr:HBc 196 zss:=ctk (T:=[(42,zS),(197,zec),(41,zx),(129,qL)]) (h:=.s .n (.s .n (.s (.lr ⟨[(0,.ptr 1 0),(3,dI 17)],(zN4++h5),k55,[i6,i6]⟩ [] [] [] 999999999 (λx K v=>HI (BB.mk x.1 0 x.2.2.2.1 x.2.2.2.2.1 (p5Q x).1 (p6Q x).1 (p7Q x).1 (p8Q x).1 (p9Q x).1 x.2.1 (zmj x).1 (zmk x).1 (zml x).1 (zqz x).1 (zq0 x).1 (zvf x) x.2.2.1) K v) (.s (.s .n (.s (.s (.j ⟨[(0,.ptr 1 0),(3,dI 17),(4,dI 18),(24,.d .b 19)],(zmm++h5),k58,[.b]⟩ bd .n) .n) (.s (.j ⟨[(0,.ptr 1 0),(3,dI 17)],(zmm++h5),k39,[]⟩ bd .n) .n))) .n)) .n))) Tryz.func196 rfl zOj ⟨zK,zbu,zr,qM,trivial⟩ λx=>aj
def zk1:Ct TS:=⟨[.ptr 1 0],(vt++h5),k30,.tup [],((h56 17 9 7000001 16 2 3 4 18 6 7 8 10 11 12 14 15)++h5++(h36 7000001 19)),[i6,l7Q,mBQ],bd,λx=>JB (xE x)⟩
def zo9:HBc 128 zk1:=ctk (T:=[(125,zd9),(194,vU),(195,zk0),(130,ye),(133,xl),(196,zss),(129,qL),(40,wN KK),(43,ua KK),(127,Vt)]) (h:=.s .n (.s (.j ⟨[(0,.ptr 1 0),(2,.ptr 1000002 0)],(zKj++h5++(h59 23 17 18 18 18 19 18 18 18 20 20 21 18 18 18 18 18 18 18)),k60,[i6,lsQ]⟩ bd .n) (.s (.j ⟨[(0,.ptr 1 0),(2,.ptr 1000002 0)],(zKj++h5++(h59 17 23 18 18 18 19 18 18 18 20 20 21 18 18 18 18 18 18 18)),k60,[i6,lsQ]⟩ bd .n) (.s (.j ⟨[(0,.ptr 1 0),(2,.ptr 1000002 0)],(z1m++h5++(h59 17 18 24 19 19 20 19 19 19 21 21 22 19 19 19 19 19 19 19)),k61,[i6,i6]⟩ bd .n) (.s (.j ⟨[(0,.ptr 1 0),(2,.ptr 1000002 0)],zXp,k62,[i6,i6]⟩ bd .n) (.s (.j ⟨[(0,.ptr 1 0),(2,.ptr 1000002 0)],zXq,k63,[i6,i6]⟩ bd .n) (.s .n (.s .n (.s (.j ⟨[(0,.ptr 1 0),(2,.ptr 1000002 0)],(z1m++h5++(h59 17 18 19 20 21 22 24 25 26 27 28 29 30 31 32 33 34 35 36)),k64,k65⟩ bd .n) .n))))))))) Tryz.func128 rfl zOk ⟨zh0,vy,zo8,ya,yU,zvr,qM,(qK KK),(HV KK),QH,trivial⟩ λx=>aj
def Vy:Ct TS:=⟨[.ptr 1 0,.om 13],(vt++h5),k30,.d .s 17,((h29 18 9 16 2 3 4 5 6 7 8 10 11 12 13 19 15)++h5),k34,bd,λx=>Am (xE x)⟩
def Z7:HBc 191 Vy:=ctk (T:=[(190,zR),(41,zx),(42,zS),(207,yC)]) (h:=.n) Tryz.func191 rfl A5 ⟨zM,zr,zK,yp,trivial⟩ λx=>aj
def zed:Ct TS:=⟨[.ptr 1 0,.ci .i64 4],(vt++h5),k30,.d .s 17,((h66 18 9 7001001 16 2 3 4 5 6 7 8 10 11 12 13)++h5++(h36 7001001 19)),k34,bd,λx=>An (xE x)⟩
def zh1:HBc 125 zed:=ctg (cd:=cdO) (nb:=nbT) (rc:=[]) (T:=[(191,Vy)]) (h:=.s .n (.s (.j ⟨[(0,.ptr 1 0),(1,dI 16)],zXr,k37,[mBQ]⟩ bd .n) .n)) Tryz.func125 rfl Ke ⟨Z7,trivial⟩ λx=>aj
def Vz:Ct TS:=⟨[.ptr 1 0,.om 14],(vt++h5),k30,.d .s 17,((h29 18 9 16 2 3 4 5 6 7 8 10 11 12 13 14 19)++h5),k34,bd,λx=>Ao (xE x)⟩
def Z9:HBc 191 Vz:=ctk (T:=[(190,zR),(41,zx),(42,zS),(207,yC)]) (h:=.n) Tryz.func191 rfl A5 ⟨zM,zr,zK,yp,trivial⟩ λx=>aj
def zee:Ct TS:=⟨[.ptr 1 0,.ci .i64 5],(vt++h5),k30,.d .s 17,((h67 18 9 7001001 16 2 3 4 5 6 7 8 10 11 12 13 14)++h5++(h36 7001001 19)),k34,bd,λx=>KO (xE x)⟩
def zh2:HBc 125 zee:=ctg (cd:=cdO) (nb:=nbT) (rc:=[]) (T:=[(191,Vz)]) (h:=.s .n (.s (.j ⟨[(0,.ptr 1 0),(1,dI 16)],zXs,k37,[mBQ]⟩ bd .n) .n)) Tryz.func125 rfl Ke ⟨Z9,trivial⟩ λx=>aj
def zef:Ct TS:=⟨[.ptr 1 0],vt,k30,.ag [dI 18,dI 19,dI 20],((h29 17 9 16 2 3 4 5 6 7 8 10 11 12 13 14 15)++[(7000001,.box 98 [dI 18,dI 19,dI 20])]),k1,bd,λx=>kV (xE x)⟩
def zh3:HBc 198 zef:=ctg (cd:=cdT) (nb:=nbT) (rc:=[(2,7000001,0)]) (T:=[(130,ye)]) (h:=.n) Tryz.func198 rfl zOl ⟨ya,trivial⟩ λx=>aj
def zk2:Ct TS:=⟨[.ptr 1 0],(vt++h5),k30,.tup [],((h67 17 9 7000001 16 2 3 4 5 6 18 8 10 11 12 13 14)++h5++(h36 7000001 19)),[i6,wj,mBQ],bd,λx=>JC (xE x)⟩
def zpa:HBc 131 zk2:=ctk (T:=[(125,zee),(198,zef),(133,xl),(130,ye),(193,yI),(41,zx)]) (h:=.s .n (.s .n (.s .n (.s .n (.s .n (.s (.s (.l ⟨[(0,.ptr 1 0),(2,.ptr 1000002 0)],z1n,k69,[i6,l9Q]⟩ [(0,.ptr 1 0),(2,.ptr 1000002 0)] z1n [i6,l9Q] 0 (λx K v=>Ap (BB.mk x.1 0 x.2.2.2.1 x.2.2.2.2.1 (p5Q x).1 (p6Q x).1 (p7Q x).1 (p8Q x).1 (p9Q x).1 x.2.1 (zmj x).1 (zmk x).1 (zml x).1 (zqz x).1 (zq0 x).1 [] x.2.2.1) (zvf x).1 (zN2 x).1 (zN3 x).1 (zVf x).1 (zVg x).1 (z1k x) K v) .n) .n) .n)))))) Tryz.func131 rfl zOm ⟨zh2,zh3,yU,ya,yJ,zr,trivial⟩ λx=>aj
def zst:Ct TS:=⟨[.ptr 1 0],vt,k30,.tup [],(h29 17 9 16 2 3 4 5 6 7 18 10 11 12 13 14 15),[i6,l9Q],bd,λx=>Vq (xE x)⟩
def zvs:HBc 132 zst:=ctk (T:=[(124,ub),(41,zx),(193,yI),(192,HZ),(130,ye),(194,vU),(133,xl)]) (h:=.s (.s .n (.s (.l ⟨[(0,.ptr 1 0),(2,.d .b 17)],zKh,k70,[i6,l9Q,.b]⟩ [(0,.ptr 1 0)] zKh [i6,l9Q] 0 (λx K v=>oL (BB.mk x.1 0 x.2.2.2.1 x.2.2.2.2.1 (p5Q x).1 (p6Q x).1 (p7Q x).1 (p8Q x).1 [] x.2.1 (p9Q x).1 (zmj x).1 (zmk x).1 (zml x).1 (zqz x).1 (zq0 x) x.2.2.1) K v) (.s .n (.s (.s (.s (.j ⟨[(0,.ptr 1 0)],zmm,k71,[]⟩ bd .n) .n) .n) .n))) .n)) .n) Tryz.func132 rfl zOn ⟨qa,zr,yJ,JS,ya,vy,yU,trivial⟩ λx=>aj
def QI:Ct TS:=⟨[.ptr 1 0],(vt++h5),k30,.tup [],((h72 17 18 7001001 7001002 7001003 7001004 7001005 7001006 19 20 21 22 23 24 25 26)++h5++(h73 7001001 27 7001002 28 7001003 29 7001004 30 7001005 31 7001006 32)),k74,bd,λx=>zkq (xE x)⟩
set_option maxHeartbeats 4000000 in
theorem zD3:HBc 36 QI:=ctk (T:=[(42,zS),(121,zky),(122,Zi),(123,zd3),(124,ub),(125,zd4),(126,Zj),(94,zbs),(127,Vt),(128,zk1),(125,zed),(129,qL),(130,ye),(131,zk2),(41,zx),(132,zst),(133,xl)]) (h:=.s (.l ⟨[(0,.ptr 1 0)],z1o,[jY],k74⟩ [] z1o k74 0 (λx K v=>yn (BB.mk x 0 [] [] [] [] [] [] [] 0 [] [] [] [] [] [] bd) K v) .n) .n) Tryz.func36 rfl zYj ⟨zK,zo4,zd1,zhw,qa,zhx,zd5,zd8,QH,zo9,zh1,qM,ya,zpa,zr,zvs,yU,trivial⟩ λx=>(by  kernel_rfl)
def VA:CtP TS PC:=⟨[.ptr 1 0,dI 17],vt,k40,λx=>HJ (zde x) (rBB x)⟩
def zaa:HBp 134 VA:=ctp (T:=[(42,zS)]) (TP:=[]) (h:=.n) Tryz.func134 rfl zN9 ⟨zK,trivial⟩ trivial λx=>aj
def z6:CtP TS PC:=⟨[.ptr 1 0,.d .b 17,dI 18],vt,k32,λx=>zt (zde x) (rBB x).1 (rBB x).2⟩
def zY:HBp 41 z6:=ctp (T:=[]) (TP:=[(134,VA)]) (h:=.n) Tryz.func41 rfl zKl trivial ⟨zaa,trivial⟩ λx=>aj
def zpb:CtP TS PC:=⟨[.ptr 1 0,dI 17,dI 18],vt,k33,λx=>jh (zde x) (rBB x).1 (rBB x).2⟩
def zyy:HBp 121 zpb:=ctp (T:=[(41,zx)]) (TP:=[(41,z6)]) (h:=.n) Tryz.func121 rfl zOb ⟨zr,trivial⟩ ⟨zY,trivial⟩ λx=>aj
def wz:CtP TS PC:=⟨[.ptr 1 0],(vt++h5),k30,λx=>yX (xE x)⟩
def wq:HBp 207 wz:=ctp (T:=[(190,zR),(41,zx)]) (TP:=[(41,z6)]) (h:=.n) Tryz.func207 rfl zvh ⟨zM,zr,trivial⟩ ⟨zY,trivial⟩ λx=>aj
def zh4:CtP TS PC:=⟨[.ptr 1 0,.om 9],(vt++h5),k30,λx=>WR (xE x)⟩
def zsu:HBp 191 zh4:=ctp (T:=[(190,zR),(41,zx),(42,zS),(207,yC)]) (TP:=[(41,z6),(207,wz)]) (h:=.n) Tryz.func191 rfl A5 ⟨zM,zr,zK,yp,trivial⟩ ⟨zY,wq,trivial⟩ λx=>aj
def zvt:CtP TS PC:=⟨[.ptr 1 0,.ci .i64 0],(vt++h5),k30,λx=>zkr (xE x)⟩
def zD4:HBp 125 zvt:=zVj (cd:=cdO) (nb:=nbT) (T:=[(191,zd0)]) (TP:=[(191,zh4)]) (h:=.s .n (.s (.j ⟨[(0,.ptr 1 0),(1,dI 16)],((h35 1 2 7000001 3 4 5 6 7 8 9 10)++h5++(h36 7000001 17)),k37,[mBQ]⟩ bd .n) .n)) Tryz.func125 rfl Ke ⟨zhu,trivial⟩ ⟨zsu,trivial⟩ λx=>aj
def vV:CtP TS PC:=⟨[.ptr 1 0,.d .s 17],vt,k38,λx=>yk (zde x) (rBB x)⟩
def vW:HBp 133 vV:=ctp (T:=[(194,vU),(41,zx)]) (TP:=[(41,z6)]) (h:=.n) Tryz.func133 rfl zvi ⟨vy,zr,trivial⟩ ⟨zY,trivial⟩ λx=>aj
def xL:CtP TS PC:=⟨[.ptr 1 0,dI 17,dI 18],vt,k33,λx=>zC (zde x) (rBB x).1 (rBB x).2⟩
def xP:HBp 130 xL:=ctp (T:=[(193,yI),(41,zx),(42,zS)]) (TP:=[(41,z6)]) (h:=.s .n (.s .n (.s .n (.s (.j ⟨[(0,.ptr 1 0),(7,dI 17)],zmm,k39,[]⟩ bg .n) .n)))) Tryz.func130 rfl zvg ⟨yJ,zr,zK,trivial⟩ ⟨zY,trivial⟩ λx=>aj
def JT(RK:Nat):CtP TS PC:=⟨[.ptr 1 0,dI 17],(vt++h5),k40,λx=>A0 RK (zde x) (rBB x)⟩
def ke(RK:Nat):CtP TS PC:=⟨[.ptr 1 0,dI 17],(vt++h5),k40,λx=>xz RK (zde x) (rBB x)⟩
def qb:∀RK,(JT RK).OK PGq (pvT PT PC) 150/\(ke RK).OK PGq (pvT PT PC) 40
 |0=>⟨(λx r h=>nomatch (show(bh:Option _)=bc r from h)),(λx r h=>nomatch (show(bh:Option _)=bc r from h))⟩
 |RK+1=>⟨(ctp (c:=JT (RK+1)) (T:=[(194,vU),(40,wN KK),(133,xl),(193,yI),(130,ye),(207,yC)]) (TP:=[(40,ke RK),(133,vV),(130,xL),(207,wz)]) (h:=.s .n (.s (.s (.s (.j ⟨[(0,.ptr 1 0),(1,dI 16),(4,.ptr 1000004 0),(10,.d .b 21)],z1l,k41,[i6,.b]⟩ bd .n) (.s .n (.s (.j ⟨[(0,.ptr 1 0),(1,dI 16),(4,.ptr 1000004 0),(31,.d .b 21)],z1l,k41,[i6,.b]⟩ bd .n) (.s .n (.s (.j ⟨[(0,.ptr 1 0),(4,.ptr 1000004 0),(42,.d .b 20)],zXk,k42,[i6,.b]⟩ bd .n) .n))))) .n) .n)) Tryz.func150 rfl Q2 ⟨vy,(qK KK),yU,yJ,ya,yp,trivial⟩ ⟨⟨QP,(qb RK).2⟩,vW,xP,wq,trivial⟩ λx=>aj).2,(ctp (c:=ke (RK+1)) (T:=[(150,uB KK),(151,qJ),(124,ub),(40,wN KK)]) (TP:=[(150,JT RK),(40,ke RK)]) (h:=.s .n (.s .n (.s (.lr ⟨[(0,.ptr 1 0),(1,dI 16),(4,.ptr 1000004 0),(5,.ptr 1000005 0),(6,dI 21)],zXl,k41,k12⟩ [] [] [] 999999999 (λx K v=>kX (xz RK) (BB.mk x.1 0 x.2.2.2.1 x.2.2.2.2.1 (p5Q x).1 (p6Q x).1 (p7Q x).1 (p8Q x).1 (p9Q x).1 x.2.1 (zmj x).1 (zmk x).1 (zml x).1 (zqz x).1 (zq0 x).1 (zvf x).1 x.2.2.1) (zN2 x).1 (zN3 x).1 (zVf x).1 (zVg x) K v) (.s (.s .n (.s (.s .n (.s (.l ⟨[(0,.ptr 1 0),(1,dI 17),(4,.ptr 1000004 0),(5,.ptr 1000005 0),(6,dI 18),(7,.ptr 1000007 0),(16,.d zqy 19),(17,dI 20),(18,dI 29)],(zmm++h5++(h44 21 22 23 24 25 26 27 28 30 31 32)),k45,k3⟩ [(0,.ptr 1 0),(1,dI 17),(4,.ptr 1000004 0),(5,.ptr 1000005 0),(6,dI 18),(7,.ptr 1000007 0)] (zmm++h5++(h44 21 22 23 24 25 26 27 28 29 30 31)) [.s,i6,i6] 2 (λx K v=>kW (BB.mk x.1 0 x.2.2.2.2.1 (p5Q x).1 (p6Q x).1 (p7Q x).1 (p8Q x).1 (p9Q x).1 (zmj x).1 x.2.2.1 (zmk x).1 (zml x).1 (zqz x).1 (zq0 x).1 (zvf x).1 (zN2 x).1 x.2.2.2.1) x.2.1 (zN3 x).1 (zVf x).1 (zVg x).1 (z1k x).1 (p21Q x).1 (p22Q x).1 (p23Q x).1 (p24Q x).1 (p25Q x).1 (p26Q x).1 (p27Q x).1 (p28Q x) K v) (.s .n (.s .n (.s (.j ⟨[(0,.ptr 1 0),(1,dI 17),(4,.ptr 1000004 0),(5,.ptr 1000005 0),(6,dI 18),(7,.ptr 1000007 0),(16,.d zqy 19),(17,dI 20),(18,dI 21)],(zmm++h5++(h44 22 23 24 25 26 27 28 29 30 31 32)),k46,[.s,i6,i6]⟩ bd .n) .n)))) .n)) (.s (.s (.j ⟨[(0,.ptr 1 0),(1,dI 17),(4,.ptr 1000004 0),(5,.ptr 1000005 0),(7,.ptr 1000007 0),(51,.d .b 29)],(zmm++h5++(h44 18 19 20 21 22 23 24 25 26 27 28)),k47,[.b]⟩ bd .n) .n) .n))) .n)) .n))) Tryz.func40 rfl QP ⟨(zkz KK),uz,qa,(qK KK),trivial⟩ ⟨⟨Q2,(qb RK).1⟩,⟨QP,(qb RK).2⟩,trivial⟩ λx=>aj).2⟩
def zab(RK:Nat):ze PGq 40/\(ke RK).OK PGq (pvT PT PC) 40:=⟨QP,(qb RK).2⟩
def zbv:CtP TS PC:=⟨[.ptr 1 0,.d .b 17,dI 18],vt,k32,λx=>JD (zde x) (rBB x).1 (rBB x).2⟩
def zeg:HBp 127 zbv:=ctp (T:=[(124,ub),(41,zx)]) (TP:=[(41,z6)]) (h:=.n) Tryz.func127 rfl zOc ⟨qa,zr,trivial⟩ ⟨zY,trivial⟩ λx=>aj
def zeh:CtP TS PC:=⟨[.ptr 1 0],(vt++h5),k30,λx=>Qy (xE x)⟩
def zpc:HBp 122 zeh:=ctp (T:=[(125,zsp),(133,xl),(40,wN KK),(43,ua KK),(127,Vt)]) (TP:=[(125,zvt),(133,vV),(40,ke KK),(127,zbv)]) (h:=.n) Tryz.func122 rfl zOd ⟨zvp,yU,(qK KK),(HV KK),QH,trivial⟩ ⟨zD4,vW,(zab KK),zeg,trivial⟩ λx=>aj
def zac:CtP TS PC:=⟨[.ptr 1 0,.om 10],(vt++h5),k30,λx=>JE (xE x)⟩
def zk3:HBp 191 zac:=ctp (T:=[(190,zR),(41,zx),(42,zS),(207,yC)]) (TP:=[(41,z6),(207,wz)]) (h:=.n) Tryz.func191 rfl A5 ⟨zM,zr,zK,yp,trivial⟩ ⟨zY,wq,trivial⟩ λx=>aj
def zh5:CtP TS PC:=⟨[.ptr 1 0,.ci .i64 1],(vt++h5),k30,λx=>WS (xE x)⟩
def zsv:HBp 125 zh5:=zVj (cd:=cdO) (nb:=nbT) (T:=[(191,Vu)]) (TP:=[(191,zac)]) (h:=.s .n (.s (.j ⟨[(0,.ptr 1 0),(1,dI 16)],zXm,k37,[mBQ]⟩ bd .n) .n)) Tryz.func125 rfl Ke ⟨ZY,trivial⟩ ⟨zk3,trivial⟩ λx=>aj
def zad:CtP TS PC:=⟨[.ptr 1 0,.mp 15],((h49 1 17)++h5),k50,λx=>yy (zde x) (rBB x)⟩
def zk4:HBp 191 zad:=ctp (T:=[(190,zR),(41,zx),(42,zS),(207,yC)]) (TP:=[(41,z6),(207,wz)]) (h:=.n) Tryz.func191 rfl A5 ⟨zM,zr,zK,yp,trivial⟩ ⟨zY,wq,trivial⟩ λx=>aj
def VB:CtP TS PC:=⟨[.ptr 1 0,dI 17],vt,k40,λx=>qA (zde x) (rBB x)⟩
def zae:HBp 192 VB:=ctp (T:=[(194,vU),(130,ye)]) (TP:=[(130,xL)]) (h:=.n) Tryz.func192 rfl zOe ⟨vy,ya,trivial⟩ ⟨xP,trivial⟩ λx=>aj
def zh6:CtP TS PC:=⟨[.ptr 1 0],(vt++h5),k30,λx=>WT (xE x)⟩
def zsw:HBp 123 zh6:=ctp (T:=[(125,zd2),(190,zR),(41,zx),(191,Vv),(192,HZ),(133,xl)]) (TP:=[(125,zh5),(41,z6),(191,zad),(192,VB),(133,vV)]) (h:=.s .n (.s .n (.s (.s (.lr ⟨[(0,.ptr 1 0),(2,.ptr 1000002 0),(3,.mp 1000007)],(zKi++h5++h51),k52,[i6,.m .s .b,l2Q]⟩ [(0,.ptr 1 0),(2,.ptr 1000002 0)] (zKi++h5++h53) [i6,l2Q] 0 (λx K v=>uv (BB.mk x.1 0 x.2.2.2.1 x.2.2.2.2.1 (p5Q x).1 (p6Q x).1 (p7Q x).1 (p8Q x).1 (p9Q x).1 x.2.1 (zmj x).1 [] (zmk x).1 (zml x).1 (zqz x).1 (zq0 x).1 x.2.2.1) (zvf x).1 (zN2 x).1 (zN3 x) K v) .n) .n) .n))) Tryz.func123 rfl zOf ⟨zhv,zM,zr,ZZ,JS,yU,trivial⟩ ⟨zsv,zY,zk4,zae,vW,trivial⟩ λx=>aj
def zaf:CtP TS PC:=⟨[.ptr 1 0,.om 11],(vt++h5),k30,λx=>JF (xE x)⟩
def zk5:HBp 191 zaf:=ctp (T:=[(190,zR),(41,zx),(42,zS),(207,yC)]) (TP:=[(41,z6),(207,wz)]) (h:=.n) Tryz.func191 rfl A5 ⟨zM,zr,zK,yp,trivial⟩ ⟨zY,wq,trivial⟩ λx=>aj
def zh7:CtP TS PC:=⟨[.ptr 1 0,.ci .i64 2],(vt++h5),k30,λx=>KP (xE x)⟩
def zsx:HBp 125 zh7:=zVj (cd:=cdO) (nb:=nbT) (T:=[(191,Vw)]) (TP:=[(191,zaf)]) (h:=.s .n (.s (.j ⟨[(0,.ptr 1 0),(1,dI 16)],zXn,k37,[mBQ]⟩ bd .n) .n)) Tryz.func125 rfl Ke ⟨Z1,trivial⟩ ⟨zk5,trivial⟩ λx=>aj
def zei:CtP TS PC:=⟨[.ptr 1 0],vt,k30,λx=>qB (xE x)⟩
def zpd:HBp 126 zei:=ctp (T:=[(130,ye),(193,yI)]) (TP:=[(130,xL)]) (h:=.s .n (.s .n (.s (.lr ⟨[(0,.ptr 1 0),(3,.row 2 7000001)],(zN4++[(7000001,.row 156 (.st 4) 17 bd)]),k55,[i6,l4Q]⟩ [] [] [] 999999999 (λx K v=>kY (BB.mk x.1 0 x.2.2.2.1 x.2.2.2.2.1 (p5Q x).1 (p6Q x).1 (p7Q x).1 (p8Q x).1 (p9Q x).1 x.2.1 (zmj x).1 (zmk x).1 (zml x).1 (zqz x).1 (zq0 x).1 (zvf x) x.2.2.1) K v) .n) .n))) Tryz.func126 rfl zOg ⟨ya,yJ,trivial⟩ ⟨xP,trivial⟩ λx=>aj
def zag:CtP TS PC:=⟨[.ptr 1 0,.om 12],(vt++h5),k30,λx=>JG (xE x)⟩
def zk6:HBp 191 zag:=ctp (T:=[(190,zR),(41,zx),(42,zS),(207,yC)]) (TP:=[(41,z6),(207,wz)]) (h:=.n) Tryz.func191 rfl A5 ⟨zM,zr,zK,yp,trivial⟩ ⟨zY,wq,trivial⟩ λx=>aj
def zh8:CtP TS PC:=⟨[.ptr 1 0,.ci .i64 3],(vt++h5),k30,λx=>WU (xE x)⟩
def zsy:HBp 125 zh8:=zVj (cd:=cdO) (nb:=nbT) (T:=[(191,Vx)]) (TP:=[(191,zag)]) (h:=.s .n (.s (.j ⟨[(0,.ptr 1 0),(1,dI 16)],zXo,k37,[mBQ]⟩ bd .n) .n)) Tryz.func125 rfl Ke ⟨Z5,trivial⟩ ⟨zk6,trivial⟩ λx=>aj
def zpe:CtP TS PC:=⟨[.ptr 1 0],(vt++h5),k30,λx=>JH (xE x)⟩
def zyz:HBp 195 zpe:=ctp (T:=[(207,yC),(190,zR)]) (TP:=[(207,wz)]) (h:=.s .n (.s .n (.s (.s (.lr ⟨[(0,.ptr 1 0),(3,.row 1 1000008)],(zN4++h5++(h57 1000008 17)),k55,[i6,lsQ]⟩ [(3,.row 1 1000008)] (zN4++h5++(h57 1000008 17)) [i6,lsQ] 0 (λx K v=>Aq (BB.mk x.1 0 x.2.2.2.1 x.2.2.2.2.1 (p5Q x).1 (p6Q x).1 (p7Q x).1 (p8Q x).1 (p9Q x).1 x.2.1 (zmj x).1 (zmk x).1 (zml x).1 (zqz x).1 (zq0 x).1 (zvf x) x.2.2.1) K v) .n) .n) .n))) Tryz.func195 rfl zOh ⟨yp,zM,trivial⟩ ⟨wq,trivial⟩ λx=>aj
def JU:CtP TS PC:=⟨[.ptr 1 0,.d .s 17],(vt++h5),k38,λx=>ji (zde x) (rBB x)⟩
def KV:HBp 129 JU:=ctp (T:=[(42,zS),(197,zec),(41,zx)]) (TP:=[(41,z6)]) (h:=.s .n (.s .n (.s (.j ⟨[(0,.ptr 1 0),(5,dI 17)],(zmm++h5),k39,[]⟩ bg .n) .n))) Tryz.func129 rfl zOi ⟨zK,zbu,zr,trivial⟩ ⟨zY,trivial⟩ λx=>aj
def zvu:CtP TS PC:=⟨[.ptr 1 0],(vt++h5),k30,λx=>zks (xE x)⟩
def zD5:HBp 196 zvu:=ctp (T:=[(42,zS),(197,zec),(41,zx),(129,qL)]) (TP:=[(41,z6),(129,JU)]) (h:=.s .n (.s .n (.s (.lr ⟨[(0,.ptr 1 0),(3,dI 17)],(zN4++h5),k55,[i6,i6]⟩ [] [] [] 999999999 (λx K v=>HK (BB.mk x.1 0 x.2.2.2.1 x.2.2.2.2.1 (p5Q x).1 (p6Q x).1 (p7Q x).1 (p8Q x).1 (p9Q x).1 x.2.1 (zmj x).1 (zmk x).1 (zml x).1 (zqz x).1 (zq0 x).1 (zvf x) x.2.2.1) K v) (.s (.s .n (.s (.s (.j ⟨[(0,.ptr 1 0),(3,dI 17),(4,dI 18),(24,.d .b 19)],(zmm++h5),k58,[.b]⟩ bd .n) .n) (.s (.j ⟨[(0,.ptr 1 0),(3,dI 17)],(zmm++h5),k39,[]⟩ bg .n) .n))) .n)) .n))) Tryz.func196 rfl zOj ⟨zK,zbu,zr,qM,trivial⟩ ⟨zY,KV,trivial⟩ λx=>aj
def zpf:CtP TS PC:=⟨[.ptr 1 0],(vt++h5),k30,λx=>WV (xE x)⟩
def zy0:HBp 128 zpf:=ctp (T:=[(125,zd9),(194,vU),(195,zk0),(130,ye),(133,xl),(196,zss),(129,qL),(40,wN KK),(43,ua KK),(127,Vt)]) (TP:=[(125,zh8),(195,zpe),(130,xL),(133,vV),(196,zvu),(129,JU),(40,ke KK),(127,zbv)]) (h:=.s .n (.s (.j ⟨[(0,.ptr 1 0),(2,.ptr 1000002 0)],(zKj++h5++(h59 23 17 18 18 18 19 18 18 18 20 20 21 18 18 18 18 18 18 18)),k60,[i6,lsQ]⟩ bg .n) (.s (.j ⟨[(0,.ptr 1 0),(2,.ptr 1000002 0)],(zKj++h5++(h59 17 23 18 18 18 19 18 18 18 20 20 21 18 18 18 18 18 18 18)),k60,[i6,lsQ]⟩ bg .n) (.s (.j ⟨[(0,.ptr 1 0),(2,.ptr 1000002 0)],(z1m++h5++(h59 17 18 24 19 19 20 19 19 19 21 21 22 19 19 19 19 19 19 19)),k61,[i6,i6]⟩ bg .n) (.s (.j ⟨[(0,.ptr 1 0),(2,.ptr 1000002 0)],zXp,k62,[i6,i6]⟩ bg .n) (.s (.j ⟨[(0,.ptr 1 0),(2,.ptr 1000002 0)],zXq,k63,[i6,i6]⟩ bg .n) (.s .n (.s .n (.s (.j ⟨[(0,.ptr 1 0),(2,.ptr 1000002 0)],(z1m++h5++(h59 17 18 19 20 21 22 24 25 26 27 28 29 30 31 32 33 34 35 36)),k64,k65⟩ bg .n) .n))))))))) Tryz.func128 rfl zOk ⟨zh0,vy,zo8,ya,yU,zvr,qM,(qK KK),(HV KK),QH,trivial⟩ ⟨zsy,zyz,xP,vW,zD5,KV,(zab KK),zeg,trivial⟩ λx=>aj
def zah:CtP TS PC:=⟨[.ptr 1 0,.om 13],(vt++h5),k30,λx=>JI (xE x)⟩
def zk7:HBp 191 zah:=ctp (T:=[(190,zR),(41,zx),(42,zS),(207,yC)]) (TP:=[(41,z6),(207,wz)]) (h:=.n) Tryz.func191 rfl A5 ⟨zM,zr,zK,yp,trivial⟩ ⟨zY,wq,trivial⟩ λx=>aj
def zh9:CtP TS PC:=⟨[.ptr 1 0,.ci .i64 4],(vt++h5),k30,λx=>KQ (xE x)⟩
def zsz:HBp 125 zh9:=zVj (cd:=cdO) (nb:=nbT) (T:=[(191,Vy)]) (TP:=[(191,zah)]) (h:=.s .n (.s (.j ⟨[(0,.ptr 1 0),(1,dI 16)],zXr,k37,[mBQ]⟩ bd .n) .n)) Tryz.func125 rfl Ke ⟨Z7,trivial⟩ ⟨zk7,trivial⟩ λx=>aj
def zai:CtP TS PC:=⟨[.ptr 1 0,.om 14],(vt++h5),k30,λx=>JJ (xE x)⟩
def zk8:HBp 191 zai:=ctp (T:=[(190,zR),(41,zx),(42,zS),(207,yC)]) (TP:=[(41,z6),(207,wz)]) (h:=.n) Tryz.func191 rfl A5 ⟨zM,zr,zK,yp,trivial⟩ ⟨zY,wq,trivial⟩ λx=>aj
def zia:CtP TS PC:=⟨[.ptr 1 0,.ci .i64 5],(vt++h5),k30,λx=>WW (xE x)⟩
def zs0:HBp 125 zia:=zVj (cd:=cdO) (nb:=nbT) (T:=[(191,Vz)]) (TP:=[(191,zai)]) (h:=.s .n (.s (.j ⟨[(0,.ptr 1 0),(1,dI 16)],zXs,k37,[mBQ]⟩ bd .n) .n)) Tryz.func125 rfl Ke ⟨Z9,trivial⟩ ⟨zk8,trivial⟩ λx=>aj
def zib:CtP TS PC:=⟨[.ptr 1 0],vt,k30,λx=>HM (xE x)⟩
def zs1:HBp 198 zib:=ctp (T:=[(130,ye)]) (TP:=[(130,xL)]) (h:=.n) Tryz.func198 rfl zOl ⟨ya,trivial⟩ ⟨xP,trivial⟩ λx=>aj
def zpg:CtP TS PC:=⟨[.ptr 1 0],(vt++h5),k30,λx=>WX (xE x)⟩
def zy1:HBp 131 zpg:=ctp (T:=[(125,zee),(198,zef),(133,xl),(130,ye),(193,yI),(41,zx)]) (TP:=[(125,zia),(198,zib),(133,vV),(130,xL),(41,z6)]) (h:=.s .n (.s .n (.s .n (.s .n (.s .n (.s (.s (.lr ⟨[(0,.ptr 1 0),(2,.ptr 1000002 0)],z1n,k69,[i6,l9Q]⟩ [(0,.ptr 1 0),(2,.ptr 1000002 0)] z1n [i6,l9Q] 0 (λx K v=>Ar (BB.mk x.1 0 x.2.2.2.1 x.2.2.2.2.1 (p5Q x).1 (p6Q x).1 (p7Q x).1 (p8Q x).1 (p9Q x).1 x.2.1 (zmj x).1 (zmk x).1 (zml x).1 (zqz x).1 (zq0 x).1 [] x.2.2.1) (zvf x).1 (zN2 x).1 (zN3 x).1 (zVf x).1 (zVg x).1 (z1k x) K v) .n) .n) .n)))))) Tryz.func131 rfl zOm ⟨zh2,zh3,yU,ya,yJ,zr,trivial⟩ ⟨zs0,zs1,vW,xP,zY,trivial⟩ λx=>aj
def zvv:CtP TS PC:=⟨[.ptr 1 0],vt,k30,λx=>zdm (xE x)⟩
def zD6:HBp 132 zvv:=ctp (T:=[(124,ub),(41,zx),(193,yI),(192,HZ),(130,ye),(194,vU),(133,xl)]) (TP:=[(41,z6),(192,VB),(130,xL),(133,vV)]) (h:=.s (.s .n (.s (.lr ⟨[(0,.ptr 1 0),(2,.d .b 17)],zKh,k70,[i6,l9Q,.b]⟩ [(0,.ptr 1 0)] zKh [i6,l9Q] 0 (λx K v=>oM (BB.mk x.1 0 x.2.2.2.1 x.2.2.2.2.1 (p5Q x).1 (p6Q x).1 (p7Q x).1 (p8Q x).1 [] x.2.1 (p9Q x).1 (zmj x).1 (zmk x).1 (zml x).1 (zqz x).1 (zq0 x) x.2.2.1) K v) (.s .n (.s (.s (.s (.j ⟨[(0,.ptr 1 0)],zmm,k71,[]⟩ bg .n) .n) .n) .n))) .n)) .n) Tryz.func132 rfl zOn ⟨qa,zr,yJ,JS,ya,vy,yU,trivial⟩ ⟨zY,zae,xP,vW,trivial⟩ λx=>aj
def zej:CtP TS PC:=⟨[.ptr 1 0],(vt++h5),k30,λx=>zkt (xE x)⟩
set_option maxHeartbeats 4000000 in
theorem zy2:HBp 36 zej:=ctp (T:=[(42,zS),(121,zky),(122,Zi),(123,zd3),(124,ub),(125,zd4),(126,Zj),(94,zbs),(127,Vt),(128,zk1),(125,zed),(129,qL),(130,ye),(131,zk2),(41,zx),(132,zst),(133,xl)]) (TP:=[(121,zpb),(122,zeh),(123,zh6),(125,zh7),(126,zei),(127,zbv),(128,zpf),(125,zh9),(129,JU),(130,xL),(131,zpg),(41,z6),(132,zvv),(133,vV),(134,VA)]) (h:=.s (.lr ⟨[(0,.ptr 1 0)],z1o,[jY],k74⟩ [] z1o k74 0 (λx K v=>yo (BB.mk x 0 [] [] [] [] [] [] [] 0 [] [] [] [] [] [] bd) K v) .n) .n) Tryz.func36 rfl zYj ⟨zK,zo4,zd1,zhw,qa,zhx,zd5,zd8,QH,zo9,zh1,qM,ya,zpa,zr,zvs,yU,trivial⟩ ⟨zyy,zpc,zsw,zsx,zpd,zeg,zy0,zsz,KV,xP,zy1,zY,zD6,vW,zaa,trivial⟩ λx=>(by  kernel_rfl)
def zaj:Ct TS:=⟨[.ptr 1 0,.fn 36 [.ptr 1 0] []],(vt++h5),k30,.tup [dI 17,dI 18],((h72 19 20 7001001 7001002 7001003 7001004 7001005 7001006 21 22 23 24 25 26 27 28)++h5++(h73 7001001 29 7001002 30 7001003 31 7001004 32 7001005 33 7001006 34)),[i6,i6,i6,i6,.b,l1Q,l3Q,l5Q,l7Q,l8Q,wj,l9Q,mBQ,mBQ,mBQ,mBQ,mBQ,mBQ],bg,λx=>KR (xE x)⟩
def zk9:zaj.OK PGq 35:=λx r h=>by
 obtain⟨q,h1,h2⟩:=bind_some h;cases h2;exact kmp aj (zof (F:=hV (oC QI.hin (yY (S:=TS) QI.ci x))) (F':=hV (oC QI.hout (yY (S:=TS) QI.ci x++yY (S:=TS) QI.co q))) (a:=.ptr 1 0 0) (pv:=.ptr 1 0 0) (kmp aj (zD3.2 x q h1)))
def W4:Ct TS:=⟨[.ptr 1 0,.fn 36 [.ptr 1 0] []],(vt++h5),k30,.tup [dI 17,dI 18],([(1,.rw 0),(2,.rw 0),(3,.rw 0),(4,.rw 0),(5,.rw 0),(6,.rw 0),(7,.rw 0),(8,.rw 0),(9,.rw 0),(10,.rw 0),(11,.rw 0),(12,.rw 0),(13,.rw 0),(14,.rw 0)]++h5),[i6,i6],bg,λx=>JK (xE x)⟩
def zgg:W4.OK PGq 35:=λx r h=>kmp aj (zko (F:=hV (oC zej.hin (yY (S:=TS) zej.ci x))) (a:=.ptr 1 0 0) (pv:=.ptr 1 0 0) (x:=r.1) (y:=r.2) (kmp aj (zy2.2 x r h)))
def zs2:Ct TS:=⟨[.d .s 0],h5,[.s],.tup [.ag [.row 6 7000002,.row 3 7000003,.row 3 7000004,.row 20 7000005,.row 4 7000006,.row 6 7000007,.d l9Q 3,dI 4],dI 1,dI 2],(h75 7000001 7000002 7000003 7000004 7000005 7000006 7000007 3 4 5 6 7 8 9 10),k76,bd,λx=>As x⟩
def zvw:HBc 10 zs2:=ctg (cd:=cdT) (nb:=zav) (rc:=[(2,7000001,0)]) (T:=[(21,zsl),(35,zaj),(35,W4)]) (h:=.n) Tryz.func10 rfl hbv10 ⟨zvl,⟨zKm,zk9⟩,⟨zKm,zgg⟩,trivial⟩ λx=>aj
def zph:Ct TS:=⟨[.d (.st 1) 0],[],[.st 1],.d .s 1,[],[.s],bd,λx=>zoh x⟩
def zy3:HBc 80 zph:=ctk (T:=[]) (h:=.n) Tryz.func80 rfl hbv80 trivial λx=>aj
def JV:Ct TS:=⟨[.d lsQ 0,.d .b 1],h5,[lsQ,.b],.d .b 2,h5,[.b],bd,u2Q qC⟩
def A7:HBc 179 JV:=ctk (T:=[(16,zhs)]) (h:=.s .n (.s .n (.s (.s .n (.s (.lr ⟨[(1,.d .b 0),(5,.mp 1000008),(9,.d lsQ 1),(10,dI 2),(11,dI 3)],[(900000000,.rw 1),(900000001,.rw 2),(900000002,.rw 3),(900000003,.rw 4),(1000008,.map .s .b 4)],[.b,lsQ,i6],[i6,.m .s .b]⟩ [] h5 [] 0 (u3Q oN) (.s .n (.s .n (.s (.s (.s .n (.s (.s (.j ⟨[(1,.d .b 0),(5,.mp 1000008),(7,.d .s 1),(9,.d lsQ 2),(10,dI 3),(11,dI 4),(25,.d .b 6)],[(900000000,.rw 1),(900000001,.rw 2),(900000002,.rw 3),(900000003,.rw 4),(1000008,.map .s .b 5)],[.b,.s,lsQ,i6,i6,.m .s .b],[.b]⟩ bd .n) .n) .n)) .n) .n)))) .n)) .n))) Tryz.func179 rfl zYk ⟨zds,trivial⟩ λx=>aj
def zvx:Ct TS:=⟨[.d l1Q 0,dI 1,.fn 80 [] []],h5,[l1Q,i6],.d .b 2,h5,[.b],bd,u2Q zbk⟩
def zD7:HBc 79 zvx:=ctk (T:=[(80,zph),(179,JV)]) (h:=.s .n (.s .n (.s (.s .n (.s (.l ⟨[(0,.d l1Q 0),(1,dI 1),(2,.fn 80 [] []),(7,.row 1 7000001),(10,.d l1Q 0),(11,dI 2),(12,dI 3)],(h77 4),[l1Q,i6,i6],[i6,lsQ]⟩ [(0,.d l1Q 0),(1,dI 1),(7,.row 1 7000001)] (h77 3) [lsQ] 0 (u3Q JL) .n) .n)) .n))) Tryz.func79 rfl hbv79 ⟨zy3,A7,trivial⟩ λx=>aj
def zpi:Ct TS:=⟨[.d (.st 3) 0],[],[.st 3],.d .s 1,[],[.s],bd,λx=>zoi x⟩
def zy4:HBc 82 zpi:=ctk (T:=[]) (h:=.n) Tryz.func82 rfl hbv82 trivial λx=>aj
def zic:Ct TS:=⟨[.d l3Q 0,dI 1,.fn 82 [] []],h5,[l3Q,i6],.d .b 2,h5,[.b],bd,u2Q Qz⟩
def zs3:HBc 81 zic:=ctk (T:=[(82,zpi),(179,JV)]) (h:=.s .n (.s .n (.s (.s .n (.s (.l ⟨[(0,.d l3Q 0),(1,dI 1),(2,.fn 82 [] []),(7,.row 1 7000001),(10,.d l3Q 0),(11,dI 2),(12,dI 3)],(h77 4),[l3Q,i6,i6],[i6,lsQ]⟩ [(0,.d l3Q 0),(1,dI 1),(7,.row 1 7000001)] (h77 3) [lsQ] 0 (u3Q u7) .n) .n)) .n))) Tryz.func81 rfl hbv81 ⟨zy4,A7,trivial⟩ λx=>aj
def zpj:Ct TS:=⟨[.d (.st 5) 0],[],[.st 5],.d .s 1,[],[.s],bd,λx=>zoj x⟩
def zy5:HBc 84 zpj:=ctk (T:=[]) (h:=.n) Tryz.func84 rfl hbv84 trivial λx=>aj
def zid:Ct TS:=⟨[.d l5Q 0,dI 1,.fn 84 [] []],h5,[l5Q,i6],.d .b 2,h5,[.b],bd,u2Q QA⟩
def zs4:HBc 83 zid:=ctk (T:=[(84,zpj),(179,JV)]) (h:=.s .n (.s .n (.s (.s .n (.s (.l ⟨[(0,.d l5Q 0),(1,dI 1),(2,.fn 84 [] []),(7,.row 1 7000001),(10,.d l5Q 0),(11,dI 2),(12,dI 3)],(h77 4),[l5Q,i6,i6],[i6,lsQ]⟩ [(0,.d l5Q 0),(1,dI 1),(7,.row 1 7000001)] (h77 3) [lsQ] 0 (u3Q u9) .n) .n)) .n))) Tryz.func83 rfl hbv83 ⟨zy5,A7,trivial⟩ λx=>aj
def zpk:Ct TS:=⟨[.d (.st 7) 0],[],[.st 7],.d .s 1,[],[.s],bd,λx=>zok x⟩
def zy6:HBc 86 zpk:=ctk (T:=[]) (h:=.n) Tryz.func86 rfl hbv86 trivial λx=>aj
def zie:Ct TS:=⟨[.d l7Q 0,dI 1,.fn 86 [] []],h5,[l7Q,i6],.d .b 2,h5,[.b],bd,u2Q QB⟩
def zs5:HBc 85 zie:=ctk (T:=[(86,zpk),(179,JV)]) (h:=.s .n (.s .n (.s (.s .n (.s (.l ⟨[(0,.d l7Q 0),(1,dI 1),(2,.fn 86 [] []),(7,.row 1 7000001),(10,.d l7Q 0),(11,dI 2),(12,dI 3)],(h77 4),[l7Q,i6,i6],[i6,lsQ]⟩ [(0,.d l7Q 0),(1,dI 1),(7,.row 1 7000001)] (h77 3) [lsQ] 0 (u3Q oa) .n) .n)) .n))) Tryz.func85 rfl hbv85 ⟨zy6,A7,trivial⟩ λx=>aj
def zpl:Ct TS:=⟨[.d (.st 8) 0],[],[.st 8],.d .s 1,[],[.s],bd,λx=>zol x⟩
def zy7:HBc 88 zpl:=ctk (T:=[]) (h:=.n) Tryz.func88 rfl hbv88 trivial λx=>aj
def zif:Ct TS:=⟨[.d l8Q 0,dI 1,.fn 88 [] []],h5,[l8Q,i6],.d .b 2,h5,[.b],bd,u2Q QC⟩
def zs6:HBc 87 zif:=ctk (T:=[(88,zpl),(179,JV)]) (h:=.s .n (.s .n (.s (.s .n (.s (.l ⟨[(0,.d l8Q 0),(1,dI 1),(2,.fn 88 [] []),(7,.row 1 7000001),(10,.d l8Q 0),(11,dI 2),(12,dI 3)],(h77 4),[l8Q,i6,i6],[i6,lsQ]⟩ [(0,.d l8Q 0),(1,dI 1),(7,.row 1 7000001)] (h77 3) [lsQ] 0 (u3Q oc) .n) .n)) .n))) Tryz.func87 rfl hbv87 ⟨zy7,A7,trivial⟩ λx=>aj
def zpm:Ct TS:=⟨[.d (.st 10) 0],[],[.st 10],.d .s 1,[],[.s],bd,λx=>zom x⟩
def zy8:HBc 90 zpm:=ctk (T:=[]) (h:=.n) Tryz.func90 rfl hbv90 trivial λx=>aj
def zig:Ct TS:=⟨[.d wj 0,dI 1,.fn 90 [] []],h5,[wj,i6],.d .b 2,h5,[.b],bd,u2Q QD⟩
def zs7:HBc 89 zig:=ctk (T:=[(90,zpm),(179,JV)]) (h:=.s .n (.s .n (.s (.s .n (.s (.l ⟨[(0,.d wj 0),(1,dI 1),(2,.fn 90 [] []),(7,.row 1 7000001),(10,.d wj 0),(11,dI 2),(12,dI 3)],(h77 4),[wj,i6,i6],[i6,lsQ]⟩ [(0,.d wj 0),(1,dI 1),(7,.row 1 7000001)] (h77 3) [lsQ] 0 (u3Q od) .n) .n)) .n))) Tryz.func89 rfl hbv89 ⟨zy8,A7,trivial⟩ λx=>aj
def zpn:Ct TS:=⟨[.d (.st 2) 0],[],[.st 2],.d .s 1,[],[.s],bd,λx=>zon x⟩
def zy9:HBc 92 zpn:=ctk (T:=[]) (h:=.n) Tryz.func92 rfl hbv92 trivial λx=>aj
def zih:Ct TS:=⟨[.d l2Q 0,dI 1,.fn 92 [] []],h5,[l2Q,i6],.d .b 2,h5,[.b],bd,u2Q QE⟩
def zs8:HBc 91 zih:=ctk (T:=[(92,zpn),(179,JV)]) (h:=.s .n (.s .n (.s (.s .n (.s (.l ⟨[(0,.d l2Q 0),(1,dI 1),(2,.fn 92 [] []),(7,.row 1 7000001),(10,.d l2Q 0),(11,dI 2),(12,dI 3)],(h77 4),[l2Q,i6,i6],[i6,lsQ]⟩ [(0,.d l2Q 0),(1,dI 1),(7,.row 1 7000001)] (h77 3) [lsQ] 0 (u3Q oe) .n) .n)) .n))) Tryz.func91 rfl hbv91 ⟨zy9,A7,trivial⟩ λx=>aj
def zla:Ct TS:=⟨[dI 0,dI 1,.d (.l i6) 2],[],[i6,i6,.l i6],.d .b 3,[],[.b],bd,u3Q yg⟩
def zpo:HBc 93 zla:=ctk (T:=[]) (h:=.s .n (.s (.s .n (.s (.lr ⟨[(0,dI 0),(1,dI 1),(9,.d (.l i6) 2),(10,dI 3),(11,dI 4)],[],[i6,i6,.l i6,i6],[i6]⟩ [] [] [] 0 (u4Q Au) (.s .n (.s .n (.s (.s (.s .n (.s (.j ⟨[(0,dI 0),(1,dI 1),(9,.d (.l i6) 2),(10,dI 3),(11,dI 4),(22,.d .b 5)],[],[i6,i6,.l i6,i6,i6],[.b]⟩ bd .n) .n)) .n) .n)))) .n)) .n)) Tryz.func93 rfl hbv93 trivial λx=>aj
def Q4:Ct TS:=⟨[.d lsQ 0,.d lsQ 1],[],[lsQ,lsQ],.d .b 2,[],[.b],bd,u2Q jO⟩
def zek:HBc 188 Q4:=ctk (T:=[]) (h:=.s .n (.s .n (.s (.s .n (.s (.lr ⟨[(0,.d lsQ 0),(1,.d lsQ 1),(12,dI 2),(13,dI 3)],[],[lsQ,lsQ,i6],[i6]⟩ [] [] [] 0 (u3Q qD) .n) .n)) .n))) Tryz.func188 rfl zYl trivial λx=>aj
def qc(RK:Nat):Ct TS:=⟨[.d l0Q 0,.d l0Q 1,.fn 104 [] []],[],[l0Q,l0Q],.d .b 2,[],[.b],bd,λx=>vI RK x.1 x.2⟩
def oU(RK:Nat):Ct TS:=⟨[.d (.st 0) 0,.d (.st 0) 1],[],[.st 0,.st 0],.d .b 2,[],[.b],bd,λx=>jj RK x.1 x.2⟩
def jI:∀RK,(qc RK).OK PGq 187/\(oU RK).OK PGq 104
 |0=>⟨(λx r h=>nomatch (show(bh:Option _)=bc r from h)),(λx r h=>nomatch (show(bh:Option _)=bc r from h))⟩
 |RK+1=>⟨(ctk (c:=qc (RK+1)) (T:=[(104,oU RK)]) (h:=.s .n (.s .n (.s (.s .n (.s (.lr ⟨[(1,.d l0Q 0),(2,.fn 104 [] []),(15,.d l0Q 1),(16,dI 2),(17,dI 3)],[],[l0Q,l0Q,i6],[i6]⟩ [] [] [] 0 (λx K v=>vQ (jj RK) x.1 x.2.1 x.2.2 K v) .n) .n)) .n))) Tryz.func187 rfl zOo ⟨⟨zDv,(jI RK).2⟩,trivial⟩ λx=>aj).2,(ctk (c:=oU (RK+1)) (T:=[(187,qc RK)]) (h:=.n) Tryz.func104 rfl zDv ⟨⟨zOo,(jI RK).1⟩,trivial⟩ λx=>aj).2⟩
def zel(RK:Nat):ze PGq 104/\(oU RK).OK PGq 104:=⟨zDv,(jI RK).2⟩
def Zm:Ct TS:=⟨[.d (.st 7) 0,.d (.st 7) 1],[],[.st 7,.st 7],.d .b 2,[],[.b],bd,u2Q qE⟩
def zem:HBc 115 Zm:=ctk (T:=[(188,Q4),(104,oU KK)]) (h:=.s .n (.s (.s (.j ⟨[(2,.ptr 1000002 0),(3,.ptr 1000003 0),(27,.d .b 40)],zXt,k79,[.b]⟩ bd .n) .n) (.s (.j ⟨[(2,.ptr 1000002 0),(3,.ptr 1000003 0),(5,.d .b 40)],zXt,k79,[.b]⟩ bd .n) .n))) Tryz.func115 rfl zYm ⟨zek,(zel KK),trivial⟩ λx=>aj
def zen:Ct TS:=⟨[.d (.st 7) 0],h5,[.st 7],.d .b 1,h5,[.b],bd,λx=>Av x⟩
def zpp:HBc 95 zen:=ctk (T:=[(179,JV),(93,zla),(20,JR),(115,Zm)]) (h:=.s .n (.s (.s (.j ⟨[(1,.ptr 1000001 0),(37,.d .b 20)],[(900000000,.rw 1),(900000001,.rw 2),(900000002,.rw 3),(900000003,.rw 4),(1000001,.box 94 [.d .s 0,.d lsQ 1,.d lsQ 2,dI 3,dI 4,dI 5,.d .b 6,dI 7,dI 8,dI 9,.d .s 10,.d .s 11,.d l0Q 12,dI 13,dI 14,dI 15,dI 16,dI 17,dI 18,dI 19])],k80,[.b]⟩ bd .n) .n) (.s .n (.s .n (.s (.j ⟨[(1,.ptr 1000001 0),(3,.ptr 1000003 0),(4,.d .b 20)],[(900000000,.rw 1),(900000001,.rw 2),(900000002,.rw 3),(900000003,.rw 4),(1000001,.box 94 [.d .s 0,.d lsQ 1,.d lsQ 2,dI 3,dI 4,dI 5,.d .b 6,dI 7,dI 8,dI 9,.d .s 10,.d .s 11,.d l0Q 12,dI 13,dI 14,dI 15,dI 16,dI 17,dI 18,dI 19]),(1000003,.box 94 [.d .s 0,.d lsQ 1,.d lsQ 2,dI 3,dI 4,dI 5,.d .b 6,dI 7,dI 21,dI 22,.d .s 23,.d .s 24,.d l0Q 25,dI 26,dI 27,dI 28,dI 29,dI 30,dI 31,dI 32])],k80,[.b,i6,i6,.s,.s,l0Q,i6,i6,i6,i6,i6,i6,i6]⟩ bd .n) .n))))) Tryz.func95 rfl hbv95 ⟨A7,zpo,KU,zem,trivial⟩ λx=>aj
def zs9:Ct TS:=⟨[.d (.st 14) 0],h5,[.st 14],.d .b 1,h5,[.b],bd,λx=>Ze x⟩
def zvy:HBc 28 zs9:=ctk (T:=[(79,zvx),(81,zic),(83,zid),(85,zie),(87,zif),(89,zig),(20,JR),(91,zih),(93,zla),(94,zbs),(95,zen)]) (h:=.s .n (.s (.s (.j ⟨[(1,.ptr 1000001 0),(54,.d .b 8)],(h81 1000001 0 1 2 3 4 5 6 7),k4,[.b]⟩ bd .n) .n) (.s (.s .n (.s (.lr ⟨[(1,.ptr 1000001 0),(56,.d l1Q 0),(57,dI 1),(58,dI 9)],(h81 1000001 0 2 3 4 5 6 7 8),k82,[i6]⟩ [(1,.ptr 1000001 0)] (h81 1000001 0 2 3 4 5 6 7 8) [] 0 (u9Q oO) .n) .n)) (.s (.s .n (.s (.lr ⟨[(1,.ptr 1000001 0),(68,.d l3Q 0),(69,dI 1),(70,dI 9)],(h81 1000001 2 0 3 4 5 6 7 8),k83,[i6]⟩ [(1,.ptr 1000001 0)] (h81 1000001 2 0 3 4 5 6 7 8) [] 2 (u9Q qF) (.s .n (.s .n (.s (.s (.s .n (.s (.s (.j ⟨[(1,.ptr 1000001 0),(6,.ptr 1000006 0),(68,.d l3Q 0),(69,dI 1),(70,dI 2),(84,.d .b 13)],[(900000000,.rw 1),(900000001,.rw 2),(900000002,.rw 3),(900000003,.rw 4),(1000001,.box 31 [.d l1Q 3,.d l3Q 0,.d l5Q 4,.d l7Q 5,.d l8Q 6,.d wj 7,.d l9Q 8,dI 9]),(1000006,.box 87 [.d .s 10,.d l2Q 11,dI 12])],[l3Q,i6,i6,l1Q,l5Q,l7Q,l8Q,wj,l9Q,i6,.s,l2Q,i6],[.b]⟩ bd .n) .n) (.s .n (.s (.lr ⟨[(1,.ptr 1000001 0),(68,.d l3Q 0),(69,dI 1),(70,dI 2),(86,.d l2Q 3),(87,dI 4),(88,dI 12)],(h81 1000001 5 0 6 7 8 9 10 11),[l3Q,i6,i6,l2Q,i6,l1Q,l5Q,l7Q,l8Q,wj,l9Q,i6],[i6]⟩ [(1,.ptr 1000001 0),(68,.d l3Q 0),(69,dI 1),(70,dI 2)] (h81 1000001 5 0 6 7 8 9 10 11) [] 4 (z1i HN) .n) .n)))) .n) .n)))) .n)) (.s (.s .n (.s (.lr ⟨[(1,.ptr 1000001 0),(100,.d l5Q 0),(101,dI 1),(102,dI 9)],(h81 1000001 2 3 0 4 5 6 7 8),k84,[i6]⟩ [(1,.ptr 1000001 0)] (h81 1000001 2 3 0 4 5 6 7 8) [] 6 (u9Q oP) .n) .n)) (.s (.s .n (.s (.lr ⟨[(1,.ptr 1000001 0),(112,.d l7Q 0),(113,dI 1),(114,dI 9)],(h81 1000001 2 3 4 0 5 6 7 8),k85,[i6]⟩ [(1,.ptr 1000001 0)] (h81 1000001 2 3 4 0 5 6 7 8) [] 8 (u9Q oQ) .n) .n)) (.s (.s .n (.s (.lr ⟨[(1,.ptr 1000001 0),(123,.d l8Q 0),(124,dI 1),(125,dI 9)],(h81 1000001 2 3 4 5 0 6 7 8),k86,[i6]⟩ [(1,.ptr 1000001 0)] (h81 1000001 2 3 4 5 0 6 7 8) [] 10 (u9Q oR) (.s .n (.s .n (.s (.s (.s .n (.s (.j ⟨[(1,.ptr 1000001 0),(123,.d l8Q 0),(124,dI 1),(125,dI 2),(146,.d .b 10)],(h81 1000001 3 4 5 6 0 7 8 9),[l8Q,i6,i6,l1Q,l3Q,l5Q,l7Q,wj,l9Q,i6],[.b]⟩ bd .n) .n)) .n) .n)))) .n)) (.s (.s .n (.s (.lr ⟨[(1,.ptr 1000001 0),(149,.d wj 0),(150,dI 1),(151,dI 9)],(h81 1000001 2 3 4 5 6 0 7 8),k87,[i6]⟩ [(1,.ptr 1000001 0)] (h81 1000001 2 3 4 5 6 0 7 8) [] 12 (u9Q qG) (.s .n (.s .n (.s (.s (.s .n (.s (.s (.j ⟨[(1,.ptr 1000001 0),(16,.ptr 1000016 0),(149,.d wj 0),(150,dI 1),(151,dI 2),(167,.d .b 16)],[(900000000,.rw 1),(900000001,.rw 2),(900000002,.rw 3),(900000003,.rw 4),(1000001,.box 31 [.d l1Q 3,.d l3Q 4,.d l5Q 5,.d l7Q 6,.d l8Q 7,.d wj 0,.d l9Q 8,dI 9]),(1000016,.box 100 [.d .s 10,dI 11,dI 12,dI 13,dI 14,.d l9Q 15])],[wj,i6,i6,l1Q,l3Q,l5Q,l7Q,l8Q,l9Q,i6,.s,i6,i6,i6,i6,l9Q],[.b]⟩ bd .n) .n) (.s .n (.s (.lr ⟨[(1,.ptr 1000001 0),(149,.d wj 0),(150,dI 1),(151,dI 2),(173,.row 3 1000170),(174,dI 3),(175,dI 12)],(h88 4 5 6 7 8 9 10 11),[wj,i6,i6,i6,l1Q,l3Q,l5Q,l7Q,l8Q,l9Q,i6,l9Q],[i6]⟩ [(1,.ptr 1000001 0),(149,.d wj 0),(150,dI 1),(151,dI 2)] (h81 1000001 4 5 6 7 8 0 9 10) [] 14 (z1i HO) (.s .n (.s .n (.s (.s (.s .n (.s (.j ⟨[(1,.ptr 1000001 0),(149,.d wj 0),(150,dI 1),(151,dI 2),(173,.row 3 1000170),(174,dI 3),(175,dI 4),(192,.d .b 13)],(h88 5 6 7 8 9 10 11 12),[wj,i6,i6,i6,i6,l1Q,l3Q,l5Q,l7Q,l8Q,l9Q,i6,l9Q],[.b]⟩ bd .n) .n)) .n) .n)))) .n)))) .n) .n)))) .n)) (.s (.s .n (.s (.lr ⟨[(1,.ptr 1000001 0),(196,.d l9Q 0),(197,dI 1),(198,dI 9)],(h81 1000001 2 3 4 5 6 7 0 8),k89,[i6]⟩ [(1,.ptr 1000001 0)] (h81 1000001 2 3 4 5 6 7 0 8) [] 16 (u9Q oS) (.s .n (.s .n (.s (.s (.s .n (.s (.j ⟨[(1,.ptr 1000001 0),(196,.d l9Q 0),(197,dI 1),(198,dI 2),(215,.d .b 10)],(h81 1000001 3 4 5 6 7 8 0 9),[l9Q,i6,i6,l1Q,l3Q,l5Q,l7Q,l8Q,wj,i6],[.b]⟩ bd .n) .n)) .n) .n)))) .n)) .n))))))))) Tryz.func28 rfl hbv28 ⟨zD7,zs3,zs4,zs5,zs6,zs7,KU,zs8,zpo,zd8,zpp,trivial⟩ λx=>aj
def Zn:Ct TS:=⟨[.ptr 1 0],[(1,.gn 1 .s 0)],[.s],.d .s 1,[(1,.gn 1 .s 0)],[.s],bd,λx=>HP x⟩
def zeo:Zn.OK PGq 60:=λx r h=>by
 cases h;exact kmp aj (YZ (T:=123) 1 x)
def zlb:Ct TS:=⟨[.ptr 1 0,.d (.i .u8) 1],[(1,.gn 1 .s 0)],[.s,.i .u8],.nili,[(1,.gn 1 .s 2)],[.s],bd,u2Q JM⟩
def zpq:zlb.OK PGq 168:=λx r h=>kmp aj (zXj zq1 x.1 x.2 r h)
def zD8:Ct TS:=⟨[.ptr 1 0,.d .s 1],[(1,.gn 1 .s 0)],[.s,.s],.tup [dI 2,.nili],[(1,.gn 1 .s 3)],[i6,.s],bd,u2Q Aw⟩
def zKp:zD8.OK PGq 162:=λx r h=>by
 obtain⟨_,h1,h2⟩:=bind_some h;cases h2;exact kmp aj (zsb zq1 1 x.1 x.2 (xv h1))
def Zo:Ct TS:=⟨[.ptr 1 0,.d (.l (.a 3 9)) 1],(h26 1 0),[.s,.l (.a 3 9)],.tup [],(h26 1 2),[.s],bd,u2Q yB⟩
def W5:HBc 67 Zo:=ctk (T:=[(60,Zn),(168,zlb),(162,zD8),(163,zDz)]) (h:=.s .n (.s (.l ⟨[(0,.ptr 1 0),(9,.d (.l (.a 3 9)) 0),(10,dI 1),(11,dI 3)],(h26 1 2),[.l (.a 3 9),i6],[.s,i6]⟩ [] (h26 1 2) [.s] 0 (u2Q oT) (.s .n (.s .n (.s (.j ⟨[(0,.ptr 1 0),(9,.d (.l (.a 3 9)) 0),(10,dI 1),(11,dI 2)],(h26 1 3),[.l (.a 3 9),i6,i6],[.s]⟩ bd (.s (.s .n (.s (.j ⟨[(0,.ptr 1 0),(5,.d (.a 3 9) 0),(9,.d (.l (.a 3 9)) 1),(10,dI 2),(11,dI 3)],(h26 1 4),[.a 3 9,.l (.a 3 9),i6,i6],[.s]⟩ bd (.s .n (.s (.j ⟨[(0,.ptr 1 0),(5,.d (.a 3 9) 1),(9,.d (.l (.a 3 9)) 2),(10,dI 3),(11,dI 4),(28,.d .b 5)],(h26 1 0),[.s,.a 3 9,.l (.a 3 9),i6,i6],[.b]⟩ bd .n) .n))) (.s .n (.s (.s .n (.s .n (.s .n (.s (.s .n (.s (.j ⟨[(0,.ptr 1 0),(8,dI 4),(9,.d (.l (.a 3 9)) 0),(10,dI 1),(11,dI 2)],(h26 1 3),[.l (.a 3 9),i6,i6],[.s,i6]⟩ bd .n) .n)) .n)))) .n)))) .n)) .n)))) .n)) Tryz.func67 rfl hbv67 ⟨⟨zyq,zeo⟩,⟨zOp,zpq⟩,⟨zva,zKp⟩,⟨zOa,zD0⟩,trivial⟩ λx=>aj
def zep:Ct TS:=⟨[.ptr 1 0],(h26 1 0),[.s],.tup [],(h26 1 1),[.s],bd,λx=>qH x⟩
def zbw:HBc 69 zep:=ctk (T:=[(67,Zo),(168,zlb)]) (h:=.n) Tryz.func69 rfl hbv69 ⟨W5,⟨zOp,zpq⟩,trivial⟩ λx=>aj
def zlc:Ct TS:=⟨[.ptr 1 0,.d (.st 0) 1],(h26 1 0),[.s,.st 0],.tup [],(h26 1 2),[.s],bd,u2Q QF⟩
def zpr:HBc 68 zlc:=ctk (T:=[(58,zdy KK),(60,oF),(67,Zo),(69,zep)]) (h:=.n) Tryz.func68 rfl hbv68 ⟨(zvo KK),⟨zyq,Jt⟩,W5,zbw,trivial⟩ λx=>aj
def zii:Ct TS:=⟨[.ptr 1 0,.d l4Q 1],(h26 1 0),[.s,l4Q],.tup [],(h26 1 2),[.s],bd,u2Q HQ⟩
def zta:HBc 70 zii:=ctk (T:=[(67,Zo),(69,zep)]) (h:=.s (.s .n (.s (.l ⟨[(0,.ptr 1 0),(6,.d l4Q 0),(7,dI 1),(8,dI 3)],(h26 1 2),[l4Q,i6],[.s,i6]⟩ [(0,.ptr 1 0)] (h26 1 2) [.s] 0 (u2Q wo) .n) .n)) .n) Tryz.func70 rfl hbv70 ⟨W5,zbw,trivial⟩ λx=>aj
def zOq:Ct TS:=⟨[.d lsQ 0,.d .s 1],[],[lsQ,.s],.d .s 2,[],[.s],bd,u2Q zoo⟩
def zS3:zOq.OK PGq 65:=λx r h=>kmp aj (J.zXb x.1 x.2 r h)
def zvz:Ct TS:=⟨[.ptr 1 0,.d (.st 7) 1],(h26 1 0),[.s,.st 7],.tup [],(h26 1 2),[.s],bd,u2Q zbl⟩
def zD9:HBc 71 zvz:=ctk (T:=[(67,Zo),(65,zOq),(72,zbt),(68,zlc),(69,zep)]) (h:=.s .n (.s .n (.s (.s .n (.s (.l ⟨[(0,.ptr 1 0),(3,.ptr 1000003 0),(22,.row 1 1000022),(23,dI 0),(24,dI 23)],(h90 22 1 2 3 4 5 6 7 8 9 10 11 12 13 14 15 16 17 18 19 20 21),[i6,.s,lsQ,lsQ,i6,i6,i6,.b,i6,i6,i6,.s,.s,l0Q,i6,i6,i6,i6,i6,i6,i6,.l lsQ],[.s,i6]⟩ [(0,.ptr 1 0),(3,.ptr 1000003 0)] (h91 22 1 2 3 4 5 6 7 8 9 10 11 12 13 14 15 16 17 18 19 20) [.s] 0 (u22Q j7) (.s .n (.s .n (.s (.j ⟨[(0,.ptr 1 0),(3,.ptr 1000003 0),(22,.row 1 1000022),(23,dI 0),(24,dI 1)],(h90 23 2 3 4 5 6 7 8 9 10 11 12 13 14 15 16 17 18 19 20 21 22),[i6,i6,.s,lsQ,lsQ,i6,i6,i6,.b,i6,i6,i6,.s,.s,l0Q,i6,i6,i6,i6,i6,i6,i6,.l lsQ],[.s]⟩ bd .n) .n)))) .n)) (.s (.s .n (.s (.l ⟨[(0,.ptr 1 0),(3,.ptr 1000003 0),(50,.row 1 1000050),(51,dI 0),(52,dI 23)],(h92 22 1 2 3 4 5 6 7 8 9 10 11 12 13 14 15 16 17 18 19 20 21),[i6,.s,lsQ,lsQ,i6,i6,i6,.b,i6,i6,i6,.s,.s,l0Q,i6,i6,i6,i6,i6,i6,i6,.l i6],[.s,i6]⟩ [(0,.ptr 1 0),(3,.ptr 1000003 0)] (h91 22 1 2 3 4 5 6 7 8 9 10 11 12 13 14 15 16 17 18 19 20) [.s] 2 (u22Q vR) (.s .n (.s .n (.s (.j ⟨[(0,.ptr 1 0),(3,.ptr 1000003 0),(50,.row 1 1000050),(51,dI 0),(52,dI 1)],(h92 23 2 3 4 5 6 7 8 9 10 11 12 13 14 15 16 17 18 19 20 21 22),[i6,i6,.s,lsQ,lsQ,i6,i6,i6,.b,i6,i6,i6,.s,.s,l0Q,i6,i6,i6,i6,i6,i6,i6,.l i6],[.s]⟩ bd .n) .n)))) .n)) (.s (.j ⟨[(0,.ptr 1 0),(3,.ptr 1000003 0)],(h91 20 0 1 2 3 4 5 6 7 8 9 10 11 12 13 14 15 16 17 18 19),k80,[.s]⟩ bd .n) (.s .n (.s .n (.s (.j ⟨[(0,.ptr 1 0)],(h26 1 0),[],[.s]⟩ bg (.s .n (.s (.s .n (.s .n (.s .n (.s .n (.s .n (.s .n (.s .n (.s (.s .n (.s .n (.s (.l ⟨[(0,.ptr 1 0),(3,.ptr 1000003 0),(140,.row 1 103008000),(141,dI 0),(142,dI 23)],(h93 22 1 2 3 4 5 6 7 8 9 10 11 12 13 14 15 16 17 18 19 20 21),[i6,.s,lsQ,lsQ,i6,i6,i6,.b,i6,i6,i6,.s,.s,l0Q,i6,i6,i6,i6,i6,i6,i6,lsQ],[.s,i6]⟩ [(0,.ptr 1 0)] (h26 1 22) [.s] 5 (u22Q wx) (.s .n (.s .n (.s (.j ⟨[(0,.ptr 1 0),(3,.ptr 1000003 0),(140,.row 1 103008000),(141,dI 0),(142,dI 1)],(h93 23 2 3 4 5 6 7 8 9 10 11 12 13 14 15 16 17 18 19 20 21 22),[i6,i6,.s,lsQ,lsQ,i6,i6,i6,.b,i6,i6,i6,.s,.s,l0Q,i6,i6,i6,i6,i6,i6,i6,lsQ],[.s]⟩ bd .n) .n)))) .n))) .n)))))))) .n))) .n)))))))) Tryz.func71 rfl hbv71 ⟨W5,⟨zSc,zS3⟩,⟨zS0,zea⟩,zpr,zbw,trivial⟩ λx=>aj
def zEa:Ct TS:=⟨[.ptr 1 0],[(1,.gn 1 .s 0)],[.s],dI 1,[(1,.gn 1 .s 0)],[i6],bd,λx=>zsd x⟩
def zKq:zEa.OK PGq 59:=λx r h=>by
 cases h;exact kmp aj (zC5 (T:=123) 1 x)
def ztb:Ct TS:=⟨[.d (.st 14) 0],h5,[.st 14],.tup [.d .s 1,dI 2],h5,[.s,i6],bd,λx=>zdn x⟩
def zv0:HBc 26 ztb:=ctk (T:=[(28,zs9),(67,Zo),(68,zlc),(69,zep),(70,zii),(71,zvz),(72,zbt),(59,zEa),(60,Zn)]) (h:=.s .n (.s .n (.s .n (.s (.s .n (.s (.l ⟨[(1,.ptr 1000001 0),(4,.ptr 1000028 0),(30,.d l1Q 0),(31,dI 1),(32,dI 9)],(h94 0 2 3 4 5 6 7 8 10),k82,[i6,.s]⟩ [(1,.ptr 1000001 0),(4,.ptr 1000028 0)] (h94 0 2 3 4 5 6 7 8 9) [.s] 0 (u9Q jk) .n) .n)) (.s (.s .n (.s (.l ⟨[(1,.ptr 1000001 0),(4,.ptr 1000028 0),(50,.d l3Q 0),(51,dI 1),(52,dI 9)],(h94 2 0 3 4 5 6 7 8 10),k83,[i6,.s]⟩ [(1,.ptr 1000001 0),(4,.ptr 1000028 0)] (h94 2 0 3 4 5 6 7 8 9) [.s] 2 (u9Q jo) (.s .n (.s .n (.s (.s (.s .n (.s .n (.s (.s .n (.s (.l ⟨[(1,.ptr 1000001 0),(4,.ptr 1000028 0),(8,.ptr 1000008 0),(50,.d l3Q 0),(51,dI 1),(52,dI 2),(64,.d l2Q 3),(65,dI 4),(66,dI 14)],(h95 15),[l3Q,i6,i6,l2Q,i6,l1Q,l5Q,l7Q,l8Q,wj,l9Q,i6,.s,i6],[i6,.s]⟩ [(1,.ptr 1000001 0),(4,.ptr 1000028 0),(8,.ptr 1000008 0),(50,.d l3Q 0),(51,dI 1),(52,dI 2)] (h95 14) [.s] 4 (z1j jm) .n) .n)) .n))) .n) .n)))) .n)) (.s (.s .n (.s (.l ⟨[(1,.ptr 1000001 0),(4,.ptr 1000028 0),(91,.d l5Q 0),(92,dI 1),(93,dI 9)],(h94 2 3 0 4 5 6 7 8 10),k84,[i6,.s]⟩ [(1,.ptr 1000001 0),(4,.ptr 1000028 0)] (h94 2 3 0 4 5 6 7 8 9) [.s] 6 (u9Q jt) (.s .n (.s .n (.s (.s (.s .n (.s .n (.s (.j ⟨[(1,.ptr 1000001 0),(4,.ptr 1000028 0),(12,.ptr 1000012 0),(13,.d .s 14),(91,.d l5Q 0),(92,dI 1),(93,dI 2)],[(900000000,.rw 1),(900000001,.rw 2),(900000002,.rw 3),(900000003,.rw 4),(1000001,.box 31 [.d l1Q 3,.d l3Q 4,.d l5Q 0,.d l7Q 5,.d l8Q 6,.d wj 7,.d l9Q 8,dI 9]),(1000028,.gn 1 .s 10),(1000012,.box 64 [.d .s 11,.d .b 12,.d l4Q 13])],[l5Q,i6,i6,l1Q,l3Q,l7Q,l8Q,wj,l9Q,i6,.s,.s,.b,l4Q],[.s]⟩ bd .n) .n))) .n) .n)))) .n)) (.s (.s .n (.s (.l ⟨[(1,.ptr 1000001 0),(4,.ptr 1000028 0),(113,.d l7Q 0),(114,dI 1),(115,dI 9)],(h94 2 3 4 0 5 6 7 8 10),k85,[i6,.s]⟩ [(1,.ptr 1000001 0),(4,.ptr 1000028 0)] (h94 2 3 4 0 5 6 7 8 9) [.s] 8 (u9Q ju) .n) .n)) (.s (.s .n (.s (.l ⟨[(1,.ptr 1000001 0),(4,.ptr 1000028 0),(124,.d l8Q 0),(125,dI 1),(126,dI 9)],(h94 2 3 4 5 0 6 7 8 10),k86,[i6,.s]⟩ [(1,.ptr 1000001 0),(4,.ptr 1000028 0)] (h94 2 3 4 5 0 6 7 8 9) [.s] 10 (u9Q jv) .n) .n)) (.s (.s .n (.s (.l ⟨[(1,.ptr 1000001 0),(4,.ptr 1000028 0),(152,.d wj 0),(153,dI 1),(154,dI 9)],(h94 2 3 4 5 6 0 7 8 10),k87,[i6,.s]⟩ [(1,.ptr 1000001 0),(4,.ptr 1000028 0)] (h94 2 3 4 5 6 0 7 8 9) [.s] 12 (u9Q jx) (.s .n (.s .n (.s (.s (.s .n (.s .n (.s (.s .n (.s (.l ⟨[(1,.ptr 1000001 0),(4,.ptr 1000028 0),(152,.d wj 0),(153,dI 1),(154,dI 2),(183,.d l9Q 3),(184,dI 4),(185,dI 12)],(h94 5 6 7 8 9 0 10 11 13),[wj,i6,i6,l9Q,i6,l1Q,l3Q,l5Q,l7Q,l8Q,l9Q,i6],[i6,.s]⟩ [(1,.ptr 1000001 0),(4,.ptr 1000028 0),(152,.d wj 0),(153,dI 1),(154,dI 2)] (h94 5 6 7 8 9 0 10 11 12) [.s] 14 (z1i jw) .n) .n)) .n))) .n) .n)))) .n)) (.s (.s .n (.s (.l ⟨[(1,.ptr 1000001 0),(4,.ptr 1000028 0),(206,.d l9Q 0),(207,dI 1),(208,dI 9)],(h94 2 3 4 5 6 7 0 8 10),k89,[i6,.s]⟩ [(1,.ptr 1000001 0),(4,.ptr 1000028 0)] (h94 2 3 4 5 6 7 0 8 9) [.s] 16 (u9Q jy) .n) .n)) (.s (.j ⟨[(1,.ptr 1000001 0),(4,.ptr 1000028 0)],(h94 0 1 2 3 4 5 6 7 8),k4,[.s]⟩ bd .n) (.s (.j ⟨[(4,.ptr 1000028 0)],[(900000000,.rw 1),(900000001,.rw 2),(900000002,.rw 3),(900000003,.rw 4),(1000028,.gn 1 .s 0)],[],[.s]⟩ bd .n) .n)))))))))))) Tryz.func26 rfl hbv26 ⟨zvy,W5,zpr,zbw,zta,zD9,⟨zS0,zea⟩,⟨zX7,zKq⟩,⟨zyq,zeo⟩,trivial⟩ λx=>aj
def zeq:Ct TS:=⟨[],h5,[],.d .b 0,h5,[.b],bd,λ_=>JN⟩
def zps:HBc 9 zeq:=ctg (cd:=cdL) (nb:=nbT) (rc:=[]) (T:=[(12,zdw),(19,zdz),(10,zs2),(26,ztb),(28,zs9),(16,zhs)]) (h:=.s .n (.s .n (.s .n (.s .n (.s .n (.s .n (.s .n (.s .n (.s .n (.s .n (.s .n (.s (.j ⟨[(9,.ptr 1000009 0),(13,dI 0),(14,dI 1),(16,dI 2),(17,dI 3),(19,dI 4),(20,dI 5),(22,dI 6),(23,dI 7),(25,dI 8),(26,dI 9),(27,.d .b 18)],(h75 1000009 103005401 103005402 103005403 103005404 103005405 103005406 10 11 12 13 14 15 16 17),[i6,i6,i6,i6,i6,i6,i6,i6,i6,i6,l9Q,i6,l1Q,l3Q,l5Q,l7Q,l8Q,wj],[.b]⟩ bd .n) (.s (.j ⟨[(9,.ptr 1000009 0),(27,.d .b 0),(28,.d .b 9)],(h75 1000009 103005401 103005402 103005403 103005404 103005405 103005406 1 2 3 4 5 6 7 8),k96,[.b]⟩ bd .n) .n))))))))))))) Tryz.func9 rfl hbv9 ⟨zo0,zo3,zvw,zv0,zvy,zds,trivial⟩ λx=>aj
def Ax(RK:Nat):Ct TS:=⟨[.d (.st 0) 0,dI 1],[],[.st 0,i6],dI 2,[],[i6],bd,λx=>vS RK x.1 x.2⟩
def W6:∀RK,(Ax RK).OK PGq 56
 |0=>(λx r h=>nomatch (show(bh:Option _)=bc r from h))
 |RK+1=>(ctk (c:=Ax (RK+1)) (T:=[(56,Ax RK)]) (h:=.s .n (.s .n (.s (.s .n (.s (.l ⟨[(1,dI 0),(2,.ptr 1000002 0),(5,dI 6),(6,dI 7)],(h25 1000002 1 2 3 4 5),k13,[i6,i6]⟩ [(5,dI 6)] [] [i6] 0 (λx K v=>vx (vS RK) x.1 x.2.1 x.2.2.1 x.2.2.2.1 x.2.2.2.2.1 (p5Q x) K v) (.s (.s (.j ⟨[(1,dI 0),(2,.ptr 1000002 0),(5,dI 1),(6,dI 2),(16,.d .b 8)],(h25 1000002 3 4 5 6 7),k22,[.b]⟩ bd .n) .n) .n)) .n)) .n))) Tryz.func56 rfl zS1 ⟨⟨zS1,(W6 RK)⟩,trivial⟩ λx=>aj).2
def zpt(RK:Nat):ze PGq 56/\(Ax RK).OK PGq 56:=⟨zS1,(W6 RK)⟩
def Ay(RK:Nat):Ct TS:=⟨[.d (.st 0) 0],[],[.st 0],.d .b 1,[],[.b],bd,λx=>j8 RK x⟩
def W7:∀RK,(Ay RK).OK PGq 57
 |0=>(λx r h=>nomatch (show(bh:Option _)=bc r from h))
 |RK+1=>(ctk (c:=Ay (RK+1)) (T:=[(57,Ay RK)]) (h:=.s .n (.s (.s .n (.s (.lr ⟨[(1,.ptr 1000001 0),(3,dI 5)],(h25 1000001 0 1 2 3 4),[i6,i6,.s,.s,l0Q],[i6]⟩ [(1,.ptr 1000001 0)] (h25 1000001 0 1 2 3 4) [] 0 (λx K v=>qZ (j8 RK) x.1 x.2.1 x.2.2.1 x.2.2.2.1 x.2.2.2.2 K v) .n) .n)) .n)) Tryz.func57 rfl zS2 ⟨⟨zS2,(W7 RK)⟩,trivial⟩ λx=>aj).2
def zpu(RK:Nat):ze PGq 57/\(Ay RK).OK PGq 57:=⟨zS2,(W7 RK)⟩
def W8:Ct TS:=⟨[.d (.st 0) 0],[],[.st 0],.d .b 1,[],[.b],bd,λx=>jz x⟩
def zgh:HBc 18 W8:=ctk (T:=[(56,Ax KK),(57,Ay KK)]) (h:=.n) Tryz.func18 rfl hbv18 ⟨(zpt KK),(zpu KK),trivial⟩ λx=>aj
def Q5:Ct TS:=⟨[.d lsQ 0],[],[lsQ],.d .b 1,[],[.b],bd,λx=>wy x⟩
def zer:HBc 66 Q5:=ctk (T:=[]) (h:=.s .n (.s (.s .n (.s (.lr ⟨[(0,.d lsQ 0),(3,dI 1)],[],[lsQ],[i6]⟩ [(0,.d lsQ 0)] [] [] 0 (λx K v=>jA x K v) .n) .n)) .n)) Tryz.func66 rfl hbv66 trivial λx=>aj
def zpv:Ct TS:=⟨[.d (.st 14) 0],[],[.st 14],.d .b 1,[],[.b],bd,λx=>WY x⟩
def zza:HBc 25 zpv:=ctk (T:=[(18,W8),(66,Q5)]) (h:=.s .n (.s (.s (.j ⟨[(1,.ptr 1000001 0),(51,.d .b 8)],zz5,k4,[.b]⟩ bd .n) .n) (.s (.s .n (.s (.lr ⟨[(1,.ptr 1000001 0),(3,dI 8)],zz5,k4,[i6]⟩ [(1,.ptr 1000001 0)] zz5 [] 0 (u8Q A1) (.s .n (.s (.s (.s (.j ⟨[(1,.ptr 1000001 0),(3,dI 0),(76,.d .b 9)],zyr,zXu,[.b]⟩ bd .n) .n) .n) .n))) .n)) (.s (.s .n (.s (.lr ⟨[(1,.ptr 1000001 0),(4,dI 8)],zz5,k4,[i6]⟩ [(1,.ptr 1000001 0)] zz5 [] 2 (u8Q vT) (.s .n (.s (.s (.s .n (.s (.s (.j ⟨[(1,.ptr 1000001 0),(4,dI 0),(5,.ptr 1000005 0),(98,.d .b 12)],(h124 1000005),k125,[.b]⟩ bd .n) .n) (.s .n (.s (.lr ⟨[(1,.ptr 1000001 0),(4,dI 0),(5,.ptr 1000005 0),(6,dI 12)],(h124 1000005),k125,[i6]⟩ [(1,.ptr 1000001 0),(4,dI 0)] zyr [] 4 (z1i uw) .n) .n)))) .n) .n))) .n)) (.s (.s .n (.s (.lr ⟨[(1,.ptr 1000001 0),(7,dI 8)],zz5,k4,[i6]⟩ [(1,.ptr 1000001 0)] zz5 [] 6 (u8Q A2) (.s .n (.s (.s (.s (.j ⟨[(1,.ptr 1000001 0),(7,dI 0),(138,.d .b 9)],zyr,zXu,[.b]⟩ bd .n) .n) .n) .n))) .n)) (.s (.s .n (.s (.lr ⟨[(1,.ptr 1000001 0),(8,dI 8)],zz5,k4,[i6]⟩ [(1,.ptr 1000001 0)] zz5 [] 8 (u8Q kD) (.s .n (.s (.s (.s .n (.s (.j ⟨[(1,.ptr 1000001 0),(8,dI 0),(172,.d .b 9)],zyr,zXu,[.b]⟩ bd .n) .n)) .n) .n))) .n)) (.s (.s .n (.s (.lr ⟨[(1,.ptr 1000001 0),(10,dI 8)],zz5,k4,[i6]⟩ [(1,.ptr 1000001 0)] zz5 [] 10 (u8Q A3) (.s .n (.s (.s (.s (.j ⟨[(1,.ptr 1000001 0),(10,dI 0),(197,.d .b 9)],zyr,zXu,[.b]⟩ bd .n) .n) .n) .n))) .n)) (.s (.s .n (.s (.lr ⟨[(1,.ptr 1000001 0),(11,dI 8)],zz5,k4,[i6]⟩ [] [] [] 12 (u8Q A4) (.s .n (.s (.s (.s (.j ⟨[(1,.ptr 1000001 0),(11,dI 0),(222,.d .b 9)],zyr,zXu,[.b]⟩ bd .n) .n) .n) .n))) .n)) .n)))))))) Tryz.func25 rfl hbv25 ⟨zgh,zer,trivial⟩ λx=>aj
def zv1:Ct TS:=⟨[.d (.st 1) 0,.d (.st 1) 1],[],[.st 1,.st 1],.d .b 2,[],[.b],bd,u2Q zbm⟩
def zEb:HBc 103 zv1:=ctk (T:=[(104,oU KK)]) (h:=.n) Tryz.func103 rfl zYn ⟨(zel KK),trivial⟩ λx=>aj
def uS:Ct TS:=⟨[.d l1Q 0,.d l1Q 1,.fn 103 [] []],[],[l1Q,l1Q],.d .b 2,[],[.b],bd,u2Q wD⟩
def KW:HBc 112 uS:=ctk (T:=[(103,zv1)]) (h:=.s .n (.s .n (.s (.s .n (.s (.lr ⟨[(1,.d l1Q 0),(2,.fn 103 [] []),(15,.d l1Q 1),(16,dI 2),(17,dI 3)],[],[l1Q,l1Q,i6],[i6]⟩ [] [] [] 0 (u3Q vd) .n) .n)) .n))) Tryz.func112 rfl zYo ⟨zEb,trivial⟩ λx=>aj
def Kh:Ct TS:=⟨[.d l2Q 0,.d l2Q 1],[],[l2Q,l2Q],.d .b 2,[],[.b],bd,u2Q jX⟩
def Zp:HBc 106 Kh:=ctk (T:=[]) (h:=.s .n (.s .n (.s (.s .n (.s (.lr ⟨[(0,.d l2Q 0),(1,.d l2Q 1),(12,dI 2),(13,dI 3)],[],[l2Q,l2Q,i6],[i6]⟩ [] [] [] 0 (u3Q j9) .n) .n)) .n))) Tryz.func106 rfl zYp trivial λx=>aj
def zv2:Ct TS:=⟨[.d (.st 3) 0,.d (.st 3) 1],[],[.st 3,.st 3],.d .b 2,[],[.b],bd,u2Q zbn⟩
def zEc:HBc 105 zv2:=ctk (T:=[(106,Kh)]) (h:=.n) Tryz.func105 rfl zYq ⟨Zp,trivial⟩ λx=>aj
def uT:Ct TS:=⟨[.d l3Q 0,.d l3Q 1,.fn 105 [] []],[],[l3Q,l3Q],.d .b 2,[],[.b],bd,u2Q wE⟩
def KX:HBc 113 uT:=ctk (T:=[(105,zv2)]) (h:=.s .n (.s .n (.s (.s .n (.s (.lr ⟨[(1,.d l3Q 0),(2,.fn 105 [] []),(15,.d l3Q 1),(16,dI 2),(17,dI 3)],[],[l3Q,l3Q,i6],[i6]⟩ [] [] [] 0 (u3Q ve) .n) .n)) .n))) Tryz.func113 rfl zYr ⟨zEc,trivial⟩ λx=>aj
def uU:Ct TS:=⟨[.d l7Q 0,.d l7Q 1,.fn 115 [] []],[],[l7Q,l7Q],.d .b 2,[],[.b],bd,u2Q wF⟩
def KY:HBc 114 uU:=ctk (T:=[(115,Zm)]) (h:=.s .n (.s .n (.s (.s .n (.s (.lr ⟨[(1,.d l7Q 0),(2,.fn 115 [] []),(15,.d l7Q 1),(16,dI 2),(17,dI 3)],[],[l7Q,l7Q,i6],[i6]⟩ [] [] [] 0 (u3Q vf) .n) .n)) .n))) Tryz.func114 rfl zYs ⟨zem,trivial⟩ λx=>aj
def uI:Ct TS:=⟨[.d l4Q 0,.d l4Q 1],[],[l4Q,l4Q],.d .b 2,[],[.b],bd,u2Q vn⟩
def H0:HBc 108 uI:=ctk (T:=[]) (h:=.s .n (.s .n (.s (.s .n (.s (.lr ⟨[(0,.d l4Q 0),(1,.d l4Q 1),(12,dI 2),(13,dI 3)],[],[l4Q,l4Q,i6],[i6]⟩ [] [] [] 0 (u3Q ka) .n) .n)) .n))) Tryz.func108 rfl zYt trivial λx=>aj
def zv3:Ct TS:=⟨[.d (.st 5) 0,.d (.st 5) 1],[],[.st 5,.st 5],.d .b 2,[],[.b],bd,u2Q zbo⟩
def zEd:HBc 107 zv3:=ctk (T:=[(108,uI)]) (h:=.n) Tryz.func107 rfl zYu ⟨H0,trivial⟩ λx=>aj
def uV:Ct TS:=⟨[.d l5Q 0,.d l5Q 1,.fn 107 [] []],[],[l5Q,l5Q],.d .b 2,[],[.b],bd,u2Q wG⟩
def KZ:HBc 116 uV:=ctk (T:=[(107,zv3)]) (h:=.s .n (.s .n (.s (.s .n (.s (.lr ⟨[(1,.d l5Q 0),(2,.fn 107 [] []),(15,.d l5Q 1),(16,dI 2),(17,dI 3)],[],[l5Q,l5Q,i6],[i6]⟩ [] [] [] 0 (u3Q vg) .n) .n)) .n))) Tryz.func116 rfl zYv ⟨zEd,trivial⟩ λx=>aj
def zv4:Ct TS:=⟨[.d (.st 8) 0,.d (.st 8) 1],[],[.st 8,.st 8],.d .b 2,[],[.b],bd,u2Q zbp⟩
def zEe:HBc 109 zv4:=ctk (T:=[(108,uI)]) (h:=.n) Tryz.func109 rfl zYw ⟨H0,trivial⟩ λx=>aj
def uW:Ct TS:=⟨[.d l8Q 0,.d l8Q 1,.fn 109 [] []],[],[l8Q,l8Q],.d .b 2,[],[.b],bd,u2Q wH⟩
def K1:HBc 117 uW:=ctk (T:=[(109,zv4)]) (h:=.s .n (.s .n (.s (.s .n (.s (.lr ⟨[(1,.d l8Q 0),(2,.fn 109 [] []),(15,.d l8Q 1),(16,dI 2),(17,dI 3)],[],[l8Q,l8Q,i6],[i6]⟩ [] [] [] 0 (u3Q vh) .n) .n)) .n))) Tryz.func117 rfl zYx ⟨zEe,trivial⟩ λx=>aj
def uJ:Ct TS:=⟨[.d l9Q 0,.d l9Q 1],[],[l9Q,l9Q],.d .b 2,[],[.b],bd,u2Q vq⟩
def H5:HBc 111 uJ:=ctk (T:=[]) (h:=.s .n (.s .n (.s (.s .n (.s (.lr ⟨[(0,.d l9Q 0),(1,.d l9Q 1),(12,dI 2),(13,dI 3)],[],[l9Q,l9Q,i6],[i6]⟩ [] [] [] 0 (u3Q kd) .n) .n)) .n))) Tryz.func111 rfl zYy trivial λx=>aj
def zv5:Ct TS:=⟨[.d (.st 10) 0,.d (.st 10) 1],[],[.st 10,.st 10],.d .b 2,[],[.b],bd,u2Q zbq⟩
def zEf:HBc 110 zv5:=ctk (T:=[(111,uJ)]) (h:=.n) Tryz.func110 rfl zYz ⟨H5,trivial⟩ λx=>aj
def uX:Ct TS:=⟨[.d wj 0,.d wj 1,.fn 110 [] []],[],[wj,wj],.d .b 2,[],[.b],bd,u2Q wI⟩
def K2:HBc 118 uX:=ctk (T:=[(110,zv5)]) (h:=.s .n (.s .n (.s (.s .n (.s (.lr ⟨[(1,.d wj 0),(2,.fn 110 [] []),(15,.d wj 1),(16,dI 2),(17,dI 3)],[],[wj,wj,i6],[i6]⟩ [] [] [] 0 (u3Q vi) .n) .n)) .n))) Tryz.func118 rfl zY0 ⟨zEf,trivial⟩ λx=>aj
def zOr:Ct TS:=⟨[.d (.st 14) 0,.d (.st 14) 1],[],[.st 14,.st 14],.d .b 2,[],[.b],bd,u2Q zop⟩
def zS4:HBc 30 zOr:=ctk (T:=[(112,uS),(113,uT),(114,uU),(116,uV),(117,uW),(118,uX),(111,uJ)]) (h:=.s .n (.s .n (.s .n (.s .n (.s .n (.s .n (.s (.j ⟨[(2,.ptr 1000002 0),(3,.ptr 1000003 0),(7,.fn 107 [] []),(8,.fn 109 [] []),(9,.fn 110 [] []),(10,.d .b 16)],(h120 0 1 2 3 4 5 6 7 8 9 10 11 12 13 14 15),k121,[.b]⟩ bd .n) (.s (.j ⟨[(2,.ptr 1000002 0),(3,.ptr 1000003 0),(10,.d .b 0),(11,.d .b 17)],(h120 1 2 3 4 5 6 7 8 9 10 11 12 13 14 15 16),k129,[.b]⟩ bd .n) .n)))))))) Tryz.func30 rfl hbv30 ⟨KW,KX,KY,KZ,K1,K2,H5,trivial⟩ λx=>aj
def zes:Ct TS:=⟨[.d .s 0],[],[.s],.d lsQ 1,[],[lsQ],bd,λx=>JO x⟩
def zpw:HBc 33 zes:=ctk (T:=[]) (h:=.s .n (.s .n (.s .n (.s (.s .n (.s (.l ⟨[(0,.d .s 0),(3,.row 1 7001001),(4,dI 1),(5,dI 2)],(h57 7001001 3),[.s],[i6,i6,lsQ]⟩ [(3,.row 1 7001001)] (h57 7001001 1) [lsQ] 0 (λx K v=>xo x K v) (.s .n (.s (.j ⟨[(0,.d .s 0),(3,.row 1 7000001),(4,dI 2),(5,dI 1)],(h57 7000001 3),[.s,i6],[i6,lsQ]⟩ bd .n) .n))) .n)) .n)))) Tryz.func33 rfl hbv33 trivial λx=>aj
def zij:Ct TS:=⟨[.d .s 0],[],[.s],dI 1,[],[i6],bd,λx=>qI x⟩
def ztc:HBc 34 zij:=ctk (T:=[]) (h:=.s .n (.s .n (.s .n (.s (.s .n (.s (.lr ⟨[(0,.d .s 0),(3,.row 1 1000006),(4,.row 1 1000007),(5,dI 3)],[(1000006,.row 9 .s 1 bd),(1000007,.row 3 i6 2 bd)],[.s,lsQ,.l i6],[i6]⟩ [] [] [] 0 (u3Q yT) (.s .n (.s (.s (.s (.j ⟨[(0,.d .s 0),(3,.row 1 1000006),(4,.row 1 1000007),(5,dI 1),(35,.d .b 4)],[(1000006,.row 9 .s 2 bd),(1000007,.row 3 i6 3 bd)],[.s,i6,lsQ,.l i6],[.b]⟩ bd .n) .n) .n) .n))) .n)) .n)))) Tryz.func34 rfl hbv34 trivial λx=>aj
def Zq:Ct TS:=⟨[.d (.st 14) 0,dI 1,dI 2],h5,[.st 14,i6,i6],.d .b 3,h5,[.b],bd,u3Q jB⟩
def W9:HBc 7 Zq:=ctk (T:=[(9,zeq),(25,zpv),(26,ztb),(33,zes),(34,zij),(10,zs2),(30,zOr)]) (h:=.s .n (.s .n (.s .n (.s .n (.s .n (.s .n (.s .n (.s (.s .n (.s (.l ⟨[(1,dI 0),(2,dI 1),(3,.ptr 1000003 0),(7,.d .b 2),(8,.d .s 3),(10,.d lsQ 4),(11,.d .s 13),(12,dI 14)],(h81 1000003 5 6 7 8 9 10 11 12),[i6,i6,.b,.s,lsQ,l1Q,l3Q,l5Q,l7Q,l8Q,wj,l9Q,i6],[.s,i6]⟩ [(2,dI 1),(3,.ptr 1000003 0),(7,.d .b 2),(8,.d .s 3),(10,.d lsQ 4),(11,.d .s 13)] (h81 1000003 5 6 7 8 9 10 11 12) [.s] 0 (u13Q yl) (.s .n (.s (.s (.s .n (.s (.l ⟨[(1,dI 0),(2,dI 1),(3,.ptr 1000003 0),(7,.d .b 2),(8,.d .s 3),(10,.d lsQ 4),(11,.d .s 14),(12,dI 5),(13,dI 15)],(h81 1000003 6 7 8 9 10 11 12 13),[i6,i6,.b,.s,lsQ,i6,l1Q,l3Q,l5Q,l7Q,l8Q,wj,l9Q,i6],[.s,i6]⟩ [(1,dI 0),(2,dI 1),(3,.ptr 1000003 0),(7,.d .b 2),(8,.d .s 3),(10,.d lsQ 4),(11,.d .s 14),(12,dI 5)] (h81 1000003 6 7 8 9 10 11 12 13) [.s] 2 (z1j z8) (.s .n (.s (.j ⟨[(1,dI 0),(2,dI 1),(3,.ptr 1000003 0),(7,.d .b 2),(8,.d .s 3),(10,.d lsQ 4),(11,.d .s 15),(12,dI 5),(13,dI 6)],(h81 1000003 7 8 9 10 11 12 13 14),[i6,i6,.b,.s,lsQ,i6,i6,l1Q,l3Q,l5Q,l7Q,l8Q,wj,l9Q,i6],[.s]⟩ bd .n) .n))) .n)) .n) .n))) .n)) (.s .n (.s (.s (.j ⟨[(2,dI 0),(7,.d .b 1),(8,.d .s 2),(10,.d lsQ 3),(89,.d .b 4)],h5,[i6,.b,.s,lsQ],[.b]⟩ bd .n) .n) (.s .n (.s .n (.s .n (.s (.s .n (.s (.l ⟨[(7,.d .b 0),(10,.d lsQ 1),(17,dI 2),(18,.d .s 3),(19,dI 4)],h5,[.b,lsQ,i6],[.s,i6]⟩ [(7,.d .b 0),(18,.d .s 3)] h5 [.s] 4 (u3Q yF) (.s .n (.s (.j ⟨[(7,.d .b 0),(10,.d lsQ 1),(17,dI 2),(18,.d .s 4),(19,dI 3)],h5,[.b,lsQ,i6,i6],[.s]⟩ bd .n) .n))) .n)) .n)))))))))))))) Tryz.func7 rfl hbv7 ⟨zps,zza,zv0,zpw,ztc,zvw,zS4,trivial⟩ λx=>aj
end Go.Proofs.YtffencjoddkghaaGreatDoor
