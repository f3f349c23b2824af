/- texts that the proof of SyntaxPrints reaches, part 8 -/
import Derived.Test.YtffencjoddkghaaGreatDoorKg
set_option linter.all false
set_option maxRecDepth 100000
namespace Go.Proofs.YtffencjoddkghaaGreatDoor
open Go Go.RowKit Go.Eng Go.EV Go.EQ
noncomputable abbrev PGq:=Tryz.prog
abbrev i6:TC:=.i .i64
abbrev dI(k:Nat):Tp:=.d i6 k
def u2Q{α0 α1 β:Type}(f:α0→α1→β)(x:α0×α1):β:=f x.1 x.2
def u3Q{α0 α1 α2 β:Type}(f:α0→α1→α2→β)(x:α0×α1×α2):β:=f x.1 x.2.1 x.2.2
def u4Q{α0 α1 α2 α3 β:Type}(f:α0→α1→α2→α3→β)(x:α0×α1×α2×α3):β:=f x.1 x.2.1 x.2.2.1 x.2.2.2
def u5Q{α0 α1 α2 α3 α4 β:Type}(f:α0→α1→α2→α3→α4→β)(x:α0×α1×α2×α3×α4):β:=f x.1 x.2.1 x.2.2.1 x.2.2.2.1 x.2.2.2.2
def u6Q{α0 α1 α2 α3 α4 α5 β:Type}(f:α0→α1→α2→α3→α4→α5→β)(x:α0×α1×α2×α3×α4×α5):β:=f x.1 x.2.1 x.2.2.1 x.2.2.2.1 x.2.2.2.2.1 x.2.2.2.2.2
def u7Q{α0 α1 α2 α3 α4 α5 α6 β:Type}(f:α0→α1→α2→α3→α4→α5→α6→β)(x:α0×α1×α2×α3×α4×α5×α6):β:=f x.1 x.2.1 x.2.2.1 x.2.2.2.1 x.2.2.2.2.1 x.2.2.2.2.2.1 x.2.2.2.2.2.2
def u9Q{α0 α1 α2 α3 α4 α5 α6 α7 α8 β:Type}(f:α0→α1→α2→α3→α4→α5→α6→α7→α8→β)(x:α0×α1×α2×α3×α4×α5×α6×α7×α8):β:=f x.1 x.2.1 x.2.2.1 x.2.2.2.1 x.2.2.2.2.1 x.2.2.2.2.2.1 x.2.2.2.2.2.2.1 x.2.2.2.2.2.2.2.1 x.2.2.2.2.2.2.2.2
def u12Q{α0 α1 α2 α3 α4 α5 α6 α7 α8 α9 α10 α11 β:Type}(f:α0→α1→α2→α3→α4→α5→α6→α7→α8→α9→α10→α11→β)(x:α0×α1×α2×α3×α4×α5×α6×α7×α8×α9×α10×α11):β:=f x.1 x.2.1 x.2.2.1 x.2.2.2.1 x.2.2.2.2.1 x.2.2.2.2.2.1 x.2.2.2.2.2.2.1 x.2.2.2.2.2.2.2.1 x.2.2.2.2.2.2.2.2.1 x.2.2.2.2.2.2.2.2.2.1 x.2.2.2.2.2.2.2.2.2.2.1 x.2.2.2.2.2.2.2.2.2.2.2
def u14Q{α0 α1 α2 α3 α4 α5 α6 α7 α8 α9 α10 α11 α12 α13 β:Type}(f:α0→α1→α2→α3→α4→α5→α6→α7→α8→α9→α10→α11→α12→α13→β)(x:α0×α1×α2×α3×α4×α5×α6×α7×α8×α9×α10×α11×α12×α13):β:=f x.1 x.2.1 x.2.2.1 x.2.2.2.1 x.2.2.2.2.1 x.2.2.2.2.2.1 x.2.2.2.2.2.2.1 x.2.2.2.2.2.2.2.1 x.2.2.2.2.2.2.2.2.1 x.2.2.2.2.2.2.2.2.2.1 x.2.2.2.2.2.2.2.2.2.2.1 x.2.2.2.2.2.2.2.2.2.2.2.1 x.2.2.2.2.2.2.2.2.2.2.2.2.1 x.2.2.2.2.2.2.2.2.2.2.2.2.2
def zMb{α0 α1 α2 α3 α4 α5 α6 α7 α8 α9 α10 α11 α12 α13 α14 α15 β:Type}(f:α0→α1→α2→α3→α4→α5→α6→α7→α8→α9→α10→α11→α12→α13→α14→α15→β)(x:α0×α1×α2×α3×α4×α5×α6×α7×α8×α9×α10×α11×α12×α13×α14×α15):β:=f x.1 x.2.1 x.2.2.1 x.2.2.2.1 x.2.2.2.2.1 x.2.2.2.2.2.1 x.2.2.2.2.2.2.1 x.2.2.2.2.2.2.2.1 x.2.2.2.2.2.2.2.2.1 x.2.2.2.2.2.2.2.2.2.1 x.2.2.2.2.2.2.2.2.2.2.1 x.2.2.2.2.2.2.2.2.2.2.2.1 x.2.2.2.2.2.2.2.2.2.2.2.2.1 x.2.2.2.2.2.2.2.2.2.2.2.2.2.1 x.2.2.2.2.2.2.2.2.2.2.2.2.2.2.1 x.2.2.2.2.2.2.2.2.2.2.2.2.2.2.2
def u17Q{α0 α1 α2 α3 α4 α5 α6 α7 α8 α9 α10 α11 α12 α13 α14 α15 α16 β:Type}(f:α0→α1→α2→α3→α4→α5→α6→α7→α8→α9→α10→α11→α12→α13→α14→α15→α16→β)(x:α0×α1×α2×α3×α4×α5×α6×α7×α8×α9×α10×α11×α12×α13×α14×α15×α16):β:=f x.1 x.2.1 x.2.2.1 x.2.2.2.1 x.2.2.2.2.1 x.2.2.2.2.2.1 x.2.2.2.2.2.2.1 x.2.2.2.2.2.2.2.1 x.2.2.2.2.2.2.2.2.1 x.2.2.2.2.2.2.2.2.2.1 x.2.2.2.2.2.2.2.2.2.2.1 x.2.2.2.2.2.2.2.2.2.2.2.1 x.2.2.2.2.2.2.2.2.2.2.2.2.1 x.2.2.2.2.2.2.2.2.2.2.2.2.2.1 x.2.2.2.2.2.2.2.2.2.2.2.2.2.2.1 x.2.2.2.2.2.2.2.2.2.2.2.2.2.2.2.1 x.2.2.2.2.2.2.2.2.2.2.2.2.2.2.2.2
def u22Q{α0 α1 α2 α3 α4 α5 α6 α7 α8 α9 α10 α11 α12 α13 α14 α15 α16 α17 α18 α19 α20 α21 β:Type}(f:α0→α1→α2→α3→α4→α5→α6→α7→α8→α9→α10→α11→α12→α13→α14→α15→α16→α17→α18→α19→α20→α21→β)(x:α0×α1×α2×α3×α4×α5×α6×α7×α8×α9×α10×α11×α12×α13×α14×α15×α16×α17×α18×α19×α20×α21):β:=f x.1 x.2.1 x.2.2.1 x.2.2.2.1 x.2.2.2.2.1 x.2.2.2.2.2.1 x.2.2.2.2.2.2.1 x.2.2.2.2.2.2.2.1 x.2.2.2.2.2.2.2.2.1 x.2.2.2.2.2.2.2.2.2.1 x.2.2.2.2.2.2.2.2.2.2.1 x.2.2.2.2.2.2.2.2.2.2.2.1 x.2.2.2.2.2.2.2.2.2.2.2.2.1 x.2.2.2.2.2.2.2.2.2.2.2.2.2.1 x.2.2.2.2.2.2.2.2.2.2.2.2.2.2.1 x.2.2.2.2.2.2.2.2.2.2.2.2.2.2.2.1 x.2.2.2.2.2.2.2.2.2.2.2.2.2.2.2.2.1 x.2.2.2.2.2.2.2.2.2.2.2.2.2.2.2.2.2.1 x.2.2.2.2.2.2.2.2.2.2.2.2.2.2.2.2.2.2.1 x.2.2.2.2.2.2.2.2.2.2.2.2.2.2.2.2.2.2.2.1 x.2.2.2.2.2.2.2.2.2.2.2.2.2.2.2.2.2.2.2.2.1 x.2.2.2.2.2.2.2.2.2.2.2.2.2.2.2.2.2.2.2.2.2
def p5Q{α0 α1 α2 α3 α4 β:Type}(x:α0×α1×α2×α3×α4×β):β:=x.2.2.2.2.2
def p6Q{α0 α1 α2 α3 α4 α5 β:Type}(x:α0×α1×α2×α3×α4×α5×β):β:=x.2.2.2.2.2.2
def p7Q{α0 α1 α2 α3 α4 α5 α6 β:Type}(x:α0×α1×α2×α3×α4×α5×α6×β):β:=x.2.2.2.2.2.2.2
def p8Q{α0 α1 α2 α3 α4 α5 α6 α7 β:Type}(x:α0×α1×α2×α3×α4×α5×α6×α7×β):β:=x.2.2.2.2.2.2.2.2
def p9Q{α0 α1 α2 α3 α4 α5 α6 α7 α8 β:Type}(x:α0×α1×α2×α3×α4×α5×α6×α7×α8×β):β:=x.2.2.2.2.2.2.2.2.2
def zi0{α0 α1 α2 α3 α4 α5 α6 α7 α8 α9 β:Type}(x:α0×α1×α2×α3×α4×α5×α6×α7×α8×α9×β):β:=x.2.2.2.2.2.2.2.2.2.2
def zi1{α0 α1 α2 α3 α4 α5 α6 α7 α8 α9 α10 β:Type}(x:α0×α1×α2×α3×α4×α5×α6×α7×α8×α9×α10×β):β:=x.2.2.2.2.2.2.2.2.2.2.2
def zi2{α0 α1 α2 α3 α4 α5 α6 α7 α8 α9 α10 α11 β:Type}(x:α0×α1×α2×α3×α4×α5×α6×α7×α8×α9×α10×α11×β):β:=x.2.2.2.2.2.2.2.2.2.2.2.2
def zm4{α0 α1 α2 α3 α4 α5 α6 α7 α8 α9 α10 α11 α12 β:Type}(x:α0×α1×α2×α3×α4×α5×α6×α7×α8×α9×α10×α11×α12×β):β:=x.2.2.2.2.2.2.2.2.2.2.2.2.2
def zm5{α0 α1 α2 α3 α4 α5 α6 α7 α8 α9 α10 α11 α12 α13 β:Type}(x:α0×α1×α2×α3×α4×α5×α6×α7×α8×α9×α10×α11×α12×α13×β):β:=x.2.2.2.2.2.2.2.2.2.2.2.2.2.2
def zri{α0 α1 α2 α3 α4 α5 α6 α7 α8 α9 α10 α11 α12 α13 α14 β:Type}(x:α0×α1×α2×α3×α4×α5×α6×α7×α8×α9×α10×α11×α12×α13×α14×β):β:=x.2.2.2.2.2.2.2.2.2.2.2.2.2.2.2
def zGe{α0 α1 α2 α3 α4 α5 α6 α7 α8 α9 α10 α11 α12 α13 α14 α15 β:Type}(x:α0×α1×α2×α3×α4×α5×α6×α7×α8×α9×α10×α11×α12×α13×α14×α15×β):β:=x.2.2.2.2.2.2.2.2.2.2.2.2.2.2.2.2
def zGf{α0 α1 α2 α3 α4 α5 α6 α7 α8 α9 α10 α11 α12 α13 α14 α15 α16 β:Type}(x:α0×α1×α2×α3×α4×α5×α6×α7×α8×α9×α10×α11×α12×α13×α14×α15×α16×β):β:=x.2.2.2.2.2.2.2.2.2.2.2.2.2.2.2.2.2
def zMc{α0 α1 α2 α3 α4 α5 α6 α7 α8 α9 α10 α11 α12 α13 α14 α15 α16 α17 β:Type}(x:α0×α1×α2×α3×α4×α5×α6×α7×α8×α9×α10×α11×α12×α13×α14×α15×α16×α17×β):β:=x.2.2.2.2.2.2.2.2.2.2.2.2.2.2.2.2.2.2
def zMd{α0 α1 α2 α3 α4 α5 α6 α7 α8 α9 α10 α11 α12 α13 α14 α15 α16 α17 α18 β:Type}(x:α0×α1×α2×α3×α4×α5×α6×α7×α8×α9×α10×α11×α12×α13×α14×α15×α16×α17×α18×β):β:=x.2.2.2.2.2.2.2.2.2.2.2.2.2.2.2.2.2.2.2
def zRr{α0 α1 α2 α3 α4 α5 α6 α7 α8 α9 α10 α11 α12 α13 α14 α15 α16 α17 α18 α19 β:Type}(x:α0×α1×α2×α3×α4×α5×α6×α7×α8×α9×α10×α11×α12×α13×α14×α15×α16×α17×α18×α19×β):β:=x.2.2.2.2.2.2.2.2.2.2.2.2.2.2.2.2.2.2.2.2
def p21Q{α0 α1 α2 α3 α4 α5 α6 α7 α8 α9 α10 α11 α12 α13 α14 α15 α16 α17 α18 α19 α20 β:Type}(x:α0×α1×α2×α3×α4×α5×α6×α7×α8×α9×α10×α11×α12×α13×α14×α15×α16×α17×α18×α19×α20×β):β:=x.2.2.2.2.2.2.2.2.2.2.2.2.2.2.2.2.2.2.2.2.2
def p22Q{α0 α1 α2 α3 α4 α5 α6 α7 α8 α9 α10 α11 α12 α13 α14 α15 α16 α17 α18 α19 α20 α21 β:Type}(x:α0×α1×α2×α3×α4×α5×α6×α7×α8×α9×α10×α11×α12×α13×α14×α15×α16×α17×α18×α19×α20×α21×β):β:=x.2.2.2.2.2.2.2.2.2.2.2.2.2.2.2.2.2.2.2.2.2.2
def p23Q{α0 α1 α2 α3 α4 α5 α6 α7 α8 α9 α10 α11 α12 α13 α14 α15 α16 α17 α18 α19 α20 α21 α22 β:Type}(x:α0×α1×α2×α3×α4×α5×α6×α7×α8×α9×α10×α11×α12×α13×α14×α15×α16×α17×α18×α19×α20×α21×α22×β):β:=x.2.2.2.2.2.2.2.2.2.2.2.2.2.2.2.2.2.2.2.2.2.2.2
def p24Q{α0 α1 α2 α3 α4 α5 α6 α7 α8 α9 α10 α11 α12 α13 α14 α15 α16 α17 α18 α19 α20 α21 α22 α23 β:Type}(x:α0×α1×α2×α3×α4×α5×α6×α7×α8×α9×α10×α11×α12×α13×α14×α15×α16×α17×α18×α19×α20×α21×α22×α23×β):β:=x.2.2.2.2.2.2.2.2.2.2.2.2.2.2.2.2.2.2.2.2.2.2.2.2
def p25Q{α0 α1 α2 α3 α4 α5 α6 α7 α8 α9 α10 α11 α12 α13 α14 α15 α16 α17 α18 α19 α20 α21 α22 α23 α24 β:Type}(x:α0×α1×α2×α3×α4×α5×α6×α7×α8×α9×α10×α11×α12×α13×α14×α15×α16×α17×α18×α19×α20×α21×α22×α23×α24×β):β:=x.2.2.2.2.2.2.2.2.2.2.2.2.2.2.2.2.2.2.2.2.2.2.2.2.2
def p26Q{α0 α1 α2 α3 α4 α5 α6 α7 α8 α9 α10 α11 α12 α13 α14 α15 α16 α17 α18 α19 α20 α21 α22 α23 α24 α25 β:Type}(x:α0×α1×α2×α3×α4×α5×α6×α7×α8×α9×α10×α11×α12×α13×α14×α15×α16×α17×α18×α19×α20×α21×α22×α23×α24×α25×β):β:=x.2.2.2.2.2.2.2.2.2.2.2.2.2.2.2.2.2.2.2.2.2.2.2.2.2.2
def p27Q{α0 α1 α2 α3 α4 α5 α6 α7 α8 α9 α10 α11 α12 α13 α14 α15 α16 α17 α18 α19 α20 α21 α22 α23 α24 α25 α26 β:Type}(x:α0×α1×α2×α3×α4×α5×α6×α7×α8×α9×α10×α11×α12×α13×α14×α15×α16×α17×α18×α19×α20×α21×α22×α23×α24×α25×α26×β):β:=x.2.2.2.2.2.2.2.2.2.2.2.2.2.2.2.2.2.2.2.2.2.2.2.2.2.2.2
def p28Q{α0 α1 α2 α3 α4 α5 α6 α7 α8 α9 α10 α11 α12 α13 α14 α15 α16 α17 α18 α19 α20 α21 α22 α23 α24 α25 α26 α27 β:Type}(x:α0×α1×α2×α3×α4×α5×α6×α7×α8×α9×α10×α11×α12×α13×α14×α15×α16×α17×α18×α19×α20×α21×α22×α23×α24×α25×α26×α27×β):β:=x.2.2.2.2.2.2.2.2.2.2.2.2.2.2.2.2.2.2.2.2.2.2.2.2.2.2.2.2
variable[Kd]
theorem kmp{a b:Prop}(h:a=b)(x:a):b:=h▸x
theorem zDv{n:Int}(h0:0≤n)(h1:n<256):(((UInt8.ofNat (Int.toNat n)).toNat:Nat):Int)=n:=by
 rw[UInt8.toNat_ofNat'];omega
theorem zOj{T:Nat}(hT:zvh T)(s:List UInt8)(n:Int)(r:List UInt8)(h:zGb s n=some r):FnA PGq 168 [.ptr 1 0 0,.int .u8 n] [(1,sb T s)] .nili [(1,sb T r)]:=by
 obtain⟨_,h1,h2⟩:=bind_some h;obtain⟨g1,g2,g3⟩:=yV h1;cases h2;have:=zDf hT 1 s (UInt8.ofNat (Int.toNat n)) g3;rw[zDv g1 g2]at this;exact this
def k1:List TC:=[i6,i6,i6,i6]
def k2:List TC:=[i6,i6,i6]
def k3:List TC:=[i6,.s,i6,i6]
def k4:List TC:=[.l (.st 1),.l (.st 3),.l (.st 5),.l (.st 7),.l (.st 8),.l (.st 10),.l (.st 9),i6]
def h5:List (Nat×TO):=[(900000000,.rw 1),(900000001,.rw 2),(900000002,.rw 3),(900000003,.rw 4)]
def h6(v0 v1 v2 v3 v4:Nat):List (Nat×TO):=[(900000000,.rw 1),(900000001,.rw 2),(900000002,.rw 3),(900000003,.rw 4),(v0,.box 51 [dI v1,.d .s v2,dI v3,dI v4])]
def k7:List TC:=[.l (.st 11),i6,i6]
def h8(v0:Nat):List (Nat×TO):=[(1,.box 67 [.d (.l (.st 11)) 0,dI v0])]
def k9:List TC:=[.l (.st 11),i6,i6,i6]
def h10(v0:Nat):List (Nat×TO):=[(1,.box 67 [.d (.l (.st 11)) 0,dI v0]),(900000000,.rw 1),(900000001,.rw 2),(900000002,.rw 3),(900000003,.rw 4)]
def h11(v0 v1 v2 v3 v4 v5 v6:Nat):List (Nat×TO):=[(1,.box 67 [.d (.l (.st 11)) 0,dI v0]),(900000000,.rw 1),(900000001,.rw 2),(900000002,.rw 3),(900000003,.rw 4),(v1,.box 37 [dI v2,dI v3,.d .s v4,.d .s v5,.d (.l (.st 0)) v6])]
def k12:List TC:=[i6,i6,i6,i6,.s,.s,.l (.st 0)]
def k13:List TC:=[i6,i6,i6,.s,.s,.l (.st 0)]
def k14:List TC:=[.l (.st 11),i6,i6,.s,.l (.st 0)]
def h15:List (Nat×TO):=[(1,.box 67 [.d (.l (.st 11)) 0,dI 5]),(900000000,.rw 1),(900000001,.rw 2),(900000002,.rw 3),(900000003,.rw 4),(1000004,.box 37 [dI 2,dI 2,.d .s 3,.d .s 3,.d (.l (.st 0)) 4]),(1000005,.box 37 [dI 7,dI 8,.d .s 9,.d .s 10,.d (.l (.st 0)) 11])]
def h16(v0 v1 v2 v3 v4 v5 v6 v7 v8 v9 v10:Nat):List (Nat×TO):=[(1,.box 67 [.d (.l (.st 11)) 0,dI 1]),(900000000,.rw 1),(900000001,.rw 2),(900000002,.rw 3),(900000003,.rw 4),(1000004,.box 37 [dI v0,dI v0,.d .s v1,.d .s v1,.d (.l (.st 0)) v2]),(1000005,.box 37 [dI v3,dI v4,.d .s v5,.d .s v6,.d (.l (.st 0)) v7]),(1000007,.box 184 [.d .s v8,dI v9,dI v10])]
def k17:List TC:=[.l (.st 11),i6,i6,i6,.l (.st 12),i6,i6,.s,.l (.st 0),i6,i6,.s,.s,.l (.st 0)]
def k18:List TC:=[.l (.st 11),i6,i6,i6,.l (.st 12),i6,i6,i6,.s,.l (.st 0),i6,i6,.s,.s,.l (.st 0)]
def k19:List TC:=[.l (.st 11),i6,i6,i6,.s,.l (.st 0),i6,i6,.s,.s,.l (.st 0),.s,i6,i6]
def h20(v0 v1 v2 v3 v4 v5:Nat):List (Nat×TO):=[(1,.box 67 [.d (.l (.st 11)) 0,dI v0]),(2,.box 78 [.ptr 1 0]),(3,.box 37 [dI v1,dI v2,.d .s v3,.d .s v4,.d (.l (.st 0)) v5])]
def k21:List TC:=[.l (.st 11),i6,i6,i6,.s,.s,.l (.st 0)]
def k22:List TC:=[i6,i6,i6,i6,i6,.s,.s,.l (.st 0)]
def h23(v0 v1 v2 v3 v4 v5:Nat):List (Nat×TO):=[(900000000,.rw 1),(900000001,.rw 2),(900000002,.rw 3),(900000003,.rw 4),(v0,.box 37 [dI v1,dI v2,.d .s v3,.d .s v4,.d (.l (.st 0)) v5])]
def h24(v0 v1 v2 v3 v4 v5:Nat):List (Nat×TO):=[(900000000,.rw 1),(900000001,.rw 2),(900000002,.rw 3),(900000003,.rw 4),(1000002,.box 37 [dI v0,dI v1,.d .s v2,.d .s v3,.d (.l (.st 0)) v4]),(1000005,.box 37 [dI v0,dI 7,.d .s 8,.d .s v5,.d (.l (.st 0)) v4])]
def h25(v0 v1 v2 v3 v4 v5:Nat):List (Nat×TO):=[(v0,.box 37 [dI v1,dI v2,.d .s v3,.d .s v4,.d (.l (.st 0)) v5])]
def h26(v0 v1:Nat):List (Nat×TO):=[(1,.gn v0 (.s) v1),(900000000,.rw 1),(900000001,.rw 2),(900000002,.rw 3),(900000003,.rw 4)]
def h27:List (Nat×TO):=[(1,.gn 0 (.s) 7),(900000000,.rw 1),(900000001,.rw 2),(900000002,.rw 3),(900000003,.rw 4),(1000004,.box 37 [dI 1,dI 2,.d .s 3,.d .s 4,.d (.l (.st 0)) 5]),(1000090,.row 9 (.s) 6 false)]
def h28:List (Nat×TO):=[(1,.gn 0 (.s) 0),(900000000,.rw 1),(900000001,.rw 2),(900000002,.rw 3),(900000003,.rw 4),(1000004,.box 37 [dI 3,dI 4,.d .s 5,.d .s 6,.d (.l (.st 0)) 7])]
def h29(v0 v1 v2 v3 v4 v5 v6 v7 v8 v9 v10 v11 v12 v13 v14 v15:Nat):List (Nat×TO):=[(1,.box 71 [.d (.l (.st 11)) 0,dI v0,.row 6 2,.row 3 3,.row 3 4,.row 20 5,.row 4 6,.row 6 7,.nrow 3 8,dI v1,.om 9,.om 10,.om 11,.om 12,.om 13,.om 14,.d .b v2]),(2,.row 57 (.st 1) v3 false),(3,.row 87 (.st 3) v4 false),(4,.row 64 (.st 5) v5 false),(5,.row 94 (.st 7) v6 false),(6,.row 96 (.st 8) v7 false),(7,.row 100 (.st 10) v8 false),(8,.row 98 (.st 9) v9 false),(9,.gn 7 (.l (.m (.s) (.b))) v10),(10,.gn 7 (.l (.m (.s) (.b))) v11),(11,.gn 7 (.l (.m (.s) (.b))) v12),(12,.gn 7 (.l (.m (.s) (.b))) v13),(13,.gn 7 (.l (.m (.s) (.b))) v14),(14,.gn 7 (.l (.m (.s) (.b))) v15)]
def k30:List TC:=[.l (.st 11),i6,.l (.st 1),.l (.st 3),.l (.st 5),.l (.st 7),.l (.st 8),.l (.st 10),.l (.st 9),i6,.l (.m (.s) (.b)),.l (.m (.s) (.b)),.l (.m (.s) (.b)),.l (.m (.s) (.b)),.l (.m (.s) (.b)),.l (.m (.s) (.b)),.b]
def h31(v0 v1 v2 v3 v4:Nat):List (Nat×TO):=[(v0,.box 51 [dI v1,.d .s v2,dI v3,dI v4])]
def k32:List TC:=[.l (.st 11),i6,.l (.st 1),.l (.st 3),.l (.st 5),.l (.st 7),.l (.st 8),.l (.st 10),.l (.st 9),i6,.l (.m (.s) (.b)),.l (.m (.s) (.b)),.l (.m (.s) (.b)),.l (.m (.s) (.b)),.l (.m (.s) (.b)),.l (.m (.s) (.b)),.b,.b,i6]
def k33:List TC:=[.l (.st 11),i6,.l (.st 1),.l (.st 3),.l (.st 5),.l (.st 7),.l (.st 8),.l (.st 10),.l (.st 9),i6,.l (.m (.s) (.b)),.l (.m (.s) (.b)),.l (.m (.s) (.b)),.l (.m (.s) (.b)),.l (.m (.s) (.b)),.l (.m (.s) (.b)),.b,i6,i6]
def k34:List TC:=[.s,i6,.l (.m (.s) (.b))]
def h35(v0 v1 v2 v3 v4 v5 v6 v7 v8 v9 v10:Nat):List (Nat×TO):=[(1,.box 71 [.d (.l (.st 11)) 0,dI v0,.row 6 2,.row 3 3,.row 3 4,.row 20 5,.row 4 6,.row 6 7,.nrow 3 8,dI v1,.om v2,.om 10,.om 11,.om 12,.om 13,.om 14,.d .b v3]),(2,.row 57 (.st 1) v4 false),(3,.row 87 (.st 3) v5 false),(4,.row 64 (.st 5) v6 false),(5,.row 94 (.st 7) v7 false),(6,.row 96 (.st 8) v8 false),(7,.row 100 (.st 10) v9 false),(8,.row 98 (.st 9) v10 false),(9,.rw 0),(10,.gn 7 (.l (.m (.s) (.b))) 11),(11,.gn 7 (.l (.m (.s) (.b))) 12),(12,.gn 7 (.l (.m (.s) (.b))) 13),(13,.gn 7 (.l (.m (.s) (.b))) 14),(14,.gn 7 (.l (.m (.s) (.b))) 15)]
def h36(v0 v1:Nat):List (Nat×TO):=[(v0,.gn 7 (.l (.m (.s) (.b))) v1)]
def k37:List TC:=[.l (.st 11),i6,i6,.b,.l (.st 1),.l (.st 3),.l (.st 5),.l (.st 7),.l (.st 8),.l (.st 10),.l (.st 9),.l (.m (.s) (.b)),.l (.m (.s) (.b)),.l (.m (.s) (.b)),.l (.m (.s) (.b)),.l (.m (.s) (.b)),i6]
def k38:List TC:=[.l (.st 11),i6,.l (.st 1),.l (.st 3),.l (.st 5),.l (.st 7),.l (.st 8),.l (.st 10),.l (.st 9),i6,.l (.m (.s) (.b)),.l (.m (.s) (.b)),.l (.m (.s) (.b)),.l (.m (.s) (.b)),.l (.m (.s) (.b)),.l (.m (.s) (.b)),.b,.s]
def k39:List TC:=[.l (.st 11),i6,i6,.b,.l (.st 1),.l (.st 3),.l (.st 5),.l (.st 7),.l (.st 8),.l (.st 10),.l (.st 9),.l (.m (.s) (.b)),.l (.m (.s) (.b)),.l (.m (.s) (.b)),.l (.m (.s) (.b)),.l (.m (.s) (.b)),.l (.m (.s) (.b)),i6]
def k40:List TC:=[.l (.st 11),i6,.l (.st 1),.l (.st 3),.l (.st 5),.l (.st 7),.l (.st 8),.l (.st 10),.l (.st 9),i6,.l (.m (.s) (.b)),.l (.m (.s) (.b)),.l (.m (.s) (.b)),.l (.m (.s) (.b)),.l (.m (.s) (.b)),.l (.m (.s) (.b)),.b,i6]
def k41:List TC:=[.l (.st 11),i6,.b,.l (.st 1),.l (.st 3),.l (.st 5),.l (.st 7),.l (.st 8),.l (.st 10),.l (.st 9),.l (.m (.s) (.b)),.l (.m (.s) (.b)),.l (.m (.s) (.b)),.l (.m (.s) (.b)),.l (.m (.s) (.b)),.l (.m (.s) (.b)),i6,i6,.s,.l (.st 0)]
def k42:List TC:=[.l (.st 11),i6,.b,.l (.st 1),.l (.st 3),.l (.st 5),.l (.st 7),.l (.st 8),.l (.st 10),.l (.st 9),.l (.m (.s) (.b)),.l (.m (.s) (.b)),.l (.m (.s) (.b)),.l (.m (.s) (.b)),.l (.m (.s) (.b)),.l (.m (.s) (.b)),i6,.s,.l (.st 0)]
def h43(v0 v1 v2 v3 v4 v5 v6 v7 v8 v9 v10 v11:Nat):List (Nat×TO):=[(v0,.box 37 [dI v1,dI v2,.d .s v3,.d .s v4,.d (.l (.st 0)) v5]),(v6,.box 37 [dI v7,dI v8,.d .s v9,.d .s v10,.d (.l (.st 0)) v11])]
def h44(v0 v1 v2 v3 v4 v5 v6 v7 v8 v9 v10:Nat):List (Nat×TO):=[(1000004,.box 37 [dI v0,dI v0,.d .s v1,.d .s v1,.d (.l (.st 0)) v2]),(1000005,.box 37 [dI v3,dI v4,.d .s v5,.d .s v6,.d (.l (.st 0)) v7]),(1000007,.box 184 [.d .s v8,dI v9,dI v10])]
def k45:List TC:=[.l (.st 11),i6,i6,.b,.l (.st 1),.l (.st 3),.l (.st 5),.l (.st 7),.l (.st 8),.l (.st 10),.l (.st 9),.l (.m (.s) (.b)),.l (.m (.s) (.b)),.l (.m (.s) (.b)),.l (.m (.s) (.b)),.l (.m (.s) (.b)),.l (.m (.s) (.b)),i6,i6,.l (.st 12),i6,i6,.s,.l (.st 0),i6,i6,.s,.s,.l (.st 0)]
def k46:List TC:=[.l (.st 11),i6,i6,.b,.l (.st 1),.l (.st 3),.l (.st 5),.l (.st 7),.l (.st 8),.l (.st 10),.l (.st 9),.l (.m (.s) (.b)),.l (.m (.s) (.b)),.l (.m (.s) (.b)),.l (.m (.s) (.b)),.l (.m (.s) (.b)),.l (.m (.s) (.b)),i6,i6,.l (.st 12),i6,i6,i6,.s,.l (.st 0),i6,i6,.s,.s,.l (.st 0)]
def k47:List TC:=[.l (.st 11),i6,i6,.b,.l (.st 1),.l (.st 3),.l (.st 5),.l (.st 7),.l (.st 8),.l (.st 10),.l (.st 9),.l (.m (.s) (.b)),.l (.m (.s) (.b)),.l (.m (.s) (.b)),.l (.m (.s) (.b)),.l (.m (.s) (.b)),.l (.m (.s) (.b)),i6,i6,.s,.l (.st 0),i6,i6,.s,.s,.l (.st 0),.s,i6,i6]
def h48(v0 v1 v2 v3 v4 v5 v6 v7 v8 v9 v10 v11 v12 v13 v14 v15:Nat):List (Nat×TO):=[(1,.box 71 [.d (.l (.st 11)) 0,dI v0,.row 6 2,.row 3 3,.row 3 4,.row 20 5,.row 4 6,.row 6 7,.nrow 3 8,dI v1,.om 9,.om v2,.om 11,.om 12,.om 13,.om 14,.d .b v3]),(2,.row 57 (.st 1) v4 false),(3,.row 87 (.st 3) v5 false),(4,.row 64 (.st 5) v6 false),(5,.row 94 (.st 7) v7 false),(6,.row 96 (.st 8) v8 false),(7,.row 100 (.st 10) v9 false),(8,.row 98 (.st 9) v10 false),(9,.gn 7 (.l (.m (.s) (.b))) v11),(10,.rw 0),(11,.gn 7 (.l (.m (.s) (.b))) v12),(12,.gn 7 (.l (.m (.s) (.b))) v13),(13,.gn 7 (.l (.m (.s) (.b))) v14),(14,.gn 7 (.l (.m (.s) (.b))) v15)]
def h49(v0 v1:Nat):List (Nat×TO):=[(1,.box 71 [.d (.l (.st 11)) 0,dI v0,.row 6 2,.row 3 3,.row 3 4,.row 20 5,.row 4 6,.row 6 7,.nrow 3 8,dI 9,.om 9,.om 10,.om 11,.om 12,.om 13,.om 14,.d .b 16]),(2,.row 57 (.st 1) 2 false),(3,.row 87 (.st 3) 3 false),(4,.row 64 (.st 5) 4 false),(5,.row 94 (.st 7) 5 false),(6,.row 96 (.st 8) 6 false),(7,.row 100 (.st 10) 7 false),(8,.row 98 (.st 9) 8 false),(9,.gn 7 (.l (.m (.s) (.b))) 10),(10,.gn 7 (.l (.m (.s) (.b))) 11),(11,.gn 7 (.l (.m (.s) (.b))) 12),(12,.gn 7 (.l (.m (.s) (.b))) 13),(13,.gn 7 (.l (.m (.s) (.b))) 14),(14,.gn 7 (.l (.m (.s) (.b))) 15),(15,.map (.s) (.b) v1)]
def k50:List TC:=[.l (.st 11),i6,.l (.st 1),.l (.st 3),.l (.st 5),.l (.st 7),.l (.st 8),.l (.st 10),.l (.st 9),i6,.l (.m (.s) (.b)),.l (.m (.s) (.b)),.l (.m (.s) (.b)),.l (.m (.s) (.b)),.l (.m (.s) (.b)),.l (.m (.s) (.b)),.b,.m (.s) (.b)]
def h51:List (Nat×TO):=[(103000500,.gn 7 (.l (.m (.s) (.b))) 15),(1000002,.box 87 [.d .s 16,.row 2 1001000002001,dI 17]),(1000007,.map (.s) (.b) 19),(1001000002001,.row 119 (.st 2) 20 false)]
def k52:List TC:=[.l (.st 11),i6,.b,.l (.st 1),.l (.st 3),.l (.st 5),.l (.st 7),.l (.st 8),.l (.st 10),.l (.st 9),.l (.m (.s) (.b)),.l (.m (.s) (.b)),.l (.m (.s) (.b)),.l (.m (.s) (.b)),.l (.m (.s) (.b)),.l (.m (.s) (.b)),.s,i6]
def h53:List (Nat×TO):=[(103000500,.gn 7 (.l (.m (.s) (.b))) 15),(1000002,.box 87 [.d .s 16,.row 2 1001000002001,dI 17]),(1001000002001,.row 119 (.st 2) 19 false)]
def h54(v0 v1 v2 v3 v4 v5 v6 v7 v8 v9 v10 v11 v12:Nat):List (Nat×TO):=[(1,.box 71 [.d (.l (.st 11)) 0,dI v0,.row 6 2,.row 3 3,.row 3 4,.row 20 5,.row 4 6,.row 6 7,.nrow 3 8,dI v1,.om 9,.om 10,.om v2,.om 12,.om 13,.om 14,.d .b v3]),(2,.row 57 (.st 1) v4 false),(3,.row 87 (.st 3) v5 false),(4,.row 64 (.st 5) v6 false),(5,.row 94 (.st 7) v7 false),(6,.row 96 (.st 8) v8 false),(7,.row 100 (.st 10) v9 false),(8,.row 98 (.st 9) v10 false),(9,.gn 7 (.l (.m (.s) (.b))) v11),(10,.gn 7 (.l (.m (.s) (.b))) v12),(11,.rw 0),(12,.gn 7 (.l (.m (.s) (.b))) 13),(13,.gn 7 (.l (.m (.s) (.b))) 14),(14,.gn 7 (.l (.m (.s) (.b))) 15)]
def k55:List TC:=[.l (.st 11),i6,.b,.l (.st 1),.l (.st 3),.l (.st 5),.l (.st 7),.l (.st 8),.l (.st 10),.l (.st 9),.l (.m (.s) (.b)),.l (.m (.s) (.b)),.l (.m (.s) (.b)),.l (.m (.s) (.b)),.l (.m (.s) (.b)),.l (.m (.s) (.b))]
def h56(v0 v1 v2 v3 v4 v5 v6 v7 v8 v9 v10 v11 v12 v13 v14 v15:Nat):List (Nat×TO):=[(1,.box 71 [.d (.l (.st 11)) 0,dI v0,.row 6 2,.row 3 3,.row 3 4,.row 20 5,.row 4 6,.row 6 7,.nrow 3 8,dI v1,.om 9,.om 10,.om 11,.om v2,.om 13,.om 14,.d .b v3]),(2,.row 57 (.st 1) v4 false),(3,.row 87 (.st 3) v5 false),(4,.row 64 (.st 5) v6 false),(5,.row 94 (.st 7) v7 false),(6,.row 96 (.st 8) v8 false),(7,.row 100 (.st 10) v9 false),(8,.row 98 (.st 9) v10 false),(9,.gn 7 (.l (.m (.s) (.b))) v11),(10,.gn 7 (.l (.m (.s) (.b))) v12),(11,.gn 7 (.l (.m (.s) (.b))) v13),(12,.rw 0),(13,.gn 7 (.l (.m (.s) (.b))) v14),(14,.gn 7 (.l (.m (.s) (.b))) v15)]
def h57(v0 v1:Nat):List (Nat×TO):=[(v0,.row 9 (.s) v1 false)]
def k58:List TC:=[.l (.st 11),i6,i6,.b,.l (.st 1),.l (.st 3),.l (.st 5),.l (.st 7),.l (.st 8),.l (.st 10),.l (.st 9),.l (.m (.s) (.b)),.l (.m (.s) (.b)),.l (.m (.s) (.b)),.l (.m (.s) (.b)),.l (.m (.s) (.b)),.l (.m (.s) (.b)),i6,i6]
def h59(v0 v1 v2 v3 v4 v5 v6 v7 v8 v9 v10 v11 v12 v13 v14 v15 v16 v17 v18:Nat):List (Nat×TO):=[(103000400,.gn 7 (.l (.m (.s) (.b))) 15),(1000002,.box 94 [.d .s 16,.d (.l (.s)) v0,.d (.l (.s)) v1,dI v2,dI v3,dI v4,.d .b v5,dI v6,dI v7,dI v8,.d .s v9,.d .s v10,.d (.l (.st 0)) v11,dI v12,dI v13,dI v14,dI v15,dI v16,dI v17,dI v18])]
def k60:List TC:=[.l (.st 11),i6,.b,.l (.st 1),.l (.st 3),.l (.st 5),.l (.st 7),.l (.st 8),.l (.st 10),.l (.st 9),.l (.m (.s) (.b)),.l (.m (.s) (.b)),.l (.m (.s) (.b)),.l (.m (.s) (.b)),.l (.m (.s) (.b)),.l (.m (.s) (.b)),.s,.l (.s),i6,.b,.s,.l (.st 0)]
def k61:List TC:=[.l (.st 11),i6,.b,.l (.st 1),.l (.st 3),.l (.st 5),.l (.st 7),.l (.st 8),.l (.st 10),.l (.st 9),.l (.m (.s) (.b)),.l (.m (.s) (.b)),.l (.m (.s) (.b)),.l (.m (.s) (.b)),.l (.m (.s) (.b)),.l (.m (.s) (.b)),.s,.l (.s),.l (.s),i6,.b,.s,.l (.st 0)]
def k62:List TC:=[.l (.st 11),i6,.b,.l (.st 1),.l (.st 3),.l (.st 5),.l (.st 7),.l (.st 8),.l (.st 10),.l (.st 9),.l (.m (.s) (.b)),.l (.m (.s) (.b)),.l (.m (.s) (.b)),.l (.m (.s) (.b)),.l (.m (.s) (.b)),.l (.m (.s) (.b)),.s,.l (.s),.l (.s),i6,i6,.b,.s,.l (.st 0)]
def k63:List TC:=[.l (.st 11),i6,.b,.l (.st 1),.l (.st 3),.l (.st 5),.l (.st 7),.l (.st 8),.l (.st 10),.l (.st 9),.l (.m (.s) (.b)),.l (.m (.s) (.b)),.l (.m (.s) (.b)),.l (.m (.s) (.b)),.l (.m (.s) (.b)),.l (.m (.s) (.b)),.s,.l (.s),.l (.s),i6,i6,.b,i6,.s,.l (.st 0)]
def k64:List TC:=[.l (.st 11),i6,.b,.l (.st 1),.l (.st 3),.l (.st 5),.l (.st 7),.l (.st 8),.l (.st 10),.l (.st 9),.l (.m (.s) (.b)),.l (.m (.s) (.b)),.l (.m (.s) (.b)),.l (.m (.s) (.b)),.l (.m (.s) (.b)),.l (.m (.s) (.b)),.s,.l (.s),.l (.s),i6,i6,i6,.b]
def k65:List TC:=[i6,i6,i6,i6,.s,.s,.l (.st 0),i6,i6,i6,i6,i6,i6,i6]
def h66(v0 v1 v2 v3 v4 v5 v6 v7 v8 v9 v10 v11 v12 v13 v14:Nat):List (Nat×TO):=[(1,.box 71 [.d (.l (.st 11)) 0,dI v0,.row 6 2,.row 3 3,.row 3 4,.row 20 5,.row 4 6,.row 6 7,.nrow 3 8,dI v1,.om 9,.om 10,.om 11,.om 12,.om v2,.om 14,.d .b v3]),(2,.row 57 (.st 1) v4 false),(3,.row 87 (.st 3) v5 false),(4,.row 64 (.st 5) v6 false),(5,.row 94 (.st 7) v7 false),(6,.row 96 (.st 8) v8 false),(7,.row 100 (.st 10) v9 false),(8,.row 98 (.st 9) v10 false),(9,.gn 7 (.l (.m (.s) (.b))) v11),(10,.gn 7 (.l (.m (.s) (.b))) v12),(11,.gn 7 (.l (.m (.s) (.b))) v13),(12,.gn 7 (.l (.m (.s) (.b))) v14),(13,.rw 0),(14,.gn 7 (.l (.m (.s) (.b))) 15)]
def h67(v0 v1 v2 v3 v4 v5 v6 v7 v8 v9 v10 v11 v12 v13 v14 v15:Nat):List (Nat×TO):=[(1,.box 71 [.d (.l (.st 11)) 0,dI v0,.row 6 2,.row 3 3,.row 3 4,.row 20 5,.row 4 6,.row 6 7,.nrow 3 8,dI v1,.om 9,.om 10,.om 11,.om 12,.om 13,.om v2,.d .b v3]),(2,.row 57 (.st 1) v4 false),(3,.row 87 (.st 3) v5 false),(4,.row 64 (.st 5) v6 false),(5,.row 94 (.st 7) v7 false),(6,.row 96 (.st 8) v8 false),(7,.row 100 (.st 10) v9 false),(8,.row 98 (.st 9) v10 false),(9,.gn 7 (.l (.m (.s) (.b))) v11),(10,.gn 7 (.l (.m (.s) (.b))) v12),(11,.gn 7 (.l (.m (.s) (.b))) v13),(12,.gn 7 (.l (.m (.s) (.b))) v14),(13,.gn 7 (.l (.m (.s) (.b))) v15),(14,.rw 0)]
def h68:List (Nat×TO):=[(103000400,.gn 7 (.l (.m (.s) (.b))) 15),(1000002,.box 100 [.d .s 16,dI 17,dI 18,dI 19,dI 20,.row 3 1001000002005]),(1001000002005,.row 98 (.st 9) 22 false)]
def k69:List TC:=[.l (.st 11),i6,.b,.l (.st 1),.l (.st 3),.l (.st 5),.l (.st 7),.l (.st 8),.l (.st 10),.l (.st 9),.l (.m (.s) (.b)),.l (.m (.s) (.b)),.l (.m (.s) (.b)),.l (.m (.s) (.b)),.l (.m (.s) (.b)),.l (.m (.s) (.b)),.s,i6,i6,i6,i6]
def k70:List TC:=[.l (.st 11),i6,.b,.l (.st 1),.l (.st 3),.l (.st 5),.l (.st 7),.l (.st 8),.l (.st 10),.l (.m (.s) (.b)),.l (.m (.s) (.b)),.l (.m (.s) (.b)),.l (.m (.s) (.b)),.l (.m (.s) (.b)),.l (.m (.s) (.b))]
def k71:List TC:=[.l (.st 11),i6,i6,.b,.l (.st 1),.l (.st 3),.l (.st 5),.l (.st 7),.l (.st 8),.l (.st 10),.l (.st 9),.l (.m (.s) (.b)),.l (.m (.s) (.b)),.l (.m (.s) (.b)),.l (.m (.s) (.b)),.l (.m (.s) (.b)),.l (.m (.s) (.b))]
def h72(v0 v1 v2 v3 v4 v5 v6 v7 v8 v9 v10 v11 v12 v13 v14 v15:Nat):List (Nat×TO):=[(1,.box 71 [.d (.l (.st 11)) 0,dI v0,.row 6 2,.row 3 3,.row 3 4,.row 20 5,.row 4 6,.row 6 7,.nrow 3 8,dI v1,.om v2,.om v3,.om v4,.om v5,.om v6,.om v7,.d .b v8]),(2,.row 57 (.st 1) v9 false),(3,.row 87 (.st 3) v10 false),(4,.row 64 (.st 5) v11 false),(5,.row 94 (.st 7) v12 false),(6,.row 96 (.st 8) v13 false),(7,.row 100 (.st 10) v14 false),(8,.row 98 (.st 9) v15 false),(9,.rw 0),(10,.rw 0),(11,.rw 0),(12,.rw 0),(13,.rw 0),(14,.rw 0)]
def h73(v0 v1 v2 v3 v4 v5 v6 v7 v8 v9 v10 v11:Nat):List (Nat×TO):=[(v0,.gn 7 (.l (.m (.s) (.b))) v1),(v2,.gn 7 (.l (.m (.s) (.b))) v3),(v4,.gn 7 (.l (.m (.s) (.b))) v5),(v6,.gn 7 (.l (.m (.s) (.b))) v7),(v8,.gn 7 (.l (.m (.s) (.b))) v9),(v10,.gn 7 (.l (.m (.s) (.b))) v11)]
def k74:List TC:=[i6,i6,.b,.l (.st 1),.l (.st 3),.l (.st 5),.l (.st 7),.l (.st 8),.l (.st 10),.l (.st 9),.l (.m (.s) (.b)),.l (.m (.s) (.b)),.l (.m (.s) (.b)),.l (.m (.s) (.b)),.l (.m (.s) (.b)),.l (.m (.s) (.b))]
def h75(v0 v1 v2 v3 v4 v5 v6 v7 v8 v9 v10 v11 v12 v13 v14:Nat):List (Nat×TO):=[(900000000,.rw 1),(900000001,.rw 2),(900000002,.rw 3),(900000003,.rw 4),(v0,.box 31 [.row 6 v1,.row 3 v2,.row 3 v3,.row 20 v4,.row 4 v5,.row 6 v6,.d (.l (.st 9)) v7,dI v8]),(v1,.row 57 (.st 1) v9 false),(v2,.row 87 (.st 3) v10 false),(v3,.row 64 (.st 5) v11 false),(v4,.row 94 (.st 7) v12 false),(v5,.row 96 (.st 8) v13 false),(v6,.row 100 (.st 10) v14 false)]
def k76:List TC:=[i6,i6,.l (.st 9),i6,.l (.st 1),.l (.st 3),.l (.st 5),.l (.st 7),.l (.st 8),.l (.st 10)]
def h77(v0:Nat):List (Nat×TO):=[(900000000,.rw 1),(900000001,.rw 2),(900000002,.rw 3),(900000003,.rw 4),(7000001,.row 9 (.s) v0 false)]
def h78(v0 v1 v2 v3 v4 v5 v6 v7 v8 v9 v10 v11 v12 v13 v14 v15 v16 v17 v18 v19 v20 v21 v22 v23 v24 v25 v26 v27 v28 v29 v30 v31 v32 v33 v34 v35 v36 v37 v38 v39:Nat):List (Nat×TO):=[(1000002,.box 94 [.d .s v0,.d (.l (.s)) v1,.d (.l (.s)) v2,dI v3,dI v4,dI v5,.d .b v6,dI v7,dI v8,dI v9,.d .s v10,.d .s v11,.d (.l (.st 0)) v12,dI v13,dI v14,dI v15,dI v16,dI v17,dI v18,dI v19]),(1000003,.box 94 [.d .s v20,.d (.l (.s)) v21,.d (.l (.s)) v22,dI v23,dI v24,dI v25,.d .b v26,dI v27,dI v28,dI v29,.d .s v30,.d .s v31,.d (.l (.st 0)) v32,dI v33,dI v34,dI v35,dI v36,dI v37,dI v38,dI v39])]
def k79:List TC:=[.s,.l (.s),.l (.s),i6,i6,i6,.b,i6,i6,i6,.s,.s,.l (.st 0),i6,i6,i6,i6,i6,i6,i6,.s,.l (.s),.l (.s),i6,i6,i6,.b,i6,i6,i6,.s,.s,.l (.st 0),i6,i6,i6,i6,i6,i6,i6]
def k80:List TC:=[.s,.l (.s),.l (.s),i6,i6,i6,.b,i6,i6,i6,.s,.s,.l (.st 0),i6,i6,i6,i6,i6,i6,i6]
def h81(v0 v1 v2 v3 v4 v5 v6 v7 v8:Nat):List (Nat×TO):=[(900000000,.rw 1),(900000001,.rw 2),(900000002,.rw 3),(900000003,.rw 4),(v0,.box 31 [.d (.l (.st 1)) v1,.d (.l (.st 3)) v2,.d (.l (.st 5)) v3,.d (.l (.st 7)) v4,.d (.l (.st 8)) v5,.d (.l (.st 10)) v6,.d (.l (.st 9)) v7,dI v8])]
def k82:List TC:=[.l (.st 1),i6,.l (.st 3),.l (.st 5),.l (.st 7),.l (.st 8),.l (.st 10),.l (.st 9),i6]
def k83:List TC:=[.l (.st 3),i6,.l (.st 1),.l (.st 5),.l (.st 7),.l (.st 8),.l (.st 10),.l (.st 9),i6]
def k84:List TC:=[.l (.st 5),i6,.l (.st 1),.l (.st 3),.l (.st 7),.l (.st 8),.l (.st 10),.l (.st 9),i6]
def k85:List TC:=[.l (.st 7),i6,.l (.st 1),.l (.st 3),.l (.st 5),.l (.st 8),.l (.st 10),.l (.st 9),i6]
def k86:List TC:=[.l (.st 8),i6,.l (.st 1),.l (.st 3),.l (.st 5),.l (.st 7),.l (.st 10),.l (.st 9),i6]
def k87:List TC:=[.l (.st 10),i6,.l (.st 1),.l (.st 3),.l (.st 5),.l (.st 7),.l (.st 8),.l (.st 9),i6]
def h88(v0 v1 v2 v3 v4 v5 v6 v7:Nat):List (Nat×TO):=[(900000000,.rw 1),(900000001,.rw 2),(900000002,.rw 3),(900000003,.rw 4),(1000001,.box 31 [.d (.l (.st 1)) v0,.d (.l (.st 3)) v1,.d (.l (.st 5)) v2,.d (.l (.st 7)) v3,.d (.l (.st 8)) v4,.d (.l (.st 10)) 0,.d (.l (.st 9)) v5,dI v6]),(1000170,.row 98 (.st 9) v7 false)]
def k89:List TC:=[.l (.st 9),i6,.l (.st 1),.l (.st 3),.l (.st 5),.l (.st 7),.l (.st 8),.l (.st 10),i6]
def h90(v0 v1 v2 v3 v4 v5 v6 v7 v8 v9 v10 v11 v12 v13 v14 v15 v16 v17 v18 v19 v20 v21:Nat):List (Nat×TO):=[(1,.gn 1 (.s) v0),(900000000,.rw 1),(900000001,.rw 2),(900000002,.rw 3),(900000003,.rw 4),(1000003,.box 94 [.d .s v1,.d (.l (.s)) v2,.d (.l (.s)) v3,dI v4,dI v5,dI v6,.d .b v7,dI v8,dI v9,dI v10,.d .s v11,.d .s v12,.d (.l (.st 0)) v13,dI v14,dI v15,dI v16,dI v17,dI v18,dI v19,dI v20]),(1000022,.row 58 (.l (.s)) v21 false)]
def h91(v0 v1 v2 v3 v4 v5 v6 v7 v8 v9 v10 v11 v12 v13 v14 v15 v16 v17 v18 v19 v20:Nat):List (Nat×TO):=[(1,.gn 1 (.s) v0),(900000000,.rw 1),(900000001,.rw 2),(900000002,.rw 3),(900000003,.rw 4),(1000003,.box 94 [.d .s v1,.d (.l (.s)) v2,.d (.l (.s)) v3,dI v4,dI v5,dI v6,.d .b v7,dI v8,dI v9,dI v10,.d .s v11,.d .s v12,.d (.l (.st 0)) v13,dI v14,dI v15,dI v16,dI v17,dI v18,dI v19,dI v20])]
def h92(v0 v1 v2 v3 v4 v5 v6 v7 v8 v9 v10 v11 v12 v13 v14 v15 v16 v17 v18 v19 v20 v21:Nat):List (Nat×TO):=[(1,.gn 1 (.s) v0),(900000000,.rw 1),(900000001,.rw 2),(900000002,.rw 3),(900000003,.rw 4),(1000003,.box 94 [.d .s v1,.d (.l (.s)) v2,.d (.l (.s)) v3,dI v4,dI v5,dI v6,.d .b v7,dI v8,dI v9,dI v10,.d .s v11,.d .s v12,.d (.l (.st 0)) v13,dI v14,dI v15,dI v16,dI v17,dI v18,dI v19,dI v20]),(1000050,.row 3 i6 v21 false)]
def h93(v0 v1 v2 v3 v4 v5 v6 v7 v8 v9 v10 v11 v12 v13 v14 v15 v16 v17 v18 v19 v20 v21:Nat):List (Nat×TO):=[(1,.gn 1 (.s) v0),(900000000,.rw 1),(900000001,.rw 2),(900000002,.rw 3),(900000003,.rw 4),(1000003,.box 94 [.d .s v1,.d (.l (.s)) v2,.d (.l (.s)) v3,dI v4,dI v5,dI v6,.d .b v7,dI v8,dI v9,dI v10,.d .s v11,.d .s v12,.d (.l (.st 0)) v13,dI v14,dI v15,dI v16,dI v17,dI v18,dI v19,dI v20]),(103008000,.row 9 (.s) v21 false)]
def h94(v0 v1 v2 v3 v4 v5 v6 v7 v8:Nat):List (Nat×TO):=[(900000000,.rw 1),(900000001,.rw 2),(900000002,.rw 3),(900000003,.rw 4),(1000001,.box 31 [.d (.l (.st 1)) v0,.d (.l (.st 3)) v1,.d (.l (.st 5)) v2,.d (.l (.st 7)) v3,.d (.l (.st 8)) v4,.d (.l (.st 10)) v5,.d (.l (.st 9)) v6,dI v7]),(1000028,.gn 1 (.s) v8)]
def h95(v0:Nat):List (Nat×TO):=[(900000000,.rw 1),(900000001,.rw 2),(900000002,.rw 3),(900000003,.rw 4),(1000001,.box 31 [.d (.l (.st 1)) 5,.d (.l (.st 3)) 0,.d (.l (.st 5)) 6,.d (.l (.st 7)) 7,.d (.l (.st 8)) 8,.d (.l (.st 10)) 9,.d (.l (.st 9)) 10,dI 11]),(1000028,.gn 1 (.s) v0),(1000008,.box 87 [.d .s 12,.d (.l (.st 2)) 3,dI 13])]
def k96:List TC:=[.b,.l (.st 9),i6,.l (.st 1),.l (.st 3),.l (.st 5),.l (.st 7),.l (.st 8),.l (.st 10)]
def h97(v0 v1 v2:Nat):List (Nat×TO):=[(1,.box 76 [.d (.l (.st 11)) 0,dI v0,dI v1,dI v2])]
def k98:List TC:=[.l (.st 11),i6,i6,i6,i6]
def h99(v0 v1 v2 v3 v4 v5 v6 v7 v8:Nat):List (Nat×TO):=[(1000002,.box 31 [.d (.l (.st 1)) v0,.d (.l (.st 3)) v1,.d (.l (.st 5)) v2,.d (.l (.st 7)) v3,.d (.l (.st 8)) v4,.d (.l (.st 10)) v5,.d (.l (.st 9)) v6,dI v7]),(7000001,.row 9 (.s) v8 false)]
def zMe:List TC:=[i6,.l (.st 1),.l (.st 3),.l (.st 5),.l (.st 7),.l (.st 8),.l (.st 10),.l (.st 9),i6]
def zMf:List TC:=[i6,i6,.l (.st 1),.l (.st 3),.l (.st 5),.l (.st 7),.l (.st 8),.l (.st 10),.l (.st 9),i6,.l (.s)]
def zOk(v0 v1 v2 v3 v4 v5 v6 v7 v8:Nat):List (Nat×TO):=[(1,.box 76 [.d (.l (.st 11)) 0,dI v0,dI v1,dI v2]),(v3,.box 37 [dI v4,dI v5,.d .s v6,.d .s v7,.d (.l (.st 0)) v8])]
def k103:List TC:=[.l (.st 11),i6,i6,i6,i6,i6,.s,.l (.st 0)]
def h104:List (Nat×TO):=[(1,.box 76 [.d (.l (.st 11)) 0,dI 5,dI 6,dI 7]),(1000004,.box 37 [dI 2,dI 2,.d .s 3,.d .s 3,.d (.l (.st 0)) 4]),(1000007,.box 37 [dI 8,dI 9,.d .s 10,.d .s 11,.d (.l (.st 0)) 12])]
def zMg:List TC:=[.l (.st 11),i6,i6,i6,.l (.s)]
def zDw(v0 v1 v2 v3 v4 v5:Nat):List (Nat×TO):=[(1,.box 76 [.d (.l (.st 11)) 0,dI v0,dI v1,dI v2]),(7000001,.row v3 (.st v4) v5 false)]
def h107:List (Nat×TO):=[(1,.box 76 [.d (.l (.st 11)) 0,dI 1,dI 2,dI 3]),(7000001,.row 9 (.s) 4 false)]
def zRs:List TC:=[i6,i6,i6,.l (.s)]
def h109:List (Nat×TO):=[(1,.box 76 [.d (.l (.st 11)) 0,dI 5,dI 6,dI 7]),(7000001,.box 94 [.d .s 8,.d (.l (.s)) 9,.d (.l (.s)) 10,dI 11,dI 12,dI 13,.d .b 14,dI 15,dI 16,dI 17,.d .s 18,.d .s 19,.d (.l (.st 0)) 20,dI 21,dI 22,dI 23,dI 24,dI 25,dI 26,dI 27])]
def k110:List TC:=[i6,i6,i6,.s,.l (.s),.l (.s),i6,i6,i6,.b,i6,i6,i6,.s,.s,.l (.st 0),i6,i6,i6,i6,i6,i6,i6]
def zMh(v0 v1 v2 v3 v4 v5 v6 v7 v8 v9 v10 v11 v12 v13 v14:Nat):List (Nat×TO):=[(1,.box 76 [.d (.l (.st 11)) 0,dI v0,dI v1,dI v2]),(1000004,.box 94 [.d .s v3,.d (.l (.s)) v4,.d (.l (.s)) v4,dI v5,dI v5,dI v5,.d .b v6,dI v5,dI v5,dI v5,.d .s v3,.d .s v3,.d (.l (.st 0)) v7,dI v5,dI v5,dI v5,dI v5,dI v5,dI v5,dI v5]),(1000005,.box 94 [.d .s v8,.d (.l (.s)) v9,.d (.l (.s)) v10,dI v11,dI v12,dI v13,.d .b v14,dI v5,dI v5,dI v5,.d .s v3,.d .s v3,.d (.l (.st 0)) v7,dI v5,dI v5,dI v5,dI v5,dI v5,dI v5,dI v5])]
def zRt(v0 v1 v2 v3 v4 v5 v6 v7 v8 v9 v10 v11:Nat):List (Nat×TO):=[(1,.box 76 [.d (.l (.st 11)) 0,dI v0,dI v1,dI v2]),(1000004,.box 100 [.d .s v3,dI v4,dI v4,dI v4,dI v4,.row 3 1001000004005]),(1000005,.box 100 [.d .s v5,dI v6,dI v7,dI v8,dI v9,.row 3 1001000005005]),(1001000004005,.row 98 (.st 9) v10 false),(1001000005005,.row 98 (.st 9) v11 false)]
def zRu:List TC:=[i6,i6,i6,.l (.st 9)]
def k114:List TC:=[i6,i6,i6,.l (.st 9),i6,.l (.st 1),.l (.st 3),.l (.st 5),.l (.st 7),.l (.st 8),.l (.st 10)]
def zMi(v0 v1 v2 v3 v4 v5 v6 v7 v8 v9 v10 v11 v12 v13 v14 v15 v16 v17 v18:Nat):List (Nat×TO):=[(1,.box 76 [.d (.l (.st 11)) 0,dI v0,dI v1,dI v2]),(1000002,.box 31 [.row 6 1001000002000,.row 3 1001000002001,.row 3 1001000002002,.row 20 1001000002003,.row 4 1001000002004,.row 6 1001000002005,.d (.l (.st 9)) v3,dI v4]),(1000003,.box 31 [.row 6 1001000003000,.row 3 1001000003001,.row 3 1001000003002,.row 20 1001000003003,.row 4 1001000003004,.row 6 1001000003005,.d (.l (.st 9)) v5,dI v6]),(1001000002000,.row 57 (.st 1) v7 true),(1001000002001,.row 87 (.st 3) v8 true),(1001000002002,.row 64 (.st 5) v9 true),(1001000002003,.row 94 (.st 7) v10 true),(1001000002004,.row 96 (.st 8) v11 true),(1001000002005,.row 100 (.st 10) v12 true),(1001000003000,.row 57 (.st 1) v13 true),(1001000003001,.row 87 (.st 3) v14 true),(1001000003002,.row 64 (.st 5) v15 true),(1001000003003,.row 94 (.st 7) v16 true),(1001000003004,.row 96 (.st 8) v17 true),(1001000003005,.row 100 (.st 10) v18 true)]
def zRv(v0 v1 v2 v3 v4 v5 v6:Nat):List (Nat×TO):=[(1000002,.box 37 [dI 0,dI 0,.d .s 1,.d .s 1,.d (.l (.st 0)) 2]),(1000023,.box 76 [.d (.l (.st 11)) 3,dI 4,dI v0,dI v1]),(1000009,.box 37 [dI v2,dI v3,.d .s v4,.d .s v5,.d (.l (.st 0)) v6])]
def k117:List TC:=[i6,.s,.l (.st 0),.l (.st 11),i6,i6,i6,.s,.s,.l (.st 0)]
def k118:List TC:=[i6,.s,.l (.st 0),.l (.st 11),i6,i6,i6,i6,i6,.s,.s,.l (.st 0)]
def k119:List TC:=[i6,i6,.s,.s,.l (.st 0),i6,i6,.s,.s,.l (.st 0)]
def zk3(v0 v1 v2 v3 v4 v5 v6 v7 v8 v9 v10 v11 v12 v13 v14 v15:Nat):List (Nat×TO):=[(1000002,.box 31 [.d (.l (.st 1)) v0,.d (.l (.st 3)) v1,.d (.l (.st 5)) v2,.d (.l (.st 7)) v3,.d (.l (.st 8)) v4,.d (.l (.st 10)) v5,.d (.l (.st 9)) v6,dI v7]),(1000003,.box 31 [.d (.l (.st 1)) v8,.d (.l (.st 3)) v9,.d (.l (.st 5)) v10,.d (.l (.st 7)) v11,.d (.l (.st 8)) v12,.d (.l (.st 10)) v13,.d (.l (.st 9)) v14,dI v15])]
def zJ9:List TC:=[.l (.st 1),.l (.st 3),.l (.st 5),.l (.st 7),.l (.st 8),.l (.st 10),.l (.st 9),i6,.l (.st 1),.l (.st 3),.l (.st 5),.l (.st 7),.l (.st 8),.l (.st 10),.l (.st 9),i6]
def zOl:List TC:=[i6,.l (.st 1),.l (.st 3),.l (.st 5),.l (.st 7),.l (.st 8),.l (.st 10),.l (.st 9),i6,.l (.st 1),.l (.st 3),.l (.st 5),.l (.st 7),.l (.st 8),.l (.st 10),.l (.st 9),i6]
def zF8:Nat→Type
 |0=>Expr
 |1=>Def
 |2=>Entry
 |3=>Table
 |4=>zG
 |5=>yl
 |6=>zE
 |7=>zX
 |8=>Cap
 |9=>zf
 |10=>View
 |11=>Token
 |12=>zg
 |13=>zI
 |14=>wB
 |_=>Unit
def TS0:Tab where
 T:=zF8
 dflt:=fun n=>match n with
  |0=>(default:Expr)
  |1=>(default:Def)
  |2=>(default:Entry)
  |3=>(default:Table)
  |4=>(default:zG)
  |5=>(default:yl)
  |6=>(default:zE)
  |7=>(default:zX)
  |8=>(default:Cap)
  |9=>(default:zf)
  |10=>(default:View)
  |11=>(default:Token)
  |12=>(default:zg)
  |13=>(default:zI)
  |14=>(default:wB)
  |_+15=>()
 fl:=fun n=>match n with
  |0=>[i6,i6,.s,.s,.l (.st 0)]
  |1=>[.s,.st 0]
  |2=>[.s,i6]
  |3=>[.s,.l (.st 2),i6]
  |4=>[i6,i6]
  |5=>[.s,.b,.l (.st 4)]
  |6=>k1
  |7=>[.s,.l (.s),.l (.s),i6,i6,i6,.b,i6,.st 0,.st 6,i6,i6,i6]
  |8=>[.s,i6,i6,.l (.st 4)]
  |9=>k2
  |10=>[.s,.st 9,i6,.l (.st 9)]
  |11=>k3
  |12=>[.s,i6,i6]
  |13=>[.st 4,.st 4]
  |14=>k4
  |_+15=>[]
 cn:=fun n=>match n with
  |0=>5
  |1=>6
  |2=>2
  |3=>3
  |4=>2
  |5=>3
  |6=>4
  |7=>20
  |8=>4
  |9=>3
  |10=>6
  |11=>4
  |12=>3
  |13=>4
  |14=>8
  |_+15=>0
 out:=fun n=>match n with
  |0=>fun x=>((x:Expr).Op,(x:Expr).N,(x:Expr).S,(x:Expr).Key,(x:Expr).Args)
  |1=>fun x=>((x:Def).Name,(x:Def).Body)
  |2=>fun x=>((x:Entry).Name,(x:Entry).N)
  |3=>fun x=>((x:Table).Name,(x:Table).Rows,(x:Table).Else)
  |4=>fun x=>((x:zG).X,(x:zG).Y)
  |5=>fun x=>((x:yl).Name,(x:yl).Overlay,(x:yl).Corners)
  |6=>fun x=>((x:zE).Side,(x:zE).Base,(x:zE).Num,(x:zE).Den)
  |7=>fun x=>((x:zX).Name,(x:zX).Zones,(x:zX).Except,(x:zX).From,(x:zX).Until,(x:zX).Grace,(x:zX).Vary,(x:zX).Kind,(x:zX).Test,(x:zX).zE,(x:zX).Uses,(x:zX).Other,(x:zX).N)
  |8=>fun x=>((x:Cap).Name,(x:Cap).Load,(x:Cap).Limit,(x:Cap).Corners)
  |9=>fun x=>((x:zf).X,(x:zf).Y,(x:zf).Z_)
  |10=>fun x=>((x:View).Name,(x:View).Eye,(x:View).Least,(x:View).Targets)
  |11=>fun x=>((x:Token).Kind,(x:Token).Text,(x:Token).N,(x:Token).Pos)
  |12=>fun x=>((x:zg).text,(x:zg).op,(x:zg).form)
  |13=>fun x=>((x:zI).a,(x:zI).b)
  |14=>fun x=>((x:wB).Defs,(x:wB).Tables,(x:wB).Zones,(x:wB).Rules,(x:wB).Caps,(x:wB).Views,(x:wB).Sun,(x:wB).Hours)
  |_+15=>fun _=>()
 inj:=fun n=>match n with
  |0=>fun x=>(⟨x.1,x.2.1,x.2.2.1,x.2.2.2.1,x.2.2.2.2⟩:Expr)
  |1=>fun x=>(⟨x.1,x.2⟩:Def)
  |2=>fun x=>(⟨x.1,x.2⟩:Entry)
  |3=>fun x=>(⟨x.1,x.2.1,x.2.2⟩:Table)
  |4=>fun x=>(⟨x.1,x.2⟩:zG)
  |5=>fun x=>(⟨x.1,x.2.1,x.2.2⟩:yl)
  |6=>fun x=>(⟨x.1,x.2.1,x.2.2.1,x.2.2.2⟩:zE)
  |7=>fun x=>(⟨x.1,x.2.1,x.2.2.1,x.2.2.2.1,x.2.2.2.2.1,(p5Q x).1,(p6Q x).1,(p7Q x).1,(p8Q x).1,(p9Q x).1,(zi0 x).1,(zi1 x).1,(zi2 x)⟩:zX)
  |8=>fun x=>(⟨x.1,x.2.1,x.2.2.1,x.2.2.2⟩:Cap)
  |9=>fun x=>(⟨x.1,x.2.1,x.2.2⟩:zf)
  |10=>fun x=>(⟨x.1,x.2.1,x.2.2.1,x.2.2.2⟩:View)
  |11=>fun x=>(⟨x.1,x.2.1,x.2.2.1,x.2.2.2⟩:Token)
  |12=>fun x=>(⟨x.1,x.2.1,x.2.2⟩:zg)
  |13=>fun x=>(⟨x.1,x.2⟩:zI)
  |14=>fun x=>(⟨x.1,x.2.1,x.2.2.1,x.2.2.2.1,x.2.2.2.2.1,(p5Q x).1,(p6Q x).1,(p7Q x)⟩:wB)
  |_+15=>fun _=>()
 enc:=fun n=>match n with
  |0=>vF
  |1=>zaa
  |2=>oR
  |3=>HO
  |4=>kO
  |5=>Q0
  |6=>Q1
  |7=>Q2
  |8=>zab
  |9=>jT
  |10=>Q3
  |11=>Q4
  |12=>uc
  |13=>Hr
  |14=>zrb
  |_+15=>fun _=>[]
 ro:=fun n=>match n with
  |1=>gl0 Kd.ob0
  |2=>gl1 Kd.ob1
  |3=>gl2 Kd.ob2 Kd.m2
  |4=>gl3 Kd.ob3
  |_=>.gen gone
def goT(i:Nat):(c:TC)→c.ty zF8→EV.Obj
 |.s,x=>sb (bif Nat.beq i 0 then 108 else 123) x
 |.l (.m kc ec),x=>.gen (uJ (List.map (zcn (wG TS0 kc) (wG TS0 ec)) x))
 |_,_=>.gen gone
def glT:Nat→Option (Nat×Nat×List (List UInt8))
 |1=>some (0,200,zd2)
 |_=>none
def gaT:Nat→Option (Nat×Dy zF8×List V)
 |108=>some (0,⟨.s,([]:List UInt8)⟩,[.nilp,.nils])
 |123=>some (1,⟨.s,([]:List UInt8)⟩,[.nilp,.nils])
 |_=>none
theorem zOm(t i:Nat)(d:Dy zF8)(cs:List V)(h:gaT t=some (i,d,cs))(m:M)(Z:ZM)(w:World)(k:Nat)(hh:EV.Holds m Z w k (.box t cs)):EV.Holds m Z w k (goT i d.1 d.2)∧∀b,blk m (k,goT i d.1 d.2) b→blk m (k,.box t cs) b:=by
 unfold gaT at h;split at h
 ·cases h;exact zyd hh
 ·cases h;exact zyd hh
 ·cases h
def TS:Tab where
 T:=zF8
 dflt:=fun n=>match n with
  |0=>(default:Expr)
  |1=>(default:Def)
  |2=>(default:Entry)
  |3=>(default:Table)
  |4=>(default:zG)
  |5=>(default:yl)
  |6=>(default:zE)
  |7=>(default:zX)
  |8=>(default:Cap)
  |9=>(default:zf)
  |10=>(default:View)
  |11=>(default:Token)
  |12=>(default:zg)
  |13=>(default:zI)
  |14=>(default:wB)
  |_+15=>()
 fl:=fun n=>match n with
  |0=>[i6,i6,.s,.s,.l (.st 0)]
  |1=>[.s,.st 0]
  |2=>[.s,i6]
  |3=>[.s,.l (.st 2),i6]
  |4=>[i6,i6]
  |5=>[.s,.b,.l (.st 4)]
  |6=>k1
  |7=>[.s,.l (.s),.l (.s),i6,i6,i6,.b,i6,.st 0,.st 6,i6,i6,i6]
  |8=>[.s,i6,i6,.l (.st 4)]
  |9=>k2
  |10=>[.s,.st 9,i6,.l (.st 9)]
  |11=>k3
  |12=>[.s,i6,i6]
  |13=>[.st 4,.st 4]
  |14=>k4
  |_+15=>[]
 cn:=fun n=>match n with
  |0=>5
  |1=>6
  |2=>2
  |3=>3
  |4=>2
  |5=>3
  |6=>4
  |7=>20
  |8=>4
  |9=>3
  |10=>6
  |11=>4
  |12=>3
  |13=>4
  |14=>8
  |_+15=>0
 out:=fun n=>match n with
  |0=>fun x=>((x:Expr).Op,(x:Expr).N,(x:Expr).S,(x:Expr).Key,(x:Expr).Args)
  |1=>fun x=>((x:Def).Name,(x:Def).Body)
  |2=>fun x=>((x:Entry).Name,(x:Entry).N)
  |3=>fun x=>((x:Table).Name,(x:Table).Rows,(x:Table).Else)
  |4=>fun x=>((x:zG).X,(x:zG).Y)
  |5=>fun x=>((x:yl).Name,(x:yl).Overlay,(x:yl).Corners)
  |6=>fun x=>((x:zE).Side,(x:zE).Base,(x:zE).Num,(x:zE).Den)
  |7=>fun x=>((x:zX).Name,(x:zX).Zones,(x:zX).Except,(x:zX).From,(x:zX).Until,(x:zX).Grace,(x:zX).Vary,(x:zX).Kind,(x:zX).Test,(x:zX).zE,(x:zX).Uses,(x:zX).Other,(x:zX).N)
  |8=>fun x=>((x:Cap).Name,(x:Cap).Load,(x:Cap).Limit,(x:Cap).Corners)
  |9=>fun x=>((x:zf).X,(x:zf).Y,(x:zf).Z_)
  |10=>fun x=>((x:View).Name,(x:View).Eye,(x:View).Least,(x:View).Targets)
  |11=>fun x=>((x:Token).Kind,(x:Token).Text,(x:Token).N,(x:Token).Pos)
  |12=>fun x=>((x:zg).text,(x:zg).op,(x:zg).form)
  |13=>fun x=>((x:zI).a,(x:zI).b)
  |14=>fun x=>((x:wB).Defs,(x:wB).Tables,(x:wB).Zones,(x:wB).Rules,(x:wB).Caps,(x:wB).Views,(x:wB).Sun,(x:wB).Hours)
  |_+15=>fun _=>()
 inj:=fun n=>match n with
  |0=>fun x=>(⟨x.1,x.2.1,x.2.2.1,x.2.2.2.1,x.2.2.2.2⟩:Expr)
  |1=>fun x=>(⟨x.1,x.2⟩:Def)
  |2=>fun x=>(⟨x.1,x.2⟩:Entry)
  |3=>fun x=>(⟨x.1,x.2.1,x.2.2⟩:Table)
  |4=>fun x=>(⟨x.1,x.2⟩:zG)
  |5=>fun x=>(⟨x.1,x.2.1,x.2.2⟩:yl)
  |6=>fun x=>(⟨x.1,x.2.1,x.2.2.1,x.2.2.2⟩:zE)
  |7=>fun x=>(⟨x.1,x.2.1,x.2.2.1,x.2.2.2.1,x.2.2.2.2.1,(p5Q x).1,(p6Q x).1,(p7Q x).1,(p8Q x).1,(p9Q x).1,(zi0 x).1,(zi1 x).1,(zi2 x)⟩:zX)
  |8=>fun x=>(⟨x.1,x.2.1,x.2.2.1,x.2.2.2⟩:Cap)
  |9=>fun x=>(⟨x.1,x.2.1,x.2.2⟩:zf)
  |10=>fun x=>(⟨x.1,x.2.1,x.2.2.1,x.2.2.2⟩:View)
  |11=>fun x=>(⟨x.1,x.2.1,x.2.2.1,x.2.2.2⟩:Token)
  |12=>fun x=>(⟨x.1,x.2.1,x.2.2⟩:zg)
  |13=>fun x=>(⟨x.1,x.2⟩:zI)
  |14=>fun x=>(⟨x.1,x.2.1,x.2.2.1,x.2.2.2.1,x.2.2.2.2.1,(p5Q x).1,(p6Q x).1,(p7Q x)⟩:wB)
  |_+15=>fun _=>()
 enc:=fun n=>match n with
  |0=>vF
  |1=>zaa
  |2=>oR
  |3=>HO
  |4=>kO
  |5=>Q0
  |6=>Q1
  |7=>Q2
  |8=>zab
  |9=>jT
  |10=>Q3
  |11=>Q4
  |12=>uc
  |13=>Hr
  |14=>zrb
  |_+15=>fun _=>[]
 ro:=fun n=>match n with
  |1=>gl0 Kd.ob0
  |2=>gl1 Kd.ob1
  |3=>gl2 Kd.ob2 Kd.m2
  |4=>gl3 Kd.ob3
  |_=>.gen gone
 go:=goT
 gl:=glT
 ga:=gaT
 om:=true
theorem zJ2:TS.OK where
 enc_out:=fun n x=>match n with
  |0=>by
   show vF x=_
   unfold vF;simp only[kN];rfl
  |1=>rfl
  |2=>rfl
  |3=>rfl
  |4=>rfl
  |5=>rfl
  |6=>rfl
  |7=>rfl
  |8=>rfl
  |9=>rfl
  |10=>rfl
  |11=>rfl
  |12=>rfl
  |13=>rfl
  |14=>rfl
  |_+15=>rfl
 out_mk:=fun n h=>match n with
  |0=>rfl
  |1=>rfl
  |2=>rfl
  |3=>rfl
  |4=>rfl
  |5=>rfl
  |6=>rfl
  |7=>rfl
  |8=>rfl
  |9=>rfl
  |10=>rfl
  |11=>rfl
  |12=>rfl
  |13=>rfl
  |14=>rfl
  |_+15=>rfl
 ro0:=rfl
 rren:=fun i σ=>match i with|0=>rfl|1=>rfl|2=>rfl|3=>rfl|4=>rfl|_+5=>rfl
 rref:=fun i=>match i with|0=>rfl|1=>rfl|2=>rfl|3=>rfl|4=>rfl|_+5=>rfl
 rfrz:=fun i k=>match i with|0=>rfl|1=>rfl|2=>rfl|3=>rfl|4=>rfl|_+5=>rfl
 len:=fun n x=>match n with
  |0=>rfl
  |1=>rfl
  |2=>rfl
  |3=>rfl
  |4=>rfl
  |5=>rfl
  |6=>rfl
  |7=>rfl
  |8=>rfl
  |9=>rfl
  |10=>rfl
  |11=>rfl
  |12=>rfl
  |13=>rfl
  |14=>rfl
  |_+15=>rfl
 one:=fun n x=>match n with
  |0=>rfl
  |1=>rfl
  |2=>rfl
  |3=>rfl
  |4=>rfl
  |5=>rfl
  |6=>rfl
  |7=>rfl
  |8=>rfl
  |9=>rfl
  |10=>rfl
  |11=>rfl
  |12=>rfl
  |13=>rfl
  |14=>rfl
  |_+15=>rfl
 refs:=fun n x=>match n with
  |0=>rfl
  |1=>rfl
  |2=>rfl
  |3=>rfl
  |4=>rfl
  |5=>rfl
  |6=>rfl
  |7=>rfl
  |8=>rfl
  |9=>rfl
  |10=>rfl
  |11=>rfl
  |12=>rfl
  |13=>rfl
  |14=>rfl
  |_+15=>rfl
 gren:=fun i c x σ=>by cases c with
  |l t=>cases t<;>rfl
  |_=>rfl
 gref:=fun i c x=>by cases c with
  |l t=>cases t<;>rfl
  |_=>rfl
 gfrz:=fun i c x k=>by cases c with
  |l t=>cases t<;>rfl
  |_=>rfl
 gom:=fun _ kc ec x=>by kernel_rfl
 ggl:=fun i c x k=>by cases c with
  |l t=>cases t<;>rfl
  |_=>rfl
 gbox:=fun t i d cs h m Z w k hh=>zOm t i d cs h m Z w k hh
 glob:=fun i g t l h=>by
  change glT i=some (g,t,l)at h;unfold glT at h;split at h
  ·cases h;exact⟨_,rfl⟩
  ·cases h
def cdT(t:Nat):Option TC:=bif Nat.beq t 3 then some i6 else bif Nat.beq t 4 then some (.b)else bif Nat.beq t 5 then some (.i .u8)else bif Nat.beq t 9 then some (.s)else bif Nat.beq t 20 then some (.a 3 9)else bif Nat.beq t 37 then some (.st 0)else bif Nat.beq t 51 then some (.st 11)else bif Nat.beq t 57 then some (.st 1)else bif Nat.beq t 58 then some (.l (.s))else bif Nat.beq t 64 then some (.st 5)else bif Nat.beq t 87 then some (.st 3)else bif Nat.beq t 94 then some (.st 7)else bif Nat.beq t 96 then some (.st 8)else bif Nat.beq t 98 then some (.st 9)else bif Nat.beq t 100 then some (.st 10)else bif Nat.beq t 119 then some (.st 2)else bif Nat.beq t 156 then some (.st 4)else bif Nat.beq t 184 then some (.st 12)else bif Nat.beq t 229 then some (.st 13)else none
def cdL(t:Nat):Option TC:=cdT (bif Nat.ble 1000000 t then Nat.sub t 1000000 else t)
def cdO(t:Nat):Option TC:=bif Nat.beq t 3000068 then some .b else  cdT t
def nbT:NB:=fun t=>bif Nat.beq t 31 then[(0,true,57,.st 1),(1,true,87,.st 3),(2,true,64,.st 5),(3,true,94,.st 7),(4,true,96,.st 8),(5,true,100,.st 10),(6,true,98,.st 9)]else bif Nat.beq t 37 then[(4,false,37,.st 0)]else bif Nat.beq t 57 then[(5,false,37,.st 0)]else bif Nat.beq t 64 then[(2,false,156,.st 4)]else bif Nat.beq t 67 then[(0,false,51,.st 11)]else bif Nat.beq t 71 then[(0,false,51,.st 11),(2,true,57,.st 1),(3,true,87,.st 3),(4,true,64,.st 5),(5,true,94,.st 7),(6,true,96,.st 8),(7,true,100,.st 10),(8,true,8000098,.st 9),(10,true,7000000,.l (.m (.s) (.b))),(11,true,7000000,.l (.m (.s) (.b))),(12,true,7000000,.l (.m (.s) (.b))),(13,true,7000000,.l (.m (.s) (.b))),(14,true,7000000,.l (.m (.s) (.b))),(15,true,7000000,.l (.m (.s) (.b)))]else bif Nat.beq t 76 then[(0,false,51,.st 11)]else bif Nat.beq t 87 then[(1,true,119,.st 2)]else bif Nat.beq t 94 then[(1,false,9,.s),(2,false,9,.s),(12,false,37,.st 0)]else bif Nat.beq t 96 then[(3,false,156,.st 4)]else bif Nat.beq t 100 then[(5,true,98,.st 9)]else[]
def YM:NB:=fun t=>bif Nat.beq t 31 then[(0,true,57,.st 1),(1,true,87,.st 3),(2,true,64,.st 5),(3,true,94,.st 7),(4,true,96,.st 8),(5,true,100,.st 10),(6,false,98,.st 9)]else  nbT t
def nbL:NB:=fun t=>bif Nat.beq t 2000000 then[(0,false,0,.s)]else bif Nat.beq t 2000009 then[(0,false,0,.s)]else bif Nat.beq t 2000119 then[(0,false,0,.s)]else bif Nat.beq t 2000057 then[(0,false,0,.s)]else bif Nat.beq t 2000087 then[(0,false,0,.s)]else bif Nat.beq t 2000064 then[(0,false,0,.s)]else bif Nat.beq t 2000094 then[(0,false,0,.s)]else bif Nat.beq t 2000096 then[(0,false,0,.s)]else bif Nat.beq t 2000100 then[(0,false,0,.s)]else bif Nat.beq t 2000098 then[(0,false,0,.s)]else bif Nat.beq t 31 then[(0,true,57,.st 1),(1,true,87,.st 3),(2,true,64,.st 5),(3,true,94,.st 7),(4,true,96,.st 8),(5,true,100,.st 10),(6,false,98,.st 9)]else nbT t
def PC:List TC:=[i6,i6]
def PT:Tp:=.ifc 168 (.ag [dI 0,dI 1])
def dW:zDm TS:=fun c _ s=>match c,s with
 |.s,s=>zA4 s
 |_,_=>none
theorem dW_ok(ct:TC)(i:Nat)(s s':ct.ty TS.T)(h:dW ct i s=some s')(k:Nat):FnD PGq 162 [.ptr k 0 0,.str [32,41]] [(k,TS.go i ct s)] (.tup [.int .i64 2,.nili]) [(k,TS.go i ct s')]:=by
 cases ct<;>first|(cases h;done)|skip
 obtain⟨_,h1,h2⟩:=bind_some (show zA4 s=some s' from h);cases h2
 have hT:zvh (bif Nat.beq i 0 then 108 else 123):=by
  cases Nat.beq i 0
  ·exact zm7
  ·exact zfo
 exact zJ1 hT k s [32,41] (yV h1)
theorem zJ3:PGq.follows .mixedOrders=true:=by kernel_rfl
variable[Fuel]
theorem hbv63:zd PGq 63:=ze (by kernel_rfl)
theorem zDx:zd PGq 62:=ze (by kernel_rfl)
theorem zOn:zd PGq 155:=ze (by kernel_rfl)
theorem zOo:zd PGq 157:=ze (by kernel_rfl)
theorem zOp:zd PGq 164:=ze (by kernel_rfl)
theorem zOq:zd PGq 156:=ze (by kernel_rfl)
theorem hbv51:zd PGq 51:=ze (by kernel_rfl)
theorem zOr:zd PGq 165:=ze (by kernel_rfl)
theorem zOs:zd PGq 166:=ze (by kernel_rfl)
theorem hbv64:zd PGq 64:=ze (by kernel_rfl)
theorem hbv21:zd PGq 21:=ze (by kernel_rfl)
theorem zOt:zd PGq 42:=ze (by kernel_rfl)
theorem zGg:zd PGq 124:=ze (by kernel_rfl)
theorem zGh:zd PGq 194:=ze (by kernel_rfl)
theorem zGi:zd PGq 193:=ze (by kernel_rfl)
theorem zDy:zd PGq 41:=ze (by kernel_rfl)
theorem zrj:zd PGq 130:=ze (by kernel_rfl)
theorem hbv52:zd PGq 52:=ze (by kernel_rfl)
theorem hbv16:zd PGq 16:=ze (by kernel_rfl)
theorem zGj:zd PGq 190:=ze (by kernel_rfl)
theorem zrk:zd PGq 207:=ze (by kernel_rfl)
theorem zOu:zd PGq 151:=ze (by kernel_rfl)
theorem zrl:zd PGq 133:=ze (by kernel_rfl)
theorem J6:zd PGq 40:=ze (by kernel_rfl)
theorem Kf:zd PGq 150:=ze (by kernel_rfl)
theorem zKa:zd PGq 43:=ze (by kernel_rfl)
theorem zOv:zd PGq 39:=ze (by kernel_rfl)
theorem zGk:zd PGq 134:=ze (by kernel_rfl)
theorem zDz:zd PGq 35:=ze (by kernel_rfl)
theorem hbv12:zd PGq 12:=ze (by kernel_rfl)
theorem zKb:zd PGq 61:=ze (by kernel_rfl)
theorem hbv20:zd PGq 20:=ze (by kernel_rfl)
theorem zOw:zd PGq 161:=ze (by kernel_rfl)
theorem zra:zd PGq 162:=ze (by kernel_rfl)
theorem zGl:zd PGq 163:=ze (by kernel_rfl)
theorem zOx:zd PGq 58:=ze (by kernel_rfl)
theorem zOy:zd PGq 59:=ze (by kernel_rfl)
theorem zt9:zd PGq 60:=ze (by kernel_rfl)
theorem hbv19:zd PGq 19:=ze (by kernel_rfl)
theorem zGm:zd PGq 121:=ze (by kernel_rfl)
theorem u5:zd PGq 191:=ze (by kernel_rfl)
theorem Hw:zd PGq 125:=ze (by kernel_rfl)
theorem zGn:zd PGq 127:=ze (by kernel_rfl)
theorem zGo:zd PGq 122:=ze (by kernel_rfl)
theorem zGp:zd PGq 192:=ze (by kernel_rfl)
theorem zGq:zd PGq 123:=ze (by kernel_rfl)
theorem zGr:zd PGq 126:=ze (by kernel_rfl)
theorem zOz:zd PGq 214:=ze (by kernel_rfl)
theorem zO0:zd PGq 215:=ze (by kernel_rfl)
theorem zO1:zd PGq 216:=ze (by kernel_rfl)
theorem zO2:zd PGq 238:=ze (by kernel_rfl)
theorem zO3:zd PGq 231:=ze (by kernel_rfl)
theorem zO4:zd PGq 230:=ze (by kernel_rfl)
theorem zO5:zd PGq 217:=ze (by kernel_rfl)
theorem zO6:zd PGq 218:=ze (by kernel_rfl)
theorem zO7:zd PGq 180:=ze (by kernel_rfl)
theorem hbv94:zd PGq 94:=ze (by kernel_rfl)
theorem zGs:zd PGq 195:=ze (by kernel_rfl)
theorem zO8:zd PGq 219:=ze (by kernel_rfl)
theorem zKc:zd PGq 72:=ze (by kernel_rfl)
theorem zO9:zd PGq 197:=ze (by kernel_rfl)
theorem zGt:zd PGq 129:=ze (by kernel_rfl)
theorem zGu:zd PGq 196:=ze (by kernel_rfl)
theorem zGv:zd PGq 128:=ze (by kernel_rfl)
theorem zGw:zd PGq 198:=ze (by kernel_rfl)
theorem zGx:zd PGq 131:=ze (by kernel_rfl)
theorem zGy:zd PGq 132:=ze (by kernel_rfl)
theorem zPa:zd PGq 36:=ze (by kernel_rfl)
theorem hbv10:zd PGq 10:=ze (by kernel_rfl)
theorem hbv80:zd PGq 80:=ze (by kernel_rfl)
theorem zPb:zd PGq 179:=ze (by kernel_rfl)
theorem hbv79:zd PGq 79:=ze (by kernel_rfl)
theorem hbv82:zd PGq 82:=ze (by kernel_rfl)
theorem hbv81:zd PGq 81:=ze (by kernel_rfl)
theorem hbv84:zd PGq 84:=ze (by kernel_rfl)
theorem hbv83:zd PGq 83:=ze (by kernel_rfl)
theorem hbv86:zd PGq 86:=ze (by kernel_rfl)
theorem hbv85:zd PGq 85:=ze (by kernel_rfl)
theorem hbv88:zd PGq 88:=ze (by kernel_rfl)
theorem hbv87:zd PGq 87:=ze (by kernel_rfl)
theorem hbv90:zd PGq 90:=ze (by kernel_rfl)
theorem hbv89:zd PGq 89:=ze (by kernel_rfl)
theorem hbv92:zd PGq 92:=ze (by kernel_rfl)
theorem hbv91:zd PGq 91:=ze (by kernel_rfl)
theorem hbv93:zd PGq 93:=ze (by kernel_rfl)
theorem zPc:zd PGq 188:=ze (by kernel_rfl)
theorem zyq:zd PGq 104:=ze (by kernel_rfl)
theorem zGz:zd PGq 187:=ze (by kernel_rfl)
theorem zPd:zd PGq 115:=ze (by kernel_rfl)
theorem hbv95:zd PGq 95:=ze (by kernel_rfl)
theorem hbv28:zd PGq 28:=ze (by kernel_rfl)
theorem zG0:zd PGq 168:=ze (by kernel_rfl)
theorem hbv67:zd PGq 67:=ze (by kernel_rfl)
theorem hbv69:zd PGq 69:=ze (by kernel_rfl)
theorem hbv68:zd PGq 68:=ze (by kernel_rfl)
theorem hbv70:zd PGq 70:=ze (by kernel_rfl)
theorem zJ4:zd PGq 65:=ze (by kernel_rfl)
theorem hbv71:zd PGq 71:=ze (by kernel_rfl)
theorem hbv26:zd PGq 26:=ze (by kernel_rfl)
theorem hbv9:zd PGq 9:=ze (by kernel_rfl)
theorem zPe:zd PGq 135:=ze (by kernel_rfl)
theorem zPf:zd PGq 159:=ze (by kernel_rfl)
theorem zPg:zd PGq 160:=ze (by kernel_rfl)
theorem zPh:zd PGq 199:=ze (by kernel_rfl)
theorem zPi:zd PGq 200:=ze (by kernel_rfl)
theorem zPj:zd PGq 136:=ze (by kernel_rfl)
theorem hbv37:zd PGq 37:=ze (by kernel_rfl)
theorem zPk:zd PGq 137:=ze (by kernel_rfl)
theorem hbv45:zd PGq 45:=ze (by kernel_rfl)
theorem zPl:zd PGq 138:=ze (by kernel_rfl)
theorem hbv98:zd PGq 98:=ze (by kernel_rfl)
theorem hbv53:zd PGq 53:=ze (by kernel_rfl)
theorem hbv55:zd PGq 55:=ze (by kernel_rfl)
theorem hbv54:zd PGq 54:=ze (by kernel_rfl)
theorem hbv17:zd PGq 17:=ze (by kernel_rfl)
theorem zPm:zd PGq 201:=ze (by kernel_rfl)
theorem zPn:zd PGq 139:=ze (by kernel_rfl)
theorem zPo:zd PGq 140:=ze (by kernel_rfl)
theorem zPp:zd PGq 203:=ze (by kernel_rfl)
theorem zPq:zd PGq 147:=ze (by kernel_rfl)
theorem zPr:zd PGq 153:=ze (by kernel_rfl)
theorem zD0:zd PGq 44:=ze (by kernel_rfl)
theorem zG1:zd PGq 152:=ze (by kernel_rfl)
theorem zKd:zd PGq 46:=ze (by kernel_rfl)
theorem zPs:zd PGq 141:=ze (by kernel_rfl)
theorem zPt:zd PGq 202:=ze (by kernel_rfl)
theorem zPu:zd PGq 142:=ze (by kernel_rfl)
theorem zPv:zd PGq 143:=ze (by kernel_rfl)
theorem zPw:zd PGq 181:=ze (by kernel_rfl)
theorem zPx:zd PGq 182:=ze (by kernel_rfl)
theorem zPy:zd PGq 183:=ze (by kernel_rfl)
theorem zPz:zd PGq 100:=ze (by kernel_rfl)
theorem zP0:zd PGq 144:=ze (by kernel_rfl)
theorem zP1:zd PGq 204:=ze (by kernel_rfl)
theorem zP2:zd PGq 177:=ze (by kernel_rfl)
theorem zP3:zd PGq 178:=ze (by kernel_rfl)
theorem zP4:zd PGq 146:=ze (by kernel_rfl)
theorem zP5:zd PGq 220:=ze (by kernel_rfl)
theorem zP6:zd PGq 205:=ze (by kernel_rfl)
theorem zP7:zd PGq 145:=ze (by kernel_rfl)
theorem hbv77:zd PGq 77:=ze (by kernel_rfl)
theorem zP8:zd PGq 206:=ze (by kernel_rfl)
theorem zP9:zd PGq 148:=ze (by kernel_rfl)
theorem zQa:zd PGq 149:=ze (by kernel_rfl)
theorem hbv38:zd PGq 38:=ze (by kernel_rfl)
theorem hbv11:zd PGq 11:=ze (by kernel_rfl)
theorem hbv13:zd PGq 13:=ze (by kernel_rfl)
theorem hbv47:zd PGq 47:=ze (by kernel_rfl)
theorem zKe:zd PGq 15:=ze (by kernel_rfl)
theorem hbv48:zd PGq 48:=ze (by kernel_rfl)
theorem hbv49:zd PGq 49:=ze (by kernel_rfl)
theorem zQb:zd PGq 154:=ze (by kernel_rfl)
theorem hbv50:zd PGq 50:=ze (by kernel_rfl)
theorem hbv14:zd PGq 14:=ze (by kernel_rfl)
theorem hbv3:zd PGq 3:=ze (by kernel_rfl)
theorem ctg{f:Nat}{fn:Func}{code:Code}{T:CtT TS}{cd:Nat→Option TC}{nb:NB}{rc:List (Nat×Nat×Nat)}{c:Ct TS}{h:HT TS c.co}(hf:PGq.funcs[f]?=some fn)(hb:fn.body=some code)(hB:zd PGq f)(hT:CtT.OK PGq T)(hr:∀x,((evF PGq fn code T cd KK nb c rc h x).run,(evF PGq fn code T cd KK nb c rc h x).tr true)=(c.fn x,(evF PGq fn code T cd KK nb c rc h x).tr false)):zd PGq f∧c.OK PGq f :=
 ⟨hB,zJw (T:=T) (cd:=cd) (kk:=KK) (nb:=nb) (rc:=rc) (h:=h) zJ2 hf hb zJ3 hT (fun x=>congrArg Prod.fst (hr x)) (fun x=>congrArg Prod.snd (hr x))⟩
theorem ctk{f:Nat}{fn:Func}{code:Code}{T:CtT TS}{c:Ct TS}{h:HT TS c.co}(hf:PGq.funcs[f]?=some fn)(hb:fn.body=some code)(hB:zd PGq f)(hT:CtT.OK PGq T)(hr:∀x,((evF PGq fn code T cdT KK nbT c [] h x).run,(evF PGq fn code T cdT KK nbT c [] h x).tr true)=(c.fn x,(evF PGq fn code T cdT KK nbT c [] h x).tr false)):zd PGq f∧c.OK PGq f :=
 ⟨hB,zJw (T:=T) (cd:=cdT) (kk:=KK) (nb:=nbT) (rc:=[]) (h:=h) zJ2 hf hb zJ3 hT (fun x=>congrArg Prod.fst (hr x)) (fun x=>congrArg Prod.snd (hr x))⟩
theorem zMj{f:Nat}{fn:Func}{code:Code}{T:CtT TS}{TP:zdx TS PC}{cd:Nat→Option TC}{nb:NB}{c:CtP TS PC}{h:HT TS PC}(hf:PGq.funcs[f]?=some fn)(hb:fn.body=some code)(hB:zd PGq f)(hT:CtT.OK PGq T)(hTP:zdx.OK PGq (pvT PT PC) TP)(hr:∀x,((evP PGq fn code T cd KK nb PT TP c h x).run,(evP PGq fn code T cd KK nb PT TP c h x).tr true)=(c.fn x,(evP PGq fn code T cd KK nb PT TP c h x).tr false)):zd PGq f∧c.OK PGq (pvT PT PC) f :=
 ⟨hB,zF6 (T:=T) (TP:=TP) (pt:=PT) (cd:=cd) (kk:=KK) (nb:=nb) (h:=h) zJ2 hf hb zJ3 hT hTP (fun x=>congrArg Prod.fst (hr x)) (fun x=>congrArg Prod.snd (hr x))⟩
theorem ctp{f:Nat}{fn:Func}{code:Code}{T:CtT TS}{TP:zdx TS PC}{c:CtP TS PC}{h:HT TS PC}(hf:PGq.funcs[f]?=some fn)(hb:fn.body=some code)(hB:zd PGq f)(hT:CtT.OK PGq T)(hTP:zdx.OK PGq (pvT PT PC) TP)(hr:∀x,((evP PGq fn code T cdT KK nbT PT TP c h x).run,(evP PGq fn code T cdT KK nbT PT TP c h x).tr true)=(c.fn x,(evP PGq fn code T cdT KK nbT PT TP c h x).tr false)):zd PGq f∧c.OK PGq (pvT PT PC) f :=
 ⟨hB,zF6 (T:=T) (TP:=TP) (pt:=PT) (cd:=cdT) (kk:=KK) (nb:=nbT) (h:=h) zJ2 hf hb zJ3 hT hTP (fun x=>congrArg Prod.fst (hr x)) (fun x=>congrArg Prod.snd (hr x))⟩
def zk4:Ct TS:=⟨[.d (.i .u8) 0],[],[.i .u8],.d .b 1,[],[.b],false,fun x=>HR x⟩
abbrev HBc(n:Nat)(c:Ct TS):Prop:=zd PGq n∧c.OK PGq n
abbrev HBp(n:Nat)(c:CtP TS PC):Prop:=zd PGq n∧c.OK PGq (pvT PT PC) n
theorem zua:HBc 63 zk4:=ctk (T:=[]) (h:=.n) Tryz.func63 rfl hbv63 trivial fun x=>by kernel_rfl
def zrm:Ct TS:=⟨[.d .s 0,.fn 63 [] []],[],[.s],dI 1,[],[i6],false,fun x=>Y7 x⟩
theorem zyr:HBc 62 zrm:=ctk (T:=[(63,zk4)]) (h:=.s .n (.s .n (.s (.s (.l ⟨[(0,.d .s 0),(1,.fn 63 [] []),(5,dI 1)],[],[.s],[i6]⟩ [(5,dI 1)] [] [i6] 0 (fun x K v=>AJ x K v) (.s (.s (.j ⟨[(0,.d .s 0),(1,.fn 63 [] []),(5,dI 1),(16,.d .b 2)],[],[.s,i6],[.b]⟩ false .n) .n) .n)) .n) .n))) Tryz.func62 rfl zDx ⟨zua,trivial⟩ fun x=>by kernel_rfl
def oZ:Ct TS:=⟨[.d (.i .u8) 0],[],[.i .u8],.d .b 1,[],[.b],false,fun x=>jX x⟩
theorem Ha:HBc 155 oZ:=ctk (T:=[]) (h:=.n) Tryz.func155 rfl zOn trivial fun x=>by kernel_rfl
def Ja:Ct TS:=⟨[.d (.i .u8) 0],[],[.i .u8],.d .b 1,[],[.b],false,fun x=>kS x⟩
theorem JQ:HBc 157 Ja:=ctk (T:=[]) (h:=.n) Tryz.func157 rfl zOo trivial fun x=>by kernel_rfl
def zef:Ct TS:=⟨[.d (.i .u8) 0],[],[.i .u8],.d .b 1,[],[.b],false,fun x=>JD x⟩
theorem zok:HBc 164 zef:=ctk (T:=[(155,oZ),(157,Ja)]) (h:=.n) Tryz.func164 rfl zOp ⟨Ha,JQ,trivial⟩ fun x=>by kernel_rfl
def zeg:Ct TS:=⟨[.d .s 0,.fn 164 [] []],[],[.s],dI 1,[],[i6],false,fun x=>JE x⟩
theorem zol:HBc 62 zeg:=ctk (T:=[(164,zef)]) (h:=.s .n (.s .n (.s (.s (.l ⟨[(0,.d .s 0),(1,.fn 164 [] []),(5,dI 1)],[],[.s],[i6]⟩ [(5,dI 1)] [] [i6] 0 (fun x K v=>qn x K v) (.s (.s (.j ⟨[(0,.d .s 0),(1,.fn 164 [] []),(5,dI 1),(16,.d .b 2)],[],[.s,i6],[.b]⟩ false .n) .n) .n)) .n) .n))) Tryz.func62 rfl zDx ⟨zok,trivial⟩ fun x=>by kernel_rfl
def zeh:Ct TS:=⟨[.d (.i .u8) 0],[],[.i .u8],.d .b 1,[],[.b],false,fun x=>qH x⟩
theorem zom:HBc 156 zeh:=ctk (T:=[(155,oZ),(157,Ja)]) (h:=.n) Tryz.func156 rfl zOq ⟨Ha,JQ,trivial⟩ fun x=>by kernel_rfl
def zei:Ct TS:=⟨[.d .s 0,.fn 156 [] []],[],[.s],dI 1,[],[i6],false,fun x=>JF x⟩
theorem zon:HBc 62 zei:=ctk (T:=[(156,zeh)]) (h:=.s .n (.s .n (.s (.s (.l ⟨[(0,.d .s 0),(1,.fn 156 [] []),(5,dI 1)],[],[.s],[i6]⟩ [(5,dI 1)] [] [i6] 0 (fun x K v=>qo x K v) (.s (.s (.j ⟨[(0,.d .s 0),(1,.fn 156 [] []),(5,dI 1),(16,.d .b 2)],[],[.s,i6],[.b]⟩ false .n) .n) .n)) .n) .n))) Tryz.func62 rfl zDx ⟨zom,trivial⟩ fun x=>by kernel_rfl
def zhl:Ct TS:=⟨[.d .s 0],[],[.s],.d .b 1,[],[.b],false,fun x=>Va x⟩
theorem zk5:HBc 51 zhl:=ctk (T:=[(155,oZ),(62,zei)]) (h:=.s .n (.s (.s (.j ⟨[(0,.d .s 0),(15,.d .b 1)],[],[.s],[.b]⟩ false .n) .n) .n)) Tryz.func51 rfl hbv51 ⟨Ha,zon,trivial⟩ fun x=>by kernel_rfl
def WK:Ct TS:=⟨[.d .s 0,.fn 157 [] []],[],[.s],dI 1,[],[i6],false,fun x=>oS x⟩
theorem zav:HBc 62 WK:=ctk (T:=[(157,Ja)]) (h:=.s .n (.s .n (.s (.s (.l ⟨[(0,.d .s 0),(1,.fn 157 [] []),(5,dI 1)],[],[.s],[i6]⟩ [(5,dI 1)] [] [i6] 0 (fun x K v=>qp x K v) (.s (.s (.j ⟨[(0,.d .s 0),(1,.fn 157 [] []),(5,dI 1),(16,.d .b 2)],[],[.s,i6],[.b]⟩ false .n) .n) .n)) .n) .n))) Tryz.func62 rfl zDx ⟨JQ,trivial⟩ fun x=>by kernel_rfl
def zej:Ct TS:=⟨[.d .s 0],[],[.s],.tup [dI 1,.d .b 2],[],[i6,.b],false,fun x=>JG x⟩
theorem zoo:HBc 165 zej:=ctk (T:=[(62,WK)]) (h:=.s .n (.s (.s (.j ⟨[(0,.d .s 0),(28,.d .b 1)],[],[.s],[.b]⟩ false .n) .n) (.s .n (.s (.s .n (.s (.l ⟨[(0,.d .s 0),(4,dI 2),(30,dI 1),(31,dI 3)],[],[.s,i6],[i6,i6]⟩ [(4,dI 2)] [] [i6] 0 (u2Q w0) .n) .n)) .n)))) Tryz.func165 rfl zOr ⟨zav,trivial⟩ fun x=>by kernel_rfl
def zaw:Ct TS:=⟨[.d .s 0,.d .s 1],[],[.s,.s],.d .b 2,[],[.b],false,u2Q KC⟩
theorem zk6:zaw.OK PGq 166:=fun x r h=>kmp (by kernel_rfl) (zoi x.1 x.2 r h)
def zrn:Ct TS:=⟨[.d .s 0],h5,[.s],.tup [.ag [dI 2,.d .s 3,dI 4,dI 5],dI 1],(h6 7000001 2 3 4 5),[i6,i6,.s,i6,i6],false,fun x=>Y8 x⟩
theorem zys:HBc 64 zrn:=ctg (cd:=cdT) (nb:=nbT) (rc:=[(2,7000001,0)]) (T:=[(155,oZ),(62,zeg),(51,zhl),(157,Ja),(62,WK),(165,zej),(166,zaw)]) (h:=.s .n (.s .n (.s (.s .n (.s (.lr ⟨[(0,.d .s 0),(2,.ptr 1000002 0),(43,.ag [.d .s 1,.d .s 2,.d .s 3,.d .s 4,.d .s 5,.d .s 6,.d .s 7,.d .s 8,.d .s 9,.d .s 10,.d .s 11,.d .s 12,.d .s 13,.d .s 14]),(44,dI 17)],(h6 1000002 15 16 15 15),[.s,.s,.s,.s,.s,.s,.s,.s,.s,.s,.s,.s,.s,.s,.s,i6,.s],[i6]⟩ [(2,.ptr 1000002 0)] (h6 1000002 15 16 15 15) [] 1 (u17Q jY) .n) .n)) .n))) Tryz.func64 rfl hbv64 ⟨Ha,zol,zk5,JQ,zav,zoo,⟨zOs,zk6⟩,trivial⟩ fun x=>by kernel_rfl
def zop:Ct TS:=⟨[.d .s 0],h5,[.s],.tup [.d (.l (.st 11)) 1,dI 2,dI 3],h5,k7,false,fun x=>zan x⟩
theorem zro:HBc 21 zop:=ctk (T:=[(62,zrm),(64,zrn)]) (h:=.s .n (.s .n (.s .n (.s .n (.s (.lr ⟨[(0,.d .s 0),(5,.row 4 7000001),(6,dI 1)],[(900000000,.rw 1),(900000001,.rw 2),(900000002,.rw 3),(900000003,.rw 4),(7000001,.row 51 (.st 11) 2 false)],[.s],[i6,.l (.st 11)]⟩ [] [] [] 999999999 (fun x K v=>qI x K v) .n) .n))))) Tryz.func21 rfl hbv21 ⟨zyr,zys,trivial⟩ fun x=>by kernel_rfl
def qv:Ct TS:=⟨[.ptr 1 0],(h8 1),[.l (.st 11),i6],.ag [dI 2,.d .s 3,dI 4,dI 5],[(1,.box 67 [.d (.l (.st 11)) 0,dI 1]),(7000001,.box 51 [dI 2,.d .s 3,dI 4,dI 5])],k3,false,u2Q wC⟩
theorem kX:HBc 42 qv:=ctg (cd:=cdT) (nb:=nbT) (rc:=[(2,7000001,0)]) (T:=[]) (h:=.n) Tryz.func42 rfl zOt trivial fun x=>by kernel_rfl
def zrp:Ct TS:=⟨[.ptr 1 0,.d .s 2],(h8 1),[.l (.st 11),i6,.s],.d .b 3,(h8 1),[.b],false,u3Q zao⟩
theorem zoq:HBc 124 zrp:=ctk (T:=[(42,qv)]) (h:=.n) Tryz.func124 rfl zGg ⟨kX,trivial⟩ fun x=>by kernel_rfl
def zax:Ct TS:=⟨[.ptr 1 0,.d .s 2],(h8 1),[.l (.st 11),i6,.s],.d .b 3,(h8 4),[.b,i6],false,u3Q xd⟩
theorem Ze:HBc 194 zax:=ctk (T:=[(124,zrp)]) (h:=.n) Tryz.func194 rfl zGh ⟨zoq,trivial⟩ fun x=>by kernel_rfl
def kY:Ct TS:=⟨[.ptr 1 0],(h8 1),[.l (.st 11),i6],.d .b 2,(h8 1),[.b],false,u2Q xj⟩
theorem qw:HBc 193 kY:=ctk (T:=[(42,qv)]) (h:=.n) Tryz.func193 rfl zGi ⟨kX,trivial⟩ fun x=>by kernel_rfl
def jJ:Ct TS:=⟨[.ptr 1 0,.d .b 2,dI 3],(h8 1),[.l (.st 11),i6,.b,i6],.tup [],(h8 1),[],false,u4Q yq⟩
theorem je:HBc 41 jJ:=ctk (T:=[]) (h:=.n) Tryz.func41 rfl zDy trivial fun x=>by kernel_rfl
def WL:Ct TS:=⟨[.ptr 1 0,dI 2,dI 3],(h8 1),k9,dI 4,(h8 5),[i6,i6],false,u4Q vX⟩
theorem zay:HBc 130 WL:=ctk (T:=[(193,kY),(41,jJ),(42,qv)]) (h:=.s .n (.s .n (.s .n (.s (.j ⟨[(0,.ptr 1 0),(7,dI 2)],(h8 1),k7,[]⟩ false .n) .n)))) Tryz.func130 rfl zrj ⟨qw,je,kX,trivial⟩ fun x=>by kernel_rfl
def zek:Ct TS:=⟨[.d .s 0,.d .s 1],h5,[.s,.s],.d .b 2,h5,[.b],false,u2Q JH⟩
theorem zor:zek.OK PGq 52:=fun x r h=>kmp (by kernel_rfl) (zt4 x.1 x.2 r h)
def zaz:Ct TS:=⟨[.d .s 0],h5,[.s],.d .b 1,h5,[.b],false,fun x=>HS x⟩
theorem WM:HBc 16 zaz:=ctk (T:=[(51,zhl),(52,zek)]) (h:=.n) Tryz.func16 rfl hbv16 ⟨zk5,⟨hbv52,zor⟩,trivial⟩ fun x=>by kernel_rfl
def WN:Ct TS:=⟨[.ptr 1 0],(h10 1),[.l (.st 11),i6],.d .b 2,(h10 1),[.b],false,u2Q qJ⟩
theorem za0:HBc 190 WN:=ctk (T:=[(42,qv),(16,zaz)]) (h:=.n) Tryz.func190 rfl zGj ⟨kX,WM,trivial⟩ fun x=>by kernel_rfl
def zhm:Ct TS:=⟨[.ptr 1 0],(h10 1),[.l (.st 11),i6],.d .s 2,(h10 3),[.s,i6],false,u2Q yW⟩
theorem zk7:HBc 207 zhm:=ctk (T:=[(190,WN),(41,jJ)]) (h:=.n) Tryz.func207 rfl zrk ⟨za0,je,trivial⟩ fun x=>by kernel_rfl
def kh:Ct TS:=⟨[],[],[],.d (.l (.st 12)) 0,[],[.l (.st 12)],false,fun _=>wI⟩
theorem kZ:HBc 151 kh:=ctk (T:=[]) (h:=.n) Tryz.func151 rfl zOu trivial fun x=>by kernel_rfl
def zhn:Ct TS:=⟨[.ptr 1 0,.d .s 2],(h8 1),[.l (.st 11),i6,.s],.tup [],(h8 3),[i6],false,u3Q vG⟩
theorem zk8:HBc 133 zhn:=ctk (T:=[(194,zax),(41,jJ)]) (h:=.n) Tryz.func133 rfl zrl ⟨Ze,je,trivial⟩ fun x=>by kernel_rfl
def o4(RK:Nat):Ct TS:=⟨[.ptr 1 0,dI 2],(h10 1),k7,.tup [.ag [dI 5,dI 6,.d .s 7,.d .s 8,.d (.l (.st 0)) 9],dI 3],(h11 4 7000001 5 6 7 8 9),k12,false,fun x=>vY RK x.1 x.2.1 x.2.2⟩
def qx(RK:Nat):Ct TS:=⟨[.ptr 1 0,dI 2],(h10 1),k7,.ag [dI 4,dI 5,.d .s 6,.d .s 7,.d (.l (.st 0)) 8],(h11 3 7000001 4 5 6 7 8),k13,false,fun x=>z7 RK x.1 x.2.1 x.2.2⟩
theorem k8:∀RK,(o4 RK).OK PGq 150∧(qx RK).OK PGq 40
 |0=>⟨(fun x r h=>nomatch (show(none:Option _)=some r from h)),(fun x r h=>nomatch (show(none:Option _)=some r from h))⟩
 |RK+1=>⟨(ctg (c:=o4 (RK+1)) (cd:=cdT) (nb:=nbT) (rc:=[(4,7000001,0)]) (T:=[(194,zax),(40,qx RK),(133,zhn),(193,kY),(130,WL),(207,zhm)]) (h:=.s .n (.s (.s (.s (.j ⟨[(0,.ptr 1 0),(1,dI 1),(4,.ptr 1000004 0),(10,.d .b 6)],(h11 5 1000004 2 2 3 3 4),k14,[i6,.b]⟩ false .n) (.s .n (.s (.j ⟨[(0,.ptr 1 0),(1,dI 1),(4,.ptr 1000004 0),(31,.d .b 6)],(h11 5 1000004 2 2 3 3 4),k14,[i6,.b]⟩ false .n) (.s .n (.s (.j ⟨[(0,.ptr 1 0),(4,.ptr 1000004 0),(42,.d .b 5)],(h11 4 1000004 1 1 2 2 3),[.l (.st 11),i6,.s,.l (.st 0)],[i6,.b]⟩ false .n) .n))))) .n) .n)) Tryz.func150 rfl Kf ⟨Ze,⟨J6,(k8 RK).2⟩,zk8,qw,zay,zk7,trivial⟩ fun x=>by kernel_rfl).2,(ctg (c:=qx (RK+1)) (cd:=cdT) (nb:=nbT) (rc:=[(4,7000001,0)]) (T:=[(150,o4 RK),(151,kh),(124,zrp),(40,qx RK)]) (h:=.s .n (.s .n (.s (.lr ⟨[(0,.ptr 1 0),(1,dI 1),(4,.ptr 1000004 0),(5,.ptr 1000005 0),(6,dI 6)],h15,k14,k12⟩ [] [] [] 999999999 (fun x K v=>vK (z7 RK) x.1 x.2.1 x.2.2.1 x.2.2.2.1 x.2.2.2.2 K v) (.s (.s .n (.s (.s .n (.s (.l ⟨[(0,.ptr 1 0),(1,dI 2),(4,.ptr 1000004 0),(5,.ptr 1000005 0),(6,dI 3),(7,.ptr 1000007 0),(16,.d (.l (.st 12)) 4),(17,dI 5),(18,dI 14)],(h16 6 7 8 9 10 11 12 13 15 16 17),k17,k3⟩ [(0,.ptr 1 0),(1,dI 2),(4,.ptr 1000004 0),(5,.ptr 1000005 0),(6,dI 3),(7,.ptr 1000007 0)] (h16 6 7 8 9 10 11 12 13 14 15 16) [.s,i6,i6] 2 (u14Q xq) (.s .n (.s .n (.s (.j ⟨[(0,.ptr 1 0),(1,dI 2),(4,.ptr 1000004 0),(5,.ptr 1000005 0),(6,dI 3),(7,.ptr 1000007 0),(16,.d (.l (.st 12)) 4),(17,dI 5),(18,dI 6)],(h16 7 8 9 10 11 12 13 14 15 16 17),k18,[.s,i6,i6]⟩ false .n) .n)))) .n)) (.s (.s (.j ⟨[(0,.ptr 1 0),(1,dI 2),(4,.ptr 1000004 0),(5,.ptr 1000005 0),(7,.ptr 1000007 0),(51,.d .b 14)],(h16 3 4 5 6 7 8 9 10 11 12 13),k19,[.b]⟩ false .n) .n) .n))) .n)) .n))) Tryz.func40 rfl J6 ⟨⟨Kf,(k8 RK).1⟩,kZ,zoq,⟨J6,(k8 RK).2⟩,trivial⟩ fun x=>by kernel_rfl).2⟩
theorem zos(RK:Nat):zd PGq 150∧(o4 RK).OK PGq 150:=⟨Kf,(k8 RK).1⟩
theorem Vn(RK:Nat):zd PGq 40∧(qx RK).OK PGq 40:=⟨J6,(k8 RK).2⟩
def kD(RK:Nat):Ct TS:=⟨[.d (.st 0) 0],[],[.st 0],dI 1,[],[i6],false,fun x=>va RK x⟩
theorem zel:∀RK,(kD RK).OK PGq 43
 |0=>(fun x r h=>nomatch (show(none:Option _)=some r from h))
 |RK+1=>(ctk (c:=kD (RK+1)) (T:=[(43,kD RK)]) (h:=.s .n (.s .n (.s (.s .n (.s (.l ⟨[(3,dI 2),(7,.d (.l (.st 0)) 0),(8,dI 1),(9,dI 3)],[],[.l (.st 0),i6],[i6,i6]⟩ [(3,dI 2)] [] [i6] 0 (fun x K v=>jZ (va RK) x.1 x.2 K v) .n) .n)) .n))) Tryz.func43 rfl zKa ⟨⟨zKa,(zel RK)⟩,trivial⟩ fun x=>by kernel_rfl).2
theorem o5(RK:Nat):zd PGq 43∧(kD RK).OK PGq 43:=⟨zKa,(zel RK)⟩
def vk:Ct TS:=⟨[.ptr 2 0,.ptr 3 0],((h20 1 2 3 4 5 6)++h5),k21,.tup [],((h20 7 8 9 10 11 12)++h5),k13,false,u7Q qq⟩
theorem zc2:HBc 39 vk:=ctk (T:=[(40,qx KK),(42,qv),(41,jJ),(43,kD KK)]) (h:=.n) Tryz.func39 rfl zOv ⟨(Vn KK),kX,je,(o5 KK),trivial⟩ fun x=>by kernel_rfl
def zk9:CtP TS PC:=⟨[.ptr 1 0,dI 2],(h8 1),k7,u3Q JI⟩
theorem zub:HBp 134 zk9:=ctp (T:=[(42,qv)]) (TP:=[]) (h:=.n) Tryz.func134 rfl zGk ⟨kX,trivial⟩ trivial fun x=>by kernel_rfl
def o6:CtP TS PC:=⟨[.ptr 1 0,.d .b 2,dI 3],(h8 1),[.l (.st 11),i6,.b,i6],u4Q xC⟩
theorem Hb:HBp 41 o6:=ctp (T:=[]) (TP:=[(134,zk9)]) (h:=.n) Tryz.func41 rfl zDy trivial ⟨zub,trivial⟩ fun x=>by kernel_rfl
def zla:CtP TS PC:=⟨[.ptr 1 0,.d .s 2],(h8 1),[.l (.st 11),i6,.s],u3Q uS⟩
theorem zuc:HBp 133 zla:=ctp (T:=[(194,zax),(41,jJ)]) (TP:=[(41,o6)]) (h:=.n) Tryz.func133 rfl zrl ⟨Ze,je,trivial⟩ ⟨Hb,trivial⟩ fun x=>by kernel_rfl
def za1:CtP TS PC:=⟨[.ptr 1 0,dI 2,dI 3],(h8 1),k9,u4Q qK⟩
theorem zlb:HBp 130 za1:=ctp (T:=[(193,kY),(41,jJ),(42,qv)]) (TP:=[(41,o6)]) (h:=.s .n (.s .n (.s .n (.s (.j ⟨[(0,.ptr 1 0),(7,dI 2)],(h8 1),k7,[]⟩ true .n) .n)))) Tryz.func130 rfl zrj ⟨qw,je,kX,trivial⟩ ⟨Hb,trivial⟩ fun x=>by kernel_rfl
def zlc:CtP TS PC:=⟨[.ptr 1 0],(h10 1),[.l (.st 11),i6],u2Q vH⟩
theorem zud:HBp 207 zlc:=ctp (T:=[(190,WN),(41,jJ)]) (TP:=[(41,o6)]) (h:=.n) Tryz.func207 rfl zrk ⟨za0,je,trivial⟩ ⟨Hb,trivial⟩ fun x=>by kernel_rfl
def KQ(RK:Nat):CtP TS PC:=⟨[.ptr 1 0,dI 2],(h10 1),k7,fun x=>qL RK x.1 x.2.1 x.2.2⟩
def o7(RK:Nat):CtP TS PC:=⟨[.ptr 1 0,dI 2],(h10 1),k7,fun x=>yK RK x.1 x.2.1 x.2.2⟩
theorem qy:∀RK,(KQ RK).OK PGq (pvT PT PC) 150∧(o7 RK).OK PGq (pvT PT PC) 40
 |0=>⟨(fun x r h=>nomatch (show(none:Option _)=some r from h)),(fun x r h=>nomatch (show(none:Option _)=some r from h))⟩
 |RK+1=>⟨(ctp (c:=KQ (RK+1)) (T:=[(194,zax),(40,qx KK),(133,zhn),(193,kY),(130,WL),(207,zhm)]) (TP:=[(40,o7 RK),(133,zla),(130,za1),(207,zlc)]) (h:=.s .n (.s (.s (.s (.j ⟨[(0,.ptr 1 0),(1,dI 1),(4,.ptr 1000004 0),(10,.d .b 6)],(h11 5 1000004 2 2 3 3 4),k14,[i6,.b]⟩ false .n) (.s .n (.s (.j ⟨[(0,.ptr 1 0),(1,dI 1),(4,.ptr 1000004 0),(31,.d .b 6)],(h11 5 1000004 2 2 3 3 4),k14,[i6,.b]⟩ false .n) (.s .n (.s (.j ⟨[(0,.ptr 1 0),(4,.ptr 1000004 0),(42,.d .b 5)],(h11 4 1000004 1 1 2 2 3),[.l (.st 11),i6,.s,.l (.st 0)],[i6,.b]⟩ false .n) .n))))) .n) .n)) Tryz.func150 rfl Kf ⟨Ze,(Vn KK),zk8,qw,zay,zk7,trivial⟩ ⟨⟨J6,(qy RK).2⟩,zuc,zlb,zud,trivial⟩ fun x=>by kernel_rfl).2,(ctp (c:=o7 (RK+1)) (T:=[(150,o4 KK),(151,kh),(124,zrp),(40,qx KK)]) (TP:=[(150,KQ RK),(40,o7 RK)]) (h:=.s .n (.s .n (.s (.lr ⟨[(0,.ptr 1 0),(1,dI 1),(4,.ptr 1000004 0),(5,.ptr 1000005 0),(6,dI 6)],h15,k14,k12⟩ [] [] [] 999999999 (fun x K v=>vL (yK RK) x.1 x.2.1 x.2.2.1 x.2.2.2.1 x.2.2.2.2 K v) (.s (.s .n (.s (.s .n (.s (.l ⟨[(0,.ptr 1 0),(1,dI 2),(4,.ptr 1000004 0),(5,.ptr 1000005 0),(6,dI 3),(7,.ptr 1000007 0),(16,.d (.l (.st 12)) 4),(17,dI 5),(18,dI 14)],(h16 6 7 8 9 10 11 12 13 15 16 17),k17,k3⟩ [(0,.ptr 1 0),(1,dI 2),(4,.ptr 1000004 0),(5,.ptr 1000005 0),(6,dI 3),(7,.ptr 1000007 0)] (h16 6 7 8 9 10 11 12 13 14 15 16) [.s,i6,i6] 2 (u14Q wJ) (.s .n (.s .n (.s (.j ⟨[(0,.ptr 1 0),(1,dI 2),(4,.ptr 1000004 0),(5,.ptr 1000005 0),(6,dI 3),(7,.ptr 1000007 0),(16,.d (.l (.st 12)) 4),(17,dI 5),(18,dI 6)],(h16 7 8 9 10 11 12 13 14 15 16 17),k18,[.s,i6,i6]⟩ false .n) .n)))) .n)) (.s (.s (.j ⟨[(0,.ptr 1 0),(1,dI 2),(4,.ptr 1000004 0),(5,.ptr 1000005 0),(7,.ptr 1000007 0),(51,.d .b 14)],(h16 3 4 5 6 7 8 9 10 11 12 13),k19,[.b]⟩ false .n) .n) .n))) .n)) .n))) Tryz.func40 rfl J6 ⟨(zos KK),kZ,zoq,(Vn KK),trivial⟩ ⟨⟨Kf,(qy RK).1⟩,⟨J6,(qy RK).2⟩,trivial⟩ fun x=>by kernel_rfl).2⟩
theorem zue(RK:Nat):zd PGq 40∧(o7 RK).OK PGq (pvT PT PC) 40:=⟨J6,(qy RK).2⟩
def oD:CtP TS PC:=⟨[.ptr 2 0,.ptr 3 0],((h20 1 2 3 4 5 6)++h5),k21,u7Q qs⟩
theorem za2:HBp 39 oD:=ctp (T:=[(40,qx KK),(42,qv),(41,jJ),(43,kD KK)]) (TP:=[(40,o7 KK),(41,o6)]) (h:=.n) Tryz.func39 rfl zOv ⟨(Vn KK),kX,je,(o5 KK),trivial⟩ ⟨(zue KK),Hb,trivial⟩ fun x=>by kernel_rfl
def o8:Ct TS:=⟨[.ptr 1 0,.fn 39 [] [.ptr 2 0,.ptr 3 0]],((h20 1 2 3 4 5 6)++h5),k21,.tup [dI 7,dI 8],((h20 9 10 11 12 13 14)++h5),k22,true,u7Q j3⟩
theorem Vo:o8.OK PGq 35:=fun x r h=>by
 obtain⟨q,h1,h2⟩:=bind_some h;cases h2;exact kmp (by kernel_rfl) (zku (F:=hV (qC vk.hin (yI (S:=TS) vk.ci x))) (F':=hV (qC vk.hout (yI (S:=TS) vk.ci x++yI (S:=TS) vk.co q))) (a:=.ptr 2 0 0) (b:=.ptr 3 0 0) (pv:=.ptr 1 0 0) (kmp (by kernel_rfl) (zc2.2 x q h1)))
def u6:Ct TS:=⟨[.ptr 1 0,.fn 39 [] [.ptr 2 0,.ptr 3 0]],((h20 1 2 3 4 5 6)++h5),k21,.tup [dI 7,dI 8],([(1,.rw 0),(2,.rw 0),(3,.rw 0)]++h5),[i6,i6],true,u7Q jv⟩
theorem KR:u6.OK PGq 35:=fun x r h=>kmp (by kernel_rfl) (zg7 (F:=hV (qC oD.hin (yI (S:=TS) oD.ci x))) (a:=.ptr 2 0 0) (b:=.ptr 3 0 0) (pv:=.ptr 1 0 0) (x:=r.1) (y:=r.2) (kmp (by kernel_rfl) (za2.2 x r h)))
def KS:Ct TS:=⟨[.d .s 0],h5,[.s],.tup [.ag [dI 3,dI 4,.d .s 5,.d .s 6,.d (.l (.st 0)) 7],dI 1,dI 2],(h23 7000001 3 4 5 6 7),k12,false,fun x=>ud x⟩
theorem Yl:HBc 12 KS:=ctg (cd:=cdT) (nb:=nbT) (rc:=[(2,7000001,0)]) (T:=[(21,zop),(35,o8),(35,u6)]) (h:=.n) Tryz.func12 rfl hbv12 ⟨zro,⟨zDz,Vo⟩,⟨zDz,KR⟩,trivial⟩ fun x=>by kernel_rfl
def za3(RK:Nat):Ct TS:=⟨[.d (.st 0) 0,dI 1],h5,[.st 0,i6],.d .b 2,h5,[.b],false,fun x=>zhb RK x.1 x.2⟩
theorem zld:∀RK,(za3 RK).OK PGq 61
 |0=>(fun x r h=>nomatch (show(none:Option _)=some r from h))
 |RK+1=>(ctk (c:=za3 (RK+1)) (T:=[(16,zaz),(61,za3 RK)]) (h:=.s .n (.s (.s (.j ⟨[(1,dI 0),(2,.ptr 1000002 0),(20,.d .b 6)],(h23 1000002 1 2 3 4 5),k13,[.b]⟩ false .n) .n) (.s .n (.s .n (.s (.j ⟨[(1,dI 0),(2,.ptr 1000002 0),(5,.ptr 1000005 0),(6,dI 6)],(h24 1 2 3 4 5 9),k13,[i6,i6,.s,.s]⟩ true (.s .n (.s (.s .n (.s .n (.s (.j ⟨[(1,dI 0),(2,.ptr 1000002 0),(5,.ptr 1000005 0),(6,dI 1),(27,dI 2),(35,.d .b 9)],(h24 2 3 4 5 6 8),[i6,i6,i6,i6,.s,.s,.l (.st 0),i6,.s],[.b]⟩ false .n) (.s .n (.s .n (.s .n (.s (.j ⟨[(1,dI 0),(2,.ptr 1000002 0),(5,.ptr 1000005 0),(6,dI 1),(27,dI 2),(53,.d .b 9)],(h24 2 3 4 5 6 8),[i6,i6,i6,i6,.s,.s,.l (.st 0),i6,.s],[.b]⟩ false .n) .n))))))) .n))) (.s (.s (.j ⟨[(1,dI 0),(2,.ptr 1000002 0),(98,.d .b 6)],(h23 1000002 1 2 3 4 5),k13,[.b]⟩ false .n) .n) (.s (.s .n (.s (.lr ⟨[(1,dI 0),(100,.d (.l (.st 0)) 1),(101,dI 2),(102,dI 3)],h5,[i6,.l (.st 0),i6],[i6]⟩ [] h5 [] 1 (fun x K v=>Wg (zhb RK) x.1 x.2.1 x.2.2 K v) .n) .n)) .n))))))) Tryz.func61 rfl zKb ⟨WM,⟨zKb,(zld RK)⟩,trivial⟩ fun x=>by kernel_rfl).2
theorem zD1(RK:Nat):zd PGq 61∧(za3 RK).OK PGq 61:=⟨zKb,(zld RK)⟩
def Hc:Ct TS:=⟨[.d (.st 0) 0],h5,[.st 0],.d .b 1,h5,[.b],false,fun x=>AK x⟩
theorem Jb:HBc 20 Hc:=ctk (T:=[(61,za3 KK)]) (h:=.n) Tryz.func20 rfl hbv20 ⟨(zD1 KK),trivial⟩ fun x=>by kernel_rfl
def zrq:Ct TS:=⟨[.d (.st 0) 0],[],[.st 0],.tup [dI 1,.d .s 2],[],[i6,.s],false,fun x=>zre x⟩
theorem zyt:HBc 161 zrq:=ctk (T:=[(151,kh)]) (h:=.s .n (.s (.s .n (.s (.lr ⟨[(1,.ptr 1000001 0),(6,.d (.l (.st 12)) 0),(7,dI 1),(8,dI 7)],(h25 1000001 2 3 4 5 6),[.l (.st 12),i6,i6,i6,.s,.s,.l (.st 0)],[i6]⟩ [(1,.ptr 1000001 0)] (h25 1000001 2 3 4 5 6) [] 0 (u7Q KD) .n) .n)) .n)) Tryz.func161 rfl zOw ⟨kZ,trivial⟩ fun x=>by kernel_rfl
def zac:Ct TS:=⟨[.ptr 1 0,.d .s 1],[(1,.gn 0 (.s) 0)],[.s,.s],.tup [dI 2,.nili],[(1,.gn 0 (.s) 3)],[i6,.s],false,u2Q xp⟩
theorem zg5:zac.OK PGq 162:=fun x r h=>by
 obtain⟨_,h1,h2⟩:=bind_some h;cases h2;exact kmp (by kernel_rfl) (zoh zfo 1 x.1 x.2 (yV h1))
def zyu:Ct TS:=⟨[dI 0],h5,[i6],.d .s 1,h5,[.s],false,fun x=>zrf x⟩
theorem zyv:zyu.OK PGq 163:=fun x r h=>kmp (by kernel_rfl) (zN0 x r h)
def za4(RK:Nat):Ct TS:=⟨[.ptr 1 0,.d (.st 0) 1,dI 2],(h26 0 0),[.s,.st 0,i6],.tup [],(h26 0 3),[.s],false,fun x=>vM RK x.1 x.2.1 x.2.2⟩
theorem zle:∀RK,(za4 RK).OK PGq 58
 |0=>(fun x r h=>nomatch (show(none:Option _)=some r from h))
 |RK+1=>zDn (T:=[(161,zrq),(162,zac),(163,zyu),(58,za4 RK)]) (cd:=cdT) (kk:=KK) (nb:=nbT) (rs:=[]) (D:=dW) (k0:=1) (hB:=.s (.s .n (.s .n (.s .n (.s .n (.s .n (.s .n (.s .n (.s .n (.s .n (.s (.s .n (.s (.l ⟨[(0,.ptr 1 0),(4,.ptr 1000004 0),(90,.row 1 1000090),(91,dI 0),(92,dI 8)],h27,[i6,i6,i6,.s,.s,.l (.st 0),.l (.s)],[.s,i6]⟩ [] (h26 0 7) [.s] 1 (fun x K v=>Wh (vM RK) x.1 x.2.1 x.2.2.1 x.2.2.2.1 x.2.2.2.2.1 (p5Q x).1 (p6Q x) K v) .n) .n)) (.s .n (.s .n (.s .n (.s .n (.s .n (.s (.j ⟨[(0,.ptr 1 0),(4,.ptr 1000004 0),(6,dI 1),(7,.d .s 2),(10,dI 8)],h28,[.s,i6,.s,i6,i6,.s,.s,.l (.st 0)],[i6]⟩ false .n) .n)))))))))))))))) .n) (hB':=.s (.s .n (.s .n (.s .n (.s .n (.s .n (.s .n (.s .n (.s .n (.s .n (.s (.s .n (.s (.l ⟨[(0,.ptr 1 0),(4,.ptr 1000004 0),(90,.row 1 1000090),(91,dI 0),(92,dI 8)],h27,[i6,i6,i6,.s,.s,.l (.st 0),.l (.s)],[.s,i6]⟩ [] (h26 0 7) [.s] 1 (fun x K v=>Wi (vM RK) x.1 x.2.1 x.2.2.1 x.2.2.2.1 x.2.2.2.2.1 (p5Q x).1 (p6Q x) K v) .n) .n)) (.s .n (.s .n (.s .n (.s .n (.s .n (.s (.j ⟨[(0,.ptr 1 0),(4,.ptr 1000004 0),(6,dI 1),(7,.d .s 2),(10,dI 8)],h28,[.s,i6,.s,i6,i6,.s,.s,.l (.st 0)],[i6]⟩ false .n) .n)))))))))))))))) .n) zJ2 Tryz.func58 rfl zJ3 ⟨zyt,⟨zra,zg5⟩,⟨zGl,zyv⟩,⟨zOx,(zle RK)⟩,trivial⟩ rfl (by kernel_rfl) rfl dW_ok zyh (fun x=>by kernel_rfl) (fun x=>by kernel_rfl)
theorem zrr(RK:Nat):zd PGq 58∧(za4 RK).OK PGq 58:=⟨zOx,(zle RK)⟩
def zyw:Ct TS:=⟨[.ptr 1 0],[(1,.gn 0 (.s) 0)],[.s],dI 1,[(1,.gn 0 (.s) 0)],[i6],false,fun x=>zyn x⟩
theorem zD2:zyw.OK PGq 59:=fun x r h=>by
 cases h;exact kmp (by kernel_rfl) (zyc (T:=108) 1 x)
def qG:Ct TS:=⟨[.ptr 1 0],[(1,.gn 0 (.s) 0)],[.s],.d .s 1,[(1,.gn 0 (.s) 0)],[.s],false,fun x=>qF x⟩
theorem Ax:qG.OK PGq 60:=fun x r h=>by
 cases h;exact kmp (by kernel_rfl) (V1 (T:=108) 1 x)
def za5:Ct TS:=⟨[.d (.st 0) 0],h5,[.st 0],.tup [.d .s 1,dI 2],h5,[.s,i6],false,fun x=>KE x⟩
theorem zlf:HBc 19 za5:=ctk (T:=[(20,Hc),(58,za4 KK),(59,zyw),(60,qG)]) (h:=.n) Tryz.func19 rfl hbv19 ⟨Jb,(zrr KK),⟨zOy,zD2⟩,⟨zt9,Ax⟩,trivial⟩ fun x=>by kernel_rfl
def zP:Ct TS:=⟨[.ptr 1 0],(h29 1 9 16 2 3 4 5 6 7 8 10 11 12 13 14 15),k30,.ag [dI 17,.d .s 18,dI 19,dI 20],((h29 1 9 16 2 3 4 5 6 7 8 10 11 12 13 14 15)++(h31 7000001 17 18 19 20)),k3,false,fun x=>zn (xb x)⟩
theorem zK:HBc 42 zP:=ctg (cd:=cdT) (nb:=nbT) (rc:=[(2,7000001,0)]) (T:=[]) (h:=.n) Tryz.func42 rfl zOt trivial fun x=>by kernel_rfl
def zt:Ct TS:=⟨[.ptr 1 0,.d .b 17,dI 18],(h29 1 9 16 2 3 4 5 6 7 8 10 11 12 13 14 15),k32,.tup [],(h29 1 9 16 2 3 4 5 6 7 8 10 11 12 13 14 15),[],false,fun x=>zh (zae x) (rBB x).1 (rBB x).2⟩
theorem zo:HBc 41 zt:=ctk (T:=[]) (h:=.n) Tryz.func41 rfl zDy trivial fun x=>by kernel_rfl
def zho:Ct TS:=⟨[.ptr 1 0,dI 17,dI 18],(h29 1 9 16 2 3 4 5 6 7 8 10 11 12 13 14 15),k33,.tup [],(h29 19 9 16 2 3 4 5 6 7 8 10 11 12 13 14 15),[i6],false,fun x=>yC (zae x) (rBB x).1 (rBB x).2⟩
theorem zlg:HBc 121 zho:=ctk (T:=[(41,zt)]) (h:=.n) Tryz.func121 rfl zGm ⟨zo,trivial⟩ fun x=>by kernel_rfl
def zO:Ct TS:=⟨[.ptr 1 0],((h29 1 9 16 2 3 4 5 6 7 8 10 11 12 13 14 15)++h5),k30,.d .b 17,((h29 1 9 16 2 3 4 5 6 7 8 10 11 12 13 14 15)++h5),[.b],false,fun x=>zJ (xb x)⟩
theorem zM:HBc 190 zO:=ctk (T:=[(42,zP),(16,zaz)]) (h:=.n) Tryz.func190 rfl zGj ⟨zK,WM,trivial⟩ fun x=>by kernel_rfl
def ym:Ct TS:=⟨[.ptr 1 0],((h29 1 9 16 2 3 4 5 6 7 8 10 11 12 13 14 15)++h5),k30,.d .s 17,((h29 18 9 16 2 3 4 5 6 7 8 10 11 12 13 14 15)++h5),[.s,i6],false,fun x=>zL (xb x)⟩
theorem yg:HBc 207 ym:=ctk (T:=[(190,zO),(41,zt)]) (h:=.n) Tryz.func207 rfl zrk ⟨zM,zo,trivial⟩ fun x=>by kernel_rfl
def za6:Ct TS:=⟨[.ptr 1 0,.om 9],((h29 1 9 16 2 3 4 5 6 7 8 10 11 12 13 14 15)++h5),k30,.d .s 17,((h29 18 9 16 2 3 4 5 6 7 8 19 11 12 13 14 15)++h5),k34,false,fun x=>HU (xb x)⟩
theorem zem:HBc 191 za6:=ctk (T:=[(190,zO),(41,zt),(42,zP),(207,ym)]) (h:=.n) Tryz.func191 rfl u5 ⟨zM,zo,zK,yg,trivial⟩ fun x=>by kernel_rfl
def zot:Ct TS:=⟨[.ptr 1 0,.ci .i64 0],((h29 1 9 16 2 3 4 5 6 7 8 10 11 12 13 14 15)++h5),k30,.d .s 17,((h35 18 9 7001001 16 2 3 4 5 6 7 8)++h5++(h36 7001001 19)),k34,false,fun x=>zap (xb x)⟩
theorem zrs:HBc 125 zot:=ctg (cd:=cdO) (nb:=nbT) (rc:=[]) (T:=[(191,za6)]) (h:=.s .n (.s (.j ⟨[(0,.ptr 1 0),(1,dI 16)],((h35 1 2 7000001 3 4 5 6 7 8 9 10)++h5++(h36 7000001 17)),k37,[.l (.m (.s) (.b))]⟩ false .n) .n)) Tryz.func125 rfl Hw ⟨zem,trivial⟩ fun x=>by kernel_rfl
def kE:Ct TS:=⟨[.ptr 1 0,.d .s 17],(h29 1 9 16 2 3 4 5 6 7 8 10 11 12 13 14 15),k38,.d .b 18,(h29 1 9 16 2 3 4 5 6 7 8 10 11 12 13 14 15),[.b],false,fun x=>wD (zae x) (rBB x)⟩
theorem jK:HBc 124 kE:=ctk (T:=[(42,zP)]) (h:=.n) Tryz.func124 rfl zGg ⟨zK,trivial⟩ fun x=>by kernel_rfl
def wR:Ct TS:=⟨[.ptr 1 0,.d .s 17],(h29 1 9 16 2 3 4 5 6 7 8 10 11 12 13 14 15),k38,.d .b 18,(h29 19 9 16 2 3 4 5 6 7 8 10 11 12 13 14 15),[.b,i6],false,fun x=>zD (zae x) (rBB x)⟩
theorem wu:HBc 194 wR:=ctk (T:=[(124,kE)]) (h:=.n) Tryz.func194 rfl zGh ⟨jK,trivial⟩ fun x=>by kernel_rfl
def yO:Ct TS:=⟨[.ptr 1 0,.d .s 17],(h29 1 9 16 2 3 4 5 6 7 8 10 11 12 13 14 15),k38,.tup [],(h29 18 9 16 2 3 4 5 6 7 8 10 11 12 13 14 15),[i6],false,fun x=>zw (zae x) (rBB x)⟩
theorem yE:HBc 133 yO:=ctk (T:=[(194,wR),(41,zt)]) (h:=.n) Tryz.func133 rfl zrl ⟨wu,zo,trivial⟩ fun x=>by kernel_rfl
def yt:Ct TS:=⟨[.ptr 1 0],(h29 1 9 16 2 3 4 5 6 7 8 10 11 12 13 14 15),k30,.d .b 17,(h29 1 9 16 2 3 4 5 6 7 8 10 11 12 13 14 15),[.b],false,fun x=>yb (xb x)⟩
theorem yu:HBc 193 yt:=ctk (T:=[(42,zP)]) (h:=.n) Tryz.func193 rfl zGi ⟨zK,trivial⟩ fun x=>by kernel_rfl
def z8:Ct TS:=⟨[.ptr 1 0,dI 17,dI 18],(h29 1 9 16 2 3 4 5 6 7 8 10 11 12 13 14 15),k33,dI 19,(h29 20 9 16 2 3 4 5 6 7 8 10 11 12 13 14 15),[i6,i6],false,fun x=>zk (zae x) (rBB x).1 (rBB x).2⟩
theorem zZ:HBc 130 z8:=ctk (T:=[(193,yt),(41,zt),(42,zP)]) (h:=.s .n (.s .n (.s .n (.s (.j ⟨[(0,.ptr 1 0),(7,dI 17)],(h29 1 2 3 4 5 6 7 8 9 10 11 12 13 14 15 16),k39,[]⟩ false .n) .n)))) Tryz.func130 rfl zrj ⟨yu,zo,zK,trivial⟩ fun x=>by kernel_rfl
def qa(RK:Nat):Ct TS:=⟨[.ptr 1 0,dI 17],((h29 1 9 16 2 3 4 5 6 7 8 10 11 12 13 14 15)++h5),k40,.tup [.ag [dI 20,dI 21,.d .s 22,.d .s 23,.d (.l (.st 0)) 24],dI 18],((h29 19 9 16 2 3 4 5 6 7 8 10 11 12 13 14 15)++h5++(h25 7000001 20 21 22 23 24)),k12,false,fun x=>kT RK (zae x) (rBB x)⟩
def xS(RK:Nat):Ct TS:=⟨[.ptr 1 0,dI 17],((h29 1 9 16 2 3 4 5 6 7 8 10 11 12 13 14 15)++h5),k40,.ag [dI 19,dI 20,.d .s 21,.d .s 22,.d (.l (.st 0)) 23],((h29 18 9 16 2 3 4 5 6 7 8 10 11 12 13 14 15)++h5++(h25 7000001 19 20 21 22 23)),k13,false,fun x=>z6 RK (zae x) (rBB x)⟩
theorem vz:∀RK,(qa RK).OK PGq 150∧(xS RK).OK PGq 40
 |0=>⟨(fun x r h=>nomatch (show(none:Option _)=some r from h)),(fun x r h=>nomatch (show(none:Option _)=some r from h))⟩
 |RK+1=>⟨(ctg (c:=qa (RK+1)) (cd:=cdT) (nb:=nbT) (rc:=[(4,7000001,0)]) (T:=[(194,wR),(40,xS RK),(133,yO),(193,yt),(130,z8),(207,ym)]) (h:=.s .n (.s (.s (.s (.j ⟨[(0,.ptr 1 0),(1,dI 16),(4,.ptr 1000004 0),(10,.d .b 21)],((h29 20 1 2 3 4 5 6 7 8 9 10 11 12 13 14 15)++h5++(h25 1000004 17 17 18 18 19)),k41,[i6,.b]⟩ false .n) (.s .n (.s (.j ⟨[(0,.ptr 1 0),(1,dI 16),(4,.ptr 1000004 0),(31,.d .b 21)],((h29 20 1 2 3 4 5 6 7 8 9 10 11 12 13 14 15)++h5++(h25 1000004 17 17 18 18 19)),k41,[i6,.b]⟩ false .n) (.s .n (.s (.j ⟨[(0,.ptr 1 0),(4,.ptr 1000004 0),(42,.d .b 20)],((h29 19 1 2 3 4 5 6 7 8 9 10 11 12 13 14 15)++h5++(h25 1000004 16 16 17 17 18)),k42,[i6,.b]⟩ false .n) .n))))) .n) .n)) Tryz.func150 rfl Kf ⟨wu,⟨J6,(vz RK).2⟩,yE,yu,zZ,yg,trivial⟩ fun x=>by kernel_rfl).2,(ctg (c:=xS (RK+1)) (cd:=cdT) (nb:=nbT) (rc:=[(4,7000001,0)]) (T:=[(150,qa RK),(151,kh),(124,kE),(40,xS RK)]) (h:=.s .n (.s .n (.s (.lr ⟨[(0,.ptr 1 0),(1,dI 16),(4,.ptr 1000004 0),(5,.ptr 1000005 0),(6,dI 21)],((h29 20 1 2 3 4 5 6 7 8 9 10 11 12 13 14 15)++h5++(h43 1000004 17 17 18 18 19 1000005 22 23 24 25 26)),k41,k12⟩ [] [] [] 999999999 (fun x K v=>jx (z6 RK) (BB.mk x.1 0 x.2.2.2.1 x.2.2.2.2.1 (p5Q x).1 (p6Q x).1 (p7Q x).1 (p8Q x).1 (p9Q x).1 x.2.1 (zi0 x).1 (zi1 x).1 (zi2 x).1 (zm4 x).1 (zm5 x).1 (zri x).1 x.2.2.1) (zGe x).1 (zGf x).1 (zMc x).1 (zMd x) K v) (.s (.s .n (.s (.s .n (.s (.l ⟨[(0,.ptr 1 0),(1,dI 17),(4,.ptr 1000004 0),(5,.ptr 1000005 0),(6,dI 18),(7,.ptr 1000007 0),(16,.d (.l (.st 12)) 19),(17,dI 20),(18,dI 29)],((h29 1 2 3 4 5 6 7 8 9 10 11 12 13 14 15 16)++h5++(h44 21 22 23 24 25 26 27 28 30 31 32)),k45,k3⟩ [(0,.ptr 1 0),(1,dI 17),(4,.ptr 1000004 0),(5,.ptr 1000005 0),(6,dI 18),(7,.ptr 1000007 0)] ((h29 1 2 3 4 5 6 7 8 9 10 11 12 13 14 15 16)++h5++(h44 21 22 23 24 25 26 27 28 29 30 31)) [.s,i6,i6] 2 (fun x K v=>jw (BB.mk x.1 0 x.2.2.2.2.1 (p5Q x).1 (p6Q x).1 (p7Q x).1 (p8Q x).1 (p9Q x).1 (zi0 x).1 x.2.2.1 (zi1 x).1 (zi2 x).1 (zm4 x).1 (zm5 x).1 (zri x).1 (zGe x).1 x.2.2.2.1) x.2.1 (zGf x).1 (zMc x).1 (zMd x).1 (zRr x).1 (p21Q x).1 (p22Q x).1 (p23Q x).1 (p24Q x).1 (p25Q x).1 (p26Q x).1 (p27Q x).1 (p28Q x) K v) (.s .n (.s .n (.s (.j ⟨[(0,.ptr 1 0),(1,dI 17),(4,.ptr 1000004 0),(5,.ptr 1000005 0),(6,dI 18),(7,.ptr 1000007 0),(16,.d (.l (.st 12)) 19),(17,dI 20),(18,dI 21)],((h29 1 2 3 4 5 6 7 8 9 10 11 12 13 14 15 16)++h5++(h44 22 23 24 25 26 27 28 29 30 31 32)),k46,[.s,i6,i6]⟩ false .n) .n)))) .n)) (.s (.s (.j ⟨[(0,.ptr 1 0),(1,dI 17),(4,.ptr 1000004 0),(5,.ptr 1000005 0),(7,.ptr 1000007 0),(51,.d .b 29)],((h29 1 2 3 4 5 6 7 8 9 10 11 12 13 14 15 16)++h5++(h44 18 19 20 21 22 23 24 25 26 27 28)),k47,[.b]⟩ false .n) .n) .n))) .n)) .n))) Tryz.func40 rfl J6 ⟨⟨Kf,(vz RK).1⟩,kZ,jK,⟨J6,(vz RK).2⟩,trivial⟩ fun x=>by kernel_rfl).2⟩
theorem zhp(RK:Nat):zd PGq 150∧(qa RK).OK PGq 150:=⟨Kf,(vz RK).1⟩
theorem ki(RK:Nat):zd PGq 40∧(xS RK).OK PGq 40:=⟨J6,(vz RK).2⟩
def KT:Ct TS:=⟨[.ptr 1 0,.d .b 17,dI 18],(h29 1 9 16 2 3 4 5 6 7 8 10 11 12 13 14 15),k32,.tup [],(h29 19 9 16 2 3 4 5 6 7 8 10 11 12 13 14 15),[i6],false,fun x=>vN (zae x) (rBB x).1 (rBB x).2⟩
theorem JR:HBc 127 KT:=ctk (T:=[(124,kE),(41,zt)]) (h:=.n) Tryz.func127 rfl zGn ⟨jK,zo,trivial⟩ fun x=>by kernel_rfl
def WO:Ct TS:=⟨[.ptr 1 0],((h29 1 9 16 2 3 4 5 6 7 8 10 11 12 13 14 15)++h5),k30,.tup [],((h35 17 9 7000001 16 18 3 4 5 6 7 8)++h5++(h36 7000001 19)),[i6,.l (.st 1),.l (.m (.s) (.b))],false,fun x=>oT (xb x)⟩
theorem za7:HBc 122 WO:=ctk (T:=[(125,zot),(133,yO),(40,xS KK),(43,kD KK),(127,KT)]) (h:=.n) Tryz.func122 rfl zGo ⟨zrs,yE,(ki KK),(o5 KK),JR,trivial⟩ fun x=>by kernel_rfl
def KU:Ct TS:=⟨[.ptr 1 0,.om 10],((h29 1 9 16 2 3 4 5 6 7 8 10 11 12 13 14 15)++h5),k30,.d .s 17,((h29 18 9 16 2 3 4 5 6 7 8 10 19 12 13 14 15)++h5),k34,false,fun x=>ue (xb x)⟩
theorem Ym:HBc 191 KU:=ctk (T:=[(190,zO),(41,zt),(42,zP),(207,ym)]) (h:=.n) Tryz.func191 rfl u5 ⟨zM,zo,zK,yg,trivial⟩ fun x=>by kernel_rfl
def za8:Ct TS:=⟨[.ptr 1 0,.ci .i64 1],((h29 1 9 16 2 3 4 5 6 7 8 10 11 12 13 14 15)++h5),k30,.d .s 17,((h48 18 9 7001001 16 2 3 4 5 6 7 8 10 12 13 14 15)++h5++(h36 7001001 19)),k34,false,fun x=>HV (xb x)⟩
theorem zen:HBc 125 za8:=ctg (cd:=cdO) (nb:=nbT) (rc:=[]) (T:=[(191,KU)]) (h:=.s .n (.s (.j ⟨[(0,.ptr 1 0),(1,dI 16)],((h48 1 2 7000001 3 4 5 6 7 8 9 10 11 12 13 14 15)++h5++(h36 7000001 17)),k37,[.l (.m (.s) (.b))]⟩ false .n) .n)) Tryz.func125 rfl Hw ⟨Ym,trivial⟩ fun x=>by kernel_rfl
def KV:Ct TS:=⟨[.ptr 1 0,.mp 15],((h49 1 17)++h5),k50,.d .s 18,((h49 19 20)++h5),[.s,i6,.m (.s) (.b)],false,fun x=>ya (zae x) (rBB x)⟩
theorem Yn:HBc 191 KV:=ctk (T:=[(190,zO),(41,zt),(42,zP),(207,ym)]) (h:=.n) Tryz.func191 rfl u5 ⟨zM,zo,zK,yg,trivial⟩ fun x=>by kernel_rfl
def o9:Ct TS:=⟨[.ptr 1 0,dI 17],(h29 1 9 16 2 3 4 5 6 7 8 10 11 12 13 14 15),k40,dI 18,(h29 19 9 16 2 3 4 5 6 7 8 10 11 12 13 14 15),[i6,i6],false,fun x=>xQ (zae x) (rBB x)⟩
theorem Hd:HBc 192 o9:=ctk (T:=[(194,wR),(130,z8)]) (h:=.n) Tryz.func192 rfl zGp ⟨wu,zZ,trivial⟩ fun x=>by kernel_rfl
def za9:Ct TS:=⟨[.ptr 1 0],((h29 1 9 16 2 3 4 5 6 7 8 10 11 12 13 14 15)++h5),k30,.tup [],((h48 17 9 7000001 16 2 18 4 5 6 7 8 10 12 13 14 15)++h5++(h36 7000001 19)),[i6,.l (.st 3),.l (.m (.s) (.b))],false,fun x=>HW (xb x)⟩
theorem zeo:HBc 123 za9:=ctk (T:=[(125,za8),(190,zO),(41,zt),(191,KV),(192,o9),(133,yO)]) (h:=.s .n (.s .n (.s (.s (.l ⟨[(0,.ptr 1 0),(2,.ptr 1000002 0),(3,.mp 1000007)],((h48 18 1 103000500 2 3 4 5 6 7 8 9 10 11 12 13 14)++h5++h51),k52,[i6,.m (.s) (.b),.l (.st 2)]⟩ [(0,.ptr 1 0),(2,.ptr 1000002 0)] ((h48 18 1 103000500 2 3 4 5 6 7 8 9 10 11 12 13 14)++h5++h53) [i6,.l (.st 2)] 0 (fun x K v=>kU (BB.mk x.1 0 x.2.2.2.1 x.2.2.2.2.1 (p5Q x).1 (p6Q x).1 (p7Q x).1 (p8Q x).1 (p9Q x).1 x.2.1 (zi0 x).1 [] (zi1 x).1 (zi2 x).1 (zm4 x).1 (zm5 x).1 x.2.2.1) (zri x).1 (zGe x).1 (zGf x) K v) .n) .n) .n))) Tryz.func123 rfl zGq ⟨zen,zM,zo,Yn,Hd,yE,trivial⟩ fun x=>by kernel_rfl
def KW:Ct TS:=⟨[.ptr 1 0,.om 11],((h29 1 9 16 2 3 4 5 6 7 8 10 11 12 13 14 15)++h5),k30,.d .s 17,((h29 18 9 16 2 3 4 5 6 7 8 10 11 19 13 14 15)++h5),k34,false,fun x=>uf (xb x)⟩
theorem Yo:HBc 191 KW:=ctk (T:=[(190,zO),(41,zt),(42,zP),(207,ym)]) (h:=.n) Tryz.func191 rfl u5 ⟨zM,zo,zK,yg,trivial⟩ fun x=>by kernel_rfl
def zba:Ct TS:=⟨[.ptr 1 0,.ci .i64 2],((h29 1 9 16 2 3 4 5 6 7 8 10 11 12 13 14 15)++h5),k30,.d .s 17,((h54 18 9 7001001 16 2 3 4 5 6 7 8 10 11)++h5++(h36 7001001 19)),k34,false,fun x=>ug (xb x)⟩
theorem zep:HBc 125 zba:=ctg (cd:=cdO) (nb:=nbT) (rc:=[]) (T:=[(191,KW)]) (h:=.s .n (.s (.j ⟨[(0,.ptr 1 0),(1,dI 16)],((h54 1 2 7000001 3 4 5 6 7 8 9 10 11 12)++h5++(h36 7000001 17)),k37,[.l (.m (.s) (.b))]⟩ false .n) .n)) Tryz.func125 rfl Hw ⟨Yo,trivial⟩ fun x=>by kernel_rfl
def WQ:Ct TS:=⟨[.ptr 1 0],(h29 1 9 16 2 3 4 5 6 7 8 10 11 12 13 14 15),k30,.d (.l (.st 4)) 17,(h29 18 9 16 2 3 4 5 6 7 8 10 11 12 13 14 15),[.l (.st 4),i6],false,fun x=>xR (xb x)⟩
theorem zbb:HBc 126 WQ:=ctk (T:=[(130,z8),(193,yt)]) (h:=.s .n (.s .n (.s (.lr ⟨[(0,.ptr 1 0),(3,.row 2 7000001)],((h29 16 1 2 3 4 5 6 7 8 9 10 11 12 13 14 15)++[(7000001,.row 156 (.st 4) 17 false)]),k55,[i6,.l (.st 4)]⟩ [] [] [] 999999999 (fun x K v=>jy (BB.mk x.1 0 x.2.2.2.1 x.2.2.2.2.1 (p5Q x).1 (p6Q x).1 (p7Q x).1 (p8Q x).1 (p9Q x).1 x.2.1 (zi0 x).1 (zi1 x).1 (zi2 x).1 (zm4 x).1 (zm5 x).1 (zri x) x.2.2.1) K v) .n) .n))) Tryz.func126 rfl zGr ⟨zZ,yu,trivial⟩ fun x=>by kernel_rfl
def zeq:Ct TS:=⟨[.d (.l (.st 4)) 0],[],[.l (.st 4)],.d (.l (.st 13)) 1,[],[.l (.st 13)],false,fun x=>JJ x⟩
theorem zou:HBc 214 zeq:=ctk (T:=[]) (h:=.s .n (.s .n (.s (.s .n (.s (.l ⟨[(0,.d (.l (.st 4)) 0),(3,.row 4 1000007),(9,dI 1),(10,dI 2)],[(1000007,.row 229 (.st 13) 3 false)],[.l (.st 4),i6],[i6,.l (.st 13)]⟩ [(3,.row 4 1000007)] [(1000007,.row 229 (.st 13) 2 false)] [.l (.st 13)] 0 (u2Q wg) .n) .n)) .n))) Tryz.func214 rfl zOz trivial fun x=>by kernel_rfl
def zer:Ct TS:=⟨[.d (.st 4) 0],[],[.st 4],.d .b 1,[],[.b],false,fun x=>Wj x⟩
theorem zov:HBc 215 zer:=ctk (T:=[]) (h:=.n) Tryz.func215 rfl zO0 trivial fun x=>by kernel_rfl
def Hx:Ct TS:=⟨[.d (.st 13) 0],[],[.st 13],.d .b 1,[],[.b],false,fun x=>xe x⟩
theorem WR:HBc 216 Hx:=ctk (T:=[]) (h:=.n) Tryz.func216 rfl zO1 trivial fun x=>by kernel_rfl
def zbc:Ct TS:=⟨[dI 0],[],[i6],.d .b 1,[],[.b],false,fun x=>AL x⟩
theorem zlh:HBc 238 zbc:=ctk (T:=[]) (h:=.n) Tryz.func238 rfl zO2 trivial fun x=>by kernel_rfl
def Vp:Ct TS:=⟨[dI 0,dI 1],[],[i6,i6],dI 2,[],[i6],false,u2Q jz⟩
theorem zc3:HBc 231 Vp:=ctk (T:=[(238,zbc)]) (h:=.n) Tryz.func231 rfl zO3 ⟨zlh,trivial⟩ fun x=>by kernel_rfl
def zrt:Ct TS:=⟨[.d (.l i6) 0],[],[.l i6],dI 1,[],[i6],false,fun x=>Y9 x⟩
theorem zyx:HBc 230 zrt:=ctk (T:=[]) (h:=.s .n (.s .n (.s (.s .n (.s (.lr ⟨[(3,dI 0),(6,.d (.l i6) 1),(7,dI 2),(8,dI 3)],[],[i6,.l i6,i6],[i6]⟩ [(3,dI 0)] [] [] 0 (u3Q j4) .n) .n)) .n))) Tryz.func230 rfl zO4 trivial fun x=>by kernel_rfl
def zbd:Ct TS:=⟨[.d (.st 4) 0,.d (.st 4) 1],[],[.st 4,.st 4],dI 2,[],[i6],false,u2Q AM⟩
theorem zli:HBc 217 zbd:=ctk (T:=[(231,Vp),(230,zrt)]) (h:=.n) Tryz.func217 rfl zO5 ⟨zc3,zyx,trivial⟩ fun x=>by kernel_rfl
def Hy:Ct TS:=⟨[.d (.st 13) 0,.d (.st 13) 1],[],[.st 13,.st 13],.d .b 2,[],[.b],false,u2Q Hu⟩
theorem WS:HBc 218 Hy:=ctk (T:=[]) (h:=.n) Tryz.func218 rfl zO6 trivial fun x=>by kernel_rfl
def zlj:Ct TS:=⟨[.d (.l (.st 4)) 0],[],[.l (.st 4)],.d .b 1,[],[.b],false,fun x=>zaq x⟩
theorem zuf:HBc 180 zlj:=ctk (T:=[(214,zeq),(215,zer),(216,Hx),(217,zbd),(218,Hy)]) (h:=.s .n (.s (.s (.j ⟨[(0,.d (.l (.st 4)) 0),(16,.d .b 1)],[],[.l (.st 4)],[.b]⟩ false .n) .n) (.s .n (.s (.s .n (.s (.lr ⟨[(0,.d (.l (.st 4)) 0),(3,.d (.l (.st 13)) 1),(19,.d (.l (.st 13)) 1),(20,dI 2),(21,dI 3)],[],[.l (.st 4),.l (.st 13),i6],[i6]⟩ [(3,.d (.l (.st 13)) 1)] [] [] 0 (u3Q vZ) (.s .n (.s .n (.s (.s (.s .n (.s .n (.s (.s (.j ⟨[(0,.d (.l (.st 4)) 0),(3,.d (.l (.st 13)) 1),(4,dI 2),(19,.d (.l (.st 13)) 1),(20,dI 3),(21,dI 2),(61,.d .b 4)],[],[.l (.st 4),.l (.st 13),i6,i6],[.b]⟩ false .n) .n) (.s (.j ⟨[(0,.d (.l (.st 4)) 0),(3,.d (.l (.st 13)) 1),(19,.d (.l (.st 13)) 1),(20,dI 2),(21,dI 3),(74,.d .b 4)],[],[.l (.st 4),.l (.st 13),i6,i6],[.b]⟩ false .n) .n)))) .n) .n)))) .n)) (.s (.s .n (.s (.lr ⟨[(3,.d (.l (.st 13)) 0),(77,dI 1),(78,dI 2)],[],[.l (.st 13),i6],[i6]⟩ [(3,.d (.l (.st 13)) 0)] [] [] 2 (u2Q jb) (.s .n (.s .n (.s (.s (.s .n (.s .n (.s (.lr ⟨[(3,.d (.l (.st 13)) 0),(7,dI 1),(8,dI 3),(77,dI 2),(78,dI 1)],[],[.l (.st 13),i6,i6],[i6]⟩ [(3,.d (.l (.st 13)) 0),(77,dI 2),(78,dI 1)] [] [] 4 (u3Q ja) (.s .n (.s (.s (.s (.j ⟨[(3,.d (.l (.st 13)) 0),(7,dI 1),(8,dI 2),(77,dI 3),(78,dI 1),(106,.d .b 4)],[],[.l (.st 13),i6,i6,i6],[.b]⟩ false .n) .n) .n) .n))) .n))) .n) .n)))) .n)) .n))))) Tryz.func180 rfl zO7 ⟨zou,zov,WR,zli,WS,trivial⟩ fun x=>by kernel_rfl
def Zf:Ct TS:=⟨[.d (.l (.st 4)) 0],[],[.l (.st 4)],.d .b 1,[],[.b],false,fun x=>vb x⟩
theorem zbe:HBc 94 Zf:=ctk (T:=[(180,zlj)]) (h:=.n) Tryz.func94 rfl hbv94 ⟨zuf,trivial⟩ fun x=>by kernel_rfl
def KX:Ct TS:=⟨[.ptr 1 0,.om 12],((h29 1 9 16 2 3 4 5 6 7 8 10 11 12 13 14 15)++h5),k30,.d .s 17,((h29 18 9 16 2 3 4 5 6 7 8 10 11 12 19 14 15)++h5),k34,false,fun x=>uh (xb x)⟩
theorem Yp:HBc 191 KX:=ctk (T:=[(190,zO),(41,zt),(42,zP),(207,ym)]) (h:=.n) Tryz.func191 rfl u5 ⟨zM,zo,zK,yg,trivial⟩ fun x=>by kernel_rfl
def zbf:Ct TS:=⟨[.ptr 1 0,.ci .i64 3],((h29 1 9 16 2 3 4 5 6 7 8 10 11 12 13 14 15)++h5),k30,.d .s 17,((h56 18 9 7001001 16 2 3 4 5 6 7 8 10 11 12 14 15)++h5++(h36 7001001 19)),k34,false,fun x=>HX (xb x)⟩
theorem zes:HBc 125 zbf:=ctg (cd:=cdO) (nb:=nbT) (rc:=[]) (T:=[(191,KX)]) (h:=.s .n (.s (.j ⟨[(0,.ptr 1 0),(1,dI 16)],((h56 1 2 7000001 3 4 5 6 7 8 9 10 11 12 13 14 15)++h5++(h36 7000001 17)),k37,[.l (.m (.s) (.b))]⟩ false .n) .n)) Tryz.func125 rfl Hw ⟨Yp,trivial⟩ fun x=>by kernel_rfl
def zhq:Ct TS:=⟨[.ptr 1 0],((h29 1 9 16 2 3 4 5 6 7 8 10 11 12 13 14 15)++h5),k30,.d (.l (.s)) 17,((h29 18 9 16 2 3 4 5 6 7 8 10 11 12 13 14 15)++h5),[.l (.s),i6],false,fun x=>qt (xb x)⟩
theorem zlk:HBc 195 zhq:=ctk (T:=[(207,ym),(190,zO)]) (h:=.s .n (.s .n (.s (.s (.l ⟨[(0,.ptr 1 0),(3,.row 1 1000008)],((h29 16 1 2 3 4 5 6 7 8 9 10 11 12 13 14 15)++h5++(h57 1000008 17)),k55,[i6,.l (.s)]⟩ [(3,.row 1 1000008)] ((h29 16 1 2 3 4 5 6 7 8 9 10 11 12 13 14 15)++h5++(h57 1000008 17)) [i6,.l (.s)] 0 (fun x K v=>ui (BB.mk x.1 0 x.2.2.2.1 x.2.2.2.2.1 (p5Q x).1 (p6Q x).1 (p7Q x).1 (p8Q x).1 (p9Q x).1 x.2.1 (zi0 x).1 (zi1 x).1 (zi2 x).1 (zm4 x).1 (zm5 x).1 (zri x) x.2.2.1) K v) .n) .n) .n))) Tryz.func195 rfl zGs ⟨yg,zM,trivial⟩ fun x=>by kernel_rfl
def Zg:Ct TS:=⟨[.d .s 0],h5,[.s],.row 1 60,[(60,.row 9 (.s) 1 false),(900000000,.rw 1),(900000001,.rw 2),(900000002,.rw 3),(900000003,.rw 4)],[.l (.s)],false,fun x=>kB x⟩
theorem zbg:Zg.OK PGq 72:=fun x r h=>kmp (by kernel_rfl) (zDg x r h)
def Kg:Ct TS:=⟨[.d (.l (.s)) 0,.d .s 1],[],[.l (.s),.s],dI 2,[],[i6],false,u2Q oz⟩
theorem zbh:HBc 219 Kg:=ctk (T:=[]) (h:=.s .n (.s (.s .n (.s (.lr ⟨[(0,.d (.l (.s)) 0),(1,.d .s 1),(7,dI 2),(8,dI 3)],[],[.l (.s),.s,i6],[i6]⟩ [] [] [] 0 (u3Q xl) .n) .n)) .n)) Tryz.func219 rfl zO8 trivial fun x=>by kernel_rfl
def zbi:Ct TS:=⟨[.d .s 0,.d .s 1],h5,[.s,.s],dI 2,h5,[i6],false,u2Q KF⟩
theorem Zh:HBc 197 zbi:=ctk (T:=[(72,Zg),(219,Kg)]) (h:=.n) Tryz.func197 rfl zO9 ⟨⟨zKc,zbg⟩,zbh,trivial⟩ fun x=>by kernel_rfl
def kj:Ct TS:=⟨[.ptr 1 0,.d .s 17],((h29 1 9 16 2 3 4 5 6 7 8 10 11 12 13 14 15)++h5),k38,dI 18,((h29 19 9 16 2 3 4 5 6 7 8 10 11 12 13 14 15)++h5),[i6,i6],false,fun x=>yX (zae x) (rBB x)⟩
theorem kl:HBc 129 kj:=ctk (T:=[(42,zP),(197,zbi),(41,zt)]) (h:=.s .n (.s .n (.s (.j ⟨[(0,.ptr 1 0),(5,dI 17)],((h29 1 2 3 4 5 6 7 8 9 10 11 12 13 14 15 16)++h5),k39,[]⟩ false .n) .n))) Tryz.func129 rfl zGt ⟨zK,Zh,zo,trivial⟩ fun x=>by kernel_rfl
def zow:Ct TS:=⟨[.ptr 1 0],((h29 1 9 16 2 3 4 5 6 7 8 10 11 12 13 14 15)++h5),k30,dI 17,((h29 18 9 16 2 3 4 5 6 7 8 10 11 12 13 14 15)++h5),[i6,i6],false,fun x=>zar (xb x)⟩
theorem zru:HBc 196 zow:=ctk (T:=[(42,zP),(197,zbi),(41,zt),(129,kj)]) (h:=.s .n (.s .n (.s (.lr ⟨[(0,.ptr 1 0),(3,dI 17)],((h29 16 1 2 3 4 5 6 7 8 9 10 11 12 13 14 15)++h5),k55,[i6,i6]⟩ [] [] [] 999999999 (fun x K v=>oU (BB.mk x.1 0 x.2.2.2.1 x.2.2.2.2.1 (p5Q x).1 (p6Q x).1 (p7Q x).1 (p8Q x).1 (p9Q x).1 x.2.1 (zi0 x).1 (zi1 x).1 (zi2 x).1 (zm4 x).1 (zm5 x).1 (zri x) x.2.2.1) K v) (.s (.s .n (.s (.s (.j ⟨[(0,.ptr 1 0),(3,dI 17),(4,dI 18),(24,.d .b 19)],((h29 1 2 3 4 5 6 7 8 9 10 11 12 13 14 15 16)++h5),k58,[.b]⟩ false .n) .n) (.s (.j ⟨[(0,.ptr 1 0),(3,dI 17)],((h29 1 2 3 4 5 6 7 8 9 10 11 12 13 14 15 16)++h5),k39,[]⟩ false .n) .n))) .n)) .n))) Tryz.func196 rfl zGu ⟨zK,Zh,zo,kl,trivial⟩ fun x=>by kernel_rfl
def zhr:Ct TS:=⟨[.ptr 1 0],((h29 1 9 16 2 3 4 5 6 7 8 10 11 12 13 14 15)++h5),k30,.tup [],((h56 17 9 7000001 16 2 3 4 18 6 7 8 10 11 12 14 15)++h5++(h36 7000001 19)),[i6,.l (.st 7),.l (.m (.s) (.b))],false,fun x=>AN (xb x)⟩
theorem zll:HBc 128 zhr:=ctk (T:=[(125,zbf),(194,wR),(195,zhq),(130,z8),(133,yO),(196,zow),(129,kj),(40,xS KK),(43,kD KK),(127,KT)]) (h:=.s .n (.s (.j ⟨[(0,.ptr 1 0),(2,.ptr 1000002 0)],((h56 22 1 103000400 2 3 4 5 6 7 8 9 10 11 12 13 14)++h5++(h59 23 17 18 18 18 19 18 18 18 20 20 21 18 18 18 18 18 18 18)),k60,[i6,.l (.s)]⟩ false .n) (.s (.j ⟨[(0,.ptr 1 0),(2,.ptr 1000002 0)],((h56 22 1 103000400 2 3 4 5 6 7 8 9 10 11 12 13 14)++h5++(h59 17 23 18 18 18 19 18 18 18 20 20 21 18 18 18 18 18 18 18)),k60,[i6,.l (.s)]⟩ false .n) (.s (.j ⟨[(0,.ptr 1 0),(2,.ptr 1000002 0)],((h56 23 1 103000400 2 3 4 5 6 7 8 9 10 11 12 13 14)++h5++(h59 17 18 24 19 19 20 19 19 19 21 21 22 19 19 19 19 19 19 19)),k61,[i6,i6]⟩ false .n) (.s (.j ⟨[(0,.ptr 1 0),(2,.ptr 1000002 0)],((h56 24 1 103000400 2 3 4 5 6 7 8 9 10 11 12 13 14)++h5++(h59 17 18 19 25 20 21 20 20 20 22 22 23 20 20 20 20 20 20 20)),k62,[i6,i6]⟩ false .n) (.s (.j ⟨[(0,.ptr 1 0),(2,.ptr 1000002 0)],((h56 25 1 103000400 2 3 4 5 6 7 8 9 10 11 12 13 14)++h5++(h59 17 18 19 20 26 21 22 22 22 23 23 24 22 22 22 22 22 22 22)),k63,[i6,i6]⟩ false .n) (.s .n (.s .n (.s (.j ⟨[(0,.ptr 1 0),(2,.ptr 1000002 0)],((h56 23 1 103000400 2 3 4 5 6 7 8 9 10 11 12 13 14)++h5++(h59 17 18 19 20 21 22 24 25 26 27 28 29 30 31 32 33 34 35 36)),k64,k65⟩ false .n) .n))))))))) Tryz.func128 rfl zGv ⟨zes,wu,zlk,zZ,yE,zru,kl,(ki KK),(o5 KK),JR,trivial⟩ fun x=>by kernel_rfl
def KY:Ct TS:=⟨[.ptr 1 0,.om 13],((h29 1 9 16 2 3 4 5 6 7 8 10 11 12 13 14 15)++h5),k30,.d .s 17,((h29 18 9 16 2 3 4 5 6 7 8 10 11 12 13 19 15)++h5),k34,false,fun x=>uj (xb x)⟩
theorem Yq:HBc 191 KY:=ctk (T:=[(190,zO),(41,zt),(42,zP),(207,ym)]) (h:=.n) Tryz.func191 rfl u5 ⟨zM,zo,zK,yg,trivial⟩ fun x=>by kernel_rfl
def zbj:Ct TS:=⟨[.ptr 1 0,.ci .i64 4],((h29 1 9 16 2 3 4 5 6 7 8 10 11 12 13 14 15)++h5),k30,.d .s 17,((h66 18 9 7001001 16 2 3 4 5 6 7 8 10 11 12 13)++h5++(h36 7001001 19)),k34,false,fun x=>uk (xb x)⟩
theorem zet:HBc 125 zbj:=ctg (cd:=cdO) (nb:=nbT) (rc:=[]) (T:=[(191,KY)]) (h:=.s .n (.s (.j ⟨[(0,.ptr 1 0),(1,dI 16)],((h66 1 2 7000001 3 4 5 6 7 8 9 10 11 12 13 14)++h5++(h36 7000001 17)),k37,[.l (.m (.s) (.b))]⟩ false .n) .n)) Tryz.func125 rfl Hw ⟨Yq,trivial⟩ fun x=>by kernel_rfl
def KZ:Ct TS:=⟨[.ptr 1 0,.om 14],((h29 1 9 16 2 3 4 5 6 7 8 10 11 12 13 14 15)++h5),k30,.d .s 17,((h29 18 9 16 2 3 4 5 6 7 8 10 11 12 13 14 19)++h5),k34,false,fun x=>um (xb x)⟩
theorem Yr:HBc 191 KZ:=ctk (T:=[(190,zO),(41,zt),(42,zP),(207,ym)]) (h:=.n) Tryz.func191 rfl u5 ⟨zM,zo,zK,yg,trivial⟩ fun x=>by kernel_rfl
def zbk:Ct TS:=⟨[.ptr 1 0,.ci .i64 5],((h29 1 9 16 2 3 4 5 6 7 8 10 11 12 13 14 15)++h5),k30,.d .s 17,((h67 18 9 7001001 16 2 3 4 5 6 7 8 10 11 12 13 14)++h5++(h36 7001001 19)),k34,false,fun x=>HY (xb x)⟩
theorem zeu:HBc 125 zbk:=ctg (cd:=cdO) (nb:=nbT) (rc:=[]) (T:=[(191,KZ)]) (h:=.s .n (.s (.j ⟨[(0,.ptr 1 0),(1,dI 16)],((h67 1 2 7000001 3 4 5 6 7 8 9 10 11 12 13 14 15)++h5++(h36 7000001 17)),k37,[.l (.m (.s) (.b))]⟩ false .n) .n)) Tryz.func125 rfl Hw ⟨Yr,trivial⟩ fun x=>by kernel_rfl
def zbl:Ct TS:=⟨[.ptr 1 0],(h29 1 9 16 2 3 4 5 6 7 8 10 11 12 13 14 15),k30,.ag [dI 18,dI 19,dI 20],((h29 17 9 16 2 3 4 5 6 7 8 10 11 12 13 14 15)++[(7000001,.box 98 [dI 18,dI 19,dI 20])]),k1,false,fun x=>jA (xb x)⟩
theorem zev:HBc 198 zbl:=ctg (cd:=cdT) (nb:=nbT) (rc:=[(2,7000001,0)]) (T:=[(130,z8)]) (h:=.n) Tryz.func198 rfl zGw ⟨zZ,trivial⟩ fun x=>by kernel_rfl
def zhs:Ct TS:=⟨[.ptr 1 0],((h29 1 9 16 2 3 4 5 6 7 8 10 11 12 13 14 15)++h5),k30,.tup [],((h67 17 9 7000001 16 2 3 4 5 6 18 8 10 11 12 13 14)++h5++(h36 7000001 19)),[i6,.l (.st 10),.l (.m (.s) (.b))],false,fun x=>AO (xb x)⟩
theorem zlm:HBc 131 zhs:=ctk (T:=[(125,zbk),(198,zbl),(133,yO),(130,z8),(193,yt),(41,zt)]) (h:=.s .n (.s .n (.s .n (.s .n (.s .n (.s (.s (.l ⟨[(0,.ptr 1 0),(2,.ptr 1000002 0)],((h67 21 1 103000400 2 3 4 5 6 7 8 9 10 11 12 13 14)++h5++h68),k69,[i6,.l (.st 9)]⟩ [(0,.ptr 1 0),(2,.ptr 1000002 0)] ((h67 21 1 103000400 2 3 4 5 6 7 8 9 10 11 12 13 14)++h5++h68) [i6,.l (.st 9)] 0 (fun x K v=>uo (BB.mk x.1 0 x.2.2.2.1 x.2.2.2.2.1 (p5Q x).1 (p6Q x).1 (p7Q x).1 (p8Q x).1 (p9Q x).1 x.2.1 (zi0 x).1 (zi1 x).1 (zi2 x).1 (zm4 x).1 (zm5 x).1 [] x.2.2.1) (zri x).1 (zGe x).1 (zGf x).1 (zMc x).1 (zMd x).1 (zRr x) K v) .n) .n) .n)))))) Tryz.func131 rfl zGx ⟨zeu,zev,yE,zZ,yu,zo,trivial⟩ fun x=>by kernel_rfl
def zox:Ct TS:=⟨[.ptr 1 0],(h29 1 9 16 2 3 4 5 6 7 8 10 11 12 13 14 15),k30,.tup [],(h29 17 9 16 2 3 4 5 6 7 18 10 11 12 13 14 15),[i6,.l (.st 9)],false,fun x=>KH (xb x)⟩
theorem zrv:HBc 132 zox:=ctk (T:=[(124,kE),(41,zt),(193,yt),(192,o9),(130,z8),(194,wR),(133,yO)]) (h:=.s (.s .n (.s (.l ⟨[(0,.ptr 1 0),(2,.d .b 17)],(h29 15 1 2 3 4 5 6 7 8 16 9 10 11 12 13 14),k70,[i6,.l (.st 9),.b]⟩ [(0,.ptr 1 0)] (h29 15 1 2 3 4 5 6 7 8 16 9 10 11 12 13 14) [i6,.l (.st 9)] 0 (fun x K v=>qM (BB.mk x.1 0 x.2.2.2.1 x.2.2.2.2.1 (p5Q x).1 (p6Q x).1 (p7Q x).1 (p8Q x).1 [] x.2.1 (p9Q x).1 (zi0 x).1 (zi1 x).1 (zi2 x).1 (zm4 x).1 (zm5 x) x.2.2.1) K v) (.s .n (.s (.s (.s (.j ⟨[(0,.ptr 1 0)],(h29 1 2 3 4 5 6 7 8 9 10 11 12 13 14 15 16),k71,[]⟩ false .n) .n) .n) .n))) .n)) .n) Tryz.func132 rfl zGy ⟨jK,zo,yu,Hd,zZ,wu,yE,trivial⟩ fun x=>by kernel_rfl
def JS:Ct TS:=⟨[.ptr 1 0],((h29 1 9 16 2 3 4 5 6 7 8 10 11 12 13 14 15)++h5),k30,.tup [],((h72 17 18 7001001 7001002 7001003 7001004 7001005 7001006 19 20 21 22 23 24 25 26)++h5++(h73 7001001 27 7001002 28 7001003 29 7001004 30 7001005 31 7001006 32)),k74,false,fun x=>zhc (xb x)⟩
theorem zyy:HBc 36 JS:=ctk (T:=[(42,zP),(121,zho),(122,WO),(123,za9),(124,kE),(125,zba),(126,WQ),(94,Zf),(127,KT),(128,zhr),(125,zbj),(129,kj),(130,z8),(131,zhs),(41,zt),(132,zox),(133,yO)]) (h:=.s (.l ⟨[(0,.ptr 1 0)],((h72 1 2 7000001 7000002 7000003 7000004 7000005 7000006 3 4 5 6 7 8 9 10)++h5++(h73 7000001 11 7000002 12 7000003 13 7000004 14 7000005 15 7000006 16)),[.l (.st 11)],k74⟩ [] ((h72 1 2 7000001 7000002 7000003 7000004 7000005 7000006 3 4 5 6 7 8 9 10)++h5++(h73 7000001 11 7000002 12 7000003 13 7000004 14 7000005 15 7000006 16)) k74 0 (fun x K v=>ye (BB.mk x 0 [] [] [] [] [] [] [] 0 [] [] [] [] [] [] false) K v) .n) .n) Tryz.func36 rfl zPa ⟨zK,zlg,za7,zeo,jK,zep,zbb,zbe,JR,zll,zet,kl,zZ,zlm,zo,zrv,yE,trivial⟩ fun x=>by kernel_rfl
def K1:CtP TS PC:=⟨[.ptr 1 0,dI 17],(h29 1 9 16 2 3 4 5 6 7 8 10 11 12 13 14 15),k40,fun x=>oV (zae x) (rBB x)⟩
theorem Ys:HBp 134 K1:=ctp (T:=[(42,zP)]) (TP:=[]) (h:=.n) Tryz.func134 rfl zGk ⟨zK,trivial⟩ trivial fun x=>by kernel_rfl
def zW:CtP TS PC:=⟨[.ptr 1 0,.d .b 17,dI 18],(h29 1 9 16 2 3 4 5 6 7 8 10 11 12 13 14 15),k32,fun x=>zr (zae x) (rBB x).1 (rBB x).2⟩
theorem zU:HBp 41 zW:=ctp (T:=[]) (TP:=[(134,K1)]) (h:=.n) Tryz.func41 rfl zDy trivial ⟨Ys,trivial⟩ fun x=>by kernel_rfl
def zln:CtP TS PC:=⟨[.ptr 1 0,dI 17,dI 18],(h29 1 9 16 2 3 4 5 6 7 8 10 11 12 13 14 15),k33,fun x=>vc (zae x) (rBB x).1 (rBB x).2⟩
theorem zug:HBp 121 zln:=ctp (T:=[(41,zt)]) (TP:=[(41,zW)]) (h:=.n) Tryz.func121 rfl zGm ⟨zo,trivial⟩ ⟨zU,trivial⟩ fun x=>by kernel_rfl
def xI:CtP TS PC:=⟨[.ptr 1 0],((h29 1 9 16 2 3 4 5 6 7 8 10 11 12 13 14 15)++h5),k30,fun x=>yH (xb x)⟩
theorem xD:HBp 207 xI:=ctp (T:=[(190,zO),(41,zt)]) (TP:=[(41,zW)]) (h:=.n) Tryz.func207 rfl zrk ⟨zM,zo,trivial⟩ ⟨zU,trivial⟩ fun x=>by kernel_rfl
def zew:CtP TS PC:=⟨[.ptr 1 0,.om 9],((h29 1 9 16 2 3 4 5 6 7 8 10 11 12 13 14 15)++h5),k30,fun x=>Vb (xb x)⟩
theorem zoy:HBp 191 zew:=ctp (T:=[(190,zO),(41,zt),(42,zP),(207,ym)]) (TP:=[(41,zW),(207,xI)]) (h:=.n) Tryz.func191 rfl u5 ⟨zM,zo,zK,yg,trivial⟩ ⟨zU,xD,trivial⟩ fun x=>by kernel_rfl
def zrw:CtP TS PC:=⟨[.ptr 1 0,.ci .i64 0],((h29 1 9 16 2 3 4 5 6 7 8 10 11 12 13 14 15)++h5),k30,fun x=>zhd (xb x)⟩
theorem zyz:HBp 125 zrw:=zMj (cd:=cdO) (nb:=nbT) (T:=[(191,za6)]) (TP:=[(191,zew)]) (h:=.s .n (.s (.j ⟨[(0,.ptr 1 0),(1,dI 16)],((h35 1 2 7000001 3 4 5 6 7 8 9 10)++h5++(h36 7000001 17)),k37,[.l (.m (.s) (.b))]⟩ false .n) .n)) Tryz.func125 rfl Hw ⟨zem,trivial⟩ ⟨zoy,trivial⟩ fun x=>by kernel_rfl
def wS:CtP TS PC:=⟨[.ptr 1 0,.d .s 17],(h29 1 9 16 2 3 4 5 6 7 8 10 11 12 13 14 15),k38,fun x=>yc (zae x) (rBB x)⟩
theorem wT:HBp 133 wS:=ctp (T:=[(194,wR),(41,zt)]) (TP:=[(41,zW)]) (h:=.n) Tryz.func133 rfl zrl ⟨wu,zo,trivial⟩ ⟨zU,trivial⟩ fun x=>by kernel_rfl
def xi:CtP TS PC:=⟨[.ptr 1 0,dI 17,dI 18],(h29 1 9 16 2 3 4 5 6 7 8 10 11 12 13 14 15),k33,fun x=>zB (zae x) (rBB x).1 (rBB x).2⟩
theorem xk:HBp 130 xi:=ctp (T:=[(193,yt),(41,zt),(42,zP)]) (TP:=[(41,zW)]) (h:=.s .n (.s .n (.s .n (.s (.j ⟨[(0,.ptr 1 0),(7,dI 17)],(h29 1 2 3 4 5 6 7 8 9 10 11 12 13 14 15 16),k39,[]⟩ true .n) .n)))) Tryz.func130 rfl zrj ⟨yu,zo,zK,trivial⟩ ⟨zU,trivial⟩ fun x=>by kernel_rfl
def He(RK:Nat):CtP TS PC:=⟨[.ptr 1 0,dI 17],((h29 1 9 16 2 3 4 5 6 7 8 10 11 12 13 14 15)++h5),k40,fun x=>uT RK (zae x) (rBB x)⟩
def vR(RK:Nat):CtP TS PC:=⟨[.ptr 1 0,dI 17],((h29 1 9 16 2 3 4 5 6 7 8 10 11 12 13 14 15)++h5),k40,fun x=>yY RK (zae x) (rBB x)⟩
theorem jL:∀RK,(He RK).OK PGq (pvT PT PC) 150∧(vR RK).OK PGq (pvT PT PC) 40
 |0=>⟨(fun x r h=>nomatch (show(none:Option _)=some r from h)),(fun x r h=>nomatch (show(none:Option _)=some r from h))⟩
 |RK+1=>⟨(ctp (c:=He (RK+1)) (T:=[(194,wR),(40,xS KK),(133,yO),(193,yt),(130,z8),(207,ym)]) (TP:=[(40,vR RK),(133,wS),(130,xi),(207,xI)]) (h:=.s .n (.s (.s (.s (.j ⟨[(0,.ptr 1 0),(1,dI 16),(4,.ptr 1000004 0),(10,.d .b 21)],((h29 20 1 2 3 4 5 6 7 8 9 10 11 12 13 14 15)++h5++(h25 1000004 17 17 18 18 19)),k41,[i6,.b]⟩ false .n) (.s .n (.s (.j ⟨[(0,.ptr 1 0),(1,dI 16),(4,.ptr 1000004 0),(31,.d .b 21)],((h29 20 1 2 3 4 5 6 7 8 9 10 11 12 13 14 15)++h5++(h25 1000004 17 17 18 18 19)),k41,[i6,.b]⟩ false .n) (.s .n (.s (.j ⟨[(0,.ptr 1 0),(4,.ptr 1000004 0),(42,.d .b 20)],((h29 19 1 2 3 4 5 6 7 8 9 10 11 12 13 14 15)++h5++(h25 1000004 16 16 17 17 18)),k42,[i6,.b]⟩ false .n) .n))))) .n) .n)) Tryz.func150 rfl Kf ⟨wu,(ki KK),yE,yu,zZ,yg,trivial⟩ ⟨⟨J6,(jL RK).2⟩,wT,xk,xD,trivial⟩ fun x=>by kernel_rfl).2,(ctp (c:=vR (RK+1)) (T:=[(150,qa KK),(151,kh),(124,kE),(40,xS KK)]) (TP:=[(150,He RK),(40,vR RK)]) (h:=.s .n (.s .n (.s (.lr ⟨[(0,.ptr 1 0),(1,dI 16),(4,.ptr 1000004 0),(5,.ptr 1000005 0),(6,dI 21)],((h29 20 1 2 3 4 5 6 7 8 9 10 11 12 13 14 15)++h5++(h43 1000004 17 17 18 18 19 1000005 22 23 24 25 26)),k41,k12⟩ [] [] [] 999999999 (fun x K v=>jC (yY RK) (BB.mk x.1 0 x.2.2.2.1 x.2.2.2.2.1 (p5Q x).1 (p6Q x).1 (p7Q x).1 (p8Q x).1 (p9Q x).1 x.2.1 (zi0 x).1 (zi1 x).1 (zi2 x).1 (zm4 x).1 (zm5 x).1 (zri x).1 x.2.2.1) (zGe x).1 (zGf x).1 (zMc x).1 (zMd x) K v) (.s (.s .n (.s (.s .n (.s (.l ⟨[(0,.ptr 1 0),(1,dI 17),(4,.ptr 1000004 0),(5,.ptr 1000005 0),(6,dI 18),(7,.ptr 1000007 0),(16,.d (.l (.st 12)) 19),(17,dI 20),(18,dI 29)],((h29 1 2 3 4 5 6 7 8 9 10 11 12 13 14 15 16)++h5++(h44 21 22 23 24 25 26 27 28 30 31 32)),k45,k3⟩ [(0,.ptr 1 0),(1,dI 17),(4,.ptr 1000004 0),(5,.ptr 1000005 0),(6,dI 18),(7,.ptr 1000007 0)] ((h29 1 2 3 4 5 6 7 8 9 10 11 12 13 14 15 16)++h5++(h44 21 22 23 24 25 26 27 28 29 30 31)) [.s,i6,i6] 2 (fun x K v=>jB (BB.mk x.1 0 x.2.2.2.2.1 (p5Q x).1 (p6Q x).1 (p7Q x).1 (p8Q x).1 (p9Q x).1 (zi0 x).1 x.2.2.1 (zi1 x).1 (zi2 x).1 (zm4 x).1 (zm5 x).1 (zri x).1 (zGe x).1 x.2.2.2.1) x.2.1 (zGf x).1 (zMc x).1 (zMd x).1 (zRr x).1 (p21Q x).1 (p22Q x).1 (p23Q x).1 (p24Q x).1 (p25Q x).1 (p26Q x).1 (p27Q x).1 (p28Q x) K v) (.s .n (.s .n (.s (.j ⟨[(0,.ptr 1 0),(1,dI 17),(4,.ptr 1000004 0),(5,.ptr 1000005 0),(6,dI 18),(7,.ptr 1000007 0),(16,.d (.l (.st 12)) 19),(17,dI 20),(18,dI 21)],((h29 1 2 3 4 5 6 7 8 9 10 11 12 13 14 15 16)++h5++(h44 22 23 24 25 26 27 28 29 30 31 32)),k46,[.s,i6,i6]⟩ false .n) .n)))) .n)) (.s (.s (.j ⟨[(0,.ptr 1 0),(1,dI 17),(4,.ptr 1000004 0),(5,.ptr 1000005 0),(7,.ptr 1000007 0),(51,.d .b 29)],((h29 1 2 3 4 5 6 7 8 9 10 11 12 13 14 15 16)++h5++(h44 18 19 20 21 22 23 24 25 26 27 28)),k47,[.b]⟩ false .n) .n) .n))) .n)) .n))) Tryz.func40 rfl J6 ⟨(zhp KK),kZ,jK,(ki KK),trivial⟩ ⟨⟨Kf,(jL RK).1⟩,⟨J6,(jL RK).2⟩,trivial⟩ fun x=>by kernel_rfl).2⟩
theorem Yt(RK:Nat):zd PGq 40∧(vR RK).OK PGq (pvT PT PC) 40:=⟨J6,(jL RK).2⟩
def Zi:CtP TS PC:=⟨[.ptr 1 0,.d .b 17,dI 18],(h29 1 9 16 2 3 4 5 6 7 8 10 11 12 13 14 15),k32,fun x=>AP (zae x) (rBB x).1 (rBB x).2⟩
theorem zbm:HBp 127 Zi:=ctp (T:=[(124,kE),(41,zt)]) (TP:=[(41,zW)]) (h:=.n) Tryz.func127 rfl zGn ⟨jK,zo,trivial⟩ ⟨zU,trivial⟩ fun x=>by kernel_rfl
def zbn:CtP TS PC:=⟨[.ptr 1 0],((h29 1 9 16 2 3 4 5 6 7 8 10 11 12 13 14 15)++h5),k30,fun x=>JK (xb x)⟩
theorem zlo:HBp 122 zbn:=ctp (T:=[(125,zot),(133,yO),(40,xS KK),(43,kD KK),(127,KT)]) (TP:=[(125,zrw),(133,wS),(40,vR KK),(127,Zi)]) (h:=.n) Tryz.func122 rfl zGo ⟨zrs,yE,(ki KK),(o5 KK),JR,trivial⟩ ⟨zyz,wT,(Yt KK),zbm,trivial⟩ fun x=>by kernel_rfl
def Yu:CtP TS PC:=⟨[.ptr 1 0,.om 10],((h29 1 9 16 2 3 4 5 6 7 8 10 11 12 13 14 15)++h5),k30,fun x=>AQ (xb x)⟩
theorem zht:HBp 191 Yu:=ctp (T:=[(190,zO),(41,zt),(42,zP),(207,ym)]) (TP:=[(41,zW),(207,xI)]) (h:=.n) Tryz.func191 rfl u5 ⟨zM,zo,zK,yg,trivial⟩ ⟨zU,xD,trivial⟩ fun x=>by kernel_rfl
def zex:CtP TS PC:=⟨[.ptr 1 0,.ci .i64 1],((h29 1 9 16 2 3 4 5 6 7 8 10 11 12 13 14 15)++h5),k30,fun x=>Vc (xb x)⟩
theorem zoz:HBp 125 zex:=zMj (cd:=cdO) (nb:=nbT) (T:=[(191,KU)]) (TP:=[(191,Yu)]) (h:=.s .n (.s (.j ⟨[(0,.ptr 1 0),(1,dI 16)],((h48 1 2 7000001 3 4 5 6 7 8 9 10 11 12 13 14 15)++h5++(h36 7000001 17)),k37,[.l (.m (.s) (.b))]⟩ false .n) .n)) Tryz.func125 rfl Hw ⟨Ym,trivial⟩ ⟨zht,trivial⟩ fun x=>by kernel_rfl
def Yv:CtP TS PC:=⟨[.ptr 1 0,.mp 15],((h49 1 17)++h5),k50,fun x=>yj (zae x) (rBB x)⟩
theorem zhu:HBp 191 Yv:=ctp (T:=[(190,zO),(41,zt),(42,zP),(207,ym)]) (TP:=[(41,zW),(207,xI)]) (h:=.n) Tryz.func191 rfl u5 ⟨zM,zo,zK,yg,trivial⟩ ⟨zU,xD,trivial⟩ fun x=>by kernel_rfl
def K2:CtP TS PC:=⟨[.ptr 1 0,dI 17],(h29 1 9 16 2 3 4 5 6 7 8 10 11 12 13 14 15),k40,fun x=>j5 (zae x) (rBB x)⟩
theorem Yw:HBp 192 K2:=ctp (T:=[(194,wR),(130,z8)]) (TP:=[(130,xi)]) (h:=.n) Tryz.func192 rfl zGp ⟨wu,zZ,trivial⟩ ⟨xk,trivial⟩ fun x=>by kernel_rfl
def zey:CtP TS PC:=⟨[.ptr 1 0],((h29 1 9 16 2 3 4 5 6 7 8 10 11 12 13 14 15)++h5),k30,fun x=>Vd (xb x)⟩
theorem zo0:HBp 123 zey:=ctp (T:=[(125,za8),(190,zO),(41,zt),(191,KV),(192,o9),(133,yO)]) (TP:=[(125,zex),(41,zW),(191,Yv),(192,K2),(133,wS)]) (h:=.s .n (.s .n (.s (.s (.lr ⟨[(0,.ptr 1 0),(2,.ptr 1000002 0),(3,.mp 1000007)],((h48 18 1 103000500 2 3 4 5 6 7 8 9 10 11 12 13 14)++h5++h51),k52,[i6,.m (.s) (.b),.l (.st 2)]⟩ [(0,.ptr 1 0),(2,.ptr 1000002 0)] ((h48 18 1 103000500 2 3 4 5 6 7 8 9 10 11 12 13 14)++h5++h53) [i6,.l (.st 2)] 0 (fun x K v=>kV (BB.mk x.1 0 x.2.2.2.1 x.2.2.2.2.1 (p5Q x).1 (p6Q x).1 (p7Q x).1 (p8Q x).1 (p9Q x).1 x.2.1 (zi0 x).1 [] (zi1 x).1 (zi2 x).1 (zm4 x).1 (zm5 x).1 x.2.2.1) (zri x).1 (zGe x).1 (zGf x) K v) .n) .n) .n))) Tryz.func123 rfl zGq ⟨zen,zM,zo,Yn,Hd,yE,trivial⟩ ⟨zoz,zU,zhu,Yw,wT,trivial⟩ fun x=>by kernel_rfl
def Yx:CtP TS PC:=⟨[.ptr 1 0,.om 11],((h29 1 9 16 2 3 4 5 6 7 8 10 11 12 13 14 15)++h5),k30,fun x=>AR (xb x)⟩
theorem zhv:HBp 191 Yx:=ctp (T:=[(190,zO),(41,zt),(42,zP),(207,ym)]) (TP:=[(41,zW),(207,xI)]) (h:=.n) Tryz.func191 rfl u5 ⟨zM,zo,zK,yg,trivial⟩ ⟨zU,xD,trivial⟩ fun x=>by kernel_rfl
def zez:CtP TS PC:=⟨[.ptr 1 0,.ci .i64 2],((h29 1 9 16 2 3 4 5 6 7 8 10 11 12 13 14 15)++h5),k30,fun x=>HZ (xb x)⟩
theorem zo1:HBp 125 zez:=zMj (cd:=cdO) (nb:=nbT) (T:=[(191,KW)]) (TP:=[(191,Yx)]) (h:=.s .n (.s (.j ⟨[(0,.ptr 1 0),(1,dI 16)],((h54 1 2 7000001 3 4 5 6 7 8 9 10 11 12)++h5++(h36 7000001 17)),k37,[.l (.m (.s) (.b))]⟩ false .n) .n)) Tryz.func125 rfl Hw ⟨Yo,trivial⟩ ⟨zhv,trivial⟩ fun x=>by kernel_rfl
def zbo:CtP TS PC:=⟨[.ptr 1 0],(h29 1 9 16 2 3 4 5 6 7 8 10 11 12 13 14 15),k30,fun x=>j6 (xb x)⟩
theorem zlp:HBp 126 zbo:=ctp (T:=[(130,z8),(193,yt)]) (TP:=[(130,xi)]) (h:=.s .n (.s .n (.s (.lr ⟨[(0,.ptr 1 0),(3,.row 2 7000001)],((h29 16 1 2 3 4 5 6 7 8 9 10 11 12 13 14 15)++[(7000001,.row 156 (.st 4) 17 false)]),k55,[i6,.l (.st 4)]⟩ [] [] [] 999999999 (fun x K v=>jD (BB.mk x.1 0 x.2.2.2.1 x.2.2.2.2.1 (p5Q x).1 (p6Q x).1 (p7Q x).1 (p8Q x).1 (p9Q x).1 x.2.1 (zi0 x).1 (zi1 x).1 (zi2 x).1 (zm4 x).1 (zm5 x).1 (zri x) x.2.2.1) K v) .n) .n))) Tryz.func126 rfl zGr ⟨zZ,yu,trivial⟩ ⟨xk,trivial⟩ fun x=>by kernel_rfl
def Yy:CtP TS PC:=⟨[.ptr 1 0,.om 12],((h29 1 9 16 2 3 4 5 6 7 8 10 11 12 13 14 15)++h5),k30,fun x=>AS (xb x)⟩
theorem zhw:HBp 191 Yy:=ctp (T:=[(190,zO),(41,zt),(42,zP),(207,ym)]) (TP:=[(41,zW),(207,xI)]) (h:=.n) Tryz.func191 rfl u5 ⟨zM,zo,zK,yg,trivial⟩ ⟨zU,xD,trivial⟩ fun x=>by kernel_rfl
def ze0:CtP TS PC:=⟨[.ptr 1 0,.ci .i64 3],((h29 1 9 16 2 3 4 5 6 7 8 10 11 12 13 14 15)++h5),k30,fun x=>Ve (xb x)⟩
theorem zo2:HBp 125 ze0:=zMj (cd:=cdO) (nb:=nbT) (T:=[(191,KX)]) (TP:=[(191,Yy)]) (h:=.s .n (.s (.j ⟨[(0,.ptr 1 0),(1,dI 16)],((h56 1 2 7000001 3 4 5 6 7 8 9 10 11 12 13 14 15)++h5++(h36 7000001 17)),k37,[.l (.m (.s) (.b))]⟩ false .n) .n)) Tryz.func125 rfl Hw ⟨Yp,trivial⟩ ⟨zhw,trivial⟩ fun x=>by kernel_rfl
def zlq:CtP TS PC:=⟨[.ptr 1 0],((h29 1 9 16 2 3 4 5 6 7 8 10 11 12 13 14 15)++h5),k30,fun x=>AT (xb x)⟩
theorem zuh:HBp 195 zlq:=ctp (T:=[(207,ym),(190,zO)]) (TP:=[(207,xI)]) (h:=.s .n (.s .n (.s (.s (.lr ⟨[(0,.ptr 1 0),(3,.row 1 1000008)],((h29 16 1 2 3 4 5 6 7 8 9 10 11 12 13 14 15)++h5++(h57 1000008 17)),k55,[i6,.l (.s)]⟩ [(3,.row 1 1000008)] ((h29 16 1 2 3 4 5 6 7 8 9 10 11 12 13 14 15)++h5++(h57 1000008 17)) [i6,.l (.s)] 0 (fun x K v=>uq (BB.mk x.1 0 x.2.2.2.1 x.2.2.2.2.1 (p5Q x).1 (p6Q x).1 (p7Q x).1 (p8Q x).1 (p9Q x).1 x.2.1 (zi0 x).1 (zi1 x).1 (zi2 x).1 (zm4 x).1 (zm5 x).1 (zri x) x.2.2.1) K v) .n) .n) .n))) Tryz.func195 rfl zGs ⟨yg,zM,trivial⟩ ⟨xD,trivial⟩ fun x=>by kernel_rfl
def Hf:CtP TS PC:=⟨[.ptr 1 0,.d .s 17],((h29 1 9 16 2 3 4 5 6 7 8 10 11 12 13 14 15)++h5),k38,fun x=>vd (zae x) (rBB x)⟩
theorem Jc:HBp 129 Hf:=ctp (T:=[(42,zP),(197,zbi),(41,zt)]) (TP:=[(41,zW)]) (h:=.s .n (.s .n (.s (.j ⟨[(0,.ptr 1 0),(5,dI 17)],((h29 1 2 3 4 5 6 7 8 9 10 11 12 13 14 15 16)++h5),k39,[]⟩ true .n) .n))) Tryz.func129 rfl zGt ⟨zK,Zh,zo,trivial⟩ ⟨zU,trivial⟩ fun x=>by kernel_rfl
def zrx:CtP TS PC:=⟨[.ptr 1 0],((h29 1 9 16 2 3 4 5 6 7 8 10 11 12 13 14 15)++h5),k30,fun x=>zhe (xb x)⟩
theorem zy0:HBp 196 zrx:=ctp (T:=[(42,zP),(197,zbi),(41,zt),(129,kj)]) (TP:=[(41,zW),(129,Hf)]) (h:=.s .n (.s .n (.s (.lr ⟨[(0,.ptr 1 0),(3,dI 17)],((h29 16 1 2 3 4 5 6 7 8 9 10 11 12 13 14 15)++h5),k55,[i6,i6]⟩ [] [] [] 999999999 (fun x K v=>oW (BB.mk x.1 0 x.2.2.2.1 x.2.2.2.2.1 (p5Q x).1 (p6Q x).1 (p7Q x).1 (p8Q x).1 (p9Q x).1 x.2.1 (zi0 x).1 (zi1 x).1 (zi2 x).1 (zm4 x).1 (zm5 x).1 (zri x) x.2.2.1) K v) (.s (.s .n (.s (.s (.j ⟨[(0,.ptr 1 0),(3,dI 17),(4,dI 18),(24,.d .b 19)],((h29 1 2 3 4 5 6 7 8 9 10 11 12 13 14 15 16)++h5),k58,[.b]⟩ false .n) .n) (.s (.j ⟨[(0,.ptr 1 0),(3,dI 17)],((h29 1 2 3 4 5 6 7 8 9 10 11 12 13 14 15 16)++h5),k39,[]⟩ true .n) .n))) .n)) .n))) Tryz.func196 rfl zGu ⟨zK,Zh,zo,kl,trivial⟩ ⟨zU,Jc,trivial⟩ fun x=>by kernel_rfl
def zlr:CtP TS PC:=⟨[.ptr 1 0],((h29 1 9 16 2 3 4 5 6 7 8 10 11 12 13 14 15)++h5),k30,fun x=>Vf (xb x)⟩
theorem zui:HBp 128 zlr:=ctp (T:=[(125,zbf),(194,wR),(195,zhq),(130,z8),(133,yO),(196,zow),(129,kj),(40,xS KK),(43,kD KK),(127,KT)]) (TP:=[(125,ze0),(195,zlq),(130,xi),(133,wS),(196,zrx),(129,Hf),(40,vR KK),(127,Zi)]) (h:=.s .n (.s (.j ⟨[(0,.ptr 1 0),(2,.ptr 1000002 0)],((h56 22 1 103000400 2 3 4 5 6 7 8 9 10 11 12 13 14)++h5++(h59 23 17 18 18 18 19 18 18 18 20 20 21 18 18 18 18 18 18 18)),k60,[i6,.l (.s)]⟩ true .n) (.s (.j ⟨[(0,.ptr 1 0),(2,.ptr 1000002 0)],((h56 22 1 103000400 2 3 4 5 6 7 8 9 10 11 12 13 14)++h5++(h59 17 23 18 18 18 19 18 18 18 20 20 21 18 18 18 18 18 18 18)),k60,[i6,.l (.s)]⟩ true .n) (.s (.j ⟨[(0,.ptr 1 0),(2,.ptr 1000002 0)],((h56 23 1 103000400 2 3 4 5 6 7 8 9 10 11 12 13 14)++h5++(h59 17 18 24 19 19 20 19 19 19 21 21 22 19 19 19 19 19 19 19)),k61,[i6,i6]⟩ true .n) (.s (.j ⟨[(0,.ptr 1 0),(2,.ptr 1000002 0)],((h56 24 1 103000400 2 3 4 5 6 7 8 9 10 11 12 13 14)++h5++(h59 17 18 19 25 20 21 20 20 20 22 22 23 20 20 20 20 20 20 20)),k62,[i6,i6]⟩ true .n) (.s (.j ⟨[(0,.ptr 1 0),(2,.ptr 1000002 0)],((h56 25 1 103000400 2 3 4 5 6 7 8 9 10 11 12 13 14)++h5++(h59 17 18 19 20 26 21 22 22 22 23 23 24 22 22 22 22 22 22 22)),k63,[i6,i6]⟩ true .n) (.s .n (.s .n (.s (.j ⟨[(0,.ptr 1 0),(2,.ptr 1000002 0)],((h56 23 1 103000400 2 3 4 5 6 7 8 9 10 11 12 13 14)++h5++(h59 17 18 19 20 21 22 24 25 26 27 28 29 30 31 32 33 34 35 36)),k64,k65⟩ true .n) .n))))))))) Tryz.func128 rfl zGv ⟨zes,wu,zlk,zZ,yE,zru,kl,(ki KK),(o5 KK),JR,trivial⟩ ⟨zo2,zuh,xk,wT,zy0,Jc,(Yt KK),zbm,trivial⟩ fun x=>by kernel_rfl
def Yz:CtP TS PC:=⟨[.ptr 1 0,.om 13],((h29 1 9 16 2 3 4 5 6 7 8 10 11 12 13 14 15)++h5),k30,fun x=>AU (xb x)⟩
theorem zhx:HBp 191 Yz:=ctp (T:=[(190,zO),(41,zt),(42,zP),(207,ym)]) (TP:=[(41,zW),(207,xI)]) (h:=.n) Tryz.func191 rfl u5 ⟨zM,zo,zK,yg,trivial⟩ ⟨zU,xD,trivial⟩ fun x=>by kernel_rfl
def ze1:CtP TS PC:=⟨[.ptr 1 0,.ci .i64 4],((h29 1 9 16 2 3 4 5 6 7 8 10 11 12 13 14 15)++h5),k30,fun x=>H0 (xb x)⟩
theorem zo3:HBp 125 ze1:=zMj (cd:=cdO) (nb:=nbT) (T:=[(191,KY)]) (TP:=[(191,Yz)]) (h:=.s .n (.s (.j ⟨[(0,.ptr 1 0),(1,dI 16)],((h66 1 2 7000001 3 4 5 6 7 8 9 10 11 12 13 14)++h5++(h36 7000001 17)),k37,[.l (.m (.s) (.b))]⟩ false .n) .n)) Tryz.func125 rfl Hw ⟨Yq,trivial⟩ ⟨zhx,trivial⟩ fun x=>by kernel_rfl
def YA:CtP TS PC:=⟨[.ptr 1 0,.om 14],((h29 1 9 16 2 3 4 5 6 7 8 10 11 12 13 14 15)++h5),k30,fun x=>AV (xb x)⟩
theorem zhy:HBp 191 YA:=ctp (T:=[(190,zO),(41,zt),(42,zP),(207,ym)]) (TP:=[(41,zW),(207,xI)]) (h:=.n) Tryz.func191 rfl u5 ⟨zM,zo,zK,yg,trivial⟩ ⟨zU,xD,trivial⟩ fun x=>by kernel_rfl
def ze2:CtP TS PC:=⟨[.ptr 1 0,.ci .i64 5],((h29 1 9 16 2 3 4 5 6 7 8 10 11 12 13 14 15)++h5),k30,fun x=>Vg (xb x)⟩
theorem zo4:HBp 125 ze2:=zMj (cd:=cdO) (nb:=nbT) (T:=[(191,KZ)]) (TP:=[(191,YA)]) (h:=.s .n (.s (.j ⟨[(0,.ptr 1 0),(1,dI 16)],((h67 1 2 7000001 3 4 5 6 7 8 9 10 11 12 13 14 15)++h5++(h36 7000001 17)),k37,[.l (.m (.s) (.b))]⟩ false .n) .n)) Tryz.func125 rfl Hw ⟨Yr,trivial⟩ ⟨zhy,trivial⟩ fun x=>by kernel_rfl
def ze3:CtP TS PC:=⟨[.ptr 1 0],(h29 1 9 16 2 3 4 5 6 7 8 10 11 12 13 14 15),k30,fun x=>oX (xb x)⟩
theorem zo5:HBp 198 ze3:=ctp (T:=[(130,z8)]) (TP:=[(130,xi)]) (h:=.n) Tryz.func198 rfl zGw ⟨zZ,trivial⟩ ⟨xk,trivial⟩ fun x=>by kernel_rfl
def zls:CtP TS PC:=⟨[.ptr 1 0],((h29 1 9 16 2 3 4 5 6 7 8 10 11 12 13 14 15)++h5),k30,fun x=>Vh (xb x)⟩
theorem zuj:HBp 131 zls:=ctp (T:=[(125,zbk),(198,zbl),(133,yO),(130,z8),(193,yt),(41,zt)]) (TP:=[(125,ze2),(198,ze3),(133,wS),(130,xi),(41,zW)]) (h:=.s .n (.s .n (.s .n (.s .n (.s .n (.s (.s (.lr ⟨[(0,.ptr 1 0),(2,.ptr 1000002 0)],((h67 21 1 103000400 2 3 4 5 6 7 8 9 10 11 12 13 14)++h5++h68),k69,[i6,.l (.st 9)]⟩ [(0,.ptr 1 0),(2,.ptr 1000002 0)] ((h67 21 1 103000400 2 3 4 5 6 7 8 9 10 11 12 13 14)++h5++h68) [i6,.l (.st 9)] 0 (fun x K v=>ur (BB.mk x.1 0 x.2.2.2.1 x.2.2.2.2.1 (p5Q x).1 (p6Q x).1 (p7Q x).1 (p8Q x).1 (p9Q x).1 x.2.1 (zi0 x).1 (zi1 x).1 (zi2 x).1 (zm4 x).1 (zm5 x).1 [] x.2.2.1) (zri x).1 (zGe x).1 (zGf x).1 (zMc x).1 (zMd x).1 (zRr x) K v) .n) .n) .n)))))) Tryz.func131 rfl zGx ⟨zeu,zev,yE,zZ,yu,zo,trivial⟩ ⟨zo4,zo5,wT,xk,zU,trivial⟩ fun x=>by kernel_rfl
def zry:CtP TS PC:=⟨[.ptr 1 0],(h29 1 9 16 2 3 4 5 6 7 8 10 11 12 13 14 15),k30,fun x=>zas (xb x)⟩
theorem zy1:HBp 132 zry:=ctp (T:=[(124,kE),(41,zt),(193,yt),(192,o9),(130,z8),(194,wR),(133,yO)]) (TP:=[(41,zW),(192,K2),(130,xi),(133,wS)]) (h:=.s (.s .n (.s (.lr ⟨[(0,.ptr 1 0),(2,.d .b 17)],(h29 15 1 2 3 4 5 6 7 8 16 9 10 11 12 13 14),k70,[i6,.l (.st 9),.b]⟩ [(0,.ptr 1 0)] (h29 15 1 2 3 4 5 6 7 8 16 9 10 11 12 13 14) [i6,.l (.st 9)] 0 (fun x K v=>qN (BB.mk x.1 0 x.2.2.2.1 x.2.2.2.2.1 (p5Q x).1 (p6Q x).1 (p7Q x).1 (p8Q x).1 [] x.2.1 (p9Q x).1 (zi0 x).1 (zi1 x).1 (zi2 x).1 (zm4 x).1 (zm5 x) x.2.2.1) K v) (.s .n (.s (.s (.s (.j ⟨[(0,.ptr 1 0)],(h29 1 2 3 4 5 6 7 8 9 10 11 12 13 14 15 16),k71,[]⟩ true .n) .n) .n) .n))) .n)) .n) Tryz.func132 rfl zGy ⟨jK,zo,yu,Hd,zZ,wu,yE,trivial⟩ ⟨zU,Yw,xk,wT,trivial⟩ fun x=>by kernel_rfl
def zbp:CtP TS PC:=⟨[.ptr 1 0],((h29 1 9 16 2 3 4 5 6 7 8 10 11 12 13 14 15)++h5),k30,fun x=>zhf (xb x)⟩
theorem zuk:HBp 36 zbp:=ctp (T:=[(42,zP),(121,zho),(122,WO),(123,za9),(124,kE),(125,zba),(126,WQ),(94,Zf),(127,KT),(128,zhr),(125,zbj),(129,kj),(130,z8),(131,zhs),(41,zt),(132,zox),(133,yO)]) (TP:=[(121,zln),(122,zbn),(123,zey),(125,zez),(126,zbo),(127,Zi),(128,zlr),(125,ze1),(129,Hf),(130,xi),(131,zls),(41,zW),(132,zry),(133,wS),(134,K1)]) (h:=.s (.lr ⟨[(0,.ptr 1 0)],((h72 1 2 7000001 7000002 7000003 7000004 7000005 7000006 3 4 5 6 7 8 9 10)++h5++(h73 7000001 11 7000002 12 7000003 13 7000004 14 7000005 15 7000006 16)),[.l (.st 11)],k74⟩ [] ((h72 1 2 7000001 7000002 7000003 7000004 7000005 7000006 3 4 5 6 7 8 9 10)++h5++(h73 7000001 11 7000002 12 7000003 13 7000004 14 7000005 15 7000006 16)) k74 0 (fun x K v=>yf (BB.mk x 0 [] [] [] [] [] [] [] 0 [] [] [] [] [] [] false) K v) .n) .n) Tryz.func36 rfl zPa ⟨zK,zlg,za7,zeo,jK,zep,zbb,zbe,JR,zll,zet,kl,zZ,zlm,zo,zrv,yE,trivial⟩ ⟨zug,zlo,zo0,zo1,zlp,zbm,zui,zo3,Jc,xk,zuj,zU,zy1,wT,Ys,trivial⟩ fun x=>by kernel_rfl
def YB:Ct TS:=⟨[.ptr 1 0,.fn 36 [.ptr 1 0] []],((h29 1 9 16 2 3 4 5 6 7 8 10 11 12 13 14 15)++h5),k30,.tup [dI 17,dI 18],((h72 19 20 7001001 7001002 7001003 7001004 7001005 7001006 21 22 23 24 25 26 27 28)++h5++(h73 7001001 29 7001002 30 7001003 31 7001004 32 7001005 33 7001006 34)),[i6,i6,i6,i6,.b,.l (.st 1),.l (.st 3),.l (.st 5),.l (.st 7),.l (.st 8),.l (.st 10),.l (.st 9),.l (.m (.s) (.b)),.l (.m (.s) (.b)),.l (.m (.s) (.b)),.l (.m (.s) (.b)),.l (.m (.s) (.b)),.l (.m (.s) (.b))],true,fun x=>H5 (xb x)⟩
theorem zhz:YB.OK PGq 35:=fun x r h=>by
 obtain⟨q,h1,h2⟩:=bind_some h;cases h2;exact kmp (by kernel_rfl) (zkv (F:=hV (qC JS.hin (yI (S:=TS) JS.ci x))) (F':=hV (qC JS.hout (yI (S:=TS) JS.ci x++yI (S:=TS) JS.co q))) (a:=.ptr 1 0 0) (pv:=.ptr 1 0 0) (kmp (by kernel_rfl) (zyy.2 x q h1)))
def Vq:Ct TS:=⟨[.ptr 1 0,.fn 36 [.ptr 1 0] []],((h29 1 9 16 2 3 4 5 6 7 8 10 11 12 13 14 15)++h5),k30,.tup [dI 17,dI 18],([(1,.rw 0),(2,.rw 0),(3,.rw 0),(4,.rw 0),(5,.rw 0),(6,.rw 0),(7,.rw 0),(8,.rw 0),(9,.rw 0),(10,.rw 0),(11,.rw 0),(12,.rw 0),(13,.rw 0),(14,.rw 0)]++h5),[i6,i6],true,fun x=>AW (xb x)⟩
theorem zc4:Vq.OK PGq 35:=fun x r h=>kmp (by kernel_rfl) (zg8 (F:=hV (qC zbp.hin (yI (S:=TS) zbp.ci x))) (a:=.ptr 1 0 0) (pv:=.ptr 1 0 0) (x:=r.1) (y:=r.2) (kmp (by kernel_rfl) (zuk.2 x r h)))
def zo6:Ct TS:=⟨[.d .s 0],h5,[.s],.tup [.ag [.row 6 7000002,.row 3 7000003,.row 3 7000004,.row 20 7000005,.row 4 7000006,.row 6 7000007,.d (.l (.st 9)) 3,dI 4],dI 1,dI 2],(h75 7000001 7000002 7000003 7000004 7000005 7000006 7000007 3 4 5 6 7 8 9 10),k76,false,fun x=>oA x⟩
theorem zrz:HBc 10 zo6:=ctg (cd:=cdT) (nb:=YM) (rc:=[(2,7000001,0)]) (T:=[(21,zop),(35,YB),(35,Vq)]) (h:=.n) Tryz.func10 rfl hbv10 ⟨zro,⟨zDz,zhz⟩,⟨zDz,zc4⟩,trivial⟩ fun x=>by kernel_rfl
def zlt:Ct TS:=⟨[.d (.st 1) 0],[],[.st 1],.d .s 1,[],[.s],false,fun x=>zkw x⟩
theorem zul:HBc 80 zlt:=ctk (T:=[]) (h:=.n) Tryz.func80 rfl hbv80 trivial fun x=>by kernel_rfl
def Hg:Ct TS:=⟨[.d (.l (.s)) 0,.d .b 1],h5,[.l (.s),.b],.d .b 2,h5,[.b],false,u2Q oB⟩
theorem u7:HBc 179 Hg:=ctk (T:=[(16,zaz)]) (h:=.s .n (.s .n (.s (.s .n (.s (.lr ⟨[(1,.d .b 0),(5,.mp 1000008),(9,.d (.l (.s)) 1),(10,dI 2),(11,dI 3)],[(900000000,.rw 1),(900000001,.rw 2),(900000002,.rw 3),(900000003,.rw 4),(1000008,.map (.s) (.b) 4)],[.b,.l (.s),i6],[i6,.m (.s) (.b)]⟩ [] h5 [] 0 (u3Q Wk) (.s .n (.s .n (.s (.s (.s .n (.s (.s (.j ⟨[(1,.d .b 0),(5,.mp 1000008),(7,.d .s 1),(9,.d (.l (.s)) 2),(10,dI 3),(11,dI 4),(25,.d .b 6)],[(900000000,.rw 1),(900000001,.rw 2),(900000002,.rw 3),(900000003,.rw 4),(1000008,.map (.s) (.b) 5)],[.b,.s,.l (.s),i6,i6,.m (.s) (.b)],[.b]⟩ false .n) .n) .n)) .n) .n)))) .n)) .n))) Tryz.func179 rfl zPb ⟨WM,trivial⟩ fun x=>by kernel_rfl
def zr0:Ct TS:=⟨[.d (.l (.st 1)) 0,dI 1,.fn 80 [] []],h5,[.l (.st 1),i6],.d .b 2,h5,[.b],false,u2Q zrg⟩
theorem zy2:HBc 79 zr0:=ctk (T:=[(80,zlt),(179,Hg)]) (h:=.s .n (.s .n (.s (.s .n (.s (.l ⟨[(0,.d (.l (.st 1)) 0),(1,dI 1),(2,.fn 80 [] []),(7,.row 1 7000001),(10,.d (.l (.st 1)) 0),(11,dI 2),(12,dI 3)],(h77 4),[.l (.st 1),i6,i6],[i6,.l (.s)]⟩ [(0,.d (.l (.st 1)) 0),(1,dI 1),(7,.row 1 7000001)] (h77 3) [.l (.s)] 0 (u3Q KI) .n) .n)) .n))) Tryz.func79 rfl hbv79 ⟨zul,u7,trivial⟩ fun x=>by kernel_rfl
def zlu:Ct TS:=⟨[.d (.st 3) 0],[],[.st 3],.d .s 1,[],[.s],false,fun x=>zkx x⟩
theorem zum:HBc 82 zlu:=ctk (T:=[]) (h:=.n) Tryz.func82 rfl hbv82 trivial fun x=>by kernel_rfl
def ze4:Ct TS:=⟨[.d (.l (.st 3)) 0,dI 1,.fn 82 [] []],h5,[.l (.st 3),i6],.d .b 2,h5,[.b],false,u2Q zd8⟩
theorem zo7:HBc 81 ze4:=ctk (T:=[(82,zlu),(179,Hg)]) (h:=.s .n (.s .n (.s (.s .n (.s (.l ⟨[(0,.d (.l (.st 3)) 0),(1,dI 1),(2,.fn 82 [] []),(7,.row 1 7000001),(10,.d (.l (.st 3)) 0),(11,dI 2),(12,dI 3)],(h77 4),[.l (.st 3),i6,i6],[i6,.l (.s)]⟩ [(0,.d (.l (.st 3)) 0),(1,dI 1),(7,.row 1 7000001)] (h77 3) [.l (.s)] 0 (u3Q AX) .n) .n)) .n))) Tryz.func81 rfl hbv81 ⟨zum,u7,trivial⟩ fun x=>by kernel_rfl
def zlv:Ct TS:=⟨[.d (.st 5) 0],[],[.st 5],.d .s 1,[],[.s],false,fun x=>zky x⟩
theorem zun:HBc 84 zlv:=ctk (T:=[]) (h:=.n) Tryz.func84 rfl hbv84 trivial fun x=>by kernel_rfl
def ze5:Ct TS:=⟨[.d (.l (.st 5)) 0,dI 1,.fn 84 [] []],h5,[.l (.st 5),i6],.d .b 2,h5,[.b],false,u2Q zd9⟩
theorem zo8:HBc 83 ze5:=ctk (T:=[(84,zlv),(179,Hg)]) (h:=.s .n (.s .n (.s (.s .n (.s (.l ⟨[(0,.d (.l (.st 5)) 0),(1,dI 1),(2,.fn 84 [] []),(7,.row 1 7000001),(10,.d (.l (.st 5)) 0),(11,dI 2),(12,dI 3)],(h77 4),[.l (.st 5),i6,i6],[i6,.l (.s)]⟩ [(0,.d (.l (.st 5)) 0),(1,dI 1),(7,.row 1 7000001)] (h77 3) [.l (.s)] 0 (u3Q AY) .n) .n)) .n))) Tryz.func83 rfl hbv83 ⟨zun,u7,trivial⟩ fun x=>by kernel_rfl
def zlw:Ct TS:=⟨[.d (.st 7) 0],[],[.st 7],.d .s 1,[],[.s],false,fun x=>zkz x⟩
theorem zuo:HBc 86 zlw:=ctk (T:=[]) (h:=.n) Tryz.func86 rfl hbv86 trivial fun x=>by kernel_rfl
def ze6:Ct TS:=⟨[.d (.l (.st 7)) 0,dI 1,.fn 86 [] []],h5,[.l (.st 7),i6],.d .b 2,h5,[.b],false,u2Q zea⟩
theorem zo9:HBc 85 ze6:=ctk (T:=[(86,zlw),(179,Hg)]) (h:=.s .n (.s .n (.s (.s .n (.s (.l ⟨[(0,.d (.l (.st 7)) 0),(1,dI 1),(2,.fn 86 [] []),(7,.row 1 7000001),(10,.d (.l (.st 7)) 0),(11,dI 2),(12,dI 3)],(h77 4),[.l (.st 7),i6,i6],[i6,.l (.s)]⟩ [(0,.d (.l (.st 7)) 0),(1,dI 1),(7,.row 1 7000001)] (h77 3) [.l (.s)] 0 (u3Q AZ) .n) .n)) .n))) Tryz.func85 rfl hbv85 ⟨zuo,u7,trivial⟩ fun x=>by kernel_rfl
def zlx:Ct TS:=⟨[.d (.st 8) 0],[],[.st 8],.d .s 1,[],[.s],false,fun x=>zk0 x⟩
theorem zup:HBc 88 zlx:=ctk (T:=[]) (h:=.n) Tryz.func88 rfl hbv88 trivial fun x=>by kernel_rfl
def ze7:Ct TS:=⟨[.d (.l (.st 8)) 0,dI 1,.fn 88 [] []],h5,[.l (.st 8),i6],.d .b 2,h5,[.b],false,u2Q zeb⟩
theorem zpa:HBc 87 ze7:=ctk (T:=[(88,zlx),(179,Hg)]) (h:=.s .n (.s .n (.s (.s .n (.s (.l ⟨[(0,.d (.l (.st 8)) 0),(1,dI 1),(2,.fn 88 [] []),(7,.row 1 7000001),(10,.d (.l (.st 8)) 0),(11,dI 2),(12,dI 3)],(h77 4),[.l (.st 8),i6,i6],[i6,.l (.s)]⟩ [(0,.d (.l (.st 8)) 0),(1,dI 1),(7,.row 1 7000001)] (h77 3) [.l (.s)] 0 (u3Q A0) .n) .n)) .n))) Tryz.func87 rfl hbv87 ⟨zup,u7,trivial⟩ fun x=>by kernel_rfl
def zly:Ct TS:=⟨[.d (.st 10) 0],[],[.st 10],.d .s 1,[],[.s],false,fun x=>zk1 x⟩
theorem zuq:HBc 90 zly:=ctk (T:=[]) (h:=.n) Tryz.func90 rfl hbv90 trivial fun x=>by kernel_rfl
def ze8:Ct TS:=⟨[.d (.l (.st 10)) 0,dI 1,.fn 90 [] []],h5,[.l (.st 10),i6],.d .b 2,h5,[.b],false,u2Q zec⟩
theorem zpb:HBc 89 ze8:=ctk (T:=[(90,zly),(179,Hg)]) (h:=.s .n (.s .n (.s (.s .n (.s (.l ⟨[(0,.d (.l (.st 10)) 0),(1,dI 1),(2,.fn 90 [] []),(7,.row 1 7000001),(10,.d (.l (.st 10)) 0),(11,dI 2),(12,dI 3)],(h77 4),[.l (.st 10),i6,i6],[i6,.l (.s)]⟩ [(0,.d (.l (.st 10)) 0),(1,dI 1),(7,.row 1 7000001)] (h77 3) [.l (.s)] 0 (u3Q A1) .n) .n)) .n))) Tryz.func89 rfl hbv89 ⟨zuq,u7,trivial⟩ fun x=>by kernel_rfl
def zlz:Ct TS:=⟨[.d (.st 2) 0],[],[.st 2],.d .s 1,[],[.s],false,fun x=>zk2 x⟩
theorem zur:HBc 92 zlz:=ctk (T:=[]) (h:=.n) Tryz.func92 rfl hbv92 trivial fun x=>by kernel_rfl
def ze9:Ct TS:=⟨[.d (.l (.st 2)) 0,dI 1,.fn 92 [] []],h5,[.l (.st 2),i6],.d .b 2,h5,[.b],false,u2Q zed⟩
theorem zpc:HBc 91 ze9:=ctk (T:=[(92,zlz),(179,Hg)]) (h:=.s .n (.s .n (.s (.s .n (.s (.l ⟨[(0,.d (.l (.st 2)) 0),(1,dI 1),(2,.fn 92 [] []),(7,.row 1 7000001),(10,.d (.l (.st 2)) 0),(11,dI 2),(12,dI 3)],(h77 4),[.l (.st 2),i6,i6],[i6,.l (.s)]⟩ [(0,.d (.l (.st 2)) 0),(1,dI 1),(7,.row 1 7000001)] (h77 3) [.l (.s)] 0 (u3Q A2) .n) .n)) .n))) Tryz.func91 rfl hbv91 ⟨zur,u7,trivial⟩ fun x=>by kernel_rfl
def zh0:Ct TS:=⟨[dI 0,dI 1,.d (.l i6) 2],[],[i6,i6,.l i6],.d .b 3,[],[.b],false,u3Q xh⟩
theorem zl0:HBc 93 zh0:=ctk (T:=[]) (h:=.s .n (.s (.s .n (.s (.lr ⟨[(0,dI 0),(1,dI 1),(9,.d (.l i6) 2),(10,dI 3),(11,dI 4)],[],[i6,i6,.l i6,i6],[i6]⟩ [] [] [] 0 (u4Q KJ) (.s .n (.s .n (.s (.s (.s .n (.s (.j ⟨[(0,dI 0),(1,dI 1),(9,.d (.l i6) 2),(10,dI 3),(11,dI 4),(22,.d .b 5)],[],[i6,i6,.l i6,i6,i6],[.b]⟩ false .n) .n)) .n) .n)))) .n)) .n)) Tryz.func93 rfl hbv93 trivial fun x=>by kernel_rfl
def Kh:Ct TS:=⟨[.d (.l (.s)) 0,.d (.l (.s)) 1],[],[.l (.s),.l (.s)],.d .b 2,[],[.b],false,u2Q oC⟩
theorem zbq:HBc 188 Kh:=ctk (T:=[]) (h:=.s .n (.s .n (.s (.s .n (.s (.lr ⟨[(0,.d (.l (.s)) 0),(1,.d (.l (.s)) 1),(12,dI 2),(13,dI 3)],[],[.l (.s),.l (.s),i6],[i6]⟩ [] [] [] 0 (u3Q j7) .n) .n)) .n))) Tryz.func188 rfl zPc trivial fun x=>by kernel_rfl
def jM(RK:Nat):Ct TS:=⟨[.d (.l (.st 0)) 0,.d (.l (.st 0)) 1,.fn 104 [] []],[],[.l (.st 0),.l (.st 0)],.d .b 2,[],[.b],false,fun x=>uU RK x.1 x.2⟩
def Aa(RK:Nat):Ct TS:=⟨[.d (.st 0) 0,.d (.st 0) 1],[],[.st 0,.st 0],.d .b 2,[],[.b],false,fun x=>JL RK x.1 x.2⟩
theorem vr:∀RK,(jM RK).OK PGq 187∧(Aa RK).OK PGq 104
 |0=>⟨(fun x r h=>nomatch (show(none:Option _)=some r from h)),(fun x r h=>nomatch (show(none:Option _)=some r from h))⟩
 |RK+1=>⟨(ctk (c:=jM (RK+1)) (T:=[(104,Aa RK)]) (h:=.s .n (.s .n (.s (.s .n (.s (.lr ⟨[(1,.d (.l (.st 0)) 0),(2,.fn 104 [] []),(15,.d (.l (.st 0)) 1),(16,dI 2),(17,dI 3)],[],[.l (.st 0),.l (.st 0),i6],[i6]⟩ [] [] [] 0 (fun x K v=>wK (JL RK) x.1 x.2.1 x.2.2 K v) .n) .n)) .n))) Tryz.func187 rfl zGz ⟨⟨zyq,(vr RK).2⟩,trivial⟩ fun x=>by kernel_rfl).2,(ctk (c:=Aa (RK+1)) (T:=[(187,jM RK)]) (h:=.n) Tryz.func104 rfl zyq ⟨⟨zGz,(vr RK).1⟩,trivial⟩ fun x=>by kernel_rfl).2⟩
theorem zpd(RK:Nat):zd PGq 104∧(Aa RK).OK PGq 104:=⟨zyq,(vr RK).2⟩
def zfa:Ct TS:=⟨[.d (.st 7) 0,.d (.st 7) 1],[],[.st 7,.st 7],.d .b 2,[],[.b],false,u2Q zee⟩
theorem zpe:HBc 115 zfa:=ctk (T:=[(188,Kh),(104,Aa KK)]) (h:=.s .n (.s (.s (.j ⟨[(2,.ptr 1000002 0),(3,.ptr 1000003 0),(27,.d .b 40)],(h78 0 1 2 3 4 5 6 7 8 9 10 11 12 13 14 15 16 17 18 19 20 21 22 23 24 25 26 27 28 29 30 31 32 33 34 35 36 37 38 39),k79,[.b]⟩ false .n) .n) (.s (.j ⟨[(2,.ptr 1000002 0),(3,.ptr 1000003 0),(5,.d .b 40)],(h78 0 1 2 3 4 5 6 7 8 9 10 11 12 13 14 15 16 17 18 19 20 21 22 23 24 25 26 27 28 29 30 31 32 33 34 35 36 37 38 39),k79,[.b]⟩ false .n) .n))) Tryz.func115 rfl zPd ⟨zbq,(zpd KK),trivial⟩ fun x=>by kernel_rfl
def zbr:Ct TS:=⟨[.d (.st 7) 0],h5,[.st 7],.d .b 1,h5,[.b],false,fun x=>zat x⟩
theorem zl1:HBc 95 zbr:=ctk (T:=[(179,Hg),(93,zh0),(20,Hc),(115,zfa)]) (h:=.s .n (.s (.s (.j ⟨[(1,.ptr 1000001 0),(37,.d .b 20)],[(900000000,.rw 1),(900000001,.rw 2),(900000002,.rw 3),(900000003,.rw 4),(1000001,.box 94 [.d .s 0,.d (.l (.s)) 1,.d (.l (.s)) 2,dI 3,dI 4,dI 5,.d .b 6,dI 7,dI 8,dI 9,.d .s 10,.d .s 11,.d (.l (.st 0)) 12,dI 13,dI 14,dI 15,dI 16,dI 17,dI 18,dI 19])],k80,[.b]⟩ false .n) .n) (.s .n (.s .n (.s (.j ⟨[(1,.ptr 1000001 0),(3,.ptr 1000003 0),(4,.d .b 20)],[(900000000,.rw 1),(900000001,.rw 2),(900000002,.rw 3),(900000003,.rw 4),(1000001,.box 94 [.d .s 0,.d (.l (.s)) 1,.d (.l (.s)) 2,dI 3,dI 4,dI 5,.d .b 6,dI 7,dI 8,dI 9,.d .s 10,.d .s 11,.d (.l (.st 0)) 12,dI 13,dI 14,dI 15,dI 16,dI 17,dI 18,dI 19]),(1000003,.box 94 [.d .s 0,.d (.l (.s)) 1,.d (.l (.s)) 2,dI 3,dI 4,dI 5,.d .b 6,dI 7,dI 21,dI 22,.d .s 23,.d .s 24,.d (.l (.st 0)) 25,dI 26,dI 27,dI 28,dI 29,dI 30,dI 31,dI 32])],k80,[.b,i6,i6,.s,.s,.l (.st 0),i6,i6,i6,i6,i6,i6,i6]⟩ false .n) .n))))) Tryz.func95 rfl hbv95 ⟨u7,zl0,Jb,zpe,trivial⟩ fun x=>by kernel_rfl
def zpf:Ct TS:=⟨[.d (.st 14) 0],h5,[.st 14],.d .b 1,h5,[.b],false,fun x=>zhg x⟩
theorem zr1:HBc 28 zpf:=ctk (T:=[(79,zr0),(81,ze4),(83,ze5),(85,ze6),(87,ze7),(89,ze8),(20,Hc),(91,ze9),(93,zh0),(94,Zf),(95,zbr)]) (h:=.s .n (.s (.s (.j ⟨[(1,.ptr 1000001 0),(54,.d .b 8)],(h81 1000001 0 1 2 3 4 5 6 7),k4,[.b]⟩ false .n) .n) (.s (.s .n (.s (.lr ⟨[(1,.ptr 1000001 0),(56,.d (.l (.st 1)) 0),(57,dI 1),(58,dI 9)],(h81 1000001 0 2 3 4 5 6 7 8),k82,[i6]⟩ [(1,.ptr 1000001 0)] (h81 1000001 0 2 3 4 5 6 7 8) [] 0 (u9Q Wl) .n) .n)) (.s (.s .n (.s (.lr ⟨[(1,.ptr 1000001 0),(68,.d (.l (.st 3)) 0),(69,dI 1),(70,dI 9)],(h81 1000001 2 0 3 4 5 6 7 8),k83,[i6]⟩ [(1,.ptr 1000001 0)] (h81 1000001 2 0 3 4 5 6 7 8) [] 2 (u9Q Wn) (.s .n (.s .n (.s (.s (.s .n (.s (.s (.j ⟨[(1,.ptr 1000001 0),(6,.ptr 1000006 0),(68,.d (.l (.st 3)) 0),(69,dI 1),(70,dI 2),(84,.d .b 13)],[(900000000,.rw 1),(900000001,.rw 2),(900000002,.rw 3),(900000003,.rw 4),(1000001,.box 31 [.d (.l (.st 1)) 3,.d (.l (.st 3)) 0,.d (.l (.st 5)) 4,.d (.l (.st 7)) 5,.d (.l (.st 8)) 6,.d (.l (.st 10)) 7,.d (.l (.st 9)) 8,dI 9]),(1000006,.box 87 [.d .s 10,.d (.l (.st 2)) 11,dI 12])],[.l (.st 3),i6,i6,.l (.st 1),.l (.st 5),.l (.st 7),.l (.st 8),.l (.st 10),.l (.st 9),i6,.s,.l (.st 2),i6],[.b]⟩ false .n) .n) (.s .n (.s (.lr ⟨[(1,.ptr 1000001 0),(68,.d (.l (.st 3)) 0),(69,dI 1),(70,dI 2),(86,.d (.l (.st 2)) 3),(87,dI 4),(88,dI 12)],(h81 1000001 5 0 6 7 8 9 10 11),[.l (.st 3),i6,i6,.l (.st 2),i6,.l (.st 1),.l (.st 5),.l (.st 7),.l (.st 8),.l (.st 10),.l (.st 9),i6],[i6]⟩ [(1,.ptr 1000001 0),(68,.d (.l (.st 3)) 0),(69,dI 1),(70,dI 2)] (h81 1000001 5 0 6 7 8 9 10 11) [] 4 (u12Q Wm) .n) .n)))) .n) .n)))) .n)) (.s (.s .n (.s (.lr ⟨[(1,.ptr 1000001 0),(100,.d (.l (.st 5)) 0),(101,dI 1),(102,dI 9)],(h81 1000001 2 3 0 4 5 6 7 8),k84,[i6]⟩ [(1,.ptr 1000001 0)] (h81 1000001 2 3 0 4 5 6 7 8) [] 6 (u9Q Wo) .n) .n)) (.s (.s .n (.s (.lr ⟨[(1,.ptr 1000001 0),(112,.d (.l (.st 7)) 0),(113,dI 1),(114,dI 9)],(h81 1000001 2 3 4 0 5 6 7 8),k85,[i6]⟩ [(1,.ptr 1000001 0)] (h81 1000001 2 3 4 0 5 6 7 8) [] 8 (u9Q Wq) .n) .n)) (.s (.s .n (.s (.lr ⟨[(1,.ptr 1000001 0),(123,.d (.l (.st 8)) 0),(124,dI 1),(125,dI 9)],(h81 1000001 2 3 4 5 0 6 7 8),k86,[i6]⟩ [(1,.ptr 1000001 0)] (h81 1000001 2 3 4 5 0 6 7 8) [] 10 (u9Q Wr) (.s .n (.s .n (.s (.s (.s .n (.s (.j ⟨[(1,.ptr 1000001 0),(123,.d (.l (.st 8)) 0),(124,dI 1),(125,dI 2),(146,.d .b 10)],(h81 1000001 3 4 5 6 0 7 8 9),[.l (.st 8),i6,i6,.l (.st 1),.l (.st 3),.l (.st 5),.l (.st 7),.l (.st 10),.l (.st 9),i6],[.b]⟩ false .n) .n)) .n) .n)))) .n)) (.s (.s .n (.s (.lr ⟨[(1,.ptr 1000001 0),(149,.d (.l (.st 10)) 0),(150,dI 1),(151,dI 9)],(h81 1000001 2 3 4 5 6 0 7 8),k87,[i6]⟩ [(1,.ptr 1000001 0)] (h81 1000001 2 3 4 5 6 0 7 8) [] 12 (u9Q Wt) (.s .n (.s .n (.s (.s (.s .n (.s (.s (.j ⟨[(1,.ptr 1000001 0),(16,.ptr 1000016 0),(149,.d (.l (.st 10)) 0),(150,dI 1),(151,dI 2),(167,.d .b 16)],[(900000000,.rw 1),(900000001,.rw 2),(900000002,.rw 3),(900000003,.rw 4),(1000001,.box 31 [.d (.l (.st 1)) 3,.d (.l (.st 3)) 4,.d (.l (.st 5)) 5,.d (.l (.st 7)) 6,.d (.l (.st 8)) 7,.d (.l (.st 10)) 0,.d (.l (.st 9)) 8,dI 9]),(1000016,.box 100 [.d .s 10,dI 11,dI 12,dI 13,dI 14,.d (.l (.st 9)) 15])],[.l (.st 10),i6,i6,.l (.st 1),.l (.st 3),.l (.st 5),.l (.st 7),.l (.st 8),.l (.st 9),i6,.s,i6,i6,i6,i6,.l (.st 9)],[.b]⟩ false .n) .n) (.s .n (.s (.lr ⟨[(1,.ptr 1000001 0),(149,.d (.l (.st 10)) 0),(150,dI 1),(151,dI 2),(173,.row 3 1000170),(174,dI 3),(175,dI 12)],(h88 4 5 6 7 8 9 10 11),[.l (.st 10),i6,i6,i6,.l (.st 1),.l (.st 3),.l (.st 5),.l (.st 7),.l (.st 8),.l (.st 9),i6,.l (.st 9)],[i6]⟩ [(1,.ptr 1000001 0),(149,.d (.l (.st 10)) 0),(150,dI 1),(151,dI 2)] (h81 1000001 4 5 6 7 8 0 9 10) [] 14 (u12Q Ws) (.s .n (.s .n (.s (.s (.s .n (.s (.j ⟨[(1,.ptr 1000001 0),(149,.d (.l (.st 10)) 0),(150,dI 1),(151,dI 2),(173,.row 3 1000170),(174,dI 3),(175,dI 4),(192,.d .b 13)],(h88 5 6 7 8 9 10 11 12),[.l (.st 10),i6,i6,i6,i6,.l (.st 1),.l (.st 3),.l (.st 5),.l (.st 7),.l (.st 8),.l (.st 9),i6,.l (.st 9)],[.b]⟩ false .n) .n)) .n) .n)))) .n)))) .n) .n)))) .n)) (.s (.s .n (.s (.lr ⟨[(1,.ptr 1000001 0),(196,.d (.l (.st 9)) 0),(197,dI 1),(198,dI 9)],(h81 1000001 2 3 4 5 6 7 0 8),k89,[i6]⟩ [(1,.ptr 1000001 0)] (h81 1000001 2 3 4 5 6 7 0 8) [] 16 (u9Q Wu) (.s .n (.s .n (.s (.s (.s .n (.s (.j ⟨[(1,.ptr 1000001 0),(196,.d (.l (.st 9)) 0),(197,dI 1),(198,dI 2),(215,.d .b 10)],(h81 1000001 3 4 5 6 7 8 0 9),[.l (.st 9),i6,i6,.l (.st 1),.l (.st 3),.l (.st 5),.l (.st 7),.l (.st 8),.l (.st 10),i6],[.b]⟩ false .n) .n)) .n) .n)))) .n)) .n))))))))) Tryz.func28 rfl hbv28 ⟨zy2,zo7,zo8,zo9,zpa,zpb,Jb,zpc,zl0,zbe,zl1,trivial⟩ fun x=>by kernel_rfl
def WT:Ct TS:=⟨[.ptr 1 0],[(1,.gn 1 (.s) 0)],[.s],.d .s 1,[(1,.gn 1 (.s) 0)],[.s],false,fun x=>Wv x⟩
theorem zbs:WT.OK PGq 60:=fun x r h=>by
 cases h;exact kmp (by kernel_rfl) (V1 (T:=123) 1 x)
def zh1:Ct TS:=⟨[.ptr 1 0,.d (.i .u8) 1],[(1,.gn 1 (.s) 0)],[.s,.i .u8],.nili,[(1,.gn 1 (.s) 2)],[.s],false,u2Q zhh⟩
theorem zl2:zh1.OK PGq 168:=fun x r h=>kmp (by kernel_rfl) (zOj zm7 x.1 x.2 r h)
def zy3:Ct TS:=⟨[.ptr 1 0,.d .s 1],[(1,.gn 1 (.s) 0)],[.s,.s],.tup [dI 2,.nili],[(1,.gn 1 (.s) 3)],[i6,.s],false,u2Q zhi⟩
theorem zD3:zy3.OK PGq 162:=fun x r h=>by
 obtain⟨_,h1,h2⟩:=bind_some h;cases h2;exact kmp (by kernel_rfl) (zoh zm7 1 x.1 x.2 (yV h1))
def WU:Ct TS:=⟨[.ptr 1 0,.d (.l (.a 3 9)) 1],(h26 1 0),[.s,.l (.a 3 9)],.tup [],(h26 1 2),[.s],false,u2Q xr⟩
theorem Vr:HBc 67 WU:=ctk (T:=[(60,WT),(168,zh1),(162,zy3),(163,zyu)]) (h:=.s .n (.s (.l ⟨[(0,.ptr 1 0),(9,.d (.l (.a 3 9)) 0),(10,dI 1),(11,dI 3)],(h26 1 2),[.l (.a 3 9),i6],[.s,i6]⟩ [] (h26 1 2) [.s] 0 (u2Q Ww) (.s .n (.s .n (.s (.j ⟨[(0,.ptr 1 0),(9,.d (.l (.a 3 9)) 0),(10,dI 1),(11,dI 2)],(h26 1 3),[.l (.a 3 9),i6,i6],[.s]⟩ false (.s (.s .n (.s (.j ⟨[(0,.ptr 1 0),(5,.d (.a 3 9) 0),(9,.d (.l (.a 3 9)) 1),(10,dI 2),(11,dI 3)],(h26 1 4),[.a 3 9,.l (.a 3 9),i6,i6],[.s]⟩ false (.s .n (.s (.j ⟨[(0,.ptr 1 0),(5,.d (.a 3 9) 1),(9,.d (.l (.a 3 9)) 2),(10,dI 3),(11,dI 4),(28,.d .b 5)],(h26 1 0),[.s,.a 3 9,.l (.a 3 9),i6,i6],[.b]⟩ false .n) .n))) (.s .n (.s (.s .n (.s .n (.s .n (.s (.s .n (.s (.j ⟨[(0,.ptr 1 0),(8,dI 4),(9,.d (.l (.a 3 9)) 0),(10,dI 1),(11,dI 2)],(h26 1 3),[.l (.a 3 9),i6,i6],[.s,i6]⟩ false .n) .n)) .n)))) .n)))) .n)) .n)))) .n)) Tryz.func67 rfl hbv67 ⟨⟨zt9,zbs⟩,⟨zG0,zl2⟩,⟨zra,zD3⟩,⟨zGl,zyv⟩,trivial⟩ fun x=>by kernel_rfl
def zbt:Ct TS:=⟨[.ptr 1 0],(h26 1 0),[.s],.tup [],(h26 1 1),[.s],false,fun x=>H7 x⟩
theorem Zj:HBc 69 zbt:=ctk (T:=[(67,WU),(168,zh1)]) (h:=.n) Tryz.func69 rfl hbv69 ⟨Vr,⟨zG0,zl2⟩,trivial⟩ fun x=>by kernel_rfl
def zh2:Ct TS:=⟨[.ptr 1 0,.d (.st 0) 1],(h26 1 0),[.s,.st 0],.tup [],(h26 1 2),[.s],false,u2Q zhj⟩
theorem zl3:HBc 68 zh2:=ctk (T:=[(58,za4 KK),(60,qG),(67,WU),(69,zbt)]) (h:=.n) Tryz.func68 rfl hbv68 ⟨(zrr KK),⟨zt9,Ax⟩,Vr,Zj,trivial⟩ fun x=>by kernel_rfl
def zfb:Ct TS:=⟨[.ptr 1 0,.d (.l (.st 4)) 1],(h26 1 0),[.s,.l (.st 4)],.tup [],(h26 1 2),[.s],false,u2Q Wx⟩
theorem zpg:HBc 70 zfb:=ctk (T:=[(67,WU),(69,zbt)]) (h:=.s (.s .n (.s (.l ⟨[(0,.ptr 1 0),(6,.d (.l (.st 4)) 0),(7,dI 1),(8,dI 3)],(h26 1 2),[.l (.st 4),i6],[.s,i6]⟩ [(0,.ptr 1 0)] (h26 1 2) [.s] 0 (u2Q A3) .n) .n)) .n) Tryz.func70 rfl hbv70 ⟨Vr,Zj,trivial⟩ fun x=>by kernel_rfl
def zG2:Ct TS:=⟨[.d (.l (.s)) 0,.d .s 1],[],[.l (.s),.s],.d .s 2,[],[.s],false,u2Q zGd⟩
theorem zKf:zG2.OK PGq 65:=fun x r h=>kmp (by kernel_rfl) (J.zN9 x.1 x.2 r h)
def zr2:Ct TS:=⟨[.ptr 1 0,.d (.st 7) 1],(h26 1 0),[.s,.st 7],.tup [],(h26 1 2),[.s],false,u2Q zrh⟩
theorem zy4:HBc 71 zr2:=ctk (T:=[(67,WU),(65,zG2),(72,Zg),(68,zh2),(69,zbt)]) (h:=.s .n (.s .n (.s (.s .n (.s (.l ⟨[(0,.ptr 1 0),(3,.ptr 1000003 0),(22,.row 1 1000022),(23,dI 0),(24,dI 23)],(h90 22 1 2 3 4 5 6 7 8 9 10 11 12 13 14 15 16 17 18 19 20 21),[i6,.s,.l (.s),.l (.s),i6,i6,i6,.b,i6,i6,i6,.s,.s,.l (.st 0),i6,i6,i6,i6,i6,i6,i6,.l (.l (.s))],[.s,i6]⟩ [(0,.ptr 1 0),(3,.ptr 1000003 0)] (h91 22 1 2 3 4 5 6 7 8 9 10 11 12 13 14 15 16 17 18 19 20) [.s] 0 (u22Q KM) (.s .n (.s .n (.s (.j ⟨[(0,.ptr 1 0),(3,.ptr 1000003 0),(22,.row 1 1000022),(23,dI 0),(24,dI 1)],(h90 23 2 3 4 5 6 7 8 9 10 11 12 13 14 15 16 17 18 19 20 21 22),[i6,i6,.s,.l (.s),.l (.s),i6,i6,i6,.b,i6,i6,i6,.s,.s,.l (.st 0),i6,i6,i6,i6,i6,i6,i6,.l (.l (.s))],[.s]⟩ false .n) .n)))) .n)) (.s (.s .n (.s (.l ⟨[(0,.ptr 1 0),(3,.ptr 1000003 0),(50,.row 1 1000050),(51,dI 0),(52,dI 23)],(h92 22 1 2 3 4 5 6 7 8 9 10 11 12 13 14 15 16 17 18 19 20 21),[i6,.s,.l (.s),.l (.s),i6,i6,i6,.b,i6,i6,i6,.s,.s,.l (.st 0),i6,i6,i6,i6,i6,i6,i6,.l i6],[.s,i6]⟩ [(0,.ptr 1 0),(3,.ptr 1000003 0)] (h91 22 1 2 3 4 5 6 7 8 9 10 11 12 13 14 15 16 17 18 19 20) [.s] 2 (u22Q KO) (.s .n (.s .n (.s (.j ⟨[(0,.ptr 1 0),(3,.ptr 1000003 0),(50,.row 1 1000050),(51,dI 0),(52,dI 1)],(h92 23 2 3 4 5 6 7 8 9 10 11 12 13 14 15 16 17 18 19 20 21 22),[i6,i6,.s,.l (.s),.l (.s),i6,i6,i6,.b,i6,i6,i6,.s,.s,.l (.st 0),i6,i6,i6,i6,i6,i6,i6,.l i6],[.s]⟩ false .n) .n)))) .n)) (.s (.j ⟨[(0,.ptr 1 0),(3,.ptr 1000003 0)],(h91 20 0 1 2 3 4 5 6 7 8 9 10 11 12 13 14 15 16 17 18 19),k80,[.s]⟩ false .n) (.s .n (.s .n (.s (.j ⟨[(0,.ptr 1 0)],(h26 1 0),[],[.s]⟩ true (.s .n (.s (.s .n (.s .n (.s .n (.s .n (.s .n (.s .n (.s .n (.s (.s .n (.s .n (.s (.l ⟨[(0,.ptr 1 0),(3,.ptr 1000003 0),(140,.row 1 103008000),(141,dI 0),(142,dI 23)],(h93 22 1 2 3 4 5 6 7 8 9 10 11 12 13 14 15 16 17 18 19 20 21),[i6,.s,.l (.s),.l (.s),i6,i6,i6,.b,i6,i6,i6,.s,.s,.l (.st 0),i6,i6,i6,i6,i6,i6,i6,.l (.s)],[.s,i6]⟩ [(0,.ptr 1 0)] (h26 1 22) [.s] 5 (u22Q KP) (.s .n (.s .n (.s (.j ⟨[(0,.ptr 1 0),(3,.ptr 1000003 0),(140,.row 1 103008000),(141,dI 0),(142,dI 1)],(h93 23 2 3 4 5 6 7 8 9 10 11 12 13 14 15 16 17 18 19 20 21 22),[i6,i6,.s,.l (.s),.l (.s),i6,i6,i6,.b,i6,i6,i6,.s,.s,.l (.st 0),i6,i6,i6,i6,i6,i6,i6,.l (.s)],[.s]⟩ false .n) .n)))) .n))) .n)))))))) .n))) .n)))))))) Tryz.func71 rfl hbv71 ⟨Vr,⟨zJ4,zKf⟩,⟨zKc,zbg⟩,zl3,Zj,trivial⟩ fun x=>by kernel_rfl
def zy5:Ct TS:=⟨[.ptr 1 0],[(1,.gn 1 (.s) 0)],[.s],dI 1,[(1,.gn 1 (.s) 0)],[i6],false,fun x=>zyo x⟩
theorem zD4:zy5.OK PGq 59:=fun x r h=>by
 cases h;exact kmp (by kernel_rfl) (zyc (T:=123) 1 x)
def zy6:Ct TS:=⟨[.d (.st 14) 0],h5,[.st 14],.tup [.d .s 1,dI 2],h5,[.s,i6],false,fun x=>zyp x⟩
theorem zD5:HBc 26 zy6:=ctk (T:=[(28,zpf),(67,WU),(68,zh2),(69,zbt),(70,zfb),(71,zr2),(72,Zg),(59,zy5),(60,WT)]) (h:=.s .n (.s .n (.s .n (.s (.s .n (.s (.l ⟨[(1,.ptr 1000001 0),(4,.ptr 1000028 0),(30,.d (.l (.st 1)) 0),(31,dI 1),(32,dI 9)],(h94 0 2 3 4 5 6 7 8 10),k82,[i6,.s]⟩ [(1,.ptr 1000001 0),(4,.ptr 1000028 0)] (h94 0 2 3 4 5 6 7 8 9) [.s] 0 (u9Q Wy) .n) .n)) (.s (.s .n (.s (.l ⟨[(1,.ptr 1000001 0),(4,.ptr 1000028 0),(50,.d (.l (.st 3)) 0),(51,dI 1),(52,dI 9)],(h94 2 0 3 4 5 6 7 8 10),k83,[i6,.s]⟩ [(1,.ptr 1000001 0),(4,.ptr 1000028 0)] (h94 2 0 3 4 5 6 7 8 9) [.s] 2 (u9Q WA) (.s .n (.s .n (.s (.s (.s .n (.s .n (.s (.s .n (.s (.l ⟨[(1,.ptr 1000001 0),(4,.ptr 1000028 0),(8,.ptr 1000008 0),(50,.d (.l (.st 3)) 0),(51,dI 1),(52,dI 2),(64,.d (.l (.st 2)) 3),(65,dI 4),(66,dI 14)],(h95 15),[.l (.st 3),i6,i6,.l (.st 2),i6,.l (.st 1),.l (.st 5),.l (.st 7),.l (.st 8),.l (.st 10),.l (.st 9),i6,.s,i6],[i6,.s]⟩ [(1,.ptr 1000001 0),(4,.ptr 1000028 0),(8,.ptr 1000008 0),(50,.d (.l (.st 3)) 0),(51,dI 1),(52,dI 2)] (h95 14) [.s] 4 (u14Q Wz) .n) .n)) .n))) .n) .n)))) .n)) (.s (.s .n (.s (.l ⟨[(1,.ptr 1000001 0),(4,.ptr 1000028 0),(91,.d (.l (.st 5)) 0),(92,dI 1),(93,dI 9)],(h94 2 3 0 4 5 6 7 8 10),k84,[i6,.s]⟩ [(1,.ptr 1000001 0),(4,.ptr 1000028 0)] (h94 2 3 0 4 5 6 7 8 9) [.s] 6 (u9Q WB) (.s .n (.s .n (.s (.s (.s .n (.s .n (.s (.j ⟨[(1,.ptr 1000001 0),(4,.ptr 1000028 0),(12,.ptr 1000012 0),(13,.d .s 14),(91,.d (.l (.st 5)) 0),(92,dI 1),(93,dI 2)],[(900000000,.rw 1),(900000001,.rw 2),(900000002,.rw 3),(900000003,.rw 4),(1000001,.box 31 [.d (.l (.st 1)) 3,.d (.l (.st 3)) 4,.d (.l (.st 5)) 0,.d (.l (.st 7)) 5,.d (.l (.st 8)) 6,.d (.l (.st 10)) 7,.d (.l (.st 9)) 8,dI 9]),(1000028,.gn 1 (.s) 10),(1000012,.box 64 [.d .s 11,.d .b 12,.d (.l (.st 4)) 13])],[.l (.st 5),i6,i6,.l (.st 1),.l (.st 3),.l (.st 7),.l (.st 8),.l (.st 10),.l (.st 9),i6,.s,.s,.b,.l (.st 4)],[.s]⟩ false .n) .n))) .n) .n)))) .n)) (.s (.s .n (.s (.l ⟨[(1,.ptr 1000001 0),(4,.ptr 1000028 0),(113,.d (.l (.st 7)) 0),(114,dI 1),(115,dI 9)],(h94 2 3 4 0 5 6 7 8 10),k85,[i6,.s]⟩ [(1,.ptr 1000001 0),(4,.ptr 1000028 0)] (h94 2 3 4 0 5 6 7 8 9) [.s] 8 (u9Q WC) .n) .n)) (.s (.s .n (.s (.l ⟨[(1,.ptr 1000001 0),(4,.ptr 1000028 0),(124,.d (.l (.st 8)) 0),(125,dI 1),(126,dI 9)],(h94 2 3 4 5 0 6 7 8 10),k86,[i6,.s]⟩ [(1,.ptr 1000001 0),(4,.ptr 1000028 0)] (h94 2 3 4 5 0 6 7 8 9) [.s] 10 (u9Q WD) .n) .n)) (.s (.s .n (.s (.l ⟨[(1,.ptr 1000001 0),(4,.ptr 1000028 0),(152,.d (.l (.st 10)) 0),(153,dI 1),(154,dI 9)],(h94 2 3 4 5 6 0 7 8 10),k87,[i6,.s]⟩ [(1,.ptr 1000001 0),(4,.ptr 1000028 0)] (h94 2 3 4 5 6 0 7 8 9) [.s] 12 (u9Q WG) (.s .n (.s .n (.s (.s (.s .n (.s .n (.s (.s .n (.s (.l ⟨[(1,.ptr 1000001 0),(4,.ptr 1000028 0),(152,.d (.l (.st 10)) 0),(153,dI 1),(154,dI 2),(183,.d (.l (.st 9)) 3),(184,dI 4),(185,dI 12)],(h94 5 6 7 8 9 0 10 11 13),[.l (.st 10),i6,i6,.l (.st 9),i6,.l (.st 1),.l (.st 3),.l (.st 5),.l (.st 7),.l (.st 8),.l (.st 9),i6],[i6,.s]⟩ [(1,.ptr 1000001 0),(4,.ptr 1000028 0),(152,.d (.l (.st 10)) 0),(153,dI 1),(154,dI 2)] (h94 5 6 7 8 9 0 10 11 12) [.s] 14 (u12Q WE) .n) .n)) .n))) .n) .n)))) .n)) (.s (.s .n (.s (.l ⟨[(1,.ptr 1000001 0),(4,.ptr 1000028 0),(206,.d (.l (.st 9)) 0),(207,dI 1),(208,dI 9)],(h94 2 3 4 5 6 7 0 8 10),k89,[i6,.s]⟩ [(1,.ptr 1000001 0),(4,.ptr 1000028 0)] (h94 2 3 4 5 6 7 0 8 9) [.s] 16 (u9Q WH) .n) .n)) (.s (.j ⟨[(1,.ptr 1000001 0),(4,.ptr 1000028 0)],(h94 0 1 2 3 4 5 6 7 8),k4,[.s]⟩ false .n) (.s (.j ⟨[(4,.ptr 1000028 0)],[(900000000,.rw 1),(900000001,.rw 2),(900000002,.rw 3),(900000003,.rw 4),(1000028,.gn 1 (.s) 0)],[],[.s]⟩ false .n) .n)))))))))))) Tryz.func26 rfl hbv26 ⟨zr1,Vr,zl3,Zj,zpg,zy4,⟨zKc,zbg⟩,⟨zOy,zD4⟩,⟨zt9,zbs⟩,trivial⟩ fun x=>by kernel_rfl
def zbu:Ct TS:=⟨[],h5,[],.d .b 0,h5,[.b],false,fun _=>A4⟩
theorem zl4:HBc 9 zbu:=ctg (cd:=cdL) (nb:=nbT) (rc:=[]) (T:=[(12,KS),(19,za5),(10,zo6),(26,zy6),(28,zpf),(16,zaz)]) (h:=.s .n (.s .n (.s .n (.s .n (.s .n (.s .n (.s .n (.s .n (.s .n (.s .n (.s .n (.s (.j ⟨[(9,.ptr 1000009 0),(13,dI 0),(14,dI 1),(16,dI 2),(17,dI 3),(19,dI 4),(20,dI 5),(22,dI 6),(23,dI 7),(25,dI 8),(26,dI 9),(27,.d .b 18)],(h75 1000009 103005401 103005402 103005403 103005404 103005405 103005406 10 11 12 13 14 15 16 17),[i6,i6,i6,i6,i6,i6,i6,i6,i6,i6,.l (.st 9),i6,.l (.st 1),.l (.st 3),.l (.st 5),.l (.st 7),.l (.st 8),.l (.st 10)],[.b]⟩ false .n) (.s (.j ⟨[(9,.ptr 1000009 0),(27,.d .b 0),(28,.d .b 9)],(h75 1000009 103005401 103005402 103005403 103005404 103005405 103005406 1 2 3 4 5 6 7 8),k96,[.b]⟩ false .n) .n))))))))))))) Tryz.func9 rfl hbv9 ⟨Yl,zlf,zrz,zD5,zr1,WM,trivial⟩ fun x=>by kernel_rfl
def zl5:Ct TS:=⟨[.d (.i .u8) 0],[],[.i .u8],.d .b 1,[],[.b],false,fun x=>Vi x⟩
theorem zus:HBc 135 zl5:=ctk (T:=[]) (h:=.n) Tryz.func135 rfl zPe trivial fun x=>by kernel_rfl
def WV:Ct TS:=⟨[.d (.i .u8) 0],[],[.i .u8],.d .b 1,[],[.b],false,fun x=>qO x⟩
theorem zbv:HBc 159 WV:=ctk (T:=[]) (h:=.n) Tryz.func159 rfl zPf trivial fun x=>by kernel_rfl
def Vs:Ct TS:=⟨[.d (.i .u8) 0],[],[.i .u8],.d .b 1,[],[.b],false,fun x=>uu x⟩
theorem WW:HBc 160 Vs:=ctk (T:=[]) (h:=.n) Tryz.func160 rfl zPg trivial fun x=>by kernel_rfl
def zfc:Ct TS:=⟨[.d .s 0],[],[.s],.tup [dI 1,.d .b 2],[],[i6,.b],false,fun x=>JM x⟩
theorem zph:HBc 199 zfc:=ctk (T:=[(160,Vs)]) (h:=.s .n (.s .n (.s (.s .n (.s (.lr ⟨[(0,.d .s 0),(4,dI 1),(5,dI 2)],[],[.s],[i6,i6]⟩ [(0,.d .s 0),(4,dI 1)] [] [i6] 0 (fun x K v=>ve x K v) (.s .n (.s (.s (.s (.s (.j ⟨[(0,.d .s 0),(4,dI 1),(5,dI 2),(20,.d .b 3)],[],[.s,i6],[i6,.b]⟩ false .n) .n) .n) .n) .n))) .n)) (.s (.s (.j ⟨[(4,dI 0),(45,.d .b 1)],[],[i6],[.b]⟩ false .n) .n) .n)))) Tryz.func199 rfl zPh ⟨WW,trivial⟩ fun x=>by kernel_rfl
def zr3:Ct TS:=⟨[.d .s 0,dI 1],[],[.s,i6],dI 2,[],[i6],false,u2Q Za⟩
theorem zy7:HBc 200 zr3:=ctk (T:=[]) (h:=.s .n (.s (.s (.j ⟨[(0,.d .s 0),(1,dI 1),(30,.d .b 2)],[],[.s,i6],[.b]⟩ false .n) .n) (.s .n (.s (.s .n (.s (.lr ⟨[(0,.d .s 0),(1,dI 1),(5,.d .s 2),(6,dI 3)],[],[.s,i6,.s],[i6]⟩ [] [] [] 0 (u3Q j8) .n) .n)) .n)))) Tryz.func200 rfl zPi trivial fun x=>by kernel_rfl
def zl6:Ct TS:=⟨[.d .s 0,dI 1],[],[.s,i6],.tup [.ag [dI 3,.d .s 4,dI 5,dI 6],dI 2],(h31 7000001 3 4 5 6),[i6,i6,.s,i6,i6],false,u2Q H8⟩
theorem zut:HBc 136 zl6:=ctg (cd:=cdT) (nb:=nbT) (rc:=[(4,7000001,0)]) (T:=[(159,WV),(160,Vs),(199,zfc),(200,zr3)]) (h:=.s .n (.s .n (.s (.s .n (.s (.s (.s (.l ⟨[(0,.d .s 0),(1,dI 1),(4,.ptr 1000004 0),(6,dI 4)],(h31 1000004 2 3 2 2),[.s,i6,i6,.s],[i6]⟩ [(0,.d .s 0),(1,dI 1),(4,.ptr 1000004 0),(6,dI 4)] (h31 1000004 2 3 2 2) [i6] 0 (u4Q wL) (.s (.s (.j ⟨[(0,.d .s 0),(1,dI 1),(4,.ptr 1000004 0),(6,dI 2),(31,.d .b 5)],(h31 1000004 3 4 3 3),[.s,i6,i6,i6,.s],[.b]⟩ false .n) .n) .n)) .n) .n) .n)) (.s (.s .n (.s (.s (.s (.l ⟨[(0,.d .s 0),(1,dI 1),(4,.ptr 1000004 0),(6,dI 4)],(h31 1000004 2 3 2 2),[.s,i6,i6,.s],[i6]⟩ [(0,.d .s 0),(1,dI 1),(4,.ptr 1000004 0),(6,dI 4)] (h31 1000004 2 3 2 2) [i6] 2 (u4Q wM) (.s (.s (.j ⟨[(0,.d .s 0),(1,dI 1),(4,.ptr 1000004 0),(6,dI 2),(58,.d .b 5)],(h31 1000004 3 4 3 3),[.s,i6,i6,i6,.s],[.b]⟩ false .n) .n) .n)) .n) .n) .n)) .n)))) Tryz.func136 rfl zPj ⟨zbv,WW,zph,zy7,trivial⟩ fun x=>by kernel_rfl
def zpi:Ct TS:=⟨[.d .s 0],[],[.s],.tup [.d (.l (.st 11)) 1,dI 2,dI 3],[],k7,false,fun x=>zau x⟩
theorem zr4:HBc 37 zpi:=ctk (T:=[(135,zl5),(136,zl6)]) (h:=.s .n (.s .n (.s .n (.s .n (.s (.s (.lr ⟨[(0,.d .s 0),(5,.row 4 7000001),(6,dI 1)],[(7000001,.row 51 (.st 11) 2 false)],[.s],[i6,.l (.st 11)]⟩ [(0,.d .s 0),(5,.row 4 7000001)] [(7000001,.row 51 (.st 11) 1 false)] [.l (.st 11)] 0 (fun x K v=>xm x K v) .n) .n) .n))))) Tryz.func37 rfl hbv37 ⟨zus,zut,trivial⟩ fun x=>by kernel_rfl
def Jd:Ct TS:=⟨[.ptr 1 0,.d .s 4],(h97 1 2 3),[.l (.st 11),i6,i6,i6,.s],.d .b 5,(h97 1 2 3),[.b],false,u5Q yr⟩
theorem oE:HBc 137 Jd:=ctk (T:=[]) (h:=.n) Tryz.func137 rfl zPk trivial fun x=>by kernel_rfl
def vl:Ct TS:=⟨[.ptr 1 0,dI 4],(h97 1 2 3),k98,.tup [],(h97 1 5 6),[i6,i6],false,u5Q yD⟩
theorem wj:HBc 45 vl:=ctk (T:=[]) (h:=.n) Tryz.func45 rfl hbv45 trivial fun x=>by kernel_rfl
def zl7:Ct TS:=⟨[.ptr 1 0,dI 4,dI 5],(h97 1 2 3),[.l (.st 11),i6,i6,i6,i6,i6],.tup [],(h97 6 7 8),k2,false,u6Q jE⟩
theorem zuu:HBc 138 zl7:=ctk (T:=[(45,vl)]) (h:=.n) Tryz.func138 rfl zPl ⟨wj,trivial⟩ fun x=>by kernel_rfl
def zl8:Ct TS:=⟨[.d (.st 14) 0,dI 1],[],[.st 14,i6],.d (.l (.s)) 2,[],[.l (.s)],false,u2Q xu⟩
theorem zuv:HBc 98 zl8:=ctk (T:=[]) (h:=.s .n (.s .n (.s (.s .n (.s (.l ⟨[(1,dI 0),(2,.ptr 1000002 0),(5,.row 1 7000001),(6,dI 9)],(h99 1 2 3 4 5 6 7 8 10),zMe,[i6,.l (.s)]⟩ [(1,dI 0),(2,.ptr 1000002 0),(5,.row 1 7000001)] (h99 1 2 3 4 5 6 7 8 9) [.l (.s)] 0 (u9Q uV) (.s (.s (.j ⟨[(1,dI 0),(2,.ptr 1000002 0),(5,.row 1 7000001),(6,dI 1),(20,.d .b 11)],(h99 2 3 4 5 6 7 8 9 10),zMf,[.b]⟩ false .n) .n) .n)) .n)) (.s (.s .n (.s (.l ⟨[(1,dI 0),(2,.ptr 1000002 0),(5,.row 1 7000001),(7,dI 9)],(h99 1 2 3 4 5 6 7 8 10),zMe,[i6,.l (.s)]⟩ [(1,dI 0),(2,.ptr 1000002 0),(5,.row 1 7000001)] (h99 1 2 3 4 5 6 7 8 9) [.l (.s)] 2 (u9Q uW) (.s (.s (.j ⟨[(1,dI 0),(2,.ptr 1000002 0),(5,.row 1 7000001),(7,dI 1),(40,.d .b 11)],(h99 2 3 4 5 6 7 8 9 10),zMf,[.b]⟩ false .n) .n) .n)) .n)) (.s (.s .n (.s (.l ⟨[(1,dI 0),(2,.ptr 1000002 0),(5,.row 1 7000001),(8,dI 9)],(h99 1 2 3 4 5 6 7 8 10),zMe,[i6,.l (.s)]⟩ [(1,dI 0),(2,.ptr 1000002 0),(5,.row 1 7000001)] (h99 1 2 3 4 5 6 7 8 9) [.l (.s)] 4 (u9Q uX) (.s (.s (.j ⟨[(1,dI 0),(2,.ptr 1000002 0),(5,.row 1 7000001),(8,dI 1),(60,.d .b 11)],(h99 2 3 4 5 6 7 8 9 10),zMf,[.b]⟩ false .n) .n) .n)) .n)) (.s (.s .n (.s (.l ⟨[(1,dI 0),(2,.ptr 1000002 0),(5,.row 1 7000001),(9,dI 9)],(h99 1 2 3 4 5 6 7 8 10),zMe,[i6,.l (.s)]⟩ [(1,dI 0),(2,.ptr 1000002 0),(5,.row 1 7000001)] (h99 1 2 3 4 5 6 7 8 9) [.l (.s)] 6 (u9Q uY) (.s (.s (.j ⟨[(1,dI 0),(2,.ptr 1000002 0),(5,.row 1 7000001),(9,dI 1),(80,.d .b 11)],(h99 2 3 4 5 6 7 8 9 10),zMf,[.b]⟩ false .n) .n) .n)) .n)) (.s (.s .n (.s (.l ⟨[(1,dI 0),(2,.ptr 1000002 0),(5,.row 1 7000001),(10,dI 9)],(h99 1 2 3 4 5 6 7 8 10),zMe,[i6,.l (.s)]⟩ [(1,dI 0),(2,.ptr 1000002 0),(5,.row 1 7000001)] (h99 1 2 3 4 5 6 7 8 9) [.l (.s)] 8 (u9Q uZ) (.s (.s (.j ⟨[(1,dI 0),(2,.ptr 1000002 0),(5,.row 1 7000001),(10,dI 1),(100,.d .b 11)],(h99 2 3 4 5 6 7 8 9 10),zMf,[.b]⟩ false .n) .n) .n)) .n)) (.s (.s .n (.s (.l ⟨[(1,dI 0),(2,.ptr 1000002 0),(5,.row 1 7000001),(11,dI 9)],(h99 1 2 3 4 5 6 7 8 10),zMe,[i6,.l (.s)]⟩ [(5,.row 1 7000001)] (h57 7000001 9) [.l (.s)] 10 (u9Q u0) (.s (.s (.j ⟨[(1,dI 0),(2,.ptr 1000002 0),(5,.row 1 7000001),(11,dI 1),(120,.d .b 11)],(h99 2 3 4 5 6 7 8 9 10),zMf,[.b]⟩ false .n) .n) .n)) .n)) .n)))))))) Tryz.func98 rfl hbv98 trivial fun x=>by kernel_rfl
def zr5:Ct TS:=⟨[.d .s 0],[],[.s],.d .b 1,[],[.b],false,fun x=>Zb x⟩
theorem zy8:HBc 53 zr5:=ctk (T:=[(159,WV),(160,Vs)]) (h:=.s .n (.s (.s (.j ⟨[(0,.d .s 0),(17,.d .b 1)],[],[.s],[.b]⟩ false .n) .n) (.s (.s .n (.s (.lr ⟨[(0,.d .s 0),(3,dI 1)],[],[.s],[i6]⟩ [] [] [] 0 (fun x K v=>j9 x K v) (.s .n (.s (.s (.s (.j ⟨[(0,.d .s 0),(3,dI 1),(35,.d .b 2)],[],[.s,i6],[.b]⟩ false .n) .n) .n) .n))) .n)) .n))) Tryz.func53 rfl hbv53 ⟨zbv,WW,trivial⟩ fun x=>by kernel_rfl
def YC:Ct TS:=⟨[],[],[],.d (.l (.s)) 0,[],[.l (.s)],false,fun _=>H9⟩
theorem zh3:HBc 55 YC:=ctk (T:=[]) (h:=.n) Tryz.func55 rfl hbv55 trivial fun x=>by kernel_rfl
def JT:Ct TS:=⟨[.d (.l (.s)) 0,.d .s 1],[],[.l (.s),.s],dI 2,[],[i6],false,u2Q kC⟩
theorem Je:HBc 54 JT:=ctk (T:=[]) (h:=.s .n (.s (.s .n (.s (.lr ⟨[(0,.d (.l (.s)) 0),(1,.d .s 1),(5,dI 2)],[],[.l (.s),.s],[i6]⟩ [] [] [] 0 (u2Q ka) .n) .n)) .n)) Tryz.func54 rfl hbv54 trivial fun x=>by kernel_rfl
def zh4:Ct TS:=⟨[.d .s 0],[],[.s],.d .b 1,[],[.b],false,fun x=>Vj x⟩
theorem zl9:HBc 17 zh4:=ctk (T:=[(53,zr5),(55,YC),(54,JT)]) (h:=.n) Tryz.func17 rfl hbv17 ⟨zy8,zh3,Je,trivial⟩ fun x=>by kernel_rfl
def Hh:Ct TS:=⟨[.ptr 1 0],(h97 1 2 3),k9,.d .b 4,(h97 1 2 3),[.b],false,u4Q wN⟩
theorem Jf:HBc 201 Hh:=ctk (T:=[(17,zh4)]) (h:=.n) Tryz.func201 rfl zPm ⟨zl9,trivial⟩ fun x=>by kernel_rfl
def Hi:Ct TS:=⟨[.ptr 1 0,.d (.l (.s)) 4,dI 5],(h97 1 2 3),[.l (.st 11),i6,i6,i6,.l (.s),i6],.d .s 6,(h97 7 8 9),[.s,i6,i6,i6],false,u6Q yL⟩
theorem Ab:HBc 139 Hi:=ctk (T:=[(201,Hh),(45,vl),(54,JT)]) (h:=.n) Tryz.func139 rfl zPn ⟨Jf,wj,Je,trivial⟩ fun x=>by kernel_rfl
def jN:Ct TS:=⟨[.ptr 1 0,.d .s 4],(h97 1 2 3),[.l (.st 11),i6,i6,i6,.s],.tup [],(h97 5 6 7),k2,false,u5Q yp⟩
theorem vA:HBc 140 jN:=ctk (T:=[(137,Jd),(45,vl)]) (h:=.n) Tryz.func140 rfl zPo ⟨oE,wj,trivial⟩ fun x=>by kernel_rfl
def vm:Ct TS:=⟨[.ptr 1 0],(h97 1 2 3),k9,.d .b 4,(h97 1 2 3),[.b],false,u4Q yP⟩
theorem vB:HBc 203 vm:=ctk (T:=[]) (h:=.n) Tryz.func203 rfl zPp trivial fun x=>by kernel_rfl
def wv:Ct TS:=⟨[.ptr 1 0,dI 4,dI 5],(h97 1 2 3),[.l (.st 11),i6,i6,i6,i6,i6],dI 6,(h97 7 8 9),k1,false,u6Q zN⟩
theorem wh:HBc 147 wv:=ctk (T:=[(203,vm),(45,vl)]) (h:=.s .n (.s .n (.s .n (.s (.s (.j ⟨[(0,.ptr 1 0),(7,dI 4),(31,.d .b 5)],(h97 1 2 3),k98,[.b]⟩ false .n) .n) .n)))) Tryz.func147 rfl zPq ⟨vB,wj,trivial⟩ fun x=>by kernel_rfl
def YD:Ct TS:=⟨[.ptr 1 0,dI 4],(h97 1 2 3),k98,dI 5,(h97 1 2 3),[i6],false,u5Q wO⟩
theorem zh5:HBc 153 YD:=ctg (cd:=cdL) (nb:=nbT) (rc:=[]) (T:=[(54,JT)]) (h:=.s .n (.s .n (.s .n (.s (.s (.j ⟨[(0,.ptr 1 0),(1,dI 4),(5,.d (.l (.l (.s))) 5),(6,.d (.l i6) 6),(37,.d .b 7)],(h97 1 2 3),[.l (.st 11),i6,i6,i6,i6,.l (.l (.s)),.l i6],[.b]⟩ false .n) .n) .n)))) Tryz.func153 rfl zPr ⟨Je,trivial⟩ fun x=>by kernel_rfl
def K3(RK:Nat):Ct TS:=⟨[.ptr 1 0],(h97 1 2 3),k9,.ag [dI 7,dI 8,.d .s 9,.d .s 10,.d (.l (.st 0)) 11],(zOk 4 5 6 7000001 7 8 9 10 11),k22,false,fun x=>A5 RK x.1 x.2.1 x.2.2.1 x.2.2.2⟩
def u9(RK:Nat):Ct TS:=⟨[.ptr 1 0,dI 4],(h97 1 2 3),k98,.ag [dI 8,dI 9,.d .s 10,.d .s 11,.d (.l (.st 0)) 12],(zOk 5 6 7 7000001 8 9 10 11 12),k22,false,fun x=>yM RK x.1 x.2.1 x.2.2.1 x.2.2.2.1 x.2.2.2.2⟩
theorem qz:∀RK,(K3 RK).OK PGq 152∧(u9 RK).OK PGq 44
 |0=>⟨(fun x r h=>nomatch (show(none:Option _)=some r from h)),(fun x r h=>nomatch (show(none:Option _)=some r from h))⟩
 |RK+1=>⟨(ctg (c:=K3 (RK+1)) (cd:=cdT) (nb:=nbT) (rc:=[(2,7000001,0)]) (T:=[(203,vm),(147,wv),(137,Jd),(139,Hi),(44,u9 RK),(140,jN)]) (h:=.n) Tryz.func152 rfl zG1 ⟨vB,wh,oE,Ab,⟨zD0,(qz RK).2⟩,vA,trivial⟩ fun x=>by kernel_rfl).2,(ctg (c:=u9 (RK+1)) (cd:=cdT) (nb:=nbT) (rc:=[(4,7000001,0)]) (T:=[(152,K3 RK),(137,Jd),(44,u9 RK),(140,jN),(153,YD)]) (h:=.s .n (.s .n (.s .n (.s (.s (.j ⟨[(0,.ptr 1 0),(1,dI 4),(4,.ptr 1000004 0),(24,.d .b 8)],(zOk 1 2 3 1000004 5 5 6 6 7),k103,[.b]⟩ false .n) .n) (.s (.s (.j ⟨[(0,.ptr 1 0),(1,dI 4),(4,.ptr 1000004 0),(51,.d .b 8)],(zOk 1 2 3 1000004 5 5 6 6 7),k103,[.b]⟩ false .n) .n) (.s (.s (.j ⟨[(0,.ptr 1 0),(1,dI 4),(4,.ptr 1000004 0),(68,.d .b 8)],(zOk 1 2 3 1000004 5 5 6 6 7),k103,[.b]⟩ false .n) .n) (.s .n (.s (.s (.lr ⟨[(0,.ptr 1 0),(1,dI 1),(4,.ptr 1000004 0),(7,.ptr 1000007 0)],h104,k14,k22⟩ [(4,.ptr 1000004 0),(7,.ptr 1000007 0)] h104 k22 0 (fun x K v=>vO (yM RK) x.1 x.2.1 x.2.2.1 x.2.2.2.1 x.2.2.2.2 K v) .n) .n) .n)))))))) Tryz.func44 rfl zD0 ⟨⟨zG1,(qz RK).1⟩,oE,⟨zD0,(qz RK).2⟩,vA,zh5,trivial⟩ fun x=>by kernel_rfl).2⟩
theorem zbw(RK:Nat):zd PGq 44∧(u9 RK).OK PGq 44:=⟨zD0,(qz RK).2⟩
def qP(RK:Nat):Ct TS:=⟨[.d (.st 0) 0],[],[.st 0],dI 1,[],[i6],false,fun x=>wo RK x⟩
theorem YE:∀RK,(qP RK).OK PGq 46
 |0=>(fun x r h=>nomatch (show(none:Option _)=some r from h))
 |RK+1=>(ctk (c:=qP (RK+1)) (T:=[(46,qP RK)]) (h:=.s .n (.s .n (.s (.s .n (.s (.l ⟨[(1,.ptr 1000001 0),(3,dI 5),(4,dI 6)],(h25 1000001 0 1 2 3 4),[i6,i6,.s,.s,.l (.st 0)],[i6,i6]⟩ [(3,dI 5)] [] [i6] 0 (fun x K v=>vf (wo RK) x.1 x.2.1 x.2.2.1 x.2.2.2.1 x.2.2.2.2 K v) .n) .n)) .n))) Tryz.func46 rfl zKd ⟨⟨zKd,(YE RK)⟩,trivial⟩ fun x=>by kernel_rfl).2
theorem zbx(RK:Nat):zd PGq 46∧(qP RK).OK PGq 46:=⟨zKd,(YE RK)⟩
def zby:Ct TS:=⟨[.ptr 1 0,.d (.st 0) 4],(h97 1 2 3),[.l (.st 11),i6,i6,i6,.st 0],.tup [],(h97 5 6 7),k2,false,u5Q uv⟩
theorem zfd:HBc 141 zby:=ctk (T:=[(137,Jd),(46,qP KK),(45,vl),(140,jN)]) (h:=.s .n (.s (.j ⟨[(0,.ptr 1 0)],(h97 1 2 3),[.l (.st 11),i6],[i6,i6]⟩ false (.s (.j ⟨[(0,.ptr 1 0),(10,.d .b 4)],(h97 1 2 3),k9,[.b]⟩ false .n) .n)) .n)) Tryz.func141 rfl zPs ⟨oE,(zbx KK),wj,vA,trivial⟩ fun x=>by kernel_rfl
def WX:Ct TS:=⟨[.ptr 1 0,dI 4],(h97 1 2 3),k98,dI 5,(h97 6 7 8),k1,false,u5Q vg⟩
theorem zbz:HBc 202 WX:=ctk (T:=[(137,Jd),(147,wv)]) (h:=.n) Tryz.func202 rfl zPt ⟨oE,wh,trivial⟩ fun x=>by kernel_rfl
def zma:Ct TS:=⟨[.ptr 1 0,.d (.l (.s)) 4],(h97 1 2 3),zMg,.ag [.d .s 8,.row 2 7001002,dI 9],[(1,.box 76 [.d (.l (.st 11)) 0,dI 5,dI 6,dI 7]),(7001001,.box 87 [.d .s 8,.row 2 7001002,dI 9]),(7001002,.row 119 (.st 2) 10 true)],[i6,i6,i6,.s,i6,.l (.st 2)],false,u5Q oY⟩
theorem zuw:HBc 142 zma:=ctg (cd:=cdT) (nb:=nbL) (rc:=[(4,7001001,0)]) (T:=[(139,Hi),(201,Hh),(202,WX),(140,jN)]) (h:=.s .n (.s .n (.s .n (.s (.s (.l ⟨[(0,.ptr 1 0),(4,.ptr 1000004 0),(5,.ptr 1000005 0),(6,.row 1 7000001)],[(1,.box 76 [.d (.l (.st 11)) 0,dI 5,dI 6,dI 7]),(1000004,.box 87 [.d .s 1,.row 2 1001000004001,dI 2]),(1000005,.box 87 [.d .s 3,.row 2 1001000005001,dI 2]),(7000001,.row 9 (.s) 8 true),(1001000004001,.row 119 (.st 2) 4 true),(1001000005001,.row 119 (.st 2) 9 true)],[.l (.st 11),.s,i6,.s,.l (.st 2)],[i6,i6,i6,.l (.s),.l (.st 2)]⟩ [(0,.ptr 1 0),(4,.ptr 1000004 0),(5,.ptr 1000005 0)] [(1,.box 76 [.d (.l (.st 11)) 0,dI 5,dI 6,dI 7]),(1000004,.box 87 [.d .s 1,.row 2 1001000004001,dI 2]),(1000005,.box 87 [.d .s 3,.row 2 1001000005001,dI 2]),(1001000004001,.row 119 (.st 2) 4 true),(1001000005001,.row 119 (.st 2) 8 true)] [i6,i6,i6,.l (.st 2)] 0 (u5Q wP) .n) .n) .n)))) Tryz.func142 rfl zPu ⟨Ab,Jf,zbz,vA,trivial⟩ fun x=>by kernel_rfl
def zfe:Ct TS:=⟨[.ptr 1 0],(h97 1 2 3),k9,.d (.l (.st 4)) 4,(h97 5 6 7),[.l (.st 4),i6,i6,i6],false,u4Q kd⟩
theorem zpj:HBc 143 zfe:=ctk (T:=[(203,vm),(147,wv)]) (h:=.s .n (.s .n (.s (.s (.l ⟨[(0,.ptr 1 0),(3,.row 2 7000001)],(zDw 1 2 3 156 4 4),[.l (.st 11)],[i6,i6,i6,.l (.st 4)]⟩ [(3,.row 2 7000001)] (zDw 1 2 3 156 4 4) [i6,i6,i6,.l (.st 4)] 0 (fun x K v=>yQ x K v) (.s (.s (.j ⟨[(0,.ptr 1 0),(3,.row 2 7000001),(12,.d .b 5)],(zDw 1 2 3 156 4 4),[.l (.st 11),i6,i6,i6,.l (.st 4)],[.b]⟩ false .n) .n) .n)) .n) .n))) Tryz.func143 rfl zPv ⟨vB,wh,trivial⟩ fun x=>by kernel_rfl
def zb0:Ct TS:=⟨[.d (.l (.st 4)) 0],[],[.l (.st 4)],.d .b 1,[],[.b],false,fun x=>A6 x⟩
theorem zmb:HBc 181 zb0:=ctk (T:=[]) (h:=.s .n (.s .n (.s (.s .n (.s (.lr ⟨[(0,.d (.l (.st 4)) 0),(3,dI 1),(4,dI 2)],[],[.l (.st 4),i6],[i6]⟩ [] [] [] 0 (u2Q wq) (.s .n (.s (.s (.s .n (.s .n (.s .n (.s (.j ⟨[(0,.d (.l (.st 4)) 0),(3,dI 1),(4,dI 2),(76,.d .b 3)],[],[.l (.st 4),i6,i6],[.b]⟩ false .n) .n)))) .n) .n))) .n)) .n))) Tryz.func181 rfl zPw trivial fun x=>by kernel_rfl
def zr6:Ct TS:=⟨[.d (.st 4) 0,.d (.st 4) 1],[],[.st 4,.st 4],.d .b 2,[],[.b],false,u2Q Vk⟩
theorem zy9:HBc 182 zr6:=ctk (T:=[]) (h:=.n) Tryz.func182 rfl zPx trivial fun x=>by kernel_rfl
def zr7:Ct TS:=⟨[.d (.st 4) 0,.d (.st 4) 1,.d (.st 4) 2,.d (.st 4) 3],[],[.st 4,.st 4,.st 4,.st 4],.d .b 4,[],[.b],false,u4Q zhk⟩
theorem zza:HBc 183 zr7:=ctk (T:=[]) (h:=.n) Tryz.func183 rfl zPy trivial fun x=>by kernel_rfl
def zmc:Ct TS:=⟨[.d (.l (.st 4)) 0],[],[.l (.st 4)],.d .b 1,[],[.b],false,fun x=>Vl x⟩
theorem zux:HBc 100 zmc:=ctk (T:=[(181,zb0),(182,zr6),(183,zr7)]) (h:=.s .n (.s .n (.s (.s (.j ⟨[(0,.d (.l (.st 4)) 0),(3,dI 1),(13,.d .b 2)],[],[.l (.st 4),i6],[.b]⟩ false .n) .n) (.s (.s (.j ⟨[(0,.d (.l (.st 4)) 0),(3,dI 1),(27,.d .b 2)],[],[.l (.st 4),i6],[.b]⟩ false .n) .n) (.s (.s .n (.s (.lr ⟨[(0,.d (.l (.st 4)) 0),(3,dI 1),(4,dI 2)],[],[.l (.st 4),i6],[i6]⟩ [] [] [] 0 (u2Q jd) (.s .n (.s (.s (.s (.s (.j ⟨[(0,.d (.l (.st 4)) 0),(3,dI 1),(4,dI 2),(45,.d .b 3)],[],[.l (.st 4),i6,i6],[.b]⟩ false .n) .n) (.s .n (.s (.lr ⟨[(0,.d (.l (.st 4)) 0),(3,dI 1),(4,dI 2),(5,dI 3)],[],[.l (.st 4),i6,i6],[i6]⟩ [(0,.d (.l (.st 4)) 0),(3,dI 1),(4,dI 2)] [] [] 2 (u3Q jc) (.s .n (.s (.s (.s (.j ⟨[(0,.d (.l (.st 4)) 0),(3,dI 1),(4,dI 2),(5,dI 3),(81,.d .b 4)],[],[.l (.st 4),i6,i6,i6],[.b]⟩ false .n) .n) .n) .n))) .n))) .n) .n))) .n)) .n))))) Tryz.func100 rfl zPz ⟨zmb,zy9,zza,trivial⟩ fun x=>by kernel_rfl
def zmd:Ct TS:=⟨[.ptr 1 0,.d (.l (.st 4)) 4],(h97 1 2 3),[.l (.st 11),i6,i6,i6,.l (.st 4)],.tup [],(h97 5 6 7),k2,false,u5Q uw⟩
theorem zuy:HBc 144 zmd:=ctk (T:=[(137,Jd),(100,zmc),(45,vl),(140,jN)]) (h:=.s (.j ⟨[(0,.ptr 1 0)],(h97 1 2 3),[.l (.st 11),i6],[i6,i6]⟩ false (.s (.j ⟨[(0,.ptr 1 0),(10,.d .b 4)],(h97 1 2 3),k9,[.b]⟩ false .n) .n)) .n) Tryz.func144 rfl zP0 ⟨oE,zux,wj,vA,trivial⟩ fun x=>by kernel_rfl
def zr8:Ct TS:=⟨[.ptr 1 0],(h97 1 2 3),k9,.d (.l (.s)) 4,(h97 5 6 7),[.l (.s),i6,i6,i6],false,u4Q A7⟩
theorem zzb:HBc 204 zr8:=ctk (T:=[(201,Hh),(139,Hi)]) (h:=.s .n (.s .n (.s (.s (.lr ⟨[(0,.ptr 1 0),(3,.row 1 7000001)],h107,[.l (.st 11)],zRs⟩ [(3,.row 1 7000001)] h107 zRs 0 (fun x K v=>vP x K v) (.s (.s (.j ⟨[(0,.ptr 1 0),(3,.row 1 7000001),(10,.d .b 5)],h107,zMg,[.b]⟩ false .n) .n) .n)) .n) .n))) Tryz.func204 rfl zP1 ⟨Jf,Ab,trivial⟩ fun x=>by kernel_rfl
def Jg:Ct TS:=⟨[],[],[],.d (.l (.s)) 0,[],[.l (.s)],false,fun _=>wQ⟩
theorem Vt:HBc 177 Jg:=ctk (T:=[]) (h:=.n) Tryz.func177 rfl zP2 trivial fun x=>by kernel_rfl
def zzc:Ct TS:=⟨[dI 0],[],[i6],dI 1,[],[i6],false,fun x=>WI x⟩
theorem zD6:HBc 178 zzc:=ctk (T:=[]) (h:=.n) Tryz.func178 rfl zP3 trivial fun x=>by kernel_rfl
def Zk:Ct TS:=⟨[.ptr 1 0,.d (.l (.s)) 4],(h97 1 2 3),zMg,dI 5,(h97 6 7 8),k1,false,u5Q vh⟩
theorem zb1:HBc 146 Zk:=ctk (T:=[(54,JT),(45,vl)]) (h:=.s .n (.s (.s (.j ⟨[(0,.ptr 1 0),(1,.d (.l (.s)) 4),(39,.d .b 5)],(h97 1 2 3),zMg,[.b]⟩ false .n) .n) .n)) Tryz.func146 rfl zP4 ⟨Je,wj,trivial⟩ fun x=>by kernel_rfl
def zr9:Ct TS:=⟨[.ptr 1 0],(h97 1 2 3),k9,dI 4,(h97 5 6 7),k1,false,u4Q Zc⟩
theorem zzd:HBc 220 zr9:=ctk (T:=[(177,Jg),(54,JT),(178,zzc),(45,vl),(146,Zk)]) (h:=.s .n (.s .n (.s (.s (.lr ⟨[(0,.ptr 1 0),(3,dI 4)],(h97 1 2 3),[.l (.st 11)],k1⟩ [(3,dI 4)] (h97 1 2 3) k1 0 (fun x K v=>vQ x K v) (.s (.s (.j ⟨[(0,.ptr 1 0),(3,dI 4),(43,.d .b 5)],(h97 1 2 3),k98,[.b]⟩ false .n) .n) (.s (.s .n (.s .n (.s (.s (.j ⟨[(0,.ptr 1 0),(3,dI 4),(72,.d .b 5)],(h97 1 2 3),k98,[.b]⟩ false .n) .n) .n))) .n))) .n) .n))) Tryz.func220 rfl zP5 ⟨Vt,Je,zD6,wj,zb1,trivial⟩ fun x=>by kernel_rfl
def zsa:Ct TS:=⟨[.ptr 1 0,.d (.st 7) 4],(h97 1 2 3),[.l (.st 11),i6,i6,i6,.st 7],.ag [.d .s 8,.d (.l (.s)) 9,.d (.l (.s)) 10,dI 11,dI 12,dI 13,.d .b 14,dI 15,dI 16,dI 17,.d .s 18,.d .s 19,.d (.l (.st 0)) 20,dI 21,dI 22,dI 23,dI 24,dI 25,dI 26,dI 27],h109,k110,false,u5Q JN⟩
theorem zze:HBc 205 zsa:=ctg (cd:=cdT) (nb:=nbT) (rc:=[(4,7000001,0)]) (T:=[(137,Jd),(147,wv),(140,jN),(220,zr9),(177,Jg),(146,Zk),(44,u9 KK),(141,zby)]) (h:=.n) Tryz.func205 rfl zP6 ⟨oE,wh,vA,zzd,Vt,zb1,(zbw KK),zfd,trivial⟩ fun x=>by kernel_rfl
def zsb:Ct TS:=⟨[.ptr 1 0,.d (.l (.s)) 4],(h97 1 2 3),zMg,.ag [.d .s 8,.d (.l (.s)) 9,.d (.l (.s)) 10,dI 11,dI 12,dI 13,.d .b 14,dI 15,dI 16,dI 17,.d .s 18,.d .s 19,.d (.l (.st 0)) 20,dI 21,dI 22,dI 23,dI 24,dI 25,dI 26,dI 27],h109,k110,false,u5Q JO⟩
theorem zzf:HBc 145 zsb:=ctg (cd:=cdT) (nb:=nbT) (rc:=[(4,7000001,0)]) (T:=[(139,Hi),(137,Jd),(204,zr8),(147,wv),(140,jN),(205,zsa)]) (h:=.s .n (.s .n (.s (.j ⟨[(0,.ptr 1 0),(4,.ptr 1000004 0),(5,.ptr 1000005 0)],(zMh 7 8 9 1 2 3 4 5 6 10 2 3 3 3 4),[.l (.st 11),.s,.l (.s),i6,.b,.l (.st 0),.s],zRs⟩ false .n) (.s (.j ⟨[(0,.ptr 1 0),(4,.ptr 1000004 0),(5,.ptr 1000005 0)],(zMh 8 9 10 1 2 3 4 5 6 7 11 3 3 3 4),[.l (.st 11),.s,.l (.s),i6,.b,.l (.st 0),.s,.l (.s)],zRs⟩ false .n) (.s (.j ⟨[(0,.ptr 1 0),(4,.ptr 1000004 0),(5,.ptr 1000005 0)],(zMh 9 10 11 1 2 3 4 5 6 7 8 12 3 3 4),[.l (.st 11),.s,.l (.s),i6,.b,.l (.st 0),.s,.l (.s),.l (.s)],k1⟩ false .n) (.s (.j ⟨[(0,.ptr 1 0),(4,.ptr 1000004 0),(5,.ptr 1000005 0)],(zMh 10 11 12 1 2 3 4 5 6 7 8 9 13 3 4),[.l (.st 11),.s,.l (.s),i6,.b,.l (.st 0),.s,.l (.s),.l (.s),i6],k1⟩ false .n) (.s (.j ⟨[(0,.ptr 1 0),(4,.ptr 1000004 0),(5,.ptr 1000005 0)],(zMh 11 12 13 1 2 3 4 5 6 7 8 9 10 14 4),[.l (.st 11),.s,.l (.s),i6,.b,.l (.st 0),.s,.l (.s),.l (.s),i6,i6],k1⟩ false .n) (.s (.j ⟨[(0,.ptr 1 0),(4,.ptr 1000004 0),(5,.ptr 1000005 0)],(zMh 14 1 2 3 4 5 6 7 8 9 10 11 12 13 15),[.l (.st 11),i6,i6,.s,.l (.s),i6,.b,.l (.st 0),.s,.l (.s),.l (.s),i6,i6,i6],[i6,.b]⟩ false .n) .n)))))))) Tryz.func145 rfl zP7 ⟨Ab,oE,zzb,wh,vA,zze,trivial⟩ fun x=>by kernel_rfl
def Vu:Ct TS:=⟨[],[],[],.d (.l (.s)) 0,[],[.l (.s)],false,fun _=>A8⟩
theorem zc5:HBc 77 Vu:=ctk (T:=[]) (h:=.n) Tryz.func77 rfl hbv77 trivial fun x=>by kernel_rfl
def zme:Ct TS:=⟨[.ptr 1 0],(h97 1 2 3),k9,.ag [dI 7,dI 8,dI 9],[(1,.box 76 [.d (.l (.st 11)) 0,dI 4,dI 5,dI 6]),(7000001,.box 98 [dI 7,dI 8,dI 9])],[i6,i6,i6,i6,i6,i6],false,u4Q ux⟩
theorem zuz:HBc 206 zme:=ctg (cd:=cdT) (nb:=nbT) (rc:=[(2,7000001,0)]) (T:=[(147,wv)]) (h:=.n) Tryz.func206 rfl zP8 ⟨wh,trivial⟩ fun x=>by kernel_rfl
def zsc:Ct TS:=⟨[.ptr 1 0,.d (.l (.s)) 4],(h97 1 2 3),zMg,.ag [.d .s 8,dI 9,dI 10,dI 11,dI 12,.row 3 7000002],[(1,.box 76 [.d (.l (.st 11)) 0,dI 5,dI 6,dI 7]),(7000001,.box 100 [.d .s 8,dI 9,dI 10,dI 11,dI 12,.row 3 7000002]),(7000002,.row 98 (.st 9) 13 false)],[i6,i6,i6,.s,i6,i6,i6,i6,.l (.st 9)],false,u5Q JP⟩
theorem zzg:HBc 148 zsc:=ctg (cd:=cdT) (nb:=nbT) (rc:=[(4,7000001,0)]) (T:=[(139,Hi),(206,zme),(140,jN),(147,wv),(203,vm),(45,vl)]) (h:=.s .n (.s .n (.s .n (.s .n (.s .n (.s (.s (.l ⟨[(0,.ptr 1 0),(4,.ptr 1000004 0),(5,.ptr 1000005 0)],(zRt 9 10 11 1 2 3 4 5 6 7 8 12),[.l (.st 11),.s,i6,.s,i6,i6,i6,i6,.l (.st 9)],zRu⟩ [(0,.ptr 1 0),(4,.ptr 1000004 0),(5,.ptr 1000005 0)] (zRt 9 10 11 1 2 3 4 5 6 7 8 12) zRu 0 (u9Q xH) (.s (.s (.j ⟨[(0,.ptr 1 0),(4,.ptr 1000004 0),(5,.ptr 1000005 0),(26,.d .b 12)],(zRt 1 2 3 4 5 6 7 8 9 10 11 13),[.l (.st 11),i6,i6,i6,.s,i6,.s,i6,i6,i6,i6,.l (.st 9)],[.b,.l (.st 9)]⟩ false .n) .n) (.s (.s (.j ⟨[(0,.ptr 1 0),(4,.ptr 1000004 0),(5,.ptr 1000005 0)],(zRt 1 10 11 2 3 4 5 6 7 8 9 12),[.l (.st 11),i6,.s,i6,.s,i6,i6,i6,i6,.l (.st 9)],[i6,i6,.l (.st 9)]⟩ false .n) .n) .n))) .n) .n)))))) Tryz.func148 rfl zP9 ⟨Ab,zuz,vA,wh,vB,wj,trivial⟩ fun x=>by kernel_rfl
def zzh:Ct TS:=⟨[.ptr 1 0],(h97 1 2 3),k9,.d (.l (.st 9)) 4,(h97 5 6 7),[.l (.st 9),i6,i6,i6],false,u4Q WJ⟩
theorem zD7:HBc 149 zzh:=ctk (T:=[(137,Jd),(203,vm),(45,vl),(202,WX),(147,wv),(140,jN)]) (h:=.s .n (.s .n (.s (.s (.l ⟨[(0,.ptr 1 0),(3,.row 3 7000001)],(zDw 1 2 3 98 9 4),[.l (.st 11)],zRu⟩ [(0,.ptr 1 0),(3,.row 3 7000001)] (zDw 1 2 3 98 9 4) zRu 0 (fun x K v=>vi x K v) (.s (.s (.j ⟨[(0,.ptr 1 0),(3,.row 3 7000001),(12,.d .b 5)],(zDw 1 2 3 98 9 4),[.l (.st 11),i6,i6,i6,.l (.st 9)],[.b]⟩ false .n) .n) (.s (.s (.j ⟨[(0,.ptr 1 0),(3,.row 3 7000001)],(zDw 4 1 2 98 9 3),[.l (.st 11),i6,i6,.l (.st 9)],[i6]⟩ false .n) (.s (.j ⟨[(0,.ptr 1 0),(3,.row 3 7000001)],(zDw 1 3 4 98 9 2),[.l (.st 11),i6,.l (.st 9)],[i6,i6]⟩ false (.s (.j ⟨[(0,.ptr 1 0),(3,.row 3 7000001),(33,.d .b 5)],(zDw 1 2 3 98 9 4),[.l (.st 11),i6,i6,i6,.l (.st 9)],[.b]⟩ false .n) .n)) .n)) .n))) .n) .n))) Tryz.func149 rfl zQa ⟨oE,vB,wj,zbz,wh,vA,trivial⟩ fun x=>by kernel_rfl
def zsd:Ct TS:=⟨[.ptr 1 0],(h97 1 2 3),k9,.ag [.row 6 7000002,.row 3 7000003,.row 3 7000004,.row 20 7000005,.row 4 7000006,.row 6 7000007,.d (.l (.st 9)) 7,dI 8],[(1,.box 76 [.d (.l (.st 11)) 0,dI 4,dI 5,dI 6]),(7000001,.box 31 [.row 6 7000002,.row 3 7000003,.row 3 7000004,.row 20 7000005,.row 4 7000006,.row 6 7000007,.d (.l (.st 9)) 7,dI 8]),(7000002,.row 57 (.st 1) 9 true),(7000003,.row 87 (.st 3) 10 true),(7000004,.row 64 (.st 5) 11 true),(7000005,.row 94 (.st 7) 12 true),(7000006,.row 96 (.st 8) 13 true),(7000007,.row 100 (.st 10) 14 true)],k114,false,u4Q Zd⟩
theorem zzi:HBc 38 zsd:=ctg (cd:=cdT) (nb:=nbL) (rc:=[(2,7000001,0)]) (T:=[(137,Jd),(138,zl7),(98,zl8),(139,Hi),(140,jN),(44,u9 KK),(141,zby),(142,zma),(143,zfe),(144,zmd),(145,zsb),(77,Vu),(146,Zk),(147,wv),(148,zsc),(45,vl),(149,zzh)]) (h:=.s .n (.s .n (.s .n (.s (.s (.l ⟨[(0,.ptr 1 0),(2,.ptr 1000002 0),(3,.ptr 1000003 0),(4,.d .b 12)],(zMi 9 10 11 1 2 13 14 3 4 5 6 7 8 15 16 17 18 19 20),[.l (.st 11),.l (.st 9),i6,.l (.st 1),.l (.st 3),.l (.st 5),.l (.st 7),.l (.st 8),.l (.st 10)],[i6,i6,i6,.b,.l (.st 9),i6,.l (.st 1),.l (.st 3),.l (.st 5),.l (.st 7),.l (.st 8),.l (.st 10)]⟩ [(2,.ptr 1000002 0),(3,.ptr 1000003 0)] (zMi 9 10 11 1 2 12 13 3 4 5 6 7 8 14 15 16 17 18 19) k114 0 (u9Q yx) (.s (.s (.j ⟨[(0,.ptr 1 0),(2,.ptr 1000002 0),(3,.ptr 1000003 0),(4,.d .b 4),(27,.d .b 13)],(zMi 1 2 3 5 6 14 15 7 8 9 10 11 12 16 17 18 19 20 21),[.l (.st 11),i6,i6,i6,.b,.l (.st 9),i6,.l (.st 1),.l (.st 3),.l (.st 5),.l (.st 7),.l (.st 8),.l (.st 10)],k96⟩ false .n) .n) (.s (.s .n (.s .n (.s .n (.s .n (.s (.j ⟨[(0,.ptr 1 0),(2,.ptr 1000002 0),(3,.ptr 1000003 0),(4,.d .b 4),(76,.d .b 15)],(zMi 1 2 3 5 6 16 17 7 8 9 10 11 12 13 14 18 19 20 21),[.l (.st 11),i6,i6,i6,.b,.l (.st 9),i6,.l (.st 1),.l (.st 3),.l (.st 5),.l (.st 7),.l (.st 8),.l (.st 10),.l (.st 1),.l (.st 3)],[.b,.l (.st 9),i6,.l (.st 5),.l (.st 7),.l (.st 8),.l (.st 10)]⟩ false .n) (.s .n (.s .n (.s .n (.s .n (.s .n (.s .n (.s .n (.s .n (.s (.s (.j ⟨[(0,.ptr 1 0),(2,.ptr 1000002 0),(3,.ptr 1000003 0),(4,.d .b 2)],(zMi 1 17 18 3 4 19 20 5 6 7 8 9 10 11 12 13 14 15 16),[.l (.st 11),i6,.b,.l (.st 9),i6,.l (.st 1),.l (.st 3),.l (.st 5),.l (.st 7),.l (.st 8),.l (.st 10),.l (.st 1),.l (.st 3),.l (.st 5),.l (.st 7),.l (.st 8),.l (.st 10)],[i6,i6,.l (.st 9),i6]⟩ false .n) .n) (.s .n (.s (.s (.j ⟨[(0,.ptr 1 0),(2,.ptr 1000002 0),(3,.ptr 1000003 0)],(zMi 1 17 18 2 3 4 19 5 6 7 8 9 10 11 12 13 14 15 16),[.l (.st 11),i6,.l (.st 9),i6,.l (.st 9),.l (.st 1),.l (.st 3),.l (.st 5),.l (.st 7),.l (.st 8),.l (.st 10),.l (.st 1),.l (.st 3),.l (.st 5),.l (.st 7),.l (.st 8),.l (.st 10)],k2⟩ false .n) .n) .n)))))))))))))))) .n))) .n) .n)))) Tryz.func38 rfl hbv38 ⟨oE,zuu,zuv,Ab,vA,(zbw KK),zfd,zuw,zpj,zuy,zzf,zc5,zb1,wh,zzg,wj,zD7,trivial⟩ fun x=>by kernel_rfl
def zmf:Ct TS:=⟨[.d .s 0],[],[.s],.tup [.ag [.row 6 7000002,.row 3 7000003,.row 3 7000004,.row 20 7000005,.row 4 7000006,.row 6 7000007,.d (.l (.st 9)) 3,dI 4],dI 1,dI 2],[(7000001,.box 31 [.row 6 7000002,.row 3 7000003,.row 3 7000004,.row 20 7000005,.row 4 7000006,.row 6 7000007,.d (.l (.st 9)) 3,dI 4]),(7000002,.row 57 (.st 1) 5 true),(7000003,.row 87 (.st 3) 6 true),(7000004,.row 64 (.st 5) 7 true),(7000005,.row 94 (.st 7) 8 true),(7000006,.row 96 (.st 8) 9 true),(7000007,.row 100 (.st 10) 10 true)],k76,false,fun x=>Vm x⟩
theorem zu0:HBc 11 zmf:=ctg (cd:=cdT) (nb:=nbL) (rc:=[(2,7000001,0)]) (T:=[(37,zpi),(38,zsd)]) (h:=.n) Tryz.func11 rfl hbv11 ⟨zr4,zzi,trivial⟩ fun x=>by kernel_rfl
def Vv:Ct TS:=⟨[.d .s 0],[],[.s],.tup [.ag [dI 3,dI 4,.d .s 5,.d .s 6,.d (.l (.st 0)) 7],dI 1,dI 2],(h25 7000001 3 4 5 6 7),k12,false,fun x=>qu x⟩
theorem zc6:HBc 13 Vv:=ctg (cd:=cdT) (nb:=nbT) (rc:=[(2,7000001,0)]) (T:=[(37,zpi),(44,u9 KK),(45,vl),(46,qP KK)]) (h:=.s .n (.s .n (.s .n (.s .n (.s .n (.s (.j ⟨[(2,.ptr 1000002 0),(8,.ptr 1000023 0),(9,.ptr 1000009 0)],(zRv 10 11 5 6 7 8 9),k117,[i6,i6]⟩ false (.s (.j ⟨[(2,.ptr 1000002 0),(8,.ptr 1000023 0),(9,.ptr 1000009 0),(44,.d .b 12)],(zRv 5 6 7 8 9 10 11),k118,[.b]⟩ false .n) .n)) (.s (.j ⟨[(2,.ptr 1000002 0),(8,.ptr 1000023 0),(9,.ptr 1000009 0)],(zRv 10 11 5 6 7 8 9),k117,[i6,i6]⟩ false (.s (.j ⟨[(2,.ptr 1000002 0),(8,.ptr 1000023 0),(9,.ptr 1000009 0),(56,.d .b 12)],(zRv 5 6 7 8 9 10 11),k118,[.b]⟩ false .n) .n)) .n))))))) Tryz.func13 rfl hbv13 ⟨zr4,(zbw KK),wj,(zbx KK),trivial⟩ fun x=>by kernel_rfl
def Ki:Ct TS:=⟨[.d (.l (.st 9)) 0,.d (.l (.st 9)) 1],[],[.l (.st 9),.l (.st 9)],.d .b 2,[],[.b],false,u2Q vw⟩
theorem zb2:HBc 47 Ki:=ctk (T:=[]) (h:=.s .n (.s .n (.s (.s .n (.s (.lr ⟨[(0,.d (.l (.st 9)) 0),(1,.d (.l (.st 9)) 1),(5,dI 2)],[],[.l (.st 9),.l (.st 9)],[i6]⟩ [] [] [] 0 (u2Q ke) .n) .n)) .n))) Tryz.func47 rfl hbv47 trivial fun x=>by kernel_rfl
def wU(RK:Nat):Ct TS:=⟨[.d (.st 0) 0,.d (.st 0) 1],[],[.st 0,.st 0],.d .b 2,[],[.b],false,fun x=>yy RK x.1 x.2⟩
theorem Kj:∀RK,(wU RK).OK PGq 15
 |0=>(fun x r h=>nomatch (show(none:Option _)=some r from h))
 |RK+1=>(ctk (c:=wU (RK+1)) (T:=[(15,wU RK)]) (h:=.s .n (.s (.s (.j ⟨[(2,.ptr 1000002 0),(3,.ptr 1000003 0),(40,.d .b 10)],(h43 1000002 0 1 2 3 4 1000003 5 6 7 8 9),k119,[.b]⟩ false .n) .n) (.s (.s .n (.s (.lr ⟨[(2,.ptr 1000002 0),(3,.ptr 1000003 0),(5,dI 10)],(h43 1000002 0 1 2 3 4 1000003 5 6 7 8 9),k119,[i6]⟩ [] [] [] 0 (fun x K v=>jF (yy RK) x.1 x.2.1 x.2.2.1 x.2.2.2.1 x.2.2.2.2.1 (p5Q x).1 (p6Q x).1 (p7Q x).1 (p8Q x).1 (p9Q x) K v) .n) .n)) .n))) Tryz.func15 rfl zKe ⟨⟨zKe,(Kj RK)⟩,trivial⟩ fun x=>by kernel_rfl).2
theorem Hj(RK:Nat):zd PGq 15∧(wU RK).OK PGq 15:=⟨zKe,(Kj RK)⟩
def Jh:Ct TS:=⟨[.d (.l (.st 2)) 0,.d (.l (.st 2)) 1],[],[.l (.st 2),.l (.st 2)],.d .b 2,[],[.b],false,u2Q jH⟩
theorem YN:HBc 48 Jh:=ctk (T:=[]) (h:=.s .n (.s .n (.s (.s .n (.s (.lr ⟨[(0,.d (.l (.st 2)) 0),(1,.d (.l (.st 2)) 1),(5,dI 2)],[],[.l (.st 2),.l (.st 2)],[i6]⟩ [] [] [] 0 (u2Q jG) .n) .n)) .n))) Tryz.func48 rfl hbv48 trivial fun x=>by kernel_rfl
def Kk:Ct TS:=⟨[.d (.l (.st 4)) 0,.d (.l (.st 4)) 1],[],[.l (.st 4),.l (.st 4)],.d .b 2,[],[.b],false,u2Q vx⟩
theorem zb3:HBc 49 Kk:=ctk (T:=[]) (h:=.s .n (.s .n (.s (.s .n (.s (.lr ⟨[(0,.d (.l (.st 4)) 0),(1,.d (.l (.st 4)) 1),(5,dI 2)],[],[.l (.st 4),.l (.st 4)],[i6]⟩ [] [] [] 0 (u2Q kf) .n) .n)) .n))) Tryz.func49 rfl hbv49 trivial fun x=>by kernel_rfl
def Vw:Ct TS:=⟨[.d (.l (.s)) 0,.d (.l (.s)) 1],[],[.l (.s),.l (.s)],.d .b 2,[],[.b],false,u2Q jI⟩
theorem zc7:HBc 154 Vw:=ctk (T:=[]) (h:=.s .n (.s .n (.s (.s .n (.s (.lr ⟨[(0,.d (.l (.s)) 0),(1,.d (.l (.s)) 1),(5,dI 2)],[],[.l (.s),.l (.s)],[i6]⟩ [] [] [] 0 (u2Q qf) .n) .n)) .n))) Tryz.func154 rfl zQb trivial fun x=>by kernel_rfl
def YF:Ct TS:=⟨[.d (.st 7) 0,.d (.st 7) 1],[],[.st 7,.st 7],.d .b 2,[],[.b],false,u2Q kW⟩
theorem zh6:HBc 50 YF:=ctk (T:=[(154,Vw),(15,wU KK)]) (h:=.s .n (.s (.j ⟨[(2,.ptr 1000002 0),(3,.ptr 1000003 0),(5,.d .b 40)],(h78 0 1 2 3 4 5 6 7 8 9 10 11 12 13 14 15 16 17 18 19 20 21 22 23 24 25 26 27 28 29 30 31 32 33 34 35 36 37 38 39),k79,[.b]⟩ false .n) (.s (.j ⟨[(2,.ptr 1000002 0),(3,.ptr 1000003 0),(5,.d .b 0),(6,.d .b 41)],(h78 1 2 3 4 5 6 7 8 9 10 11 12 13 14 15 16 17 18 19 20 21 22 23 24 25 26 27 28 29 30 31 32 33 34 35 36 37 38 39 40),[.b,.s,.l (.s),.l (.s),i6,i6,i6,.b,i6,i6,i6,.s,.s,.l (.st 0),i6,i6,i6,i6,i6,i6,i6,.s,.l (.s),.l (.s),i6,i6,i6,.b,i6,i6,i6,.s,.s,.l (.st 0),i6,i6,i6,i6,i6,i6,i6],[.b]⟩ false .n) .n))) Tryz.func50 rfl hbv50 ⟨zc7,(Hj KK),trivial⟩ fun x=>by kernel_rfl
def zse:Ct TS:=⟨[.d (.st 14) 0,.d (.st 14) 1],[],[.st 14,.st 14],.d .b 2,[],[.b],false,u2Q A9⟩
theorem zzj:HBc 14 zse:=ctk (T:=[(47,Ki),(15,wU KK),(48,Jh),(49,Kk),(50,YF)]) (h:=.s .n (.s (.s (.j ⟨[(2,.ptr 1000002 0),(3,.ptr 1000003 0),(77,.d .b 16)],(zk3 0 1 2 3 4 5 6 7 8 9 10 11 12 13 14 15),zJ9,[.b]⟩ false .n) .n) (.s (.s .n (.s (.lr ⟨[(2,.ptr 1000002 0),(3,.ptr 1000003 0),(5,dI 16)],(zk3 0 1 2 3 4 5 6 7 8 9 10 11 12 13 14 15),zJ9,[i6]⟩ [(2,.ptr 1000002 0),(3,.ptr 1000003 0)] (zk3 0 1 2 3 4 5 6 7 8 9 10 11 12 13 14 15) [] 0 (zMb uy) (.s .n (.s (.s (.s (.j ⟨[(2,.ptr 1000002 0),(3,.ptr 1000003 0),(5,dI 0),(113,.d .b 17)],(zk3 1 2 3 4 5 6 7 8 9 10 11 12 13 14 15 16),zOl,[.b]⟩ false .n) .n) .n) .n))) .n)) (.s (.s .n (.s (.lr ⟨[(2,.ptr 1000002 0),(3,.ptr 1000003 0),(6,dI 16)],(zk3 0 1 2 3 4 5 6 7 8 9 10 11 12 13 14 15),zJ9,[i6]⟩ [(2,.ptr 1000002 0),(3,.ptr 1000003 0)] (zk3 0 1 2 3 4 5 6 7 8 9 10 11 12 13 14 15) [] 2 (zMb uz) (.s .n (.s (.s (.s (.j ⟨[(2,.ptr 1000002 0),(3,.ptr 1000003 0),(6,dI 0),(164,.d .b 17)],(zk3 1 2 3 4 5 6 7 8 9 10 11 12 13 14 15 16),zOl,[.b]⟩ false .n) .n) .n) .n))) .n)) (.s (.s .n (.s (.lr ⟨[(2,.ptr 1000002 0),(3,.ptr 1000003 0),(7,dI 16)],(zk3 0 1 2 3 4 5 6 7 8 9 10 11 12 13 14 15),zJ9,[i6]⟩ [(2,.ptr 1000002 0),(3,.ptr 1000003 0)] (zk3 0 1 2 3 4 5 6 7 8 9 10 11 12 13 14 15) [] 4 (zMb uA) (.s .n (.s (.s (.s (.j ⟨[(2,.ptr 1000002 0),(3,.ptr 1000003 0),(7,dI 0),(215,.d .b 17)],(zk3 1 2 3 4 5 6 7 8 9 10 11 12 13 14 15 16),zOl,[.b]⟩ false .n) .n) .n) .n))) .n)) (.s (.s .n (.s (.lr ⟨[(2,.ptr 1000002 0),(3,.ptr 1000003 0),(8,dI 16)],(zk3 0 1 2 3 4 5 6 7 8 9 10 11 12 13 14 15),zJ9,[i6]⟩ [(2,.ptr 1000002 0),(3,.ptr 1000003 0)] (zk3 0 1 2 3 4 5 6 7 8 9 10 11 12 13 14 15) [] 6 (zMb kg) .n) .n)) (.s (.s .n (.s (.lr ⟨[(2,.ptr 1000002 0),(3,.ptr 1000003 0),(9,dI 16)],(zk3 0 1 2 3 4 5 6 7 8 9 10 11 12 13 14 15),zJ9,[i6]⟩ [(2,.ptr 1000002 0),(3,.ptr 1000003 0)] (zk3 0 1 2 3 4 5 6 7 8 9 10 11 12 13 14 15) [] 8 (zMb uB) (.s .n (.s (.s (.s (.j ⟨[(2,.ptr 1000002 0),(3,.ptr 1000003 0),(9,dI 0),(300,.d .b 17)],(zk3 1 2 3 4 5 6 7 8 9 10 11 12 13 14 15 16),zOl,[.b]⟩ false .n) .n) .n) .n))) .n)) (.s (.s .n (.s (.lr ⟨[(2,.ptr 1000002 0),(3,.ptr 1000003 0),(10,dI 16)],(zk3 0 1 2 3 4 5 6 7 8 9 10 11 12 13 14 15),zJ9,[i6]⟩ [] [] [] 10 (zMb uC) (.s .n (.s (.s (.s (.j ⟨[(2,.ptr 1000002 0),(3,.ptr 1000003 0),(10,dI 0),(366,.d .b 17)],(zk3 1 2 3 4 5 6 7 8 9 10 11 12 13 14 15 16),zOl,[.b]⟩ false .n) .n) .n) .n))) .n)) .n)))))))) Tryz.func14 rfl hbv14 ⟨zb2,(Hj KK),YN,zb3,zh6,trivial⟩ fun x=>by kernel_rfl
def WY:Ct TS:=⟨[.d .s 0],h5,[.s],.d .b 1,h5,[.b],false,fun x=>vj x⟩
theorem Vx:HBc 3 WY:=ctk (T:=[(9,zbu),(10,zo6),(11,zmf),(12,KS),(13,Vv),(14,zse),(15,wU KK),(16,zaz),(17,zh4)]) (h:=.n) Tryz.func3 rfl hbv3 ⟨zl4,zrz,zu0,Yl,zc6,zzj,(Hj KK),WM,zl9,trivial⟩ fun x=>by kernel_rfl
end Go.Proofs.YtffencjoddkghaaGreatDoor
