/- texts that the proof of SyntaxPrints reaches, part 10 -/
import Derived.Test.YtffencjoddkghaaGreatDoorKi
set_option linter.all false
set_option maxRecDepth 100000
namespace Go.Proofs.YtffencjoddkghaaGreatDoor
open Go Go.RowKit Go.Eng Go.EV Go.EQ
noncomputable abbrev PGq:=Tryz.prog
abbrev i6:TC:=.i .i64
abbrev dI(k:Nat):Tp:=.d i6 k
def u2Q{α0 α1 β:Type}(f:α0→α1→β)(x:α0×α1):β:=f x.1 x.2
def u3Q{α0 α1 α2 β:Type}(f:α0→α1→α2→β)(x:α0×α1×α2):β:=f x.1 x.2.1 x.2.2
def u4Q{α0 α1 α2 α3 β:Type}(f:α0→α1→α2→α3→β)(x:α0×α1×α2×α3):β:=f x.1 x.2.1 x.2.2.1 x.2.2.2
def u7Q{α0 α1 α2 α3 α4 α5 α6 β:Type}(f:α0→α1→α2→α3→α4→α5→α6→β)(x:α0×α1×α2×α3×α4×α5×α6):β:=f x.1 x.2.1 x.2.2.1 x.2.2.2.1 x.2.2.2.2.1 x.2.2.2.2.2.1 x.2.2.2.2.2.2
def u9Q{α0 α1 α2 α3 α4 α5 α6 α7 α8 β:Type}(f:α0→α1→α2→α3→α4→α5→α6→α7→α8→β)(x:α0×α1×α2×α3×α4×α5×α6×α7×α8):β:=f x.1 x.2.1 x.2.2.1 x.2.2.2.1 x.2.2.2.2.1 x.2.2.2.2.2.1 x.2.2.2.2.2.2.1 x.2.2.2.2.2.2.2.1 x.2.2.2.2.2.2.2.2
def u12Q{α0 α1 α2 α3 α4 α5 α6 α7 α8 α9 α10 α11 β:Type}(f:α0→α1→α2→α3→α4→α5→α6→α7→α8→α9→α10→α11→β)(x:α0×α1×α2×α3×α4×α5×α6×α7×α8×α9×α10×α11):β:=f x.1 x.2.1 x.2.2.1 x.2.2.2.1 x.2.2.2.2.1 x.2.2.2.2.2.1 x.2.2.2.2.2.2.1 x.2.2.2.2.2.2.2.1 x.2.2.2.2.2.2.2.2.1 x.2.2.2.2.2.2.2.2.2.1 x.2.2.2.2.2.2.2.2.2.2.1 x.2.2.2.2.2.2.2.2.2.2.2
def u14Q{α0 α1 α2 α3 α4 α5 α6 α7 α8 α9 α10 α11 α12 α13 β:Type}(f:α0→α1→α2→α3→α4→α5→α6→α7→α8→α9→α10→α11→α12→α13→β)(x:α0×α1×α2×α3×α4×α5×α6×α7×α8×α9×α10×α11×α12×α13):β:=f x.1 x.2.1 x.2.2.1 x.2.2.2.1 x.2.2.2.2.1 x.2.2.2.2.2.1 x.2.2.2.2.2.2.1 x.2.2.2.2.2.2.2.1 x.2.2.2.2.2.2.2.2.1 x.2.2.2.2.2.2.2.2.2.1 x.2.2.2.2.2.2.2.2.2.2.1 x.2.2.2.2.2.2.2.2.2.2.2.1 x.2.2.2.2.2.2.2.2.2.2.2.2.1 x.2.2.2.2.2.2.2.2.2.2.2.2.2
def u17Q{α0 α1 α2 α3 α4 α5 α6 α7 α8 α9 α10 α11 α12 α13 α14 α15 α16 β:Type}(f:α0→α1→α2→α3→α4→α5→α6→α7→α8→α9→α10→α11→α12→α13→α14→α15→α16→β)(x:α0×α1×α2×α3×α4×α5×α6×α7×α8×α9×α10×α11×α12×α13×α14×α15×α16):β:=f x.1 x.2.1 x.2.2.1 x.2.2.2.1 x.2.2.2.2.1 x.2.2.2.2.2.1 x.2.2.2.2.2.2.1 x.2.2.2.2.2.2.2.1 x.2.2.2.2.2.2.2.2.1 x.2.2.2.2.2.2.2.2.2.1 x.2.2.2.2.2.2.2.2.2.2.1 x.2.2.2.2.2.2.2.2.2.2.2.1 x.2.2.2.2.2.2.2.2.2.2.2.2.1 x.2.2.2.2.2.2.2.2.2.2.2.2.2.1 x.2.2.2.2.2.2.2.2.2.2.2.2.2.2.1 x.2.2.2.2.2.2.2.2.2.2.2.2.2.2.2.1 x.2.2.2.2.2.2.2.2.2.2.2.2.2.2.2.2
def u22Q{α0 α1 α2 α3 α4 α5 α6 α7 α8 α9 α10 α11 α12 α13 α14 α15 α16 α17 α18 α19 α20 α21 β:Type}(f:α0→α1→α2→α3→α4→α5→α6→α7→α8→α9→α10→α11→α12→α13→α14→α15→α16→α17→α18→α19→α20→α21→β)(x:α0×α1×α2×α3×α4×α5×α6×α7×α8×α9×α10×α11×α12×α13×α14×α15×α16×α17×α18×α19×α20×α21):β:=f x.1 x.2.1 x.2.2.1 x.2.2.2.1 x.2.2.2.2.1 x.2.2.2.2.2.1 x.2.2.2.2.2.2.1 x.2.2.2.2.2.2.2.1 x.2.2.2.2.2.2.2.2.1 x.2.2.2.2.2.2.2.2.2.1 x.2.2.2.2.2.2.2.2.2.2.1 x.2.2.2.2.2.2.2.2.2.2.2.1 x.2.2.2.2.2.2.2.2.2.2.2.2.1 x.2.2.2.2.2.2.2.2.2.2.2.2.2.1 x.2.2.2.2.2.2.2.2.2.2.2.2.2.2.1 x.2.2.2.2.2.2.2.2.2.2.2.2.2.2.2.1 x.2.2.2.2.2.2.2.2.2.2.2.2.2.2.2.2.1 x.2.2.2.2.2.2.2.2.2.2.2.2.2.2.2.2.2.1 x.2.2.2.2.2.2.2.2.2.2.2.2.2.2.2.2.2.2.1 x.2.2.2.2.2.2.2.2.2.2.2.2.2.2.2.2.2.2.2.1 x.2.2.2.2.2.2.2.2.2.2.2.2.2.2.2.2.2.2.2.2.1 x.2.2.2.2.2.2.2.2.2.2.2.2.2.2.2.2.2.2.2.2.2
def p5Q{α0 α1 α2 α3 α4 β:Type}(x:α0×α1×α2×α3×α4×β):β:=x.2.2.2.2.2
def p6Q{α0 α1 α2 α3 α4 α5 β:Type}(x:α0×α1×α2×α3×α4×α5×β):β:=x.2.2.2.2.2.2
def p7Q{α0 α1 α2 α3 α4 α5 α6 β:Type}(x:α0×α1×α2×α3×α4×α5×α6×β):β:=x.2.2.2.2.2.2.2
def p8Q{α0 α1 α2 α3 α4 α5 α6 α7 β:Type}(x:α0×α1×α2×α3×α4×α5×α6×α7×β):β:=x.2.2.2.2.2.2.2.2
def p9Q{α0 α1 α2 α3 α4 α5 α6 α7 α8 β:Type}(x:α0×α1×α2×α3×α4×α5×α6×α7×α8×β):β:=x.2.2.2.2.2.2.2.2.2
def zc4{α0 α1 α2 α3 α4 α5 α6 α7 α8 α9 β:Type}(x:α0×α1×α2×α3×α4×α5×α6×α7×α8×α9×β):β:=x.2.2.2.2.2.2.2.2.2.2
def zc5{α0 α1 α2 α3 α4 α5 α6 α7 α8 α9 α10 β:Type}(x:α0×α1×α2×α3×α4×α5×α6×α7×α8×α9×α10×β):β:=x.2.2.2.2.2.2.2.2.2.2.2
def zc6{α0 α1 α2 α3 α4 α5 α6 α7 α8 α9 α10 α11 β:Type}(x:α0×α1×α2×α3×α4×α5×α6×α7×α8×α9×α10×α11×β):β:=x.2.2.2.2.2.2.2.2.2.2.2.2
def zg0{α0 α1 α2 α3 α4 α5 α6 α7 α8 α9 α10 α11 α12 β:Type}(x:α0×α1×α2×α3×α4×α5×α6×α7×α8×α9×α10×α11×α12×β):β:=x.2.2.2.2.2.2.2.2.2.2.2.2.2
def zg1{α0 α1 α2 α3 α4 α5 α6 α7 α8 α9 α10 α11 α12 α13 β:Type}(x:α0×α1×α2×α3×α4×α5×α6×α7×α8×α9×α10×α11×α12×α13×β):β:=x.2.2.2.2.2.2.2.2.2.2.2.2.2.2
def zlb{α0 α1 α2 α3 α4 α5 α6 α7 α8 α9 α10 α11 α12 α13 α14 β:Type}(x:α0×α1×α2×α3×α4×α5×α6×α7×α8×α9×α10×α11×α12×α13×α14×β):β:=x.2.2.2.2.2.2.2.2.2.2.2.2.2.2.2
def zzr{α0 α1 α2 α3 α4 α5 α6 α7 α8 α9 α10 α11 α12 α13 α14 α15 β:Type}(x:α0×α1×α2×α3×α4×α5×α6×α7×α8×α9×α10×α11×α12×α13×α14×α15×β):β:=x.2.2.2.2.2.2.2.2.2.2.2.2.2.2.2.2
def zzs{α0 α1 α2 α3 α4 α5 α6 α7 α8 α9 α10 α11 α12 α13 α14 α15 α16 β:Type}(x:α0×α1×α2×α3×α4×α5×α6×α7×α8×α9×α10×α11×α12×α13×α14×α15×α16×β):β:=x.2.2.2.2.2.2.2.2.2.2.2.2.2.2.2.2.2
def zEh{α0 α1 α2 α3 α4 α5 α6 α7 α8 α9 α10 α11 α12 α13 α14 α15 α16 α17 β:Type}(x:α0×α1×α2×α3×α4×α5×α6×α7×α8×α9×α10×α11×α12×α13×α14×α15×α16×α17×β):β:=x.2.2.2.2.2.2.2.2.2.2.2.2.2.2.2.2.2.2
def zEi{α0 α1 α2 α3 α4 α5 α6 α7 α8 α9 α10 α11 α12 α13 α14 α15 α16 α17 α18 β:Type}(x:α0×α1×α2×α3×α4×α5×α6×α7×α8×α9×α10×α11×α12×α13×α14×α15×α16×α17×α18×β):β:=x.2.2.2.2.2.2.2.2.2.2.2.2.2.2.2.2.2.2.2
def zIl{α0 α1 α2 α3 α4 α5 α6 α7 α8 α9 α10 α11 α12 α13 α14 α15 α16 α17 α18 α19 β:Type}(x:α0×α1×α2×α3×α4×α5×α6×α7×α8×α9×α10×α11×α12×α13×α14×α15×α16×α17×α18×α19×β):β:=x.2.2.2.2.2.2.2.2.2.2.2.2.2.2.2.2.2.2.2.2
def p21Q{α0 α1 α2 α3 α4 α5 α6 α7 α8 α9 α10 α11 α12 α13 α14 α15 α16 α17 α18 α19 α20 β:Type}(x:α0×α1×α2×α3×α4×α5×α6×α7×α8×α9×α10×α11×α12×α13×α14×α15×α16×α17×α18×α19×α20×β):β:=x.2.2.2.2.2.2.2.2.2.2.2.2.2.2.2.2.2.2.2.2.2
def p22Q{α0 α1 α2 α3 α4 α5 α6 α7 α8 α9 α10 α11 α12 α13 α14 α15 α16 α17 α18 α19 α20 α21 β:Type}(x:α0×α1×α2×α3×α4×α5×α6×α7×α8×α9×α10×α11×α12×α13×α14×α15×α16×α17×α18×α19×α20×α21×β):β:=x.2.2.2.2.2.2.2.2.2.2.2.2.2.2.2.2.2.2.2.2.2.2
def p23Q{α0 α1 α2 α3 α4 α5 α6 α7 α8 α9 α10 α11 α12 α13 α14 α15 α16 α17 α18 α19 α20 α21 α22 β:Type}(x:α0×α1×α2×α3×α4×α5×α6×α7×α8×α9×α10×α11×α12×α13×α14×α15×α16×α17×α18×α19×α20×α21×α22×β):β:=x.2.2.2.2.2.2.2.2.2.2.2.2.2.2.2.2.2.2.2.2.2.2.2
def p24Q{α0 α1 α2 α3 α4 α5 α6 α7 α8 α9 α10 α11 α12 α13 α14 α15 α16 α17 α18 α19 α20 α21 α22 α23 β:Type}(x:α0×α1×α2×α3×α4×α5×α6×α7×α8×α9×α10×α11×α12×α13×α14×α15×α16×α17×α18×α19×α20×α21×α22×α23×β):β:=x.2.2.2.2.2.2.2.2.2.2.2.2.2.2.2.2.2.2.2.2.2.2.2.2
def p25Q{α0 α1 α2 α3 α4 α5 α6 α7 α8 α9 α10 α11 α12 α13 α14 α15 α16 α17 α18 α19 α20 α21 α22 α23 α24 β:Type}(x:α0×α1×α2×α3×α4×α5×α6×α7×α8×α9×α10×α11×α12×α13×α14×α15×α16×α17×α18×α19×α20×α21×α22×α23×α24×β):β:=x.2.2.2.2.2.2.2.2.2.2.2.2.2.2.2.2.2.2.2.2.2.2.2.2.2
def p26Q{α0 α1 α2 α3 α4 α5 α6 α7 α8 α9 α10 α11 α12 α13 α14 α15 α16 α17 α18 α19 α20 α21 α22 α23 α24 α25 β:Type}(x:α0×α1×α2×α3×α4×α5×α6×α7×α8×α9×α10×α11×α12×α13×α14×α15×α16×α17×α18×α19×α20×α21×α22×α23×α24×α25×β):β:=x.2.2.2.2.2.2.2.2.2.2.2.2.2.2.2.2.2.2.2.2.2.2.2.2.2.2
def p27Q{α0 α1 α2 α3 α4 α5 α6 α7 α8 α9 α10 α11 α12 α13 α14 α15 α16 α17 α18 α19 α20 α21 α22 α23 α24 α25 α26 β:Type}(x:α0×α1×α2×α3×α4×α5×α6×α7×α8×α9×α10×α11×α12×α13×α14×α15×α16×α17×α18×α19×α20×α21×α22×α23×α24×α25×α26×β):β:=x.2.2.2.2.2.2.2.2.2.2.2.2.2.2.2.2.2.2.2.2.2.2.2.2.2.2.2
def p28Q{α0 α1 α2 α3 α4 α5 α6 α7 α8 α9 α10 α11 α12 α13 α14 α15 α16 α17 α18 α19 α20 α21 α22 α23 α24 α25 α26 α27 β:Type}(x:α0×α1×α2×α3×α4×α5×α6×α7×α8×α9×α10×α11×α12×α13×α14×α15×α16×α17×α18×α19×α20×α21×α22×α23×α24×α25×α26×α27×β):β:=x.2.2.2.2.2.2.2.2.2.2.2.2.2.2.2.2.2.2.2.2.2.2.2.2.2.2.2.2
variable[AK]
theorem kmp{a b:Prop}(h:a=b)(x:a):b:=h▸x
theorem zxc{n:Int}(h0:0≤n)(h1:n<256):(((UInt8.ofNat (Int.toNat n)).toNat:Nat):Int)=n:=by
 rw[UInt8.toNat_ofNat'];omega
theorem zGc{T:Nat}(hT:zo6 T)(s:List UInt8)(n:Int)(r:List UInt8)(h:zzo s n=some r):FnA PGq 168 [.ptr 1 0 0,.int .u8 n] [(1,sb T s)] .nili [(1,sb T r)]:=by
 obtain⟨_,h1,h2⟩:=bind_some h;obtain⟨g1,g2,g3⟩:=yD h1;cases h2;have:=zwv hT 1 s (UInt8.ofNat (Int.toNat n)) g3;rw[zxc g1 g2]at this;exact this
def k1:List TC:=[i6,i6,i6,i6]
def k2:List TC:=[i6,i6,i6]
def k3:List TC:=[i6,.s,i6,i6]
def k4:List TC:=[.l (.st 1),.l (.st 3),.l (.st 5),.l (.st 7),.l (.st 8),.l (.st 10),.l (.st 9),i6]
def h5:List (Nat×TO):=[(900000000,.rw 1),(900000001,.rw 2),(900000002,.rw 3),(900000003,.rw 4)]
def h6(v0 v1 v2 v3 v4:Nat):List (Nat×TO):=[(900000000,.rw 1),(900000001,.rw 2),(900000002,.rw 3),(900000003,.rw 4),(v0,.box 51 [dI v1,.d .s v2,dI v3,dI v4])]
def k7:List TC:=[.l (.st 11),i6,i6]
def h8(v0:Nat):List (Nat×TO):=[(1,.box 67 [.d (.l (.st 11)) 0,dI v0])]
def k9:List TC:=[.l (.st 11),i6,i6,i6]
def h10(v0:Nat):List (Nat×TO):=[(1,.box 67 [.d (.l (.st 11)) 0,dI v0]),(900000000,.rw 1),(900000001,.rw 2),(900000002,.rw 3),(900000003,.rw 4)]
def h11(v0 v1 v2 v3 v4 v5 v6:Nat):List (Nat×TO):=[(1,.box 67 [.d (.l (.st 11)) 0,dI v0]),(900000000,.rw 1),(900000001,.rw 2),(900000002,.rw 3),(900000003,.rw 4),(v1,.box 37 [dI v2,dI v3,.d .s v4,.d .s v5,.d (.l (.st 0)) v6])]
def k12:List TC:=[i6,i6,i6,i6,.s,.s,.l (.st 0)]
def k13:List TC:=[i6,i6,i6,.s,.s,.l (.st 0)]
def k14:List TC:=[.l (.st 11),i6,i6,.s,.l (.st 0)]
def h15:List (Nat×TO):=[(1,.box 67 [.d (.l (.st 11)) 0,dI 5]),(900000000,.rw 1),(900000001,.rw 2),(900000002,.rw 3),(900000003,.rw 4),(1000004,.box 37 [dI 2,dI 2,.d .s 3,.d .s 3,.d (.l (.st 0)) 4]),(1000005,.box 37 [dI 7,dI 8,.d .s 9,.d .s 10,.d (.l (.st 0)) 11])]
def h16(v0 v1 v2 v3 v4 v5 v6 v7 v8 v9 v10:Nat):List (Nat×TO):=[(1,.box 67 [.d (.l (.st 11)) 0,dI 1]),(900000000,.rw 1),(900000001,.rw 2),(900000002,.rw 3),(900000003,.rw 4),(1000004,.box 37 [dI v0,dI v0,.d .s v1,.d .s v1,.d (.l (.st 0)) v2]),(1000005,.box 37 [dI v3,dI v4,.d .s v5,.d .s v6,.d (.l (.st 0)) v7]),(1000007,.box 184 [.d .s v8,dI v9,dI v10])]
def k17:List TC:=[.l (.st 11),i6,i6,i6,.l (.st 12),i6,i6,.s,.l (.st 0),i6,i6,.s,.s,.l (.st 0)]
def k18:List TC:=[.l (.st 11),i6,i6,i6,.l (.st 12),i6,i6,i6,.s,.l (.st 0),i6,i6,.s,.s,.l (.st 0)]
def k19:List TC:=[.l (.st 11),i6,i6,i6,.s,.l (.st 0),i6,i6,.s,.s,.l (.st 0),.s,i6,i6]
def h20(v0 v1 v2 v3 v4 v5:Nat):List (Nat×TO):=[(1,.box 67 [.d (.l (.st 11)) 0,dI v0]),(2,.box 78 [.ptr 1 0]),(3,.box 37 [dI v1,dI v2,.d .s v3,.d .s v4,.d (.l (.st 0)) v5])]
def k21:List TC:=[.l (.st 11),i6,i6,i6,.s,.s,.l (.st 0)]
def k22:List TC:=[i6,i6,i6,i6,i6,.s,.s,.l (.st 0)]
def h23(v0 v1 v2 v3 v4 v5:Nat):List (Nat×TO):=[(900000000,.rw 1),(900000001,.rw 2),(900000002,.rw 3),(900000003,.rw 4),(v0,.box 37 [dI v1,dI v2,.d .s v3,.d .s v4,.d (.l (.st 0)) v5])]
def h24(v0 v1 v2 v3 v4 v5:Nat):List (Nat×TO):=[(900000000,.rw 1),(900000001,.rw 2),(900000002,.rw 3),(900000003,.rw 4),(1000002,.box 37 [dI v0,dI v1,.d .s v2,.d .s v3,.d (.l (.st 0)) v4]),(1000005,.box 37 [dI v0,dI 7,.d .s 8,.d .s v5,.d (.l (.st 0)) v4])]
def h25(v0 v1 v2 v3 v4 v5:Nat):List (Nat×TO):=[(v0,.box 37 [dI v1,dI v2,.d .s v3,.d .s v4,.d (.l (.st 0)) v5])]
def h26(v0 v1:Nat):List (Nat×TO):=[(1,.gn v0 (.s) v1),(900000000,.rw 1),(900000001,.rw 2),(900000002,.rw 3),(900000003,.rw 4)]
def h27:List (Nat×TO):=[(1,.gn 0 (.s) 7),(900000000,.rw 1),(900000001,.rw 2),(900000002,.rw 3),(900000003,.rw 4),(1000004,.box 37 [dI 1,dI 2,.d .s 3,.d .s 4,.d (.l (.st 0)) 5]),(1000090,.row 9 (.s) 6 false)]
def h28:List (Nat×TO):=[(1,.gn 0 (.s) 0),(900000000,.rw 1),(900000001,.rw 2),(900000002,.rw 3),(900000003,.rw 4),(1000004,.box 37 [dI 3,dI 4,.d .s 5,.d .s 6,.d (.l (.st 0)) 7])]
def h29(v0 v1 v2 v3 v4 v5 v6 v7 v8 v9 v10 v11 v12 v13 v14 v15:Nat):List (Nat×TO):=[(1,.box 71 [.d (.l (.st 11)) 0,dI v0,.row 6 2,.row 3 3,.row 3 4,.row 20 5,.row 4 6,.row 6 7,.nrow 3 8,dI v1,.om 9,.om 10,.om 11,.om 12,.om 13,.om 14,.d .b v2]),(2,.row 57 (.st 1) v3 false),(3,.row 87 (.st 3) v4 false),(4,.row 64 (.st 5) v5 false),(5,.row 94 (.st 7) v6 false),(6,.row 96 (.st 8) v7 false),(7,.row 100 (.st 10) v8 false),(8,.row 98 (.st 9) v9 false),(9,.gn 7 (.l (.m (.s) (.b))) v10),(10,.gn 7 (.l (.m (.s) (.b))) v11),(11,.gn 7 (.l (.m (.s) (.b))) v12),(12,.gn 7 (.l (.m (.s) (.b))) v13),(13,.gn 7 (.l (.m (.s) (.b))) v14),(14,.gn 7 (.l (.m (.s) (.b))) v15)]
def k30:List TC:=[.l (.st 11),i6,.l (.st 1),.l (.st 3),.l (.st 5),.l (.st 7),.l (.st 8),.l (.st 10),.l (.st 9),i6,.l (.m (.s) (.b)),.l (.m (.s) (.b)),.l (.m (.s) (.b)),.l (.m (.s) (.b)),.l (.m (.s) (.b)),.l (.m (.s) (.b)),.b]
def h31(v0 v1 v2 v3 v4:Nat):List (Nat×TO):=[(v0,.box 51 [dI v1,.d .s v2,dI v3,dI v4])]
def k32:List TC:=[.l (.st 11),i6,.l (.st 1),.l (.st 3),.l (.st 5),.l (.st 7),.l (.st 8),.l (.st 10),.l (.st 9),i6,.l (.m (.s) (.b)),.l (.m (.s) (.b)),.l (.m (.s) (.b)),.l (.m (.s) (.b)),.l (.m (.s) (.b)),.l (.m (.s) (.b)),.b,.b,i6]
def k33:List TC:=[.l (.st 11),i6,.l (.st 1),.l (.st 3),.l (.st 5),.l (.st 7),.l (.st 8),.l (.st 10),.l (.st 9),i6,.l (.m (.s) (.b)),.l (.m (.s) (.b)),.l (.m (.s) (.b)),.l (.m (.s) (.b)),.l (.m (.s) (.b)),.l (.m (.s) (.b)),.b,i6,i6]
def k34:List TC:=[.s,i6,.l (.m (.s) (.b))]
def h35(v0 v1 v2 v3 v4 v5 v6 v7 v8 v9 v10:Nat):List (Nat×TO):=[(1,.box 71 [.d (.l (.st 11)) 0,dI v0,.row 6 2,.row 3 3,.row 3 4,.row 20 5,.row 4 6,.row 6 7,.nrow 3 8,dI v1,.om v2,.om 10,.om 11,.om 12,.om 13,.om 14,.d .b v3]),(2,.row 57 (.st 1) v4 false),(3,.row 87 (.st 3) v5 false),(4,.row 64 (.st 5) v6 false),(5,.row 94 (.st 7) v7 false),(6,.row 96 (.st 8) v8 false),(7,.row 100 (.st 10) v9 false),(8,.row 98 (.st 9) v10 false),(9,.rw 0),(10,.gn 7 (.l (.m (.s) (.b))) 11),(11,.gn 7 (.l (.m (.s) (.b))) 12),(12,.gn 7 (.l (.m (.s) (.b))) 13),(13,.gn 7 (.l (.m (.s) (.b))) 14),(14,.gn 7 (.l (.m (.s) (.b))) 15)]
def h36(v0 v1:Nat):List (Nat×TO):=[(v0,.gn 7 (.l (.m (.s) (.b))) v1)]
def k37:List TC:=[.l (.st 11),i6,i6,.b,.l (.st 1),.l (.st 3),.l (.st 5),.l (.st 7),.l (.st 8),.l (.st 10),.l (.st 9),.l (.m (.s) (.b)),.l (.m (.s) (.b)),.l (.m (.s) (.b)),.l (.m (.s) (.b)),.l (.m (.s) (.b)),i6]
def k38:List TC:=[.l (.st 11),i6,.l (.st 1),.l (.st 3),.l (.st 5),.l (.st 7),.l (.st 8),.l (.st 10),.l (.st 9),i6,.l (.m (.s) (.b)),.l (.m (.s) (.b)),.l (.m (.s) (.b)),.l (.m (.s) (.b)),.l (.m (.s) (.b)),.l (.m (.s) (.b)),.b,.s]
def k39:List TC:=[.l (.st 11),i6,i6,.b,.l (.st 1),.l (.st 3),.l (.st 5),.l (.st 7),.l (.st 8),.l (.st 10),.l (.st 9),.l (.m (.s) (.b)),.l (.m (.s) (.b)),.l (.m (.s) (.b)),.l (.m (.s) (.b)),.l (.m (.s) (.b)),.l (.m (.s) (.b)),i6]
def k40:List TC:=[.l (.st 11),i6,.l (.st 1),.l (.st 3),.l (.st 5),.l (.st 7),.l (.st 8),.l (.st 10),.l (.st 9),i6,.l (.m (.s) (.b)),.l (.m (.s) (.b)),.l (.m (.s) (.b)),.l (.m (.s) (.b)),.l (.m (.s) (.b)),.l (.m (.s) (.b)),.b,i6]
def k41:List TC:=[.l (.st 11),i6,.b,.l (.st 1),.l (.st 3),.l (.st 5),.l (.st 7),.l (.st 8),.l (.st 10),.l (.st 9),.l (.m (.s) (.b)),.l (.m (.s) (.b)),.l (.m (.s) (.b)),.l (.m (.s) (.b)),.l (.m (.s) (.b)),.l (.m (.s) (.b)),i6,i6,.s,.l (.st 0)]
def k42:List TC:=[.l (.st 11),i6,.b,.l (.st 1),.l (.st 3),.l (.st 5),.l (.st 7),.l (.st 8),.l (.st 10),.l (.st 9),.l (.m (.s) (.b)),.l (.m (.s) (.b)),.l (.m (.s) (.b)),.l (.m (.s) (.b)),.l (.m (.s) (.b)),.l (.m (.s) (.b)),i6,.s,.l (.st 0)]
def h43(v0 v1 v2 v3 v4 v5 v6 v7 v8 v9 v10 v11:Nat):List (Nat×TO):=[(v0,.box 37 [dI v1,dI v2,.d .s v3,.d .s v4,.d (.l (.st 0)) v5]),(v6,.box 37 [dI v7,dI v8,.d .s v9,.d .s v10,.d (.l (.st 0)) v11])]
def h44(v0 v1 v2 v3 v4 v5 v6 v7 v8 v9 v10:Nat):List (Nat×TO):=[(1000004,.box 37 [dI v0,dI v0,.d .s v1,.d .s v1,.d (.l (.st 0)) v2]),(1000005,.box 37 [dI v3,dI v4,.d .s v5,.d .s v6,.d (.l (.st 0)) v7]),(1000007,.box 184 [.d .s v8,dI v9,dI v10])]
def k45:List TC:=[.l (.st 11),i6,i6,.b,.l (.st 1),.l (.st 3),.l (.st 5),.l (.st 7),.l (.st 8),.l (.st 10),.l (.st 9),.l (.m (.s) (.b)),.l (.m (.s) (.b)),.l (.m (.s) (.b)),.l (.m (.s) (.b)),.l (.m (.s) (.b)),.l (.m (.s) (.b)),i6,i6,.l (.st 12),i6,i6,.s,.l (.st 0),i6,i6,.s,.s,.l (.st 0)]
def k46:List TC:=[.l (.st 11),i6,i6,.b,.l (.st 1),.l (.st 3),.l (.st 5),.l (.st 7),.l (.st 8),.l (.st 10),.l (.st 9),.l (.m (.s) (.b)),.l (.m (.s) (.b)),.l (.m (.s) (.b)),.l (.m (.s) (.b)),.l (.m (.s) (.b)),.l (.m (.s) (.b)),i6,i6,.l (.st 12),i6,i6,i6,.s,.l (.st 0),i6,i6,.s,.s,.l (.st 0)]
def k47:List TC:=[.l (.st 11),i6,i6,.b,.l (.st 1),.l (.st 3),.l (.st 5),.l (.st 7),.l (.st 8),.l (.st 10),.l (.st 9),.l (.m (.s) (.b)),.l (.m (.s) (.b)),.l (.m (.s) (.b)),.l (.m (.s) (.b)),.l (.m (.s) (.b)),.l (.m (.s) (.b)),i6,i6,.s,.l (.st 0),i6,i6,.s,.s,.l (.st 0),.s,i6,i6]
def h48(v0 v1 v2 v3 v4 v5 v6 v7 v8 v9 v10 v11 v12 v13 v14 v15:Nat):List (Nat×TO):=[(1,.box 71 [.d (.l (.st 11)) 0,dI v0,.row 6 2,.row 3 3,.row 3 4,.row 20 5,.row 4 6,.row 6 7,.nrow 3 8,dI v1,.om 9,.om v2,.om 11,.om 12,.om 13,.om 14,.d .b v3]),(2,.row 57 (.st 1) v4 false),(3,.row 87 (.st 3) v5 false),(4,.row 64 (.st 5) v6 false),(5,.row 94 (.st 7) v7 false),(6,.row 96 (.st 8) v8 false),(7,.row 100 (.st 10) v9 false),(8,.row 98 (.st 9) v10 false),(9,.gn 7 (.l (.m (.s) (.b))) v11),(10,.rw 0),(11,.gn 7 (.l (.m (.s) (.b))) v12),(12,.gn 7 (.l (.m (.s) (.b))) v13),(13,.gn 7 (.l (.m (.s) (.b))) v14),(14,.gn 7 (.l (.m (.s) (.b))) v15)]
def h49(v0 v1:Nat):List (Nat×TO):=[(1,.box 71 [.d (.l (.st 11)) 0,dI v0,.row 6 2,.row 3 3,.row 3 4,.row 20 5,.row 4 6,.row 6 7,.nrow 3 8,dI 9,.om 9,.om 10,.om 11,.om 12,.om 13,.om 14,.d .b 16]),(2,.row 57 (.st 1) 2 false),(3,.row 87 (.st 3) 3 false),(4,.row 64 (.st 5) 4 false),(5,.row 94 (.st 7) 5 false),(6,.row 96 (.st 8) 6 false),(7,.row 100 (.st 10) 7 false),(8,.row 98 (.st 9) 8 false),(9,.gn 7 (.l (.m (.s) (.b))) 10),(10,.gn 7 (.l (.m (.s) (.b))) 11),(11,.gn 7 (.l (.m (.s) (.b))) 12),(12,.gn 7 (.l (.m (.s) (.b))) 13),(13,.gn 7 (.l (.m (.s) (.b))) 14),(14,.gn 7 (.l (.m (.s) (.b))) 15),(15,.map (.s) (.b) v1)]
def k50:List TC:=[.l (.st 11),i6,.l (.st 1),.l (.st 3),.l (.st 5),.l (.st 7),.l (.st 8),.l (.st 10),.l (.st 9),i6,.l (.m (.s) (.b)),.l (.m (.s) (.b)),.l (.m (.s) (.b)),.l (.m (.s) (.b)),.l (.m (.s) (.b)),.l (.m (.s) (.b)),.b,.m (.s) (.b)]
def h51:List (Nat×TO):=[(103000500,.gn 7 (.l (.m (.s) (.b))) 15),(1000002,.box 87 [.d .s 16,.row 2 1001000002001,dI 17]),(1000007,.map (.s) (.b) 19),(1001000002001,.row 119 (.st 2) 20 false)]
def k52:List TC:=[.l (.st 11),i6,.b,.l (.st 1),.l (.st 3),.l (.st 5),.l (.st 7),.l (.st 8),.l (.st 10),.l (.st 9),.l (.m (.s) (.b)),.l (.m (.s) (.b)),.l (.m (.s) (.b)),.l (.m (.s) (.b)),.l (.m (.s) (.b)),.l (.m (.s) (.b)),.s,i6]
def h53:List (Nat×TO):=[(103000500,.gn 7 (.l (.m (.s) (.b))) 15),(1000002,.box 87 [.d .s 16,.row 2 1001000002001,dI 17]),(1001000002001,.row 119 (.st 2) 19 false)]
def h54(v0 v1 v2 v3 v4 v5 v6 v7 v8 v9 v10 v11 v12:Nat):List (Nat×TO):=[(1,.box 71 [.d (.l (.st 11)) 0,dI v0,.row 6 2,.row 3 3,.row 3 4,.row 20 5,.row 4 6,.row 6 7,.nrow 3 8,dI v1,.om 9,.om 10,.om v2,.om 12,.om 13,.om 14,.d .b v3]),(2,.row 57 (.st 1) v4 false),(3,.row 87 (.st 3) v5 false),(4,.row 64 (.st 5) v6 false),(5,.row 94 (.st 7) v7 false),(6,.row 96 (.st 8) v8 false),(7,.row 100 (.st 10) v9 false),(8,.row 98 (.st 9) v10 false),(9,.gn 7 (.l (.m (.s) (.b))) v11),(10,.gn 7 (.l (.m (.s) (.b))) v12),(11,.rw 0),(12,.gn 7 (.l (.m (.s) (.b))) 13),(13,.gn 7 (.l (.m (.s) (.b))) 14),(14,.gn 7 (.l (.m (.s) (.b))) 15)]
def k55:List TC:=[.l (.st 11),i6,.b,.l (.st 1),.l (.st 3),.l (.st 5),.l (.st 7),.l (.st 8),.l (.st 10),.l (.st 9),.l (.m (.s) (.b)),.l (.m (.s) (.b)),.l (.m (.s) (.b)),.l (.m (.s) (.b)),.l (.m (.s) (.b)),.l (.m (.s) (.b))]
def h56(v0 v1 v2 v3 v4 v5 v6 v7 v8 v9 v10 v11 v12 v13 v14 v15:Nat):List (Nat×TO):=[(1,.box 71 [.d (.l (.st 11)) 0,dI v0,.row 6 2,.row 3 3,.row 3 4,.row 20 5,.row 4 6,.row 6 7,.nrow 3 8,dI v1,.om 9,.om 10,.om 11,.om v2,.om 13,.om 14,.d .b v3]),(2,.row 57 (.st 1) v4 false),(3,.row 87 (.st 3) v5 false),(4,.row 64 (.st 5) v6 false),(5,.row 94 (.st 7) v7 false),(6,.row 96 (.st 8) v8 false),(7,.row 100 (.st 10) v9 false),(8,.row 98 (.st 9) v10 false),(9,.gn 7 (.l (.m (.s) (.b))) v11),(10,.gn 7 (.l (.m (.s) (.b))) v12),(11,.gn 7 (.l (.m (.s) (.b))) v13),(12,.rw 0),(13,.gn 7 (.l (.m (.s) (.b))) v14),(14,.gn 7 (.l (.m (.s) (.b))) v15)]
def h57(v0 v1:Nat):List (Nat×TO):=[(v0,.row 9 (.s) v1 false)]
def k58:List TC:=[.l (.st 11),i6,i6,.b,.l (.st 1),.l (.st 3),.l (.st 5),.l (.st 7),.l (.st 8),.l (.st 10),.l (.st 9),.l (.m (.s) (.b)),.l (.m (.s) (.b)),.l (.m (.s) (.b)),.l (.m (.s) (.b)),.l (.m (.s) (.b)),.l (.m (.s) (.b)),i6,i6]
def h59(v0 v1 v2 v3 v4 v5 v6 v7 v8 v9 v10 v11 v12 v13 v14 v15 v16 v17 v18:Nat):List (Nat×TO):=[(103000400,.gn 7 (.l (.m (.s) (.b))) 15),(1000002,.box 94 [.d .s 16,.d (.l (.s)) v0,.d (.l (.s)) v1,dI v2,dI v3,dI v4,.d .b v5,dI v6,dI v7,dI v8,.d .s v9,.d .s v10,.d (.l (.st 0)) v11,dI v12,dI v13,dI v14,dI v15,dI v16,dI v17,dI v18])]
def k60:List TC:=[.l (.st 11),i6,.b,.l (.st 1),.l (.st 3),.l (.st 5),.l (.st 7),.l (.st 8),.l (.st 10),.l (.st 9),.l (.m (.s) (.b)),.l (.m (.s) (.b)),.l (.m (.s) (.b)),.l (.m (.s) (.b)),.l (.m (.s) (.b)),.l (.m (.s) (.b)),.s,.l (.s),i6,.b,.s,.l (.st 0)]
def k61:List TC:=[.l (.st 11),i6,.b,.l (.st 1),.l (.st 3),.l (.st 5),.l (.st 7),.l (.st 8),.l (.st 10),.l (.st 9),.l (.m (.s) (.b)),.l (.m (.s) (.b)),.l (.m (.s) (.b)),.l (.m (.s) (.b)),.l (.m (.s) (.b)),.l (.m (.s) (.b)),.s,.l (.s),.l (.s),i6,.b,.s,.l (.st 0)]
def k62:List TC:=[.l (.st 11),i6,.b,.l (.st 1),.l (.st 3),.l (.st 5),.l (.st 7),.l (.st 8),.l (.st 10),.l (.st 9),.l (.m (.s) (.b)),.l (.m (.s) (.b)),.l (.m (.s) (.b)),.l (.m (.s) (.b)),.l (.m (.s) (.b)),.l (.m (.s) (.b)),.s,.l (.s),.l (.s),i6,i6,.b,.s,.l (.st 0)]
def k63:List TC:=[.l (.st 11),i6,.b,.l (.st 1),.l (.st 3),.l (.st 5),.l (.st 7),.l (.st 8),.l (.st 10),.l (.st 9),.l (.m (.s) (.b)),.l (.m (.s) (.b)),.l (.m (.s) (.b)),.l (.m (.s) (.b)),.l (.m (.s) (.b)),.l (.m (.s) (.b)),.s,.l (.s),.l (.s),i6,i6,.b,i6,.s,.l (.st 0)]
def k64:List TC:=[.l (.st 11),i6,.b,.l (.st 1),.l (.st 3),.l (.st 5),.l (.st 7),.l (.st 8),.l (.st 10),.l (.st 9),.l (.m (.s) (.b)),.l (.m (.s) (.b)),.l (.m (.s) (.b)),.l (.m (.s) (.b)),.l (.m (.s) (.b)),.l (.m (.s) (.b)),.s,.l (.s),.l (.s),i6,i6,i6,.b]
def k65:List TC:=[i6,i6,i6,i6,.s,.s,.l (.st 0),i6,i6,i6,i6,i6,i6,i6]
def h66(v0 v1 v2 v3 v4 v5 v6 v7 v8 v9 v10 v11 v12 v13 v14:Nat):List (Nat×TO):=[(1,.box 71 [.d (.l (.st 11)) 0,dI v0,.row 6 2,.row 3 3,.row 3 4,.row 20 5,.row 4 6,.row 6 7,.nrow 3 8,dI v1,.om 9,.om 10,.om 11,.om 12,.om v2,.om 14,.d .b v3]),(2,.row 57 (.st 1) v4 false),(3,.row 87 (.st 3) v5 false),(4,.row 64 (.st 5) v6 false),(5,.row 94 (.st 7) v7 false),(6,.row 96 (.st 8) v8 false),(7,.row 100 (.st 10) v9 false),(8,.row 98 (.st 9) v10 false),(9,.gn 7 (.l (.m (.s) (.b))) v11),(10,.gn 7 (.l (.m (.s) (.b))) v12),(11,.gn 7 (.l (.m (.s) (.b))) v13),(12,.gn 7 (.l (.m (.s) (.b))) v14),(13,.rw 0),(14,.gn 7 (.l (.m (.s) (.b))) 15)]
def h67(v0 v1 v2 v3 v4 v5 v6 v7 v8 v9 v10 v11 v12 v13 v14 v15:Nat):List (Nat×TO):=[(1,.box 71 [.d (.l (.st 11)) 0,dI v0,.row 6 2,.row 3 3,.row 3 4,.row 20 5,.row 4 6,.row 6 7,.nrow 3 8,dI v1,.om 9,.om 10,.om 11,.om 12,.om 13,.om v2,.d .b v3]),(2,.row 57 (.st 1) v4 false),(3,.row 87 (.st 3) v5 false),(4,.row 64 (.st 5) v6 false),(5,.row 94 (.st 7) v7 false),(6,.row 96 (.st 8) v8 false),(7,.row 100 (.st 10) v9 false),(8,.row 98 (.st 9) v10 false),(9,.gn 7 (.l (.m (.s) (.b))) v11),(10,.gn 7 (.l (.m (.s) (.b))) v12),(11,.gn 7 (.l (.m (.s) (.b))) v13),(12,.gn 7 (.l (.m (.s) (.b))) v14),(13,.gn 7 (.l (.m (.s) (.b))) v15),(14,.rw 0)]
def h68:List (Nat×TO):=[(103000400,.gn 7 (.l (.m (.s) (.b))) 15),(1000002,.box 100 [.d .s 16,dI 17,dI 18,dI 19,dI 20,.row 3 1001000002005]),(1001000002005,.row 98 (.st 9) 22 false)]
def k69:List TC:=[.l (.st 11),i6,.b,.l (.st 1),.l (.st 3),.l (.st 5),.l (.st 7),.l (.st 8),.l (.st 10),.l (.st 9),.l (.m (.s) (.b)),.l (.m (.s) (.b)),.l (.m (.s) (.b)),.l (.m (.s) (.b)),.l (.m (.s) (.b)),.l (.m (.s) (.b)),.s,i6,i6,i6,i6]
def k70:List TC:=[.l (.st 11),i6,.b,.l (.st 1),.l (.st 3),.l (.st 5),.l (.st 7),.l (.st 8),.l (.st 10),.l (.m (.s) (.b)),.l (.m (.s) (.b)),.l (.m (.s) (.b)),.l (.m (.s) (.b)),.l (.m (.s) (.b)),.l (.m (.s) (.b))]
def k71:List TC:=[.l (.st 11),i6,i6,.b,.l (.st 1),.l (.st 3),.l (.st 5),.l (.st 7),.l (.st 8),.l (.st 10),.l (.st 9),.l (.m (.s) (.b)),.l (.m (.s) (.b)),.l (.m (.s) (.b)),.l (.m (.s) (.b)),.l (.m (.s) (.b)),.l (.m (.s) (.b))]
def h72(v0 v1 v2 v3 v4 v5 v6 v7 v8 v9 v10 v11 v12 v13 v14 v15:Nat):List (Nat×TO):=[(1,.box 71 [.d (.l (.st 11)) 0,dI v0,.row 6 2,.row 3 3,.row 3 4,.row 20 5,.row 4 6,.row 6 7,.nrow 3 8,dI v1,.om v2,.om v3,.om v4,.om v5,.om v6,.om v7,.d .b v8]),(2,.row 57 (.st 1) v9 false),(3,.row 87 (.st 3) v10 false),(4,.row 64 (.st 5) v11 false),(5,.row 94 (.st 7) v12 false),(6,.row 96 (.st 8) v13 false),(7,.row 100 (.st 10) v14 false),(8,.row 98 (.st 9) v15 false),(9,.rw 0),(10,.rw 0),(11,.rw 0),(12,.rw 0),(13,.rw 0),(14,.rw 0)]
def h73(v0 v1 v2 v3 v4 v5 v6 v7 v8 v9 v10 v11:Nat):List (Nat×TO):=[(v0,.gn 7 (.l (.m (.s) (.b))) v1),(v2,.gn 7 (.l (.m (.s) (.b))) v3),(v4,.gn 7 (.l (.m (.s) (.b))) v5),(v6,.gn 7 (.l (.m (.s) (.b))) v7),(v8,.gn 7 (.l (.m (.s) (.b))) v9),(v10,.gn 7 (.l (.m (.s) (.b))) v11)]
def k74:List TC:=[i6,i6,.b,.l (.st 1),.l (.st 3),.l (.st 5),.l (.st 7),.l (.st 8),.l (.st 10),.l (.st 9),.l (.m (.s) (.b)),.l (.m (.s) (.b)),.l (.m (.s) (.b)),.l (.m (.s) (.b)),.l (.m (.s) (.b)),.l (.m (.s) (.b))]
def h75(v0 v1 v2 v3 v4 v5 v6 v7 v8 v9 v10 v11 v12 v13 v14:Nat):List (Nat×TO):=[(900000000,.rw 1),(900000001,.rw 2),(900000002,.rw 3),(900000003,.rw 4),(v0,.box 31 [.row 6 v1,.row 3 v2,.row 3 v3,.row 20 v4,.row 4 v5,.row 6 v6,.d (.l (.st 9)) v7,dI v8]),(v1,.row 57 (.st 1) v9 false),(v2,.row 87 (.st 3) v10 false),(v3,.row 64 (.st 5) v11 false),(v4,.row 94 (.st 7) v12 false),(v5,.row 96 (.st 8) v13 false),(v6,.row 100 (.st 10) v14 false)]
def k76:List TC:=[i6,i6,.l (.st 9),i6,.l (.st 1),.l (.st 3),.l (.st 5),.l (.st 7),.l (.st 8),.l (.st 10)]
def h77(v0:Nat):List (Nat×TO):=[(900000000,.rw 1),(900000001,.rw 2),(900000002,.rw 3),(900000003,.rw 4),(7000001,.row 9 (.s) v0 false)]
def h78(v0 v1 v2 v3 v4 v5 v6 v7 v8 v9 v10 v11 v12 v13 v14 v15 v16 v17 v18 v19 v20 v21 v22 v23 v24 v25 v26 v27 v28 v29 v30 v31 v32 v33 v34 v35 v36 v37 v38 v39:Nat):List (Nat×TO):=[(1000002,.box 94 [.d .s v0,.d (.l (.s)) v1,.d (.l (.s)) v2,dI v3,dI v4,dI v5,.d .b v6,dI v7,dI v8,dI v9,.d .s v10,.d .s v11,.d (.l (.st 0)) v12,dI v13,dI v14,dI v15,dI v16,dI v17,dI v18,dI v19]),(1000003,.box 94 [.d .s v20,.d (.l (.s)) v21,.d (.l (.s)) v22,dI v23,dI v24,dI v25,.d .b v26,dI v27,dI v28,dI v29,.d .s v30,.d .s v31,.d (.l (.st 0)) v32,dI v33,dI v34,dI v35,dI v36,dI v37,dI v38,dI v39])]
def k79:List TC:=[.s,.l (.s),.l (.s),i6,i6,i6,.b,i6,i6,i6,.s,.s,.l (.st 0),i6,i6,i6,i6,i6,i6,i6,.s,.l (.s),.l (.s),i6,i6,i6,.b,i6,i6,i6,.s,.s,.l (.st 0),i6,i6,i6,i6,i6,i6,i6]
def k80:List TC:=[.s,.l (.s),.l (.s),i6,i6,i6,.b,i6,i6,i6,.s,.s,.l (.st 0),i6,i6,i6,i6,i6,i6,i6]
def h81(v0 v1 v2 v3 v4 v5 v6 v7 v8:Nat):List (Nat×TO):=[(900000000,.rw 1),(900000001,.rw 2),(900000002,.rw 3),(900000003,.rw 4),(v0,.box 31 [.d (.l (.st 1)) v1,.d (.l (.st 3)) v2,.d (.l (.st 5)) v3,.d (.l (.st 7)) v4,.d (.l (.st 8)) v5,.d (.l (.st 10)) v6,.d (.l (.st 9)) v7,dI v8])]
def k82:List TC:=[.l (.st 1),i6,.l (.st 3),.l (.st 5),.l (.st 7),.l (.st 8),.l (.st 10),.l (.st 9),i6]
def k83:List TC:=[.l (.st 3),i6,.l (.st 1),.l (.st 5),.l (.st 7),.l (.st 8),.l (.st 10),.l (.st 9),i6]
def k84:List TC:=[.l (.st 5),i6,.l (.st 1),.l (.st 3),.l (.st 7),.l (.st 8),.l (.st 10),.l (.st 9),i6]
def k85:List TC:=[.l (.st 7),i6,.l (.st 1),.l (.st 3),.l (.st 5),.l (.st 8),.l (.st 10),.l (.st 9),i6]
def k86:List TC:=[.l (.st 8),i6,.l (.st 1),.l (.st 3),.l (.st 5),.l (.st 7),.l (.st 10),.l (.st 9),i6]
def k87:List TC:=[.l (.st 10),i6,.l (.st 1),.l (.st 3),.l (.st 5),.l (.st 7),.l (.st 8),.l (.st 9),i6]
def h88(v0 v1 v2 v3 v4 v5 v6 v7:Nat):List (Nat×TO):=[(900000000,.rw 1),(900000001,.rw 2),(900000002,.rw 3),(900000003,.rw 4),(1000001,.box 31 [.d (.l (.st 1)) v0,.d (.l (.st 3)) v1,.d (.l (.st 5)) v2,.d (.l (.st 7)) v3,.d (.l (.st 8)) v4,.d (.l (.st 10)) 0,.d (.l (.st 9)) v5,dI v6]),(1000170,.row 98 (.st 9) v7 false)]
def k89:List TC:=[.l (.st 9),i6,.l (.st 1),.l (.st 3),.l (.st 5),.l (.st 7),.l (.st 8),.l (.st 10),i6]
def h90(v0 v1 v2 v3 v4 v5 v6 v7 v8 v9 v10 v11 v12 v13 v14 v15 v16 v17 v18 v19 v20 v21:Nat):List (Nat×TO):=[(1,.gn 1 (.s) v0),(900000000,.rw 1),(900000001,.rw 2),(900000002,.rw 3),(900000003,.rw 4),(1000003,.box 94 [.d .s v1,.d (.l (.s)) v2,.d (.l (.s)) v3,dI v4,dI v5,dI v6,.d .b v7,dI v8,dI v9,dI v10,.d .s v11,.d .s v12,.d (.l (.st 0)) v13,dI v14,dI v15,dI v16,dI v17,dI v18,dI v19,dI v20]),(1000022,.row 58 (.l (.s)) v21 false)]
def h91(v0 v1 v2 v3 v4 v5 v6 v7 v8 v9 v10 v11 v12 v13 v14 v15 v16 v17 v18 v19 v20:Nat):List (Nat×TO):=[(1,.gn 1 (.s) v0),(900000000,.rw 1),(900000001,.rw 2),(900000002,.rw 3),(900000003,.rw 4),(1000003,.box 94 [.d .s v1,.d (.l (.s)) v2,.d (.l (.s)) v3,dI v4,dI v5,dI v6,.d .b v7,dI v8,dI v9,dI v10,.d .s v11,.d .s v12,.d (.l (.st 0)) v13,dI v14,dI v15,dI v16,dI v17,dI v18,dI v19,dI v20])]
def h92(v0 v1 v2 v3 v4 v5 v6 v7 v8 v9 v10 v11 v12 v13 v14 v15 v16 v17 v18 v19 v20 v21:Nat):List (Nat×TO):=[(1,.gn 1 (.s) v0),(900000000,.rw 1),(900000001,.rw 2),(900000002,.rw 3),(900000003,.rw 4),(1000003,.box 94 [.d .s v1,.d (.l (.s)) v2,.d (.l (.s)) v3,dI v4,dI v5,dI v6,.d .b v7,dI v8,dI v9,dI v10,.d .s v11,.d .s v12,.d (.l (.st 0)) v13,dI v14,dI v15,dI v16,dI v17,dI v18,dI v19,dI v20]),(1000050,.row 3 i6 v21 false)]
def h93(v0 v1 v2 v3 v4 v5 v6 v7 v8 v9 v10 v11 v12 v13 v14 v15 v16 v17 v18 v19 v20 v21:Nat):List (Nat×TO):=[(1,.gn 1 (.s) v0),(900000000,.rw 1),(900000001,.rw 2),(900000002,.rw 3),(900000003,.rw 4),(1000003,.box 94 [.d .s v1,.d (.l (.s)) v2,.d (.l (.s)) v3,dI v4,dI v5,dI v6,.d .b v7,dI v8,dI v9,dI v10,.d .s v11,.d .s v12,.d (.l (.st 0)) v13,dI v14,dI v15,dI v16,dI v17,dI v18,dI v19,dI v20]),(103008000,.row 9 (.s) v21 false)]
def h94(v0 v1 v2 v3 v4 v5 v6 v7 v8:Nat):List (Nat×TO):=[(900000000,.rw 1),(900000001,.rw 2),(900000002,.rw 3),(900000003,.rw 4),(1000001,.box 31 [.d (.l (.st 1)) v0,.d (.l (.st 3)) v1,.d (.l (.st 5)) v2,.d (.l (.st 7)) v3,.d (.l (.st 8)) v4,.d (.l (.st 10)) v5,.d (.l (.st 9)) v6,dI v7]),(1000028,.gn 1 (.s) v8)]
def h95(v0:Nat):List (Nat×TO):=[(900000000,.rw 1),(900000001,.rw 2),(900000002,.rw 3),(900000003,.rw 4),(1000001,.box 31 [.d (.l (.st 1)) 5,.d (.l (.st 3)) 0,.d (.l (.st 5)) 6,.d (.l (.st 7)) 7,.d (.l (.st 8)) 8,.d (.l (.st 10)) 9,.d (.l (.st 9)) 10,dI 11]),(1000028,.gn 1 (.s) v0),(1000008,.box 87 [.d .s 12,.d (.l (.st 2)) 3,dI 13])]
def k96:List TC:=[.b,.l (.st 9),i6,.l (.st 1),.l (.st 3),.l (.st 5),.l (.st 7),.l (.st 8),.l (.st 10)]
def k119:List TC:=[i6,i6,.s,.s,.l (.st 0),i6,i6,.s,.s,.l (.st 0)]
def zzm:Nat→Type
 |0=>Expr
 |1=>Def
 |2=>Entry
 |3=>Table
 |4=>yP
 |5=>xE
 |6=>zP
 |7=>yz
 |8=>Cap
 |9=>zn
 |10=>View
 |11=>Token
 |12=>zd
 |13=>zD
 |14=>J6
 |_=>Unit
def TS0:Tab where
 T:=zzm
 dflt:=fun n=>match n with
  |0=>(default:Expr)
  |1=>(default:Def)
  |2=>(default:Entry)
  |3=>(default:Table)
  |4=>(default:yP)
  |5=>(default:xE)
  |6=>(default:zP)
  |7=>(default:yz)
  |8=>(default:Cap)
  |9=>(default:zn)
  |10=>(default:View)
  |11=>(default:Token)
  |12=>(default:zd)
  |13=>(default:zD)
  |14=>(default:J6)
  |_+15=>()
 fl:=fun n=>match n with
  |0=>[i6,i6,.s,.s,.l (.st 0)]
  |1=>[.s,.st 0]
  |2=>[.s,i6]
  |3=>[.s,.l (.st 2),i6]
  |4=>[i6,i6]
  |5=>[.s,.b,.l (.st 4)]
  |6=>k1
  |7=>[.s,.l (.s),.l (.s),i6,i6,i6,.b,i6,.st 0,.st 6,i6,i6,i6]
  |8=>[.s,i6,i6,.l (.st 4)]
  |9=>k2
  |10=>[.s,.st 9,i6,.l (.st 9)]
  |11=>k3
  |12=>[.s,i6,i6]
  |13=>[.st 4,.st 4]
  |14=>k4
  |_+15=>[]
 cn:=fun n=>match n with
  |0=>5
  |1=>6
  |2=>2
  |3=>3
  |4=>2
  |5=>3
  |6=>4
  |7=>20
  |8=>4
  |9=>3
  |10=>6
  |11=>4
  |12=>3
  |13=>4
  |14=>8
  |_+15=>0
 out:=fun n=>match n with
  |0=>fun x=>((x:Expr).Op,(x:Expr).N,(x:Expr).S,(x:Expr).Key,(x:Expr).Args)
  |1=>fun x=>((x:Def).Name,(x:Def).Body)
  |2=>fun x=>((x:Entry).Name,(x:Entry).N)
  |3=>fun x=>((x:Table).Name,(x:Table).Rows,(x:Table).Else)
  |4=>fun x=>((x:yP).X,(x:yP).Y)
  |5=>fun x=>((x:xE).Name,(x:xE).Overlay,(x:xE).Corners)
  |6=>fun x=>((x:zP).Side,(x:zP).Base,(x:zP).Num,(x:zP).Den)
  |7=>fun x=>((x:yz).Name,(x:yz).Zones,(x:yz).Except,(x:yz).From,(x:yz).Until,(x:yz).Grace,(x:yz).Vary,(x:yz).Kind,(x:yz).Test,(x:yz).zP,(x:yz).Uses,(x:yz).Other,(x:yz).N)
  |8=>fun x=>((x:Cap).Name,(x:Cap).Load,(x:Cap).Limit,(x:Cap).Corners)
  |9=>fun x=>((x:zn).X,(x:zn).Y,(x:zn).Z_)
  |10=>fun x=>((x:View).Name,(x:View).Eye,(x:View).Least,(x:View).Targets)
  |11=>fun x=>((x:Token).Kind,(x:Token).Text,(x:Token).N,(x:Token).Pos)
  |12=>fun x=>((x:zd).text,(x:zd).op,(x:zd).form)
  |13=>fun x=>((x:zD).a,(x:zD).b)
  |14=>fun x=>((x:J6).Defs,(x:J6).Tables,(x:J6).Zones,(x:J6).Rules,(x:J6).Caps,(x:J6).Views,(x:J6).Sun,(x:J6).Hours)
  |_+15=>fun _=>()
 inj:=fun n=>match n with
  |0=>fun x=>(⟨x.1,x.2.1,x.2.2.1,x.2.2.2.1,x.2.2.2.2⟩:Expr)
  |1=>fun x=>(⟨x.1,x.2⟩:Def)
  |2=>fun x=>(⟨x.1,x.2⟩:Entry)
  |3=>fun x=>(⟨x.1,x.2.1,x.2.2⟩:Table)
  |4=>fun x=>(⟨x.1,x.2⟩:yP)
  |5=>fun x=>(⟨x.1,x.2.1,x.2.2⟩:xE)
  |6=>fun x=>(⟨x.1,x.2.1,x.2.2.1,x.2.2.2⟩:zP)
  |7=>fun x=>(⟨x.1,x.2.1,x.2.2.1,x.2.2.2.1,x.2.2.2.2.1,(p5Q x).1,(p6Q x).1,(p7Q x).1,(p8Q x).1,(p9Q x).1,(zc4 x).1,(zc5 x).1,(zc6 x)⟩:yz)
  |8=>fun x=>(⟨x.1,x.2.1,x.2.2.1,x.2.2.2⟩:Cap)
  |9=>fun x=>(⟨x.1,x.2.1,x.2.2⟩:zn)
  |10=>fun x=>(⟨x.1,x.2.1,x.2.2.1,x.2.2.2⟩:View)
  |11=>fun x=>(⟨x.1,x.2.1,x.2.2.1,x.2.2.2⟩:Token)
  |12=>fun x=>(⟨x.1,x.2.1,x.2.2⟩:zd)
  |13=>fun x=>(⟨x.1,x.2⟩:zD)
  |14=>fun x=>(⟨x.1,x.2.1,x.2.2.1,x.2.2.2.1,x.2.2.2.2.1,(p5Q x).1,(p6Q x).1,(p7Q x)⟩:J6)
  |_+15=>fun _=>()
 enc:=fun n=>match n with
  |0=>y6
  |1=>VJ
  |2=>qK
  |3=>oH
  |4=>jg
  |5=>Jd
  |6=>Je
  |7=>Jf
  |8=>VK
  |9=>vB
  |10=>Jg
  |11=>Jh
  |12=>kl
  |13=>oe
  |14=>zk1
  |_+15=>fun _=>[]
 ro:=fun n=>match n with
  |1=>gl0 AK.ob0
  |2=>gl1 AK.ob1
  |3=>gl2 AK.ob2 AK.m2
  |4=>gl3 AK.ob3
  |_=>.gen gone
def goT(i:Nat):(c:TC)→c.ty zzm→EV.Obj
 |.s,x=>sb (bif Nat.beq i 0 then 108 else 123) x
 |.l (.m kc ec),x=>.gen (kA (List.map (W6 (xT TS0 kc) (xT TS0 ec)) x))
 |_,_=>.gen gone
def glT:Nat→Option (Nat×Nat×List (List UInt8))
 |1=>some (0,200,YZ)
 |_=>none
def gaT:Nat→Option (Nat×Dy zzm×List V)
 |108=>some (0,⟨.s,([]:List UInt8)⟩,[.nilp,.nils])
 |123=>some (1,⟨.s,([]:List UInt8)⟩,[.nilp,.nils])
 |_=>none
theorem zGd(t i:Nat)(d:Dy zzm)(cs:List V)(h:gaT t=some (i,d,cs))(m:M)(Z:ZM)(w:World)(k:Nat)(hh:EV.Holds m Z w k (.box t cs)):EV.Holds m Z w k (goT i d.1 d.2)∧∀b,blk m (k,goT i d.1 d.2) b→blk m (k,.box t cs) b:=by
 unfold gaT at h;split at h
 ·cases h;exact zr2 hh
 ·cases h;exact zr2 hh
 ·cases h
def TS:Tab where
 T:=zzm
 dflt:=fun n=>match n with
  |0=>(default:Expr)
  |1=>(default:Def)
  |2=>(default:Entry)
  |3=>(default:Table)
  |4=>(default:yP)
  |5=>(default:xE)
  |6=>(default:zP)
  |7=>(default:yz)
  |8=>(default:Cap)
  |9=>(default:zn)
  |10=>(default:View)
  |11=>(default:Token)
  |12=>(default:zd)
  |13=>(default:zD)
  |14=>(default:J6)
  |_+15=>()
 fl:=fun n=>match n with
  |0=>[i6,i6,.s,.s,.l (.st 0)]
  |1=>[.s,.st 0]
  |2=>[.s,i6]
  |3=>[.s,.l (.st 2),i6]
  |4=>[i6,i6]
  |5=>[.s,.b,.l (.st 4)]
  |6=>k1
  |7=>[.s,.l (.s),.l (.s),i6,i6,i6,.b,i6,.st 0,.st 6,i6,i6,i6]
  |8=>[.s,i6,i6,.l (.st 4)]
  |9=>k2
  |10=>[.s,.st 9,i6,.l (.st 9)]
  |11=>k3
  |12=>[.s,i6,i6]
  |13=>[.st 4,.st 4]
  |14=>k4
  |_+15=>[]
 cn:=fun n=>match n with
  |0=>5
  |1=>6
  |2=>2
  |3=>3
  |4=>2
  |5=>3
  |6=>4
  |7=>20
  |8=>4
  |9=>3
  |10=>6
  |11=>4
  |12=>3
  |13=>4
  |14=>8
  |_+15=>0
 out:=fun n=>match n with
  |0=>fun x=>((x:Expr).Op,(x:Expr).N,(x:Expr).S,(x:Expr).Key,(x:Expr).Args)
  |1=>fun x=>((x:Def).Name,(x:Def).Body)
  |2=>fun x=>((x:Entry).Name,(x:Entry).N)
  |3=>fun x=>((x:Table).Name,(x:Table).Rows,(x:Table).Else)
  |4=>fun x=>((x:yP).X,(x:yP).Y)
  |5=>fun x=>((x:xE).Name,(x:xE).Overlay,(x:xE).Corners)
  |6=>fun x=>((x:zP).Side,(x:zP).Base,(x:zP).Num,(x:zP).Den)
  |7=>fun x=>((x:yz).Name,(x:yz).Zones,(x:yz).Except,(x:yz).From,(x:yz).Until,(x:yz).Grace,(x:yz).Vary,(x:yz).Kind,(x:yz).Test,(x:yz).zP,(x:yz).Uses,(x:yz).Other,(x:yz).N)
  |8=>fun x=>((x:Cap).Name,(x:Cap).Load,(x:Cap).Limit,(x:Cap).Corners)
  |9=>fun x=>((x:zn).X,(x:zn).Y,(x:zn).Z_)
  |10=>fun x=>((x:View).Name,(x:View).Eye,(x:View).Least,(x:View).Targets)
  |11=>fun x=>((x:Token).Kind,(x:Token).Text,(x:Token).N,(x:Token).Pos)
  |12=>fun x=>((x:zd).text,(x:zd).op,(x:zd).form)
  |13=>fun x=>((x:zD).a,(x:zD).b)
  |14=>fun x=>((x:J6).Defs,(x:J6).Tables,(x:J6).Zones,(x:J6).Rules,(x:J6).Caps,(x:J6).Views,(x:J6).Sun,(x:J6).Hours)
  |_+15=>fun _=>()
 inj:=fun n=>match n with
  |0=>fun x=>(⟨x.1,x.2.1,x.2.2.1,x.2.2.2.1,x.2.2.2.2⟩:Expr)
  |1=>fun x=>(⟨x.1,x.2⟩:Def)
  |2=>fun x=>(⟨x.1,x.2⟩:Entry)
  |3=>fun x=>(⟨x.1,x.2.1,x.2.2⟩:Table)
  |4=>fun x=>(⟨x.1,x.2⟩:yP)
  |5=>fun x=>(⟨x.1,x.2.1,x.2.2⟩:xE)
  |6=>fun x=>(⟨x.1,x.2.1,x.2.2.1,x.2.2.2⟩:zP)
  |7=>fun x=>(⟨x.1,x.2.1,x.2.2.1,x.2.2.2.1,x.2.2.2.2.1,(p5Q x).1,(p6Q x).1,(p7Q x).1,(p8Q x).1,(p9Q x).1,(zc4 x).1,(zc5 x).1,(zc6 x)⟩:yz)
  |8=>fun x=>(⟨x.1,x.2.1,x.2.2.1,x.2.2.2⟩:Cap)
  |9=>fun x=>(⟨x.1,x.2.1,x.2.2⟩:zn)
  |10=>fun x=>(⟨x.1,x.2.1,x.2.2.1,x.2.2.2⟩:View)
  |11=>fun x=>(⟨x.1,x.2.1,x.2.2.1,x.2.2.2⟩:Token)
  |12=>fun x=>(⟨x.1,x.2.1,x.2.2⟩:zd)
  |13=>fun x=>(⟨x.1,x.2⟩:zD)
  |14=>fun x=>(⟨x.1,x.2.1,x.2.2.1,x.2.2.2.1,x.2.2.2.2.1,(p5Q x).1,(p6Q x).1,(p7Q x)⟩:J6)
  |_+15=>fun _=>()
 enc:=fun n=>match n with
  |0=>y6
  |1=>VJ
  |2=>qK
  |3=>oH
  |4=>jg
  |5=>Jd
  |6=>Je
  |7=>Jf
  |8=>VK
  |9=>vB
  |10=>Jg
  |11=>Jh
  |12=>kl
  |13=>oe
  |14=>zk1
  |_+15=>fun _=>[]
 ro:=fun n=>match n with
  |1=>gl0 AK.ob0
  |2=>gl1 AK.ob1
  |3=>gl2 AK.ob2 AK.m2
  |4=>gl3 AK.ob3
  |_=>.gen gone
 go:=goT
 gl:=glT
 ga:=gaT
 om:=true
theorem zDc:TS.OK where
 enc_out:=fun n x=>match n with
  |0=>by
   show y6 x=_
   unfold y6;simp only[wU];rfl
  |1=>rfl
  |2=>rfl
  |3=>rfl
  |4=>rfl
  |5=>rfl
  |6=>rfl
  |7=>rfl
  |8=>rfl
  |9=>rfl
  |10=>rfl
  |11=>rfl
  |12=>rfl
  |13=>rfl
  |14=>rfl
  |_+15=>rfl
 out_mk:=fun n h=>match n with
  |0=>rfl
  |1=>rfl
  |2=>rfl
  |3=>rfl
  |4=>rfl
  |5=>rfl
  |6=>rfl
  |7=>rfl
  |8=>rfl
  |9=>rfl
  |10=>rfl
  |11=>rfl
  |12=>rfl
  |13=>rfl
  |14=>rfl
  |_+15=>rfl
 ro0:=rfl
 rren:=fun i σ=>match i with|0=>rfl|1=>rfl|2=>rfl|3=>rfl|4=>rfl|_+5=>rfl
 rref:=fun i=>match i with|0=>rfl|1=>rfl|2=>rfl|3=>rfl|4=>rfl|_+5=>rfl
 rfrz:=fun i k=>match i with|0=>rfl|1=>rfl|2=>rfl|3=>rfl|4=>rfl|_+5=>rfl
 len:=fun n x=>match n with
  |0=>rfl
  |1=>rfl
  |2=>rfl
  |3=>rfl
  |4=>rfl
  |5=>rfl
  |6=>rfl
  |7=>rfl
  |8=>rfl
  |9=>rfl
  |10=>rfl
  |11=>rfl
  |12=>rfl
  |13=>rfl
  |14=>rfl
  |_+15=>rfl
 one:=fun n x=>match n with
  |0=>rfl
  |1=>rfl
  |2=>rfl
  |3=>rfl
  |4=>rfl
  |5=>rfl
  |6=>rfl
  |7=>rfl
  |8=>rfl
  |9=>rfl
  |10=>rfl
  |11=>rfl
  |12=>rfl
  |13=>rfl
  |14=>rfl
  |_+15=>rfl
 refs:=fun n x=>match n with
  |0=>rfl
  |1=>rfl
  |2=>rfl
  |3=>rfl
  |4=>rfl
  |5=>rfl
  |6=>rfl
  |7=>rfl
  |8=>rfl
  |9=>rfl
  |10=>rfl
  |11=>rfl
  |12=>rfl
  |13=>rfl
  |14=>rfl
  |_+15=>rfl
 gren:=fun i c x σ=>by cases c with
  |l t=>cases t<;>rfl
  |_=>rfl
 gref:=fun i c x=>by cases c with
  |l t=>cases t<;>rfl
  |_=>rfl
 gfrz:=fun i c x k=>by cases c with
  |l t=>cases t<;>rfl
  |_=>rfl
 gom:=fun _ kc ec x=>by kernel_rfl
 ggl:=fun i c x k=>by cases c with
  |l t=>cases t<;>rfl
  |_=>rfl
 gbox:=fun t i d cs h m Z w k hh=>zGd t i d cs h m Z w k hh
 glob:=fun i g t l h=>by
  change glT i=some (g,t,l)at h;unfold glT at h;split at h
  ·cases h;exact⟨_,rfl⟩
  ·cases h
def cdT(t:Nat):Option TC:=bif Nat.beq t 3 then some i6 else bif Nat.beq t 4 then some (.b)else bif Nat.beq t 5 then some (.i .u8)else bif Nat.beq t 9 then some (.s)else bif Nat.beq t 20 then some (.a 3 9)else bif Nat.beq t 37 then some (.st 0)else bif Nat.beq t 51 then some (.st 11)else bif Nat.beq t 57 then some (.st 1)else bif Nat.beq t 58 then some (.l (.s))else bif Nat.beq t 64 then some (.st 5)else bif Nat.beq t 87 then some (.st 3)else bif Nat.beq t 94 then some (.st 7)else bif Nat.beq t 96 then some (.st 8)else bif Nat.beq t 98 then some (.st 9)else bif Nat.beq t 100 then some (.st 10)else bif Nat.beq t 119 then some (.st 2)else bif Nat.beq t 156 then some (.st 4)else bif Nat.beq t 184 then some (.st 12)else bif Nat.beq t 229 then some (.st 13)else none
def cdL(t:Nat):Option TC:=cdT (bif Nat.ble 1000000 t then Nat.sub t 1000000 else t)
def cdO(t:Nat):Option TC:=bif Nat.beq t 3000068 then some .b else  cdT t
def nbT:NB:=fun t=>bif Nat.beq t 31 then[(0,true,57,.st 1),(1,true,87,.st 3),(2,true,64,.st 5),(3,true,94,.st 7),(4,true,96,.st 8),(5,true,100,.st 10),(6,true,98,.st 9)]else bif Nat.beq t 37 then[(4,false,37,.st 0)]else bif Nat.beq t 57 then[(5,false,37,.st 0)]else bif Nat.beq t 64 then[(2,false,156,.st 4)]else bif Nat.beq t 67 then[(0,false,51,.st 11)]else bif Nat.beq t 71 then[(0,false,51,.st 11),(2,true,57,.st 1),(3,true,87,.st 3),(4,true,64,.st 5),(5,true,94,.st 7),(6,true,96,.st 8),(7,true,100,.st 10),(8,true,8000098,.st 9),(10,true,7000000,.l (.m (.s) (.b))),(11,true,7000000,.l (.m (.s) (.b))),(12,true,7000000,.l (.m (.s) (.b))),(13,true,7000000,.l (.m (.s) (.b))),(14,true,7000000,.l (.m (.s) (.b))),(15,true,7000000,.l (.m (.s) (.b)))]else bif Nat.beq t 76 then[(0,false,51,.st 11)]else bif Nat.beq t 87 then[(1,true,119,.st 2)]else bif Nat.beq t 94 then[(1,false,9,.s),(2,false,9,.s),(12,false,37,.st 0)]else bif Nat.beq t 96 then[(3,false,156,.st 4)]else bif Nat.beq t 100 then[(5,true,98,.st 9)]else[]
def QA:NB:=fun t=>bif Nat.beq t 31 then[(0,true,57,.st 1),(1,true,87,.st 3),(2,true,64,.st 5),(3,true,94,.st 7),(4,true,96,.st 8),(5,true,100,.st 10),(6,false,98,.st 9)]else  nbT t
def PC:List TC:=[i6,i6]
def PT:Tp:=.ifc 168 (.ag [dI 0,dI 1])
def dW:zw3 TS:=fun c _ s=>match c,s with
 |.s,s=>zo4 s
 |_,_=>none
theorem dW_ok(ct:TC)(i:Nat)(s s':ct.ty TS.T)(h:dW ct i s=some s')(k:Nat):FnD PGq 162 [.ptr k 0 0,.str [32,41]] [(k,TS.go i ct s)] (.tup [.int .i64 2,.nili]) [(k,TS.go i ct s')]:=by
 cases ct<;>first|(cases h;done)|skip
 obtain⟨_,h1,h2⟩:=bind_some (show zo4 s=some s' from h);cases h2
 have hT:zo6 (bif Nat.beq i 0 then 108 else 123):=by
  cases Nat.beq i 0
  ·exact zg2
  ·exact ZV
 exact zDb hT k s [32,41] (yD h1)
theorem zDd:PGq.follows .mixedOrders=true:=by kernel_rfl
variable[Fuel]
theorem hbv63:ze PGq 63:=zh (by kernel_rfl)
theorem zxd:ze PGq 62:=zh (by kernel_rfl)
theorem zGe:ze PGq 155:=zh (by kernel_rfl)
theorem zGf:ze PGq 157:=zh (by kernel_rfl)
theorem zGg:ze PGq 164:=zh (by kernel_rfl)
theorem zGh:ze PGq 156:=zh (by kernel_rfl)
theorem hbv51:ze PGq 51:=zh (by kernel_rfl)
theorem zGi:ze PGq 165:=zh (by kernel_rfl)
theorem zGj:ze PGq 166:=zh (by kernel_rfl)
theorem hbv64:ze PGq 64:=zh (by kernel_rfl)
theorem hbv21:ze PGq 21:=zh (by kernel_rfl)
theorem zGk:ze PGq 42:=zh (by kernel_rfl)
theorem zzt:ze PGq 124:=zh (by kernel_rfl)
theorem zzu:ze PGq 194:=zh (by kernel_rfl)
theorem zzv:ze PGq 193:=zh (by kernel_rfl)
theorem zxe:ze PGq 41:=zh (by kernel_rfl)
theorem zlc:ze PGq 130:=zh (by kernel_rfl)
theorem hbv52:ze PGq 52:=zh (by kernel_rfl)
theorem hbv16:ze PGq 16:=zh (by kernel_rfl)
theorem zzw:ze PGq 190:=zh (by kernel_rfl)
theorem zld:ze PGq 207:=zh (by kernel_rfl)
theorem zGl:ze PGq 151:=zh (by kernel_rfl)
theorem zle:ze PGq 133:=zh (by kernel_rfl)
theorem AA:ze PGq 40:=zh (by kernel_rfl)
theorem AN:ze PGq 150:=zh (by kernel_rfl)
theorem zDh:ze PGq 43:=zh (by kernel_rfl)
theorem zGm:ze PGq 39:=zh (by kernel_rfl)
theorem zzx:ze PGq 134:=zh (by kernel_rfl)
theorem zxf:ze PGq 35:=zh (by kernel_rfl)
theorem hbv12:ze PGq 12:=zh (by kernel_rfl)
theorem zDi:ze PGq 61:=zh (by kernel_rfl)
theorem hbv20:ze PGq 20:=zh (by kernel_rfl)
theorem zGn:ze PGq 161:=zh (by kernel_rfl)
theorem zkz:ze PGq 162:=zh (by kernel_rfl)
theorem zzy:ze PGq 163:=zh (by kernel_rfl)
theorem zGo:ze PGq 58:=zh (by kernel_rfl)
theorem zGp:ze PGq 59:=zh (by kernel_rfl)
theorem zn2:ze PGq 60:=zh (by kernel_rfl)
theorem hbv19:ze PGq 19:=zh (by kernel_rfl)
theorem zzz:ze PGq 121:=zh (by kernel_rfl)
theorem kJ:ze PGq 191:=zh (by kernel_rfl)
theorem oj:ze PGq 125:=zh (by kernel_rfl)
theorem zz0:ze PGq 127:=zh (by kernel_rfl)
theorem zz1:ze PGq 122:=zh (by kernel_rfl)
theorem zz2:ze PGq 192:=zh (by kernel_rfl)
theorem zz3:ze PGq 123:=zh (by kernel_rfl)
theorem zz4:ze PGq 126:=zh (by kernel_rfl)
theorem zGq:ze PGq 214:=zh (by kernel_rfl)
theorem zGr:ze PGq 215:=zh (by kernel_rfl)
theorem zGs:ze PGq 216:=zh (by kernel_rfl)
theorem zGt:ze PGq 238:=zh (by kernel_rfl)
theorem zGu:ze PGq 231:=zh (by kernel_rfl)
theorem zGv:ze PGq 230:=zh (by kernel_rfl)
theorem zGw:ze PGq 217:=zh (by kernel_rfl)
theorem zGx:ze PGq 218:=zh (by kernel_rfl)
theorem zGy:ze PGq 180:=zh (by kernel_rfl)
theorem hbv94:ze PGq 94:=zh (by kernel_rfl)
theorem zz5:ze PGq 195:=zh (by kernel_rfl)
theorem zGz:ze PGq 219:=zh (by kernel_rfl)
theorem zDj:ze PGq 72:=zh (by kernel_rfl)
theorem zG0:ze PGq 197:=zh (by kernel_rfl)
theorem zz6:ze PGq 129:=zh (by kernel_rfl)
theorem zz7:ze PGq 196:=zh (by kernel_rfl)
theorem zz8:ze PGq 128:=zh (by kernel_rfl)
theorem zz9:ze PGq 198:=zh (by kernel_rfl)
theorem zAa:ze PGq 131:=zh (by kernel_rfl)
theorem zAb:ze PGq 132:=zh (by kernel_rfl)
theorem zG1:ze PGq 36:=zh (by kernel_rfl)
theorem hbv10:ze PGq 10:=zh (by kernel_rfl)
theorem hbv80:ze PGq 80:=zh (by kernel_rfl)
theorem zG2:ze PGq 179:=zh (by kernel_rfl)
theorem hbv79:ze PGq 79:=zh (by kernel_rfl)
theorem hbv82:ze PGq 82:=zh (by kernel_rfl)
theorem hbv81:ze PGq 81:=zh (by kernel_rfl)
theorem hbv84:ze PGq 84:=zh (by kernel_rfl)
theorem hbv83:ze PGq 83:=zh (by kernel_rfl)
theorem hbv86:ze PGq 86:=zh (by kernel_rfl)
theorem hbv85:ze PGq 85:=zh (by kernel_rfl)
theorem hbv88:ze PGq 88:=zh (by kernel_rfl)
theorem hbv87:ze PGq 87:=zh (by kernel_rfl)
theorem hbv90:ze PGq 90:=zh (by kernel_rfl)
theorem hbv89:ze PGq 89:=zh (by kernel_rfl)
theorem hbv92:ze PGq 92:=zh (by kernel_rfl)
theorem hbv91:ze PGq 91:=zh (by kernel_rfl)
theorem hbv93:ze PGq 93:=zh (by kernel_rfl)
theorem zG3:ze PGq 188:=zh (by kernel_rfl)
theorem zsl:ze PGq 104:=zh (by kernel_rfl)
theorem zAc:ze PGq 187:=zh (by kernel_rfl)
theorem zG4:ze PGq 115:=zh (by kernel_rfl)
theorem hbv95:ze PGq 95:=zh (by kernel_rfl)
theorem hbv28:ze PGq 28:=zh (by kernel_rfl)
theorem zAd:ze PGq 168:=zh (by kernel_rfl)
theorem hbv67:ze PGq 67:=zh (by kernel_rfl)
theorem hbv69:ze PGq 69:=zh (by kernel_rfl)
theorem hbv68:ze PGq 68:=zh (by kernel_rfl)
theorem hbv70:ze PGq 70:=zh (by kernel_rfl)
theorem zw8:ze PGq 65:=zh (by kernel_rfl)
theorem hbv71:ze PGq 71:=zh (by kernel_rfl)
theorem hbv26:ze PGq 26:=zh (by kernel_rfl)
theorem hbv9:ze PGq 9:=zh (by kernel_rfl)
theorem zDk:ze PGq 15:=zh (by kernel_rfl)
theorem zDl:ze PGq 56:=zh (by kernel_rfl)
theorem zDm:ze PGq 57:=zh (by kernel_rfl)
theorem hbv18:ze PGq 18:=zh (by kernel_rfl)
theorem hbv22:ze PGq 22:=zh (by kernel_rfl)
theorem hbv24:ze PGq 24:=zh (by kernel_rfl)
theorem hbv23:ze PGq 23:=zh (by kernel_rfl)
theorem hbv4:ze PGq 4:=zh (by kernel_rfl)
theorem ctg{f:Nat}{fn:Func}{code:Code}{T:CtT TS}{cd:Nat→Option TC}{nb:NB}{rc:List (Nat×Nat×Nat)}{c:Ct TS}{h:HT TS c.co}(hf:PGq.funcs[f]?=some fn)(hb:fn.body=some code)(hB:ze PGq f)(hT:CtT.OK PGq T)(hr:∀x,((evF PGq fn code T cd KK nb c rc h x).run,(evF PGq fn code T cd KK nb c rc h x).tr true)=(c.fn x,(evF PGq fn code T cd KK nb c rc h x).tr false)):ze PGq f∧c.OK PGq f :=
 ⟨hB,zC6 (T:=T) (cd:=cd) (kk:=KK) (nb:=nb) (rc:=rc) (h:=h) zDc hf hb zDd hT (fun x=>congrArg Prod.fst (hr x)) (fun x=>congrArg Prod.snd (hr x))⟩
theorem ctk{f:Nat}{fn:Func}{code:Code}{T:CtT TS}{c:Ct TS}{h:HT TS c.co}(hf:PGq.funcs[f]?=some fn)(hb:fn.body=some code)(hB:ze PGq f)(hT:CtT.OK PGq T)(hr:∀x,((evF PGq fn code T cdT KK nbT c [] h x).run,(evF PGq fn code T cdT KK nbT c [] h x).tr true)=(c.fn x,(evF PGq fn code T cdT KK nbT c [] h x).tr false)):ze PGq f∧c.OK PGq f :=
 ⟨hB,zC6 (T:=T) (cd:=cdT) (kk:=KK) (nb:=nbT) (rc:=[]) (h:=h) zDc hf hb zDd hT (fun x=>congrArg Prod.fst (hr x)) (fun x=>congrArg Prod.snd (hr x))⟩
theorem zEj{f:Nat}{fn:Func}{code:Code}{T:CtT TS}{TP:YU TS PC}{cd:Nat→Option TC}{nb:NB}{c:CtP TS PC}{h:HT TS PC}(hf:PGq.funcs[f]?=some fn)(hb:fn.body=some code)(hB:ze PGq f)(hT:CtT.OK PGq T)(hTP:YU.OK PGq (pvT PT PC) TP)(hr:∀x,((evP PGq fn code T cd KK nb PT TP c h x).run,(evP PGq fn code T cd KK nb PT TP c h x).tr true)=(c.fn x,(evP PGq fn code T cd KK nb PT TP c h x).tr false)):ze PGq f∧c.OK PGq (pvT PT PC) f :=
 ⟨hB,zzl (T:=T) (TP:=TP) (pt:=PT) (cd:=cd) (kk:=KK) (nb:=nb) (h:=h) zDc hf hb zDd hT hTP (fun x=>congrArg Prod.fst (hr x)) (fun x=>congrArg Prod.snd (hr x))⟩
theorem ctp{f:Nat}{fn:Func}{code:Code}{T:CtT TS}{TP:YU TS PC}{c:CtP TS PC}{h:HT TS PC}(hf:PGq.funcs[f]?=some fn)(hb:fn.body=some code)(hB:ze PGq f)(hT:CtT.OK PGq T)(hTP:YU.OK PGq (pvT PT PC) TP)(hr:∀x,((evP PGq fn code T cdT KK nbT PT TP c h x).run,(evP PGq fn code T cdT KK nbT PT TP c h x).tr true)=(c.fn x,(evP PGq fn code T cdT KK nbT PT TP c h x).tr false)):ze PGq f∧c.OK PGq (pvT PT PC) f :=
 ⟨hB,zzl (T:=T) (TP:=TP) (pt:=PT) (cd:=cdT) (kk:=KK) (nb:=nbT) (h:=h) zDc hf hb zDd hT hTP (fun x=>congrArg Prod.fst (hr x)) (fun x=>congrArg Prod.snd (hr x))⟩
def zfd:Ct TS:=⟨[.d (.i .u8) 0],[],[.i .u8],.d .b 1,[],[.b],false,fun x=>oK x⟩
abbrev HBc(n:Nat)(c:Ct TS):Prop:=ze PGq n∧c.OK PGq n
abbrev HBp(n:Nat)(c:CtP TS PC):Prop:=ze PGq n∧c.OK PGq (pvT PT PC) n
theorem zn6:HBc 63 zfd:=ctk (T:=[]) (h:=.n) Tryz.func63 rfl hbv63 trivial fun x=>by kernel_rfl
def zlf:Ct TS:=⟨[.d .s 0,.fn 63 [] []],[],[.s],dI 1,[],[i6],false,fun x=>QV x⟩
theorem zsm:HBc 62 zlf:=ctk (T:=[(63,zfd)]) (h:=.s .n (.s .n (.s (.s (.l ⟨[(0,.d .s 0),(1,.fn 63 [] []),(5,dI 1)],[],[.s],[i6]⟩ [(5,dI 1)] [] [i6] 0 (fun x K v=>uE x K v) (.s (.s (.j ⟨[(0,.d .s 0),(1,.fn 63 [] []),(5,dI 1),(16,.d .b 2)],[],[.s,i6],[.b]⟩ false .n) .n) .n)) .n) .n))) Tryz.func62 rfl zxd ⟨zn6,trivial⟩ fun x=>by kernel_rfl
def qQ:Ct TS:=⟨[.d (.i .u8) 0],[],[.i .u8],.d .b 1,[],[.b],false,fun x=>vD x⟩
theorem uX:HBc 155 qQ:=ctk (T:=[]) (h:=.n) Tryz.func155 rfl zGe trivial fun x=>by kernel_rfl
def oV:Ct TS:=⟨[.d (.i .u8) 0],[],[.i .u8],.d .b 1,[],[.b],false,fun x=>jm x⟩
theorem Au:HBc 157 oV:=ctk (T:=[]) (h:=.n) Tryz.func157 rfl zGf trivial fun x=>by kernel_rfl
def Zj:Ct TS:=⟨[.d (.i .u8) 0],[],[.i .u8],.d .b 1,[],[.b],false,fun x=>Al x⟩
theorem zij:HBc 164 Zj:=ctk (T:=[(155,qQ),(157,oV)]) (h:=.n) Tryz.func164 rfl zGg ⟨uX,Au,trivial⟩ fun x=>by kernel_rfl
def Zk:Ct TS:=⟨[.d .s 0,.fn 164 [] []],[],[.s],dI 1,[],[i6],false,fun x=>Am x⟩
theorem zik:HBc 62 Zk:=ctk (T:=[(164,Zj)]) (h:=.s .n (.s .n (.s (.s (.l ⟨[(0,.d .s 0),(1,.fn 164 [] []),(5,dI 1)],[],[.s],[i6]⟩ [(5,dI 1)] [] [i6] 0 (fun x K v=>jI x K v) (.s (.s (.j ⟨[(0,.d .s 0),(1,.fn 164 [] []),(5,dI 1),(16,.d .b 2)],[],[.s,i6],[.b]⟩ false .n) .n) .n)) .n) .n))) Tryz.func62 rfl zxd ⟨zij,trivial⟩ fun x=>by kernel_rfl
def Zl:Ct TS:=⟨[.d (.i .u8) 0],[],[.i .u8],.d .b 1,[],[.b],false,fun x=>j4 x⟩
theorem zil:HBc 156 Zl:=ctk (T:=[(155,qQ),(157,oV)]) (h:=.n) Tryz.func156 rfl zGh ⟨uX,Au,trivial⟩ fun x=>by kernel_rfl
def Zm:Ct TS:=⟨[.d .s 0,.fn 156 [] []],[],[.s],dI 1,[],[i6],false,fun x=>An x⟩
theorem zim:HBc 62 Zm:=ctk (T:=[(156,Zl)]) (h:=.s .n (.s .n (.s (.s (.l ⟨[(0,.d .s 0),(1,.fn 156 [] []),(5,dI 1)],[],[.s],[i6]⟩ [(5,dI 1)] [] [i6] 0 (fun x K v=>jJ x K v) (.s (.s (.j ⟨[(0,.d .s 0),(1,.fn 156 [] []),(5,dI 1),(16,.d .b 2)],[],[.s,i6],[.b]⟩ false .n) .n) .n)) .n) .n))) Tryz.func62 rfl zxd ⟨zil,trivial⟩ fun x=>by kernel_rfl
def zb0:Ct TS:=⟨[.d .s 0],[],[.s],.d .b 1,[],[.b],false,fun x=>Jn x⟩
theorem zfe:HBc 51 zb0:=ctk (T:=[(155,qQ),(62,Zm)]) (h:=.s .n (.s (.s (.j ⟨[(0,.d .s 0),(15,.d .b 1)],[],[.s],[.b]⟩ false .n) .n) .n)) Tryz.func51 rfl hbv51 ⟨uX,zim,trivial⟩ fun x=>by kernel_rfl
def KB:Ct TS:=⟨[.d .s 0,.fn 157 [] []],[],[.s],dI 1,[],[i6],false,fun x=>qL x⟩
theorem Wb:HBc 62 KB:=ctk (T:=[(157,oV)]) (h:=.s .n (.s .n (.s (.s (.l ⟨[(0,.d .s 0),(1,.fn 157 [] []),(5,dI 1)],[],[.s],[i6]⟩ [(5,dI 1)] [] [i6] 0 (fun x K v=>jK x K v) (.s (.s (.j ⟨[(0,.d .s 0),(1,.fn 157 [] []),(5,dI 1),(16,.d .b 2)],[],[.s,i6],[.b]⟩ false .n) .n) .n)) .n) .n))) Tryz.func62 rfl zxd ⟨Au,trivial⟩ fun x=>by kernel_rfl
def Zn:Ct TS:=⟨[.d .s 0],[],[.s],.tup [dI 1,.d .b 2],[],[i6,.b],false,fun x=>Ao x⟩
theorem zin:HBc 165 Zn:=ctk (T:=[(62,KB)]) (h:=.s .n (.s (.s (.j ⟨[(0,.d .s 0),(28,.d .b 1)],[],[.s],[.b]⟩ false .n) .n) (.s .n (.s (.s .n (.s (.l ⟨[(0,.d .s 0),(4,dI 2),(30,dI 1),(31,dI 3)],[],[.s,i6],[i6,i6]⟩ [(4,dI 2)] [] [i6] 0 (u2Q wh) .n) .n)) .n)))) Tryz.func165 rfl zGi ⟨Wb,trivial⟩ fun x=>by kernel_rfl
def Wc:Ct TS:=⟨[.d .s 0,.d .s 1],[],[.s,.s],.d .b 2,[],[.b],false,u2Q A1⟩
theorem zff:Wc.OK PGq 166:=fun x r h=>kmp (by kernel_rfl) (zid x.1 x.2 r h)
def zlg:Ct TS:=⟨[.d .s 0],h5,[.s],.tup [.ag [dI 2,.d .s 3,dI 4,dI 5],dI 1],(h6 7000001 2 3 4 5),[i6,i6,.s,i6,i6],false,fun x=>QW x⟩
theorem zsn:HBc 64 zlg:=ctg (cd:=cdT) (nb:=nbT) (rc:=[(2,7000001,0)]) (T:=[(155,qQ),(62,Zk),(51,zb0),(157,oV),(62,KB),(165,Zn),(166,Wc)]) (h:=.s .n (.s .n (.s (.s .n (.s (.lr ⟨[(0,.d .s 0),(2,.ptr 1000002 0),(43,.ag [.d .s 1,.d .s 2,.d .s 3,.d .s 4,.d .s 5,.d .s 6,.d .s 7,.d .s 8,.d .s 9,.d .s 10,.d .s 11,.d .s 12,.d .s 13,.d .s 14]),(44,dI 17)],(h6 1000002 15 16 15 15),[.s,.s,.s,.s,.s,.s,.s,.s,.s,.s,.s,.s,.s,.s,.s,i6,.s],[i6]⟩ [(2,.ptr 1000002 0)] (h6 1000002 15 16 15 15) [] 1 (u17Q vE) .n) .n)) .n))) Tryz.func64 rfl hbv64 ⟨uX,zik,zfe,Au,Wb,zin,⟨zGj,zff⟩,trivial⟩ fun x=>by kernel_rfl
def zb1:Ct TS:=⟨[.d .s 0],h5,[.s],.tup [.d (.l (.st 11)) 1,dI 2,dI 3],h5,k7,false,fun x=>oL x⟩
theorem zb2:HBc 21 zb1:=ctk (T:=[(62,zlf),(64,zlg)]) (h:=.s .n (.s .n (.s .n (.s .n (.s (.lr ⟨[(0,.d .s 0),(5,.row 4 7000001),(6,dI 1)],[(900000000,.rw 1),(900000001,.rw 2),(900000002,.rw 3),(900000003,.rw 4),(7000001,.row 51 (.st 11) 2 false)],[.s],[i6,.l (.st 11)]⟩ [] [] [] 999999999 (fun x K v=>j5 x K v) .n) .n))))) Tryz.func21 rfl hbv21 ⟨zsm,zsn,trivial⟩ fun x=>by kernel_rfl
def jQ:Ct TS:=⟨[.ptr 1 0],(h8 1),[.l (.st 11),i6],.ag [dI 2,.d .s 3,dI 4,dI 5],[(1,.box 67 [.d (.l (.st 11)) 0,dI 1]),(7000001,.box 51 [dI 2,.d .s 3,dI 4,dI 5])],k3,false,u2Q wi⟩
theorem jo:HBc 42 jQ:=ctg (cd:=cdT) (nb:=nbT) (rc:=[(2,7000001,0)]) (T:=[]) (h:=.n) Tryz.func42 rfl zGk trivial fun x=>by kernel_rfl
def zlh:Ct TS:=⟨[.ptr 1 0,.d .s 2],(h8 1),[.l (.st 11),i6,.s],.d .b 3,(h8 1),[.b],false,u3Q Y6⟩
theorem zio:HBc 124 zlh:=ctk (T:=[(42,jQ)]) (h:=.n) Tryz.func124 rfl zzt ⟨jo,trivial⟩ fun x=>by kernel_rfl
def Wd:Ct TS:=⟨[.ptr 1 0,.d .s 2],(h8 1),[.l (.st 11),i6,.s],.d .b 3,(h8 4),[.b,i6],false,u3Q yQ⟩
theorem QZ:HBc 194 Wd:=ctk (T:=[(124,zlh)]) (h:=.n) Tryz.func194 rfl zzu ⟨zio,trivial⟩ fun x=>by kernel_rfl
def js:Ct TS:=⟨[.ptr 1 0],(h8 1),[.l (.st 11),i6],.d .b 2,(h8 1),[.b],false,u2Q y7⟩
theorem jR:HBc 193 js:=ctk (T:=[(42,jQ)]) (h:=.n) Tryz.func193 rfl zzv ⟨jo,trivial⟩ fun x=>by kernel_rfl
def vn:Ct TS:=⟨[.ptr 1 0,.d .b 2,dI 3],(h8 1),[.l (.st 11),i6,.b,i6],.tup [],(h8 1),[],false,u4Q yj⟩
theorem wY:HBc 41 vn:=ctk (T:=[]) (h:=.n) Tryz.func41 rfl zxe trivial fun x=>by kernel_rfl
def KC:Ct TS:=⟨[.ptr 1 0,dI 2,dI 3],(h8 1),k9,dI 4,(h8 5),[i6,i6],false,u4Q vF⟩
theorem We:HBc 130 KC:=ctk (T:=[(193,js),(41,vn),(42,jQ)]) (h:=.s .n (.s .n (.s .n (.s (.j ⟨[(0,.ptr 1 0),(7,dI 2)],(h8 1),k7,[]⟩ false .n) .n)))) Tryz.func130 rfl zlc ⟨jR,wY,jo,trivial⟩ fun x=>by kernel_rfl
def Zo:Ct TS:=⟨[.d .s 0,.d .s 1],h5,[.s,.s],.d .b 2,h5,[.b],false,u2Q Ap⟩
theorem ziq:Zo.OK PGq 52:=fun x r h=>kmp (by kernel_rfl) (znx x.1 x.2 r h)
def Zp:Ct TS:=⟨[.d .s 0],h5,[.s],.d .b 1,h5,[.b],false,fun x=>AL x⟩
theorem Wf:HBc 16 Zp:=ctk (T:=[(51,zb0),(52,Zo)]) (h:=.n) Tryz.func16 rfl hbv16 ⟨zfe,⟨hbv52,ziq⟩,trivial⟩ fun x=>by kernel_rfl
def KD:Ct TS:=⟨[.ptr 1 0],(h10 1),[.l (.st 11),i6],.d .b 2,(h10 1),[.b],false,u2Q qM⟩
theorem Wg:HBc 190 KD:=ctk (T:=[(42,jQ),(16,Zp)]) (h:=.n) Tryz.func190 rfl zzw ⟨jo,Wf,trivial⟩ fun x=>by kernel_rfl
def zb3:Ct TS:=⟨[.ptr 1 0],(h10 1),[.l (.st 11),i6],.d .s 2,(h10 3),[.s,i6],false,u2Q yR⟩
theorem zfg:HBc 207 zb3:=ctk (T:=[(190,KD),(41,vn)]) (h:=.n) Tryz.func207 rfl zld ⟨Wg,wY,trivial⟩ fun x=>by kernel_rfl
def vN:Ct TS:=⟨[],[],[],.d (.l (.st 12)) 0,[],[.l (.st 12)],false,fun _=>xB⟩
theorem jt:HBc 151 vN:=ctk (T:=[]) (h:=.n) Tryz.func151 rfl zGl trivial fun x=>by kernel_rfl
def zb4:Ct TS:=⟨[.ptr 1 0,.d .s 2],(h8 1),[.l (.st 11),i6,.s],.tup [],(h8 3),[i6],false,u3Q vh⟩
theorem zfh:HBc 133 zb4:=ctk (T:=[(194,Wd),(41,vn)]) (h:=.n) Tryz.func133 rfl zle ⟨QZ,wY,trivial⟩ fun x=>by kernel_rfl
def qR(RK:Nat):Ct TS:=⟨[.ptr 1 0,dI 2],(h10 1),k7,.tup [.ag [dI 5,dI 6,.d .s 7,.d .s 8,.d (.l (.st 0)) 9],dI 3],(h11 4 7000001 5 6 7 8 9),k12,false,fun x=>j6 RK x.1 x.2.1 x.2.2⟩
def jS(RK:Nat):Ct TS:=⟨[.ptr 1 0,dI 2],(h10 1),k7,.ag [dI 4,dI 5,.d .s 6,.d .s 7,.d (.l (.st 0)) 8],(h11 3 7000001 4 5 6 7 8),k13,false,fun x=>zT RK x.1 x.2.1 x.2.2⟩
theorem ju:∀RK,(qR RK).OK PGq 150∧(jS RK).OK PGq 40
 |0=>⟨(fun x r h=>nomatch (show(none:Option _)=some r from h)),(fun x r h=>nomatch (show(none:Option _)=some r from h))⟩
 |RK+1=>⟨(ctg (c:=qR (RK+1)) (cd:=cdT) (nb:=nbT) (rc:=[(4,7000001,0)]) (T:=[(194,Wd),(40,jS RK),(133,zb4),(193,js),(130,KC),(207,zb3)]) (h:=.s .n (.s (.s (.s (.j ⟨[(0,.ptr 1 0),(1,dI 1),(4,.ptr 1000004 0),(10,.d .b 6)],(h11 5 1000004 2 2 3 3 4),k14,[i6,.b]⟩ false .n) (.s .n (.s (.j ⟨[(0,.ptr 1 0),(1,dI 1),(4,.ptr 1000004 0),(31,.d .b 6)],(h11 5 1000004 2 2 3 3 4),k14,[i6,.b]⟩ false .n) (.s .n (.s (.j ⟨[(0,.ptr 1 0),(4,.ptr 1000004 0),(42,.d .b 5)],(h11 4 1000004 1 1 2 2 3),[.l (.st 11),i6,.s,.l (.st 0)],[i6,.b]⟩ false .n) .n))))) .n) .n)) Tryz.func150 rfl AN ⟨QZ,⟨AA,(ju RK).2⟩,zfh,jR,We,zfg,trivial⟩ fun x=>by kernel_rfl).2,(ctg (c:=jS (RK+1)) (cd:=cdT) (nb:=nbT) (rc:=[(4,7000001,0)]) (T:=[(150,qR RK),(151,vN),(124,zlh),(40,jS RK)]) (h:=.s .n (.s .n (.s (.lr ⟨[(0,.ptr 1 0),(1,dI 1),(4,.ptr 1000004 0),(5,.ptr 1000005 0),(6,dI 6)],h15,k14,k12⟩ [] [] [] 999999999 (fun x K v=>km (zT RK) x.1 x.2.1 x.2.2.1 x.2.2.2.1 x.2.2.2.2 K v) (.s (.s .n (.s (.s .n (.s (.l ⟨[(0,.ptr 1 0),(1,dI 2),(4,.ptr 1000004 0),(5,.ptr 1000005 0),(6,dI 3),(7,.ptr 1000007 0),(16,.d (.l (.st 12)) 4),(17,dI 5),(18,dI 14)],(h16 6 7 8 9 10 11 12 13 15 16 17),k17,k3⟩ [(0,.ptr 1 0),(1,dI 2),(4,.ptr 1000004 0),(5,.ptr 1000005 0),(6,dI 3),(7,.ptr 1000007 0)] (h16 6 7 8 9 10 11 12 13 14 15 16) [.s,i6,i6] 2 (u14Q xC) (.s .n (.s .n (.s (.j ⟨[(0,.ptr 1 0),(1,dI 2),(4,.ptr 1000004 0),(5,.ptr 1000005 0),(6,dI 3),(7,.ptr 1000007 0),(16,.d (.l (.st 12)) 4),(17,dI 5),(18,dI 6)],(h16 7 8 9 10 11 12 13 14 15 16 17),k18,[.s,i6,i6]⟩ false .n) .n)))) .n)) (.s (.s (.j ⟨[(0,.ptr 1 0),(1,dI 2),(4,.ptr 1000004 0),(5,.ptr 1000005 0),(7,.ptr 1000007 0),(51,.d .b 14)],(h16 3 4 5 6 7 8 9 10 11 12 13),k19,[.b]⟩ false .n) .n) .n))) .n)) .n))) Tryz.func40 rfl AA ⟨⟨AN,(ju RK).1⟩,jt,zio,⟨AA,(ju RK).2⟩,trivial⟩ fun x=>by kernel_rfl).2⟩
theorem zir(RK:Nat):ze PGq 150∧(qR RK).OK PGq 150:=⟨AN,(ju RK).1⟩
theorem Jw(RK:Nat):ze PGq 40∧(jS RK).OK PGq 40:=⟨AA,(ju RK).2⟩
def vX(RK:Nat):Ct TS:=⟨[.d (.st 0) 0],[],[.st 0],dI 1,[],[i6],false,fun x=>wj RK x⟩
theorem Zq:∀RK,(vX RK).OK PGq 43
 |0=>(fun x r h=>nomatch (show(none:Option _)=some r from h))
 |RK+1=>(ctk (c:=vX (RK+1)) (T:=[(43,vX RK)]) (h:=.s .n (.s .n (.s (.s .n (.s (.l ⟨[(3,dI 2),(7,.d (.l (.st 0)) 0),(8,dI 1),(9,dI 3)],[],[.l (.st 0),i6],[i6,i6]⟩ [(3,dI 2)] [] [i6] 0 (fun x K v=>vG (wj RK) x.1 x.2 K v) .n) .n)) .n))) Tryz.func43 rfl zDh ⟨⟨zDh,(Zq RK)⟩,trivial⟩ fun x=>by kernel_rfl).2
theorem qS(RK:Nat):ze PGq 43∧(vX RK).OK PGq 43:=⟨zDh,(Zq RK)⟩
def wq:Ct TS:=⟨[.ptr 2 0,.ptr 3 0],((h20 1 2 3 4 5 6)++h5),k21,.tup [],((h20 7 8 9 10 11 12)++h5),k13,false,u7Q jL⟩
theorem Yq:HBc 39 wq:=ctk (T:=[(40,jS KK),(42,jQ),(41,vn),(43,vX KK)]) (h:=.n) Tryz.func39 rfl zGm ⟨(Jw KK),jo,wY,(qS KK),trivial⟩ fun x=>by kernel_rfl
def zfi:CtP TS PC:=⟨[.ptr 1 0,dI 2],(h8 1),k7,u3Q Aq⟩
theorem zn7:HBp 134 zfi:=ctp (T:=[(42,jQ)]) (TP:=[]) (h:=.n) Tryz.func134 rfl zzx ⟨jo,trivial⟩ trivial fun x=>by kernel_rfl
def qT:CtP TS PC:=⟨[.ptr 1 0,.d .b 2,dI 3],(h8 1),[.l (.st 11),i6,.b,i6],u4Q xj⟩
theorem uY:HBp 41 qT:=ctp (T:=[]) (TP:=[(134,zfi)]) (h:=.n) Tryz.func41 rfl zxe trivial ⟨zn7,trivial⟩ fun x=>by kernel_rfl
def zfj:CtP TS PC:=⟨[.ptr 1 0,.d .s 2],(h8 1),[.l (.st 11),i6,.s],u3Q uF⟩
theorem zn8:HBp 133 zfj:=ctp (T:=[(194,Wd),(41,vn)]) (TP:=[(41,qT)]) (h:=.n) Tryz.func133 rfl zle ⟨QZ,wY,trivial⟩ ⟨uY,trivial⟩ fun x=>by kernel_rfl
def Wh:CtP TS PC:=⟨[.ptr 1 0,dI 2,dI 3],(h8 1),k9,u4Q qN⟩
theorem zfk:HBp 130 Wh:=ctp (T:=[(193,js),(41,vn),(42,jQ)]) (TP:=[(41,qT)]) (h:=.s .n (.s .n (.s .n (.s (.j ⟨[(0,.ptr 1 0),(7,dI 2)],(h8 1),k7,[]⟩ true .n) .n)))) Tryz.func130 rfl zlc ⟨jR,wY,jo,trivial⟩ ⟨uY,trivial⟩ fun x=>by kernel_rfl
def zfl:CtP TS PC:=⟨[.ptr 1 0],(h10 1),[.l (.st 11),i6],u2Q vi⟩
theorem zn9:HBp 207 zfl:=ctp (T:=[(190,KD),(41,vn)]) (TP:=[(41,qT)]) (h:=.n) Tryz.func207 rfl zld ⟨Wg,wY,trivial⟩ ⟨uY,trivial⟩ fun x=>by kernel_rfl
def Hl(RK:Nat):CtP TS PC:=⟨[.ptr 1 0,dI 2],(h10 1),k7,fun x=>Ar RK x.1 x.2.1 x.2.2⟩
def qU(RK:Nat):CtP TS PC:=⟨[.ptr 1 0,dI 2],(h10 1),k7,fun x=>yE RK x.1 x.2.1 x.2.2⟩
theorem jT:∀RK,(Hl RK).OK PGq (pvT PT PC) 150∧(qU RK).OK PGq (pvT PT PC) 40
 |0=>⟨(fun x r h=>nomatch (show(none:Option _)=some r from h)),(fun x r h=>nomatch (show(none:Option _)=some r from h))⟩
 |RK+1=>⟨(ctp (c:=Hl (RK+1)) (T:=[(194,Wd),(40,jS KK),(133,zb4),(193,js),(130,KC),(207,zb3)]) (TP:=[(40,qU RK),(133,zfj),(130,Wh),(207,zfl)]) (h:=.s .n (.s (.s (.s (.j ⟨[(0,.ptr 1 0),(1,dI 1),(4,.ptr 1000004 0),(10,.d .b 6)],(h11 5 1000004 2 2 3 3 4),k14,[i6,.b]⟩ false .n) (.s .n (.s (.j ⟨[(0,.ptr 1 0),(1,dI 1),(4,.ptr 1000004 0),(31,.d .b 6)],(h11 5 1000004 2 2 3 3 4),k14,[i6,.b]⟩ false .n) (.s .n (.s (.j ⟨[(0,.ptr 1 0),(4,.ptr 1000004 0),(42,.d .b 5)],(h11 4 1000004 1 1 2 2 3),[.l (.st 11),i6,.s,.l (.st 0)],[i6,.b]⟩ false .n) .n))))) .n) .n)) Tryz.func150 rfl AN ⟨QZ,(Jw KK),zfh,jR,We,zfg,trivial⟩ ⟨⟨AA,(jT RK).2⟩,zn8,zfk,zn9,trivial⟩ fun x=>by kernel_rfl).2,(ctp (c:=qU (RK+1)) (T:=[(150,qR KK),(151,vN),(124,zlh),(40,jS KK)]) (TP:=[(150,Hl RK),(40,qU RK)]) (h:=.s .n (.s .n (.s (.lr ⟨[(0,.ptr 1 0),(1,dI 1),(4,.ptr 1000004 0),(5,.ptr 1000005 0),(6,dI 6)],h15,k14,k12⟩ [] [] [] 999999999 (fun x K v=>ko (yE RK) x.1 x.2.1 x.2.2.1 x.2.2.2.1 x.2.2.2.2 K v) (.s (.s .n (.s (.s .n (.s (.l ⟨[(0,.ptr 1 0),(1,dI 2),(4,.ptr 1000004 0),(5,.ptr 1000005 0),(6,dI 3),(7,.ptr 1000007 0),(16,.d (.l (.st 12)) 4),(17,dI 5),(18,dI 14)],(h16 6 7 8 9 10 11 12 13 15 16 17),k17,k3⟩ [(0,.ptr 1 0),(1,dI 2),(4,.ptr 1000004 0),(5,.ptr 1000005 0),(6,dI 3),(7,.ptr 1000007 0)] (h16 6 7 8 9 10 11 12 13 14 15 16) [.s,i6,i6] 2 (u14Q vH) (.s .n (.s .n (.s (.j ⟨[(0,.ptr 1 0),(1,dI 2),(4,.ptr 1000004 0),(5,.ptr 1000005 0),(6,dI 3),(7,.ptr 1000007 0),(16,.d (.l (.st 12)) 4),(17,dI 5),(18,dI 6)],(h16 7 8 9 10 11 12 13 14 15 16 17),k18,[.s,i6,i6]⟩ false .n) .n)))) .n)) (.s (.s (.j ⟨[(0,.ptr 1 0),(1,dI 2),(4,.ptr 1000004 0),(5,.ptr 1000005 0),(7,.ptr 1000007 0),(51,.d .b 14)],(h16 3 4 5 6 7 8 9 10 11 12 13),k19,[.b]⟩ false .n) .n) .n))) .n)) .n))) Tryz.func40 rfl AA ⟨(zir KK),jt,zio,(Jw KK),trivial⟩ ⟨⟨AN,(jT RK).1⟩,⟨AA,(jT RK).2⟩,trivial⟩ fun x=>by kernel_rfl).2⟩
theorem zoa(RK:Nat):ze PGq 40∧(qU RK).OK PGq (pvT PT PC) 40:=⟨AA,(jT RK).2⟩
def qa:CtP TS PC:=⟨[.ptr 2 0,.ptr 3 0],((h20 1 2 3 4 5 6)++h5),k21,u7Q jM⟩
theorem Wi:HBp 39 qa:=ctp (T:=[(40,jS KK),(42,jQ),(41,vn),(43,vX KK)]) (TP:=[(40,qU KK),(41,qT)]) (h:=.n) Tryz.func39 rfl zGm ⟨(Jw KK),jo,wY,(qS KK),trivial⟩ ⟨(zoa KK),uY,trivial⟩ fun x=>by kernel_rfl
def qV:Ct TS:=⟨[.ptr 1 0,.fn 39 [] [.ptr 2 0,.ptr 3 0]],((h20 1 2 3 4 5 6)++h5),k21,.tup [dI 7,dI 8],((h20 9 10 11 12 13 14)++h5),k22,true,u7Q vI⟩
theorem Jx:qV.OK PGq 35:=fun x r h=>by
 obtain⟨q,h1,h2⟩:=bind_some h;cases h2;exact kmp (by kernel_rfl) (zex (F:=hV (jX wq.hin (yr (S:=TS) wq.ci x))) (F':=hV (jX wq.hout (yr (S:=TS) wq.ci x++yr (S:=TS) wq.co q))) (a:=.ptr 2 0 0) (b:=.ptr 3 0 0) (pv:=.ptr 1 0 0) (kmp (by kernel_rfl) (Yq.2 x q h1)))
def kK:Ct TS:=⟨[.ptr 1 0,.fn 39 [] [.ptr 2 0,.ptr 3 0]],((h20 1 2 3 4 5 6)++h5),k21,.tup [dI 7,dI 8],([(1,.rw 0),(2,.rw 0),(3,.rw 0)]++h5),[i6,i6],true,u7Q vj⟩
theorem Hm:kK.OK PGq 35:=fun x r h=>kmp (by kernel_rfl) (zbl (F:=hV (jX qa.hin (yr (S:=TS) qa.ci x))) (a:=.ptr 2 0 0) (b:=.ptr 3 0 0) (pv:=.ptr 1 0 0) (x:=r.1) (y:=r.2) (kmp (by kernel_rfl) (Wi.2 x r h)))
def Hn:Ct TS:=⟨[.d .s 0],h5,[.s],.tup [.ag [dI 3,dI 4,.d .s 5,.d .s 6,.d (.l (.st 0)) 7],dI 1,dI 2],(h23 7000001 3 4 5 6 7),k12,false,fun x=>xd x⟩
theorem Qb:HBc 12 Hn:=ctg (cd:=cdT) (nb:=nbT) (rc:=[(2,7000001,0)]) (T:=[(21,zb1),(35,qV),(35,kK)]) (h:=.n) Tryz.func12 rfl hbv12 ⟨zb2,⟨zxf,Jx⟩,⟨zxf,Hm⟩,trivial⟩ fun x=>by kernel_rfl
def Wj(RK:Nat):Ct TS:=⟨[.d (.st 0) 0,dI 1],h5,[.st 0,i6],.d .b 2,h5,[.b],false,fun x=>zY RK x.1 x.2⟩
theorem zfm:∀RK,(Wj RK).OK PGq 61
 |0=>(fun x r h=>nomatch (show(none:Option _)=some r from h))
 |RK+1=>(ctk (c:=Wj (RK+1)) (T:=[(16,Zp),(61,Wj RK)]) (h:=.s .n (.s (.s (.j ⟨[(1,dI 0),(2,.ptr 1000002 0),(20,.d .b 6)],(h23 1000002 1 2 3 4 5),k13,[.b]⟩ false .n) .n) (.s .n (.s .n (.s (.j ⟨[(1,dI 0),(2,.ptr 1000002 0),(5,.ptr 1000005 0),(6,dI 6)],(h24 1 2 3 4 5 9),k13,[i6,i6,.s,.s]⟩ true (.s .n (.s (.s .n (.s .n (.s (.j ⟨[(1,dI 0),(2,.ptr 1000002 0),(5,.ptr 1000005 0),(6,dI 1),(27,dI 2),(35,.d .b 9)],(h24 2 3 4 5 6 8),[i6,i6,i6,i6,.s,.s,.l (.st 0),i6,.s],[.b]⟩ false .n) (.s .n (.s .n (.s .n (.s (.j ⟨[(1,dI 0),(2,.ptr 1000002 0),(5,.ptr 1000005 0),(6,dI 1),(27,dI 2),(53,.d .b 9)],(h24 2 3 4 5 6 8),[i6,i6,i6,i6,.s,.s,.l (.st 0),i6,.s],[.b]⟩ false .n) .n))))))) .n))) (.s (.s (.j ⟨[(1,dI 0),(2,.ptr 1000002 0),(98,.d .b 6)],(h23 1000002 1 2 3 4 5),k13,[.b]⟩ false .n) .n) (.s (.s .n (.s (.lr ⟨[(1,dI 0),(100,.d (.l (.st 0)) 1),(101,dI 2),(102,dI 3)],h5,[i6,.l (.st 0),i6],[i6]⟩ [] h5 [] 1 (fun x K v=>yW (zY RK) x.1 x.2.1 x.2.2 K v) .n) .n)) .n))))))) Tryz.func61 rfl zDi ⟨Wf,⟨zDi,(zfm RK)⟩,trivial⟩ fun x=>by kernel_rfl).2
theorem zxg(RK:Nat):ze PGq 61∧(Wj RK).OK PGq 61:=⟨zDi,(zfm RK)⟩
def kq:Ct TS:=⟨[.d (.st 0) 0],h5,[.st 0],.d .b 1,h5,[.b],false,fun x=>wO x⟩
theorem kL:HBc 20 kq:=ctk (T:=[(61,Wj KK)]) (h:=.n) Tryz.func20 rfl hbv20 ⟨(zxg KK),trivial⟩ fun x=>by kernel_rfl
def zli:Ct TS:=⟨[.d (.st 0) 0],[],[.st 0],.tup [dI 1,.d .s 2],[],[i6,.s],false,fun x=>QX x⟩
theorem zso:HBc 161 zli:=ctk (T:=[(151,vN)]) (h:=.s .n (.s (.s .n (.s (.lr ⟨[(1,.ptr 1000001 0),(6,.d (.l (.st 12)) 0),(7,dI 1),(8,dI 7)],(h25 1000001 2 3 4 5 6),[.l (.st 12),i6,i6,i6,.s,.s,.l (.st 0)],[i6]⟩ [(1,.ptr 1000001 0)] (h25 1000001 2 3 4 5 6) [] 0 (u7Q uG) .n) .n)) .n)) Tryz.func161 rfl zGn ⟨jt,trivial⟩ fun x=>by kernel_rfl
def VL:Ct TS:=⟨[.ptr 1 0,.d .s 1],[(1,.gn 0 (.s) 0)],[.s,.s],.tup [dI 2,.nili],[(1,.gn 0 (.s) 3)],[i6,.s],false,u2Q yt⟩
theorem zbj:VL.OK PGq 162:=fun x r h=>by
 obtain⟨_,h1,h2⟩:=bind_some h;cases h2;exact kmp (by kernel_rfl) (zic ZV 1 x.1 x.2 (yD h1))
def zsp:Ct TS:=⟨[dI 0],h5,[i6],.d .s 1,h5,[.s],false,fun x=>Y7 x⟩
theorem zsq:zsp.OK PGq 163:=fun x r h=>kmp (by kernel_rfl) (zF0 x r h)
def Wk(RK:Nat):Ct TS:=⟨[.ptr 1 0,.d (.st 0) 1,dI 2],(h26 0 0),[.s,.st 0,i6],.tup [],(h26 0 3),[.s],false,fun x=>y3 RK x.1 x.2.1 x.2.2⟩
theorem zfn:∀RK,(Wk RK).OK PGq 58
 |0=>(fun x r h=>nomatch (show(none:Option _)=some r from h))
 |RK+1=>zw4 (T:=[(161,zli),(162,VL),(163,zsp),(58,Wk RK)]) (cd:=cdT) (kk:=KK) (nb:=nbT) (rs:=[]) (D:=dW) (k0:=1) (hB:=.s (.s .n (.s .n (.s .n (.s .n (.s .n (.s .n (.s .n (.s .n (.s .n (.s (.s .n (.s (.l ⟨[(0,.ptr 1 0),(4,.ptr 1000004 0),(90,.row 1 1000090),(91,dI 0),(92,dI 8)],h27,[i6,i6,i6,.s,.s,.l (.st 0),.l (.s)],[.s,i6]⟩ [] (h26 0 7) [.s] 1 (fun x K v=>wW (y3 RK) x.1 x.2.1 x.2.2.1 x.2.2.2.1 x.2.2.2.2.1 (p5Q x).1 (p6Q x) K v) .n) .n)) (.s .n (.s .n (.s .n (.s .n (.s .n (.s (.j ⟨[(0,.ptr 1 0),(4,.ptr 1000004 0),(6,dI 1),(7,.d .s 2),(10,dI 8)],h28,[.s,i6,.s,i6,i6,.s,.s,.l (.st 0)],[i6]⟩ false .n) .n)))))))))))))))) .n) (hB':=.s (.s .n (.s .n (.s .n (.s .n (.s .n (.s .n (.s .n (.s .n (.s .n (.s (.s .n (.s (.l ⟨[(0,.ptr 1 0),(4,.ptr 1000004 0),(90,.row 1 1000090),(91,dI 0),(92,dI 8)],h27,[i6,i6,i6,.s,.s,.l (.st 0),.l (.s)],[.s,i6]⟩ [] (h26 0 7) [.s] 1 (fun x K v=>wX (y3 RK) x.1 x.2.1 x.2.2.1 x.2.2.2.1 x.2.2.2.2.1 (p5Q x).1 (p6Q x) K v) .n) .n)) (.s .n (.s .n (.s .n (.s .n (.s .n (.s (.j ⟨[(0,.ptr 1 0),(4,.ptr 1000004 0),(6,dI 1),(7,.d .s 2),(10,dI 8)],h28,[.s,i6,.s,i6,i6,.s,.s,.l (.st 0)],[i6]⟩ false .n) .n)))))))))))))))) .n) zDc Tryz.func58 rfl zDd ⟨zso,⟨zkz,zbj⟩,⟨zzy,zsq⟩,⟨zGo,(zfn RK)⟩,trivial⟩ rfl (by kernel_rfl) rfl dW_ok zr5 (fun x=>by kernel_rfl) (fun x=>by kernel_rfl)
theorem zlj(RK:Nat):ze PGq 58∧(Wk RK).OK PGq 58:=⟨zGo,(zfn RK)⟩
def zsr:Ct TS:=⟨[.ptr 1 0],[(1,.gn 0 (.s) 0)],[.s],dI 1,[(1,.gn 0 (.s) 0)],[i6],false,fun x=>zif x⟩
theorem zxh:zsr.OK PGq 59:=fun x r h=>by
 cases h;exact kmp (by kernel_rfl) (zr1 (T:=108) 1 x)
def j3:Ct TS:=⟨[.ptr 1 0],[(1,.gn 0 (.s) 0)],[.s],.d .s 1,[(1,.gn 0 (.s) 0)],[.s],false,fun x=>vC x⟩
theorem uA:j3.OK PGq 60:=fun x r h=>by
 cases h;exact kmp (by kernel_rfl) (J3 (T:=108) 1 x)
def Ho:Ct TS:=⟨[.d (.st 0) 0],h5,[.st 0],.tup [.d .s 1,dI 2],h5,[.s,i6],false,fun x=>vJ x⟩
theorem Qc:HBc 19 Ho:=ctk (T:=[(20,kq),(58,Wk KK),(59,zsr),(60,j3)]) (h:=.n) Tryz.func19 rfl hbv19 ⟨kL,(zlj KK),⟨zGp,zxh⟩,⟨zn2,uA⟩,trivial⟩ fun x=>by kernel_rfl
def zH:Ct TS:=⟨[.ptr 1 0],(h29 1 9 16 2 3 4 5 6 7 8 10 11 12 13 14 15),k30,.ag [dI 17,.d .s 18,dI 19,dI 20],((h29 1 9 16 2 3 4 5 6 7 8 10 11 12 13 14 15)++(h31 7000001 17 18 19 20)),k3,false,fun x=>zl (yL x)⟩
theorem zA:HBc 42 zH:=ctg (cd:=cdT) (nb:=nbT) (rc:=[(2,7000001,0)]) (T:=[]) (h:=.n) Tryz.func42 rfl zGk trivial fun x=>by kernel_rfl
def zo:Ct TS:=⟨[.ptr 1 0,.d .b 17,dI 18],(h29 1 9 16 2 3 4 5 6 7 8 10 11 12 13 14 15),k32,.tup [],(h29 1 9 16 2 3 4 5 6 7 8 10 11 12 13 14 15),[],false,fun x=>zf (VN x) (rBB x).1 (rBB x).2⟩
theorem zm:HBc 41 zo:=ctk (T:=[]) (h:=.n) Tryz.func41 rfl zxe trivial fun x=>by kernel_rfl
def zb5:Ct TS:=⟨[.ptr 1 0,dI 17,dI 18],(h29 1 9 16 2 3 4 5 6 7 8 10 11 12 13 14 15),k33,.tup [],(h29 19 9 16 2 3 4 5 6 7 8 10 11 12 13 14 15),[i6],false,fun x=>yy (VN x) (rBB x).1 (rBB x).2⟩
theorem zfo:HBc 121 zb5:=ctk (T:=[(41,zo)]) (h:=.n) Tryz.func121 rfl zzz ⟨zm,trivial⟩ fun x=>by kernel_rfl
def zF:Ct TS:=⟨[.ptr 1 0],((h29 1 9 16 2 3 4 5 6 7 8 10 11 12 13 14 15)++h5),k30,.d .b 17,((h29 1 9 16 2 3 4 5 6 7 8 10 11 12 13 14 15)++h5),[.b],false,fun x=>zE (yL x)⟩
theorem zB:HBc 190 zF:=ctk (T:=[(42,zH),(16,Zp)]) (h:=.n) Tryz.func190 rfl zzw ⟨zA,Wf,trivial⟩ fun x=>by kernel_rfl
def ya:Ct TS:=⟨[.ptr 1 0],((h29 1 9 16 2 3 4 5 6 7 8 10 11 12 13 14 15)++h5),k30,.d .s 17,((h29 18 9 16 2 3 4 5 6 7 8 10 11 12 13 14 15)++h5),[.s,i6],false,fun x=>zG (yL x)⟩
theorem zV:HBc 207 ya:=ctk (T:=[(190,zF),(41,zo)]) (h:=.n) Tryz.func207 rfl zld ⟨zB,zm,trivial⟩ fun x=>by kernel_rfl
def Wl:Ct TS:=⟨[.ptr 1 0,.om 9],((h29 1 9 16 2 3 4 5 6 7 8 10 11 12 13 14 15)++h5),k30,.d .s 17,((h29 18 9 16 2 3 4 5 6 7 8 19 11 12 13 14 15)++h5),k34,false,fun x=>VS (yL x)⟩
theorem Zr:HBc 191 Wl:=ctk (T:=[(190,zF),(41,zo),(42,zH),(207,ya)]) (h:=.n) Tryz.func191 rfl kJ ⟨zB,zm,zA,zV,trivial⟩ fun x=>by kernel_rfl
def zis:Ct TS:=⟨[.ptr 1 0,.ci .i64 0],((h29 1 9 16 2 3 4 5 6 7 8 10 11 12 13 14 15)++h5),k30,.d .s 17,((h35 18 9 7001001 16 2 3 4 5 6 7 8)++h5++(h36 7001001 19)),k34,false,fun x=>zig (yL x)⟩
theorem zlk:HBc 125 zis:=ctg (cd:=cdO) (nb:=nbT) (rc:=[]) (T:=[(191,Wl)]) (h:=.s .n (.s (.j ⟨[(0,.ptr 1 0),(1,dI 16)],((h35 1 2 7000001 3 4 5 6 7 8 9 10)++h5++(h36 7000001 17)),k37,[.l (.m (.s) (.b))]⟩ false .n) .n)) Tryz.func125 rfl oj ⟨Zr,trivial⟩ fun x=>by kernel_rfl
def vY:Ct TS:=⟨[.ptr 1 0,.d .s 17],(h29 1 9 16 2 3 4 5 6 7 8 10 11 12 13 14 15),k38,.d .b 18,(h29 1 9 16 2 3 4 5 6 7 8 10 11 12 13 14 15),[.b],false,fun x=>wL (VN x) (rBB x)⟩
theorem vq:HBc 124 vY:=ctk (T:=[(42,zH)]) (h:=.n) Tryz.func124 rfl zzt ⟨zA,trivial⟩ fun x=>by kernel_rfl
def xY:Ct TS:=⟨[.ptr 1 0,.d .s 17],(h29 1 9 16 2 3 4 5 6 7 8 10 11 12 13 14 15),k38,.d .b 18,(h29 19 9 16 2 3 4 5 6 7 8 10 11 12 13 14 15),[.b,i6],false,fun x=>zw (VN x) (rBB x)⟩
theorem xJ:HBc 194 xY:=ctk (T:=[(124,vY)]) (h:=.n) Tryz.func194 rfl zzu ⟨vq,trivial⟩ fun x=>by kernel_rfl
def yx:Ct TS:=⟨[.ptr 1 0,.d .s 17],(h29 1 9 16 2 3 4 5 6 7 8 10 11 12 13 14 15),k38,.tup [],(h29 18 9 16 2 3 4 5 6 7 8 10 11 12 13 14 15),[i6],false,fun x=>zt (VN x) (rBB x)⟩
theorem yo:HBc 133 yx:=ctk (T:=[(194,xY),(41,zo)]) (h:=.n) Tryz.func133 rfl zle ⟨xJ,zm,trivial⟩ fun x=>by kernel_rfl
def yf:Ct TS:=⟨[.ptr 1 0],(h29 1 9 16 2 3 4 5 6 7 8 10 11 12 13 14 15),k30,.d .b 17,(h29 1 9 16 2 3 4 5 6 7 8 10 11 12 13 14 15),[.b],false,fun x=>ye (yL x)⟩
theorem yg:HBc 193 yf:=ctk (T:=[(42,zH)]) (h:=.n) Tryz.func193 rfl zzv ⟨zA,trivial⟩ fun x=>by kernel_rfl
def zS:Ct TS:=⟨[.ptr 1 0,dI 17,dI 18],(h29 1 9 16 2 3 4 5 6 7 8 10 11 12 13 14 15),k33,dI 19,(h29 20 9 16 2 3 4 5 6 7 8 10 11 12 13 14 15),[i6,i6],false,fun x=>zi (VN x) (rBB x).1 (rBB x).2⟩
theorem zQ:HBc 130 zS:=ctk (T:=[(193,yf),(41,zo),(42,zH)]) (h:=.s .n (.s .n (.s .n (.s (.j ⟨[(0,.ptr 1 0),(7,dI 17)],(h29 1 2 3 4 5 6 7 8 9 10 11 12 13 14 15 16),k39,[]⟩ false .n) .n)))) Tryz.func130 rfl zlc ⟨yg,zm,zA,trivial⟩ fun x=>by kernel_rfl
def jv(RK:Nat):Ct TS:=⟨[.ptr 1 0,dI 17],((h29 1 9 16 2 3 4 5 6 7 8 10 11 12 13 14 15)++h5),k40,.tup [.ag [dI 20,dI 21,.d .s 22,.d .s 23,.d (.l (.st 0)) 24],dI 18],((h29 19 9 16 2 3 4 5 6 7 8 10 11 12 13 14 15)++h5++(h25 7000001 20 21 22 23 24)),k12,false,fun x=>oM RK (VN x) (rBB x)⟩
def xm(RK:Nat):Ct TS:=⟨[.ptr 1 0,dI 17],((h29 1 9 16 2 3 4 5 6 7 8 10 11 12 13 14 15)++h5),k40,.ag [dI 19,dI 20,.d .s 21,.d .s 22,.d (.l (.st 0)) 23],((h29 18 9 16 2 3 4 5 6 7 8 10 11 12 13 14 15)++h5++(h25 7000001 19 20 21 22 23)),k13,false,fun x=>zW RK (VN x) (rBB x)⟩
theorem wH:∀RK,(jv RK).OK PGq 150∧(xm RK).OK PGq 40
 |0=>⟨(fun x r h=>nomatch (show(none:Option _)=some r from h)),(fun x r h=>nomatch (show(none:Option _)=some r from h))⟩
 |RK+1=>⟨(ctg (c:=jv (RK+1)) (cd:=cdT) (nb:=nbT) (rc:=[(4,7000001,0)]) (T:=[(194,xY),(40,xm RK),(133,yx),(193,yf),(130,zS),(207,ya)]) (h:=.s .n (.s (.s (.s (.j ⟨[(0,.ptr 1 0),(1,dI 16),(4,.ptr 1000004 0),(10,.d .b 21)],((h29 20 1 2 3 4 5 6 7 8 9 10 11 12 13 14 15)++h5++(h25 1000004 17 17 18 18 19)),k41,[i6,.b]⟩ false .n) (.s .n (.s (.j ⟨[(0,.ptr 1 0),(1,dI 16),(4,.ptr 1000004 0),(31,.d .b 21)],((h29 20 1 2 3 4 5 6 7 8 9 10 11 12 13 14 15)++h5++(h25 1000004 17 17 18 18 19)),k41,[i6,.b]⟩ false .n) (.s .n (.s (.j ⟨[(0,.ptr 1 0),(4,.ptr 1000004 0),(42,.d .b 20)],((h29 19 1 2 3 4 5 6 7 8 9 10 11 12 13 14 15)++h5++(h25 1000004 16 16 17 17 18)),k42,[i6,.b]⟩ false .n) .n))))) .n) .n)) Tryz.func150 rfl AN ⟨xJ,⟨AA,(wH RK).2⟩,yo,yg,zQ,zV,trivial⟩ fun x=>by kernel_rfl).2,(ctg (c:=xm (RK+1)) (cd:=cdT) (nb:=nbT) (rc:=[(4,7000001,0)]) (T:=[(150,jv RK),(151,vN),(124,vY),(40,xm RK)]) (h:=.s .n (.s .n (.s (.lr ⟨[(0,.ptr 1 0),(1,dI 16),(4,.ptr 1000004 0),(5,.ptr 1000005 0),(6,dI 21)],((h29 20 1 2 3 4 5 6 7 8 9 10 11 12 13 14 15)++h5++(h43 1000004 17 17 18 18 19 1000005 22 23 24 25 26)),k41,k12⟩ [] [] [] 999999999 (fun x K v=>uI (zW RK) (BB.mk x.1 0 x.2.2.2.1 x.2.2.2.2.1 (p5Q x).1 (p6Q x).1 (p7Q x).1 (p8Q x).1 (p9Q x).1 x.2.1 (zc4 x).1 (zc5 x).1 (zc6 x).1 (zg0 x).1 (zg1 x).1 (zlb x).1 x.2.2.1) (zzr x).1 (zzs x).1 (zEh x).1 (zEi x) K v) (.s (.s .n (.s (.s .n (.s (.l ⟨[(0,.ptr 1 0),(1,dI 17),(4,.ptr 1000004 0),(5,.ptr 1000005 0),(6,dI 18),(7,.ptr 1000007 0),(16,.d (.l (.st 12)) 19),(17,dI 20),(18,dI 29)],((h29 1 2 3 4 5 6 7 8 9 10 11 12 13 14 15 16)++h5++(h44 21 22 23 24 25 26 27 28 30 31 32)),k45,k3⟩ [(0,.ptr 1 0),(1,dI 17),(4,.ptr 1000004 0),(5,.ptr 1000005 0),(6,dI 18),(7,.ptr 1000007 0)] ((h29 1 2 3 4 5 6 7 8 9 10 11 12 13 14 15 16)++h5++(h44 21 22 23 24 25 26 27 28 29 30 31)) [.s,i6,i6] 2 (fun x K v=>uH (BB.mk x.1 0 x.2.2.2.2.1 (p5Q x).1 (p6Q x).1 (p7Q x).1 (p8Q x).1 (p9Q x).1 (zc4 x).1 x.2.2.1 (zc5 x).1 (zc6 x).1 (zg0 x).1 (zg1 x).1 (zlb x).1 (zzr x).1 x.2.2.2.1) x.2.1 (zzs x).1 (zEh x).1 (zEi x).1 (zIl x).1 (p21Q x).1 (p22Q x).1 (p23Q x).1 (p24Q x).1 (p25Q x).1 (p26Q x).1 (p27Q x).1 (p28Q x) K v) (.s .n (.s .n (.s (.j ⟨[(0,.ptr 1 0),(1,dI 17),(4,.ptr 1000004 0),(5,.ptr 1000005 0),(6,dI 18),(7,.ptr 1000007 0),(16,.d (.l (.st 12)) 19),(17,dI 20),(18,dI 21)],((h29 1 2 3 4 5 6 7 8 9 10 11 12 13 14 15 16)++h5++(h44 22 23 24 25 26 27 28 29 30 31 32)),k46,[.s,i6,i6]⟩ false .n) .n)))) .n)) (.s (.s (.j ⟨[(0,.ptr 1 0),(1,dI 17),(4,.ptr 1000004 0),(5,.ptr 1000005 0),(7,.ptr 1000007 0),(51,.d .b 29)],((h29 1 2 3 4 5 6 7 8 9 10 11 12 13 14 15 16)++h5++(h44 18 19 20 21 22 23 24 25 26 27 28)),k47,[.b]⟩ false .n) .n) .n))) .n)) .n))) Tryz.func40 rfl AA ⟨⟨AN,(wH RK).1⟩,jt,vq,⟨AA,(wH RK).2⟩,trivial⟩ fun x=>by kernel_rfl).2⟩
theorem zb6(RK:Nat):ze PGq 150∧(jv RK).OK PGq 150:=⟨AN,(wH RK).1⟩
theorem vO(RK:Nat):ze PGq 40∧(xm RK).OK PGq 40:=⟨AA,(wH RK).2⟩
def Hp:Ct TS:=⟨[.ptr 1 0,.d .b 17,dI 18],(h29 1 9 16 2 3 4 5 6 7 8 10 11 12 13 14 15),k32,.tup [],(h29 19 9 16 2 3 4 5 6 7 8 10 11 12 13 14 15),[i6],false,fun x=>vK (VN x) (rBB x).1 (rBB x).2⟩
theorem Av:HBc 127 Hp:=ctk (T:=[(124,vY),(41,zo)]) (h:=.n) Tryz.func127 rfl zz0 ⟨vq,zm,trivial⟩ fun x=>by kernel_rfl
def KE:Ct TS:=⟨[.ptr 1 0],((h29 1 9 16 2 3 4 5 6 7 8 10 11 12 13 14 15)++h5),k30,.tup [],((h35 17 9 7000001 16 18 3 4 5 6 7 8)++h5++(h36 7000001 19)),[i6,.l (.st 1),.l (.m (.s) (.b))],false,fun x=>J8 (yL x)⟩
theorem Wm:HBc 122 KE:=ctk (T:=[(125,zis),(133,yx),(40,xm KK),(43,vX KK),(127,Hp)]) (h:=.n) Tryz.func122 rfl zz1 ⟨zlk,yo,(vO KK),(qS KK),Av,trivial⟩ fun x=>by kernel_rfl
def Hq:Ct TS:=⟨[.ptr 1 0,.om 10],((h29 1 9 16 2 3 4 5 6 7 8 10 11 12 13 14 15)++h5),k30,.d .s 17,((h29 18 9 16 2 3 4 5 6 7 8 10 19 12 13 14 15)++h5),k34,false,fun x=>A2 (yL x)⟩
theorem Qd:HBc 191 Hq:=ctk (T:=[(190,zF),(41,zo),(42,zH),(207,ya)]) (h:=.n) Tryz.func191 rfl kJ ⟨zB,zm,zA,zV,trivial⟩ fun x=>by kernel_rfl
def Wn:Ct TS:=⟨[.ptr 1 0,.ci .i64 1],((h29 1 9 16 2 3 4 5 6 7 8 10 11 12 13 14 15)++h5),k30,.d .s 17,((h48 18 9 7001001 16 2 3 4 5 6 7 8 10 12 13 14 15)++h5++(h36 7001001 19)),k34,false,fun x=>VT (yL x)⟩
theorem Zs:HBc 125 Wn:=ctg (cd:=cdO) (nb:=nbT) (rc:=[]) (T:=[(191,Hq)]) (h:=.s .n (.s (.j ⟨[(0,.ptr 1 0),(1,dI 16)],((h48 1 2 7000001 3 4 5 6 7 8 9 10 11 12 13 14 15)++h5++(h36 7000001 17)),k37,[.l (.m (.s) (.b))]⟩ false .n) .n)) Tryz.func125 rfl oj ⟨Qd,trivial⟩ fun x=>by kernel_rfl
def Hr:Ct TS:=⟨[.ptr 1 0,.mp 15],((h49 1 17)++h5),k50,.d .s 18,((h49 19 20)++h5),[.s,i6,.m (.s) (.b)],false,fun x=>A3 (VN x) (rBB x)⟩
theorem Qf:HBc 191 Hr:=ctk (T:=[(190,zF),(41,zo),(42,zH),(207,ya)]) (h:=.n) Tryz.func191 rfl kJ ⟨zB,zm,zA,zV,trivial⟩ fun x=>by kernel_rfl
def qW:Ct TS:=⟨[.ptr 1 0,dI 17],(h29 1 9 16 2 3 4 5 6 7 8 10 11 12 13 14 15),k40,dI 18,(h29 19 9 16 2 3 4 5 6 7 8 10 11 12 13 14 15),[i6,i6],false,fun x=>wk (VN x) (rBB x)⟩
theorem uZ:HBc 192 qW:=ctk (T:=[(194,xY),(130,zS)]) (h:=.n) Tryz.func192 rfl zz2 ⟨xJ,zQ,trivial⟩ fun x=>by kernel_rfl
def Wo:Ct TS:=⟨[.ptr 1 0],((h29 1 9 16 2 3 4 5 6 7 8 10 11 12 13 14 15)++h5),k30,.tup [],((h48 17 9 7000001 16 2 18 4 5 6 7 8 10 12 13 14 15)++h5++(h36 7000001 19)),[i6,.l (.st 3),.l (.m (.s) (.b))],false,fun x=>VU (yL x)⟩
theorem Zt:HBc 123 Wo:=ctk (T:=[(125,Wn),(190,zF),(41,zo),(191,Hr),(192,qW),(133,yx)]) (h:=.s .n (.s .n (.s (.s (.l ⟨[(0,.ptr 1 0),(2,.ptr 1000002 0),(3,.mp 1000007)],((h48 18 1 103000500 2 3 4 5 6 7 8 9 10 11 12 13 14)++h5++h51),k52,[i6,.m (.s) (.b),.l (.st 2)]⟩ [(0,.ptr 1 0),(2,.ptr 1000002 0)] ((h48 18 1 103000500 2 3 4 5 6 7 8 9 10 11 12 13 14)++h5++h53) [i6,.l (.st 2)] 0 (fun x K v=>oN (BB.mk x.1 0 x.2.2.2.1 x.2.2.2.2.1 (p5Q x).1 (p6Q x).1 (p7Q x).1 (p8Q x).1 (p9Q x).1 x.2.1 (zc4 x).1 [] (zc5 x).1 (zc6 x).1 (zg0 x).1 (zg1 x).1 x.2.2.1) (zlb x).1 (zzr x).1 (zzs x) K v) .n) .n) .n))) Tryz.func123 rfl zz3 ⟨Zs,zB,zm,Qf,uZ,yo,trivial⟩ fun x=>by kernel_rfl
def Hs:Ct TS:=⟨[.ptr 1 0,.om 11],((h29 1 9 16 2 3 4 5 6 7 8 10 11 12 13 14 15)++h5),k30,.d .s 17,((h29 18 9 16 2 3 4 5 6 7 8 10 11 19 13 14 15)++h5),k34,false,fun x=>A4 (yL x)⟩
theorem Qg:HBc 191 Hs:=ctk (T:=[(190,zF),(41,zo),(42,zH),(207,ya)]) (h:=.n) Tryz.func191 rfl kJ ⟨zB,zm,zA,zV,trivial⟩ fun x=>by kernel_rfl
def Wq:Ct TS:=⟨[.ptr 1 0,.ci .i64 2],((h29 1 9 16 2 3 4 5 6 7 8 10 11 12 13 14 15)++h5),k30,.d .s 17,((h54 18 9 7001001 16 2 3 4 5 6 7 8 10 11)++h5++(h36 7001001 19)),k34,false,fun x=>oO (yL x)⟩
theorem Zu:HBc 125 Wq:=ctg (cd:=cdO) (nb:=nbT) (rc:=[]) (T:=[(191,Hs)]) (h:=.s .n (.s (.j ⟨[(0,.ptr 1 0),(1,dI 16)],((h54 1 2 7000001 3 4 5 6 7 8 9 10 11 12)++h5++(h36 7000001 17)),k37,[.l (.m (.s) (.b))]⟩ false .n) .n)) Tryz.func125 rfl oj ⟨Qg,trivial⟩ fun x=>by kernel_rfl
def KF:Ct TS:=⟨[.ptr 1 0],(h29 1 9 16 2 3 4 5 6 7 8 10 11 12 13 14 15),k30,.d (.l (.st 4)) 17,(h29 18 9 16 2 3 4 5 6 7 8 10 11 12 13 14 15),[.l (.st 4),i6],false,fun x=>wm (yL x)⟩
theorem Wr:HBc 126 KF:=ctk (T:=[(130,zS),(193,yf)]) (h:=.s .n (.s .n (.s (.lr ⟨[(0,.ptr 1 0),(3,.row 2 7000001)],((h29 16 1 2 3 4 5 6 7 8 9 10 11 12 13 14 15)++[(7000001,.row 156 (.st 4) 17 false)]),k55,[i6,.l (.st 4)]⟩ [] [] [] 999999999 (fun x K v=>uJ (BB.mk x.1 0 x.2.2.2.1 x.2.2.2.2.1 (p5Q x).1 (p6Q x).1 (p7Q x).1 (p8Q x).1 (p9Q x).1 x.2.1 (zc4 x).1 (zc5 x).1 (zc6 x).1 (zg0 x).1 (zg1 x).1 (zlb x) x.2.2.1) K v) .n) .n))) Tryz.func126 rfl zz4 ⟨zQ,yg,trivial⟩ fun x=>by kernel_rfl
def Zv:Ct TS:=⟨[.d (.l (.st 4)) 0],[],[.l (.st 4)],.d (.l (.st 13)) 1,[],[.l (.st 13)],false,fun x=>Y8 x⟩
theorem zit:HBc 214 Zv:=ctk (T:=[]) (h:=.s .n (.s .n (.s (.s .n (.s (.l ⟨[(0,.d (.l (.st 4)) 0),(3,.row 4 1000007),(9,dI 1),(10,dI 2)],[(1000007,.row 229 (.st 13) 3 false)],[.l (.st 4),i6],[i6,.l (.st 13)]⟩ [(3,.row 4 1000007)] [(1000007,.row 229 (.st 13) 2 false)] [.l (.st 13)] 0 (u2Q uK) .n) .n)) .n))) Tryz.func214 rfl zGq trivial fun x=>by kernel_rfl
def Zw:Ct TS:=⟨[.d (.st 4) 0],[],[.st 4],.d .b 1,[],[.b],false,fun x=>Y9 x⟩
theorem ziu:HBc 215 Zw:=ctk (T:=[]) (h:=.n) Tryz.func215 rfl zGr trivial fun x=>by kernel_rfl
def oo:Ct TS:=⟨[.d (.st 13) 0],[],[.st 13],.d .b 1,[],[.b],false,fun x=>wM x⟩
theorem KH:HBc 216 oo:=ctk (T:=[]) (h:=.n) Tryz.func216 rfl zGs trivial fun x=>by kernel_rfl
def Ws:Ct TS:=⟨[dI 0],[],[i6],.d .b 1,[],[.b],false,fun x=>A5 x⟩
theorem zfp:HBc 238 Ws:=ctk (T:=[]) (h:=.n) Tryz.func238 rfl zGt trivial fun x=>by kernel_rfl
def Jy:Ct TS:=⟨[dI 0,dI 1],[],[i6,i6],dI 2,[],[i6],false,u2Q uL⟩
theorem Yr:HBc 231 Jy:=ctk (T:=[(238,Ws)]) (h:=.n) Tryz.func231 rfl zGu ⟨zfp,trivial⟩ fun x=>by kernel_rfl
def zll:Ct TS:=⟨[.d (.l i6) 0],[],[.l i6],dI 1,[],[i6],false,fun x=>zk5 x⟩
theorem zss:HBc 230 zll:=ctk (T:=[]) (h:=.s .n (.s .n (.s (.s .n (.s (.lr ⟨[(3,dI 0),(6,.d (.l i6) 1),(7,dI 2),(8,dI 3)],[],[i6,.l i6,i6],[i6]⟩ [(3,dI 0)] [] [] 0 (u3Q A6) .n) .n)) .n))) Tryz.func230 rfl zGv trivial fun x=>by kernel_rfl
def Wt:Ct TS:=⟨[.d (.st 4) 0,.d (.st 4) 1],[],[.st 4,.st 4],dI 2,[],[i6],false,u2Q VV⟩
theorem zfq:HBc 217 Wt:=ctk (T:=[(231,Jy),(230,zll)]) (h:=.n) Tryz.func217 rfl zGw ⟨Yr,zss,trivial⟩ fun x=>by kernel_rfl
def oq:Ct TS:=⟨[.d (.st 13) 0,.d (.st 13) 1],[],[.st 13,.st 13],.d .b 2,[],[.b],false,u2Q oi⟩
theorem KI:HBc 218 oq:=ctk (T:=[]) (h:=.n) Tryz.func218 rfl zGx trivial fun x=>by kernel_rfl
def zfr:Ct TS:=⟨[.d (.l (.st 4)) 0],[],[.l (.st 4)],.d .b 1,[],[.b],false,fun x=>ze0 x⟩
theorem zob:HBc 180 zfr:=ctk (T:=[(214,Zv),(215,Zw),(216,oo),(217,Wt),(218,oq)]) (h:=.s .n (.s (.s (.j ⟨[(0,.d (.l (.st 4)) 0),(16,.d .b 1)],[],[.l (.st 4)],[.b]⟩ false .n) .n) (.s .n (.s (.s .n (.s (.lr ⟨[(0,.d (.l (.st 4)) 0),(3,.d (.l (.st 13)) 1),(19,.d (.l (.st 13)) 1),(20,dI 2),(21,dI 3)],[],[.l (.st 4),.l (.st 13),i6],[i6]⟩ [(3,.d (.l (.st 13)) 1)] [] [] 0 (u3Q oP) (.s .n (.s .n (.s (.s (.s .n (.s .n (.s (.s (.j ⟨[(0,.d (.l (.st 4)) 0),(3,.d (.l (.st 13)) 1),(4,dI 2),(19,.d (.l (.st 13)) 1),(20,dI 3),(21,dI 2),(61,.d .b 4)],[],[.l (.st 4),.l (.st 13),i6,i6],[.b]⟩ false .n) .n) (.s (.j ⟨[(0,.d (.l (.st 4)) 0),(3,.d (.l (.st 13)) 1),(19,.d (.l (.st 13)) 1),(20,dI 2),(21,dI 3),(74,.d .b 4)],[],[.l (.st 4),.l (.st 13),i6,i6],[.b]⟩ false .n) .n)))) .n) .n)))) .n)) (.s (.s .n (.s (.lr ⟨[(3,.d (.l (.st 13)) 0),(77,dI 1),(78,dI 2)],[],[.l (.st 13),i6],[i6]⟩ [(3,.d (.l (.st 13)) 0)] [] [] 2 (u2Q oR) (.s .n (.s .n (.s (.s (.s .n (.s .n (.s (.lr ⟨[(3,.d (.l (.st 13)) 0),(7,dI 1),(8,dI 3),(77,dI 2),(78,dI 1)],[],[.l (.st 13),i6,i6],[i6]⟩ [(3,.d (.l (.st 13)) 0),(77,dI 2),(78,dI 1)] [] [] 4 (u3Q oQ) (.s .n (.s (.s (.s (.j ⟨[(3,.d (.l (.st 13)) 0),(7,dI 1),(8,dI 2),(77,dI 3),(78,dI 1),(106,.d .b 4)],[],[.l (.st 13),i6,i6,i6],[.b]⟩ false .n) .n) .n) .n))) .n))) .n) .n)))) .n)) .n))))) Tryz.func180 rfl zGy ⟨zit,ziu,KH,zfq,KI,trivial⟩ fun x=>by kernel_rfl
def Q0:Ct TS:=⟨[.d (.l (.st 4)) 0],[],[.l (.st 4)],.d .b 1,[],[.b],false,fun x=>vk x⟩
theorem Wu:HBc 94 Q0:=ctk (T:=[(180,zfr)]) (h:=.n) Tryz.func94 rfl hbv94 ⟨zob,trivial⟩ fun x=>by kernel_rfl
def Ht:Ct TS:=⟨[.ptr 1 0,.om 12],((h29 1 9 16 2 3 4 5 6 7 8 10 11 12 13 14 15)++h5),k30,.d .s 17,((h29 18 9 16 2 3 4 5 6 7 8 10 11 12 19 14 15)++h5),k34,false,fun x=>A7 (yL x)⟩
theorem Qh:HBc 191 Ht:=ctk (T:=[(190,zF),(41,zo),(42,zH),(207,ya)]) (h:=.n) Tryz.func191 rfl kJ ⟨zB,zm,zA,zV,trivial⟩ fun x=>by kernel_rfl
def Wv:Ct TS:=⟨[.ptr 1 0,.ci .i64 3],((h29 1 9 16 2 3 4 5 6 7 8 10 11 12 13 14 15)++h5),k30,.d .s 17,((h56 18 9 7001001 16 2 3 4 5 6 7 8 10 11 12 14 15)++h5++(h36 7001001 19)),k34,false,fun x=>VW (yL x)⟩
theorem Zx:HBc 125 Wv:=ctg (cd:=cdO) (nb:=nbT) (rc:=[]) (T:=[(191,Ht)]) (h:=.s .n (.s (.j ⟨[(0,.ptr 1 0),(1,dI 16)],((h56 1 2 7000001 3 4 5 6 7 8 9 10 11 12 13 14 15)++h5++(h36 7000001 17)),k37,[.l (.m (.s) (.b))]⟩ false .n) .n)) Tryz.func125 rfl oj ⟨Qh,trivial⟩ fun x=>by kernel_rfl
def zb7:Ct TS:=⟨[.ptr 1 0],((h29 1 9 16 2 3 4 5 6 7 8 10 11 12 13 14 15)++h5),k30,.d (.l (.s)) 17,((h29 18 9 16 2 3 4 5 6 7 8 10 11 12 13 14 15)++h5),[.l (.s),i6],false,fun x=>Jo (yL x)⟩
theorem zfs:HBc 195 zb7:=ctk (T:=[(207,ya),(190,zF)]) (h:=.s .n (.s .n (.s (.s (.l ⟨[(0,.ptr 1 0),(3,.row 1 1000008)],((h29 16 1 2 3 4 5 6 7 8 9 10 11 12 13 14 15)++h5++(h57 1000008 17)),k55,[i6,.l (.s)]⟩ [(3,.row 1 1000008)] ((h29 16 1 2 3 4 5 6 7 8 9 10 11 12 13 14 15)++h5++(h57 1000008 17)) [i6,.l (.s)] 0 (fun x K v=>A8 (BB.mk x.1 0 x.2.2.2.1 x.2.2.2.2.1 (p5Q x).1 (p6Q x).1 (p7Q x).1 (p8Q x).1 (p9Q x).1 x.2.1 (zc4 x).1 (zc5 x).1 (zc6 x).1 (zg0 x).1 (zg1 x).1 (zlb x) x.2.2.1) K v) .n) .n) .n))) Tryz.func195 rfl zz5 ⟨zV,zB,trivial⟩ fun x=>by kernel_rfl
def Q1:Ct TS:=⟨[.d .s 0],h5,[.s],.row 1 60,[(60,.row 9 (.s) 1 false),(900000000,.rw 1),(900000001,.rw 2),(900000002,.rw 3),(900000003,.rw 4)],[.l (.s)],false,fun x=>QY x⟩
theorem Ww:Q1.OK PGq 72:=fun x r h=>kmp (by kernel_rfl) (zww x r h)
def AO:Ct TS:=⟨[.d (.l (.s)) 0,.d .s 1],[],[.l (.s),.s],dI 2,[],[i6],false,u2Q AM⟩
theorem Wx:HBc 219 AO:=ctk (T:=[]) (h:=.s .n (.s (.s .n (.s (.lr ⟨[(0,.d (.l (.s)) 0),(1,.d .s 1),(7,dI 2),(8,dI 3)],[],[.l (.s),.s,i6],[i6]⟩ [] [] [] 0 (u3Q vL) .n) .n)) .n)) Tryz.func219 rfl zGz trivial fun x=>by kernel_rfl
def Wy:Ct TS:=⟨[.d .s 0,.d .s 1],h5,[.s,.s],dI 2,h5,[i6],false,u2Q VX⟩
theorem Q2:HBc 197 Wy:=ctk (T:=[(72,Q1),(219,AO)]) (h:=.n) Tryz.func197 rfl zG0 ⟨⟨zDj,Ww⟩,Wx,trivial⟩ fun x=>by kernel_rfl
def vP:Ct TS:=⟨[.ptr 1 0,.d .s 17],((h29 1 9 16 2 3 4 5 6 7 8 10 11 12 13 14 15)++h5),k38,dI 18,((h29 19 9 16 2 3 4 5 6 7 8 10 11 12 13 14 15)++h5),[i6,i6],false,fun x=>xk (VN x) (rBB x)⟩
theorem vQ:HBc 129 vP:=ctk (T:=[(42,zH),(197,Wy),(41,zo)]) (h:=.s .n (.s .n (.s (.j ⟨[(0,.ptr 1 0),(5,dI 17)],((h29 1 2 3 4 5 6 7 8 9 10 11 12 13 14 15 16)++h5),k39,[]⟩ false .n) .n))) Tryz.func129 rfl zz6 ⟨zA,Q2,zm,trivial⟩ fun x=>by kernel_rfl
def ziv:Ct TS:=⟨[.ptr 1 0],((h29 1 9 16 2 3 4 5 6 7 8 10 11 12 13 14 15)++h5),k30,dI 17,((h29 18 9 16 2 3 4 5 6 7 8 10 11 12 13 14 15)++h5),[i6,i6],false,fun x=>zih (yL x)⟩
theorem zlm:HBc 196 ziv:=ctk (T:=[(42,zH),(197,Wy),(41,zo),(129,vP)]) (h:=.s .n (.s .n (.s (.lr ⟨[(0,.ptr 1 0),(3,dI 17)],((h29 16 1 2 3 4 5 6 7 8 9 10 11 12 13 14 15)++h5),k55,[i6,i6]⟩ [] [] [] 999999999 (fun x K v=>J9 (BB.mk x.1 0 x.2.2.2.1 x.2.2.2.2.1 (p5Q x).1 (p6Q x).1 (p7Q x).1 (p8Q x).1 (p9Q x).1 x.2.1 (zc4 x).1 (zc5 x).1 (zc6 x).1 (zg0 x).1 (zg1 x).1 (zlb x) x.2.2.1) K v) (.s (.s .n (.s (.s (.j ⟨[(0,.ptr 1 0),(3,dI 17),(4,dI 18),(24,.d .b 19)],((h29 1 2 3 4 5 6 7 8 9 10 11 12 13 14 15 16)++h5),k58,[.b]⟩ false .n) .n) (.s (.j ⟨[(0,.ptr 1 0),(3,dI 17)],((h29 1 2 3 4 5 6 7 8 9 10 11 12 13 14 15 16)++h5),k39,[]⟩ false .n) .n))) .n)) .n))) Tryz.func196 rfl zz7 ⟨zA,Q2,zm,vQ,trivial⟩ fun x=>by kernel_rfl
def zb8:Ct TS:=⟨[.ptr 1 0],((h29 1 9 16 2 3 4 5 6 7 8 10 11 12 13 14 15)++h5),k30,.tup [],((h56 17 9 7000001 16 2 3 4 18 6 7 8 10 11 12 14 15)++h5++(h36 7000001 19)),[i6,.l (.st 7),.l (.m (.s) (.b))],false,fun x=>Jp (yL x)⟩
theorem zft:HBc 128 zb8:=ctk (T:=[(125,Wv),(194,xY),(195,zb7),(130,zS),(133,yx),(196,ziv),(129,vP),(40,xm KK),(43,vX KK),(127,Hp)]) (h:=.s .n (.s (.j ⟨[(0,.ptr 1 0),(2,.ptr 1000002 0)],((h56 22 1 103000400 2 3 4 5 6 7 8 9 10 11 12 13 14)++h5++(h59 23 17 18 18 18 19 18 18 18 20 20 21 18 18 18 18 18 18 18)),k60,[i6,.l (.s)]⟩ false .n) (.s (.j ⟨[(0,.ptr 1 0),(2,.ptr 1000002 0)],((h56 22 1 103000400 2 3 4 5 6 7 8 9 10 11 12 13 14)++h5++(h59 17 23 18 18 18 19 18 18 18 20 20 21 18 18 18 18 18 18 18)),k60,[i6,.l (.s)]⟩ false .n) (.s (.j ⟨[(0,.ptr 1 0),(2,.ptr 1000002 0)],((h56 23 1 103000400 2 3 4 5 6 7 8 9 10 11 12 13 14)++h5++(h59 17 18 24 19 19 20 19 19 19 21 21 22 19 19 19 19 19 19 19)),k61,[i6,i6]⟩ false .n) (.s (.j ⟨[(0,.ptr 1 0),(2,.ptr 1000002 0)],((h56 24 1 103000400 2 3 4 5 6 7 8 9 10 11 12 13 14)++h5++(h59 17 18 19 25 20 21 20 20 20 22 22 23 20 20 20 20 20 20 20)),k62,[i6,i6]⟩ false .n) (.s (.j ⟨[(0,.ptr 1 0),(2,.ptr 1000002 0)],((h56 25 1 103000400 2 3 4 5 6 7 8 9 10 11 12 13 14)++h5++(h59 17 18 19 20 26 21 22 22 22 23 23 24 22 22 22 22 22 22 22)),k63,[i6,i6]⟩ false .n) (.s .n (.s .n (.s (.j ⟨[(0,.ptr 1 0),(2,.ptr 1000002 0)],((h56 23 1 103000400 2 3 4 5 6 7 8 9 10 11 12 13 14)++h5++(h59 17 18 19 20 21 22 24 25 26 27 28 29 30 31 32 33 34 35 36)),k64,k65⟩ false .n) .n))))))))) Tryz.func128 rfl zz8 ⟨Zx,xJ,zfs,zQ,yo,zlm,vQ,(vO KK),(qS KK),Av,trivial⟩ fun x=>by kernel_rfl
def Hu:Ct TS:=⟨[.ptr 1 0,.om 13],((h29 1 9 16 2 3 4 5 6 7 8 10 11 12 13 14 15)++h5),k30,.d .s 17,((h29 18 9 16 2 3 4 5 6 7 8 10 11 12 13 19 15)++h5),k34,false,fun x=>A9 (yL x)⟩
theorem Qi:HBc 191 Hu:=ctk (T:=[(190,zF),(41,zo),(42,zH),(207,ya)]) (h:=.n) Tryz.func191 rfl kJ ⟨zB,zm,zA,zV,trivial⟩ fun x=>by kernel_rfl
def Wz:Ct TS:=⟨[.ptr 1 0,.ci .i64 4],((h29 1 9 16 2 3 4 5 6 7 8 10 11 12 13 14 15)++h5),k30,.d .s 17,((h66 18 9 7001001 16 2 3 4 5 6 7 8 10 11 12 13)++h5++(h36 7001001 19)),k34,false,fun x=>oS (yL x)⟩
theorem Zy:HBc 125 Wz:=ctg (cd:=cdO) (nb:=nbT) (rc:=[]) (T:=[(191,Hu)]) (h:=.s .n (.s (.j ⟨[(0,.ptr 1 0),(1,dI 16)],((h66 1 2 7000001 3 4 5 6 7 8 9 10 11 12 13 14)++h5++(h36 7000001 17)),k37,[.l (.m (.s) (.b))]⟩ false .n) .n)) Tryz.func125 rfl oj ⟨Qi,trivial⟩ fun x=>by kernel_rfl
def Hw:Ct TS:=⟨[.ptr 1 0,.om 14],((h29 1 9 16 2 3 4 5 6 7 8 10 11 12 13 14 15)++h5),k30,.d .s 17,((h29 18 9 16 2 3 4 5 6 7 8 10 11 12 13 14 19)++h5),k34,false,fun x=>Ha (yL x)⟩
theorem Qj:HBc 191 Hw:=ctk (T:=[(190,zF),(41,zo),(42,zH),(207,ya)]) (h:=.n) Tryz.func191 rfl kJ ⟨zB,zm,zA,zV,trivial⟩ fun x=>by kernel_rfl
def WA:Ct TS:=⟨[.ptr 1 0,.ci .i64 5],((h29 1 9 16 2 3 4 5 6 7 8 10 11 12 13 14 15)++h5),k30,.d .s 17,((h67 18 9 7001001 16 2 3 4 5 6 7 8 10 11 12 13 14)++h5++(h36 7001001 19)),k34,false,fun x=>VY (yL x)⟩
theorem Zz:HBc 125 WA:=ctg (cd:=cdO) (nb:=nbT) (rc:=[]) (T:=[(191,Hw)]) (h:=.s .n (.s (.j ⟨[(0,.ptr 1 0),(1,dI 16)],((h67 1 2 7000001 3 4 5 6 7 8 9 10 11 12 13 14 15)++h5++(h36 7000001 17)),k37,[.l (.m (.s) (.b))]⟩ false .n) .n)) Tryz.func125 rfl oj ⟨Qj,trivial⟩ fun x=>by kernel_rfl
def WB:Ct TS:=⟨[.ptr 1 0],(h29 1 9 16 2 3 4 5 6 7 8 10 11 12 13 14 15),k30,.ag [dI 18,dI 19,dI 20],((h29 17 9 16 2 3 4 5 6 7 8 10 11 12 13 14 15)++[(7000001,.box 98 [dI 18,dI 19,dI 20])]),k1,false,fun x=>kp (yL x)⟩
theorem ZA:HBc 198 WB:=ctg (cd:=cdT) (nb:=nbT) (rc:=[(2,7000001,0)]) (T:=[(130,zS)]) (h:=.n) Tryz.func198 rfl zz9 ⟨zQ,trivial⟩ fun x=>by kernel_rfl
def zb9:Ct TS:=⟨[.ptr 1 0],((h29 1 9 16 2 3 4 5 6 7 8 10 11 12 13 14 15)++h5),k30,.tup [],((h67 17 9 7000001 16 2 3 4 5 6 18 8 10 11 12 13 14)++h5++(h36 7000001 19)),[i6,.l (.st 10),.l (.m (.s) (.b))],false,fun x=>Jq (yL x)⟩
theorem zfu:HBc 131 zb9:=ctk (T:=[(125,WA),(198,WB),(133,yx),(130,zS),(193,yf),(41,zo)]) (h:=.s .n (.s .n (.s .n (.s .n (.s .n (.s (.s (.l ⟨[(0,.ptr 1 0),(2,.ptr 1000002 0)],((h67 21 1 103000400 2 3 4 5 6 7 8 9 10 11 12 13 14)++h5++h68),k69,[i6,.l (.st 9)]⟩ [(0,.ptr 1 0),(2,.ptr 1000002 0)] ((h67 21 1 103000400 2 3 4 5 6 7 8 9 10 11 12 13 14)++h5++h68) [i6,.l (.st 9)] 0 (fun x K v=>Hb (BB.mk x.1 0 x.2.2.2.1 x.2.2.2.2.1 (p5Q x).1 (p6Q x).1 (p7Q x).1 (p8Q x).1 (p9Q x).1 x.2.1 (zc4 x).1 (zc5 x).1 (zc6 x).1 (zg0 x).1 (zg1 x).1 [] x.2.2.1) (zlb x).1 (zzr x).1 (zzs x).1 (zEh x).1 (zEi x).1 (zIl x) K v) .n) .n) .n)))))) Tryz.func131 rfl zAa ⟨Zz,ZA,yo,zQ,yg,zm,trivial⟩ fun x=>by kernel_rfl
def ziw:Ct TS:=⟨[.ptr 1 0],(h29 1 9 16 2 3 4 5 6 7 8 10 11 12 13 14 15),k30,.tup [],(h29 17 9 16 2 3 4 5 6 7 18 10 11 12 13 14 15),[i6,.l (.st 9)],false,fun x=>VZ (yL x)⟩
theorem zln:HBc 132 ziw:=ctk (T:=[(124,vY),(41,zo),(193,yf),(192,qW),(130,zS),(194,xY),(133,yx)]) (h:=.s (.s .n (.s (.l ⟨[(0,.ptr 1 0),(2,.d .b 17)],(h29 15 1 2 3 4 5 6 7 8 16 9 10 11 12 13 14),k70,[i6,.l (.st 9),.b]⟩ [(0,.ptr 1 0)] (h29 15 1 2 3 4 5 6 7 8 16 9 10 11 12 13 14) [i6,.l (.st 9)] 0 (fun x K v=>Ka (BB.mk x.1 0 x.2.2.2.1 x.2.2.2.2.1 (p5Q x).1 (p6Q x).1 (p7Q x).1 (p8Q x).1 [] x.2.1 (p9Q x).1 (zc4 x).1 (zc5 x).1 (zc6 x).1 (zg0 x).1 (zg1 x) x.2.2.1) K v) (.s .n (.s (.s (.s (.j ⟨[(0,.ptr 1 0)],(h29 1 2 3 4 5 6 7 8 9 10 11 12 13 14 15 16),k71,[]⟩ false .n) .n) .n) .n))) .n)) .n) Tryz.func132 rfl zAb ⟨vq,zm,yg,uZ,zQ,xJ,yo,trivial⟩ fun x=>by kernel_rfl
def Aw:Ct TS:=⟨[.ptr 1 0],((h29 1 9 16 2 3 4 5 6 7 8 10 11 12 13 14 15)++h5),k30,.tup [],((h72 17 18 7001001 7001002 7001003 7001004 7001005 7001006 19 20 21 22 23 24 25 26)++h5++(h73 7001001 27 7001002 28 7001003 29 7001004 30 7001005 31 7001006 32)),k74,false,fun x=>zk6 (yL x)⟩
theorem zst:HBc 36 Aw:=ctk (T:=[(42,zH),(121,zb5),(122,KE),(123,Wo),(124,vY),(125,Wq),(126,KF),(94,Q0),(127,Hp),(128,zb8),(125,Wz),(129,vP),(130,zS),(131,zb9),(41,zo),(132,ziw),(133,yx)]) (h:=.s (.l ⟨[(0,.ptr 1 0)],((h72 1 2 7000001 7000002 7000003 7000004 7000005 7000006 3 4 5 6 7 8 9 10)++h5++(h73 7000001 11 7000002 12 7000003 13 7000004 14 7000005 15 7000006 16)),[.l (.st 11)],k74⟩ [] ((h72 1 2 7000001 7000002 7000003 7000004 7000005 7000006 3 4 5 6 7 8 9 10)++h5++(h73 7000001 11 7000002 12 7000003 13 7000004 14 7000005 15 7000006 16)) k74 0 (fun x K v=>yb (BB.mk x 0 [] [] [] [] [] [] [] 0 [] [] [] [] [] [] false) K v) .n) .n) Tryz.func36 rfl zG1 ⟨zA,zfo,Wm,Zt,vq,Zu,Wr,Wu,Av,zft,Zy,vQ,zQ,zfu,zm,zln,yo,trivial⟩ fun x=>by kernel_rfl
def Hx:CtP TS PC:=⟨[.ptr 1 0,dI 17],(h29 1 9 16 2 3 4 5 6 7 8 10 11 12 13 14 15),k40,fun x=>As (VN x) (rBB x)⟩
theorem Qk:HBp 134 Hx:=ctp (T:=[(42,zH)]) (TP:=[]) (h:=.n) Tryz.func134 rfl zzx ⟨zA,trivial⟩ trivial fun x=>by kernel_rfl
def zO:CtP TS PC:=⟨[.ptr 1 0,.d .b 17,dI 18],(h29 1 9 16 2 3 4 5 6 7 8 10 11 12 13 14 15),k32,fun x=>zr (VN x) (rBB x).1 (rBB x).2⟩
theorem zK:HBp 41 zO:=ctp (T:=[]) (TP:=[(134,Hx)]) (h:=.n) Tryz.func41 rfl zxe trivial ⟨Qk,trivial⟩ fun x=>by kernel_rfl
def zfv:CtP TS PC:=⟨[.ptr 1 0,dI 17,dI 18],(h29 1 9 16 2 3 4 5 6 7 8 10 11 12 13 14 15),k33,fun x=>vl (VN x) (rBB x).1 (rBB x).2⟩
theorem zoc:HBp 121 zfv:=ctp (T:=[(41,zo)]) (TP:=[(41,zO)]) (h:=.n) Tryz.func121 rfl zzz ⟨zm,trivial⟩ ⟨zK,trivial⟩ fun x=>by kernel_rfl
def xe:CtP TS PC:=⟨[.ptr 1 0],((h29 1 9 16 2 3 4 5 6 7 8 10 11 12 13 14 15)++h5),k30,fun x=>yF (yL x)⟩
theorem y8:HBp 207 xe:=ctp (T:=[(190,zF),(41,zo)]) (TP:=[(41,zO)]) (h:=.n) Tryz.func207 rfl zld ⟨zB,zm,trivial⟩ ⟨zK,trivial⟩ fun x=>by kernel_rfl
def ZB:CtP TS PC:=⟨[.ptr 1 0,.om 9],((h29 1 9 16 2 3 4 5 6 7 8 10 11 12 13 14 15)++h5),k30,fun x=>ze1 (yL x)⟩
theorem zix:HBp 191 ZB:=ctp (T:=[(190,zF),(41,zo),(42,zH),(207,ya)]) (TP:=[(41,zO),(207,xe)]) (h:=.n) Tryz.func191 rfl kJ ⟨zB,zm,zA,zV,trivial⟩ ⟨zK,y8,trivial⟩ fun x=>by kernel_rfl
def zlo:CtP TS PC:=⟨[.ptr 1 0,.ci .i64 0],((h29 1 9 16 2 3 4 5 6 7 8 10 11 12 13 14 15)++h5),k30,fun x=>zsb (yL x)⟩
theorem zsu:HBp 125 zlo:=zEj (cd:=cdO) (nb:=nbT) (T:=[(191,Wl)]) (TP:=[(191,ZB)]) (h:=.s .n (.s (.j ⟨[(0,.ptr 1 0),(1,dI 16)],((h35 1 2 7000001 3 4 5 6 7 8 9 10)++h5++(h36 7000001 17)),k37,[.l (.m (.s) (.b))]⟩ false .n) .n)) Tryz.func125 rfl oj ⟨Zr,trivial⟩ ⟨zix,trivial⟩ fun x=>by kernel_rfl
def xZ:CtP TS PC:=⟨[.ptr 1 0,.d .s 17],(h29 1 9 16 2 3 4 5 6 7 8 10 11 12 13 14 15),k38,fun x=>z8 (VN x) (rBB x)⟩
theorem wa:HBp 133 xZ:=ctp (T:=[(194,xY),(41,zo)]) (TP:=[(41,zO)]) (h:=.n) Tryz.func133 rfl zle ⟨xJ,zm,trivial⟩ ⟨zK,trivial⟩ fun x=>by kernel_rfl
def yU:CtP TS PC:=⟨[.ptr 1 0,dI 17,dI 18],(h29 1 9 16 2 3 4 5 6 7 8 10 11 12 13 14 15),k33,fun x=>zy (VN x) (rBB x).1 (rBB x).2⟩
theorem yV:HBp 130 yU:=ctp (T:=[(193,yf),(41,zo),(42,zH)]) (TP:=[(41,zO)]) (h:=.s .n (.s .n (.s .n (.s (.j ⟨[(0,.ptr 1 0),(7,dI 17)],(h29 1 2 3 4 5 6 7 8 9 10 11 12 13 14 15 16),k39,[]⟩ true .n) .n)))) Tryz.func130 rfl zlc ⟨yg,zm,zA,trivial⟩ ⟨zK,trivial⟩ fun x=>by kernel_rfl
def u0(RK:Nat):CtP TS PC:=⟨[.ptr 1 0,dI 17],((h29 1 9 16 2 3 4 5 6 7 8 10 11 12 13 14 15)++h5),k40,fun x=>K7 RK (VN x) (rBB x)⟩
def wQ(RK:Nat):CtP TS PC:=⟨[.ptr 1 0,dI 17],((h29 1 9 16 2 3 4 5 6 7 8 10 11 12 13 14 15)++h5),k40,fun x=>xl RK (VN x) (rBB x)⟩
theorem vr:∀RK,(u0 RK).OK PGq (pvT PT PC) 150∧(wQ RK).OK PGq (pvT PT PC) 40
 |0=>⟨(fun x r h=>nomatch (show(none:Option _)=some r from h)),(fun x r h=>nomatch (show(none:Option _)=some r from h))⟩
 |RK+1=>⟨(ctp (c:=u0 (RK+1)) (T:=[(194,xY),(40,xm KK),(133,yx),(193,yf),(130,zS),(207,ya)]) (TP:=[(40,wQ RK),(133,xZ),(130,yU),(207,xe)]) (h:=.s .n (.s (.s (.s (.j ⟨[(0,.ptr 1 0),(1,dI 16),(4,.ptr 1000004 0),(10,.d .b 21)],((h29 20 1 2 3 4 5 6 7 8 9 10 11 12 13 14 15)++h5++(h25 1000004 17 17 18 18 19)),k41,[i6,.b]⟩ false .n) (.s .n (.s (.j ⟨[(0,.ptr 1 0),(1,dI 16),(4,.ptr 1000004 0),(31,.d .b 21)],((h29 20 1 2 3 4 5 6 7 8 9 10 11 12 13 14 15)++h5++(h25 1000004 17 17 18 18 19)),k41,[i6,.b]⟩ false .n) (.s .n (.s (.j ⟨[(0,.ptr 1 0),(4,.ptr 1000004 0),(42,.d .b 20)],((h29 19 1 2 3 4 5 6 7 8 9 10 11 12 13 14 15)++h5++(h25 1000004 16 16 17 17 18)),k42,[i6,.b]⟩ false .n) .n))))) .n) .n)) Tryz.func150 rfl AN ⟨xJ,(vO KK),yo,yg,zQ,zV,trivial⟩ ⟨⟨AA,(vr RK).2⟩,wa,yV,y8,trivial⟩ fun x=>by kernel_rfl).2,(ctp (c:=wQ (RK+1)) (T:=[(150,jv KK),(151,vN),(124,vY),(40,xm KK)]) (TP:=[(150,u0 RK),(40,wQ RK)]) (h:=.s .n (.s .n (.s (.lr ⟨[(0,.ptr 1 0),(1,dI 16),(4,.ptr 1000004 0),(5,.ptr 1000005 0),(6,dI 21)],((h29 20 1 2 3 4 5 6 7 8 9 10 11 12 13 14 15)++h5++(h43 1000004 17 17 18 18 19 1000005 22 23 24 25 26)),k41,k12⟩ [] [] [] 999999999 (fun x K v=>uN (xl RK) (BB.mk x.1 0 x.2.2.2.1 x.2.2.2.2.1 (p5Q x).1 (p6Q x).1 (p7Q x).1 (p8Q x).1 (p9Q x).1 x.2.1 (zc4 x).1 (zc5 x).1 (zc6 x).1 (zg0 x).1 (zg1 x).1 (zlb x).1 x.2.2.1) (zzr x).1 (zzs x).1 (zEh x).1 (zEi x) K v) (.s (.s .n (.s (.s .n (.s (.l ⟨[(0,.ptr 1 0),(1,dI 17),(4,.ptr 1000004 0),(5,.ptr 1000005 0),(6,dI 18),(7,.ptr 1000007 0),(16,.d (.l (.st 12)) 19),(17,dI 20),(18,dI 29)],((h29 1 2 3 4 5 6 7 8 9 10 11 12 13 14 15 16)++h5++(h44 21 22 23 24 25 26 27 28 30 31 32)),k45,k3⟩ [(0,.ptr 1 0),(1,dI 17),(4,.ptr 1000004 0),(5,.ptr 1000005 0),(6,dI 18),(7,.ptr 1000007 0)] ((h29 1 2 3 4 5 6 7 8 9 10 11 12 13 14 15 16)++h5++(h44 21 22 23 24 25 26 27 28 29 30 31)) [.s,i6,i6] 2 (fun x K v=>uM (BB.mk x.1 0 x.2.2.2.2.1 (p5Q x).1 (p6Q x).1 (p7Q x).1 (p8Q x).1 (p9Q x).1 (zc4 x).1 x.2.2.1 (zc5 x).1 (zc6 x).1 (zg0 x).1 (zg1 x).1 (zlb x).1 (zzr x).1 x.2.2.2.1) x.2.1 (zzs x).1 (zEh x).1 (zEi x).1 (zIl x).1 (p21Q x).1 (p22Q x).1 (p23Q x).1 (p24Q x).1 (p25Q x).1 (p26Q x).1 (p27Q x).1 (p28Q x) K v) (.s .n (.s .n (.s (.j ⟨[(0,.ptr 1 0),(1,dI 17),(4,.ptr 1000004 0),(5,.ptr 1000005 0),(6,dI 18),(7,.ptr 1000007 0),(16,.d (.l (.st 12)) 19),(17,dI 20),(18,dI 21)],((h29 1 2 3 4 5 6 7 8 9 10 11 12 13 14 15 16)++h5++(h44 22 23 24 25 26 27 28 29 30 31 32)),k46,[.s,i6,i6]⟩ false .n) .n)))) .n)) (.s (.s (.j ⟨[(0,.ptr 1 0),(1,dI 17),(4,.ptr 1000004 0),(5,.ptr 1000005 0),(7,.ptr 1000007 0),(51,.d .b 29)],((h29 1 2 3 4 5 6 7 8 9 10 11 12 13 14 15 16)++h5++(h44 18 19 20 21 22 23 24 25 26 27 28)),k47,[.b]⟩ false .n) .n) .n))) .n)) .n))) Tryz.func40 rfl AA ⟨(zb6 KK),jt,vq,(vO KK),trivial⟩ ⟨⟨AN,(vr RK).1⟩,⟨AA,(vr RK).2⟩,trivial⟩ fun x=>by kernel_rfl).2⟩
theorem Ql(RK:Nat):ze PGq 40∧(wQ RK).OK PGq (pvT PT PC) 40:=⟨AA,(vr RK).2⟩
def Q3:CtP TS PC:=⟨[.ptr 1 0,.d .b 17,dI 18],(h29 1 9 16 2 3 4 5 6 7 8 10 11 12 13 14 15),k32,fun x=>Hc (VN x) (rBB x).1 (rBB x).2⟩
theorem WC:HBp 127 Q3:=ctp (T:=[(124,vY),(41,zo)]) (TP:=[(41,zO)]) (h:=.n) Tryz.func127 rfl zz0 ⟨vq,zm,trivial⟩ ⟨zK,trivial⟩ fun x=>by kernel_rfl
def WD:CtP TS PC:=⟨[.ptr 1 0],((h29 1 9 16 2 3 4 5 6 7 8 10 11 12 13 14 15)++h5),k30,fun x=>Za (yL x)⟩
theorem zfw:HBp 122 WD:=ctp (T:=[(125,zis),(133,yx),(40,xm KK),(43,vX KK),(127,Hp)]) (TP:=[(125,zlo),(133,xZ),(40,wQ KK),(127,Q3)]) (h:=.n) Tryz.func122 rfl zz1 ⟨zlk,yo,(vO KK),(qS KK),Av,trivial⟩ ⟨zsu,wa,(Ql KK),WC,trivial⟩ fun x=>by kernel_rfl
def Qm:CtP TS PC:=⟨[.ptr 1 0,.om 10],((h29 1 9 16 2 3 4 5 6 7 8 10 11 12 13 14 15)++h5),k30,fun x=>V0 (yL x)⟩
theorem zca:HBp 191 Qm:=ctp (T:=[(190,zF),(41,zo),(42,zH),(207,ya)]) (TP:=[(41,zO),(207,xe)]) (h:=.n) Tryz.func191 rfl kJ ⟨zB,zm,zA,zV,trivial⟩ ⟨zK,y8,trivial⟩ fun x=>by kernel_rfl
def ZC:CtP TS PC:=⟨[.ptr 1 0,.ci .i64 1],((h29 1 9 16 2 3 4 5 6 7 8 10 11 12 13 14 15)++h5),k30,fun x=>ze2 (yL x)⟩
theorem ziy:HBp 125 ZC:=zEj (cd:=cdO) (nb:=nbT) (T:=[(191,Hq)]) (TP:=[(191,Qm)]) (h:=.s .n (.s (.j ⟨[(0,.ptr 1 0),(1,dI 16)],((h48 1 2 7000001 3 4 5 6 7 8 9 10 11 12 13 14 15)++h5++(h36 7000001 17)),k37,[.l (.m (.s) (.b))]⟩ false .n) .n)) Tryz.func125 rfl oj ⟨Qd,trivial⟩ ⟨zca,trivial⟩ fun x=>by kernel_rfl
def Qn:CtP TS PC:=⟨[.ptr 1 0,.mp 15],((h49 1 17)++h5),k50,fun x=>V1 (VN x) (rBB x)⟩
theorem zcb:HBp 191 Qn:=ctp (T:=[(190,zF),(41,zo),(42,zH),(207,ya)]) (TP:=[(41,zO),(207,xe)]) (h:=.n) Tryz.func191 rfl kJ ⟨zB,zm,zA,zV,trivial⟩ ⟨zK,y8,trivial⟩ fun x=>by kernel_rfl
def Hy:CtP TS PC:=⟨[.ptr 1 0,dI 17],(h29 1 9 16 2 3 4 5 6 7 8 10 11 12 13 14 15),k40,fun x=>qO (VN x) (rBB x)⟩
theorem Qo:HBp 192 Hy:=ctp (T:=[(194,xY),(130,zS)]) (TP:=[(130,yU)]) (h:=.n) Tryz.func192 rfl zz2 ⟨xJ,zQ,trivial⟩ ⟨yV,trivial⟩ fun x=>by kernel_rfl
def ZD:CtP TS PC:=⟨[.ptr 1 0],((h29 1 9 16 2 3 4 5 6 7 8 10 11 12 13 14 15)++h5),k30,fun x=>ze3 (yL x)⟩
theorem ziz:HBp 123 ZD:=ctp (T:=[(125,Wn),(190,zF),(41,zo),(191,Hr),(192,qW),(133,yx)]) (TP:=[(125,ZC),(41,zO),(191,Qn),(192,Hy),(133,xZ)]) (h:=.s .n (.s .n (.s (.s (.lr ⟨[(0,.ptr 1 0),(2,.ptr 1000002 0),(3,.mp 1000007)],((h48 18 1 103000500 2 3 4 5 6 7 8 9 10 11 12 13 14)++h5++h51),k52,[i6,.m (.s) (.b),.l (.st 2)]⟩ [(0,.ptr 1 0),(2,.ptr 1000002 0)] ((h48 18 1 103000500 2 3 4 5 6 7 8 9 10 11 12 13 14)++h5++h53) [i6,.l (.st 2)] 0 (fun x K v=>oT (BB.mk x.1 0 x.2.2.2.1 x.2.2.2.2.1 (p5Q x).1 (p6Q x).1 (p7Q x).1 (p8Q x).1 (p9Q x).1 x.2.1 (zc4 x).1 [] (zc5 x).1 (zc6 x).1 (zg0 x).1 (zg1 x).1 x.2.2.1) (zlb x).1 (zzr x).1 (zzs x) K v) .n) .n) .n))) Tryz.func123 rfl zz3 ⟨Zs,zB,zm,Qf,uZ,yo,trivial⟩ ⟨ziy,zK,zcb,Qo,wa,trivial⟩ fun x=>by kernel_rfl
def Qp:CtP TS PC:=⟨[.ptr 1 0,.om 11],((h29 1 9 16 2 3 4 5 6 7 8 10 11 12 13 14 15)++h5),k30,fun x=>V2 (yL x)⟩
theorem zcc:HBp 191 Qp:=ctp (T:=[(190,zF),(41,zo),(42,zH),(207,ya)]) (TP:=[(41,zO),(207,xe)]) (h:=.n) Tryz.func191 rfl kJ ⟨zB,zm,zA,zV,trivial⟩ ⟨zK,y8,trivial⟩ fun x=>by kernel_rfl
def ZE:CtP TS PC:=⟨[.ptr 1 0,.ci .i64 2],((h29 1 9 16 2 3 4 5 6 7 8 10 11 12 13 14 15)++h5),k30,fun x=>V3 (yL x)⟩
theorem zi0:HBp 125 ZE:=zEj (cd:=cdO) (nb:=nbT) (T:=[(191,Hs)]) (TP:=[(191,Qp)]) (h:=.s .n (.s (.j ⟨[(0,.ptr 1 0),(1,dI 16)],((h54 1 2 7000001 3 4 5 6 7 8 9 10 11 12)++h5++(h36 7000001 17)),k37,[.l (.m (.s) (.b))]⟩ false .n) .n)) Tryz.func125 rfl oj ⟨Qg,trivial⟩ ⟨zcc,trivial⟩ fun x=>by kernel_rfl
def WE:CtP TS PC:=⟨[.ptr 1 0],(h29 1 9 16 2 3 4 5 6 7 8 10 11 12 13 14 15),k30,fun x=>qP (yL x)⟩
theorem zfx:HBp 126 WE:=ctp (T:=[(130,zS),(193,yf)]) (TP:=[(130,yU)]) (h:=.s .n (.s .n (.s (.lr ⟨[(0,.ptr 1 0),(3,.row 2 7000001)],((h29 16 1 2 3 4 5 6 7 8 9 10 11 12 13 14 15)++[(7000001,.row 156 (.st 4) 17 false)]),k55,[i6,.l (.st 4)]⟩ [] [] [] 999999999 (fun x K v=>uO (BB.mk x.1 0 x.2.2.2.1 x.2.2.2.2.1 (p5Q x).1 (p6Q x).1 (p7Q x).1 (p8Q x).1 (p9Q x).1 x.2.1 (zc4 x).1 (zc5 x).1 (zc6 x).1 (zg0 x).1 (zg1 x).1 (zlb x) x.2.2.1) K v) .n) .n))) Tryz.func126 rfl zz4 ⟨zQ,yg,trivial⟩ ⟨yV,trivial⟩ fun x=>by kernel_rfl
def Qq:CtP TS PC:=⟨[.ptr 1 0,.om 12],((h29 1 9 16 2 3 4 5 6 7 8 10 11 12 13 14 15)++h5),k30,fun x=>V4 (yL x)⟩
theorem zcd:HBp 191 Qq:=ctp (T:=[(190,zF),(41,zo),(42,zH),(207,ya)]) (TP:=[(41,zO),(207,xe)]) (h:=.n) Tryz.func191 rfl kJ ⟨zB,zm,zA,zV,trivial⟩ ⟨zK,y8,trivial⟩ fun x=>by kernel_rfl
def ZF:CtP TS PC:=⟨[.ptr 1 0,.ci .i64 3],((h29 1 9 16 2 3 4 5 6 7 8 10 11 12 13 14 15)++h5),k30,fun x=>ze4 (yL x)⟩
theorem zi1:HBp 125 ZF:=zEj (cd:=cdO) (nb:=nbT) (T:=[(191,Ht)]) (TP:=[(191,Qq)]) (h:=.s .n (.s (.j ⟨[(0,.ptr 1 0),(1,dI 16)],((h56 1 2 7000001 3 4 5 6 7 8 9 10 11 12 13 14 15)++h5++(h36 7000001 17)),k37,[.l (.m (.s) (.b))]⟩ false .n) .n)) Tryz.func125 rfl oj ⟨Qh,trivial⟩ ⟨zcd,trivial⟩ fun x=>by kernel_rfl
def zfy:CtP TS PC:=⟨[.ptr 1 0],((h29 1 9 16 2 3 4 5 6 7 8 10 11 12 13 14 15)++h5),k30,fun x=>zbt (yL x)⟩
theorem zod:HBp 195 zfy:=ctp (T:=[(207,ya),(190,zF)]) (TP:=[(207,xe)]) (h:=.s .n (.s .n (.s (.s (.lr ⟨[(0,.ptr 1 0),(3,.row 1 1000008)],((h29 16 1 2 3 4 5 6 7 8 9 10 11 12 13 14 15)++h5++(h57 1000008 17)),k55,[i6,.l (.s)]⟩ [(3,.row 1 1000008)] ((h29 16 1 2 3 4 5 6 7 8 9 10 11 12 13 14 15)++h5++(h57 1000008 17)) [i6,.l (.s)] 0 (fun x K v=>Hd (BB.mk x.1 0 x.2.2.2.1 x.2.2.2.2.1 (p5Q x).1 (p6Q x).1 (p7Q x).1 (p8Q x).1 (p9Q x).1 x.2.1 (zc4 x).1 (zc5 x).1 (zc6 x).1 (zg0 x).1 (zg1 x).1 (zlb x) x.2.2.1) K v) .n) .n) .n))) Tryz.func195 rfl zz5 ⟨zV,zB,trivial⟩ ⟨y8,trivial⟩ fun x=>by kernel_rfl
def u5:CtP TS PC:=⟨[.ptr 1 0,.d .s 17],((h29 1 9 16 2 3 4 5 6 7 8 10 11 12 13 14 15)++h5),k38,fun x=>j7 (VN x) (rBB x)⟩
theorem oW:HBp 129 u5:=ctp (T:=[(42,zH),(197,Wy),(41,zo)]) (TP:=[(41,zO)]) (h:=.s .n (.s .n (.s (.j ⟨[(0,.ptr 1 0),(5,dI 17)],((h29 1 2 3 4 5 6 7 8 9 10 11 12 13 14 15 16)++h5),k39,[]⟩ true .n) .n))) Tryz.func129 rfl zz6 ⟨zA,Q2,zm,trivial⟩ ⟨zK,trivial⟩ fun x=>by kernel_rfl
def zlp:CtP TS PC:=⟨[.ptr 1 0],((h29 1 9 16 2 3 4 5 6 7 8 10 11 12 13 14 15)++h5),k30,fun x=>zsc (yL x)⟩
theorem zsv:HBp 196 zlp:=ctp (T:=[(42,zH),(197,Wy),(41,zo),(129,vP)]) (TP:=[(41,zO),(129,u5)]) (h:=.s .n (.s .n (.s (.lr ⟨[(0,.ptr 1 0),(3,dI 17)],((h29 16 1 2 3 4 5 6 7 8 9 10 11 12 13 14 15)++h5),k55,[i6,i6]⟩ [] [] [] 999999999 (fun x K v=>Kb (BB.mk x.1 0 x.2.2.2.1 x.2.2.2.2.1 (p5Q x).1 (p6Q x).1 (p7Q x).1 (p8Q x).1 (p9Q x).1 x.2.1 (zc4 x).1 (zc5 x).1 (zc6 x).1 (zg0 x).1 (zg1 x).1 (zlb x) x.2.2.1) K v) (.s (.s .n (.s (.s (.j ⟨[(0,.ptr 1 0),(3,dI 17),(4,dI 18),(24,.d .b 19)],((h29 1 2 3 4 5 6 7 8 9 10 11 12 13 14 15 16)++h5),k58,[.b]⟩ false .n) .n) (.s (.j ⟨[(0,.ptr 1 0),(3,dI 17)],((h29 1 2 3 4 5 6 7 8 9 10 11 12 13 14 15 16)++h5),k39,[]⟩ true .n) .n))) .n)) .n))) Tryz.func196 rfl zz7 ⟨zA,Q2,zm,vQ,trivial⟩ ⟨zK,oW,trivial⟩ fun x=>by kernel_rfl
def zfz:CtP TS PC:=⟨[.ptr 1 0],((h29 1 9 16 2 3 4 5 6 7 8 10 11 12 13 14 15)++h5),k30,fun x=>zbu (yL x)⟩
theorem zoe:HBp 128 zfz:=ctp (T:=[(125,Wv),(194,xY),(195,zb7),(130,zS),(133,yx),(196,ziv),(129,vP),(40,xm KK),(43,vX KK),(127,Hp)]) (TP:=[(125,ZF),(195,zfy),(130,yU),(133,xZ),(196,zlp),(129,u5),(40,wQ KK),(127,Q3)]) (h:=.s .n (.s (.j ⟨[(0,.ptr 1 0),(2,.ptr 1000002 0)],((h56 22 1 103000400 2 3 4 5 6 7 8 9 10 11 12 13 14)++h5++(h59 23 17 18 18 18 19 18 18 18 20 20 21 18 18 18 18 18 18 18)),k60,[i6,.l (.s)]⟩ true .n) (.s (.j ⟨[(0,.ptr 1 0),(2,.ptr 1000002 0)],((h56 22 1 103000400 2 3 4 5 6 7 8 9 10 11 12 13 14)++h5++(h59 17 23 18 18 18 19 18 18 18 20 20 21 18 18 18 18 18 18 18)),k60,[i6,.l (.s)]⟩ true .n) (.s (.j ⟨[(0,.ptr 1 0),(2,.ptr 1000002 0)],((h56 23 1 103000400 2 3 4 5 6 7 8 9 10 11 12 13 14)++h5++(h59 17 18 24 19 19 20 19 19 19 21 21 22 19 19 19 19 19 19 19)),k61,[i6,i6]⟩ true .n) (.s (.j ⟨[(0,.ptr 1 0),(2,.ptr 1000002 0)],((h56 24 1 103000400 2 3 4 5 6 7 8 9 10 11 12 13 14)++h5++(h59 17 18 19 25 20 21 20 20 20 22 22 23 20 20 20 20 20 20 20)),k62,[i6,i6]⟩ true .n) (.s (.j ⟨[(0,.ptr 1 0),(2,.ptr 1000002 0)],((h56 25 1 103000400 2 3 4 5 6 7 8 9 10 11 12 13 14)++h5++(h59 17 18 19 20 26 21 22 22 22 23 23 24 22 22 22 22 22 22 22)),k63,[i6,i6]⟩ true .n) (.s .n (.s .n (.s (.j ⟨[(0,.ptr 1 0),(2,.ptr 1000002 0)],((h56 23 1 103000400 2 3 4 5 6 7 8 9 10 11 12 13 14)++h5++(h59 17 18 19 20 21 22 24 25 26 27 28 29 30 31 32 33 34 35 36)),k64,k65⟩ true .n) .n))))))))) Tryz.func128 rfl zz8 ⟨Zx,xJ,zfs,zQ,yo,zlm,vQ,(vO KK),(qS KK),Av,trivial⟩ ⟨zi1,zod,yV,wa,zsv,oW,(Ql KK),WC,trivial⟩ fun x=>by kernel_rfl
def Qr:CtP TS PC:=⟨[.ptr 1 0,.om 13],((h29 1 9 16 2 3 4 5 6 7 8 10 11 12 13 14 15)++h5),k30,fun x=>V5 (yL x)⟩
theorem zce:HBp 191 Qr:=ctp (T:=[(190,zF),(41,zo),(42,zH),(207,ya)]) (TP:=[(41,zO),(207,xe)]) (h:=.n) Tryz.func191 rfl kJ ⟨zB,zm,zA,zV,trivial⟩ ⟨zK,y8,trivial⟩ fun x=>by kernel_rfl
def ZG:CtP TS PC:=⟨[.ptr 1 0,.ci .i64 4],((h29 1 9 16 2 3 4 5 6 7 8 10 11 12 13 14 15)++h5),k30,fun x=>V6 (yL x)⟩
theorem zi2:HBp 125 ZG:=zEj (cd:=cdO) (nb:=nbT) (T:=[(191,Hu)]) (TP:=[(191,Qr)]) (h:=.s .n (.s (.j ⟨[(0,.ptr 1 0),(1,dI 16)],((h66 1 2 7000001 3 4 5 6 7 8 9 10 11 12 13 14)++h5++(h36 7000001 17)),k37,[.l (.m (.s) (.b))]⟩ false .n) .n)) Tryz.func125 rfl oj ⟨Qi,trivial⟩ ⟨zce,trivial⟩ fun x=>by kernel_rfl
def Qs:CtP TS PC:=⟨[.ptr 1 0,.om 14],((h29 1 9 16 2 3 4 5 6 7 8 10 11 12 13 14 15)++h5),k30,fun x=>V7 (yL x)⟩
theorem zcf:HBp 191 Qs:=ctp (T:=[(190,zF),(41,zo),(42,zH),(207,ya)]) (TP:=[(41,zO),(207,xe)]) (h:=.n) Tryz.func191 rfl kJ ⟨zB,zm,zA,zV,trivial⟩ ⟨zK,y8,trivial⟩ fun x=>by kernel_rfl
def ZH:CtP TS PC:=⟨[.ptr 1 0,.ci .i64 5],((h29 1 9 16 2 3 4 5 6 7 8 10 11 12 13 14 15)++h5),k30,fun x=>ze5 (yL x)⟩
theorem zi3:HBp 125 ZH:=zEj (cd:=cdO) (nb:=nbT) (T:=[(191,Hw)]) (TP:=[(191,Qs)]) (h:=.s .n (.s (.j ⟨[(0,.ptr 1 0),(1,dI 16)],((h67 1 2 7000001 3 4 5 6 7 8 9 10 11 12 13 14 15)++h5++(h36 7000001 17)),k37,[.l (.m (.s) (.b))]⟩ false .n) .n)) Tryz.func125 rfl oj ⟨Qj,trivial⟩ ⟨zcf,trivial⟩ fun x=>by kernel_rfl
def ZI:CtP TS PC:=⟨[.ptr 1 0],(h29 1 9 16 2 3 4 5 6 7 8 10 11 12 13 14 15),k30,fun x=>Jr (yL x)⟩
theorem zi4:HBp 198 ZI:=ctp (T:=[(130,zS)]) (TP:=[(130,yU)]) (h:=.n) Tryz.func198 rfl zz9 ⟨zQ,trivial⟩ ⟨yV,trivial⟩ fun x=>by kernel_rfl
def zf0:CtP TS PC:=⟨[.ptr 1 0],((h29 1 9 16 2 3 4 5 6 7 8 10 11 12 13 14 15)++h5),k30,fun x=>zbv (yL x)⟩
theorem zof:HBp 131 zf0:=ctp (T:=[(125,WA),(198,WB),(133,yx),(130,zS),(193,yf),(41,zo)]) (TP:=[(125,ZH),(198,ZI),(133,xZ),(130,yU),(41,zO)]) (h:=.s .n (.s .n (.s .n (.s .n (.s .n (.s (.s (.lr ⟨[(0,.ptr 1 0),(2,.ptr 1000002 0)],((h67 21 1 103000400 2 3 4 5 6 7 8 9 10 11 12 13 14)++h5++h68),k69,[i6,.l (.st 9)]⟩ [(0,.ptr 1 0),(2,.ptr 1000002 0)] ((h67 21 1 103000400 2 3 4 5 6 7 8 9 10 11 12 13 14)++h5++h68) [i6,.l (.st 9)] 0 (fun x K v=>He (BB.mk x.1 0 x.2.2.2.1 x.2.2.2.2.1 (p5Q x).1 (p6Q x).1 (p7Q x).1 (p8Q x).1 (p9Q x).1 x.2.1 (zc4 x).1 (zc5 x).1 (zc6 x).1 (zg0 x).1 (zg1 x).1 [] x.2.2.1) (zlb x).1 (zzr x).1 (zzs x).1 (zEh x).1 (zEi x).1 (zIl x) K v) .n) .n) .n)))))) Tryz.func131 rfl zAa ⟨Zz,ZA,yo,zQ,yg,zm,trivial⟩ ⟨zi3,zi4,wa,yV,zK,trivial⟩ fun x=>by kernel_rfl
def zlq:CtP TS PC:=⟨[.ptr 1 0],(h29 1 9 16 2 3 4 5 6 7 8 10 11 12 13 14 15),k30,fun x=>zii (yL x)⟩
theorem zsw:HBp 132 zlq:=ctp (T:=[(124,vY),(41,zo),(193,yf),(192,qW),(130,zS),(194,xY),(133,yx)]) (TP:=[(41,zO),(192,Hy),(130,yU),(133,xZ)]) (h:=.s (.s .n (.s (.lr ⟨[(0,.ptr 1 0),(2,.d .b 17)],(h29 15 1 2 3 4 5 6 7 8 16 9 10 11 12 13 14),k70,[i6,.l (.st 9),.b]⟩ [(0,.ptr 1 0)] (h29 15 1 2 3 4 5 6 7 8 16 9 10 11 12 13 14) [i6,.l (.st 9)] 0 (fun x K v=>Kc (BB.mk x.1 0 x.2.2.2.1 x.2.2.2.2.1 (p5Q x).1 (p6Q x).1 (p7Q x).1 (p8Q x).1 [] x.2.1 (p9Q x).1 (zc4 x).1 (zc5 x).1 (zc6 x).1 (zg0 x).1 (zg1 x) x.2.2.1) K v) (.s .n (.s (.s (.s (.j ⟨[(0,.ptr 1 0)],(h29 1 2 3 4 5 6 7 8 9 10 11 12 13 14 15 16),k71,[]⟩ true .n) .n) .n) .n))) .n)) .n) Tryz.func132 rfl zAb ⟨vq,zm,yg,uZ,zQ,xJ,yo,trivial⟩ ⟨zK,Qo,yV,wa,trivial⟩ fun x=>by kernel_rfl
def WG:CtP TS PC:=⟨[.ptr 1 0],((h29 1 9 16 2 3 4 5 6 7 8 10 11 12 13 14 15)++h5),k30,fun x=>zk7 (yL x)⟩
theorem zog:HBp 36 WG:=ctp (T:=[(42,zH),(121,zb5),(122,KE),(123,Wo),(124,vY),(125,Wq),(126,KF),(94,Q0),(127,Hp),(128,zb8),(125,Wz),(129,vP),(130,zS),(131,zb9),(41,zo),(132,ziw),(133,yx)]) (TP:=[(121,zfv),(122,WD),(123,ZD),(125,ZE),(126,WE),(127,Q3),(128,zfz),(125,ZG),(129,u5),(130,yU),(131,zf0),(41,zO),(132,zlq),(133,xZ),(134,Hx)]) (h:=.s (.lr ⟨[(0,.ptr 1 0)],((h72 1 2 7000001 7000002 7000003 7000004 7000005 7000006 3 4 5 6 7 8 9 10)++h5++(h73 7000001 11 7000002 12 7000003 13 7000004 14 7000005 15 7000006 16)),[.l (.st 11)],k74⟩ [] ((h72 1 2 7000001 7000002 7000003 7000004 7000005 7000006 3 4 5 6 7 8 9 10)++h5++(h73 7000001 11 7000002 12 7000003 13 7000004 14 7000005 15 7000006 16)) k74 0 (fun x K v=>yc (BB.mk x 0 [] [] [] [] [] [] [] 0 [] [] [] [] [] [] false) K v) .n) .n) Tryz.func36 rfl zG1 ⟨zA,zfo,Wm,Zt,vq,Zu,Wr,Wu,Av,zft,Zy,vQ,zQ,zfu,zm,zln,yo,trivial⟩ ⟨zoc,zfw,ziz,zi0,zfx,WC,zoe,zi2,oW,yV,zof,zK,zsw,wa,Qk,trivial⟩ fun x=>by kernel_rfl
def Qt:Ct TS:=⟨[.ptr 1 0,.fn 36 [.ptr 1 0] []],((h29 1 9 16 2 3 4 5 6 7 8 10 11 12 13 14 15)++h5),k30,.tup [dI 17,dI 18],((h72 19 20 7001001 7001002 7001003 7001004 7001005 7001006 21 22 23 24 25 26 27 28)++h5++(h73 7001001 29 7001002 30 7001003 31 7001004 32 7001005 33 7001006 34)),[i6,i6,i6,i6,.b,.l (.st 1),.l (.st 3),.l (.st 5),.l (.st 7),.l (.st 8),.l (.st 10),.l (.st 9),.l (.m (.s) (.b)),.l (.m (.s) (.b)),.l (.m (.s) (.b)),.l (.m (.s) (.b)),.l (.m (.s) (.b)),.l (.m (.s) (.b))],true,fun x=>K8 (yL x)⟩
theorem zcg:Qt.OK PGq 35:=fun x r h=>by
 obtain⟨q,h1,h2⟩:=bind_some h;cases h2;exact kmp (by kernel_rfl) (zey (F:=hV (jX Aw.hin (yr (S:=TS) Aw.ci x))) (F':=hV (jX Aw.hout (yr (S:=TS) Aw.ci x++yr (S:=TS) Aw.co q))) (a:=.ptr 1 0 0) (pv:=.ptr 1 0 0) (kmp (by kernel_rfl) (zst.2 x q h1)))
def Jz:Ct TS:=⟨[.ptr 1 0,.fn 36 [.ptr 1 0] []],((h29 1 9 16 2 3 4 5 6 7 8 10 11 12 13 14 15)++h5),k30,.tup [dI 17,dI 18],([(1,.rw 0),(2,.rw 0),(3,.rw 0),(4,.rw 0),(5,.rw 0),(6,.rw 0),(7,.rw 0),(8,.rw 0),(9,.rw 0),(10,.rw 0),(11,.rw 0),(12,.rw 0),(13,.rw 0),(14,.rw 0)]++h5),[i6,i6],true,fun x=>Js (yL x)⟩
theorem Ys:Jz.OK PGq 35:=fun x r h=>kmp (by kernel_rfl) (zbm (F:=hV (jX WG.hin (yr (S:=TS) WG.ci x))) (a:=.ptr 1 0 0) (pv:=.ptr 1 0 0) (x:=r.1) (y:=r.2) (kmp (by kernel_rfl) (zog.2 x r h)))
def zsx:Ct TS:=⟨[.d .s 0],h5,[.s],.tup [.ag [.row 6 7000002,.row 3 7000003,.row 3 7000004,.row 20 7000005,.row 4 7000006,.row 6 7000007,.d (.l (.st 9)) 3,dI 4],dI 1,dI 2],(h75 7000001 7000002 7000003 7000004 7000005 7000006 7000007 3 4 5 6 7 8 9 10),k76,false,fun x=>Hf x⟩
theorem zxi:HBc 10 zsx:=ctg (cd:=cdT) (nb:=QA) (rc:=[(2,7000001,0)]) (T:=[(21,zb1),(35,Qt),(35,Jz)]) (h:=.n) Tryz.func10 rfl hbv10 ⟨zb2,⟨zxf,zcg⟩,⟨zxf,Ys⟩,trivial⟩ fun x=>by kernel_rfl
def zf1:Ct TS:=⟨[.d (.st 1) 0],[],[.st 1],.d .s 1,[],[.s],false,fun x=>ze6 x⟩
theorem zoh:HBc 80 zf1:=ctk (T:=[]) (h:=.n) Tryz.func80 rfl hbv80 trivial fun x=>by kernel_rfl
def u6:Ct TS:=⟨[.d (.l (.s)) 0,.d .b 1],h5,[.l (.s),.b],.d .b 2,h5,[.b],false,u2Q kZ⟩
theorem kM:HBc 179 u6:=ctk (T:=[(16,Zp)]) (h:=.s .n (.s .n (.s (.s .n (.s (.lr ⟨[(1,.d .b 0),(5,.mp 1000008),(9,.d (.l (.s)) 1),(10,dI 2),(11,dI 3)],[(900000000,.rw 1),(900000001,.rw 2),(900000002,.rw 3),(900000003,.rw 4),(1000008,.map (.s) (.b) 4)],[.b,.l (.s),i6],[i6,.m (.s) (.b)]⟩ [] h5 [] 0 (u3Q Kd) (.s .n (.s .n (.s (.s (.s .n (.s (.s (.j ⟨[(1,.d .b 0),(5,.mp 1000008),(7,.d .s 1),(9,.d (.l (.s)) 2),(10,dI 3),(11,dI 4),(25,.d .b 6)],[(900000000,.rw 1),(900000001,.rw 2),(900000002,.rw 3),(900000003,.rw 4),(1000008,.map (.s) (.b) 5)],[.b,.s,.l (.s),i6,i6,.m (.s) (.b)],[.b]⟩ false .n) .n) .n)) .n) .n)))) .n)) .n))) Tryz.func179 rfl zG2 ⟨Wf,trivial⟩ fun x=>by kernel_rfl
def zlr:Ct TS:=⟨[.d (.l (.st 1)) 0,dI 1,.fn 80 [] []],h5,[.l (.st 1),i6],.d .b 2,h5,[.b],false,u2Q zk8⟩
theorem zsy:HBc 79 zlr:=ctk (T:=[(80,zf1),(179,u6)]) (h:=.s .n (.s .n (.s (.s .n (.s (.l ⟨[(0,.d (.l (.st 1)) 0),(1,dI 1),(2,.fn 80 [] []),(7,.row 1 7000001),(10,.d (.l (.st 1)) 0),(11,dI 2),(12,dI 3)],(h77 4),[.l (.st 1),i6,i6],[i6,.l (.s)]⟩ [(0,.d (.l (.st 1)) 0),(1,dI 1),(7,.row 1 7000001)] (h77 3) [.l (.s)] 0 (u3Q Hg) .n) .n)) .n))) Tryz.func79 rfl hbv79 ⟨zoh,kM,trivial⟩ fun x=>by kernel_rfl
def zf2:Ct TS:=⟨[.d (.st 3) 0],[],[.st 3],.d .s 1,[],[.s],false,fun x=>ze7 x⟩
theorem zoi:HBc 82 zf2:=ctk (T:=[]) (h:=.n) Tryz.func82 rfl hbv82 trivial fun x=>by kernel_rfl
def ZJ:Ct TS:=⟨[.d (.l (.st 3)) 0,dI 1,.fn 82 [] []],h5,[.l (.st 3),i6],.d .b 2,h5,[.b],false,u2Q Zb⟩
theorem zi5:HBc 81 ZJ:=ctk (T:=[(82,zf2),(179,u6)]) (h:=.s .n (.s .n (.s (.s .n (.s (.l ⟨[(0,.d (.l (.st 3)) 0),(1,dI 1),(2,.fn 82 [] []),(7,.row 1 7000001),(10,.d (.l (.st 3)) 0),(11,dI 2),(12,dI 3)],(h77 4),[.l (.st 3),i6,i6],[i6,.l (.s)]⟩ [(0,.d (.l (.st 3)) 0),(1,dI 1),(7,.row 1 7000001)] (h77 3) [.l (.s)] 0 (u3Q uP) .n) .n)) .n))) Tryz.func81 rfl hbv81 ⟨zoi,kM,trivial⟩ fun x=>by kernel_rfl
def zf3:Ct TS:=⟨[.d (.st 5) 0],[],[.st 5],.d .s 1,[],[.s],false,fun x=>ze8 x⟩
theorem zoj:HBc 84 zf3:=ctk (T:=[]) (h:=.n) Tryz.func84 rfl hbv84 trivial fun x=>by kernel_rfl
def ZK:Ct TS:=⟨[.d (.l (.st 5)) 0,dI 1,.fn 84 [] []],h5,[.l (.st 5),i6],.d .b 2,h5,[.b],false,u2Q Zc⟩
theorem zi6:HBc 83 ZK:=ctk (T:=[(84,zf3),(179,u6)]) (h:=.s .n (.s .n (.s (.s .n (.s (.l ⟨[(0,.d (.l (.st 5)) 0),(1,dI 1),(2,.fn 84 [] []),(7,.row 1 7000001),(10,.d (.l (.st 5)) 0),(11,dI 2),(12,dI 3)],(h77 4),[.l (.st 5),i6,i6],[i6,.l (.s)]⟩ [(0,.d (.l (.st 5)) 0),(1,dI 1),(7,.row 1 7000001)] (h77 3) [.l (.s)] 0 (u3Q uQ) .n) .n)) .n))) Tryz.func83 rfl hbv83 ⟨zoj,kM,trivial⟩ fun x=>by kernel_rfl
def zf4:Ct TS:=⟨[.d (.st 7) 0],[],[.st 7],.d .s 1,[],[.s],false,fun x=>ze9 x⟩
theorem zok:HBc 86 zf4:=ctk (T:=[]) (h:=.n) Tryz.func86 rfl hbv86 trivial fun x=>by kernel_rfl
def ZL:Ct TS:=⟨[.d (.l (.st 7)) 0,dI 1,.fn 86 [] []],h5,[.l (.st 7),i6],.d .b 2,h5,[.b],false,u2Q Zd⟩
theorem zi7:HBc 85 ZL:=ctk (T:=[(86,zf4),(179,u6)]) (h:=.s .n (.s .n (.s (.s .n (.s (.l ⟨[(0,.d (.l (.st 7)) 0),(1,dI 1),(2,.fn 86 [] []),(7,.row 1 7000001),(10,.d (.l (.st 7)) 0),(11,dI 2),(12,dI 3)],(h77 4),[.l (.st 7),i6,i6],[i6,.l (.s)]⟩ [(0,.d (.l (.st 7)) 0),(1,dI 1),(7,.row 1 7000001)] (h77 3) [.l (.s)] 0 (u3Q uR) .n) .n)) .n))) Tryz.func85 rfl hbv85 ⟨zok,kM,trivial⟩ fun x=>by kernel_rfl
def zf5:Ct TS:=⟨[.d (.st 8) 0],[],[.st 8],.d .s 1,[],[.s],false,fun x=>zfa x⟩
theorem zol:HBc 88 zf5:=ctk (T:=[]) (h:=.n) Tryz.func88 rfl hbv88 trivial fun x=>by kernel_rfl
def ZN:Ct TS:=⟨[.d (.l (.st 8)) 0,dI 1,.fn 88 [] []],h5,[.l (.st 8),i6],.d .b 2,h5,[.b],false,u2Q Ze⟩
theorem zi8:HBc 87 ZN:=ctk (T:=[(88,zf5),(179,u6)]) (h:=.s .n (.s .n (.s (.s .n (.s (.l ⟨[(0,.d (.l (.st 8)) 0),(1,dI 1),(2,.fn 88 [] []),(7,.row 1 7000001),(10,.d (.l (.st 8)) 0),(11,dI 2),(12,dI 3)],(h77 4),[.l (.st 8),i6,i6],[i6,.l (.s)]⟩ [(0,.d (.l (.st 8)) 0),(1,dI 1),(7,.row 1 7000001)] (h77 3) [.l (.s)] 0 (u3Q uS) .n) .n)) .n))) Tryz.func87 rfl hbv87 ⟨zol,kM,trivial⟩ fun x=>by kernel_rfl
def zf6:Ct TS:=⟨[.d (.st 10) 0],[],[.st 10],.d .s 1,[],[.s],false,fun x=>zfb x⟩
theorem zom:HBc 90 zf6:=ctk (T:=[]) (h:=.n) Tryz.func90 rfl hbv90 trivial fun x=>by kernel_rfl
def ZO:Ct TS:=⟨[.d (.l (.st 10)) 0,dI 1,.fn 90 [] []],h5,[.l (.st 10),i6],.d .b 2,h5,[.b],false,u2Q Zf⟩
theorem zi9:HBc 89 ZO:=ctk (T:=[(90,zf6),(179,u6)]) (h:=.s .n (.s .n (.s (.s .n (.s (.l ⟨[(0,.d (.l (.st 10)) 0),(1,dI 1),(2,.fn 90 [] []),(7,.row 1 7000001),(10,.d (.l (.st 10)) 0),(11,dI 2),(12,dI 3)],(h77 4),[.l (.st 10),i6,i6],[i6,.l (.s)]⟩ [(0,.d (.l (.st 10)) 0),(1,dI 1),(7,.row 1 7000001)] (h77 3) [.l (.s)] 0 (u3Q uT) .n) .n)) .n))) Tryz.func89 rfl hbv89 ⟨zom,kM,trivial⟩ fun x=>by kernel_rfl
def zf7:Ct TS:=⟨[.d (.st 2) 0],[],[.st 2],.d .s 1,[],[.s],false,fun x=>zfc x⟩
theorem zon:HBc 92 zf7:=ctk (T:=[]) (h:=.n) Tryz.func92 rfl hbv92 trivial fun x=>by kernel_rfl
def ZP:Ct TS:=⟨[.d (.l (.st 2)) 0,dI 1,.fn 92 [] []],h5,[.l (.st 2),i6],.d .b 2,h5,[.b],false,u2Q Zg⟩
theorem zja:HBc 91 ZP:=ctk (T:=[(92,zf7),(179,u6)]) (h:=.s .n (.s .n (.s (.s .n (.s (.l ⟨[(0,.d (.l (.st 2)) 0),(1,dI 1),(2,.fn 92 [] []),(7,.row 1 7000001),(10,.d (.l (.st 2)) 0),(11,dI 2),(12,dI 3)],(h77 4),[.l (.st 2),i6,i6],[i6,.l (.s)]⟩ [(0,.d (.l (.st 2)) 0),(1,dI 1),(7,.row 1 7000001)] (h77 3) [.l (.s)] 0 (u3Q uU) .n) .n)) .n))) Tryz.func91 rfl hbv91 ⟨zon,kM,trivial⟩ fun x=>by kernel_rfl
def zch:Ct TS:=⟨[dI 0,dI 1,.d (.l i6) 2],[],[i6,i6,.l i6],.d .b 3,[],[.b],false,u3Q yS⟩
theorem zf8:HBc 93 zch:=ctk (T:=[]) (h:=.s .n (.s (.s .n (.s (.lr ⟨[(0,dI 0),(1,dI 1),(9,.d (.l i6) 2),(10,dI 3),(11,dI 4)],[],[i6,i6,.l i6,i6],[i6]⟩ [] [] [] 0 (u4Q Hh) (.s .n (.s .n (.s (.s (.s .n (.s (.j ⟨[(0,dI 0),(1,dI 1),(9,.d (.l i6) 2),(10,dI 3),(11,dI 4),(22,.d .b 5)],[],[i6,i6,.l i6,i6,i6],[.b]⟩ false .n) .n)) .n) .n)))) .n)) .n)) Tryz.func93 rfl hbv93 trivial fun x=>by kernel_rfl
def AP:Ct TS:=⟨[.d (.l (.s)) 0,.d (.l (.s)) 1],[],[.l (.s),.l (.s)],.d .b 2,[],[.b],false,u2Q k8⟩
theorem WH:HBc 188 AP:=ctk (T:=[]) (h:=.s .n (.s .n (.s (.s .n (.s (.lr ⟨[(0,.d (.l (.s)) 0),(1,.d (.l (.s)) 1),(12,dI 2),(13,dI 3)],[],[.l (.s),.l (.s),i6],[i6]⟩ [] [] [] 0 (u3Q vM) .n) .n)) .n))) Tryz.func188 rfl zG3 trivial fun x=>by kernel_rfl
def vt(RK:Nat):Ct TS:=⟨[.d (.l (.st 0)) 0,.d (.l (.st 0)) 1,.fn 104 [] []],[],[.l (.st 0),.l (.st 0)],.d .b 2,[],[.b],false,fun x=>kI RK x.1 x.2⟩
def qX(RK:Nat):Ct TS:=⟨[.d (.st 0) 0,.d (.st 0) 1],[],[.st 0,.st 0],.d .b 2,[],[.b],false,fun x=>At RK x.1 x.2⟩
theorem wD:∀RK,(vt RK).OK PGq 187∧(qX RK).OK PGq 104
 |0=>⟨(fun x r h=>nomatch (show(none:Option _)=some r from h)),(fun x r h=>nomatch (show(none:Option _)=some r from h))⟩
 |RK+1=>⟨(ctk (c:=vt (RK+1)) (T:=[(104,qX RK)]) (h:=.s .n (.s .n (.s (.s .n (.s (.lr ⟨[(1,.d (.l (.st 0)) 0),(2,.fn 104 [] []),(15,.d (.l (.st 0)) 1),(16,dI 2),(17,dI 3)],[],[.l (.st 0),.l (.st 0),i6],[i6]⟩ [] [] [] 0 (fun x K v=>xV (At RK) x.1 x.2.1 x.2.2 K v) .n) .n)) .n))) Tryz.func187 rfl zAc ⟨⟨zsl,(wD RK).2⟩,trivial⟩ fun x=>by kernel_rfl).2,(ctk (c:=qX (RK+1)) (T:=[(187,vt RK)]) (h:=.n) Tryz.func104 rfl zsl ⟨⟨zAc,(wD RK).1⟩,trivial⟩ fun x=>by kernel_rfl).2⟩
theorem zjb(RK:Nat):ze PGq 104∧(qX RK).OK PGq 104:=⟨zsl,(wD RK).2⟩
def ZQ:Ct TS:=⟨[.d (.st 7) 0,.d (.st 7) 1],[],[.st 7,.st 7],.d .b 2,[],[.b],false,u2Q Zh⟩
theorem zjc:HBc 115 ZQ:=ctk (T:=[(188,AP),(104,qX KK)]) (h:=.s .n (.s (.s (.j ⟨[(2,.ptr 1000002 0),(3,.ptr 1000003 0),(27,.d .b 40)],(h78 0 1 2 3 4 5 6 7 8 9 10 11 12 13 14 15 16 17 18 19 20 21 22 23 24 25 26 27 28 29 30 31 32 33 34 35 36 37 38 39),k79,[.b]⟩ false .n) .n) (.s (.j ⟨[(2,.ptr 1000002 0),(3,.ptr 1000003 0),(5,.d .b 40)],(h78 0 1 2 3 4 5 6 7 8 9 10 11 12 13 14 15 16 17 18 19 20 21 22 23 24 25 26 27 28 29 30 31 32 33 34 35 36 37 38 39),k79,[.b]⟩ false .n) .n))) Tryz.func115 rfl zG4 ⟨WH,(zjb KK),trivial⟩ fun x=>by kernel_rfl
def WI:Ct TS:=⟨[.d (.st 7) 0],h5,[.st 7],.d .b 1,h5,[.b],false,fun x=>V8 x⟩
theorem zf9:HBc 95 WI:=ctk (T:=[(179,u6),(93,zch),(20,kq),(115,ZQ)]) (h:=.s .n (.s (.s (.j ⟨[(1,.ptr 1000001 0),(37,.d .b 20)],[(900000000,.rw 1),(900000001,.rw 2),(900000002,.rw 3),(900000003,.rw 4),(1000001,.box 94 [.d .s 0,.d (.l (.s)) 1,.d (.l (.s)) 2,dI 3,dI 4,dI 5,.d .b 6,dI 7,dI 8,dI 9,.d .s 10,.d .s 11,.d (.l (.st 0)) 12,dI 13,dI 14,dI 15,dI 16,dI 17,dI 18,dI 19])],k80,[.b]⟩ false .n) .n) (.s .n (.s .n (.s (.j ⟨[(1,.ptr 1000001 0),(3,.ptr 1000003 0),(4,.d .b 20)],[(900000000,.rw 1),(900000001,.rw 2),(900000002,.rw 3),(900000003,.rw 4),(1000001,.box 94 [.d .s 0,.d (.l (.s)) 1,.d (.l (.s)) 2,dI 3,dI 4,dI 5,.d .b 6,dI 7,dI 8,dI 9,.d .s 10,.d .s 11,.d (.l (.st 0)) 12,dI 13,dI 14,dI 15,dI 16,dI 17,dI 18,dI 19]),(1000003,.box 94 [.d .s 0,.d (.l (.s)) 1,.d (.l (.s)) 2,dI 3,dI 4,dI 5,.d .b 6,dI 7,dI 21,dI 22,.d .s 23,.d .s 24,.d (.l (.st 0)) 25,dI 26,dI 27,dI 28,dI 29,dI 30,dI 31,dI 32])],k80,[.b,i6,i6,.s,.s,.l (.st 0),i6,i6,i6,i6,i6,i6,i6]⟩ false .n) .n))))) Tryz.func95 rfl hbv95 ⟨kM,zf8,kL,zjc,trivial⟩ fun x=>by kernel_rfl
def zjd:Ct TS:=⟨[.d (.st 14) 0],h5,[.st 14],.d .b 1,h5,[.b],false,fun x=>zbw x⟩
theorem zls:HBc 28 zjd:=ctk (T:=[(79,zlr),(81,ZJ),(83,ZK),(85,ZL),(87,ZN),(89,ZO),(20,kq),(91,ZP),(93,zch),(94,Q0),(95,WI)]) (h:=.s .n (.s (.s (.j ⟨[(1,.ptr 1000001 0),(54,.d .b 8)],(h81 1000001 0 1 2 3 4 5 6 7),k4,[.b]⟩ false .n) .n) (.s (.s .n (.s (.lr ⟨[(1,.ptr 1000001 0),(56,.d (.l (.st 1)) 0),(57,dI 1),(58,dI 9)],(h81 1000001 0 2 3 4 5 6 7 8),k82,[i6]⟩ [(1,.ptr 1000001 0)] (h81 1000001 0 2 3 4 5 6 7 8) [] 0 (u9Q Ke) .n) .n)) (.s (.s .n (.s (.lr ⟨[(1,.ptr 1000001 0),(68,.d (.l (.st 3)) 0),(69,dI 1),(70,dI 9)],(h81 1000001 2 0 3 4 5 6 7 8),k83,[i6]⟩ [(1,.ptr 1000001 0)] (h81 1000001 2 0 3 4 5 6 7 8) [] 2 (u9Q Kg) (.s .n (.s .n (.s (.s (.s .n (.s (.s (.j ⟨[(1,.ptr 1000001 0),(6,.ptr 1000006 0),(68,.d (.l (.st 3)) 0),(69,dI 1),(70,dI 2),(84,.d .b 13)],[(900000000,.rw 1),(900000001,.rw 2),(900000002,.rw 3),(900000003,.rw 4),(1000001,.box 31 [.d (.l (.st 1)) 3,.d (.l (.st 3)) 0,.d (.l (.st 5)) 4,.d (.l (.st 7)) 5,.d (.l (.st 8)) 6,.d (.l (.st 10)) 7,.d (.l (.st 9)) 8,dI 9]),(1000006,.box 87 [.d .s 10,.d (.l (.st 2)) 11,dI 12])],[.l (.st 3),i6,i6,.l (.st 1),.l (.st 5),.l (.st 7),.l (.st 8),.l (.st 10),.l (.st 9),i6,.s,.l (.st 2),i6],[.b]⟩ false .n) .n) (.s .n (.s (.lr ⟨[(1,.ptr 1000001 0),(68,.d (.l (.st 3)) 0),(69,dI 1),(70,dI 2),(86,.d (.l (.st 2)) 3),(87,dI 4),(88,dI 12)],(h81 1000001 5 0 6 7 8 9 10 11),[.l (.st 3),i6,i6,.l (.st 2),i6,.l (.st 1),.l (.st 5),.l (.st 7),.l (.st 8),.l (.st 10),.l (.st 9),i6],[i6]⟩ [(1,.ptr 1000001 0),(68,.d (.l (.st 3)) 0),(69,dI 1),(70,dI 2)] (h81 1000001 5 0 6 7 8 9 10 11) [] 4 (u12Q Kf) .n) .n)))) .n) .n)))) .n)) (.s (.s .n (.s (.lr ⟨[(1,.ptr 1000001 0),(100,.d (.l (.st 5)) 0),(101,dI 1),(102,dI 9)],(h81 1000001 2 3 0 4 5 6 7 8),k84,[i6]⟩ [(1,.ptr 1000001 0)] (h81 1000001 2 3 0 4 5 6 7 8) [] 6 (u9Q Kh) .n) .n)) (.s (.s .n (.s (.lr ⟨[(1,.ptr 1000001 0),(112,.d (.l (.st 7)) 0),(113,dI 1),(114,dI 9)],(h81 1000001 2 3 4 0 5 6 7 8),k85,[i6]⟩ [(1,.ptr 1000001 0)] (h81 1000001 2 3 4 0 5 6 7 8) [] 8 (u9Q Ki) .n) .n)) (.s (.s .n (.s (.lr ⟨[(1,.ptr 1000001 0),(123,.d (.l (.st 8)) 0),(124,dI 1),(125,dI 9)],(h81 1000001 2 3 4 5 0 6 7 8),k86,[i6]⟩ [(1,.ptr 1000001 0)] (h81 1000001 2 3 4 5 0 6 7 8) [] 10 (u9Q Kj) (.s .n (.s .n (.s (.s (.s .n (.s (.j ⟨[(1,.ptr 1000001 0),(123,.d (.l (.st 8)) 0),(124,dI 1),(125,dI 2),(146,.d .b 10)],(h81 1000001 3 4 5 6 0 7 8 9),[.l (.st 8),i6,i6,.l (.st 1),.l (.st 3),.l (.st 5),.l (.st 7),.l (.st 10),.l (.st 9),i6],[.b]⟩ false .n) .n)) .n) .n)))) .n)) (.s (.s .n (.s (.lr ⟨[(1,.ptr 1000001 0),(149,.d (.l (.st 10)) 0),(150,dI 1),(151,dI 9)],(h81 1000001 2 3 4 5 6 0 7 8),k87,[i6]⟩ [(1,.ptr 1000001 0)] (h81 1000001 2 3 4 5 6 0 7 8) [] 12 (u9Q Kl) (.s .n (.s .n (.s (.s (.s .n (.s (.s (.j ⟨[(1,.ptr 1000001 0),(16,.ptr 1000016 0),(149,.d (.l (.st 10)) 0),(150,dI 1),(151,dI 2),(167,.d .b 16)],[(900000000,.rw 1),(900000001,.rw 2),(900000002,.rw 3),(900000003,.rw 4),(1000001,.box 31 [.d (.l (.st 1)) 3,.d (.l (.st 3)) 4,.d (.l (.st 5)) 5,.d (.l (.st 7)) 6,.d (.l (.st 8)) 7,.d (.l (.st 10)) 0,.d (.l (.st 9)) 8,dI 9]),(1000016,.box 100 [.d .s 10,dI 11,dI 12,dI 13,dI 14,.d (.l (.st 9)) 15])],[.l (.st 10),i6,i6,.l (.st 1),.l (.st 3),.l (.st 5),.l (.st 7),.l (.st 8),.l (.st 9),i6,.s,i6,i6,i6,i6,.l (.st 9)],[.b]⟩ false .n) .n) (.s .n (.s (.lr ⟨[(1,.ptr 1000001 0),(149,.d (.l (.st 10)) 0),(150,dI 1),(151,dI 2),(173,.row 3 1000170),(174,dI 3),(175,dI 12)],(h88 4 5 6 7 8 9 10 11),[.l (.st 10),i6,i6,i6,.l (.st 1),.l (.st 3),.l (.st 5),.l (.st 7),.l (.st 8),.l (.st 9),i6,.l (.st 9)],[i6]⟩ [(1,.ptr 1000001 0),(149,.d (.l (.st 10)) 0),(150,dI 1),(151,dI 2)] (h81 1000001 4 5 6 7 8 0 9 10) [] 14 (u12Q Kk) (.s .n (.s .n (.s (.s (.s .n (.s (.j ⟨[(1,.ptr 1000001 0),(149,.d (.l (.st 10)) 0),(150,dI 1),(151,dI 2),(173,.row 3 1000170),(174,dI 3),(175,dI 4),(192,.d .b 13)],(h88 5 6 7 8 9 10 11 12),[.l (.st 10),i6,i6,i6,i6,.l (.st 1),.l (.st 3),.l (.st 5),.l (.st 7),.l (.st 8),.l (.st 9),i6,.l (.st 9)],[.b]⟩ false .n) .n)) .n) .n)))) .n)))) .n) .n)))) .n)) (.s (.s .n (.s (.lr ⟨[(1,.ptr 1000001 0),(196,.d (.l (.st 9)) 0),(197,dI 1),(198,dI 9)],(h81 1000001 2 3 4 5 6 7 0 8),k89,[i6]⟩ [(1,.ptr 1000001 0)] (h81 1000001 2 3 4 5 6 7 0 8) [] 16 (u9Q Km) (.s .n (.s .n (.s (.s (.s .n (.s (.j ⟨[(1,.ptr 1000001 0),(196,.d (.l (.st 9)) 0),(197,dI 1),(198,dI 2),(215,.d .b 10)],(h81 1000001 3 4 5 6 7 8 0 9),[.l (.st 9),i6,i6,.l (.st 1),.l (.st 3),.l (.st 5),.l (.st 7),.l (.st 8),.l (.st 10),i6],[.b]⟩ false .n) .n)) .n) .n)))) .n)) .n))))))))) Tryz.func28 rfl hbv28 ⟨zsy,zi5,zi6,zi7,zi8,zi9,kL,zja,zf8,Wu,zf9,trivial⟩ fun x=>by kernel_rfl
def KJ:Ct TS:=⟨[.ptr 1 0],[(1,.gn 1 (.s) 0)],[.s],.d .s 1,[(1,.gn 1 (.s) 0)],[.s],false,fun x=>Ko x⟩
theorem WJ:KJ.OK PGq 60:=fun x r h=>by
 cases h;exact kmp (by kernel_rfl) (J3 (T:=123) 1 x)
def zci:Ct TS:=⟨[.ptr 1 0,.d (.i .u8) 1],[(1,.gn 1 (.s) 0)],[.s,.i .u8],.nili,[(1,.gn 1 (.s) 2)],[.s],false,u2Q zbx⟩
theorem zga:zci.OK PGq 168:=fun x r h=>kmp (by kernel_rfl) (zGc zg2 x.1 x.2 r h)
def zsz:Ct TS:=⟨[.ptr 1 0,.d .s 1],[(1,.gn 1 (.s) 0)],[.s,.s],.tup [dI 2,.nili],[(1,.gn 1 (.s) 3)],[i6,.s],false,u2Q zby⟩
theorem zxj:zsz.OK PGq 162:=fun x r h=>by
 obtain⟨_,h1,h2⟩:=bind_some h;cases h2;exact kmp (by kernel_rfl) (zic zg2 1 x.1 x.2 (yD h1))
def KM:Ct TS:=⟨[.ptr 1 0,.d (.l (.a 3 9)) 1],(h26 1 0),[.s,.l (.a 3 9)],.tup [],(h26 1 2),[.s],false,u2Q yZ⟩
theorem JA:HBc 67 KM:=ctk (T:=[(60,KJ),(168,zci),(162,zsz),(163,zsp)]) (h:=.s .n (.s (.l ⟨[(0,.ptr 1 0),(9,.d (.l (.a 3 9)) 0),(10,dI 1),(11,dI 3)],(h26 1 2),[.l (.a 3 9),i6],[.s,i6]⟩ [] (h26 1 2) [.s] 0 (u2Q Kp) (.s .n (.s .n (.s (.j ⟨[(0,.ptr 1 0),(9,.d (.l (.a 3 9)) 0),(10,dI 1),(11,dI 2)],(h26 1 3),[.l (.a 3 9),i6,i6],[.s]⟩ false (.s (.s .n (.s (.j ⟨[(0,.ptr 1 0),(5,.d (.a 3 9) 0),(9,.d (.l (.a 3 9)) 1),(10,dI 2),(11,dI 3)],(h26 1 4),[.a 3 9,.l (.a 3 9),i6,i6],[.s]⟩ false (.s .n (.s (.j ⟨[(0,.ptr 1 0),(5,.d (.a 3 9) 1),(9,.d (.l (.a 3 9)) 2),(10,dI 3),(11,dI 4),(28,.d .b 5)],(h26 1 0),[.s,.a 3 9,.l (.a 3 9),i6,i6],[.b]⟩ false .n) .n))) (.s .n (.s (.s .n (.s .n (.s .n (.s (.s .n (.s (.j ⟨[(0,.ptr 1 0),(8,dI 4),(9,.d (.l (.a 3 9)) 0),(10,dI 1),(11,dI 2)],(h26 1 3),[.l (.a 3 9),i6,i6],[.s,i6]⟩ false .n) .n)) .n)))) .n)))) .n)) .n)))) .n)) Tryz.func67 rfl hbv67 ⟨⟨zn2,WJ⟩,⟨zAd,zga⟩,⟨zkz,zxj⟩,⟨zzy,zsq⟩,trivial⟩ fun x=>by kernel_rfl
def WK:Ct TS:=⟨[.ptr 1 0],(h26 1 0),[.s],.tup [],(h26 1 1),[.s],false,fun x=>oU x⟩
theorem Q4:HBc 69 WK:=ctk (T:=[(67,KM),(168,zci)]) (h:=.n) Tryz.func69 rfl hbv69 ⟨JA,⟨zAd,zga⟩,trivial⟩ fun x=>by kernel_rfl
def zcj:Ct TS:=⟨[.ptr 1 0,.d (.st 0) 1],(h26 1 0),[.s,.st 0],.tup [],(h26 1 2),[.s],false,u2Q zbz⟩
theorem zgb:HBc 68 zcj:=ctk (T:=[(58,Wk KK),(60,j3),(67,KM),(69,WK)]) (h:=.n) Tryz.func68 rfl hbv68 ⟨(zlj KK),⟨zn2,uA⟩,JA,Q4,trivial⟩ fun x=>by kernel_rfl
def ZR:Ct TS:=⟨[.ptr 1 0,.d (.l (.st 4)) 1],(h26 1 0),[.s,.l (.st 4)],.tup [],(h26 1 2),[.s],false,u2Q Kq⟩
theorem zje:HBc 70 ZR:=ctk (T:=[(67,KM),(69,WK)]) (h:=.s (.s .n (.s (.l ⟨[(0,.ptr 1 0),(6,.d (.l (.st 4)) 0),(7,dI 1),(8,dI 3)],(h26 1 2),[.l (.st 4),i6],[.s,i6]⟩ [(0,.ptr 1 0)] (h26 1 2) [.s] 0 (u2Q uV) .n) .n)) .n) Tryz.func70 rfl hbv70 ⟨JA,Q4,trivial⟩ fun x=>by kernel_rfl
def zs0:Ct TS:=⟨[.d (.l (.s)) 0,.d .s 1],[],[.l (.s),.s],.d .s 2,[],[.s],false,u2Q V9⟩
theorem zs1:zs0.OK PGq 65:=fun x r h=>kmp (by kernel_rfl) (J.zF9 x.1 x.2 r h)
def zlt:Ct TS:=⟨[.ptr 1 0,.d (.st 7) 1],(h26 1 0),[.s,.st 7],.tup [],(h26 1 2),[.s],false,u2Q zk9⟩
theorem zs2:HBc 71 zlt:=ctk (T:=[(67,KM),(65,zs0),(72,Q1),(68,zcj),(69,WK)]) (h:=.s .n (.s .n (.s (.s .n (.s (.l ⟨[(0,.ptr 1 0),(3,.ptr 1000003 0),(22,.row 1 1000022),(23,dI 0),(24,dI 23)],(h90 22 1 2 3 4 5 6 7 8 9 10 11 12 13 14 15 16 17 18 19 20 21),[i6,.s,.l (.s),.l (.s),i6,i6,i6,.b,i6,i6,i6,.s,.s,.l (.st 0),i6,i6,i6,i6,i6,i6,i6,.l (.l (.s))],[.s,i6]⟩ [(0,.ptr 1 0),(3,.ptr 1000003 0)] (h91 22 1 2 3 4 5 6 7 8 9 10 11 12 13 14 15 16 17 18 19 20) [.s] 0 (u22Q Hi) (.s .n (.s .n (.s (.j ⟨[(0,.ptr 1 0),(3,.ptr 1000003 0),(22,.row 1 1000022),(23,dI 0),(24,dI 1)],(h90 23 2 3 4 5 6 7 8 9 10 11 12 13 14 15 16 17 18 19 20 21 22),[i6,i6,.s,.l (.s),.l (.s),i6,i6,i6,.b,i6,i6,i6,.s,.s,.l (.st 0),i6,i6,i6,i6,i6,i6,i6,.l (.l (.s))],[.s]⟩ false .n) .n)))) .n)) (.s (.s .n (.s (.l ⟨[(0,.ptr 1 0),(3,.ptr 1000003 0),(50,.row 1 1000050),(51,dI 0),(52,dI 23)],(h92 22 1 2 3 4 5 6 7 8 9 10 11 12 13 14 15 16 17 18 19 20 21),[i6,.s,.l (.s),.l (.s),i6,i6,i6,.b,i6,i6,i6,.s,.s,.l (.st 0),i6,i6,i6,i6,i6,i6,i6,.l i6],[.s,i6]⟩ [(0,.ptr 1 0),(3,.ptr 1000003 0)] (h91 22 1 2 3 4 5 6 7 8 9 10 11 12 13 14 15 16 17 18 19 20) [.s] 2 (u22Q Hj) (.s .n (.s .n (.s (.j ⟨[(0,.ptr 1 0),(3,.ptr 1000003 0),(50,.row 1 1000050),(51,dI 0),(52,dI 1)],(h92 23 2 3 4 5 6 7 8 9 10 11 12 13 14 15 16 17 18 19 20 21 22),[i6,i6,.s,.l (.s),.l (.s),i6,i6,i6,.b,i6,i6,i6,.s,.s,.l (.st 0),i6,i6,i6,i6,i6,i6,i6,.l i6],[.s]⟩ false .n) .n)))) .n)) (.s (.j ⟨[(0,.ptr 1 0),(3,.ptr 1000003 0)],(h91 20 0 1 2 3 4 5 6 7 8 9 10 11 12 13 14 15 16 17 18 19),k80,[.s]⟩ false .n) (.s .n (.s .n (.s (.j ⟨[(0,.ptr 1 0)],(h26 1 0),[],[.s]⟩ true (.s .n (.s (.s .n (.s .n (.s .n (.s .n (.s .n (.s .n (.s .n (.s (.s .n (.s .n (.s (.l ⟨[(0,.ptr 1 0),(3,.ptr 1000003 0),(140,.row 1 103008000),(141,dI 0),(142,dI 23)],(h93 22 1 2 3 4 5 6 7 8 9 10 11 12 13 14 15 16 17 18 19 20 21),[i6,.s,.l (.s),.l (.s),i6,i6,i6,.b,i6,i6,i6,.s,.s,.l (.st 0),i6,i6,i6,i6,i6,i6,i6,.l (.s)],[.s,i6]⟩ [(0,.ptr 1 0)] (h26 1 22) [.s] 5 (u22Q Hk) (.s .n (.s .n (.s (.j ⟨[(0,.ptr 1 0),(3,.ptr 1000003 0),(140,.row 1 103008000),(141,dI 0),(142,dI 1)],(h93 23 2 3 4 5 6 7 8 9 10 11 12 13 14 15 16 17 18 19 20 21 22),[i6,i6,.s,.l (.s),.l (.s),i6,i6,i6,.b,i6,i6,i6,.s,.s,.l (.st 0),i6,i6,i6,i6,i6,i6,i6,.l (.s)],[.s]⟩ false .n) .n)))) .n))) .n)))))))) .n))) .n)))))))) Tryz.func71 rfl hbv71 ⟨JA,⟨zw8,zs1⟩,⟨zDj,Ww⟩,zgb,Q4,trivial⟩ fun x=>by kernel_rfl
def zs3:Ct TS:=⟨[.ptr 1 0],[(1,.gn 1 (.s) 0)],[.s],dI 1,[(1,.gn 1 (.s) 0)],[i6],false,fun x=>zsd x⟩
theorem zxk:zs3.OK PGq 59:=fun x r h=>by
 cases h;exact kmp (by kernel_rfl) (zr1 (T:=123) 1 x)
def zs4:Ct TS:=⟨[.d (.st 14) 0],h5,[.st 14],.tup [.d .s 1,dI 2],h5,[.s,i6],false,fun x=>zse x⟩
theorem zxl:HBc 26 zs4:=ctk (T:=[(28,zjd),(67,KM),(68,zcj),(69,WK),(70,ZR),(71,zlt),(72,Q1),(59,zs3),(60,KJ)]) (h:=.s .n (.s .n (.s .n (.s (.s .n (.s (.l ⟨[(1,.ptr 1000001 0),(4,.ptr 1000028 0),(30,.d (.l (.st 1)) 0),(31,dI 1),(32,dI 9)],(h94 0 2 3 4 5 6 7 8 10),k82,[i6,.s]⟩ [(1,.ptr 1000001 0),(4,.ptr 1000028 0)] (h94 0 2 3 4 5 6 7 8 9) [.s] 0 (u9Q Kr) .n) .n)) (.s (.s .n (.s (.l ⟨[(1,.ptr 1000001 0),(4,.ptr 1000028 0),(50,.d (.l (.st 3)) 0),(51,dI 1),(52,dI 9)],(h94 2 0 3 4 5 6 7 8 10),k83,[i6,.s]⟩ [(1,.ptr 1000001 0),(4,.ptr 1000028 0)] (h94 2 0 3 4 5 6 7 8 9) [.s] 2 (u9Q Kt) (.s .n (.s .n (.s (.s (.s .n (.s .n (.s (.s .n (.s (.l ⟨[(1,.ptr 1000001 0),(4,.ptr 1000028 0),(8,.ptr 1000008 0),(50,.d (.l (.st 3)) 0),(51,dI 1),(52,dI 2),(64,.d (.l (.st 2)) 3),(65,dI 4),(66,dI 14)],(h95 15),[.l (.st 3),i6,i6,.l (.st 2),i6,.l (.st 1),.l (.st 5),.l (.st 7),.l (.st 8),.l (.st 10),.l (.st 9),i6,.s,i6],[i6,.s]⟩ [(1,.ptr 1000001 0),(4,.ptr 1000028 0),(8,.ptr 1000008 0),(50,.d (.l (.st 3)) 0),(51,dI 1),(52,dI 2)] (h95 14) [.s] 4 (u14Q Ks) .n) .n)) .n))) .n) .n)))) .n)) (.s (.s .n (.s (.l ⟨[(1,.ptr 1000001 0),(4,.ptr 1000028 0),(91,.d (.l (.st 5)) 0),(92,dI 1),(93,dI 9)],(h94 2 3 0 4 5 6 7 8 10),k84,[i6,.s]⟩ [(1,.ptr 1000001 0),(4,.ptr 1000028 0)] (h94 2 3 0 4 5 6 7 8 9) [.s] 6 (u9Q Ku) (.s .n (.s .n (.s (.s (.s .n (.s .n (.s (.j ⟨[(1,.ptr 1000001 0),(4,.ptr 1000028 0),(12,.ptr 1000012 0),(13,.d .s 14),(91,.d (.l (.st 5)) 0),(92,dI 1),(93,dI 2)],[(900000000,.rw 1),(900000001,.rw 2),(900000002,.rw 3),(900000003,.rw 4),(1000001,.box 31 [.d (.l (.st 1)) 3,.d (.l (.st 3)) 4,.d (.l (.st 5)) 0,.d (.l (.st 7)) 5,.d (.l (.st 8)) 6,.d (.l (.st 10)) 7,.d (.l (.st 9)) 8,dI 9]),(1000028,.gn 1 (.s) 10),(1000012,.box 64 [.d .s 11,.d .b 12,.d (.l (.st 4)) 13])],[.l (.st 5),i6,i6,.l (.st 1),.l (.st 3),.l (.st 7),.l (.st 8),.l (.st 10),.l (.st 9),i6,.s,.s,.b,.l (.st 4)],[.s]⟩ false .n) .n))) .n) .n)))) .n)) (.s (.s .n (.s (.l ⟨[(1,.ptr 1000001 0),(4,.ptr 1000028 0),(113,.d (.l (.st 7)) 0),(114,dI 1),(115,dI 9)],(h94 2 3 4 0 5 6 7 8 10),k85,[i6,.s]⟩ [(1,.ptr 1000001 0),(4,.ptr 1000028 0)] (h94 2 3 4 0 5 6 7 8 9) [.s] 8 (u9Q Kv) .n) .n)) (.s (.s .n (.s (.l ⟨[(1,.ptr 1000001 0),(4,.ptr 1000028 0),(124,.d (.l (.st 8)) 0),(125,dI 1),(126,dI 9)],(h94 2 3 4 5 0 6 7 8 10),k86,[i6,.s]⟩ [(1,.ptr 1000001 0),(4,.ptr 1000028 0)] (h94 2 3 4 5 0 6 7 8 9) [.s] 10 (u9Q Kw) .n) .n)) (.s (.s .n (.s (.l ⟨[(1,.ptr 1000001 0),(4,.ptr 1000028 0),(152,.d (.l (.st 10)) 0),(153,dI 1),(154,dI 9)],(h94 2 3 4 5 6 0 7 8 10),k87,[i6,.s]⟩ [(1,.ptr 1000001 0),(4,.ptr 1000028 0)] (h94 2 3 4 5 6 0 7 8 9) [.s] 12 (u9Q Ky) (.s .n (.s .n (.s (.s (.s .n (.s .n (.s (.s .n (.s (.l ⟨[(1,.ptr 1000001 0),(4,.ptr 1000028 0),(152,.d (.l (.st 10)) 0),(153,dI 1),(154,dI 2),(183,.d (.l (.st 9)) 3),(184,dI 4),(185,dI 12)],(h94 5 6 7 8 9 0 10 11 13),[.l (.st 10),i6,i6,.l (.st 9),i6,.l (.st 1),.l (.st 3),.l (.st 5),.l (.st 7),.l (.st 8),.l (.st 9),i6],[i6,.s]⟩ [(1,.ptr 1000001 0),(4,.ptr 1000028 0),(152,.d (.l (.st 10)) 0),(153,dI 1),(154,dI 2)] (h94 5 6 7 8 9 0 10 11 12) [.s] 14 (u12Q Kx) .n) .n)) .n))) .n) .n)))) .n)) (.s (.s .n (.s (.l ⟨[(1,.ptr 1000001 0),(4,.ptr 1000028 0),(206,.d (.l (.st 9)) 0),(207,dI 1),(208,dI 9)],(h94 2 3 4 5 6 7 0 8 10),k89,[i6,.s]⟩ [(1,.ptr 1000001 0),(4,.ptr 1000028 0)] (h94 2 3 4 5 6 7 0 8 9) [.s] 16 (u9Q Kz) .n) .n)) (.s (.j ⟨[(1,.ptr 1000001 0),(4,.ptr 1000028 0)],(h94 0 1 2 3 4 5 6 7 8),k4,[.s]⟩ false .n) (.s (.j ⟨[(4,.ptr 1000028 0)],[(900000000,.rw 1),(900000001,.rw 2),(900000002,.rw 3),(900000003,.rw 4),(1000028,.gn 1 (.s) 0)],[],[.s]⟩ false .n) .n)))))))))))) Tryz.func26 rfl hbv26 ⟨zls,JA,zgb,Q4,zje,zs2,⟨zDj,Ww⟩,⟨zGp,zxk⟩,⟨zn2,WJ⟩,trivial⟩ fun x=>by kernel_rfl
def WL:Ct TS:=⟨[],h5,[],.d .b 0,h5,[.b],false,fun _=>uW⟩
theorem zgc:HBc 9 WL:=ctg (cd:=cdL) (nb:=nbT) (rc:=[]) (T:=[(12,Hn),(19,Ho),(10,zsx),(26,zs4),(28,zjd),(16,Zp)]) (h:=.s .n (.s .n (.s .n (.s .n (.s .n (.s .n (.s .n (.s .n (.s .n (.s .n (.s .n (.s (.j ⟨[(9,.ptr 1000009 0),(13,dI 0),(14,dI 1),(16,dI 2),(17,dI 3),(19,dI 4),(20,dI 5),(22,dI 6),(23,dI 7),(25,dI 8),(26,dI 9),(27,.d .b 18)],(h75 1000009 103005401 103005402 103005403 103005404 103005405 103005406 10 11 12 13 14 15 16 17),[i6,i6,i6,i6,i6,i6,i6,i6,i6,i6,.l (.st 9),i6,.l (.st 1),.l (.st 3),.l (.st 5),.l (.st 7),.l (.st 8),.l (.st 10)],[.b]⟩ false .n) (.s (.j ⟨[(9,.ptr 1000009 0),(27,.d .b 0),(28,.d .b 9)],(h75 1000009 103005401 103005402 103005403 103005404 103005405 103005406 1 2 3 4 5 6 7 8),k96,[.b]⟩ false .n) .n))))))))))))) Tryz.func9 rfl hbv9 ⟨Qb,Qc,zxi,zxl,zls,Wf,trivial⟩ fun x=>by kernel_rfl
def jw(RK:Nat):Ct TS:=⟨[.d (.st 0) 0,.d (.st 0) 1],[],[.st 0,.st 0],.d .b 2,[],[.b],false,fun x=>yk RK x.1 x.2⟩
theorem AQ:∀RK,(jw RK).OK PGq 15
 |0=>(fun x r h=>nomatch (show(none:Option _)=some r from h))
 |RK+1=>(ctk (c:=jw (RK+1)) (T:=[(15,jw RK)]) (h:=.s .n (.s (.s (.j ⟨[(2,.ptr 1000002 0),(3,.ptr 1000003 0),(40,.d .b 10)],(h43 1000002 0 1 2 3 4 1000003 5 6 7 8 9),k119,[.b]⟩ false .n) .n) (.s (.s .n (.s (.lr ⟨[(2,.ptr 1000002 0),(3,.ptr 1000003 0),(5,dI 10)],(h43 1000002 0 1 2 3 4 1000003 5 6 7 8 9),k119,[i6]⟩ [] [] [] 0 (fun x K v=>vm (yk RK) x.1 x.2.1 x.2.2.1 x.2.2.2.1 x.2.2.2.2.1 (p5Q x).1 (p6Q x).1 (p7Q x).1 (p8Q x).1 (p9Q x) K v) .n) .n)) .n))) Tryz.func15 rfl zDk ⟨⟨zDk,(AQ RK)⟩,trivial⟩ fun x=>by kernel_rfl).2
theorem zck(RK:Nat):ze PGq 15∧(jw RK).OK PGq 15:=⟨zDk,(AQ RK)⟩
def kr(RK:Nat):Ct TS:=⟨[.d (.st 0) 0,dI 1],[],[.st 0,i6],dI 2,[],[i6],false,fun x=>xW RK x.1 x.2⟩
theorem JB:∀RK,(kr RK).OK PGq 56
 |0=>(fun x r h=>nomatch (show(none:Option _)=some r from h))
 |RK+1=>(ctk (c:=kr (RK+1)) (T:=[(56,kr RK)]) (h:=.s .n (.s .n (.s (.s .n (.s (.l ⟨[(1,dI 0),(2,.ptr 1000002 0),(5,dI 6),(6,dI 7)],(h25 1000002 1 2 3 4 5),k13,[i6,i6]⟩ [(5,dI 6)] [] [i6] 0 (fun x K v=>xI (xW RK) x.1 x.2.1 x.2.2.1 x.2.2.2.1 x.2.2.2.2.1 (p5Q x) K v) (.s (.s (.j ⟨[(1,dI 0),(2,.ptr 1000002 0),(5,dI 1),(6,dI 2),(16,.d .b 8)],(h25 1000002 3 4 5 6 7),k22,[.b]⟩ false .n) .n) .n)) .n)) .n))) Tryz.func56 rfl zDl ⟨⟨zDl,(JB RK)⟩,trivial⟩ fun x=>by kernel_rfl).2
theorem zgd(RK:Nat):ze PGq 56∧(kr RK).OK PGq 56:=⟨zDl,(JB RK)⟩
def ku(RK:Nat):Ct TS:=⟨[.d (.st 0) 0],[],[.st 0],.d .b 1,[],[.b],false,fun x=>wP RK x⟩
theorem JC:∀RK,(ku RK).OK PGq 57
 |0=>(fun x r h=>nomatch (show(none:Option _)=some r from h))
 |RK+1=>(ctk (c:=ku (RK+1)) (T:=[(57,ku RK)]) (h:=.s .n (.s (.s .n (.s (.lr ⟨[(1,.ptr 1000001 0),(3,dI 5)],(h25 1000001 0 1 2 3 4),[i6,i6,.s,.s,.l (.st 0)],[i6]⟩ [(1,.ptr 1000001 0)] (h25 1000001 0 1 2 3 4) [] 0 (fun x K v=>vW (wP RK) x.1 x.2.1 x.2.2.1 x.2.2.2.1 x.2.2.2.2 K v) .n) .n)) .n)) Tryz.func57 rfl zDm ⟨⟨zDm,(JC RK)⟩,trivial⟩ fun x=>by kernel_rfl).2
theorem zge(RK:Nat):ze PGq 57∧(ku RK).OK PGq 57:=⟨zDm,(JC RK)⟩
def JD:Ct TS:=⟨[.d (.st 0) 0],[],[.st 0],.d .b 1,[],[.b],false,fun x=>jN x⟩
theorem Yt:HBc 18 JD:=ctk (T:=[(56,kr KK),(57,ku KK)]) (h:=.n) Tryz.func18 rfl hbv18 ⟨(zgd KK),(zge KK),trivial⟩ fun x=>by kernel_rfl
def zcl:Ct TS:=⟨[.d (.l (.st 11)) 0],[],[.l (.st 11)],.d .s 1,[],[.s],false,fun x=>Jv x⟩
theorem zgf:HBc 22 zcl:=ctk (T:=[(65,zs0)]) (h:=.s .n (.s .n (.s (.s .n (.s (.l ⟨[(3,.row 1 7001001),(6,.d (.l (.st 11)) 0),(7,dI 1),(8,dI 2)],(h57 7001001 3),[.l (.st 11),i6],[i6,.l (.s)]⟩ [(3,.row 1 7001001)] (h57 7001001 2) [.l (.s)] 0 (u2Q xX) (.s .n (.s .n (.s (.j ⟨[(3,.row 1 7000001),(6,.d (.l (.st 11)) 0),(7,dI 1),(8,dI 2)],(h57 7000001 3),k7,[.l (.s)]⟩ false .n) .n)))) .n)) .n))) Tryz.func22 rfl hbv22 ⟨⟨zw8,zs1⟩,trivial⟩ fun x=>by kernel_rfl
def JE:Ct TS:=⟨[.d (.l (.st 11)) 0,dI 1],[],[.l (.st 11),i6],dI 2,[],[i6],false,u2Q jO⟩
theorem Yu:HBc 24 JE:=ctk (T:=[]) (h:=.s .n (.s .n (.s (.s .n (.s (.lr ⟨[(0,.d (.l (.st 11)) 0),(1,dI 1),(5,dI 2),(6,dI 3)],[],[.l (.st 11),i6],[i6,i6]⟩ [(1,dI 1)] [] [] 0 (u2Q yM) (.s .n (.s (.s (.s (.j ⟨[(0,.d (.l (.st 11)) 0),(1,dI 1),(5,dI 2),(6,dI 3)],[],[.l (.st 11),i6],[i6,i6]⟩ false .n) (.s (.j ⟨[(0,.d (.l (.st 11)) 0),(1,dI 1),(5,dI 2),(6,dI 3)],[],[.l (.st 11),i6],[i6,i6]⟩ false .n) .n)) .n) .n))) .n)) .n))) Tryz.func24 rfl hbv24 trivial fun x=>by kernel_rfl
def JF:Ct TS:=⟨[.d (.l (.st 11)) 0,dI 1,dI 2],[],k7,.d .s 3,[],[.s],false,u3Q jP⟩
theorem Yv:HBc 23 JF:=ctk (T:=[(22,zcl)]) (h:=.s .n (.s .n (.s (.s .n (.s (.l ⟨[(0,.d (.l (.st 11)) 0),(1,dI 1),(2,dI 2),(7,.row 4 7001001),(8,dI 3)],[(7001001,.row 51 (.st 11) 4 false)],k7,[i6,.l (.st 11)]⟩ [(7,.row 4 7001001)] [(7001001,.row 51 (.st 11) 3 false)] [.l (.st 11)] 0 (u3Q y5) (.s .n (.s (.j ⟨[(0,.d (.l (.st 11)) 0),(1,dI 1),(2,dI 2),(7,.row 4 7000001),(8,dI 3)],[(7000001,.row 51 (.st 11) 4 false)],k9,[.l (.st 11)]⟩ false (.s (.s (.j ⟨[(0,.d (.l (.st 11)) 0),(1,dI 1),(2,dI 2),(7,.row 4 7001001),(8,dI 3),(22,.d .b 5)],[(7001001,.row 51 (.st 11) 4 false)],[.l (.st 11),i6,i6,i6,.l (.st 11)],[.b]⟩ false .n) .n) .n)) .n))) .n)) .n))) Tryz.func23 rfl hbv23 ⟨zgf,trivial⟩ fun x=>by kernel_rfl
def u7:Ct TS:=⟨[.d (.st 0) 0],h5,[.st 0],.d .b 1,h5,[.b],false,fun x=>yT x⟩
theorem qY:HBc 4 u7:=ctk (T:=[(9,WL),(18,JD),(19,Ho),(20,kq),(12,Hn),(15,jw KK),(21,zb1),(22,zcl),(24,JE),(23,JF)]) (h:=.s .n (.s .n (.s .n (.s .n (.s .n (.s .n (.s .n (.s (.s (.j ⟨[(1,.ptr 1000001 0),(3,.d .b 0),(4,.d .s 1),(89,.d .b 7)],(h23 1000001 2 3 4 5 6),[.b,.s,i6,i6,.s,.s,.l (.st 0)],[.b]⟩ false .n) .n) (.s .n (.s (.s (.j ⟨[(1,.ptr 1000001 0),(3,.d .b 0),(12,.d (.l (.st 11)) 1),(103,.d .b 7)],(h23 1000001 2 3 4 5 6),[.b,.l (.st 11),i6,i6,.s,.s,.l (.st 0)],[.b]⟩ false .n) .n) (.s (.s .n (.s (.lr ⟨[(1,.ptr 1000001 0),(3,.d .b 0),(12,.d (.l (.st 11)) 1),(15,dI 7)],(h23 1000001 2 3 4 5 6),[.b,.l (.st 11),i6,i6,.s,.s,.l (.st 0)],[i6]⟩ [(3,.d .b 0)] h5 [] 0 (u7Q zN) (.s .n (.s (.j ⟨[(1,.ptr 1000001 0),(3,.d .b 0),(12,.d (.l (.st 11)) 1),(15,dI 2)],(h23 1000001 3 4 5 6 7),[.b,.l (.st 11),i6,i6,i6,.s,.s,.l (.st 0)],[]⟩ true (.s (.s .n (.s .n (.s (.j ⟨[(1,.ptr 1000001 0),(3,.d .b 0),(12,.d (.l (.st 11)) 1),(15,dI 2),(133,.d .b 8)],(h23 1000001 3 4 5 6 7),[.b,.l (.st 11),i6,i6,i6,.s,.s,.l (.st 0)],[.b]⟩ false .n) .n))) .n)) .n))) .n)) .n))))))))))) Tryz.func4 rfl hbv4 ⟨zgc,Yt,Qc,kL,Qb,(zck KK),zb2,zgf,Yu,Yv,trivial⟩ fun x=>by kernel_rfl
end Go.Proofs.YtffencjoddkghaaGreatDoor
