/- texts that the proof of SyntaxPrints reaches, part 10 -/
import Derived.Test.YtffencjoddkghaaGreatDoorKi
set_option linter.all false
set_option maxRecDepth 100000
namespace Go.Proofs.YtffencjoddkghaaGreatDoor
open Go Go.RowKit Go.Eng Go.EV Go.EQ
noncomputable abbrev PGq:=Tryz.prog
abbrev i6:TC:=.i .i64
abbrev dI(k:Nat):Tp:=.d i6 k
def u2Q{α0 α1 β:Type}(f:α0→α1→β)(x:α0×α1):β:=f x.1 x.2
def u3Q{α0 α1 α2 β:Type}(f:α0→α1→α2→β)(x:α0×α1×α2):β:=f x.1 x.2.1 x.2.2
def u4Q{α0 α1 α2 α3 β:Type}(f:α0→α1→α2→α3→β)(x:α0×α1×α2×α3):β:=f x.1 x.2.1 x.2.2.1 x.2.2.2
def u6Q{α0 α1 α2 α3 α4 α5 β:Type}(f:α0→α1→α2→α3→α4→α5→β)(x:α0×α1×α2×α3×α4×α5):β:=f x.1 x.2.1 x.2.2.1 x.2.2.2.1 x.2.2.2.2.1 x.2.2.2.2.2
def u7Q{α0 α1 α2 α3 α4 α5 α6 β:Type}(f:α0→α1→α2→α3→α4→α5→α6→β)(x:α0×α1×α2×α3×α4×α5×α6):β:=f x.1 x.2.1 x.2.2.1 x.2.2.2.1 x.2.2.2.2.1 x.2.2.2.2.2.1 x.2.2.2.2.2.2
def u8Q{α0 α1 α2 α3 α4 α5 α6 α7 β:Type}(f:α0→α1→α2→α3→α4→α5→α6→α7→β)(x:α0×α1×α2×α3×α4×α5×α6×α7):β:=f x.1 x.2.1 x.2.2.1 x.2.2.2.1 x.2.2.2.2.1 x.2.2.2.2.2.1 x.2.2.2.2.2.2.1 x.2.2.2.2.2.2.2
def u9Q{α0 α1 α2 α3 α4 α5 α6 α7 α8 β:Type}(f:α0→α1→α2→α3→α4→α5→α6→α7→α8→β)(x:α0×α1×α2×α3×α4×α5×α6×α7×α8):β:=f x.1 x.2.1 x.2.2.1 x.2.2.2.1 x.2.2.2.2.1 x.2.2.2.2.2.1 x.2.2.2.2.2.2.1 x.2.2.2.2.2.2.2.1 x.2.2.2.2.2.2.2.2
def zQi{α0 α1 α2 α3 α4 α5 α6 α7 α8 α9 α10 α11 β:Type}(f:α0→α1→α2→α3→α4→α5→α6→α7→α8→α9→α10→α11→β)(x:α0×α1×α2×α3×α4×α5×α6×α7×α8×α9×α10×α11):β:=f x.1 x.2.1 x.2.2.1 x.2.2.2.1 x.2.2.2.2.1 x.2.2.2.2.2.1 x.2.2.2.2.2.2.1 x.2.2.2.2.2.2.2.1 x.2.2.2.2.2.2.2.2.1 x.2.2.2.2.2.2.2.2.2.1 x.2.2.2.2.2.2.2.2.2.2.1 x.2.2.2.2.2.2.2.2.2.2.2
def u14Q{α0 α1 α2 α3 α4 α5 α6 α7 α8 α9 α10 α11 α12 α13 β:Type}(f:α0→α1→α2→α3→α4→α5→α6→α7→α8→α9→α10→α11→α12→α13→β)(x:α0×α1×α2×α3×α4×α5×α6×α7×α8×α9×α10×α11×α12×α13):β:=f x.1 x.2.1 x.2.2.1 x.2.2.2.1 x.2.2.2.2.1 x.2.2.2.2.2.1 x.2.2.2.2.2.2.1 x.2.2.2.2.2.2.2.1 x.2.2.2.2.2.2.2.2.1 x.2.2.2.2.2.2.2.2.2.1 x.2.2.2.2.2.2.2.2.2.2.1 x.2.2.2.2.2.2.2.2.2.2.2.1 x.2.2.2.2.2.2.2.2.2.2.2.2.1 x.2.2.2.2.2.2.2.2.2.2.2.2.2
def u15Q{α0 α1 α2 α3 α4 α5 α6 α7 α8 α9 α10 α11 α12 α13 α14 β:Type}(f:α0→α1→α2→α3→α4→α5→α6→α7→α8→α9→α10→α11→α12→α13→α14→β)(x:α0×α1×α2×α3×α4×α5×α6×α7×α8×α9×α10×α11×α12×α13×α14):β:=f x.1 x.2.1 x.2.2.1 x.2.2.2.1 x.2.2.2.2.1 x.2.2.2.2.2.1 x.2.2.2.2.2.2.1 x.2.2.2.2.2.2.2.1 x.2.2.2.2.2.2.2.2.1 x.2.2.2.2.2.2.2.2.2.1 x.2.2.2.2.2.2.2.2.2.2.1 x.2.2.2.2.2.2.2.2.2.2.2.1 x.2.2.2.2.2.2.2.2.2.2.2.2.1 x.2.2.2.2.2.2.2.2.2.2.2.2.2.1 x.2.2.2.2.2.2.2.2.2.2.2.2.2.2
def zOk{α0 α1 α2 α3 α4 α5 α6 α7 α8 α9 α10 α11 α12 α13 α14 α15 β:Type}(f:α0→α1→α2→α3→α4→α5→α6→α7→α8→α9→α10→α11→α12→α13→α14→α15→β)(x:α0×α1×α2×α3×α4×α5×α6×α7×α8×α9×α10×α11×α12×α13×α14×α15):β:=f x.1 x.2.1 x.2.2.1 x.2.2.2.1 x.2.2.2.2.1 x.2.2.2.2.2.1 x.2.2.2.2.2.2.1 x.2.2.2.2.2.2.2.1 x.2.2.2.2.2.2.2.2.1 x.2.2.2.2.2.2.2.2.2.1 x.2.2.2.2.2.2.2.2.2.2.1 x.2.2.2.2.2.2.2.2.2.2.2.1 x.2.2.2.2.2.2.2.2.2.2.2.2.1 x.2.2.2.2.2.2.2.2.2.2.2.2.2.1 x.2.2.2.2.2.2.2.2.2.2.2.2.2.2.1 x.2.2.2.2.2.2.2.2.2.2.2.2.2.2.2
def u17Q{α0 α1 α2 α3 α4 α5 α6 α7 α8 α9 α10 α11 α12 α13 α14 α15 α16 β:Type}(f:α0→α1→α2→α3→α4→α5→α6→α7→α8→α9→α10→α11→α12→α13→α14→α15→α16→β)(x:α0×α1×α2×α3×α4×α5×α6×α7×α8×α9×α10×α11×α12×α13×α14×α15×α16):β:=f x.1 x.2.1 x.2.2.1 x.2.2.2.1 x.2.2.2.2.1 x.2.2.2.2.2.1 x.2.2.2.2.2.2.1 x.2.2.2.2.2.2.2.1 x.2.2.2.2.2.2.2.2.1 x.2.2.2.2.2.2.2.2.2.1 x.2.2.2.2.2.2.2.2.2.2.1 x.2.2.2.2.2.2.2.2.2.2.2.1 x.2.2.2.2.2.2.2.2.2.2.2.2.1 x.2.2.2.2.2.2.2.2.2.2.2.2.2.1 x.2.2.2.2.2.2.2.2.2.2.2.2.2.2.1 x.2.2.2.2.2.2.2.2.2.2.2.2.2.2.2.1 x.2.2.2.2.2.2.2.2.2.2.2.2.2.2.2.2
def u20Q{α0 α1 α2 α3 α4 α5 α6 α7 α8 α9 α10 α11 α12 α13 α14 α15 α16 α17 α18 α19 β:Type}(f:α0→α1→α2→α3→α4→α5→α6→α7→α8→α9→α10→α11→α12→α13→α14→α15→α16→α17→α18→α19→β)(x:α0×α1×α2×α3×α4×α5×α6×α7×α8×α9×α10×α11×α12×α13×α14×α15×α16×α17×α18×α19):β:=f x.1 x.2.1 x.2.2.1 x.2.2.2.1 x.2.2.2.2.1 x.2.2.2.2.2.1 x.2.2.2.2.2.2.1 x.2.2.2.2.2.2.2.1 x.2.2.2.2.2.2.2.2.1 x.2.2.2.2.2.2.2.2.2.1 x.2.2.2.2.2.2.2.2.2.2.1 x.2.2.2.2.2.2.2.2.2.2.2.1 x.2.2.2.2.2.2.2.2.2.2.2.2.1 x.2.2.2.2.2.2.2.2.2.2.2.2.2.1 x.2.2.2.2.2.2.2.2.2.2.2.2.2.2.1 x.2.2.2.2.2.2.2.2.2.2.2.2.2.2.2.1 x.2.2.2.2.2.2.2.2.2.2.2.2.2.2.2.2.1 x.2.2.2.2.2.2.2.2.2.2.2.2.2.2.2.2.2.1 x.2.2.2.2.2.2.2.2.2.2.2.2.2.2.2.2.2.2.1 x.2.2.2.2.2.2.2.2.2.2.2.2.2.2.2.2.2.2.2
def u22Q{α0 α1 α2 α3 α4 α5 α6 α7 α8 α9 α10 α11 α12 α13 α14 α15 α16 α17 α18 α19 α20 α21 β:Type}(f:α0→α1→α2→α3→α4→α5→α6→α7→α8→α9→α10→α11→α12→α13→α14→α15→α16→α17→α18→α19→α20→α21→β)(x:α0×α1×α2×α3×α4×α5×α6×α7×α8×α9×α10×α11×α12×α13×α14×α15×α16×α17×α18×α19×α20×α21):β:=f x.1 x.2.1 x.2.2.1 x.2.2.2.1 x.2.2.2.2.1 x.2.2.2.2.2.1 x.2.2.2.2.2.2.1 x.2.2.2.2.2.2.2.1 x.2.2.2.2.2.2.2.2.1 x.2.2.2.2.2.2.2.2.2.1 x.2.2.2.2.2.2.2.2.2.2.1 x.2.2.2.2.2.2.2.2.2.2.2.1 x.2.2.2.2.2.2.2.2.2.2.2.2.1 x.2.2.2.2.2.2.2.2.2.2.2.2.2.1 x.2.2.2.2.2.2.2.2.2.2.2.2.2.2.1 x.2.2.2.2.2.2.2.2.2.2.2.2.2.2.2.1 x.2.2.2.2.2.2.2.2.2.2.2.2.2.2.2.2.1 x.2.2.2.2.2.2.2.2.2.2.2.2.2.2.2.2.2.1 x.2.2.2.2.2.2.2.2.2.2.2.2.2.2.2.2.2.2.1 x.2.2.2.2.2.2.2.2.2.2.2.2.2.2.2.2.2.2.2.1 x.2.2.2.2.2.2.2.2.2.2.2.2.2.2.2.2.2.2.2.2.1 x.2.2.2.2.2.2.2.2.2.2.2.2.2.2.2.2.2.2.2.2.2
def p5Q{α0 α1 α2 α3 α4 β:Type}(x:α0×α1×α2×α3×α4×β):β:=x.2.2.2.2.2
def p6Q{α0 α1 α2 α3 α4 α5 β:Type}(x:α0×α1×α2×α3×α4×α5×β):β:=x.2.2.2.2.2.2
def p7Q{α0 α1 α2 α3 α4 α5 α6 β:Type}(x:α0×α1×α2×α3×α4×α5×α6×β):β:=x.2.2.2.2.2.2.2
def p8Q{α0 α1 α2 α3 α4 α5 α6 α7 β:Type}(x:α0×α1×α2×α3×α4×α5×α6×α7×β):β:=x.2.2.2.2.2.2.2.2
def p9Q{α0 α1 α2 α3 α4 α5 α6 α7 α8 β:Type}(x:α0×α1×α2×α3×α4×α5×α6×α7×α8×β):β:=x.2.2.2.2.2.2.2.2.2
def zk3{α0 α1 α2 α3 α4 α5 α6 α7 α8 α9 β:Type}(x:α0×α1×α2×α3×α4×α5×α6×α7×α8×α9×β):β:=x.2.2.2.2.2.2.2.2.2.2
def zk4{α0 α1 α2 α3 α4 α5 α6 α7 α8 α9 α10 β:Type}(x:α0×α1×α2×α3×α4×α5×α6×α7×α8×α9×α10×β):β:=x.2.2.2.2.2.2.2.2.2.2.2
def zk5{α0 α1 α2 α3 α4 α5 α6 α7 α8 α9 α10 α11 β:Type}(x:α0×α1×α2×α3×α4×α5×α6×α7×α8×α9×α10×α11×β):β:=x.2.2.2.2.2.2.2.2.2.2.2.2
def zph{α0 α1 α2 α3 α4 α5 α6 α7 α8 α9 α10 α11 α12 β:Type}(x:α0×α1×α2×α3×α4×α5×α6×α7×α8×α9×α10×α11×α12×β):β:=x.2.2.2.2.2.2.2.2.2.2.2.2.2
def zpi{α0 α1 α2 α3 α4 α5 α6 α7 α8 α9 α10 α11 α12 α13 β:Type}(x:α0×α1×α2×α3×α4×α5×α6×α7×α8×α9×α10×α11×α12×α13×β):β:=x.2.2.2.2.2.2.2.2.2.2.2.2.2.2
def ztu{α0 α1 α2 α3 α4 α5 α6 α7 α8 α9 α10 α11 α12 α13 α14 β:Type}(x:α0×α1×α2×α3×α4×α5×α6×α7×α8×α9×α10×α11×α12×α13×α14×β):β:=x.2.2.2.2.2.2.2.2.2.2.2.2.2.2.2
def zIy{α0 α1 α2 α3 α4 α5 α6 α7 α8 α9 α10 α11 α12 α13 α14 α15 β:Type}(x:α0×α1×α2×α3×α4×α5×α6×α7×α8×α9×α10×α11×α12×α13×α14×α15×β):β:=x.2.2.2.2.2.2.2.2.2.2.2.2.2.2.2.2
def zIz{α0 α1 α2 α3 α4 α5 α6 α7 α8 α9 α10 α11 α12 α13 α14 α15 α16 β:Type}(x:α0×α1×α2×α3×α4×α5×α6×α7×α8×α9×α10×α11×α12×α13×α14×α15×α16×β):β:=x.2.2.2.2.2.2.2.2.2.2.2.2.2.2.2.2.2
def zOl{α0 α1 α2 α3 α4 α5 α6 α7 α8 α9 α10 α11 α12 α13 α14 α15 α16 α17 β:Type}(x:α0×α1×α2×α3×α4×α5×α6×α7×α8×α9×α10×α11×α12×α13×α14×α15×α16×α17×β):β:=x.2.2.2.2.2.2.2.2.2.2.2.2.2.2.2.2.2.2
def zOm{α0 α1 α2 α3 α4 α5 α6 α7 α8 α9 α10 α11 α12 α13 α14 α15 α16 α17 α18 β:Type}(x:α0×α1×α2×α3×α4×α5×α6×α7×α8×α9×α10×α11×α12×α13×α14×α15×α16×α17×α18×β):β:=x.2.2.2.2.2.2.2.2.2.2.2.2.2.2.2.2.2.2.2
def zTi{α0 α1 α2 α3 α4 α5 α6 α7 α8 α9 α10 α11 α12 α13 α14 α15 α16 α17 α18 α19 β:Type}(x:α0×α1×α2×α3×α4×α5×α6×α7×α8×α9×α10×α11×α12×α13×α14×α15×α16×α17×α18×α19×β):β:=x.2.2.2.2.2.2.2.2.2.2.2.2.2.2.2.2.2.2.2.2
def p21Q{α0 α1 α2 α3 α4 α5 α6 α7 α8 α9 α10 α11 α12 α13 α14 α15 α16 α17 α18 α19 α20 β:Type}(x:α0×α1×α2×α3×α4×α5×α6×α7×α8×α9×α10×α11×α12×α13×α14×α15×α16×α17×α18×α19×α20×β):β:=x.2.2.2.2.2.2.2.2.2.2.2.2.2.2.2.2.2.2.2.2.2
def p22Q{α0 α1 α2 α3 α4 α5 α6 α7 α8 α9 α10 α11 α12 α13 α14 α15 α16 α17 α18 α19 α20 α21 β:Type}(x:α0×α1×α2×α3×α4×α5×α6×α7×α8×α9×α10×α11×α12×α13×α14×α15×α16×α17×α18×α19×α20×α21×β):β:=x.2.2.2.2.2.2.2.2.2.2.2.2.2.2.2.2.2.2.2.2.2.2
def p23Q{α0 α1 α2 α3 α4 α5 α6 α7 α8 α9 α10 α11 α12 α13 α14 α15 α16 α17 α18 α19 α20 α21 α22 β:Type}(x:α0×α1×α2×α3×α4×α5×α6×α7×α8×α9×α10×α11×α12×α13×α14×α15×α16×α17×α18×α19×α20×α21×α22×β):β:=x.2.2.2.2.2.2.2.2.2.2.2.2.2.2.2.2.2.2.2.2.2.2.2
def p24Q{α0 α1 α2 α3 α4 α5 α6 α7 α8 α9 α10 α11 α12 α13 α14 α15 α16 α17 α18 α19 α20 α21 α22 α23 β:Type}(x:α0×α1×α2×α3×α4×α5×α6×α7×α8×α9×α10×α11×α12×α13×α14×α15×α16×α17×α18×α19×α20×α21×α22×α23×β):β:=x.2.2.2.2.2.2.2.2.2.2.2.2.2.2.2.2.2.2.2.2.2.2.2.2
def p25Q{α0 α1 α2 α3 α4 α5 α6 α7 α8 α9 α10 α11 α12 α13 α14 α15 α16 α17 α18 α19 α20 α21 α22 α23 α24 β:Type}(x:α0×α1×α2×α3×α4×α5×α6×α7×α8×α9×α10×α11×α12×α13×α14×α15×α16×α17×α18×α19×α20×α21×α22×α23×α24×β):β:=x.2.2.2.2.2.2.2.2.2.2.2.2.2.2.2.2.2.2.2.2.2.2.2.2.2
def p26Q{α0 α1 α2 α3 α4 α5 α6 α7 α8 α9 α10 α11 α12 α13 α14 α15 α16 α17 α18 α19 α20 α21 α22 α23 α24 α25 β:Type}(x:α0×α1×α2×α3×α4×α5×α6×α7×α8×α9×α10×α11×α12×α13×α14×α15×α16×α17×α18×α19×α20×α21×α22×α23×α24×α25×β):β:=x.2.2.2.2.2.2.2.2.2.2.2.2.2.2.2.2.2.2.2.2.2.2.2.2.2.2
def p27Q{α0 α1 α2 α3 α4 α5 α6 α7 α8 α9 α10 α11 α12 α13 α14 α15 α16 α17 α18 α19 α20 α21 α22 α23 α24 α25 α26 β:Type}(x:α0×α1×α2×α3×α4×α5×α6×α7×α8×α9×α10×α11×α12×α13×α14×α15×α16×α17×α18×α19×α20×α21×α22×α23×α24×α25×α26×β):β:=x.2.2.2.2.2.2.2.2.2.2.2.2.2.2.2.2.2.2.2.2.2.2.2.2.2.2.2
def p28Q{α0 α1 α2 α3 α4 α5 α6 α7 α8 α9 α10 α11 α12 α13 α14 α15 α16 α17 α18 α19 α20 α21 α22 α23 α24 α25 α26 α27 β:Type}(x:α0×α1×α2×α3×α4×α5×α6×α7×α8×α9×α10×α11×α12×α13×α14×α15×α16×α17×α18×α19×α20×α21×α22×α23×α24×α25×α26×α27×β):β:=x.2.2.2.2.2.2.2.2.2.2.2.2.2.2.2.2.2.2.2.2.2.2.2.2.2.2.2.2
variable[KZ]
theorem kmp{a b:Prop}(h:a=b)(x:a):b:=h▸x
theorem zG0{n:Int}(h0:0≤n)(h1:n<256):(((UInt8.ofNat (Int.toNat n)).toNat:Nat):Int)=n:=by
 rw[UInt8.toNat_ofNat'];omega
theorem zQj{T:Nat}(hT:zx1 T)(s:List UInt8)(n:Int)(r:List UInt8)(h:ztm s n=some r):FnA PGq 168 [.ptr 1 0 0,.int .u8 n] [(1,sb T s)] .nili [(1,sb T r)]:=by
 obtain⟨_,h1,h2⟩:=bind_some h;obtain⟨g1,g2,g3⟩:=y4 h1;cases h2;have:=zGi hT 1 s (UInt8.ofNat (Int.toNat n)) g3;rw[zG0 g1 g2]at this;exact this
def k1:List TC:=[i6,i6,i6,i6]
def k2:List TC:=[i6,i6,i6]
def k3:List TC:=[i6,.s,i6,i6]
def k4:List TC:=[.l (.st 1),.l (.st 3),.l (.st 5),.l (.st 7),.l (.st 8),.l (.st 10),.l (.st 9),i6]
def h5:List (Nat×TO):=[(900000000,.rw 1),(900000001,.rw 2),(900000002,.rw 3),(900000003,.rw 4)]
def h6(v0 v1 v2 v3 v4:Nat):List (Nat×TO):=[(900000000,.rw 1),(900000001,.rw 2),(900000002,.rw 3),(900000003,.rw 4),(v0,.box 51 [dI v1,.d .s v2,dI v3,dI v4])]
def k7:List TC:=[.l (.st 11),i6,i6]
def h8(v0:Nat):List (Nat×TO):=[(1,.box 67 [.d (.l (.st 11)) 0,dI v0])]
def k9:List TC:=[.l (.st 11),i6,i6,i6]
def h10(v0:Nat):List (Nat×TO):=[(1,.box 67 [.d (.l (.st 11)) 0,dI v0]),(900000000,.rw 1),(900000001,.rw 2),(900000002,.rw 3),(900000003,.rw 4)]
def h11(v0 v1 v2 v3 v4 v5 v6:Nat):List (Nat×TO):=[(1,.box 67 [.d (.l (.st 11)) 0,dI v0]),(900000000,.rw 1),(900000001,.rw 2),(900000002,.rw 3),(900000003,.rw 4),(v1,.box 37 [dI v2,dI v3,.d .s v4,.d .s v5,.d (.l (.st 0)) v6])]
def k12:List TC:=[i6,i6,i6,i6,.s,.s,.l (.st 0)]
def k13:List TC:=[i6,i6,i6,.s,.s,.l (.st 0)]
def k14:List TC:=[.l (.st 11),i6,i6,.s,.l (.st 0)]
def h15:List (Nat×TO):=[(1,.box 67 [.d (.l (.st 11)) 0,dI 5]),(900000000,.rw 1),(900000001,.rw 2),(900000002,.rw 3),(900000003,.rw 4),(1000004,.box 37 [dI 2,dI 2,.d .s 3,.d .s 3,.d (.l (.st 0)) 4]),(1000005,.box 37 [dI 7,dI 8,.d .s 9,.d .s 10,.d (.l (.st 0)) 11])]
def h16(v0 v1 v2 v3 v4 v5 v6 v7 v8 v9 v10:Nat):List (Nat×TO):=[(1,.box 67 [.d (.l (.st 11)) 0,dI 1]),(900000000,.rw 1),(900000001,.rw 2),(900000002,.rw 3),(900000003,.rw 4),(1000004,.box 37 [dI v0,dI v0,.d .s v1,.d .s v1,.d (.l (.st 0)) v2]),(1000005,.box 37 [dI v3,dI v4,.d .s v5,.d .s v6,.d (.l (.st 0)) v7]),(1000007,.box 184 [.d .s v8,dI v9,dI v10])]
def k17:List TC:=[.l (.st 11),i6,i6,i6,.l (.st 12),i6,i6,.s,.l (.st 0),i6,i6,.s,.s,.l (.st 0)]
def k18:List TC:=[.l (.st 11),i6,i6,i6,.l (.st 12),i6,i6,i6,.s,.l (.st 0),i6,i6,.s,.s,.l (.st 0)]
def k19:List TC:=[.l (.st 11),i6,i6,i6,.s,.l (.st 0),i6,i6,.s,.s,.l (.st 0),.s,i6,i6]
def h20(v0 v1 v2 v3 v4 v5:Nat):List (Nat×TO):=[(1,.box 67 [.d (.l (.st 11)) 0,dI v0]),(2,.box 78 [.ptr 1 0]),(3,.box 37 [dI v1,dI v2,.d .s v3,.d .s v4,.d (.l (.st 0)) v5])]
def k21:List TC:=[.l (.st 11),i6,i6,i6,.s,.s,.l (.st 0)]
def k22:List TC:=[i6,i6,i6,i6,i6,.s,.s,.l (.st 0)]
def h23(v0 v1 v2 v3 v4 v5:Nat):List (Nat×TO):=[(900000000,.rw 1),(900000001,.rw 2),(900000002,.rw 3),(900000003,.rw 4),(v0,.box 37 [dI v1,dI v2,.d .s v3,.d .s v4,.d (.l (.st 0)) v5])]
def h24(v0 v1 v2 v3 v4 v5:Nat):List (Nat×TO):=[(900000000,.rw 1),(900000001,.rw 2),(900000002,.rw 3),(900000003,.rw 4),(1000002,.box 37 [dI v0,dI v1,.d .s v2,.d .s v3,.d (.l (.st 0)) v4]),(1000005,.box 37 [dI v0,dI 7,.d .s 8,.d .s v5,.d (.l (.st 0)) v4])]
def h25(v0 v1 v2 v3 v4 v5:Nat):List (Nat×TO):=[(v0,.box 37 [dI v1,dI v2,.d .s v3,.d .s v4,.d (.l (.st 0)) v5])]
def h26(v0 v1:Nat):List (Nat×TO):=[(1,.gn v0 (.s) v1),(900000000,.rw 1),(900000001,.rw 2),(900000002,.rw 3),(900000003,.rw 4)]
def h27:List (Nat×TO):=[(1,.gn 0 (.s) 7),(900000000,.rw 1),(900000001,.rw 2),(900000002,.rw 3),(900000003,.rw 4),(1000004,.box 37 [dI 1,dI 2,.d .s 3,.d .s 4,.d (.l (.st 0)) 5]),(1000090,.row 9 (.s) 6 false)]
def h28:List (Nat×TO):=[(1,.gn 0 (.s) 0),(900000000,.rw 1),(900000001,.rw 2),(900000002,.rw 3),(900000003,.rw 4),(1000004,.box 37 [dI 3,dI 4,.d .s 5,.d .s 6,.d (.l (.st 0)) 7])]
def h29(v0 v1 v2 v3 v4 v5 v6 v7 v8 v9 v10 v11 v12 v13 v14 v15:Nat):List (Nat×TO):=[(1,.box 71 [.d (.l (.st 11)) 0,dI v0,.row 6 2,.row 3 3,.row 3 4,.row 20 5,.row 4 6,.row 6 7,.nrow 3 8,dI v1,.om 9,.om 10,.om 11,.om 12,.om 13,.om 14,.d .b v2]),(2,.row 57 (.st 1) v3 false),(3,.row 87 (.st 3) v4 false),(4,.row 64 (.st 5) v5 false),(5,.row 94 (.st 7) v6 false),(6,.row 96 (.st 8) v7 false),(7,.row 100 (.st 10) v8 false),(8,.row 98 (.st 9) v9 false),(9,.gn 7 (.l (.m (.s) (.b))) v10),(10,.gn 7 (.l (.m (.s) (.b))) v11),(11,.gn 7 (.l (.m (.s) (.b))) v12),(12,.gn 7 (.l (.m (.s) (.b))) v13),(13,.gn 7 (.l (.m (.s) (.b))) v14),(14,.gn 7 (.l (.m (.s) (.b))) v15)]
def k30:List TC:=[.l (.st 11),i6,.l (.st 1),.l (.st 3),.l (.st 5),.l (.st 7),.l (.st 8),.l (.st 10),.l (.st 9),i6,.l (.m (.s) (.b)),.l (.m (.s) (.b)),.l (.m (.s) (.b)),.l (.m (.s) (.b)),.l (.m (.s) (.b)),.l (.m (.s) (.b)),.b]
def h31(v0 v1 v2 v3 v4:Nat):List (Nat×TO):=[(v0,.box 51 [dI v1,.d .s v2,dI v3,dI v4])]
def k32:List TC:=[.l (.st 11),i6,.l (.st 1),.l (.st 3),.l (.st 5),.l (.st 7),.l (.st 8),.l (.st 10),.l (.st 9),i6,.l (.m (.s) (.b)),.l (.m (.s) (.b)),.l (.m (.s) (.b)),.l (.m (.s) (.b)),.l (.m (.s) (.b)),.l (.m (.s) (.b)),.b,.b,i6]
def k33:List TC:=[.l (.st 11),i6,.l (.st 1),.l (.st 3),.l (.st 5),.l (.st 7),.l (.st 8),.l (.st 10),.l (.st 9),i6,.l (.m (.s) (.b)),.l (.m (.s) (.b)),.l (.m (.s) (.b)),.l (.m (.s) (.b)),.l (.m (.s) (.b)),.l (.m (.s) (.b)),.b,i6,i6]
def k34:List TC:=[.s,i6,.l (.m (.s) (.b))]
def h35(v0 v1 v2 v3 v4 v5 v6 v7 v8 v9 v10:Nat):List (Nat×TO):=[(1,.box 71 [.d (.l (.st 11)) 0,dI v0,.row 6 2,.row 3 3,.row 3 4,.row 20 5,.row 4 6,.row 6 7,.nrow 3 8,dI v1,.om v2,.om 10,.om 11,.om 12,.om 13,.om 14,.d .b v3]),(2,.row 57 (.st 1) v4 false),(3,.row 87 (.st 3) v5 false),(4,.row 64 (.st 5) v6 false),(5,.row 94 (.st 7) v7 false),(6,.row 96 (.st 8) v8 false),(7,.row 100 (.st 10) v9 false),(8,.row 98 (.st 9) v10 false),(9,.rw 0),(10,.gn 7 (.l (.m (.s) (.b))) 11),(11,.gn 7 (.l (.m (.s) (.b))) 12),(12,.gn 7 (.l (.m (.s) (.b))) 13),(13,.gn 7 (.l (.m (.s) (.b))) 14),(14,.gn 7 (.l (.m (.s) (.b))) 15)]
def h36(v0 v1:Nat):List (Nat×TO):=[(v0,.gn 7 (.l (.m (.s) (.b))) v1)]
def k37:List TC:=[.l (.st 11),i6,i6,.b,.l (.st 1),.l (.st 3),.l (.st 5),.l (.st 7),.l (.st 8),.l (.st 10),.l (.st 9),.l (.m (.s) (.b)),.l (.m (.s) (.b)),.l (.m (.s) (.b)),.l (.m (.s) (.b)),.l (.m (.s) (.b)),i6]
def k38:List TC:=[.l (.st 11),i6,.l (.st 1),.l (.st 3),.l (.st 5),.l (.st 7),.l (.st 8),.l (.st 10),.l (.st 9),i6,.l (.m (.s) (.b)),.l (.m (.s) (.b)),.l (.m (.s) (.b)),.l (.m (.s) (.b)),.l (.m (.s) (.b)),.l (.m (.s) (.b)),.b,.s]
def k39:List TC:=[.l (.st 11),i6,i6,.b,.l (.st 1),.l (.st 3),.l (.st 5),.l (.st 7),.l (.st 8),.l (.st 10),.l (.st 9),.l (.m (.s) (.b)),.l (.m (.s) (.b)),.l (.m (.s) (.b)),.l (.m (.s) (.b)),.l (.m (.s) (.b)),.l (.m (.s) (.b)),i6]
def k40:List TC:=[.l (.st 11),i6,.l (.st 1),.l (.st 3),.l (.st 5),.l (.st 7),.l (.st 8),.l (.st 10),.l (.st 9),i6,.l (.m (.s) (.b)),.l (.m (.s) (.b)),.l (.m (.s) (.b)),.l (.m (.s) (.b)),.l (.m (.s) (.b)),.l (.m (.s) (.b)),.b,i6]
def k41:List TC:=[.l (.st 11),i6,.b,.l (.st 1),.l (.st 3),.l (.st 5),.l (.st 7),.l (.st 8),.l (.st 10),.l (.st 9),.l (.m (.s) (.b)),.l (.m (.s) (.b)),.l (.m (.s) (.b)),.l (.m (.s) (.b)),.l (.m (.s) (.b)),.l (.m (.s) (.b)),i6,i6,.s,.l (.st 0)]
def k42:List TC:=[.l (.st 11),i6,.b,.l (.st 1),.l (.st 3),.l (.st 5),.l (.st 7),.l (.st 8),.l (.st 10),.l (.st 9),.l (.m (.s) (.b)),.l (.m (.s) (.b)),.l (.m (.s) (.b)),.l (.m (.s) (.b)),.l (.m (.s) (.b)),.l (.m (.s) (.b)),i6,.s,.l (.st 0)]
def h43(v0 v1 v2 v3 v4 v5 v6 v7 v8 v9 v10 v11:Nat):List (Nat×TO):=[(v0,.box 37 [dI v1,dI v2,.d .s v3,.d .s v4,.d (.l (.st 0)) v5]),(v6,.box 37 [dI v7,dI v8,.d .s v9,.d .s v10,.d (.l (.st 0)) v11])]
def h44(v0 v1 v2 v3 v4 v5 v6 v7 v8 v9 v10:Nat):List (Nat×TO):=[(1000004,.box 37 [dI v0,dI v0,.d .s v1,.d .s v1,.d (.l (.st 0)) v2]),(1000005,.box 37 [dI v3,dI v4,.d .s v5,.d .s v6,.d (.l (.st 0)) v7]),(1000007,.box 184 [.d .s v8,dI v9,dI v10])]
def k45:List TC:=[.l (.st 11),i6,i6,.b,.l (.st 1),.l (.st 3),.l (.st 5),.l (.st 7),.l (.st 8),.l (.st 10),.l (.st 9),.l (.m (.s) (.b)),.l (.m (.s) (.b)),.l (.m (.s) (.b)),.l (.m (.s) (.b)),.l (.m (.s) (.b)),.l (.m (.s) (.b)),i6,i6,.l (.st 12),i6,i6,.s,.l (.st 0),i6,i6,.s,.s,.l (.st 0)]
def k46:List TC:=[.l (.st 11),i6,i6,.b,.l (.st 1),.l (.st 3),.l (.st 5),.l (.st 7),.l (.st 8),.l (.st 10),.l (.st 9),.l (.m (.s) (.b)),.l (.m (.s) (.b)),.l (.m (.s) (.b)),.l (.m (.s) (.b)),.l (.m (.s) (.b)),.l (.m (.s) (.b)),i6,i6,.l (.st 12),i6,i6,i6,.s,.l (.st 0),i6,i6,.s,.s,.l (.st 0)]
def k47:List TC:=[.l (.st 11),i6,i6,.b,.l (.st 1),.l (.st 3),.l (.st 5),.l (.st 7),.l (.st 8),.l (.st 10),.l (.st 9),.l (.m (.s) (.b)),.l (.m (.s) (.b)),.l (.m (.s) (.b)),.l (.m (.s) (.b)),.l (.m (.s) (.b)),.l (.m (.s) (.b)),i6,i6,.s,.l (.st 0),i6,i6,.s,.s,.l (.st 0),.s,i6,i6]
def h48(v0 v1 v2 v3 v4 v5 v6 v7 v8 v9 v10 v11 v12 v13 v14 v15:Nat):List (Nat×TO):=[(1,.box 71 [.d (.l (.st 11)) 0,dI v0,.row 6 2,.row 3 3,.row 3 4,.row 20 5,.row 4 6,.row 6 7,.nrow 3 8,dI v1,.om 9,.om v2,.om 11,.om 12,.om 13,.om 14,.d .b v3]),(2,.row 57 (.st 1) v4 false),(3,.row 87 (.st 3) v5 false),(4,.row 64 (.st 5) v6 false),(5,.row 94 (.st 7) v7 false),(6,.row 96 (.st 8) v8 false),(7,.row 100 (.st 10) v9 false),(8,.row 98 (.st 9) v10 false),(9,.gn 7 (.l (.m (.s) (.b))) v11),(10,.rw 0),(11,.gn 7 (.l (.m (.s) (.b))) v12),(12,.gn 7 (.l (.m (.s) (.b))) v13),(13,.gn 7 (.l (.m (.s) (.b))) v14),(14,.gn 7 (.l (.m (.s) (.b))) v15)]
def h49(v0 v1:Nat):List (Nat×TO):=[(1,.box 71 [.d (.l (.st 11)) 0,dI v0,.row 6 2,.row 3 3,.row 3 4,.row 20 5,.row 4 6,.row 6 7,.nrow 3 8,dI 9,.om 9,.om 10,.om 11,.om 12,.om 13,.om 14,.d .b 16]),(2,.row 57 (.st 1) 2 false),(3,.row 87 (.st 3) 3 false),(4,.row 64 (.st 5) 4 false),(5,.row 94 (.st 7) 5 false),(6,.row 96 (.st 8) 6 false),(7,.row 100 (.st 10) 7 false),(8,.row 98 (.st 9) 8 false),(9,.gn 7 (.l (.m (.s) (.b))) 10),(10,.gn 7 (.l (.m (.s) (.b))) 11),(11,.gn 7 (.l (.m (.s) (.b))) 12),(12,.gn 7 (.l (.m (.s) (.b))) 13),(13,.gn 7 (.l (.m (.s) (.b))) 14),(14,.gn 7 (.l (.m (.s) (.b))) 15),(15,.map (.s) (.b) v1)]
def k50:List TC:=[.l (.st 11),i6,.l (.st 1),.l (.st 3),.l (.st 5),.l (.st 7),.l (.st 8),.l (.st 10),.l (.st 9),i6,.l (.m (.s) (.b)),.l (.m (.s) (.b)),.l (.m (.s) (.b)),.l (.m (.s) (.b)),.l (.m (.s) (.b)),.l (.m (.s) (.b)),.b,.m (.s) (.b)]
def h51:List (Nat×TO):=[(103000500,.gn 7 (.l (.m (.s) (.b))) 15),(1000002,.box 87 [.d .s 16,.row 2 1001000002001,dI 17]),(1000007,.map (.s) (.b) 19),(1001000002001,.row 119 (.st 2) 20 false)]
def k52:List TC:=[.l (.st 11),i6,.b,.l (.st 1),.l (.st 3),.l (.st 5),.l (.st 7),.l (.st 8),.l (.st 10),.l (.st 9),.l (.m (.s) (.b)),.l (.m (.s) (.b)),.l (.m (.s) (.b)),.l (.m (.s) (.b)),.l (.m (.s) (.b)),.l (.m (.s) (.b)),.s,i6]
def h53:List (Nat×TO):=[(103000500,.gn 7 (.l (.m (.s) (.b))) 15),(1000002,.box 87 [.d .s 16,.row 2 1001000002001,dI 17]),(1001000002001,.row 119 (.st 2) 19 false)]
def h54(v0 v1 v2 v3 v4 v5 v6 v7 v8 v9 v10 v11 v12:Nat):List (Nat×TO):=[(1,.box 71 [.d (.l (.st 11)) 0,dI v0,.row 6 2,.row 3 3,.row 3 4,.row 20 5,.row 4 6,.row 6 7,.nrow 3 8,dI v1,.om 9,.om 10,.om v2,.om 12,.om 13,.om 14,.d .b v3]),(2,.row 57 (.st 1) v4 false),(3,.row 87 (.st 3) v5 false),(4,.row 64 (.st 5) v6 false),(5,.row 94 (.st 7) v7 false),(6,.row 96 (.st 8) v8 false),(7,.row 100 (.st 10) v9 false),(8,.row 98 (.st 9) v10 false),(9,.gn 7 (.l (.m (.s) (.b))) v11),(10,.gn 7 (.l (.m (.s) (.b))) v12),(11,.rw 0),(12,.gn 7 (.l (.m (.s) (.b))) 13),(13,.gn 7 (.l (.m (.s) (.b))) 14),(14,.gn 7 (.l (.m (.s) (.b))) 15)]
def k55:List TC:=[.l (.st 11),i6,.b,.l (.st 1),.l (.st 3),.l (.st 5),.l (.st 7),.l (.st 8),.l (.st 10),.l (.st 9),.l (.m (.s) (.b)),.l (.m (.s) (.b)),.l (.m (.s) (.b)),.l (.m (.s) (.b)),.l (.m (.s) (.b)),.l (.m (.s) (.b))]
def h56(v0 v1 v2 v3 v4 v5 v6 v7 v8 v9 v10 v11 v12 v13 v14 v15:Nat):List (Nat×TO):=[(1,.box 71 [.d (.l (.st 11)) 0,dI v0,.row 6 2,.row 3 3,.row 3 4,.row 20 5,.row 4 6,.row 6 7,.nrow 3 8,dI v1,.om 9,.om 10,.om 11,.om v2,.om 13,.om 14,.d .b v3]),(2,.row 57 (.st 1) v4 false),(3,.row 87 (.st 3) v5 false),(4,.row 64 (.st 5) v6 false),(5,.row 94 (.st 7) v7 false),(6,.row 96 (.st 8) v8 false),(7,.row 100 (.st 10) v9 false),(8,.row 98 (.st 9) v10 false),(9,.gn 7 (.l (.m (.s) (.b))) v11),(10,.gn 7 (.l (.m (.s) (.b))) v12),(11,.gn 7 (.l (.m (.s) (.b))) v13),(12,.rw 0),(13,.gn 7 (.l (.m (.s) (.b))) v14),(14,.gn 7 (.l (.m (.s) (.b))) v15)]
def h57(v0 v1:Nat):List (Nat×TO):=[(v0,.row 9 (.s) v1 false)]
def k58:List TC:=[.l (.st 11),i6,i6,.b,.l (.st 1),.l (.st 3),.l (.st 5),.l (.st 7),.l (.st 8),.l (.st 10),.l (.st 9),.l (.m (.s) (.b)),.l (.m (.s) (.b)),.l (.m (.s) (.b)),.l (.m (.s) (.b)),.l (.m (.s) (.b)),.l (.m (.s) (.b)),i6,i6]
def h59(v0 v1 v2 v3 v4 v5 v6 v7 v8 v9 v10 v11 v12 v13 v14 v15 v16 v17 v18:Nat):List (Nat×TO):=[(103000400,.gn 7 (.l (.m (.s) (.b))) 15),(1000002,.box 94 [.d .s 16,.d (.l (.s)) v0,.d (.l (.s)) v1,dI v2,dI v3,dI v4,.d .b v5,dI v6,dI v7,dI v8,.d .s v9,.d .s v10,.d (.l (.st 0)) v11,dI v12,dI v13,dI v14,dI v15,dI v16,dI v17,dI v18])]
def k60:List TC:=[.l (.st 11),i6,.b,.l (.st 1),.l (.st 3),.l (.st 5),.l (.st 7),.l (.st 8),.l (.st 10),.l (.st 9),.l (.m (.s) (.b)),.l (.m (.s) (.b)),.l (.m (.s) (.b)),.l (.m (.s) (.b)),.l (.m (.s) (.b)),.l (.m (.s) (.b)),.s,.l (.s),i6,.b,.s,.l (.st 0)]
def k61:List TC:=[.l (.st 11),i6,.b,.l (.st 1),.l (.st 3),.l (.st 5),.l (.st 7),.l (.st 8),.l (.st 10),.l (.st 9),.l (.m (.s) (.b)),.l (.m (.s) (.b)),.l (.m (.s) (.b)),.l (.m (.s) (.b)),.l (.m (.s) (.b)),.l (.m (.s) (.b)),.s,.l (.s),.l (.s),i6,.b,.s,.l (.st 0)]
def k62:List TC:=[.l (.st 11),i6,.b,.l (.st 1),.l (.st 3),.l (.st 5),.l (.st 7),.l (.st 8),.l (.st 10),.l (.st 9),.l (.m (.s) (.b)),.l (.m (.s) (.b)),.l (.m (.s) (.b)),.l (.m (.s) (.b)),.l (.m (.s) (.b)),.l (.m (.s) (.b)),.s,.l (.s),.l (.s),i6,i6,.b,.s,.l (.st 0)]
def k63:List TC:=[.l (.st 11),i6,.b,.l (.st 1),.l (.st 3),.l (.st 5),.l (.st 7),.l (.st 8),.l (.st 10),.l (.st 9),.l (.m (.s) (.b)),.l (.m (.s) (.b)),.l (.m (.s) (.b)),.l (.m (.s) (.b)),.l (.m (.s) (.b)),.l (.m (.s) (.b)),.s,.l (.s),.l (.s),i6,i6,.b,i6,.s,.l (.st 0)]
def k64:List TC:=[.l (.st 11),i6,.b,.l (.st 1),.l (.st 3),.l (.st 5),.l (.st 7),.l (.st 8),.l (.st 10),.l (.st 9),.l (.m (.s) (.b)),.l (.m (.s) (.b)),.l (.m (.s) (.b)),.l (.m (.s) (.b)),.l (.m (.s) (.b)),.l (.m (.s) (.b)),.s,.l (.s),.l (.s),i6,i6,i6,.b]
def k65:List TC:=[i6,i6,i6,i6,.s,.s,.l (.st 0),i6,i6,i6,i6,i6,i6,i6]
def h66(v0 v1 v2 v3 v4 v5 v6 v7 v8 v9 v10 v11 v12 v13 v14:Nat):List (Nat×TO):=[(1,.box 71 [.d (.l (.st 11)) 0,dI v0,.row 6 2,.row 3 3,.row 3 4,.row 20 5,.row 4 6,.row 6 7,.nrow 3 8,dI v1,.om 9,.om 10,.om 11,.om 12,.om v2,.om 14,.d .b v3]),(2,.row 57 (.st 1) v4 false),(3,.row 87 (.st 3) v5 false),(4,.row 64 (.st 5) v6 false),(5,.row 94 (.st 7) v7 false),(6,.row 96 (.st 8) v8 false),(7,.row 100 (.st 10) v9 false),(8,.row 98 (.st 9) v10 false),(9,.gn 7 (.l (.m (.s) (.b))) v11),(10,.gn 7 (.l (.m (.s) (.b))) v12),(11,.gn 7 (.l (.m (.s) (.b))) v13),(12,.gn 7 (.l (.m (.s) (.b))) v14),(13,.rw 0),(14,.gn 7 (.l (.m (.s) (.b))) 15)]
def h67(v0 v1 v2 v3 v4 v5 v6 v7 v8 v9 v10 v11 v12 v13 v14 v15:Nat):List (Nat×TO):=[(1,.box 71 [.d (.l (.st 11)) 0,dI v0,.row 6 2,.row 3 3,.row 3 4,.row 20 5,.row 4 6,.row 6 7,.nrow 3 8,dI v1,.om 9,.om 10,.om 11,.om 12,.om 13,.om v2,.d .b v3]),(2,.row 57 (.st 1) v4 false),(3,.row 87 (.st 3) v5 false),(4,.row 64 (.st 5) v6 false),(5,.row 94 (.st 7) v7 false),(6,.row 96 (.st 8) v8 false),(7,.row 100 (.st 10) v9 false),(8,.row 98 (.st 9) v10 false),(9,.gn 7 (.l (.m (.s) (.b))) v11),(10,.gn 7 (.l (.m (.s) (.b))) v12),(11,.gn 7 (.l (.m (.s) (.b))) v13),(12,.gn 7 (.l (.m (.s) (.b))) v14),(13,.gn 7 (.l (.m (.s) (.b))) v15),(14,.rw 0)]
def h68:List (Nat×TO):=[(103000400,.gn 7 (.l (.m (.s) (.b))) 15),(1000002,.box 100 [.d .s 16,dI 17,dI 18,dI 19,dI 20,.row 3 1001000002005]),(1001000002005,.row 98 (.st 9) 22 false)]
def k69:List TC:=[.l (.st 11),i6,.b,.l (.st 1),.l (.st 3),.l (.st 5),.l (.st 7),.l (.st 8),.l (.st 10),.l (.st 9),.l (.m (.s) (.b)),.l (.m (.s) (.b)),.l (.m (.s) (.b)),.l (.m (.s) (.b)),.l (.m (.s) (.b)),.l (.m (.s) (.b)),.s,i6,i6,i6,i6]
def k70:List TC:=[.l (.st 11),i6,.b,.l (.st 1),.l (.st 3),.l (.st 5),.l (.st 7),.l (.st 8),.l (.st 10),.l (.m (.s) (.b)),.l (.m (.s) (.b)),.l (.m (.s) (.b)),.l (.m (.s) (.b)),.l (.m (.s) (.b)),.l (.m (.s) (.b))]
def k71:List TC:=[.l (.st 11),i6,i6,.b,.l (.st 1),.l (.st 3),.l (.st 5),.l (.st 7),.l (.st 8),.l (.st 10),.l (.st 9),.l (.m (.s) (.b)),.l (.m (.s) (.b)),.l (.m (.s) (.b)),.l (.m (.s) (.b)),.l (.m (.s) (.b)),.l (.m (.s) (.b))]
def h72(v0 v1 v2 v3 v4 v5 v6 v7 v8 v9 v10 v11 v12 v13 v14 v15:Nat):List (Nat×TO):=[(1,.box 71 [.d (.l (.st 11)) 0,dI v0,.row 6 2,.row 3 3,.row 3 4,.row 20 5,.row 4 6,.row 6 7,.nrow 3 8,dI v1,.om v2,.om v3,.om v4,.om v5,.om v6,.om v7,.d .b v8]),(2,.row 57 (.st 1) v9 false),(3,.row 87 (.st 3) v10 false),(4,.row 64 (.st 5) v11 false),(5,.row 94 (.st 7) v12 false),(6,.row 96 (.st 8) v13 false),(7,.row 100 (.st 10) v14 false),(8,.row 98 (.st 9) v15 false),(9,.rw 0),(10,.rw 0),(11,.rw 0),(12,.rw 0),(13,.rw 0),(14,.rw 0)]
def h73(v0 v1 v2 v3 v4 v5 v6 v7 v8 v9 v10 v11:Nat):List (Nat×TO):=[(v0,.gn 7 (.l (.m (.s) (.b))) v1),(v2,.gn 7 (.l (.m (.s) (.b))) v3),(v4,.gn 7 (.l (.m (.s) (.b))) v5),(v6,.gn 7 (.l (.m (.s) (.b))) v7),(v8,.gn 7 (.l (.m (.s) (.b))) v9),(v10,.gn 7 (.l (.m (.s) (.b))) v11)]
def k74:List TC:=[i6,i6,.b,.l (.st 1),.l (.st 3),.l (.st 5),.l (.st 7),.l (.st 8),.l (.st 10),.l (.st 9),.l (.m (.s) (.b)),.l (.m (.s) (.b)),.l (.m (.s) (.b)),.l (.m (.s) (.b)),.l (.m (.s) (.b)),.l (.m (.s) (.b))]
def h75(v0 v1 v2 v3 v4 v5 v6 v7 v8 v9 v10 v11 v12 v13 v14:Nat):List (Nat×TO):=[(900000000,.rw 1),(900000001,.rw 2),(900000002,.rw 3),(900000003,.rw 4),(v0,.box 31 [.row 6 v1,.row 3 v2,.row 3 v3,.row 20 v4,.row 4 v5,.row 6 v6,.d (.l (.st 9)) v7,dI v8]),(v1,.row 57 (.st 1) v9 false),(v2,.row 87 (.st 3) v10 false),(v3,.row 64 (.st 5) v11 false),(v4,.row 94 (.st 7) v12 false),(v5,.row 96 (.st 8) v13 false),(v6,.row 100 (.st 10) v14 false)]
def k76:List TC:=[i6,i6,.l (.st 9),i6,.l (.st 1),.l (.st 3),.l (.st 5),.l (.st 7),.l (.st 8),.l (.st 10)]
def h77(v0:Nat):List (Nat×TO):=[(900000000,.rw 1),(900000001,.rw 2),(900000002,.rw 3),(900000003,.rw 4),(7000001,.row 9 (.s) v0 false)]
def h78(v0 v1 v2 v3 v4 v5 v6 v7 v8 v9 v10 v11 v12 v13 v14 v15 v16 v17 v18 v19 v20 v21 v22 v23 v24 v25 v26 v27 v28 v29 v30 v31 v32 v33 v34 v35 v36 v37 v38 v39:Nat):List (Nat×TO):=[(1000002,.box 94 [.d .s v0,.d (.l (.s)) v1,.d (.l (.s)) v2,dI v3,dI v4,dI v5,.d .b v6,dI v7,dI v8,dI v9,.d .s v10,.d .s v11,.d (.l (.st 0)) v12,dI v13,dI v14,dI v15,dI v16,dI v17,dI v18,dI v19]),(1000003,.box 94 [.d .s v20,.d (.l (.s)) v21,.d (.l (.s)) v22,dI v23,dI v24,dI v25,.d .b v26,dI v27,dI v28,dI v29,.d .s v30,.d .s v31,.d (.l (.st 0)) v32,dI v33,dI v34,dI v35,dI v36,dI v37,dI v38,dI v39])]
def k79:List TC:=[.s,.l (.s),.l (.s),i6,i6,i6,.b,i6,i6,i6,.s,.s,.l (.st 0),i6,i6,i6,i6,i6,i6,i6,.s,.l (.s),.l (.s),i6,i6,i6,.b,i6,i6,i6,.s,.s,.l (.st 0),i6,i6,i6,i6,i6,i6,i6]
def k80:List TC:=[.s,.l (.s),.l (.s),i6,i6,i6,.b,i6,i6,i6,.s,.s,.l (.st 0),i6,i6,i6,i6,i6,i6,i6]
def h81(v0 v1 v2 v3 v4 v5 v6 v7 v8:Nat):List (Nat×TO):=[(900000000,.rw 1),(900000001,.rw 2),(900000002,.rw 3),(900000003,.rw 4),(v0,.box 31 [.d (.l (.st 1)) v1,.d (.l (.st 3)) v2,.d (.l (.st 5)) v3,.d (.l (.st 7)) v4,.d (.l (.st 8)) v5,.d (.l (.st 10)) v6,.d (.l (.st 9)) v7,dI v8])]
def k82:List TC:=[.l (.st 1),i6,.l (.st 3),.l (.st 5),.l (.st 7),.l (.st 8),.l (.st 10),.l (.st 9),i6]
def k83:List TC:=[.l (.st 3),i6,.l (.st 1),.l (.st 5),.l (.st 7),.l (.st 8),.l (.st 10),.l (.st 9),i6]
def k84:List TC:=[.l (.st 5),i6,.l (.st 1),.l (.st 3),.l (.st 7),.l (.st 8),.l (.st 10),.l (.st 9),i6]
def k85:List TC:=[.l (.st 7),i6,.l (.st 1),.l (.st 3),.l (.st 5),.l (.st 8),.l (.st 10),.l (.st 9),i6]
def k86:List TC:=[.l (.st 8),i6,.l (.st 1),.l (.st 3),.l (.st 5),.l (.st 7),.l (.st 10),.l (.st 9),i6]
def k87:List TC:=[.l (.st 10),i6,.l (.st 1),.l (.st 3),.l (.st 5),.l (.st 7),.l (.st 8),.l (.st 9),i6]
def h88(v0 v1 v2 v3 v4 v5 v6 v7:Nat):List (Nat×TO):=[(900000000,.rw 1),(900000001,.rw 2),(900000002,.rw 3),(900000003,.rw 4),(1000001,.box 31 [.d (.l (.st 1)) v0,.d (.l (.st 3)) v1,.d (.l (.st 5)) v2,.d (.l (.st 7)) v3,.d (.l (.st 8)) v4,.d (.l (.st 10)) 0,.d (.l (.st 9)) v5,dI v6]),(1000170,.row 98 (.st 9) v7 false)]
def k89:List TC:=[.l (.st 9),i6,.l (.st 1),.l (.st 3),.l (.st 5),.l (.st 7),.l (.st 8),.l (.st 10),i6]
def h90(v0 v1 v2 v3 v4 v5 v6 v7 v8 v9 v10 v11 v12 v13 v14 v15 v16 v17 v18 v19 v20 v21:Nat):List (Nat×TO):=[(1,.gn 1 (.s) v0),(900000000,.rw 1),(900000001,.rw 2),(900000002,.rw 3),(900000003,.rw 4),(1000003,.box 94 [.d .s v1,.d (.l (.s)) v2,.d (.l (.s)) v3,dI v4,dI v5,dI v6,.d .b v7,dI v8,dI v9,dI v10,.d .s v11,.d .s v12,.d (.l (.st 0)) v13,dI v14,dI v15,dI v16,dI v17,dI v18,dI v19,dI v20]),(1000022,.row 58 (.l (.s)) v21 false)]
def h91(v0 v1 v2 v3 v4 v5 v6 v7 v8 v9 v10 v11 v12 v13 v14 v15 v16 v17 v18 v19 v20:Nat):List (Nat×TO):=[(1,.gn 1 (.s) v0),(900000000,.rw 1),(900000001,.rw 2),(900000002,.rw 3),(900000003,.rw 4),(1000003,.box 94 [.d .s v1,.d (.l (.s)) v2,.d (.l (.s)) v3,dI v4,dI v5,dI v6,.d .b v7,dI v8,dI v9,dI v10,.d .s v11,.d .s v12,.d (.l (.st 0)) v13,dI v14,dI v15,dI v16,dI v17,dI v18,dI v19,dI v20])]
def h92(v0 v1 v2 v3 v4 v5 v6 v7 v8 v9 v10 v11 v12 v13 v14 v15 v16 v17 v18 v19 v20 v21:Nat):List (Nat×TO):=[(1,.gn 1 (.s) v0),(900000000,.rw 1),(900000001,.rw 2),(900000002,.rw 3),(900000003,.rw 4),(1000003,.box 94 [.d .s v1,.d (.l (.s)) v2,.d (.l (.s)) v3,dI v4,dI v5,dI v6,.d .b v7,dI v8,dI v9,dI v10,.d .s v11,.d .s v12,.d (.l (.st 0)) v13,dI v14,dI v15,dI v16,dI v17,dI v18,dI v19,dI v20]),(1000050,.row 3 i6 v21 false)]
def h93(v0 v1 v2 v3 v4 v5 v6 v7 v8 v9 v10 v11 v12 v13 v14 v15 v16 v17 v18 v19 v20 v21:Nat):List (Nat×TO):=[(1,.gn 1 (.s) v0),(900000000,.rw 1),(900000001,.rw 2),(900000002,.rw 3),(900000003,.rw 4),(1000003,.box 94 [.d .s v1,.d (.l (.s)) v2,.d (.l (.s)) v3,dI v4,dI v5,dI v6,.d .b v7,dI v8,dI v9,dI v10,.d .s v11,.d .s v12,.d (.l (.st 0)) v13,dI v14,dI v15,dI v16,dI v17,dI v18,dI v19,dI v20]),(103008000,.row 9 (.s) v21 false)]
def h94(v0 v1 v2 v3 v4 v5 v6 v7 v8:Nat):List (Nat×TO):=[(900000000,.rw 1),(900000001,.rw 2),(900000002,.rw 3),(900000003,.rw 4),(1000001,.box 31 [.d (.l (.st 1)) v0,.d (.l (.st 3)) v1,.d (.l (.st 5)) v2,.d (.l (.st 7)) v3,.d (.l (.st 8)) v4,.d (.l (.st 10)) v5,.d (.l (.st 9)) v6,dI v7]),(1000028,.gn 1 (.s) v8)]
def h95(v0:Nat):List (Nat×TO):=[(900000000,.rw 1),(900000001,.rw 2),(900000002,.rw 3),(900000003,.rw 4),(1000001,.box 31 [.d (.l (.st 1)) 5,.d (.l (.st 3)) 0,.d (.l (.st 5)) 6,.d (.l (.st 7)) 7,.d (.l (.st 8)) 8,.d (.l (.st 10)) 9,.d (.l (.st 9)) 10,dI 11]),(1000028,.gn 1 (.s) v0),(1000008,.box 87 [.d .s 12,.d (.l (.st 2)) 3,dI 13])]
def k96:List TC:=[.b,.l (.st 9),i6,.l (.st 1),.l (.st 3),.l (.st 5),.l (.st 7),.l (.st 8),.l (.st 10)]
def h99(v0 v1 v2 v3 v4 v5 v6 v7 v8:Nat):List (Nat×TO):=[(1000002,.box 31 [.d (.l (.st 1)) v0,.d (.l (.st 3)) v1,.d (.l (.st 5)) v2,.d (.l (.st 7)) v3,.d (.l (.st 8)) v4,.d (.l (.st 10)) v5,.d (.l (.st 9)) v6,dI v7]),(7000001,.row 9 (.s) v8 false)]
def ztv:List TC:=[i6,.l (.st 1),.l (.st 3),.l (.st 5),.l (.st 7),.l (.st 8),.l (.st 10),.l (.st 9),i6]
def zOn:List TC:=[i6,i6,.l (.st 1),.l (.st 3),.l (.st 5),.l (.st 7),.l (.st 8),.l (.st 10),.l (.st 9),i6,.l (.s)]
def k119:List TC:=[i6,i6,.s,.s,.l (.st 0),i6,i6,.s,.s,.l (.st 0)]
def zjt(v0 v1 v2 v3 v4 v5 v6 v7 v8 v9 v10 v11 v12 v13 v14 v15:Nat):List (Nat×TO):=[(1000002,.box 31 [.d (.l (.st 1)) v0,.d (.l (.st 3)) v1,.d (.l (.st 5)) v2,.d (.l (.st 7)) v3,.d (.l (.st 8)) v4,.d (.l (.st 10)) v5,.d (.l (.st 9)) v6,dI v7]),(1000003,.box 31 [.d (.l (.st 1)) v8,.d (.l (.st 3)) v9,.d (.l (.st 5)) v10,.d (.l (.st 7)) v11,.d (.l (.st 8)) v12,.d (.l (.st 10)) v13,.d (.l (.st 9)) v14,dI v15])]
def zI0:List TC:=[.l (.st 1),.l (.st 3),.l (.st 5),.l (.st 7),.l (.st 8),.l (.st 10),.l (.st 9),i6,.l (.st 1),.l (.st 3),.l (.st 5),.l (.st 7),.l (.st 8),.l (.st 10),.l (.st 9),i6]
def zQk:List TC:=[i6,.l (.st 1),.l (.st 3),.l (.st 5),.l (.st 7),.l (.st 8),.l (.st 10),.l (.st 9),i6,.l (.st 1),.l (.st 3),.l (.st 5),.l (.st 7),.l (.st 8),.l (.st 10),.l (.st 9),i6]
def qB(v0 v1 v2 v3 v4 v5 v6 v7:Nat):List (Nat×TO):=[(1000001,.box 31 [.d (.l (.st 1)) v0,.d (.l (.st 3)) v1,.d (.l (.st 5)) v2,.d (.l (.st 7)) v3,.d (.l (.st 8)) v4,.d (.l (.st 10)) v5,.d (.l (.st 9)) v6,dI v7])]
def zTj(v0:Nat):List (Nat×TO):=[(1000001,.box 31 [.d (.l (.st 1)) 1,.d (.l (.st 3)) 2,.d (.l (.st 5)) 3,.d (.l (.st 7)) 4,.d (.l (.st 8)) 5,.d (.l (.st 10)) 6,.d (.l (.st 9)) 7,dI 8]),(v0,.box 87 [.d .s 9,.d (.l (.st 2)) 10,dI 11])]
def k125:List TC:=[i6,.l (.st 1),.l (.st 3),.l (.st 5),.l (.st 7),.l (.st 8),.l (.st 10),.l (.st 9),i6,.s,.l (.st 2),i6]
def zTk(v0 v1 v2 v3 v4 v5 v6 v7 v8 v9 v10 v11 v12 v13 v14 v15 v16 v17 v18 v19:Nat):List (Nat×TO):=[(1000001,.box 94 [.d .s v0,.d (.l (.s)) v1,.d (.l (.s)) v2,dI v3,dI v4,dI v5,.d .b v6,dI v7,dI v8,dI v9,.d .s v10,.d .s v11,.d (.l (.st 0)) v12,dI v13,dI v14,dI v15,dI v16,dI v17,dI v18,dI v19])]
def h127:List (Nat×TO):=[(1000001,.box 100 [.d .s 0,dI 1,dI 2,dI 3,dI 4,.d (.l (.st 9)) 5])]
def k128:List TC:=[.s,i6,.l (.st 1),.l (.st 3),.l (.st 5),.l (.st 7),.l (.st 8),.l (.st 10),.l (.st 9),i6]
def k129:List TC:=[.b,.l (.st 1),.l (.st 3),.l (.st 5),.l (.st 7),.l (.st 8),.l (.st 10),.l (.st 9),i6,.l (.st 1),.l (.st 3),.l (.st 5),.l (.st 7),.l (.st 8),.l (.st 10),.l (.st 9),i6]
def k130:List TC:=[.b,.l (.st 1),.l (.st 3),.l (.st 5),.l (.st 7),.l (.st 8),.l (.st 10),.l (.st 9),i6]
def zIv:Nat→Type
 |0=>Expr
 |1=>Def
 |2=>Entry
 |3=>Table
 |4=>zG
 |5=>zY
 |6=>zt
 |7=>zB
 |8=>Cap
 |9=>zf
 |10=>View
 |11=>Token
 |12=>zj
 |13=>zI
 |14=>vg
 |_=>Unit
def TS0:Tab where
 T:=zIv
 dflt:=fun n=>match n with
  |0=>(default:Expr)
  |1=>(default:Def)
  |2=>(default:Entry)
  |3=>(default:Table)
  |4=>(default:zG)
  |5=>(default:zY)
  |6=>(default:zt)
  |7=>(default:zB)
  |8=>(default:Cap)
  |9=>(default:zf)
  |10=>(default:View)
  |11=>(default:Token)
  |12=>(default:zj)
  |13=>(default:zI)
  |14=>(default:vg)
  |_+15=>()
 fl:=fun n=>match n with
  |0=>[i6,i6,.s,.s,.l (.st 0)]
  |1=>[.s,.st 0]
  |2=>[.s,i6]
  |3=>[.s,.l (.st 2),i6]
  |4=>[i6,i6]
  |5=>[.s,.b,.l (.st 4)]
  |6=>k1
  |7=>[.s,.l (.s),.l (.s),i6,i6,i6,.b,i6,.st 0,.st 6,i6,i6,i6]
  |8=>[.s,i6,i6,.l (.st 4)]
  |9=>k2
  |10=>[.s,.st 9,i6,.l (.st 9)]
  |11=>k3
  |12=>[.s,i6,i6]
  |13=>[.st 4,.st 4]
  |14=>k4
  |_+15=>[]
 cn:=fun n=>match n with
  |0=>5
  |1=>6
  |2=>2
  |3=>3
  |4=>2
  |5=>3
  |6=>4
  |7=>20
  |8=>4
  |9=>3
  |10=>6
  |11=>4
  |12=>3
  |13=>4
  |14=>8
  |_+15=>0
 out:=fun n=>match n with
  |0=>fun x=>((x:Expr).Op,(x:Expr).N,(x:Expr).S,(x:Expr).Key,(x:Expr).Args)
  |1=>fun x=>((x:Def).Name,(x:Def).Body)
  |2=>fun x=>((x:Entry).Name,(x:Entry).N)
  |3=>fun x=>((x:Table).Name,(x:Table).Rows,(x:Table).Else)
  |4=>fun x=>((x:zG).X,(x:zG).Y)
  |5=>fun x=>((x:zY).Name,(x:zY).Overlay,(x:zY).Corners)
  |6=>fun x=>((x:zt).Side,(x:zt).Base,(x:zt).Num,(x:zt).Den)
  |7=>fun x=>((x:zB).Name,(x:zB).Zones,(x:zB).Except,(x:zB).From,(x:zB).Until,(x:zB).Grace,(x:zB).Vary,(x:zB).Kind,(x:zB).Test,(x:zB).zt,(x:zB).Uses,(x:zB).Other,(x:zB).N)
  |8=>fun x=>((x:Cap).Name,(x:Cap).Load,(x:Cap).Limit,(x:Cap).Corners)
  |9=>fun x=>((x:zf).X,(x:zf).Y,(x:zf).Z_)
  |10=>fun x=>((x:View).Name,(x:View).Eye,(x:View).Least,(x:View).Targets)
  |11=>fun x=>((x:Token).Kind,(x:Token).Text,(x:Token).N,(x:Token).Pos)
  |12=>fun x=>((x:zj).text,(x:zj).op,(x:zj).form)
  |13=>fun x=>((x:zI).a,(x:zI).b)
  |14=>fun x=>((x:vg).Defs,(x:vg).Tables,(x:vg).Zones,(x:vg).Rules,(x:vg).Caps,(x:vg).Views,(x:vg).Sun,(x:vg).Hours)
  |_+15=>fun _=>()
 inj:=fun n=>match n with
  |0=>fun x=>(⟨x.1,x.2.1,x.2.2.1,x.2.2.2.1,x.2.2.2.2⟩:Expr)
  |1=>fun x=>(⟨x.1,x.2⟩:Def)
  |2=>fun x=>(⟨x.1,x.2⟩:Entry)
  |3=>fun x=>(⟨x.1,x.2.1,x.2.2⟩:Table)
  |4=>fun x=>(⟨x.1,x.2⟩:zG)
  |5=>fun x=>(⟨x.1,x.2.1,x.2.2⟩:zY)
  |6=>fun x=>(⟨x.1,x.2.1,x.2.2.1,x.2.2.2⟩:zt)
  |7=>fun x=>(⟨x.1,x.2.1,x.2.2.1,x.2.2.2.1,x.2.2.2.2.1,(p5Q x).1,(p6Q x).1,(p7Q x).1,(p8Q x).1,(p9Q x).1,(zk3 x).1,(zk4 x).1,(zk5 x)⟩:zB)
  |8=>fun x=>(⟨x.1,x.2.1,x.2.2.1,x.2.2.2⟩:Cap)
  |9=>fun x=>(⟨x.1,x.2.1,x.2.2⟩:zf)
  |10=>fun x=>(⟨x.1,x.2.1,x.2.2.1,x.2.2.2⟩:View)
  |11=>fun x=>(⟨x.1,x.2.1,x.2.2.1,x.2.2.2⟩:Token)
  |12=>fun x=>(⟨x.1,x.2.1,x.2.2⟩:zj)
  |13=>fun x=>(⟨x.1,x.2⟩:zI)
  |14=>fun x=>(⟨x.1,x.2.1,x.2.2.1,x.2.2.2.1,x.2.2.2.2.1,(p5Q x).1,(p6Q x).1,(p7Q x)⟩:vg)
  |_+15=>fun _=>()
 enc:=fun n=>match n with
  |0=>vf
  |1=>QP
  |2=>qO
  |3=>oz
  |4=>jm
  |5=>HA
  |6=>JI
  |7=>HB
  |8=>QQ
  |9=>vI
  |10=>HC
  |11=>Wd
  |12=>oA
  |13=>Jn
  |14=>Ab
  |_+15=>fun _=>[]
 ro:=fun n=>match n with
  |1=>gl0 KZ.ob0
  |2=>gl1 KZ.ob1
  |3=>gl2 KZ.ob2 KZ.m2
  |4=>gl3 KZ.ob3
  |_=>.gen gone
def goT(i:Nat):(c:TC)→c.ty zIv→EV.Obj
 |.s,x=>sb (bif Nat.beq i 0 then 108 else 123) x
 |.l (.m kc ec),x=>.gen (oZ (List.map (zeu (vn TS0 kc) (vn TS0 ec)) x))
 |_,_=>.gen gone
def glT:Nat→Option (Nat×Nat×List (List UInt8))
 |1=>some (0,200,zf9)
 |_=>none
def gaT:Nat→Option (Nat×Dy zIv×List V)
 |108=>some (0,⟨.s,([]:List UInt8)⟩,[.nilp,.nils])
 |123=>some (1,⟨.s,([]:List UInt8)⟩,[.nilp,.nils])
 |_=>none
theorem zQl(t i:Nat)(d:Dy zIv)(cs:List V)(h:gaT t=some (i,d,cs))(m:M)(Z:ZM)(w:World)(k:Nat)(hh:EV.Holds m Z w k (.box t cs)):EV.Holds m Z w k (goT i d.1 d.2)∧∀b,blk m (k,goT i d.1 d.2) b→blk m (k,.box t cs) b:=by
 unfold gaT at h;split at h
 ·cases h;exact zAx hh
 ·cases h;exact zAx hh
 ·cases h
def TS:Tab where
 T:=zIv
 dflt:=fun n=>match n with
  |0=>(default:Expr)
  |1=>(default:Def)
  |2=>(default:Entry)
  |3=>(default:Table)
  |4=>(default:zG)
  |5=>(default:zY)
  |6=>(default:zt)
  |7=>(default:zB)
  |8=>(default:Cap)
  |9=>(default:zf)
  |10=>(default:View)
  |11=>(default:Token)
  |12=>(default:zj)
  |13=>(default:zI)
  |14=>(default:vg)
  |_+15=>()
 fl:=fun n=>match n with
  |0=>[i6,i6,.s,.s,.l (.st 0)]
  |1=>[.s,.st 0]
  |2=>[.s,i6]
  |3=>[.s,.l (.st 2),i6]
  |4=>[i6,i6]
  |5=>[.s,.b,.l (.st 4)]
  |6=>k1
  |7=>[.s,.l (.s),.l (.s),i6,i6,i6,.b,i6,.st 0,.st 6,i6,i6,i6]
  |8=>[.s,i6,i6,.l (.st 4)]
  |9=>k2
  |10=>[.s,.st 9,i6,.l (.st 9)]
  |11=>k3
  |12=>[.s,i6,i6]
  |13=>[.st 4,.st 4]
  |14=>k4
  |_+15=>[]
 cn:=fun n=>match n with
  |0=>5
  |1=>6
  |2=>2
  |3=>3
  |4=>2
  |5=>3
  |6=>4
  |7=>20
  |8=>4
  |9=>3
  |10=>6
  |11=>4
  |12=>3
  |13=>4
  |14=>8
  |_+15=>0
 out:=fun n=>match n with
  |0=>fun x=>((x:Expr).Op,(x:Expr).N,(x:Expr).S,(x:Expr).Key,(x:Expr).Args)
  |1=>fun x=>((x:Def).Name,(x:Def).Body)
  |2=>fun x=>((x:Entry).Name,(x:Entry).N)
  |3=>fun x=>((x:Table).Name,(x:Table).Rows,(x:Table).Else)
  |4=>fun x=>((x:zG).X,(x:zG).Y)
  |5=>fun x=>((x:zY).Name,(x:zY).Overlay,(x:zY).Corners)
  |6=>fun x=>((x:zt).Side,(x:zt).Base,(x:zt).Num,(x:zt).Den)
  |7=>fun x=>((x:zB).Name,(x:zB).Zones,(x:zB).Except,(x:zB).From,(x:zB).Until,(x:zB).Grace,(x:zB).Vary,(x:zB).Kind,(x:zB).Test,(x:zB).zt,(x:zB).Uses,(x:zB).Other,(x:zB).N)
  |8=>fun x=>((x:Cap).Name,(x:Cap).Load,(x:Cap).Limit,(x:Cap).Corners)
  |9=>fun x=>((x:zf).X,(x:zf).Y,(x:zf).Z_)
  |10=>fun x=>((x:View).Name,(x:View).Eye,(x:View).Least,(x:View).Targets)
  |11=>fun x=>((x:Token).Kind,(x:Token).Text,(x:Token).N,(x:Token).Pos)
  |12=>fun x=>((x:zj).text,(x:zj).op,(x:zj).form)
  |13=>fun x=>((x:zI).a,(x:zI).b)
  |14=>fun x=>((x:vg).Defs,(x:vg).Tables,(x:vg).Zones,(x:vg).Rules,(x:vg).Caps,(x:vg).Views,(x:vg).Sun,(x:vg).Hours)
  |_+15=>fun _=>()
 inj:=fun n=>match n with
  |0=>fun x=>(⟨x.1,x.2.1,x.2.2.1,x.2.2.2.1,x.2.2.2.2⟩:Expr)
  |1=>fun x=>(⟨x.1,x.2⟩:Def)
  |2=>fun x=>(⟨x.1,x.2⟩:Entry)
  |3=>fun x=>(⟨x.1,x.2.1,x.2.2⟩:Table)
  |4=>fun x=>(⟨x.1,x.2⟩:zG)
  |5=>fun x=>(⟨x.1,x.2.1,x.2.2⟩:zY)
  |6=>fun x=>(⟨x.1,x.2.1,x.2.2.1,x.2.2.2⟩:zt)
  |7=>fun x=>(⟨x.1,x.2.1,x.2.2.1,x.2.2.2.1,x.2.2.2.2.1,(p5Q x).1,(p6Q x).1,(p7Q x).1,(p8Q x).1,(p9Q x).1,(zk3 x).1,(zk4 x).1,(zk5 x)⟩:zB)
  |8=>fun x=>(⟨x.1,x.2.1,x.2.2.1,x.2.2.2⟩:Cap)
  |9=>fun x=>(⟨x.1,x.2.1,x.2.2⟩:zf)
  |10=>fun x=>(⟨x.1,x.2.1,x.2.2.1,x.2.2.2⟩:View)
  |11=>fun x=>(⟨x.1,x.2.1,x.2.2.1,x.2.2.2⟩:Token)
  |12=>fun x=>(⟨x.1,x.2.1,x.2.2⟩:zj)
  |13=>fun x=>(⟨x.1,x.2⟩:zI)
  |14=>fun x=>(⟨x.1,x.2.1,x.2.2.1,x.2.2.2.1,x.2.2.2.2.1,(p5Q x).1,(p6Q x).1,(p7Q x)⟩:vg)
  |_+15=>fun _=>()
 enc:=fun n=>match n with
  |0=>vf
  |1=>QP
  |2=>qO
  |3=>oz
  |4=>jm
  |5=>HA
  |6=>JI
  |7=>HB
  |8=>QQ
  |9=>vI
  |10=>HC
  |11=>Wd
  |12=>oA
  |13=>Jn
  |14=>Ab
  |_+15=>fun _=>[]
 ro:=fun n=>match n with
  |1=>gl0 KZ.ob0
  |2=>gl1 KZ.ob1
  |3=>gl2 KZ.ob2 KZ.m2
  |4=>gl3 KZ.ob3
  |_=>.gen gone
 go:=goT
 gl:=glT
 ga:=gaT
 om:=true
theorem zMe:TS.OK where
 enc_out:=fun n x=>match n with
  |0=>by
   show vf x=_
   unfold vf;simp only[jK];rfl
  |1=>rfl
  |2=>rfl
  |3=>rfl
  |4=>rfl
  |5=>rfl
  |6=>rfl
  |7=>rfl
  |8=>rfl
  |9=>rfl
  |10=>rfl
  |11=>rfl
  |12=>rfl
  |13=>rfl
  |14=>rfl
  |_+15=>rfl
 out_mk:=fun n h=>match n with
  |0=>rfl
  |1=>rfl
  |2=>rfl
  |3=>rfl
  |4=>rfl
  |5=>rfl
  |6=>rfl
  |7=>rfl
  |8=>rfl
  |9=>rfl
  |10=>rfl
  |11=>rfl
  |12=>rfl
  |13=>rfl
  |14=>rfl
  |_+15=>rfl
 ro0:=rfl
 rren:=fun i σ=>match i with|0=>rfl|1=>rfl|2=>rfl|3=>rfl|4=>rfl|_+5=>rfl
 rref:=fun i=>match i with|0=>rfl|1=>rfl|2=>rfl|3=>rfl|4=>rfl|_+5=>rfl
 rfrz:=fun i k=>match i with|0=>rfl|1=>rfl|2=>rfl|3=>rfl|4=>rfl|_+5=>rfl
 len:=fun n x=>match n with
  |0=>rfl
  |1=>rfl
  |2=>rfl
  |3=>rfl
  |4=>rfl
  |5=>rfl
  |6=>rfl
  |7=>rfl
  |8=>rfl
  |9=>rfl
  |10=>rfl
  |11=>rfl
  |12=>rfl
  |13=>rfl
  |14=>rfl
  |_+15=>rfl
 one:=fun n x=>match n with
  |0=>rfl
  |1=>rfl
  |2=>rfl
  |3=>rfl
  |4=>rfl
  |5=>rfl
  |6=>rfl
  |7=>rfl
  |8=>rfl
  |9=>rfl
  |10=>rfl
  |11=>rfl
  |12=>rfl
  |13=>rfl
  |14=>rfl
  |_+15=>rfl
 refs:=fun n x=>match n with
  |0=>rfl
  |1=>rfl
  |2=>rfl
  |3=>rfl
  |4=>rfl
  |5=>rfl
  |6=>rfl
  |7=>rfl
  |8=>rfl
  |9=>rfl
  |10=>rfl
  |11=>rfl
  |12=>rfl
  |13=>rfl
  |14=>rfl
  |_+15=>rfl
 gren:=fun i c x σ=>by cases c with
  |l t=>cases t<;>rfl
  |_=>rfl
 gref:=fun i c x=>by cases c with
  |l t=>cases t<;>rfl
  |_=>rfl
 gfrz:=fun i c x k=>by cases c with
  |l t=>cases t<;>rfl
  |_=>rfl
 gom:=fun _ kc ec x=>by kernel_rfl
 ggl:=fun i c x k=>by cases c with
  |l t=>cases t<;>rfl
  |_=>rfl
 gbox:=fun t i d cs h m Z w k hh=>zQl t i d cs h m Z w k hh
 glob:=fun i g t l h=>by
  change glT i=some (g,t,l)at h;unfold glT at h;split at h
  ·cases h;exact⟨_,rfl⟩
  ·cases h
def cdT(t:Nat):Option TC:=bif Nat.beq t 3 then some i6 else bif Nat.beq t 4 then some (.b)else bif Nat.beq t 5 then some (.i .u8)else bif Nat.beq t 9 then some (.s)else bif Nat.beq t 20 then some (.a 3 9)else bif Nat.beq t 37 then some (.st 0)else bif Nat.beq t 51 then some (.st 11)else bif Nat.beq t 57 then some (.st 1)else bif Nat.beq t 58 then some (.l (.s))else bif Nat.beq t 64 then some (.st 5)else bif Nat.beq t 87 then some (.st 3)else bif Nat.beq t 94 then some (.st 7)else bif Nat.beq t 96 then some (.st 8)else bif Nat.beq t 98 then some (.st 9)else bif Nat.beq t 100 then some (.st 10)else bif Nat.beq t 119 then some (.st 2)else bif Nat.beq t 156 then some (.st 4)else bif Nat.beq t 184 then some (.st 12)else bif Nat.beq t 229 then some (.st 13)else none
def cdL(t:Nat):Option TC:=cdT (bif Nat.ble 1000000 t then Nat.sub t 1000000 else t)
def cdO(t:Nat):Option TC:=bif Nat.beq t 3000068 then some .b else  cdT t
def nbT:NB:=fun t=>bif Nat.beq t 31 then[(0,true,57,.st 1),(1,true,87,.st 3),(2,true,64,.st 5),(3,true,94,.st 7),(4,true,96,.st 8),(5,true,100,.st 10),(6,true,98,.st 9)]else bif Nat.beq t 37 then[(4,false,37,.st 0)]else bif Nat.beq t 57 then[(5,false,37,.st 0)]else bif Nat.beq t 64 then[(2,false,156,.st 4)]else bif Nat.beq t 67 then[(0,false,51,.st 11)]else bif Nat.beq t 71 then[(0,false,51,.st 11),(2,true,57,.st 1),(3,true,87,.st 3),(4,true,64,.st 5),(5,true,94,.st 7),(6,true,96,.st 8),(7,true,100,.st 10),(8,true,8000098,.st 9),(10,true,7000000,.l (.m (.s) (.b))),(11,true,7000000,.l (.m (.s) (.b))),(12,true,7000000,.l (.m (.s) (.b))),(13,true,7000000,.l (.m (.s) (.b))),(14,true,7000000,.l (.m (.s) (.b))),(15,true,7000000,.l (.m (.s) (.b)))]else bif Nat.beq t 76 then[(0,false,51,.st 11)]else bif Nat.beq t 87 then[(1,true,119,.st 2)]else bif Nat.beq t 94 then[(1,false,9,.s),(2,false,9,.s),(12,false,37,.st 0)]else bif Nat.beq t 96 then[(3,false,156,.st 4)]else bif Nat.beq t 100 then[(5,true,98,.st 9)]else[]
def ZB:NB:=fun t=>bif Nat.beq t 31 then[(0,true,57,.st 1),(1,true,87,.st 3),(2,true,64,.st 5),(3,true,94,.st 7),(4,true,96,.st 8),(5,true,100,.st 10),(6,false,98,.st 9)]else  nbT t
def PC:List TC:=[i6,i6]
def PT:Tp:=.ifc 168 (.ag [dI 0,dI 1])
def dW:zGq TS:=fun c _ s=>match c,s with
 |.s,s=>zx0 s
 |_,_=>none
theorem dW_ok(ct:TC)(i:Nat)(s s':ct.ty TS.T)(h:dW ct i s=some s')(k:Nat):FnD PGq 162 [.ptr k 0 0,.str [32,41]] [(k,TS.go i ct s)] (.tup [.int .i64 2,.nili]) [(k,TS.go i ct s')]:=by
 cases ct<;>first|(cases h;done)|skip
 obtain⟨_,h1,h2⟩:=bind_some (show zx0 s=some s' from h);cases h2
 have hT:zx1 (bif Nat.beq i 0 then 108 else 123):=by
  cases Nat.beq i 0
  ·exact zpj
  ·exact zhz
 exact zMd hT k s [32,41] (y4 h1)
theorem zMf:PGq.follows .mixedOrders=true:=by kernel_rfl
variable[Fuel]
theorem hbv63:zd PGq 63:=ze (by kernel_rfl)
theorem zG1:zd PGq 62:=ze (by kernel_rfl)
theorem zQm:zd PGq 155:=ze (by kernel_rfl)
theorem zQn:zd PGq 157:=ze (by kernel_rfl)
theorem zQo:zd PGq 164:=ze (by kernel_rfl)
theorem zQp:zd PGq 156:=ze (by kernel_rfl)
theorem hbv51:zd PGq 51:=ze (by kernel_rfl)
theorem zQq:zd PGq 165:=ze (by kernel_rfl)
theorem zQr:zd PGq 166:=ze (by kernel_rfl)
theorem hbv64:zd PGq 64:=ze (by kernel_rfl)
theorem hbv21:zd PGq 21:=ze (by kernel_rfl)
theorem zQs:zd PGq 42:=ze (by kernel_rfl)
theorem zI1:zd PGq 124:=ze (by kernel_rfl)
theorem zI2:zd PGq 194:=ze (by kernel_rfl)
theorem zI3:zd PGq 193:=ze (by kernel_rfl)
theorem zG2:zd PGq 41:=ze (by kernel_rfl)
theorem ztw:zd PGq 130:=ze (by kernel_rfl)
theorem hbv52:zd PGq 52:=ze (by kernel_rfl)
theorem hbv16:zd PGq 16:=ze (by kernel_rfl)
theorem zI4:zd PGq 190:=ze (by kernel_rfl)
theorem ztx:zd PGq 207:=ze (by kernel_rfl)
theorem zQt:zd PGq 151:=ze (by kernel_rfl)
theorem zty:zd PGq 133:=ze (by kernel_rfl)
theorem KP:zd PGq 40:=ze (by kernel_rfl)
theorem K6:zd PGq 150:=ze (by kernel_rfl)
theorem zMz:zd PGq 43:=ze (by kernel_rfl)
theorem zQu:zd PGq 39:=ze (by kernel_rfl)
theorem zI5:zd PGq 134:=ze (by kernel_rfl)
theorem zG3:zd PGq 35:=ze (by kernel_rfl)
theorem hbv12:zd PGq 12:=ze (by kernel_rfl)
theorem zM0:zd PGq 61:=ze (by kernel_rfl)
theorem hbv20:zd PGq 20:=ze (by kernel_rfl)
theorem zQv:zd PGq 161:=ze (by kernel_rfl)
theorem ztk:zd PGq 162:=ze (by kernel_rfl)
theorem zI6:zd PGq 163:=ze (by kernel_rfl)
theorem zQw:zd PGq 58:=ze (by kernel_rfl)
theorem zQx:zd PGq 59:=ze (by kernel_rfl)
theorem zwr:zd PGq 60:=ze (by kernel_rfl)
theorem hbv19:zd PGq 19:=ze (by kernel_rfl)
theorem zI7:zd PGq 121:=ze (by kernel_rfl)
theorem Ao:zd PGq 191:=ze (by kernel_rfl)
theorem Jq:zd PGq 125:=ze (by kernel_rfl)
theorem zI8:zd PGq 127:=ze (by kernel_rfl)
theorem zI9:zd PGq 122:=ze (by kernel_rfl)
theorem zJa:zd PGq 192:=ze (by kernel_rfl)
theorem zJb:zd PGq 123:=ze (by kernel_rfl)
theorem zJc:zd PGq 126:=ze (by kernel_rfl)
theorem zQy:zd PGq 214:=ze (by kernel_rfl)
theorem zQz:zd PGq 215:=ze (by kernel_rfl)
theorem zQ0:zd PGq 216:=ze (by kernel_rfl)
theorem zQ1:zd PGq 238:=ze (by kernel_rfl)
theorem zQ2:zd PGq 231:=ze (by kernel_rfl)
theorem zQ3:zd PGq 230:=ze (by kernel_rfl)
theorem zQ4:zd PGq 217:=ze (by kernel_rfl)
theorem zQ5:zd PGq 218:=ze (by kernel_rfl)
theorem zQ6:zd PGq 180:=ze (by kernel_rfl)
theorem hbv94:zd PGq 94:=ze (by kernel_rfl)
theorem zJd:zd PGq 195:=ze (by kernel_rfl)
theorem zQ7:zd PGq 219:=ze (by kernel_rfl)
theorem zM1:zd PGq 72:=ze (by kernel_rfl)
theorem zQ8:zd PGq 197:=ze (by kernel_rfl)
theorem zJe:zd PGq 129:=ze (by kernel_rfl)
theorem zJf:zd PGq 196:=ze (by kernel_rfl)
theorem zJg:zd PGq 128:=ze (by kernel_rfl)
theorem zJh:zd PGq 198:=ze (by kernel_rfl)
theorem zJi:zd PGq 131:=ze (by kernel_rfl)
theorem zJj:zd PGq 132:=ze (by kernel_rfl)
theorem zQ9:zd PGq 36:=ze (by kernel_rfl)
theorem hbv10:zd PGq 10:=ze (by kernel_rfl)
theorem hbv80:zd PGq 80:=ze (by kernel_rfl)
theorem zRa:zd PGq 179:=ze (by kernel_rfl)
theorem hbv79:zd PGq 79:=ze (by kernel_rfl)
theorem hbv82:zd PGq 82:=ze (by kernel_rfl)
theorem hbv81:zd PGq 81:=ze (by kernel_rfl)
theorem hbv84:zd PGq 84:=ze (by kernel_rfl)
theorem hbv83:zd PGq 83:=ze (by kernel_rfl)
theorem hbv86:zd PGq 86:=ze (by kernel_rfl)
theorem hbv85:zd PGq 85:=ze (by kernel_rfl)
theorem hbv88:zd PGq 88:=ze (by kernel_rfl)
theorem hbv87:zd PGq 87:=ze (by kernel_rfl)
theorem hbv90:zd PGq 90:=ze (by kernel_rfl)
theorem hbv89:zd PGq 89:=ze (by kernel_rfl)
theorem hbv92:zd PGq 92:=ze (by kernel_rfl)
theorem hbv91:zd PGq 91:=ze (by kernel_rfl)
theorem hbv93:zd PGq 93:=ze (by kernel_rfl)
theorem zRb:zd PGq 188:=ze (by kernel_rfl)
theorem zBq:zd PGq 104:=ze (by kernel_rfl)
theorem zJk:zd PGq 187:=ze (by kernel_rfl)
theorem zRc:zd PGq 115:=ze (by kernel_rfl)
theorem hbv95:zd PGq 95:=ze (by kernel_rfl)
theorem hbv28:zd PGq 28:=ze (by kernel_rfl)
theorem zJl:zd PGq 168:=ze (by kernel_rfl)
theorem hbv67:zd PGq 67:=ze (by kernel_rfl)
theorem hbv69:zd PGq 69:=ze (by kernel_rfl)
theorem hbv68:zd PGq 68:=ze (by kernel_rfl)
theorem hbv70:zd PGq 70:=ze (by kernel_rfl)
theorem zMg:zd PGq 65:=ze (by kernel_rfl)
theorem hbv71:zd PGq 71:=ze (by kernel_rfl)
theorem hbv26:zd PGq 26:=ze (by kernel_rfl)
theorem hbv9:zd PGq 9:=ze (by kernel_rfl)
theorem zRd:zd PGq 159:=ze (by kernel_rfl)
theorem zRe:zd PGq 160:=ze (by kernel_rfl)
theorem hbv98:zd PGq 98:=ze (by kernel_rfl)
theorem hbv53:zd PGq 53:=ze (by kernel_rfl)
theorem hbv55:zd PGq 55:=ze (by kernel_rfl)
theorem hbv54:zd PGq 54:=ze (by kernel_rfl)
theorem hbv17:zd PGq 17:=ze (by kernel_rfl)
theorem zRf:zd PGq 181:=ze (by kernel_rfl)
theorem zRg:zd PGq 182:=ze (by kernel_rfl)
theorem zRh:zd PGq 183:=ze (by kernel_rfl)
theorem zRi:zd PGq 100:=ze (by kernel_rfl)
theorem zRj:zd PGq 177:=ze (by kernel_rfl)
theorem zRk:zd PGq 178:=ze (by kernel_rfl)
theorem hbv77:zd PGq 77:=ze (by kernel_rfl)
theorem hbv47:zd PGq 47:=ze (by kernel_rfl)
theorem zM2:zd PGq 15:=ze (by kernel_rfl)
theorem hbv48:zd PGq 48:=ze (by kernel_rfl)
theorem hbv49:zd PGq 49:=ze (by kernel_rfl)
theorem zRl:zd PGq 154:=ze (by kernel_rfl)
theorem hbv50:zd PGq 50:=ze (by kernel_rfl)
theorem hbv14:zd PGq 14:=ze (by kernel_rfl)
theorem zM3:zd PGq 56:=ze (by kernel_rfl)
theorem zM4:zd PGq 57:=ze (by kernel_rfl)
theorem hbv18:zd PGq 18:=ze (by kernel_rfl)
theorem hbv66:zd PGq 66:=ze (by kernel_rfl)
theorem hbv25:zd PGq 25:=ze (by kernel_rfl)
theorem hbv96:zd PGq 96:=ze (by kernel_rfl)
theorem hbv97:zd PGq 97:=ze (by kernel_rfl)
theorem zRm:zd PGq 189:=ze (by kernel_rfl)
theorem zBr:zd PGq 119:=ze (by kernel_rfl)
theorem hbv32:zd PGq 32:=ze (by kernel_rfl)
theorem hbv99:zd PGq 99:=ze (by kernel_rfl)
theorem zRn:zd PGq 184:=ze (by kernel_rfl)
theorem zRo:zd PGq 185:=ze (by kernel_rfl)
theorem zRp:zd PGq 101:=ze (by kernel_rfl)
theorem zRq:zd PGq 186:=ze (by kernel_rfl)
theorem zRr:zd PGq 102:=ze (by kernel_rfl)
theorem hbv29:zd PGq 29:=ze (by kernel_rfl)
theorem zRs:zd PGq 171:=ze (by kernel_rfl)
theorem zBs:zd PGq 172:=ze (by kernel_rfl)
theorem zRt:zd PGq 174:=ze (by kernel_rfl)
theorem zM5:zd PGq 73:=ze (by kernel_rfl)
theorem zJm:zd PGq 173:=ze (by kernel_rfl)
theorem hbv74:zd PGq 74:=ze (by kernel_rfl)
theorem hbv75:zd PGq 75:=ze (by kernel_rfl)
theorem zRu:zd PGq 175:=ze (by kernel_rfl)
theorem zRv:zd PGq 176:=ze (by kernel_rfl)
theorem hbv76:zd PGq 76:=ze (by kernel_rfl)
theorem hbv78:zd PGq 78:=ze (by kernel_rfl)
theorem hbv27:zd PGq 27:=ze (by kernel_rfl)
theorem zRw:zd PGq 103:=ze (by kernel_rfl)
theorem zRx:zd PGq 112:=ze (by kernel_rfl)
theorem zRy:zd PGq 106:=ze (by kernel_rfl)
theorem zRz:zd PGq 105:=ze (by kernel_rfl)
theorem zR0:zd PGq 113:=ze (by kernel_rfl)
theorem zR1:zd PGq 114:=ze (by kernel_rfl)
theorem zR2:zd PGq 108:=ze (by kernel_rfl)
theorem zR3:zd PGq 107:=ze (by kernel_rfl)
theorem zR4:zd PGq 116:=ze (by kernel_rfl)
theorem zR5:zd PGq 109:=ze (by kernel_rfl)
theorem zR6:zd PGq 117:=ze (by kernel_rfl)
theorem zR7:zd PGq 111:=ze (by kernel_rfl)
theorem zR8:zd PGq 110:=ze (by kernel_rfl)
theorem zR9:zd PGq 118:=ze (by kernel_rfl)
theorem hbv30:zd PGq 30:=ze (by kernel_rfl)
theorem hbv31:zd PGq 31:=ze (by kernel_rfl)
theorem hbv5:zd PGq 5:=ze (by kernel_rfl)
theorem ctg{f:Nat}{fn:Func}{code:Code}{T:CtT TS}{cd:Nat→Option TC}{nb:NB}{rc:List (Nat×Nat×Nat)}{c:Ct TS}{h:HT TS c.co}(hf:PGq.funcs[f]?=some fn)(hb:fn.body=some code)(hB:zd PGq f)(hT:CtT.OK PGq T)(hr:∀x,((evF PGq fn code T cd KK nb c rc h x).run,(evF PGq fn code T cd KK nb c rc h x).tr true)=(c.fn x,(evF PGq fn code T cd KK nb c rc h x).tr false)):zd PGq f∧c.OK PGq f :=
 ⟨hB,zL8 (T:=T) (cd:=cd) (kk:=KK) (nb:=nb) (rc:=rc) (h:=h) zMe hf hb zMf hT (fun x=>congrArg Prod.fst (hr x)) (fun x=>congrArg Prod.snd (hr x))⟩
theorem ctk{f:Nat}{fn:Func}{code:Code}{T:CtT TS}{c:Ct TS}{h:HT TS c.co}(hf:PGq.funcs[f]?=some fn)(hb:fn.body=some code)(hB:zd PGq f)(hT:CtT.OK PGq T)(hr:∀x,((evF PGq fn code T cdT KK nbT c [] h x).run,(evF PGq fn code T cdT KK nbT c [] h x).tr true)=(c.fn x,(evF PGq fn code T cdT KK nbT c [] h x).tr false)):zd PGq f∧c.OK PGq f :=
 ⟨hB,zL8 (T:=T) (cd:=cdT) (kk:=KK) (nb:=nbT) (rc:=[]) (h:=h) zMe hf hb zMf hT (fun x=>congrArg Prod.fst (hr x)) (fun x=>congrArg Prod.snd (hr x))⟩
theorem zOo{f:Nat}{fn:Func}{code:Code}{T:CtT TS}{TP:zf4 TS PC}{cd:Nat→Option TC}{nb:NB}{c:CtP TS PC}{h:HT TS PC}(hf:PGq.funcs[f]?=some fn)(hb:fn.body=some code)(hB:zd PGq f)(hT:CtT.OK PGq T)(hTP:zf4.OK PGq (pvT PT PC) TP)(hr:∀x,((evP PGq fn code T cd KK nb PT TP c h x).run,(evP PGq fn code T cd KK nb PT TP c h x).tr true)=(c.fn x,(evP PGq fn code T cd KK nb PT TP c h x).tr false)):zd PGq f∧c.OK PGq (pvT PT PC) f :=
 ⟨hB,zIu (T:=T) (TP:=TP) (pt:=PT) (cd:=cd) (kk:=KK) (nb:=nb) (h:=h) zMe hf hb zMf hT hTP (fun x=>congrArg Prod.fst (hr x)) (fun x=>congrArg Prod.snd (hr x))⟩
theorem ctp{f:Nat}{fn:Func}{code:Code}{T:CtT TS}{TP:zf4 TS PC}{c:CtP TS PC}{h:HT TS PC}(hf:PGq.funcs[f]?=some fn)(hb:fn.body=some code)(hB:zd PGq f)(hT:CtT.OK PGq T)(hTP:zf4.OK PGq (pvT PT PC) TP)(hr:∀x,((evP PGq fn code T cdT KK nbT PT TP c h x).run,(evP PGq fn code T cdT KK nbT PT TP c h x).tr true)=(c.fn x,(evP PGq fn code T cdT KK nbT PT TP c h x).tr false)):zd PGq f∧c.OK PGq (pvT PT PC) f :=
 ⟨hB,zIu (T:=T) (TP:=TP) (pt:=PT) (cd:=cdT) (kk:=KK) (nb:=nbT) (h:=h) zMe hf hb zMf hT hTP (fun x=>congrArg Prod.fst (hr x)) (fun x=>congrArg Prod.snd (hr x))⟩
def znd:Ct TS:=⟨[.d (.i .u8) 0],[],[.i .u8],.d .b 1,[],[.b],false,fun x=>zmx x⟩
abbrev HBc(n:Nat)(c:Ct TS):Prop:=zd PGq n∧c.OK PGq n
abbrev HBp(n:Nat)(c:CtP TS PC):Prop:=zd PGq n∧c.OK PGq (pvT PT PC) n
theorem zwu:HBc 63 znd:=ctk (T:=[]) (h:=.n) Tryz.func63 rfl hbv63 trivial fun x=>by kernel_rfl
def ztz:Ct TS:=⟨[.d .s 0,.fn 63 [] []],[],[.s],dI 1,[],[i6],false,fun x=>ztn x⟩
theorem zBt:HBc 62 ztz:=ctk (T:=[(63,znd)]) (h:=.s .n (.s .n (.s (.s (.l ⟨[(0,.d .s 0),(1,.fn 63 [] []),(5,dI 1)],[],[.s],[i6]⟩ [(5,dI 1)] [] [i6] 0 (fun x K v=>QU x K v) (.s (.s (.j ⟨[(0,.d .s 0),(1,.fn 63 [] []),(5,dI 1),(16,.d .b 2)],[],[.s,i6],[.b]⟩ false .n) .n) .n)) .n) .n))) Tryz.func62 rfl zG1 ⟨zwu,trivial⟩ fun x=>by kernel_rfl
def Ha:Ct TS:=⟨[.d (.i .u8) 0],[],[.i .u8],.d .b 1,[],[.b],false,fun x=>kY x⟩
theorem H9:HBc 155 Ha:=ctk (T:=[]) (h:=.n) Tryz.func155 rfl zQm trivial fun x=>by kernel_rfl
def JW:Ct TS:=⟨[.d (.i .u8) 0],[],[.i .u8],.d .b 1,[],[.b],false,fun x=>oC x⟩
theorem KC:HBc 157 JW:=ctk (T:=[]) (h:=.n) Tryz.func157 rfl zQn trivial fun x=>by kernel_rfl
def zgm:Ct TS:=⟨[.d (.i .u8) 0],[],[.i .u8],.d .b 1,[],[.b],false,fun x=>zgg x⟩
theorem zq5:HBc 164 zgm:=ctk (T:=[(155,Ha),(157,JW)]) (h:=.n) Tryz.func164 rfl zQo ⟨H9,KC,trivial⟩ fun x=>by kernel_rfl
def zgn:Ct TS:=⟨[.d .s 0,.fn 164 [] []],[],[.s],dI 1,[],[i6],false,fun x=>zgh x⟩
theorem zq6:HBc 62 zgn:=ctk (T:=[(164,zgm)]) (h:=.s .n (.s .n (.s (.s (.l ⟨[(0,.d .s 0),(1,.fn 164 [] []),(5,dI 1)],[],[.s],[i6]⟩ [(5,dI 1)] [] [i6] 0 (fun x K v=>HK x K v) (.s (.s (.j ⟨[(0,.d .s 0),(1,.fn 164 [] []),(5,dI 1),(16,.d .b 2)],[],[.s,i6],[.b]⟩ false .n) .n) .n)) .n) .n))) Tryz.func62 rfl zG1 ⟨zq5,trivial⟩ fun x=>by kernel_rfl
def zgo:Ct TS:=⟨[.d (.i .u8) 0],[],[.i .u8],.d .b 1,[],[.b],false,fun x=>AZ x⟩
theorem zq7:HBc 156 zgo:=ctk (T:=[(155,Ha),(157,JW)]) (h:=.n) Tryz.func156 rfl zQp ⟨H9,KC,trivial⟩ fun x=>by kernel_rfl
def zgp:Ct TS:=⟨[.d .s 0,.fn 156 [] []],[],[.s],dI 1,[],[i6],false,fun x=>Ko x⟩
theorem zq8:HBc 62 zgp:=ctk (T:=[(156,zgo)]) (h:=.s .n (.s .n (.s (.s (.l ⟨[(0,.d .s 0),(1,.fn 156 [] []),(5,dI 1)],[],[.s],[i6]⟩ [(5,dI 1)] [] [i6] 0 (fun x K v=>uA x K v) (.s (.s (.j ⟨[(0,.d .s 0),(1,.fn 156 [] []),(5,dI 1),(16,.d .b 2)],[],[.s,i6],[.b]⟩ false .n) .n) .n)) .n) .n))) Tryz.func62 rfl zG1 ⟨zq7,trivial⟩ fun x=>by kernel_rfl
def zju:Ct TS:=⟨[.d .s 0],[],[.s],.d .b 1,[],[.b],false,fun x=>Wl x⟩
theorem zne:HBc 51 zju:=ctk (T:=[(155,Ha),(62,zgp)]) (h:=.s .n (.s (.s (.j ⟨[(0,.d .s 0),(15,.d .b 1)],[],[.s],[.b]⟩ false .n) .n) .n)) Tryz.func51 rfl hbv51 ⟨H9,zq8,trivial⟩ fun x=>by kernel_rfl
def Yz:Ct TS:=⟨[.d .s 0,.fn 157 [] []],[],[.s],dI 1,[],[i6],false,fun x=>Yo x⟩
theorem zcr:HBc 62 Yz:=ctk (T:=[(157,JW)]) (h:=.s .n (.s .n (.s (.s (.l ⟨[(0,.d .s 0),(1,.fn 157 [] []),(5,dI 1)],[],[.s],[i6]⟩ [(5,dI 1)] [] [i6] 0 (fun x K v=>HM x K v) (.s (.s (.j ⟨[(0,.d .s 0),(1,.fn 157 [] []),(5,dI 1),(16,.d .b 2)],[],[.s,i6],[.b]⟩ false .n) .n) .n)) .n) .n))) Tryz.func62 rfl zG1 ⟨KC,trivial⟩ fun x=>by kernel_rfl
def zgq:Ct TS:=⟨[.d .s 0],[],[.s],.tup [dI 1,.d .b 2],[],[i6,.b],false,fun x=>zgi x⟩
theorem zq9:HBc 165 zgq:=ctk (T:=[(62,Yz)]) (h:=.s .n (.s (.s (.j ⟨[(0,.d .s 0),(28,.d .b 1)],[],[.s],[.b]⟩ false .n) .n) (.s .n (.s (.s .n (.s (.l ⟨[(0,.d .s 0),(4,dI 2),(30,dI 1),(31,dI 3)],[],[.s,i6],[i6,i6]⟩ [(4,dI 2)] [] [i6] 0 (u2Q HN) .n) .n)) .n)))) Tryz.func165 rfl zQq ⟨zcr,trivial⟩ fun x=>by kernel_rfl
def zcs:Ct TS:=⟨[.d .s 0,.d .s 1],[],[.s,.s],.d .b 2,[],[.b],false,u2Q zb5⟩
theorem znf:zcs.OK PGq 166:=fun x r h=>kmp (by kernel_rfl) (zqu x.1 x.2 r h)
def zt0:Ct TS:=⟨[.d .s 0],h5,[.s],.tup [.ag [dI 2,.d .s 3,dI 4,dI 5],dI 1],(h6 7000001 2 3 4 5),[i6,i6,.s,i6,i6],false,fun x=>zto x⟩
theorem zBu:HBc 64 zt0:=ctg (cd:=cdT) (nb:=nbT) (rc:=[(2,7000001,0)]) (T:=[(155,Ha),(62,zgn),(51,zju),(157,JW),(62,Yz),(165,zgq),(166,zcs)]) (h:=.s .n (.s .n (.s (.s .n (.s (.lr ⟨[(0,.d .s 0),(2,.ptr 1000002 0),(43,.ag [.d .s 1,.d .s 2,.d .s 3,.d .s 4,.d .s 5,.d .s 6,.d .s 7,.d .s 8,.d .s 9,.d .s 10,.d .s 11,.d .s 12,.d .s 13,.d .s 14]),(44,dI 17)],(h6 1000002 15 16 15 15),[.s,.s,.s,.s,.s,.s,.s,.s,.s,.s,.s,.s,.s,.s,.s,i6,.s],[i6]⟩ [(2,.ptr 1000002 0)] (h6 1000002 15 16 15 15) [] 1 (u17Q QV) .n) .n)) .n))) Tryz.func64 rfl hbv64 ⟨H9,zq6,zne,KC,zcr,zq9,⟨zQr,znf⟩,trivial⟩ fun x=>by kernel_rfl
def zra:Ct TS:=⟨[.d .s 0],h5,[.s],.tup [.d (.l (.st 11)) 1,dI 2,dI 3],h5,k7,false,fun x=>zqx x⟩
theorem zt1:HBc 21 zra:=ctk (T:=[(62,ztz),(64,zt0)]) (h:=.s .n (.s .n (.s .n (.s .n (.s (.lr ⟨[(0,.d .s 0),(5,.row 4 7000001),(6,dI 1)],[(900000000,.rw 1),(900000001,.rw 2),(900000002,.rw 3),(900000003,.rw 4),(7000001,.row 51 (.st 11) 2 false)],[.s],[i6,.l (.st 11)]⟩ [] [] [] 999999999 (fun x K v=>Yp x K v) .n) .n))))) Tryz.func21 rfl hbv21 ⟨zBt,zBu,trivial⟩ fun x=>by kernel_rfl
def uL:Ct TS:=⟨[.ptr 1 0],(h8 1),[.l (.st 11),i6],.ag [dI 2,.d .s 3,dI 4,dI 5],[(1,.box 67 [.d (.l (.st 11)) 0,dI 1]),(7000001,.box 51 [dI 2,.d .s 3,dI 4,dI 5])],k3,false,u2Q kr⟩
theorem qX:HBc 42 uL:=ctg (cd:=cdT) (nb:=nbT) (rc:=[(2,7000001,0)]) (T:=[]) (h:=.n) Tryz.func42 rfl zQs trivial fun x=>by kernel_rfl
def zt2:Ct TS:=⟨[.ptr 1 0,.d .s 2],(h8 1),[.l (.st 11),i6,.s],.d .b 3,(h8 1),[.b],false,u3Q ztp⟩
theorem zrb:HBc 124 zt2:=ctk (T:=[(42,uL)]) (h:=.n) Tryz.func124 rfl zI1 ⟨qX,trivial⟩ fun x=>by kernel_rfl
def zct:Ct TS:=⟨[.ptr 1 0,.d .s 2],(h8 1),[.l (.st 11),i6,.s],.d .b 3,(h8 4),[.b,i6],false,u3Q jz⟩
theorem zaf:HBc 194 zct:=ctk (T:=[(124,zt2)]) (h:=.n) Tryz.func194 rfl zI2 ⟨zrb,trivial⟩ fun x=>by kernel_rfl
def qY:Ct TS:=⟨[.ptr 1 0],(h8 1),[.l (.st 11),i6],.d .b 2,(h8 1),[.b],false,u2Q qS⟩
theorem uM:HBc 193 qY:=ctk (T:=[(42,uL)]) (h:=.n) Tryz.func193 rfl zI3 ⟨qX,trivial⟩ fun x=>by kernel_rfl
def kH:Ct TS:=⟨[.ptr 1 0,.d .b 2,dI 3],(h8 1),[.l (.st 11),i6,.b,i6],.tup [],(h8 1),[],false,u4Q xr⟩
theorem j8:HBc 41 kH:=ctk (T:=[]) (h:=.n) Tryz.func41 rfl zG2 trivial fun x=>by kernel_rfl
def YA:Ct TS:=⟨[.ptr 1 0,dI 2,dI 3],(h8 1),k9,dI 4,(h8 5),[i6,i6],false,u4Q Yq⟩
theorem zcu:HBc 130 YA:=ctk (T:=[(193,qY),(41,kH),(42,uL)]) (h:=.s .n (.s .n (.s .n (.s (.j ⟨[(0,.ptr 1 0),(7,dI 2)],(h8 1),k7,[]⟩ false .n) .n)))) Tryz.func130 rfl ztw ⟨uM,j8,qX,trivial⟩ fun x=>by kernel_rfl
def zgr:Ct TS:=⟨[.d .s 0,.d .s 1],h5,[.s,.s],.d .b 2,h5,[.b],false,u2Q Kp⟩
theorem zrc:zgr.OK PGq 52:=fun x r h=>kmp (by kernel_rfl) (zwm x.1 x.2 r h)
def zgs:Ct TS:=⟨[.d .s 0],h5,[.s],.d .b 1,h5,[.b],false,fun x=>K3 x⟩
theorem zcv:HBc 16 zgs:=ctk (T:=[(51,zju),(52,zgr)]) (h:=.n) Tryz.func16 rfl hbv16 ⟨zne,⟨hbv52,zrc⟩,trivial⟩ fun x=>by kernel_rfl
def YB:Ct TS:=⟨[.ptr 1 0],(h10 1),[.l (.st 11),i6],.d .b 2,(h10 1),[.b],false,u2Q Yr⟩
theorem zcw:HBc 190 YB:=ctk (T:=[(42,uL),(16,zgs)]) (h:=.n) Tryz.func190 rfl zI4 ⟨qX,zcv,trivial⟩ fun x=>by kernel_rfl
def zjv:Ct TS:=⟨[.ptr 1 0],(h10 1),[.l (.st 11),i6],.d .s 2,(h10 3),[.s,i6],false,u2Q uB⟩
theorem zng:HBc 207 zjv:=ctk (T:=[(190,YB),(41,kH)]) (h:=.n) Tryz.func207 rfl ztx ⟨zcw,j8,trivial⟩ fun x=>by kernel_rfl
def qo:Ct TS:=⟨[],[],[],.d (.l (.st 12)) 0,[],[.l (.st 12)],false,fun _=>jA⟩
theorem qZ:HBc 151 qo:=ctk (T:=[]) (h:=.n) Tryz.func151 rfl zQt trivial fun x=>by kernel_rfl
def zjw:Ct TS:=⟨[.ptr 1 0,.d .s 2],(h8 1),[.l (.st 11),i6,.s],.tup [],(h8 3),[i6],false,u3Q HO⟩
theorem znh:HBc 133 zjw:=ctk (T:=[(194,zct),(41,kH)]) (h:=.n) Tryz.func133 rfl zty ⟨zaf,j8,trivial⟩ fun x=>by kernel_rfl
def Hb(RK:Nat):Ct TS:=⟨[.ptr 1 0,dI 2],(h10 1),k7,.tup [.ag [dI 5,dI 6,.d .s 7,.d .s 8,.d (.l (.st 0)) 9],dI 3],(h11 4 7000001 5 6 7 8 9),k12,false,fun x=>Ys RK x.1 x.2.1 x.2.2⟩
def uN(RK:Nat):Ct TS:=⟨[.ptr 1 0,dI 2],(h10 1),k7,.ag [dI 4,dI 5,.d .s 6,.d .s 7,.d (.l (.st 0)) 8],(h11 3 7000001 4 5 6 7 8),k13,false,fun x=>xv RK x.1 x.2.1 x.2.2⟩
theorem q6:∀RK,(Hb RK).OK PGq 150∧(uN RK).OK PGq 40
 |0=>⟨(fun x r h=>nomatch (show(none:Option _)=some r from h)),(fun x r h=>nomatch (show(none:Option _)=some r from h))⟩
 |RK+1=>⟨(ctg (c:=Hb (RK+1)) (cd:=cdT) (nb:=nbT) (rc:=[(4,7000001,0)]) (T:=[(194,zct),(40,uN RK),(133,zjw),(193,qY),(130,YA),(207,zjv)]) (h:=.s .n (.s (.s (.s (.j ⟨[(0,.ptr 1 0),(1,dI 1),(4,.ptr 1000004 0),(10,.d .b 6)],(h11 5 1000004 2 2 3 3 4),k14,[i6,.b]⟩ false .n) (.s .n (.s (.j ⟨[(0,.ptr 1 0),(1,dI 1),(4,.ptr 1000004 0),(31,.d .b 6)],(h11 5 1000004 2 2 3 3 4),k14,[i6,.b]⟩ false .n) (.s .n (.s (.j ⟨[(0,.ptr 1 0),(4,.ptr 1000004 0),(42,.d .b 5)],(h11 4 1000004 1 1 2 2 3),[.l (.st 11),i6,.s,.l (.st 0)],[i6,.b]⟩ false .n) .n))))) .n) .n)) Tryz.func150 rfl K6 ⟨zaf,⟨KP,(q6 RK).2⟩,znh,uM,zcu,zng,trivial⟩ fun x=>by kernel_rfl).2,(ctg (c:=uN (RK+1)) (cd:=cdT) (nb:=nbT) (rc:=[(4,7000001,0)]) (T:=[(150,Hb RK),(151,qo),(124,zt2),(40,uN RK)]) (h:=.s .n (.s .n (.s (.lr ⟨[(0,.ptr 1 0),(1,dI 1),(4,.ptr 1000004 0),(5,.ptr 1000005 0),(6,dI 6)],h15,k14,k12⟩ [] [] [] 999999999 (fun x K v=>QX (xv RK) x.1 x.2.1 x.2.2.1 x.2.2.2.1 x.2.2.2.2 K v) (.s (.s .n (.s (.s .n (.s (.l ⟨[(0,.ptr 1 0),(1,dI 2),(4,.ptr 1000004 0),(5,.ptr 1000005 0),(6,dI 3),(7,.ptr 1000007 0),(16,.d (.l (.st 12)) 4),(17,dI 5),(18,dI 14)],(h16 6 7 8 9 10 11 12 13 15 16 17),k17,k3⟩ [(0,.ptr 1 0),(1,dI 2),(4,.ptr 1000004 0),(5,.ptr 1000005 0),(6,dI 3),(7,.ptr 1000007 0)] (h16 6 7 8 9 10 11 12 13 14 15 16) [.s,i6,i6] 2 (u14Q QW) (.s .n (.s .n (.s (.j ⟨[(0,.ptr 1 0),(1,dI 2),(4,.ptr 1000004 0),(5,.ptr 1000005 0),(6,dI 3),(7,.ptr 1000007 0),(16,.d (.l (.st 12)) 4),(17,dI 5),(18,dI 6)],(h16 7 8 9 10 11 12 13 14 15 16 17),k18,[.s,i6,i6]⟩ false .n) .n)))) .n)) (.s (.s (.j ⟨[(0,.ptr 1 0),(1,dI 2),(4,.ptr 1000004 0),(5,.ptr 1000005 0),(7,.ptr 1000007 0),(51,.d .b 14)],(h16 3 4 5 6 7 8 9 10 11 12 13),k19,[.b]⟩ false .n) .n) .n))) .n)) .n))) Tryz.func40 rfl KP ⟨⟨K6,(q6 RK).1⟩,qZ,zrb,⟨KP,(q6 RK).2⟩,trivial⟩ fun x=>by kernel_rfl).2⟩
theorem zrd(RK:Nat):zd PGq 150∧(Hb RK).OK PGq 150:=⟨K6,(q6 RK).1⟩
theorem WB(RK:Nat):zd PGq 40∧(uN RK).OK PGq 40:=⟨KP,(q6 RK).2⟩
def qC(RK:Nat):Ct TS:=⟨[.d (.st 0) 0],[],[.st 0],dI 1,[],[i6],false,fun x=>uC RK x⟩
theorem zgt:∀RK,(qC RK).OK PGq 43
 |0=>(fun x r h=>nomatch (show(none:Option _)=some r from h))
 |RK+1=>(ctk (c:=qC (RK+1)) (T:=[(43,qC RK)]) (h:=.s .n (.s .n (.s (.s .n (.s (.l ⟨[(3,dI 2),(7,.d (.l (.st 0)) 0),(8,dI 1),(9,dI 3)],[],[.l (.st 0),i6],[i6,i6]⟩ [(3,dI 2)] [] [i6] 0 (fun x K v=>QY (uC RK) x.1 x.2 K v) .n) .n)) .n))) Tryz.func43 rfl zMz ⟨⟨zMz,(zgt RK)⟩,trivial⟩ fun x=>by kernel_rfl).2
theorem Hc(RK:Nat):zd PGq 43∧(qC RK).OK PGq 43:=⟨zMz,(zgt RK)⟩
def vZ:Ct TS:=⟨[.ptr 2 0,.ptr 3 0],((h20 1 2 3 4 5 6)++h5),k21,.tup [],((h20 7 8 9 10 11 12)++h5),k13,false,u7Q Wm⟩
theorem ze8:HBc 39 vZ:=ctk (T:=[(40,uN KK),(42,uL),(41,kH),(43,qC KK)]) (h:=.n) Tryz.func39 rfl zQu ⟨(WB KK),qX,j8,(Hc KK),trivial⟩ fun x=>by kernel_rfl
def zni:CtP TS PC:=⟨[.ptr 1 0,dI 2],(h8 1),k7,u3Q ztq⟩
theorem zwv:HBp 134 zni:=ctp (T:=[(42,uL)]) (TP:=[]) (h:=.n) Tryz.func134 rfl zI5 ⟨qX,trivial⟩ trivial fun x=>by kernel_rfl
def Hd:CtP TS PC:=⟨[.ptr 1 0,.d .b 2,dI 3],(h8 1),[.l (.st 11),i6,.b,i6],u4Q qT⟩
theorem Ja:HBp 41 Hd:=ctp (T:=[]) (TP:=[(134,zni)]) (h:=.n) Tryz.func41 rfl zG2 trivial ⟨zwv,trivial⟩ fun x=>by kernel_rfl
def znj:CtP TS PC:=⟨[.ptr 1 0,.d .s 2],(h8 1),[.l (.st 11),i6,.s],u3Q ZV⟩
theorem zww:HBp 133 znj:=ctp (T:=[(194,zct),(41,kH)]) (TP:=[(41,Hd)]) (h:=.n) Tryz.func133 rfl zty ⟨zaf,j8,trivial⟩ ⟨Ja,trivial⟩ fun x=>by kernel_rfl
def zcx:CtP TS PC:=⟨[.ptr 1 0,dI 2,dI 3],(h8 1),k9,u4Q zgj⟩
theorem znk:HBp 130 zcx:=ctp (T:=[(193,qY),(41,kH),(42,uL)]) (TP:=[(41,Hd)]) (h:=.s .n (.s .n (.s .n (.s (.j ⟨[(0,.ptr 1 0),(7,dI 2)],(h8 1),k7,[]⟩ true .n) .n)))) Tryz.func130 rfl ztw ⟨uM,j8,qX,trivial⟩ ⟨Ja,trivial⟩ fun x=>by kernel_rfl
def znl:CtP TS PC:=⟨[.ptr 1 0],(h10 1),[.l (.st 11),i6],u2Q Wn⟩
theorem zwx:HBp 207 znl:=ctp (T:=[(190,YB),(41,kH)]) (TP:=[(41,Hd)]) (h:=.n) Tryz.func207 rfl ztx ⟨zcw,j8,trivial⟩ ⟨Ja,trivial⟩ fun x=>by kernel_rfl
def Ve(RK:Nat):CtP TS PC:=⟨[.ptr 1 0,dI 2],(h10 1),k7,fun x=>zgk RK x.1 x.2.1 x.2.2⟩
def He(RK:Nat):CtP TS PC:=⟨[.ptr 1 0,dI 2],(h10 1),k7,fun x=>qz RK x.1 x.2.1 x.2.2⟩
theorem uO:∀RK,(Ve RK).OK PGq (pvT PT PC) 150∧(He RK).OK PGq (pvT PT PC) 40
 |0=>⟨(fun x r h=>nomatch (show(none:Option _)=some r from h)),(fun x r h=>nomatch (show(none:Option _)=some r from h))⟩
 |RK+1=>⟨(ctp (c:=Ve (RK+1)) (T:=[(194,zct),(40,uN KK),(133,zjw),(193,qY),(130,YA),(207,zjv)]) (TP:=[(40,He RK),(133,znj),(130,zcx),(207,znl)]) (h:=.s .n (.s (.s (.s (.j ⟨[(0,.ptr 1 0),(1,dI 1),(4,.ptr 1000004 0),(10,.d .b 6)],(h11 5 1000004 2 2 3 3 4),k14,[i6,.b]⟩ false .n) (.s .n (.s (.j ⟨[(0,.ptr 1 0),(1,dI 1),(4,.ptr 1000004 0),(31,.d .b 6)],(h11 5 1000004 2 2 3 3 4),k14,[i6,.b]⟩ false .n) (.s .n (.s (.j ⟨[(0,.ptr 1 0),(4,.ptr 1000004 0),(42,.d .b 5)],(h11 4 1000004 1 1 2 2 3),[.l (.st 11),i6,.s,.l (.st 0)],[i6,.b]⟩ false .n) .n))))) .n) .n)) Tryz.func150 rfl K6 ⟨zaf,(WB KK),znh,uM,zcu,zng,trivial⟩ ⟨⟨KP,(uO RK).2⟩,zww,znk,zwx,trivial⟩ fun x=>by kernel_rfl).2,(ctp (c:=He (RK+1)) (T:=[(150,Hb KK),(151,qo),(124,zt2),(40,uN KK)]) (TP:=[(150,Ve RK),(40,He RK)]) (h:=.s .n (.s .n (.s (.lr ⟨[(0,.ptr 1 0),(1,dI 1),(4,.ptr 1000004 0),(5,.ptr 1000005 0),(6,dI 6)],h15,k14,k12⟩ [] [] [] 999999999 (fun x K v=>Q0 (qz RK) x.1 x.2.1 x.2.2.1 x.2.2.2.1 x.2.2.2.2 K v) (.s (.s .n (.s (.s .n (.s (.l ⟨[(0,.ptr 1 0),(1,dI 2),(4,.ptr 1000004 0),(5,.ptr 1000005 0),(6,dI 3),(7,.ptr 1000007 0),(16,.d (.l (.st 12)) 4),(17,dI 5),(18,dI 14)],(h16 6 7 8 9 10 11 12 13 15 16 17),k17,k3⟩ [(0,.ptr 1 0),(1,dI 2),(4,.ptr 1000004 0),(5,.ptr 1000005 0),(6,dI 3),(7,.ptr 1000007 0)] (h16 6 7 8 9 10 11 12 13 14 15 16) [.s,i6,i6] 2 (u14Q QZ) (.s .n (.s .n (.s (.j ⟨[(0,.ptr 1 0),(1,dI 2),(4,.ptr 1000004 0),(5,.ptr 1000005 0),(6,dI 3),(7,.ptr 1000007 0),(16,.d (.l (.st 12)) 4),(17,dI 5),(18,dI 6)],(h16 7 8 9 10 11 12 13 14 15 16 17),k18,[.s,i6,i6]⟩ false .n) .n)))) .n)) (.s (.s (.j ⟨[(0,.ptr 1 0),(1,dI 2),(4,.ptr 1000004 0),(5,.ptr 1000005 0),(7,.ptr 1000007 0),(51,.d .b 14)],(h16 3 4 5 6 7 8 9 10 11 12 13),k19,[.b]⟩ false .n) .n) .n))) .n)) .n))) Tryz.func40 rfl KP ⟨(zrd KK),qZ,zrb,(WB KK),trivial⟩ ⟨⟨K6,(uO RK).1⟩,⟨KP,(uO RK).2⟩,trivial⟩ fun x=>by kernel_rfl).2⟩
theorem zwy(RK:Nat):zd PGq 40∧(He RK).OK PGq (pvT PT PC) 40:=⟨KP,(uO RK).2⟩
def AN:CtP TS PC:=⟨[.ptr 2 0,.ptr 3 0],((h20 1 2 3 4 5 6)++h5),k21,u7Q Wo⟩
theorem zcy:HBp 39 AN:=ctp (T:=[(40,uN KK),(42,uL),(41,kH),(43,qC KK)]) (TP:=[(40,He KK),(41,Hd)]) (h:=.n) Tryz.func39 rfl zQu ⟨(WB KK),qX,j8,(Hc KK),trivial⟩ ⟨(zwy KK),Ja,trivial⟩ fun x=>by kernel_rfl
def Hf:Ct TS:=⟨[.ptr 1 0,.fn 39 [] [.ptr 2 0,.ptr 3 0]],((h20 1 2 3 4 5 6)++h5),k21,.tup [dI 7,dI 8],((h20 9 10 11 12 13 14)++h5),k22,true,u7Q A0⟩
theorem WC:Hf.OK PGq 35:=fun x r h=>by
 obtain⟨q,h1,h2⟩:=bind_some h;cases h2;exact kmp (by kernel_rfl) (zmv (F:=hV (uT vZ.hin (yK (S:=TS) vZ.ci x))) (F':=hV (uT vZ.hout (yK (S:=TS) vZ.ci x++yK (S:=TS) vZ.co q))) (a:=.ptr 2 0 0) (b:=.ptr 3 0 0) (pv:=.ptr 1 0 0) (kmp (by kernel_rfl) (ze8.2 x q h1)))
def Ap:Ct TS:=⟨[.ptr 1 0,.fn 39 [] [.ptr 2 0,.ptr 3 0]],((h20 1 2 3 4 5 6)++h5),k21,.tup [dI 7,dI 8],([(1,.rw 0),(2,.rw 0),(3,.rw 0)]++h5),[i6,i6],true,u7Q Ac⟩
theorem Vf:Ap.OK PGq 35:=fun x r h=>kmp (by kernel_rfl) (zjj (F:=hV (uT AN.hin (yK (S:=TS) AN.ci x))) (a:=.ptr 2 0 0) (b:=.ptr 3 0 0) (pv:=.ptr 1 0 0) (x:=r.1) (y:=r.2) (kmp (by kernel_rfl) (zcy.2 x r h)))
def zcz:Ct TS:=⟨[.d .s 0],h5,[.s],.tup [.ag [dI 3,dI 4,.d .s 5,.d .s 6,.d (.l (.st 0)) 7],dI 1,dI 2],(h23 7000001 3 4 5 6 7),k12,false,fun x=>zb6 x⟩
theorem znm:HBc 12 zcz:=ctg (cd:=cdT) (nb:=nbT) (rc:=[(2,7000001,0)]) (T:=[(21,zra),(35,Hf),(35,Ap)]) (h:=.n) Tryz.func12 rfl hbv12 ⟨zt1,⟨zG3,WC⟩,⟨zG3,Vf⟩,trivial⟩ fun x=>by kernel_rfl
def zc0(RK:Nat):Ct TS:=⟨[.d (.st 0) 0,dI 1],h5,[.st 0,i6],.d .b 2,h5,[.b],false,fun x=>yg RK x.1 x.2⟩
theorem znn:∀RK,(zc0 RK).OK PGq 61
 |0=>(fun x r h=>nomatch (show(none:Option _)=some r from h))
 |RK+1=>(ctk (c:=zc0 (RK+1)) (T:=[(16,zgs),(61,zc0 RK)]) (h:=.s .n (.s (.s (.j ⟨[(1,dI 0),(2,.ptr 1000002 0),(20,.d .b 6)],(h23 1000002 1 2 3 4 5),k13,[.b]⟩ false .n) .n) (.s .n (.s .n (.s (.j ⟨[(1,dI 0),(2,.ptr 1000002 0),(5,.ptr 1000005 0),(6,dI 6)],(h24 1 2 3 4 5 9),k13,[i6,i6,.s,.s]⟩ true (.s .n (.s (.s .n (.s .n (.s (.j ⟨[(1,dI 0),(2,.ptr 1000002 0),(5,.ptr 1000005 0),(6,dI 1),(27,dI 2),(35,.d .b 9)],(h24 2 3 4 5 6 8),[i6,i6,i6,i6,.s,.s,.l (.st 0),i6,.s],[.b]⟩ false .n) (.s .n (.s .n (.s .n (.s (.j ⟨[(1,dI 0),(2,.ptr 1000002 0),(5,.ptr 1000005 0),(6,dI 1),(27,dI 2),(53,.d .b 9)],(h24 2 3 4 5 6 8),[i6,i6,i6,i6,.s,.s,.l (.st 0),i6,.s],[.b]⟩ false .n) .n))))))) .n))) (.s (.s (.j ⟨[(1,dI 0),(2,.ptr 1000002 0),(98,.d .b 6)],(h23 1000002 1 2 3 4 5),k13,[.b]⟩ false .n) .n) (.s (.s .n (.s (.lr ⟨[(1,dI 0),(100,.d (.l (.st 0)) 1),(101,dI 2),(102,dI 3)],h5,[i6,.l (.st 0),i6],[i6]⟩ [] h5 [] 1 (fun x K v=>xn (yg RK) x.1 x.2.1 x.2.2 K v) .n) .n)) .n))))))) Tryz.func61 rfl zM0 ⟨zcv,⟨zM0,(znn RK)⟩,trivial⟩ fun x=>by kernel_rfl).2
theorem zG4(RK:Nat):zd PGq 61∧(zc0 RK).OK PGq 61:=⟨zM0,(znn RK)⟩
def oO:Ct TS:=⟨[.d (.st 0) 0],h5,[.st 0],.d .b 1,h5,[.b],false,fun x=>vr x⟩
theorem Aq:HBc 20 oO:=ctk (T:=[(61,zc0 KK)]) (h:=.n) Tryz.func20 rfl hbv20 ⟨(zG4 KK),trivial⟩ fun x=>by kernel_rfl
def zt3:Ct TS:=⟨[.d (.st 0) 0],[],[.st 0],.tup [dI 1,.d .s 2],[],[i6,.s],false,fun x=>ZW x⟩
theorem zBv:HBc 161 zt3:=ctk (T:=[(151,qo)]) (h:=.s .n (.s (.s .n (.s (.lr ⟨[(1,.ptr 1000001 0),(6,.d (.l (.st 12)) 0),(7,dI 1),(8,dI 7)],(h25 1000001 2 3 4 5 6),[.l (.st 12),i6,i6,i6,.s,.s,.l (.st 0)],[i6]⟩ [(1,.ptr 1000001 0)] (h25 1000001 2 3 4 5 6) [] 0 (u7Q HP) .n) .n)) .n)) Tryz.func161 rfl zQv ⟨qZ,trivial⟩ fun x=>by kernel_rfl
def zbt:Ct TS:=⟨[.ptr 1 0,.d .s 1],[(1,.gn 0 (.s) 0)],[.s,.s],.tup [dI 2,.nili],[(1,.gn 0 (.s) 3)],[i6,.s],false,u2Q yM⟩
theorem zjh:zbt.OK PGq 162:=fun x r h=>by
 obtain⟨_,h1,h2⟩:=bind_some h;cases h2;exact kmp (by kernel_rfl) (zqt zhz 1 x.1 x.2 (y4 h1))
def zBw:Ct TS:=⟨[dI 0],h5,[i6],.d .s 1,h5,[.s],false,fun x=>Y2 x⟩
theorem zBx:zBw.OK PGq 163:=fun x r h=>kmp (by kernel_rfl) (zP7 x r h)
def zc1(RK:Nat):Ct TS:=⟨[.ptr 1 0,.d (.st 0) 1,dI 2],(h26 0 0),[.s,.st 0,i6],.tup [],(h26 0 3),[.s],false,fun x=>xz RK x.1 x.2.1 x.2.2⟩
theorem zno:∀RK,(zc1 RK).OK PGq 58
 |0=>(fun x r h=>nomatch (show(none:Option _)=some r from h))
 |RK+1=>zGr (T:=[(161,zt3),(162,zbt),(163,zBw),(58,zc1 RK)]) (cd:=cdT) (kk:=KK) (nb:=nbT) (rs:=[]) (D:=dW) (k0:=1) (hB:=.s (.s .n (.s .n (.s .n (.s .n (.s .n (.s .n (.s .n (.s .n (.s .n (.s (.s .n (.s (.l ⟨[(0,.ptr 1 0),(4,.ptr 1000004 0),(90,.row 1 1000090),(91,dI 0),(92,dI 8)],h27,[i6,i6,i6,.s,.s,.l (.st 0),.l (.s)],[.s,i6]⟩ [] (h26 0 7) [.s] 1 (fun x K v=>jN (xz RK) x.1 x.2.1 x.2.2.1 x.2.2.2.1 x.2.2.2.2.1 (p5Q x).1 (p6Q x) K v) .n) .n)) (.s .n (.s .n (.s .n (.s .n (.s .n (.s (.j ⟨[(0,.ptr 1 0),(4,.ptr 1000004 0),(6,dI 1),(7,.d .s 2),(10,dI 8)],h28,[.s,i6,.s,i6,i6,.s,.s,.l (.st 0)],[i6]⟩ false .n) .n)))))))))))))))) .n) (hB':=.s (.s .n (.s .n (.s .n (.s .n (.s .n (.s .n (.s .n (.s .n (.s .n (.s (.s .n (.s (.l ⟨[(0,.ptr 1 0),(4,.ptr 1000004 0),(90,.row 1 1000090),(91,dI 0),(92,dI 8)],h27,[i6,i6,i6,.s,.s,.l (.st 0),.l (.s)],[.s,i6]⟩ [] (h26 0 7) [.s] 1 (fun x K v=>jO (xz RK) x.1 x.2.1 x.2.2.1 x.2.2.2.1 x.2.2.2.2.1 (p5Q x).1 (p6Q x) K v) .n) .n)) (.s .n (.s .n (.s .n (.s .n (.s .n (.s (.j ⟨[(0,.ptr 1 0),(4,.ptr 1000004 0),(6,dI 1),(7,.d .s 2),(10,dI 8)],h28,[.s,i6,.s,i6,i6,.s,.s,.l (.st 0)],[i6]⟩ false .n) .n)))))))))))))))) .n) zMe Tryz.func58 rfl zMf ⟨zBv,⟨ztk,zjh⟩,⟨zI6,zBx⟩,⟨zQw,(zno RK)⟩,trivial⟩ rfl (by kernel_rfl) rfl dW_ok zA1 (fun x=>by kernel_rfl) (fun x=>by kernel_rfl)
theorem zt4(RK:Nat):zd PGq 58∧(zc1 RK).OK PGq 58:=⟨zQw,(zno RK)⟩
def zBy:Ct TS:=⟨[.ptr 1 0],[(1,.gn 0 (.s) 0)],[.s],dI 1,[(1,.gn 0 (.s) 0)],[i6],false,fun x=>zqy x⟩
theorem zG5:zBy.OK PGq 59:=fun x r h=>by
 cases h;exact kmp (by kernel_rfl) (zAw (T:=108) 1 x)
def uW:Ct TS:=⟨[.ptr 1 0],[(1,.gn 0 (.s) 0)],[.s],.d .s 1,[(1,.gn 0 (.s) 0)],[.s],false,fun x=>jL x⟩
theorem HD:uW.OK PGq 60:=fun x r h=>by
 cases h;exact kmp (by kernel_rfl) (Yj (T:=108) 1 x)
def Vg:Ct TS:=⟨[.d (.st 0) 0],h5,[.st 0],.tup [.d .s 1,dI 2],h5,[.s,i6],false,fun x=>kZ x⟩
theorem Y5:HBc 19 Vg:=ctk (T:=[(20,oO),(58,zc1 KK),(59,zBy),(60,uW)]) (h:=.n) Tryz.func19 rfl hbv19 ⟨Aq,(zt4 KK),⟨zQx,zG5⟩,⟨zwr,HD⟩,trivial⟩ fun x=>by kernel_rfl
def zR:Ct TS:=⟨[.ptr 1 0],(h29 1 9 16 2 3 4 5 6 7 8 10 11 12 13 14 15),k30,.ag [dI 17,.d .s 18,dI 19,dI 20],((h29 1 9 16 2 3 4 5 6 7 8 10 11 12 13 14 15)++(h31 7000001 17 18 19 20)),k3,false,fun x=>zr (xb x)⟩
theorem zK:HBc 42 zR:=ctg (cd:=cdT) (nb:=nbT) (rc:=[(2,7000001,0)]) (T:=[]) (h:=.n) Tryz.func42 rfl zQs trivial fun x=>by kernel_rfl
def zw:Ct TS:=⟨[.ptr 1 0,.d .b 17,dI 18],(h29 1 9 16 2 3 4 5 6 7 8 10 11 12 13 14 15),k32,.tup [],(h29 1 9 16 2 3 4 5 6 7 8 10 11 12 13 14 15),[],false,fun x=>zg (zbv x) (rBB x).1 (rBB x).2⟩
theorem zu:HBc 41 zw:=ctk (T:=[]) (h:=.n) Tryz.func41 rfl zG2 trivial fun x=>by kernel_rfl
def zjx:Ct TS:=⟨[.ptr 1 0,dI 17,dI 18],(h29 1 9 16 2 3 4 5 6 7 8 10 11 12 13 14 15),k33,.tup [],(h29 19 9 16 2 3 4 5 6 7 8 10 11 12 13 14 15),[i6],false,fun x=>yU (zbv x) (rBB x).1 (rBB x).2⟩
theorem znp:HBc 121 zjx:=ctk (T:=[(41,zw)]) (h:=.n) Tryz.func121 rfl zI7 ⟨zu,trivial⟩ fun x=>by kernel_rfl
def zP:Ct TS:=⟨[.ptr 1 0],((h29 1 9 16 2 3 4 5 6 7 8 10 11 12 13 14 15)++h5),k30,.d .b 17,((h29 1 9 16 2 3 4 5 6 7 8 10 11 12 13 14 15)++h5),[.b],false,fun x=>zO (xb x)⟩
theorem zL:HBc 190 zP:=ctk (T:=[(42,zR),(16,zgs)]) (h:=.n) Tryz.func190 rfl zI4 ⟨zK,zcv,trivial⟩ fun x=>by kernel_rfl
def yl:Ct TS:=⟨[.ptr 1 0],((h29 1 9 16 2 3 4 5 6 7 8 10 11 12 13 14 15)++h5),k30,.d .s 17,((h29 18 9 16 2 3 4 5 6 7 8 10 11 12 13 14 15)++h5),[.s,i6],false,fun x=>zQ (xb x)⟩
theorem yc:HBc 207 yl:=ctk (T:=[(190,zP),(41,zw)]) (h:=.n) Tryz.func207 rfl ztx ⟨zL,zu,trivial⟩ fun x=>by kernel_rfl
def zc2:Ct TS:=⟨[.ptr 1 0,.om 9],((h29 1 9 16 2 3 4 5 6 7 8 10 11 12 13 14 15)++h5),k30,.d .s 17,((h29 18 9 16 2 3 4 5 6 7 8 19 11 12 13 14 15)++h5),k34,false,fun x=>zb7 (xb x)⟩
theorem zgu:HBc 191 zc2:=ctk (T:=[(190,zP),(41,zw),(42,zR),(207,yl)]) (h:=.n) Tryz.func191 rfl Ao ⟨zL,zu,zK,yc,trivial⟩ fun x=>by kernel_rfl
def zre:Ct TS:=⟨[.ptr 1 0,.ci .i64 0],((h29 1 9 16 2 3 4 5 6 7 8 10 11 12 13 14 15)++h5),k30,.d .s 17,((h35 18 9 7001001 16 2 3 4 5 6 7 8)++h5++(h36 7001001 19)),k34,false,fun x=>zqz (xb x)⟩
theorem zt5:HBc 125 zre:=ctg (cd:=cdO) (nb:=nbT) (rc:=[]) (T:=[(191,zc2)]) (h:=.s .n (.s (.j ⟨[(0,.ptr 1 0),(1,dI 16)],((h35 1 2 7000001 3 4 5 6 7 8 9 10)++h5++(h36 7000001 17)),k37,[.l (.m (.s) (.b))]⟩ false .n) .n)) Tryz.func125 rfl Jq ⟨zgu,trivial⟩ fun x=>by kernel_rfl
def qD:Ct TS:=⟨[.ptr 1 0,.d .s 17],(h29 1 9 16 2 3 4 5 6 7 8 10 11 12 13 14 15),k38,.d .b 18,(h29 1 9 16 2 3 4 5 6 7 8 10 11 12 13 14 15),[.b],false,fun x=>jw (zbv x) (rBB x)⟩
theorem kI:HBc 124 qD:=ctk (T:=[(42,zR)]) (h:=.n) Tryz.func124 rfl zI1 ⟨zK,trivial⟩ fun x=>by kernel_rfl
def vz:Ct TS:=⟨[.ptr 1 0,.d .s 17],(h29 1 9 16 2 3 4 5 6 7 8 10 11 12 13 14 15),k38,.d .b 18,(h29 19 9 16 2 3 4 5 6 7 8 10 11 12 13 14 15),[.b,i6],false,fun x=>zD (zbv x) (rBB x)⟩
theorem w0:HBc 194 vz:=ctk (T:=[(124,qD)]) (h:=.n) Tryz.func194 rfl zI2 ⟨kI,trivial⟩ fun x=>by kernel_rfl
def yS:Ct TS:=⟨[.ptr 1 0,.d .s 17],(h29 1 9 16 2 3 4 5 6 7 8 10 11 12 13 14 15),k38,.tup [],(h29 18 9 16 2 3 4 5 6 7 8 10 11 12 13 14 15),[i6],false,fun x=>zA (zbv x) (rBB x)⟩
theorem yH:HBc 133 yS:=ctk (T:=[(194,vz),(41,zw)]) (h:=.n) Tryz.func133 rfl zty ⟨w0,zu,trivial⟩ fun x=>by kernel_rfl
def yu:Ct TS:=⟨[.ptr 1 0],(h29 1 9 16 2 3 4 5 6 7 8 10 11 12 13 14 15),k30,.d .b 17,(h29 1 9 16 2 3 4 5 6 7 8 10 11 12 13 14 15),[.b],false,fun x=>yt (xb x)⟩
theorem yv:HBc 193 yu:=ctk (T:=[(42,zR)]) (h:=.n) Tryz.func193 rfl zI3 ⟨zK,trivial⟩ fun x=>by kernel_rfl
def z8:Ct TS:=⟨[.ptr 1 0,dI 17,dI 18],(h29 1 9 16 2 3 4 5 6 7 8 10 11 12 13 14 15),k33,dI 19,(h29 20 9 16 2 3 4 5 6 7 8 10 11 12 13 14 15),[i6,i6],false,fun x=>zl (zbv x) (rBB x).1 (rBB x).2⟩
theorem z6:HBc 130 z8:=ctk (T:=[(193,yu),(41,zw),(42,zR)]) (h:=.s .n (.s .n (.s .n (.s (.j ⟨[(0,.ptr 1 0),(7,dI 17)],(h29 1 2 3 4 5 6 7 8 9 10 11 12 13 14 15 16),k39,[]⟩ false .n) .n)))) Tryz.func130 rfl ztw ⟨yv,zu,zK,trivial⟩ fun x=>by kernel_rfl
def q7(RK:Nat):Ct TS:=⟨[.ptr 1 0,dI 17],((h29 1 9 16 2 3 4 5 6 7 8 10 11 12 13 14 15)++h5),k40,.tup [.ag [dI 20,dI 21,.d .s 22,.d .s 23,.d (.l (.st 0)) 24],dI 18],((h29 19 9 16 2 3 4 5 6 7 8 10 11 12 13 14 15)++h5++(h25 7000001 20 21 22 23 24)),k12,false,fun x=>JO RK (zbv x) (rBB x)⟩
def wj(RK:Nat):Ct TS:=⟨[.ptr 1 0,dI 17],((h29 1 9 16 2 3 4 5 6 7 8 10 11 12 13 14 15)++h5),k40,.ag [dI 19,dI 20,.d .s 21,.d .s 22,.d (.l (.st 0)) 23],((h29 18 9 16 2 3 4 5 6 7 8 10 11 12 13 14 15)++h5++(h25 7000001 19 20 21 22 23)),k13,false,fun x=>ye RK (zbv x) (rBB x)⟩
theorem ju:∀RK,(q7 RK).OK PGq 150∧(wj RK).OK PGq 40
 |0=>⟨(fun x r h=>nomatch (show(none:Option _)=some r from h)),(fun x r h=>nomatch (show(none:Option _)=some r from h))⟩
 |RK+1=>⟨(ctg (c:=q7 (RK+1)) (cd:=cdT) (nb:=nbT) (rc:=[(4,7000001,0)]) (T:=[(194,vz),(40,wj RK),(133,yS),(193,yu),(130,z8),(207,yl)]) (h:=.s .n (.s (.s (.s (.j ⟨[(0,.ptr 1 0),(1,dI 16),(4,.ptr 1000004 0),(10,.d .b 21)],((h29 20 1 2 3 4 5 6 7 8 9 10 11 12 13 14 15)++h5++(h25 1000004 17 17 18 18 19)),k41,[i6,.b]⟩ false .n) (.s .n (.s (.j ⟨[(0,.ptr 1 0),(1,dI 16),(4,.ptr 1000004 0),(31,.d .b 21)],((h29 20 1 2 3 4 5 6 7 8 9 10 11 12 13 14 15)++h5++(h25 1000004 17 17 18 18 19)),k41,[i6,.b]⟩ false .n) (.s .n (.s (.j ⟨[(0,.ptr 1 0),(4,.ptr 1000004 0),(42,.d .b 20)],((h29 19 1 2 3 4 5 6 7 8 9 10 11 12 13 14 15)++h5++(h25 1000004 16 16 17 17 18)),k42,[i6,.b]⟩ false .n) .n))))) .n) .n)) Tryz.func150 rfl K6 ⟨w0,⟨KP,(ju RK).2⟩,yH,yv,z6,yc,trivial⟩ fun x=>by kernel_rfl).2,(ctg (c:=wj (RK+1)) (cd:=cdT) (nb:=nbT) (rc:=[(4,7000001,0)]) (T:=[(150,q7 RK),(151,qo),(124,qD),(40,wj RK)]) (h:=.s .n (.s .n (.s (.lr ⟨[(0,.ptr 1 0),(1,dI 16),(4,.ptr 1000004 0),(5,.ptr 1000005 0),(6,dI 21)],((h29 20 1 2 3 4 5 6 7 8 9 10 11 12 13 14 15)++h5++(h43 1000004 17 17 18 18 19 1000005 22 23 24 25 26)),k41,k12⟩ [] [] [] 999999999 (fun x K v=>HR (ye RK) (BB.mk x.1 0 x.2.2.2.1 x.2.2.2.2.1 (p5Q x).1 (p6Q x).1 (p7Q x).1 (p8Q x).1 (p9Q x).1 x.2.1 (zk3 x).1 (zk4 x).1 (zk5 x).1 (zph x).1 (zpi x).1 (ztu x).1 x.2.2.1) (zIy x).1 (zIz x).1 (zOl x).1 (zOm x) K v) (.s (.s .n (.s (.s .n (.s (.l ⟨[(0,.ptr 1 0),(1,dI 17),(4,.ptr 1000004 0),(5,.ptr 1000005 0),(6,dI 18),(7,.ptr 1000007 0),(16,.d (.l (.st 12)) 19),(17,dI 20),(18,dI 29)],((h29 1 2 3 4 5 6 7 8 9 10 11 12 13 14 15 16)++h5++(h44 21 22 23 24 25 26 27 28 30 31 32)),k45,k3⟩ [(0,.ptr 1 0),(1,dI 17),(4,.ptr 1000004 0),(5,.ptr 1000005 0),(6,dI 18),(7,.ptr 1000007 0)] ((h29 1 2 3 4 5 6 7 8 9 10 11 12 13 14 15 16)++h5++(h44 21 22 23 24 25 26 27 28 29 30 31)) [.s,i6,i6] 2 (fun x K v=>HQ (BB.mk x.1 0 x.2.2.2.2.1 (p5Q x).1 (p6Q x).1 (p7Q x).1 (p8Q x).1 (p9Q x).1 (zk3 x).1 x.2.2.1 (zk4 x).1 (zk5 x).1 (zph x).1 (zpi x).1 (ztu x).1 (zIy x).1 x.2.2.2.1) x.2.1 (zIz x).1 (zOl x).1 (zOm x).1 (zTi x).1 (p21Q x).1 (p22Q x).1 (p23Q x).1 (p24Q x).1 (p25Q x).1 (p26Q x).1 (p27Q x).1 (p28Q x) K v) (.s .n (.s .n (.s (.j ⟨[(0,.ptr 1 0),(1,dI 17),(4,.ptr 1000004 0),(5,.ptr 1000005 0),(6,dI 18),(7,.ptr 1000007 0),(16,.d (.l (.st 12)) 19),(17,dI 20),(18,dI 21)],((h29 1 2 3 4 5 6 7 8 9 10 11 12 13 14 15 16)++h5++(h44 22 23 24 25 26 27 28 29 30 31 32)),k46,[.s,i6,i6]⟩ false .n) .n)))) .n)) (.s (.s (.j ⟨[(0,.ptr 1 0),(1,dI 17),(4,.ptr 1000004 0),(5,.ptr 1000005 0),(7,.ptr 1000007 0),(51,.d .b 29)],((h29 1 2 3 4 5 6 7 8 9 10 11 12 13 14 15 16)++h5++(h44 18 19 20 21 22 23 24 25 26 27 28)),k47,[.b]⟩ false .n) .n) .n))) .n)) .n))) Tryz.func40 rfl KP ⟨⟨K6,(ju RK).1⟩,qZ,kI,⟨KP,(ju RK).2⟩,trivial⟩ fun x=>by kernel_rfl).2⟩
theorem zjy(RK:Nat):zd PGq 150∧(q7 RK).OK PGq 150:=⟨K6,(ju RK).1⟩
theorem qp(RK:Nat):zd PGq 40∧(wj RK).OK PGq 40:=⟨KP,(ju RK).2⟩
def Vh:Ct TS:=⟨[.ptr 1 0,.d .b 17,dI 18],(h29 1 9 16 2 3 4 5 6 7 8 10 11 12 13 14 15),k32,.tup [],(h29 19 9 16 2 3 4 5 6 7 8 10 11 12 13 14 15),[i6],false,fun x=>qa (zbv x) (rBB x).1 (rBB x).2⟩
theorem KD:HBc 127 Vh:=ctk (T:=[(124,qD),(41,zw)]) (h:=.n) Tryz.func127 rfl zI8 ⟨kI,zu,trivial⟩ fun x=>by kernel_rfl
def YC:Ct TS:=⟨[.ptr 1 0],((h29 1 9 16 2 3 4 5 6 7 8 10 11 12 13 14 15)++h5),k30,.tup [],((h35 17 9 7000001 16 18 3 4 5 6 7 8)++h5++(h36 7000001 19)),[i6,.l (.st 1),.l (.m (.s) (.b))],false,fun x=>Yt (xb x)⟩
theorem zc3:HBc 122 YC:=ctk (T:=[(125,zre),(133,yS),(40,wj KK),(43,qC KK),(127,Vh)]) (h:=.n) Tryz.func122 rfl zI9 ⟨zt5,yH,(qp KK),(Hc KK),KD,trivial⟩ fun x=>by kernel_rfl
def Vi:Ct TS:=⟨[.ptr 1 0,.om 10],((h29 1 9 16 2 3 4 5 6 7 8 10 11 12 13 14 15)++h5),k30,.d .s 17,((h29 18 9 16 2 3 4 5 6 7 8 10 19 12 13 14 15)++h5),k34,false,fun x=>Q1 (xb x)⟩
theorem Y6:HBc 191 Vi:=ctk (T:=[(190,zP),(41,zw),(42,zR),(207,yl)]) (h:=.n) Tryz.func191 rfl Ao ⟨zL,zu,zK,yc,trivial⟩ fun x=>by kernel_rfl
def zc4:Ct TS:=⟨[.ptr 1 0,.ci .i64 1],((h29 1 9 16 2 3 4 5 6 7 8 10 11 12 13 14 15)++h5),k30,.d .s 17,((h48 18 9 7001001 16 2 3 4 5 6 7 8 10 12 13 14 15)++h5++(h36 7001001 19)),k34,false,fun x=>zb8 (xb x)⟩
theorem zgv:HBc 125 zc4:=ctg (cd:=cdO) (nb:=nbT) (rc:=[]) (T:=[(191,Vi)]) (h:=.s .n (.s (.j ⟨[(0,.ptr 1 0),(1,dI 16)],((h48 1 2 7000001 3 4 5 6 7 8 9 10 11 12 13 14 15)++h5++(h36 7000001 17)),k37,[.l (.m (.s) (.b))]⟩ false .n) .n)) Tryz.func125 rfl Jq ⟨Y6,trivial⟩ fun x=>by kernel_rfl
def Vj:Ct TS:=⟨[.ptr 1 0,.mp 15],((h49 1 17)++h5),k50,.d .s 18,((h49 19 20)++h5),[.s,i6,.m (.s) (.b)],false,fun x=>Q2 (zbv x) (rBB x)⟩
theorem Y7:HBc 191 Vj:=ctk (T:=[(190,zP),(41,zw),(42,zR),(207,yl)]) (h:=.n) Tryz.func191 rfl Ao ⟨zL,zu,zK,yc,trivial⟩ fun x=>by kernel_rfl
def Hg:Ct TS:=⟨[.ptr 1 0,dI 17],(h29 1 9 16 2 3 4 5 6 7 8 10 11 12 13 14 15),k40,dI 18,(h29 19 9 16 2 3 4 5 6 7 8 10 11 12 13 14 15),[i6,i6],false,fun x=>vK (zbv x) (rBB x)⟩
theorem Jb:HBc 192 Hg:=ctk (T:=[(194,vz),(130,z8)]) (h:=.n) Tryz.func192 rfl zJa ⟨w0,z6,trivial⟩ fun x=>by kernel_rfl
def zc5:Ct TS:=⟨[.ptr 1 0],((h29 1 9 16 2 3 4 5 6 7 8 10 11 12 13 14 15)++h5),k30,.tup [],((h48 17 9 7000001 16 2 18 4 5 6 7 8 10 12 13 14 15)++h5++(h36 7000001 19)),[i6,.l (.st 3),.l (.m (.s) (.b))],false,fun x=>zb9 (xb x)⟩
theorem zgw:HBc 123 zc5:=ctk (T:=[(125,zc4),(190,zP),(41,zw),(191,Vj),(192,Hg),(133,yS)]) (h:=.s .n (.s .n (.s (.s (.l ⟨[(0,.ptr 1 0),(2,.ptr 1000002 0),(3,.mp 1000007)],((h48 18 1 103000500 2 3 4 5 6 7 8 9 10 11 12 13 14)++h5++h51),k52,[i6,.m (.s) (.b),.l (.st 2)]⟩ [(0,.ptr 1 0),(2,.ptr 1000002 0)] ((h48 18 1 103000500 2 3 4 5 6 7 8 9 10 11 12 13 14)++h5++h53) [i6,.l (.st 2)] 0 (fun x K v=>JP (BB.mk x.1 0 x.2.2.2.1 x.2.2.2.2.1 (p5Q x).1 (p6Q x).1 (p7Q x).1 (p8Q x).1 (p9Q x).1 x.2.1 (zk3 x).1 [] (zk4 x).1 (zk5 x).1 (zph x).1 (zpi x).1 x.2.2.1) (ztu x).1 (zIy x).1 (zIz x) K v) .n) .n) .n))) Tryz.func123 rfl zJb ⟨zgv,zL,zu,Y7,Jb,yH,trivial⟩ fun x=>by kernel_rfl
def Vk:Ct TS:=⟨[.ptr 1 0,.om 11],((h29 1 9 16 2 3 4 5 6 7 8 10 11 12 13 14 15)++h5),k30,.d .s 17,((h29 18 9 16 2 3 4 5 6 7 8 10 11 19 13 14 15)++h5),k34,false,fun x=>Q3 (xb x)⟩
theorem Y8:HBc 191 Vk:=ctk (T:=[(190,zP),(41,zw),(42,zR),(207,yl)]) (h:=.n) Tryz.func191 rfl Ao ⟨zL,zu,zK,yc,trivial⟩ fun x=>by kernel_rfl
def zc6:Ct TS:=⟨[.ptr 1 0,.ci .i64 2],((h29 1 9 16 2 3 4 5 6 7 8 10 11 12 13 14 15)++h5),k30,.d .s 17,((h54 18 9 7001001 16 2 3 4 5 6 7 8 10 11)++h5++(h36 7001001 19)),k34,false,fun x=>JQ (xb x)⟩
theorem zgx:HBc 125 zc6:=ctg (cd:=cdO) (nb:=nbT) (rc:=[]) (T:=[(191,Vk)]) (h:=.s .n (.s (.j ⟨[(0,.ptr 1 0),(1,dI 16)],((h54 1 2 7000001 3 4 5 6 7 8 9 10 11 12)++h5++(h36 7000001 17)),k37,[.l (.m (.s) (.b))]⟩ false .n) .n)) Tryz.func125 rfl Jq ⟨Y8,trivial⟩ fun x=>by kernel_rfl
def YD:Ct TS:=⟨[.ptr 1 0],(h29 1 9 16 2 3 4 5 6 7 8 10 11 12 13 14 15),k30,.d (.l (.st 4)) 17,(h29 18 9 16 2 3 4 5 6 7 8 10 11 12 13 14 15),[.l (.st 4),i6],false,fun x=>vL (xb x)⟩
theorem zc7:HBc 126 YD:=ctk (T:=[(130,z8),(193,yu)]) (h:=.s .n (.s .n (.s (.lr ⟨[(0,.ptr 1 0),(3,.row 2 7000001)],((h29 16 1 2 3 4 5 6 7 8 9 10 11 12 13 14 15)++[(7000001,.row 156 (.st 4) 17 false)]),k55,[i6,.l (.st 4)]⟩ [] [] [] 999999999 (fun x K v=>HS (BB.mk x.1 0 x.2.2.2.1 x.2.2.2.2.1 (p5Q x).1 (p6Q x).1 (p7Q x).1 (p8Q x).1 (p9Q x).1 x.2.1 (zk3 x).1 (zk4 x).1 (zk5 x).1 (zph x).1 (zpi x).1 (ztu x) x.2.2.1) K v) .n) .n))) Tryz.func126 rfl zJc ⟨z6,yv,trivial⟩ fun x=>by kernel_rfl
def zgy:Ct TS:=⟨[.d (.l (.st 4)) 0],[],[.l (.st 4)],.d (.l (.st 13)) 1,[],[.l (.st 13)],false,fun x=>Kq x⟩
theorem zrf:HBc 214 zgy:=ctk (T:=[]) (h:=.s .n (.s .n (.s (.s .n (.s (.l ⟨[(0,.d (.l (.st 4)) 0),(3,.row 4 1000007),(9,dI 1),(10,dI 2)],[(1000007,.row 229 (.st 13) 3 false)],[.l (.st 4),i6],[i6,.l (.st 13)]⟩ [(3,.row 4 1000007)] [(1000007,.row 229 (.st 13) 2 false)] [.l (.st 13)] 0 (u2Q wD) .n) .n)) .n))) Tryz.func214 rfl zQy trivial fun x=>by kernel_rfl
def zgz:Ct TS:=⟨[.d (.st 4) 0],[],[.st 4],.d .b 1,[],[.b],false,fun x=>Yu x⟩
theorem zrg:HBc 215 zgz:=ctk (T:=[]) (h:=.n) Tryz.func215 rfl zQz trivial fun x=>by kernel_rfl
def Jr:Ct TS:=⟨[.d (.st 13) 0],[],[.st 13],.d .b 1,[],[.b],false,fun x=>xd x⟩
theorem YE:HBc 216 Jr:=ctk (T:=[]) (h:=.n) Tryz.func216 rfl zQ0 trivial fun x=>by kernel_rfl
def zc8:Ct TS:=⟨[dI 0],[],[i6],.d .b 1,[],[.b],false,fun x=>HU x⟩
theorem znq:HBc 238 zc8:=ctk (T:=[]) (h:=.n) Tryz.func238 rfl zQ1 trivial fun x=>by kernel_rfl
def WD:Ct TS:=⟨[dI 0,dI 1],[],[i6,i6],dI 2,[],[i6],false,u2Q ku⟩
theorem ze9:HBc 231 WD:=ctk (T:=[(238,zc8)]) (h:=.n) Tryz.func231 rfl zQ2 ⟨znq,trivial⟩ fun x=>by kernel_rfl
def zt6:Ct TS:=⟨[.d (.l i6) 0],[],[.l i6],dI 1,[],[i6],false,fun x=>ZX x⟩
theorem zBz:HBc 230 zt6:=ctk (T:=[]) (h:=.s .n (.s .n (.s (.s .n (.s (.lr ⟨[(3,dI 0),(6,.d (.l i6) 1),(7,dI 2),(8,dI 3)],[],[i6,.l i6,i6],[i6]⟩ [(3,dI 0)] [] [] 0 (u3Q qb) .n) .n)) .n))) Tryz.func230 rfl zQ3 trivial fun x=>by kernel_rfl
def zc9:Ct TS:=⟨[.d (.st 4) 0,.d (.st 4) 1],[],[.st 4,.st 4],dI 2,[],[i6],false,u2Q HV⟩
theorem znr:HBc 217 zc9:=ctk (T:=[(231,WD),(230,zt6)]) (h:=.n) Tryz.func217 rfl zQ4 ⟨ze9,zBz,trivial⟩ fun x=>by kernel_rfl
def Js:Ct TS:=⟨[.d (.st 13) 0,.d (.st 13) 1],[],[.st 13,.st 13],.d .b 2,[],[.b],false,u2Q Jp⟩
theorem YF:HBc 218 Js:=ctk (T:=[]) (h:=.n) Tryz.func218 rfl zQ5 trivial fun x=>by kernel_rfl
def zns:Ct TS:=⟨[.d (.l (.st 4)) 0],[],[.l (.st 4)],.d .b 1,[],[.b],false,fun x=>zca x⟩
theorem zwz:HBc 180 zns:=ctk (T:=[(214,zgy),(215,zgz),(216,Jr),(217,zc9),(218,Js)]) (h:=.s .n (.s (.s (.j ⟨[(0,.d (.l (.st 4)) 0),(16,.d .b 1)],[],[.l (.st 4)],[.b]⟩ false .n) .n) (.s .n (.s (.s .n (.s (.lr ⟨[(0,.d (.l (.st 4)) 0),(3,.d (.l (.st 13)) 1),(19,.d (.l (.st 13)) 1),(20,dI 2),(21,dI 3)],[],[.l (.st 4),.l (.st 13),i6],[i6]⟩ [(3,.d (.l (.st 13)) 1)] [] [] 0 (u3Q jP) (.s .n (.s .n (.s (.s (.s .n (.s .n (.s (.s (.j ⟨[(0,.d (.l (.st 4)) 0),(3,.d (.l (.st 13)) 1),(4,dI 2),(19,.d (.l (.st 13)) 1),(20,dI 3),(21,dI 2),(61,.d .b 4)],[],[.l (.st 4),.l (.st 13),i6,i6],[.b]⟩ false .n) .n) (.s (.j ⟨[(0,.d (.l (.st 4)) 0),(3,.d (.l (.st 13)) 1),(19,.d (.l (.st 13)) 1),(20,dI 2),(21,dI 3),(74,.d .b 4)],[],[.l (.st 4),.l (.st 13),i6,i6],[.b]⟩ false .n) .n)))) .n) .n)))) .n)) (.s (.s .n (.s (.lr ⟨[(3,.d (.l (.st 13)) 0),(77,dI 1),(78,dI 2)],[],[.l (.st 13),i6],[i6]⟩ [(3,.d (.l (.st 13)) 0)] [] [] 2 (u2Q jR) (.s .n (.s .n (.s (.s (.s .n (.s .n (.s (.lr ⟨[(3,.d (.l (.st 13)) 0),(7,dI 1),(8,dI 3),(77,dI 2),(78,dI 1)],[],[.l (.st 13),i6,i6],[i6]⟩ [(3,.d (.l (.st 13)) 0),(77,dI 2),(78,dI 1)] [] [] 4 (u3Q jQ) (.s .n (.s (.s (.s (.j ⟨[(3,.d (.l (.st 13)) 0),(7,dI 1),(8,dI 2),(77,dI 3),(78,dI 1),(106,.d .b 4)],[],[.l (.st 13),i6,i6,i6],[.b]⟩ false .n) .n) .n) .n))) .n))) .n) .n)))) .n)) .n))))) Tryz.func180 rfl zQ6 ⟨zrf,zrg,YE,znr,YF,trivial⟩ fun x=>by kernel_rfl
def zag:Ct TS:=⟨[.d (.l (.st 4)) 0],[],[.l (.st 4)],.d .b 1,[],[.b],false,fun x=>wE x⟩
theorem zda:HBc 94 zag:=ctk (T:=[(180,zns)]) (h:=.n) Tryz.func94 rfl hbv94 ⟨zwz,trivial⟩ fun x=>by kernel_rfl
def Vl:Ct TS:=⟨[.ptr 1 0,.om 12],((h29 1 9 16 2 3 4 5 6 7 8 10 11 12 13 14 15)++h5),k30,.d .s 17,((h29 18 9 16 2 3 4 5 6 7 8 10 11 12 19 14 15)++h5),k34,false,fun x=>Q4 (xb x)⟩
theorem Y9:HBc 191 Vl:=ctk (T:=[(190,zP),(41,zw),(42,zR),(207,yl)]) (h:=.n) Tryz.func191 rfl Ao ⟨zL,zu,zK,yc,trivial⟩ fun x=>by kernel_rfl
def zdb:Ct TS:=⟨[.ptr 1 0,.ci .i64 3],((h29 1 9 16 2 3 4 5 6 7 8 10 11 12 13 14 15)++h5),k30,.d .s 17,((h56 18 9 7001001 16 2 3 4 5 6 7 8 10 11 12 14 15)++h5++(h36 7001001 19)),k34,false,fun x=>zcb (xb x)⟩
theorem zg0:HBc 125 zdb:=ctg (cd:=cdO) (nb:=nbT) (rc:=[]) (T:=[(191,Vl)]) (h:=.s .n (.s (.j ⟨[(0,.ptr 1 0),(1,dI 16)],((h56 1 2 7000001 3 4 5 6 7 8 9 10 11 12 13 14 15)++h5++(h36 7000001 17)),k37,[.l (.m (.s) (.b))]⟩ false .n) .n)) Tryz.func125 rfl Jq ⟨Y9,trivial⟩ fun x=>by kernel_rfl
def zjz:Ct TS:=⟨[.ptr 1 0],((h29 1 9 16 2 3 4 5 6 7 8 10 11 12 13 14 15)++h5),k30,.d (.l (.s)) 17,((h29 18 9 16 2 3 4 5 6 7 8 10 11 12 13 14 15)++h5),[.l (.s),i6],false,fun x=>Wq (xb x)⟩
theorem znt:HBc 195 zjz:=ctk (T:=[(207,yl),(190,zP)]) (h:=.s .n (.s .n (.s (.s (.l ⟨[(0,.ptr 1 0),(3,.row 1 1000008)],((h29 16 1 2 3 4 5 6 7 8 9 10 11 12 13 14 15)++h5++(h57 1000008 17)),k55,[i6,.l (.s)]⟩ [(3,.row 1 1000008)] ((h29 16 1 2 3 4 5 6 7 8 9 10 11 12 13 14 15)++h5++(h57 1000008 17)) [i6,.l (.s)] 0 (fun x K v=>Q5 (BB.mk x.1 0 x.2.2.2.1 x.2.2.2.2.1 (p5Q x).1 (p6Q x).1 (p7Q x).1 (p8Q x).1 (p9Q x).1 x.2.1 (zk3 x).1 (zk4 x).1 (zk5 x).1 (zph x).1 (zpi x).1 (ztu x) x.2.2.1) K v) .n) .n) .n))) Tryz.func195 rfl zJd ⟨yc,zL,trivial⟩ fun x=>by kernel_rfl
def zah:Ct TS:=⟨[.d .s 0],h5,[.s],.row 1 60,[(60,.row 9 (.s) 1 false),(900000000,.rw 1),(900000001,.rw 2),(900000002,.rw 3),(900000003,.rw 4)],[.l (.s)],false,fun x=>Ad x⟩
theorem zdc:zah.OK PGq 72:=fun x r h=>kmp (by kernel_rfl) (zGj x r h)
def K7:Ct TS:=⟨[.d (.l (.s)) 0,.d .s 1],[],[.l (.s),.s],dI 2,[],[i6],false,u2Q K4⟩
theorem zdd:HBc 219 K7:=ctk (T:=[]) (h:=.s .n (.s (.s .n (.s (.lr ⟨[(0,.d (.l (.s)) 0),(1,.d .s 1),(7,dI 2),(8,dI 3)],[],[.l (.s),.s,i6],[i6]⟩ [] [] [] 0 (u3Q qc) .n) .n)) .n)) Tryz.func219 rfl zQ7 trivial fun x=>by kernel_rfl
def zde:Ct TS:=⟨[.d .s 0,.d .s 1],h5,[.s,.s],dI 2,h5,[i6],false,u2Q zcc⟩
theorem zai:HBc 197 zde:=ctk (T:=[(72,zah),(219,K7)]) (h:=.n) Tryz.func197 rfl zQ8 ⟨⟨zM1,zdc⟩,zdd,trivial⟩ fun x=>by kernel_rfl
def qq:Ct TS:=⟨[.ptr 1 0,.d .s 17],((h29 1 9 16 2 3 4 5 6 7 8 10 11 12 13 14 15)++h5),k38,dI 18,((h29 19 9 16 2 3 4 5 6 7 8 10 11 12 13 14 15)++h5),[i6,i6],false,fun x=>wg (zbv x) (rBB x)⟩
theorem qs:HBc 129 qq:=ctk (T:=[(42,zR),(197,zde),(41,zw)]) (h:=.s .n (.s .n (.s (.j ⟨[(0,.ptr 1 0),(5,dI 17)],((h29 1 2 3 4 5 6 7 8 9 10 11 12 13 14 15 16)++h5),k39,[]⟩ false .n) .n))) Tryz.func129 rfl zJe ⟨zK,zai,zu,trivial⟩ fun x=>by kernel_rfl
def zrh:Ct TS:=⟨[.ptr 1 0],((h29 1 9 16 2 3 4 5 6 7 8 10 11 12 13 14 15)++h5),k30,dI 17,((h29 18 9 16 2 3 4 5 6 7 8 10 11 12 13 14 15)++h5),[i6,i6],false,fun x=>zq0 (xb x)⟩
theorem zt7:HBc 196 zrh:=ctk (T:=[(42,zR),(197,zde),(41,zw),(129,qq)]) (h:=.s .n (.s .n (.s (.lr ⟨[(0,.ptr 1 0),(3,dI 17)],((h29 16 1 2 3 4 5 6 7 8 9 10 11 12 13 14 15)++h5),k55,[i6,i6]⟩ [] [] [] 999999999 (fun x K v=>Yv (BB.mk x.1 0 x.2.2.2.1 x.2.2.2.2.1 (p5Q x).1 (p6Q x).1 (p7Q x).1 (p8Q x).1 (p9Q x).1 x.2.1 (zk3 x).1 (zk4 x).1 (zk5 x).1 (zph x).1 (zpi x).1 (ztu x) x.2.2.1) K v) (.s (.s .n (.s (.s (.j ⟨[(0,.ptr 1 0),(3,dI 17),(4,dI 18),(24,.d .b 19)],((h29 1 2 3 4 5 6 7 8 9 10 11 12 13 14 15 16)++h5),k58,[.b]⟩ false .n) .n) (.s (.j ⟨[(0,.ptr 1 0),(3,dI 17)],((h29 1 2 3 4 5 6 7 8 9 10 11 12 13 14 15 16)++h5),k39,[]⟩ false .n) .n))) .n)) .n))) Tryz.func196 rfl zJf ⟨zK,zai,zu,qs,trivial⟩ fun x=>by kernel_rfl
def zj0:Ct TS:=⟨[.ptr 1 0],((h29 1 9 16 2 3 4 5 6 7 8 10 11 12 13 14 15)++h5),k30,.tup [],((h56 17 9 7000001 16 2 3 4 18 6 7 8 10 11 12 14 15)++h5++(h36 7000001 19)),[i6,.l (.st 7),.l (.m (.s) (.b))],false,fun x=>Wr (xb x)⟩
theorem znu:HBc 128 zj0:=ctk (T:=[(125,zdb),(194,vz),(195,zjz),(130,z8),(133,yS),(196,zrh),(129,qq),(40,wj KK),(43,qC KK),(127,Vh)]) (h:=.s .n (.s (.j ⟨[(0,.ptr 1 0),(2,.ptr 1000002 0)],((h56 22 1 103000400 2 3 4 5 6 7 8 9 10 11 12 13 14)++h5++(h59 23 17 18 18 18 19 18 18 18 20 20 21 18 18 18 18 18 18 18)),k60,[i6,.l (.s)]⟩ false .n) (.s (.j ⟨[(0,.ptr 1 0),(2,.ptr 1000002 0)],((h56 22 1 103000400 2 3 4 5 6 7 8 9 10 11 12 13 14)++h5++(h59 17 23 18 18 18 19 18 18 18 20 20 21 18 18 18 18 18 18 18)),k60,[i6,.l (.s)]⟩ false .n) (.s (.j ⟨[(0,.ptr 1 0),(2,.ptr 1000002 0)],((h56 23 1 103000400 2 3 4 5 6 7 8 9 10 11 12 13 14)++h5++(h59 17 18 24 19 19 20 19 19 19 21 21 22 19 19 19 19 19 19 19)),k61,[i6,i6]⟩ false .n) (.s (.j ⟨[(0,.ptr 1 0),(2,.ptr 1000002 0)],((h56 24 1 103000400 2 3 4 5 6 7 8 9 10 11 12 13 14)++h5++(h59 17 18 19 25 20 21 20 20 20 22 22 23 20 20 20 20 20 20 20)),k62,[i6,i6]⟩ false .n) (.s (.j ⟨[(0,.ptr 1 0),(2,.ptr 1000002 0)],((h56 25 1 103000400 2 3 4 5 6 7 8 9 10 11 12 13 14)++h5++(h59 17 18 19 20 26 21 22 22 22 23 23 24 22 22 22 22 22 22 22)),k63,[i6,i6]⟩ false .n) (.s .n (.s .n (.s (.j ⟨[(0,.ptr 1 0),(2,.ptr 1000002 0)],((h56 23 1 103000400 2 3 4 5 6 7 8 9 10 11 12 13 14)++h5++(h59 17 18 19 20 21 22 24 25 26 27 28 29 30 31 32 33 34 35 36)),k64,k65⟩ false .n) .n))))))))) Tryz.func128 rfl zJg ⟨zg0,w0,znt,z6,yH,zt7,qs,(qp KK),(Hc KK),KD,trivial⟩ fun x=>by kernel_rfl
def Vm:Ct TS:=⟨[.ptr 1 0,.om 13],((h29 1 9 16 2 3 4 5 6 7 8 10 11 12 13 14 15)++h5),k30,.d .s 17,((h29 18 9 16 2 3 4 5 6 7 8 10 11 12 13 19 15)++h5),k34,false,fun x=>Q6 (xb x)⟩
theorem Za:HBc 191 Vm:=ctk (T:=[(190,zP),(41,zw),(42,zR),(207,yl)]) (h:=.n) Tryz.func191 rfl Ao ⟨zL,zu,zK,yc,trivial⟩ fun x=>by kernel_rfl
def zdf:Ct TS:=⟨[.ptr 1 0,.ci .i64 4],((h29 1 9 16 2 3 4 5 6 7 8 10 11 12 13 14 15)++h5),k30,.d .s 17,((h66 18 9 7001001 16 2 3 4 5 6 7 8 10 11 12 13)++h5++(h36 7001001 19)),k34,false,fun x=>JR (xb x)⟩
theorem zg1:HBc 125 zdf:=ctg (cd:=cdO) (nb:=nbT) (rc:=[]) (T:=[(191,Vm)]) (h:=.s .n (.s (.j ⟨[(0,.ptr 1 0),(1,dI 16)],((h66 1 2 7000001 3 4 5 6 7 8 9 10 11 12 13 14)++h5++(h36 7000001 17)),k37,[.l (.m (.s) (.b))]⟩ false .n) .n)) Tryz.func125 rfl Jq ⟨Za,trivial⟩ fun x=>by kernel_rfl
def Vn:Ct TS:=⟨[.ptr 1 0,.om 14],((h29 1 9 16 2 3 4 5 6 7 8 10 11 12 13 14 15)++h5),k30,.d .s 17,((h29 18 9 16 2 3 4 5 6 7 8 10 11 12 13 14 19)++h5),k34,false,fun x=>Q7 (xb x)⟩
theorem Zb:HBc 191 Vn:=ctk (T:=[(190,zP),(41,zw),(42,zR),(207,yl)]) (h:=.n) Tryz.func191 rfl Ao ⟨zL,zu,zK,yc,trivial⟩ fun x=>by kernel_rfl
def zdg:Ct TS:=⟨[.ptr 1 0,.ci .i64 5],((h29 1 9 16 2 3 4 5 6 7 8 10 11 12 13 14 15)++h5),k30,.d .s 17,((h67 18 9 7001001 16 2 3 4 5 6 7 8 10 11 12 13 14)++h5++(h36 7001001 19)),k34,false,fun x=>zcd (xb x)⟩
theorem zg2:HBc 125 zdg:=ctg (cd:=cdO) (nb:=nbT) (rc:=[]) (T:=[(191,Vn)]) (h:=.s .n (.s (.j ⟨[(0,.ptr 1 0),(1,dI 16)],((h67 1 2 7000001 3 4 5 6 7 8 9 10 11 12 13 14 15)++h5++(h36 7000001 17)),k37,[.l (.m (.s) (.b))]⟩ false .n) .n)) Tryz.func125 rfl Jq ⟨Zb,trivial⟩ fun x=>by kernel_rfl
def zdh:Ct TS:=⟨[.ptr 1 0],(h29 1 9 16 2 3 4 5 6 7 8 10 11 12 13 14 15),k30,.ag [dI 18,dI 19,dI 20],((h29 17 9 16 2 3 4 5 6 7 8 10 11 12 13 14 15)++[(7000001,.box 98 [dI 18,dI 19,dI 20])]),k1,false,fun x=>oD (xb x)⟩
theorem zg3:HBc 198 zdh:=ctg (cd:=cdT) (nb:=nbT) (rc:=[(2,7000001,0)]) (T:=[(130,z8)]) (h:=.n) Tryz.func198 rfl zJh ⟨z6,trivial⟩ fun x=>by kernel_rfl
def zj1:Ct TS:=⟨[.ptr 1 0],((h29 1 9 16 2 3 4 5 6 7 8 10 11 12 13 14 15)++h5),k30,.tup [],((h67 17 9 7000001 16 2 3 4 5 6 18 8 10 11 12 13 14)++h5++(h36 7000001 19)),[i6,.l (.st 10),.l (.m (.s) (.b))],false,fun x=>Ws (xb x)⟩
theorem znv:HBc 131 zj1:=ctk (T:=[(125,zdg),(198,zdh),(133,yS),(130,z8),(193,yu),(41,zw)]) (h:=.s .n (.s .n (.s .n (.s .n (.s .n (.s (.s (.l ⟨[(0,.ptr 1 0),(2,.ptr 1000002 0)],((h67 21 1 103000400 2 3 4 5 6 7 8 9 10 11 12 13 14)++h5++h68),k69,[i6,.l (.st 9)]⟩ [(0,.ptr 1 0),(2,.ptr 1000002 0)] ((h67 21 1 103000400 2 3 4 5 6 7 8 9 10 11 12 13 14)++h5++h68) [i6,.l (.st 9)] 0 (fun x K v=>Q8 (BB.mk x.1 0 x.2.2.2.1 x.2.2.2.2.1 (p5Q x).1 (p6Q x).1 (p7Q x).1 (p8Q x).1 (p9Q x).1 x.2.1 (zk3 x).1 (zk4 x).1 (zk5 x).1 (zph x).1 (zpi x).1 [] x.2.2.1) (ztu x).1 (zIy x).1 (zIz x).1 (zOl x).1 (zOm x).1 (zTi x) K v) .n) .n) .n)))))) Tryz.func131 rfl zJi ⟨zg2,zg3,yH,z6,yv,zu,trivial⟩ fun x=>by kernel_rfl
def zri:Ct TS:=⟨[.ptr 1 0],(h29 1 9 16 2 3 4 5 6 7 8 10 11 12 13 14 15),k30,.tup [],(h29 17 9 16 2 3 4 5 6 7 18 10 11 12 13 14 15),[i6,.l (.st 9)],false,fun x=>zce (xb x)⟩
theorem zt8:HBc 132 zri:=ctk (T:=[(124,qD),(41,zw),(193,yu),(192,Hg),(130,z8),(194,vz),(133,yS)]) (h:=.s (.s .n (.s (.l ⟨[(0,.ptr 1 0),(2,.d .b 17)],(h29 15 1 2 3 4 5 6 7 8 16 9 10 11 12 13 14),k70,[i6,.l (.st 9),.b]⟩ [(0,.ptr 1 0)] (h29 15 1 2 3 4 5 6 7 8 16 9 10 11 12 13 14) [i6,.l (.st 9)] 0 (fun x K v=>Yw (BB.mk x.1 0 x.2.2.2.1 x.2.2.2.2.1 (p5Q x).1 (p6Q x).1 (p7Q x).1 (p8Q x).1 [] x.2.1 (p9Q x).1 (zk3 x).1 (zk4 x).1 (zk5 x).1 (zph x).1 (zpi x) x.2.2.1) K v) (.s .n (.s (.s (.s (.j ⟨[(0,.ptr 1 0)],(h29 1 2 3 4 5 6 7 8 9 10 11 12 13 14 15 16),k71,[]⟩ false .n) .n) .n) .n))) .n)) .n) Tryz.func132 rfl zJj ⟨kI,zu,yv,Jb,z6,w0,yH,trivial⟩ fun x=>by kernel_rfl
def KE:Ct TS:=⟨[.ptr 1 0],((h29 1 9 16 2 3 4 5 6 7 8 10 11 12 13 14 15)++h5),k30,.tup [],((h72 17 18 7001001 7001002 7001003 7001004 7001005 7001006 19 20 21 22 23 24 25 26)++h5++(h73 7001001 27 7001002 28 7001003 29 7001004 30 7001005 31 7001006 32)),k74,false,fun x=>ztr (xb x)⟩
theorem zB0:HBc 36 KE:=ctk (T:=[(42,zR),(121,zjx),(122,YC),(123,zc5),(124,qD),(125,zc6),(126,YD),(94,zag),(127,Vh),(128,zj0),(125,zdf),(129,qq),(130,z8),(131,zj1),(41,zw),(132,zri),(133,yS)]) (h:=.s (.l ⟨[(0,.ptr 1 0)],((h72 1 2 7000001 7000002 7000003 7000004 7000005 7000006 3 4 5 6 7 8 9 10)++h5++(h73 7000001 11 7000002 12 7000003 13 7000004 14 7000005 15 7000006 16)),[.l (.st 11)],k74⟩ [] ((h72 1 2 7000001 7000002 7000003 7000004 7000005 7000006 3 4 5 6 7 8 9 10)++h5++(h73 7000001 11 7000002 12 7000003 13 7000004 14 7000005 15 7000006 16)) k74 0 (fun x K v=>yo (BB.mk x 0 [] [] [] [] [] [] [] 0 [] [] [] [] [] [] false) K v) .n) .n) Tryz.func36 rfl zQ9 ⟨zK,znp,zc3,zgw,kI,zgx,zc7,zda,KD,znu,zg1,qs,z6,znv,zu,zt8,yH,trivial⟩ fun x=>by kernel_rfl
def Vo:CtP TS PC:=⟨[.ptr 1 0,dI 17],(h29 1 9 16 2 3 4 5 6 7 8 10 11 12 13 14 15),k40,fun x=>Kr (zbv x) (rBB x)⟩
theorem Zc:HBp 134 Vo:=ctp (T:=[(42,zR)]) (TP:=[]) (h:=.n) Tryz.func134 rfl zI5 ⟨zK,trivial⟩ trivial fun x=>by kernel_rfl
def zX:CtP TS PC:=⟨[.ptr 1 0,.d .b 17,dI 18],(h29 1 9 16 2 3 4 5 6 7 8 10 11 12 13 14 15),k32,fun x=>zx (zbv x) (rBB x).1 (rBB x).2⟩
theorem zU:HBp 41 zX:=ctp (T:=[]) (TP:=[(134,Vo)]) (h:=.n) Tryz.func41 rfl zG2 trivial ⟨Zc,trivial⟩ fun x=>by kernel_rfl
def znw:CtP TS PC:=⟨[.ptr 1 0,dI 17,dI 18],(h29 1 9 16 2 3 4 5 6 7 8 10 11 12 13 14 15),k33,fun x=>kv (zbv x) (rBB x).1 (rBB x).2⟩
theorem zw0:HBp 121 znw:=ctp (T:=[(41,zw)]) (TP:=[(41,zX)]) (h:=.n) Tryz.func121 rfl zI7 ⟨zu,trivial⟩ ⟨zU,trivial⟩ fun x=>by kernel_rfl
def xR:CtP TS PC:=⟨[.ptr 1 0],((h29 1 9 16 2 3 4 5 6 7 8 10 11 12 13 14 15)++h5),k30,fun x=>y5 (xb x)⟩
theorem xM:HBp 207 xR:=ctp (T:=[(190,zP),(41,zw)]) (TP:=[(41,zX)]) (h:=.n) Tryz.func207 rfl ztx ⟨zL,zu,trivial⟩ ⟨zU,trivial⟩ fun x=>by kernel_rfl
def zg4:CtP TS PC:=⟨[.ptr 1 0,.om 9],((h29 1 9 16 2 3 4 5 6 7 8 10 11 12 13 14 15)++h5),k30,fun x=>zmy (xb x)⟩
theorem zrj:HBp 191 zg4:=ctp (T:=[(190,zP),(41,zw),(42,zR),(207,yl)]) (TP:=[(41,zX),(207,xR)]) (h:=.n) Tryz.func191 rfl Ao ⟨zL,zu,zK,yc,trivial⟩ ⟨zU,xM,trivial⟩ fun x=>by kernel_rfl
def zt9:CtP TS PC:=⟨[.ptr 1 0,.ci .i64 0],((h29 1 9 16 2 3 4 5 6 7 8 10 11 12 13 14 15)++h5),k30,fun x=>zBc (xb x)⟩
theorem zB1:HBp 125 zt9:=zOo (cd:=cdO) (nb:=nbT) (T:=[(191,zc2)]) (TP:=[(191,zg4)]) (h:=.s .n (.s (.j ⟨[(0,.ptr 1 0),(1,dI 16)],((h35 1 2 7000001 3 4 5 6 7 8 9 10)++h5++(h36 7000001 17)),k37,[.l (.m (.s) (.b))]⟩ false .n) .n)) Tryz.func125 rfl Jq ⟨zgu,trivial⟩ ⟨zrj,trivial⟩ fun x=>by kernel_rfl
def vA:CtP TS PC:=⟨[.ptr 1 0,.d .s 17],(h29 1 9 16 2 3 4 5 6 7 8 10 11 12 13 14 15),k38,fun x=>yj (zbv x) (rBB x)⟩
theorem vB:HBp 133 vA:=ctp (T:=[(194,vz),(41,zw)]) (TP:=[(41,zX)]) (h:=.n) Tryz.func133 rfl zty ⟨w0,zu,trivial⟩ ⟨zU,trivial⟩ fun x=>by kernel_rfl
def xf:CtP TS PC:=⟨[.ptr 1 0,dI 17,dI 18],(h29 1 9 16 2 3 4 5 6 7 8 10 11 12 13 14 15),k33,fun x=>zJ (zbv x) (rBB x).1 (rBB x).2⟩
theorem xl:HBp 130 xf:=ctp (T:=[(193,yu),(41,zw),(42,zR)]) (TP:=[(41,zX)]) (h:=.s .n (.s .n (.s .n (.s (.j ⟨[(0,.ptr 1 0),(7,dI 17)],(h29 1 2 3 4 5 6 7 8 9 10 11 12 13 14 15 16),k39,[]⟩ true .n) .n)))) Tryz.func130 rfl ztw ⟨yv,zu,zK,trivial⟩ ⟨zU,trivial⟩ fun x=>by kernel_rfl
def Jc(RK:Nat):CtP TS PC:=⟨[.ptr 1 0,dI 17],((h29 1 9 16 2 3 4 5 6 7 8 10 11 12 13 14 15)++h5),k40,fun x=>Y3 RK (zbv x) (rBB x)⟩
def jG(RK:Nat):CtP TS PC:=⟨[.ptr 1 0,dI 17],((h29 1 9 16 2 3 4 5 6 7 8 10 11 12 13 14 15)++h5),k40,fun x=>wh RK (zbv x) (rBB x)⟩
theorem kJ:∀RK,(Jc RK).OK PGq (pvT PT PC) 150∧(jG RK).OK PGq (pvT PT PC) 40
 |0=>⟨(fun x r h=>nomatch (show(none:Option _)=some r from h)),(fun x r h=>nomatch (show(none:Option _)=some r from h))⟩
 |RK+1=>⟨(ctp (c:=Jc (RK+1)) (T:=[(194,vz),(40,wj KK),(133,yS),(193,yu),(130,z8),(207,yl)]) (TP:=[(40,jG RK),(133,vA),(130,xf),(207,xR)]) (h:=.s .n (.s (.s (.s (.j ⟨[(0,.ptr 1 0),(1,dI 16),(4,.ptr 1000004 0),(10,.d .b 21)],((h29 20 1 2 3 4 5 6 7 8 9 10 11 12 13 14 15)++h5++(h25 1000004 17 17 18 18 19)),k41,[i6,.b]⟩ false .n) (.s .n (.s (.j ⟨[(0,.ptr 1 0),(1,dI 16),(4,.ptr 1000004 0),(31,.d .b 21)],((h29 20 1 2 3 4 5 6 7 8 9 10 11 12 13 14 15)++h5++(h25 1000004 17 17 18 18 19)),k41,[i6,.b]⟩ false .n) (.s .n (.s (.j ⟨[(0,.ptr 1 0),(4,.ptr 1000004 0),(42,.d .b 20)],((h29 19 1 2 3 4 5 6 7 8 9 10 11 12 13 14 15)++h5++(h25 1000004 16 16 17 17 18)),k42,[i6,.b]⟩ false .n) .n))))) .n) .n)) Tryz.func150 rfl K6 ⟨w0,(qp KK),yH,yv,z6,yc,trivial⟩ ⟨⟨KP,(kJ RK).2⟩,vB,xl,xM,trivial⟩ fun x=>by kernel_rfl).2,(ctp (c:=jG (RK+1)) (T:=[(150,q7 KK),(151,qo),(124,qD),(40,wj KK)]) (TP:=[(150,Jc RK),(40,jG RK)]) (h:=.s .n (.s .n (.s (.lr ⟨[(0,.ptr 1 0),(1,dI 16),(4,.ptr 1000004 0),(5,.ptr 1000005 0),(6,dI 21)],((h29 20 1 2 3 4 5 6 7 8 9 10 11 12 13 14 15)++h5++(h43 1000004 17 17 18 18 19 1000005 22 23 24 25 26)),k41,k12⟩ [] [] [] 999999999 (fun x K v=>HX (wh RK) (BB.mk x.1 0 x.2.2.2.1 x.2.2.2.2.1 (p5Q x).1 (p6Q x).1 (p7Q x).1 (p8Q x).1 (p9Q x).1 x.2.1 (zk3 x).1 (zk4 x).1 (zk5 x).1 (zph x).1 (zpi x).1 (ztu x).1 x.2.2.1) (zIy x).1 (zIz x).1 (zOl x).1 (zOm x) K v) (.s (.s .n (.s (.s .n (.s (.l ⟨[(0,.ptr 1 0),(1,dI 17),(4,.ptr 1000004 0),(5,.ptr 1000005 0),(6,dI 18),(7,.ptr 1000007 0),(16,.d (.l (.st 12)) 19),(17,dI 20),(18,dI 29)],((h29 1 2 3 4 5 6 7 8 9 10 11 12 13 14 15 16)++h5++(h44 21 22 23 24 25 26 27 28 30 31 32)),k45,k3⟩ [(0,.ptr 1 0),(1,dI 17),(4,.ptr 1000004 0),(5,.ptr 1000005 0),(6,dI 18),(7,.ptr 1000007 0)] ((h29 1 2 3 4 5 6 7 8 9 10 11 12 13 14 15 16)++h5++(h44 21 22 23 24 25 26 27 28 29 30 31)) [.s,i6,i6] 2 (fun x K v=>HW (BB.mk x.1 0 x.2.2.2.2.1 (p5Q x).1 (p6Q x).1 (p7Q x).1 (p8Q x).1 (p9Q x).1 (zk3 x).1 x.2.2.1 (zk4 x).1 (zk5 x).1 (zph x).1 (zpi x).1 (ztu x).1 (zIy x).1 x.2.2.2.1) x.2.1 (zIz x).1 (zOl x).1 (zOm x).1 (zTi x).1 (p21Q x).1 (p22Q x).1 (p23Q x).1 (p24Q x).1 (p25Q x).1 (p26Q x).1 (p27Q x).1 (p28Q x) K v) (.s .n (.s .n (.s (.j ⟨[(0,.ptr 1 0),(1,dI 17),(4,.ptr 1000004 0),(5,.ptr 1000005 0),(6,dI 18),(7,.ptr 1000007 0),(16,.d (.l (.st 12)) 19),(17,dI 20),(18,dI 21)],((h29 1 2 3 4 5 6 7 8 9 10 11 12 13 14 15 16)++h5++(h44 22 23 24 25 26 27 28 29 30 31 32)),k46,[.s,i6,i6]⟩ false .n) .n)))) .n)) (.s (.s (.j ⟨[(0,.ptr 1 0),(1,dI 17),(4,.ptr 1000004 0),(5,.ptr 1000005 0),(7,.ptr 1000007 0),(51,.d .b 29)],((h29 1 2 3 4 5 6 7 8 9 10 11 12 13 14 15 16)++h5++(h44 18 19 20 21 22 23 24 25 26 27 28)),k47,[.b]⟩ false .n) .n) .n))) .n)) .n))) Tryz.func40 rfl KP ⟨(zjy KK),qZ,kI,(qp KK),trivial⟩ ⟨⟨K6,(kJ RK).1⟩,⟨KP,(kJ RK).2⟩,trivial⟩ fun x=>by kernel_rfl).2⟩
theorem Zd(RK:Nat):zd PGq 40∧(jG RK).OK PGq (pvT PT PC) 40:=⟨KP,(kJ RK).2⟩
def zaj:CtP TS PC:=⟨[.ptr 1 0,.d .b 17,dI 18],(h29 1 9 16 2 3 4 5 6 7 8 10 11 12 13 14 15),k32,fun x=>Q9 (zbv x) (rBB x).1 (rBB x).2⟩
theorem zdi:HBp 127 zaj:=ctp (T:=[(124,qD),(41,zw)]) (TP:=[(41,zX)]) (h:=.n) Tryz.func127 rfl zI8 ⟨kI,zu,trivial⟩ ⟨zU,trivial⟩ fun x=>by kernel_rfl
def zdj:CtP TS PC:=⟨[.ptr 1 0],((h29 1 9 16 2 3 4 5 6 7 8 10 11 12 13 14 15)++h5),k30,fun x=>zgl (xb x)⟩
theorem znx:HBp 122 zdj:=ctp (T:=[(125,zre),(133,yS),(40,wj KK),(43,qC KK),(127,Vh)]) (TP:=[(125,zt9),(133,vA),(40,jG KK),(127,zaj)]) (h:=.n) Tryz.func122 rfl zI9 ⟨zt5,yH,(qp KK),(Hc KK),KD,trivial⟩ ⟨zB1,vB,(Zd KK),zdi,trivial⟩ fun x=>by kernel_rfl
def Ze:CtP TS PC:=⟨[.ptr 1 0,.om 10],((h29 1 9 16 2 3 4 5 6 7 8 10 11 12 13 14 15)++h5),k30,fun x=>zcf (xb x)⟩
theorem zj2:HBp 191 Ze:=ctp (T:=[(190,zP),(41,zw),(42,zR),(207,yl)]) (TP:=[(41,zX),(207,xR)]) (h:=.n) Tryz.func191 rfl Ao ⟨zL,zu,zK,yc,trivial⟩ ⟨zU,xM,trivial⟩ fun x=>by kernel_rfl
def zg5:CtP TS PC:=⟨[.ptr 1 0,.ci .i64 1],((h29 1 9 16 2 3 4 5 6 7 8 10 11 12 13 14 15)++h5),k30,fun x=>zmz (xb x)⟩
theorem zrk:HBp 125 zg5:=zOo (cd:=cdO) (nb:=nbT) (T:=[(191,Vi)]) (TP:=[(191,Ze)]) (h:=.s .n (.s (.j ⟨[(0,.ptr 1 0),(1,dI 16)],((h48 1 2 7000001 3 4 5 6 7 8 9 10 11 12 13 14 15)++h5++(h36 7000001 17)),k37,[.l (.m (.s) (.b))]⟩ false .n) .n)) Tryz.func125 rfl Jq ⟨Y6,trivial⟩ ⟨zj2,trivial⟩ fun x=>by kernel_rfl
def Zf:CtP TS PC:=⟨[.ptr 1 0,.mp 15],((h49 1 17)++h5),k50,fun x=>zcg (zbv x) (rBB x)⟩
theorem zj3:HBp 191 Zf:=ctp (T:=[(190,zP),(41,zw),(42,zR),(207,yl)]) (TP:=[(41,zX),(207,xR)]) (h:=.n) Tryz.func191 rfl Ao ⟨zL,zu,zK,yc,trivial⟩ ⟨zU,xM,trivial⟩ fun x=>by kernel_rfl
def Vp:CtP TS PC:=⟨[.ptr 1 0,dI 17],(h29 1 9 16 2 3 4 5 6 7 8 10 11 12 13 14 15),k40,fun x=>A1 (zbv x) (rBB x)⟩
theorem Zg:HBp 192 Vp:=ctp (T:=[(194,vz),(130,z8)]) (TP:=[(130,xf)]) (h:=.n) Tryz.func192 rfl zJa ⟨w0,z6,trivial⟩ ⟨xl,trivial⟩ fun x=>by kernel_rfl
def zg6:CtP TS PC:=⟨[.ptr 1 0],((h29 1 9 16 2 3 4 5 6 7 8 10 11 12 13 14 15)++h5),k30,fun x=>zm0 (xb x)⟩
theorem zrl:HBp 123 zg6:=ctp (T:=[(125,zc4),(190,zP),(41,zw),(191,Vj),(192,Hg),(133,yS)]) (TP:=[(125,zg5),(41,zX),(191,Zf),(192,Vp),(133,vA)]) (h:=.s .n (.s .n (.s (.s (.lr ⟨[(0,.ptr 1 0),(2,.ptr 1000002 0),(3,.mp 1000007)],((h48 18 1 103000500 2 3 4 5 6 7 8 9 10 11 12 13 14)++h5++h51),k52,[i6,.m (.s) (.b),.l (.st 2)]⟩ [(0,.ptr 1 0),(2,.ptr 1000002 0)] ((h48 18 1 103000500 2 3 4 5 6 7 8 9 10 11 12 13 14)++h5++h53) [i6,.l (.st 2)] 0 (fun x K v=>JS (BB.mk x.1 0 x.2.2.2.1 x.2.2.2.2.1 (p5Q x).1 (p6Q x).1 (p7Q x).1 (p8Q x).1 (p9Q x).1 x.2.1 (zk3 x).1 [] (zk4 x).1 (zk5 x).1 (zph x).1 (zpi x).1 x.2.2.1) (ztu x).1 (zIy x).1 (zIz x) K v) .n) .n) .n))) Tryz.func123 rfl zJb ⟨zgv,zL,zu,Y7,Jb,yH,trivial⟩ ⟨zrk,zU,zj3,Zg,vB,trivial⟩ fun x=>by kernel_rfl
def Zh:CtP TS PC:=⟨[.ptr 1 0,.om 11],((h29 1 9 16 2 3 4 5 6 7 8 10 11 12 13 14 15)++h5),k30,fun x=>zch (xb x)⟩
theorem zj4:HBp 191 Zh:=ctp (T:=[(190,zP),(41,zw),(42,zR),(207,yl)]) (TP:=[(41,zX),(207,xR)]) (h:=.n) Tryz.func191 rfl Ao ⟨zL,zu,zK,yc,trivial⟩ ⟨zU,xM,trivial⟩ fun x=>by kernel_rfl
def zg7:CtP TS PC:=⟨[.ptr 1 0,.ci .i64 2],((h29 1 9 16 2 3 4 5 6 7 8 10 11 12 13 14 15)++h5),k30,fun x=>zci (xb x)⟩
theorem zrm:HBp 125 zg7:=zOo (cd:=cdO) (nb:=nbT) (T:=[(191,Vk)]) (TP:=[(191,Zh)]) (h:=.s .n (.s (.j ⟨[(0,.ptr 1 0),(1,dI 16)],((h54 1 2 7000001 3 4 5 6 7 8 9 10 11 12)++h5++(h36 7000001 17)),k37,[.l (.m (.s) (.b))]⟩ false .n) .n)) Tryz.func125 rfl Jq ⟨Y8,trivial⟩ ⟨zj4,trivial⟩ fun x=>by kernel_rfl
def zdk:CtP TS PC:=⟨[.ptr 1 0],(h29 1 9 16 2 3 4 5 6 7 8 10 11 12 13 14 15),k30,fun x=>A2 (xb x)⟩
theorem zny:HBp 126 zdk:=ctp (T:=[(130,z8),(193,yu)]) (TP:=[(130,xf)]) (h:=.s .n (.s .n (.s (.lr ⟨[(0,.ptr 1 0),(3,.row 2 7000001)],((h29 16 1 2 3 4 5 6 7 8 9 10 11 12 13 14 15)++[(7000001,.row 156 (.st 4) 17 false)]),k55,[i6,.l (.st 4)]⟩ [] [] [] 999999999 (fun x K v=>HY (BB.mk x.1 0 x.2.2.2.1 x.2.2.2.2.1 (p5Q x).1 (p6Q x).1 (p7Q x).1 (p8Q x).1 (p9Q x).1 x.2.1 (zk3 x).1 (zk4 x).1 (zk5 x).1 (zph x).1 (zpi x).1 (ztu x) x.2.2.1) K v) .n) .n))) Tryz.func126 rfl zJc ⟨z6,yv,trivial⟩ ⟨xl,trivial⟩ fun x=>by kernel_rfl
def Zi:CtP TS PC:=⟨[.ptr 1 0,.om 12],((h29 1 9 16 2 3 4 5 6 7 8 10 11 12 13 14 15)++h5),k30,fun x=>zcj (xb x)⟩
theorem zj5:HBp 191 Zi:=ctp (T:=[(190,zP),(41,zw),(42,zR),(207,yl)]) (TP:=[(41,zX),(207,xR)]) (h:=.n) Tryz.func191 rfl Ao ⟨zL,zu,zK,yc,trivial⟩ ⟨zU,xM,trivial⟩ fun x=>by kernel_rfl
def zg8:CtP TS PC:=⟨[.ptr 1 0,.ci .i64 3],((h29 1 9 16 2 3 4 5 6 7 8 10 11 12 13 14 15)++h5),k30,fun x=>zm1 (xb x)⟩
theorem zrn:HBp 125 zg8:=zOo (cd:=cdO) (nb:=nbT) (T:=[(191,Vl)]) (TP:=[(191,Zi)]) (h:=.s .n (.s (.j ⟨[(0,.ptr 1 0),(1,dI 16)],((h56 1 2 7000001 3 4 5 6 7 8 9 10 11 12 13 14 15)++h5++(h36 7000001 17)),k37,[.l (.m (.s) (.b))]⟩ false .n) .n)) Tryz.func125 rfl Jq ⟨Y9,trivial⟩ ⟨zj5,trivial⟩ fun x=>by kernel_rfl
def znz:CtP TS PC:=⟨[.ptr 1 0],((h29 1 9 16 2 3 4 5 6 7 8 10 11 12 13 14 15)++h5),k30,fun x=>zjo (xb x)⟩
theorem zw1:HBp 195 znz:=ctp (T:=[(207,yl),(190,zP)]) (TP:=[(207,xR)]) (h:=.s .n (.s .n (.s (.s (.lr ⟨[(0,.ptr 1 0),(3,.row 1 1000008)],((h29 16 1 2 3 4 5 6 7 8 9 10 11 12 13 14 15)++h5++(h57 1000008 17)),k55,[i6,.l (.s)]⟩ [(3,.row 1 1000008)] ((h29 16 1 2 3 4 5 6 7 8 9 10 11 12 13 14 15)++h5++(h57 1000008 17)) [i6,.l (.s)] 0 (fun x K v=>Va (BB.mk x.1 0 x.2.2.2.1 x.2.2.2.2.1 (p5Q x).1 (p6Q x).1 (p7Q x).1 (p8Q x).1 (p9Q x).1 x.2.1 (zk3 x).1 (zk4 x).1 (zk5 x).1 (zph x).1 (zpi x).1 (ztu x) x.2.2.1) K v) .n) .n) .n))) Tryz.func195 rfl zJd ⟨yc,zL,trivial⟩ ⟨xM,trivial⟩ fun x=>by kernel_rfl
def Jd:CtP TS PC:=⟨[.ptr 1 0,.d .s 17],((h29 1 9 16 2 3 4 5 6 7 8 10 11 12 13 14 15)++h5),k38,fun x=>uX (zbv x) (rBB x)⟩
theorem JX:HBp 129 Jd:=ctp (T:=[(42,zR),(197,zde),(41,zw)]) (TP:=[(41,zX)]) (h:=.s .n (.s .n (.s (.j ⟨[(0,.ptr 1 0),(5,dI 17)],((h29 1 2 3 4 5 6 7 8 9 10 11 12 13 14 15 16)++h5),k39,[]⟩ true .n) .n))) Tryz.func129 rfl zJe ⟨zK,zai,zu,trivial⟩ ⟨zU,trivial⟩ fun x=>by kernel_rfl
def zua:CtP TS PC:=⟨[.ptr 1 0],((h29 1 9 16 2 3 4 5 6 7 8 10 11 12 13 14 15)++h5),k30,fun x=>zBd (xb x)⟩
theorem zB2:HBp 196 zua:=ctp (T:=[(42,zR),(197,zde),(41,zw),(129,qq)]) (TP:=[(41,zX),(129,Jd)]) (h:=.s .n (.s .n (.s (.lr ⟨[(0,.ptr 1 0),(3,dI 17)],((h29 16 1 2 3 4 5 6 7 8 9 10 11 12 13 14 15)++h5),k55,[i6,i6]⟩ [] [] [] 999999999 (fun x K v=>Yx (BB.mk x.1 0 x.2.2.2.1 x.2.2.2.2.1 (p5Q x).1 (p6Q x).1 (p7Q x).1 (p8Q x).1 (p9Q x).1 x.2.1 (zk3 x).1 (zk4 x).1 (zk5 x).1 (zph x).1 (zpi x).1 (ztu x) x.2.2.1) K v) (.s (.s .n (.s (.s (.j ⟨[(0,.ptr 1 0),(3,dI 17),(4,dI 18),(24,.d .b 19)],((h29 1 2 3 4 5 6 7 8 9 10 11 12 13 14 15 16)++h5),k58,[.b]⟩ false .n) .n) (.s (.j ⟨[(0,.ptr 1 0),(3,dI 17)],((h29 1 2 3 4 5 6 7 8 9 10 11 12 13 14 15 16)++h5),k39,[]⟩ true .n) .n))) .n)) .n))) Tryz.func196 rfl zJf ⟨zK,zai,zu,qs,trivial⟩ ⟨zU,JX,trivial⟩ fun x=>by kernel_rfl
def zn0:CtP TS PC:=⟨[.ptr 1 0],((h29 1 9 16 2 3 4 5 6 7 8 10 11 12 13 14 15)++h5),k30,fun x=>zjp (xb x)⟩
theorem zw2:HBp 128 zn0:=ctp (T:=[(125,zdb),(194,vz),(195,zjz),(130,z8),(133,yS),(196,zrh),(129,qq),(40,wj KK),(43,qC KK),(127,Vh)]) (TP:=[(125,zg8),(195,znz),(130,xf),(133,vA),(196,zua),(129,Jd),(40,jG KK),(127,zaj)]) (h:=.s .n (.s (.j ⟨[(0,.ptr 1 0),(2,.ptr 1000002 0)],((h56 22 1 103000400 2 3 4 5 6 7 8 9 10 11 12 13 14)++h5++(h59 23 17 18 18 18 19 18 18 18 20 20 21 18 18 18 18 18 18 18)),k60,[i6,.l (.s)]⟩ true .n) (.s (.j ⟨[(0,.ptr 1 0),(2,.ptr 1000002 0)],((h56 22 1 103000400 2 3 4 5 6 7 8 9 10 11 12 13 14)++h5++(h59 17 23 18 18 18 19 18 18 18 20 20 21 18 18 18 18 18 18 18)),k60,[i6,.l (.s)]⟩ true .n) (.s (.j ⟨[(0,.ptr 1 0),(2,.ptr 1000002 0)],((h56 23 1 103000400 2 3 4 5 6 7 8 9 10 11 12 13 14)++h5++(h59 17 18 24 19 19 20 19 19 19 21 21 22 19 19 19 19 19 19 19)),k61,[i6,i6]⟩ true .n) (.s (.j ⟨[(0,.ptr 1 0),(2,.ptr 1000002 0)],((h56 24 1 103000400 2 3 4 5 6 7 8 9 10 11 12 13 14)++h5++(h59 17 18 19 25 20 21 20 20 20 22 22 23 20 20 20 20 20 20 20)),k62,[i6,i6]⟩ true .n) (.s (.j ⟨[(0,.ptr 1 0),(2,.ptr 1000002 0)],((h56 25 1 103000400 2 3 4 5 6 7 8 9 10 11 12 13 14)++h5++(h59 17 18 19 20 26 21 22 22 22 23 23 24 22 22 22 22 22 22 22)),k63,[i6,i6]⟩ true .n) (.s .n (.s .n (.s (.j ⟨[(0,.ptr 1 0),(2,.ptr 1000002 0)],((h56 23 1 103000400 2 3 4 5 6 7 8 9 10 11 12 13 14)++h5++(h59 17 18 19 20 21 22 24 25 26 27 28 29 30 31 32 33 34 35 36)),k64,k65⟩ true .n) .n))))))))) Tryz.func128 rfl zJg ⟨zg0,w0,znt,z6,yH,zt7,qs,(qp KK),(Hc KK),KD,trivial⟩ ⟨zrn,zw1,xl,vB,zB2,JX,(Zd KK),zdi,trivial⟩ fun x=>by kernel_rfl
def Zj:CtP TS PC:=⟨[.ptr 1 0,.om 13],((h29 1 9 16 2 3 4 5 6 7 8 10 11 12 13 14 15)++h5),k30,fun x=>zck (xb x)⟩
theorem zj6:HBp 191 Zj:=ctp (T:=[(190,zP),(41,zw),(42,zR),(207,yl)]) (TP:=[(41,zX),(207,xR)]) (h:=.n) Tryz.func191 rfl Ao ⟨zL,zu,zK,yc,trivial⟩ ⟨zU,xM,trivial⟩ fun x=>by kernel_rfl
def zg9:CtP TS PC:=⟨[.ptr 1 0,.ci .i64 4],((h29 1 9 16 2 3 4 5 6 7 8 10 11 12 13 14 15)++h5),k30,fun x=>zcl (xb x)⟩
theorem zro:HBp 125 zg9:=zOo (cd:=cdO) (nb:=nbT) (T:=[(191,Vm)]) (TP:=[(191,Zj)]) (h:=.s .n (.s (.j ⟨[(0,.ptr 1 0),(1,dI 16)],((h66 1 2 7000001 3 4 5 6 7 8 9 10 11 12 13 14)++h5++(h36 7000001 17)),k37,[.l (.m (.s) (.b))]⟩ false .n) .n)) Tryz.func125 rfl Jq ⟨Za,trivial⟩ ⟨zj6,trivial⟩ fun x=>by kernel_rfl
def Zk:CtP TS PC:=⟨[.ptr 1 0,.om 14],((h29 1 9 16 2 3 4 5 6 7 8 10 11 12 13 14 15)++h5),k30,fun x=>zcm (xb x)⟩
theorem zj7:HBp 191 Zk:=ctp (T:=[(190,zP),(41,zw),(42,zR),(207,yl)]) (TP:=[(41,zX),(207,xR)]) (h:=.n) Tryz.func191 rfl Ao ⟨zL,zu,zK,yc,trivial⟩ ⟨zU,xM,trivial⟩ fun x=>by kernel_rfl
def zha:CtP TS PC:=⟨[.ptr 1 0,.ci .i64 5],((h29 1 9 16 2 3 4 5 6 7 8 10 11 12 13 14 15)++h5),k30,fun x=>zm2 (xb x)⟩
theorem zrp:HBp 125 zha:=zOo (cd:=cdO) (nb:=nbT) (T:=[(191,Vn)]) (TP:=[(191,Zk)]) (h:=.s .n (.s (.j ⟨[(0,.ptr 1 0),(1,dI 16)],((h67 1 2 7000001 3 4 5 6 7 8 9 10 11 12 13 14 15)++h5++(h36 7000001 17)),k37,[.l (.m (.s) (.b))]⟩ false .n) .n)) Tryz.func125 rfl Jq ⟨Zb,trivial⟩ ⟨zj7,trivial⟩ fun x=>by kernel_rfl
def zhb:CtP TS PC:=⟨[.ptr 1 0],(h29 1 9 16 2 3 4 5 6 7 8 10 11 12 13 14 15),k30,fun x=>Wt (xb x)⟩
theorem zrq:HBp 198 zhb:=ctp (T:=[(130,z8)]) (TP:=[(130,xf)]) (h:=.n) Tryz.func198 rfl zJh ⟨z6,trivial⟩ ⟨xl,trivial⟩ fun x=>by kernel_rfl
def zn1:CtP TS PC:=⟨[.ptr 1 0],((h29 1 9 16 2 3 4 5 6 7 8 10 11 12 13 14 15)++h5),k30,fun x=>zjq (xb x)⟩
theorem zw3:HBp 131 zn1:=ctp (T:=[(125,zdg),(198,zdh),(133,yS),(130,z8),(193,yu),(41,zw)]) (TP:=[(125,zha),(198,zhb),(133,vA),(130,xf),(41,zX)]) (h:=.s .n (.s .n (.s .n (.s .n (.s .n (.s (.s (.lr ⟨[(0,.ptr 1 0),(2,.ptr 1000002 0)],((h67 21 1 103000400 2 3 4 5 6 7 8 9 10 11 12 13 14)++h5++h68),k69,[i6,.l (.st 9)]⟩ [(0,.ptr 1 0),(2,.ptr 1000002 0)] ((h67 21 1 103000400 2 3 4 5 6 7 8 9 10 11 12 13 14)++h5++h68) [i6,.l (.st 9)] 0 (fun x K v=>Vb (BB.mk x.1 0 x.2.2.2.1 x.2.2.2.2.1 (p5Q x).1 (p6Q x).1 (p7Q x).1 (p8Q x).1 (p9Q x).1 x.2.1 (zk3 x).1 (zk4 x).1 (zk5 x).1 (zph x).1 (zpi x).1 [] x.2.2.1) (ztu x).1 (zIy x).1 (zIz x).1 (zOl x).1 (zOm x).1 (zTi x) K v) .n) .n) .n)))))) Tryz.func131 rfl zJi ⟨zg2,zg3,yH,z6,yv,zu,trivial⟩ ⟨zrp,zrq,vB,xl,zU,trivial⟩ fun x=>by kernel_rfl
def zub:CtP TS PC:=⟨[.ptr 1 0],(h29 1 9 16 2 3 4 5 6 7 8 10 11 12 13 14 15),k30,fun x=>zq1 (xb x)⟩
theorem zB3:HBp 132 zub:=ctp (T:=[(124,qD),(41,zw),(193,yu),(192,Hg),(130,z8),(194,vz),(133,yS)]) (TP:=[(41,zX),(192,Vp),(130,xf),(133,vA)]) (h:=.s (.s .n (.s (.lr ⟨[(0,.ptr 1 0),(2,.d .b 17)],(h29 15 1 2 3 4 5 6 7 8 16 9 10 11 12 13 14),k70,[i6,.l (.st 9),.b]⟩ [(0,.ptr 1 0)] (h29 15 1 2 3 4 5 6 7 8 16 9 10 11 12 13 14) [i6,.l (.st 9)] 0 (fun x K v=>Yy (BB.mk x.1 0 x.2.2.2.1 x.2.2.2.2.1 (p5Q x).1 (p6Q x).1 (p7Q x).1 (p8Q x).1 [] x.2.1 (p9Q x).1 (zk3 x).1 (zk4 x).1 (zk5 x).1 (zph x).1 (zpi x) x.2.2.1) K v) (.s .n (.s (.s (.s (.j ⟨[(0,.ptr 1 0)],(h29 1 2 3 4 5 6 7 8 9 10 11 12 13 14 15 16),k71,[]⟩ true .n) .n) .n) .n))) .n)) .n) Tryz.func132 rfl zJj ⟨kI,zu,yv,Jb,z6,w0,yH,trivial⟩ ⟨zU,Zg,xl,vB,trivial⟩ fun x=>by kernel_rfl
def zdl:CtP TS PC:=⟨[.ptr 1 0],((h29 1 9 16 2 3 4 5 6 7 8 10 11 12 13 14 15)++h5),k30,fun x=>zts (xb x)⟩
theorem zw4:HBp 36 zdl:=ctp (T:=[(42,zR),(121,zjx),(122,YC),(123,zc5),(124,qD),(125,zc6),(126,YD),(94,zag),(127,Vh),(128,zj0),(125,zdf),(129,qq),(130,z8),(131,zj1),(41,zw),(132,zri),(133,yS)]) (TP:=[(121,znw),(122,zdj),(123,zg6),(125,zg7),(126,zdk),(127,zaj),(128,zn0),(125,zg9),(129,Jd),(130,xf),(131,zn1),(41,zX),(132,zub),(133,vA),(134,Vo)]) (h:=.s (.lr ⟨[(0,.ptr 1 0)],((h72 1 2 7000001 7000002 7000003 7000004 7000005 7000006 3 4 5 6 7 8 9 10)++h5++(h73 7000001 11 7000002 12 7000003 13 7000004 14 7000005 15 7000006 16)),[.l (.st 11)],k74⟩ [] ((h72 1 2 7000001 7000002 7000003 7000004 7000005 7000006 3 4 5 6 7 8 9 10)++h5++(h73 7000001 11 7000002 12 7000003 13 7000004 14 7000005 15 7000006 16)) k74 0 (fun x K v=>yp (BB.mk x 0 [] [] [] [] [] [] [] 0 [] [] [] [] [] [] false) K v) .n) .n) Tryz.func36 rfl zQ9 ⟨zK,znp,zc3,zgw,kI,zgx,zc7,zda,KD,znu,zg1,qs,z6,znv,zu,zt8,yH,trivial⟩ ⟨zw0,znx,zrl,zrm,zny,zdi,zw2,zro,JX,xl,zw3,zU,zB3,vB,Zc,trivial⟩ fun x=>by kernel_rfl
def Zl:Ct TS:=⟨[.ptr 1 0,.fn 36 [.ptr 1 0] []],((h29 1 9 16 2 3 4 5 6 7 8 10 11 12 13 14 15)++h5),k30,.tup [dI 17,dI 18],((h72 19 20 7001001 7001002 7001003 7001004 7001005 7001006 21 22 23 24 25 26 27 28)++h5++(h73 7001001 29 7001002 30 7001003 31 7001004 32 7001005 33 7001006 34)),[i6,i6,i6,i6,.b,.l (.st 1),.l (.st 3),.l (.st 5),.l (.st 7),.l (.st 8),.l (.st 10),.l (.st 9),.l (.m (.s) (.b)),.l (.m (.s) (.b)),.l (.m (.s) (.b)),.l (.m (.s) (.b)),.l (.m (.s) (.b)),.l (.m (.s) (.b))],true,fun x=>Y4 (xb x)⟩
theorem zj8:Zl.OK PGq 35:=fun x r h=>by
 obtain⟨q,h1,h2⟩:=bind_some h;cases h2;exact kmp (by kernel_rfl) (zmw (F:=hV (uT KE.hin (yK (S:=TS) KE.ci x))) (F':=hV (uT KE.hout (yK (S:=TS) KE.ci x++yK (S:=TS) KE.co q))) (a:=.ptr 1 0 0) (pv:=.ptr 1 0 0) (kmp (by kernel_rfl) (zB0.2 x q h1)))
def WE:Ct TS:=⟨[.ptr 1 0,.fn 36 [.ptr 1 0] []],((h29 1 9 16 2 3 4 5 6 7 8 10 11 12 13 14 15)++h5),k30,.tup [dI 17,dI 18],([(1,.rw 0),(2,.rw 0),(3,.rw 0),(4,.rw 0),(5,.rw 0),(6,.rw 0),(7,.rw 0),(8,.rw 0),(9,.rw 0),(10,.rw 0),(11,.rw 0),(12,.rw 0),(13,.rw 0),(14,.rw 0)]++h5),[i6,i6],true,fun x=>Wu (xb x)⟩
theorem zfa:WE.OK PGq 35:=fun x r h=>kmp (by kernel_rfl) (zjk (F:=hV (uT zdl.hin (yK (S:=TS) zdl.ci x))) (a:=.ptr 1 0 0) (pv:=.ptr 1 0 0) (x:=r.1) (y:=r.2) (kmp (by kernel_rfl) (zw4.2 x r h)))
def zB4:Ct TS:=⟨[.d .s 0],h5,[.s],.tup [.ag [.row 6 7000002,.row 3 7000003,.row 3 7000004,.row 20 7000005,.row 4 7000006,.row 6 7000007,.d (.l (.st 9)) 3,dI 4],dI 1,dI 2],(h75 7000001 7000002 7000003 7000004 7000005 7000006 7000007 3 4 5 6 7 8 9 10),k76,false,fun x=>Vc x⟩
theorem zG6:HBc 10 zB4:=ctg (cd:=cdT) (nb:=ZB) (rc:=[(2,7000001,0)]) (T:=[(21,zra),(35,Zl),(35,WE)]) (h:=.n) Tryz.func10 rfl hbv10 ⟨zt1,⟨zG3,zj8⟩,⟨zG3,zfa⟩,trivial⟩ fun x=>by kernel_rfl
def zn2:Ct TS:=⟨[.d (.st 1) 0],[],[.st 1],.d .s 1,[],[.s],false,fun x=>zm3 x⟩
theorem zw5:HBc 80 zn2:=ctk (T:=[]) (h:=.n) Tryz.func80 rfl hbv80 trivial fun x=>by kernel_rfl
def Je:Ct TS:=⟨[.d (.l (.s)) 0,.d .b 1],h5,[.l (.s),.b],.d .b 2,h5,[.b],false,u2Q qd⟩
theorem Ar:HBc 179 Je:=ctk (T:=[(16,zgs)]) (h:=.s .n (.s .n (.s (.s .n (.s (.lr ⟨[(1,.d .b 0),(5,.mp 1000008),(9,.d (.l (.s)) 1),(10,dI 2),(11,dI 3)],[(900000000,.rw 1),(900000001,.rw 2),(900000002,.rw 3),(900000003,.rw 4),(1000008,.map (.s) (.b) 4)],[.b,.l (.s),i6],[i6,.m (.s) (.b)]⟩ [] h5 [] 0 (u3Q uY) (.s .n (.s .n (.s (.s (.s .n (.s (.s (.j ⟨[(1,.d .b 0),(5,.mp 1000008),(7,.d .s 1),(9,.d (.l (.s)) 2),(10,dI 3),(11,dI 4),(25,.d .b 6)],[(900000000,.rw 1),(900000001,.rw 2),(900000002,.rw 3),(900000003,.rw 4),(1000008,.map (.s) (.b) 5)],[.b,.s,.l (.s),i6,i6,.m (.s) (.b)],[.b]⟩ false .n) .n) .n)) .n) .n)))) .n)) .n))) Tryz.func179 rfl zRa ⟨zcv,trivial⟩ fun x=>by kernel_rfl
def zuc:Ct TS:=⟨[.d (.l (.st 1)) 0,dI 1,.fn 80 [] []],h5,[.l (.st 1),i6],.d .b 2,h5,[.b],false,u2Q ZY⟩
theorem zB5:HBc 79 zuc:=ctk (T:=[(80,zn2),(179,Je)]) (h:=.s .n (.s .n (.s (.s .n (.s (.l ⟨[(0,.d (.l (.st 1)) 0),(1,dI 1),(2,.fn 80 [] []),(7,.row 1 7000001),(10,.d (.l (.st 1)) 0),(11,dI 2),(12,dI 3)],(h77 4),[.l (.st 1),i6,i6],[i6,.l (.s)]⟩ [(0,.d (.l (.st 1)) 0),(1,dI 1),(7,.row 1 7000001)] (h77 3) [.l (.s)] 0 (u3Q HZ) .n) .n)) .n))) Tryz.func79 rfl hbv79 ⟨zw5,Ar,trivial⟩ fun x=>by kernel_rfl
def zn3:Ct TS:=⟨[.d (.st 3) 0],[],[.st 3],.d .s 1,[],[.s],false,fun x=>zm4 x⟩
theorem zw6:HBc 82 zn3:=ctk (T:=[]) (h:=.n) Tryz.func82 rfl hbv82 trivial fun x=>by kernel_rfl
def zhc:Ct TS:=⟨[.d (.l (.st 3)) 0,dI 1,.fn 82 [] []],h5,[.l (.st 3),i6],.d .b 2,h5,[.b],false,u2Q Ks⟩
theorem zrr:HBc 81 zhc:=ctk (T:=[(82,zn3),(179,Je)]) (h:=.s .n (.s .n (.s (.s .n (.s (.l ⟨[(0,.d (.l (.st 3)) 0),(1,dI 1),(2,.fn 82 [] []),(7,.row 1 7000001),(10,.d (.l (.st 3)) 0),(11,dI 2),(12,dI 3)],(h77 4),[.l (.st 3),i6,i6],[i6,.l (.s)]⟩ [(0,.d (.l (.st 3)) 0),(1,dI 1),(7,.row 1 7000001)] (h77 3) [.l (.s)] 0 (u3Q uD) .n) .n)) .n))) Tryz.func81 rfl hbv81 ⟨zw6,Ar,trivial⟩ fun x=>by kernel_rfl
def zn4:Ct TS:=⟨[.d (.st 5) 0],[],[.st 5],.d .s 1,[],[.s],false,fun x=>zm5 x⟩
theorem zw7:HBc 84 zn4:=ctk (T:=[]) (h:=.n) Tryz.func84 rfl hbv84 trivial fun x=>by kernel_rfl
def zhd:Ct TS:=⟨[.d (.l (.st 5)) 0,dI 1,.fn 84 [] []],h5,[.l (.st 5),i6],.d .b 2,h5,[.b],false,u2Q Kt⟩
theorem zrs:HBc 83 zhd:=ctk (T:=[(84,zn4),(179,Je)]) (h:=.s .n (.s .n (.s (.s .n (.s (.l ⟨[(0,.d (.l (.st 5)) 0),(1,dI 1),(2,.fn 84 [] []),(7,.row 1 7000001),(10,.d (.l (.st 5)) 0),(11,dI 2),(12,dI 3)],(h77 4),[.l (.st 5),i6,i6],[i6,.l (.s)]⟩ [(0,.d (.l (.st 5)) 0),(1,dI 1),(7,.row 1 7000001)] (h77 3) [.l (.s)] 0 (u3Q uE) .n) .n)) .n))) Tryz.func83 rfl hbv83 ⟨zw7,Ar,trivial⟩ fun x=>by kernel_rfl
def zn5:Ct TS:=⟨[.d (.st 7) 0],[],[.st 7],.d .s 1,[],[.s],false,fun x=>zm6 x⟩
theorem zw8:HBc 86 zn5:=ctk (T:=[]) (h:=.n) Tryz.func86 rfl hbv86 trivial fun x=>by kernel_rfl
def zhe:Ct TS:=⟨[.d (.l (.st 7)) 0,dI 1,.fn 86 [] []],h5,[.l (.st 7),i6],.d .b 2,h5,[.b],false,u2Q Ku⟩
theorem zrt:HBc 85 zhe:=ctk (T:=[(86,zn5),(179,Je)]) (h:=.s .n (.s .n (.s (.s .n (.s (.l ⟨[(0,.d (.l (.st 7)) 0),(1,dI 1),(2,.fn 86 [] []),(7,.row 1 7000001),(10,.d (.l (.st 7)) 0),(11,dI 2),(12,dI 3)],(h77 4),[.l (.st 7),i6,i6],[i6,.l (.s)]⟩ [(0,.d (.l (.st 7)) 0),(1,dI 1),(7,.row 1 7000001)] (h77 3) [.l (.s)] 0 (u3Q uF) .n) .n)) .n))) Tryz.func85 rfl hbv85 ⟨zw8,Ar,trivial⟩ fun x=>by kernel_rfl
def zn6:Ct TS:=⟨[.d (.st 8) 0],[],[.st 8],.d .s 1,[],[.s],false,fun x=>zm7 x⟩
theorem zw9:HBc 88 zn6:=ctk (T:=[]) (h:=.n) Tryz.func88 rfl hbv88 trivial fun x=>by kernel_rfl
def zhf:Ct TS:=⟨[.d (.l (.st 8)) 0,dI 1,.fn 88 [] []],h5,[.l (.st 8),i6],.d .b 2,h5,[.b],false,u2Q Kv⟩
theorem zru:HBc 87 zhf:=ctk (T:=[(88,zn6),(179,Je)]) (h:=.s .n (.s .n (.s (.s .n (.s (.l ⟨[(0,.d (.l (.st 8)) 0),(1,dI 1),(2,.fn 88 [] []),(7,.row 1 7000001),(10,.d (.l (.st 8)) 0),(11,dI 2),(12,dI 3)],(h77 4),[.l (.st 8),i6,i6],[i6,.l (.s)]⟩ [(0,.d (.l (.st 8)) 0),(1,dI 1),(7,.row 1 7000001)] (h77 3) [.l (.s)] 0 (u3Q uG) .n) .n)) .n))) Tryz.func87 rfl hbv87 ⟨zw9,Ar,trivial⟩ fun x=>by kernel_rfl
def zn7:Ct TS:=⟨[.d (.st 10) 0],[],[.st 10],.d .s 1,[],[.s],false,fun x=>zm8 x⟩
theorem zxa:HBc 90 zn7:=ctk (T:=[]) (h:=.n) Tryz.func90 rfl hbv90 trivial fun x=>by kernel_rfl
def zhg:Ct TS:=⟨[.d (.l (.st 10)) 0,dI 1,.fn 90 [] []],h5,[.l (.st 10),i6],.d .b 2,h5,[.b],false,u2Q Kw⟩
theorem zrv:HBc 89 zhg:=ctk (T:=[(90,zn7),(179,Je)]) (h:=.s .n (.s .n (.s (.s .n (.s (.l ⟨[(0,.d (.l (.st 10)) 0),(1,dI 1),(2,.fn 90 [] []),(7,.row 1 7000001),(10,.d (.l (.st 10)) 0),(11,dI 2),(12,dI 3)],(h77 4),[.l (.st 10),i6,i6],[i6,.l (.s)]⟩ [(0,.d (.l (.st 10)) 0),(1,dI 1),(7,.row 1 7000001)] (h77 3) [.l (.s)] 0 (u3Q uH) .n) .n)) .n))) Tryz.func89 rfl hbv89 ⟨zxa,Ar,trivial⟩ fun x=>by kernel_rfl
def zn8:Ct TS:=⟨[.d (.st 2) 0],[],[.st 2],.d .s 1,[],[.s],false,fun x=>zm9 x⟩
theorem zxb:HBc 92 zn8:=ctk (T:=[]) (h:=.n) Tryz.func92 rfl hbv92 trivial fun x=>by kernel_rfl
def zhh:Ct TS:=⟨[.d (.l (.st 2)) 0,dI 1,.fn 92 [] []],h5,[.l (.st 2),i6],.d .b 2,h5,[.b],false,u2Q Kx⟩
theorem zrw:HBc 91 zhh:=ctk (T:=[(92,zn8),(179,Je)]) (h:=.s .n (.s .n (.s (.s .n (.s (.l ⟨[(0,.d (.l (.st 2)) 0),(1,dI 1),(2,.fn 92 [] []),(7,.row 1 7000001),(10,.d (.l (.st 2)) 0),(11,dI 2),(12,dI 3)],(h77 4),[.l (.st 2),i6,i6],[i6,.l (.s)]⟩ [(0,.d (.l (.st 2)) 0),(1,dI 1),(7,.row 1 7000001)] (h77 3) [.l (.s)] 0 (u3Q uI) .n) .n)) .n))) Tryz.func91 rfl hbv91 ⟨zxb,Ar,trivial⟩ fun x=>by kernel_rfl
def zj9:Ct TS:=⟨[dI 0,dI 1,.d (.l i6) 2],[],[i6,i6,.l i6],.d .b 3,[],[.b],false,u3Q yb⟩
theorem zn9:HBc 93 zj9:=ctk (T:=[]) (h:=.s .n (.s (.s .n (.s (.lr ⟨[(0,dI 0),(1,dI 1),(9,.d (.l i6) 2),(10,dI 3),(11,dI 4)],[],[i6,i6,.l i6,i6],[i6]⟩ [] [] [] 0 (u4Q oE) (.s .n (.s .n (.s (.s (.s .n (.s (.j ⟨[(0,dI 0),(1,dI 1),(9,.d (.l i6) 2),(10,dI 3),(11,dI 4),(22,.d .b 5)],[],[i6,i6,.l i6,i6,i6],[.b]⟩ false .n) .n)) .n) .n)))) .n)) .n)) Tryz.func93 rfl hbv93 trivial fun x=>by kernel_rfl
def K8:Ct TS:=⟨[.d (.l (.s)) 0,.d (.l (.s)) 1],[],[.l (.s),.l (.s)],.d .b 2,[],[.b],false,u2Q jo⟩
theorem zdm:HBc 188 K8:=ctk (T:=[]) (h:=.s .n (.s .n (.s (.s .n (.s (.lr ⟨[(0,.d (.l (.s)) 0),(1,.d (.l (.s)) 1),(12,dI 2),(13,dI 3)],[],[.l (.s),.l (.s),i6],[i6]⟩ [] [] [] 0 (u3Q qe) .n) .n)) .n))) Tryz.func188 rfl zRb trivial fun x=>by kernel_rfl
def kK(RK:Nat):Ct TS:=⟨[.d (.l (.st 0)) 0,.d (.l (.st 0)) 1,.fn 104 [] []],[],[.l (.st 0),.l (.st 0)],.d .b 2,[],[.b],false,fun x=>vh RK x.1 x.2⟩
def oa(RK:Nat):Ct TS:=⟨[.d (.st 0) 0,.d (.st 0) 1],[],[.st 0,.st 0],.d .b 2,[],[.b],false,fun x=>vM RK x.1 x.2⟩
theorem jh:∀RK,(kK RK).OK PGq 187∧(oa RK).OK PGq 104
 |0=>⟨(fun x r h=>nomatch (show(none:Option _)=some r from h)),(fun x r h=>nomatch (show(none:Option _)=some r from h))⟩
 |RK+1=>⟨(ctk (c:=kK (RK+1)) (T:=[(104,oa RK)]) (h:=.s .n (.s .n (.s (.s .n (.s (.lr ⟨[(1,.d (.l (.st 0)) 0),(2,.fn 104 [] []),(15,.d (.l (.st 0)) 1),(16,dI 2),(17,dI 3)],[],[.l (.st 0),.l (.st 0),i6],[i6]⟩ [] [] [] 0 (fun x K v=>vt (vM RK) x.1 x.2.1 x.2.2 K v) .n) .n)) .n))) Tryz.func187 rfl zJk ⟨⟨zBq,(jh RK).2⟩,trivial⟩ fun x=>by kernel_rfl).2,(ctk (c:=oa (RK+1)) (T:=[(187,kK RK)]) (h:=.n) Tryz.func104 rfl zBq ⟨⟨zJk,(jh RK).1⟩,trivial⟩ fun x=>by kernel_rfl).2⟩
theorem zdn(RK:Nat):zd PGq 104∧(oa RK).OK PGq 104:=⟨zBq,(jh RK).2⟩
def YG:Ct TS:=⟨[.d (.st 7) 0,.d (.st 7) 1],[],[.st 7,.st 7],.d .b 2,[],[.b],false,u2Q qf⟩
theorem zdo:HBc 115 YG:=ctk (T:=[(188,K8),(104,oa KK)]) (h:=.s .n (.s (.s (.j ⟨[(2,.ptr 1000002 0),(3,.ptr 1000003 0),(27,.d .b 40)],(h78 0 1 2 3 4 5 6 7 8 9 10 11 12 13 14 15 16 17 18 19 20 21 22 23 24 25 26 27 28 29 30 31 32 33 34 35 36 37 38 39),k79,[.b]⟩ false .n) .n) (.s (.j ⟨[(2,.ptr 1000002 0),(3,.ptr 1000003 0),(5,.d .b 40)],(h78 0 1 2 3 4 5 6 7 8 9 10 11 12 13 14 15 16 17 18 19 20 21 22 23 24 25 26 27 28 29 30 31 32 33 34 35 36 37 38 39),k79,[.b]⟩ false .n) .n))) Tryz.func115 rfl zRc ⟨zdm,(zdn KK),trivial⟩ fun x=>by kernel_rfl
def zdp:Ct TS:=⟨[.d (.st 7) 0],h5,[.st 7],.d .b 1,h5,[.b],false,fun x=>oF x⟩
theorem zoa:HBc 95 zdp:=ctk (T:=[(179,Je),(93,zj9),(20,oO),(115,YG)]) (h:=.s .n (.s (.s (.j ⟨[(1,.ptr 1000001 0),(37,.d .b 20)],[(900000000,.rw 1),(900000001,.rw 2),(900000002,.rw 3),(900000003,.rw 4),(1000001,.box 94 [.d .s 0,.d (.l (.s)) 1,.d (.l (.s)) 2,dI 3,dI 4,dI 5,.d .b 6,dI 7,dI 8,dI 9,.d .s 10,.d .s 11,.d (.l (.st 0)) 12,dI 13,dI 14,dI 15,dI 16,dI 17,dI 18,dI 19])],k80,[.b]⟩ false .n) .n) (.s .n (.s .n (.s (.j ⟨[(1,.ptr 1000001 0),(3,.ptr 1000003 0),(4,.d .b 20)],[(900000000,.rw 1),(900000001,.rw 2),(900000002,.rw 3),(900000003,.rw 4),(1000001,.box 94 [.d .s 0,.d (.l (.s)) 1,.d (.l (.s)) 2,dI 3,dI 4,dI 5,.d .b 6,dI 7,dI 8,dI 9,.d .s 10,.d .s 11,.d (.l (.st 0)) 12,dI 13,dI 14,dI 15,dI 16,dI 17,dI 18,dI 19]),(1000003,.box 94 [.d .s 0,.d (.l (.s)) 1,.d (.l (.s)) 2,dI 3,dI 4,dI 5,.d .b 6,dI 7,dI 21,dI 22,.d .s 23,.d .s 24,.d (.l (.st 0)) 25,dI 26,dI 27,dI 28,dI 29,dI 30,dI 31,dI 32])],k80,[.b,i6,i6,.s,.s,.l (.st 0),i6,i6,i6,i6,i6,i6,i6]⟩ false .n) .n))))) Tryz.func95 rfl hbv95 ⟨Ar,zn9,Aq,zdo,trivial⟩ fun x=>by kernel_rfl
def zka:Ct TS:=⟨[.d (.st 14) 0],h5,[.st 14],.d .b 1,h5,[.b],false,fun x=>Vd x⟩
theorem zkb:HBc 28 zka:=ctk (T:=[(79,zuc),(81,zhc),(83,zhd),(85,zhe),(87,zhf),(89,zhg),(20,oO),(91,zhh),(93,zj9),(94,zag),(95,zdp)]) (h:=.s .n (.s (.s (.j ⟨[(1,.ptr 1000001 0),(54,.d .b 8)],(h81 1000001 0 1 2 3 4 5 6 7),k4,[.b]⟩ false .n) .n) (.s (.s .n (.s (.lr ⟨[(1,.ptr 1000001 0),(56,.d (.l (.st 1)) 0),(57,dI 1),(58,dI 9)],(h81 1000001 0 2 3 4 5 6 7 8),k82,[i6]⟩ [(1,.ptr 1000001 0)] (h81 1000001 0 2 3 4 5 6 7 8) [] 0 (u9Q uZ) .n) .n)) (.s (.s .n (.s (.lr ⟨[(1,.ptr 1000001 0),(68,.d (.l (.st 3)) 0),(69,dI 1),(70,dI 9)],(h81 1000001 2 0 3 4 5 6 7 8),k83,[i6]⟩ [(1,.ptr 1000001 0)] (h81 1000001 2 0 3 4 5 6 7 8) [] 2 (u9Q qg) (.s .n (.s .n (.s (.s (.s .n (.s (.s (.j ⟨[(1,.ptr 1000001 0),(6,.ptr 1000006 0),(68,.d (.l (.st 3)) 0),(69,dI 1),(70,dI 2),(84,.d .b 13)],[(900000000,.rw 1),(900000001,.rw 2),(900000002,.rw 3),(900000003,.rw 4),(1000001,.box 31 [.d (.l (.st 1)) 3,.d (.l (.st 3)) 0,.d (.l (.st 5)) 4,.d (.l (.st 7)) 5,.d (.l (.st 8)) 6,.d (.l (.st 10)) 7,.d (.l (.st 9)) 8,dI 9]),(1000006,.box 87 [.d .s 10,.d (.l (.st 2)) 11,dI 12])],[.l (.st 3),i6,i6,.l (.st 1),.l (.st 5),.l (.st 7),.l (.st 8),.l (.st 10),.l (.st 9),i6,.s,.l (.st 2),i6],[.b]⟩ false .n) .n) (.s .n (.s (.lr ⟨[(1,.ptr 1000001 0),(68,.d (.l (.st 3)) 0),(69,dI 1),(70,dI 2),(86,.d (.l (.st 2)) 3),(87,dI 4),(88,dI 12)],(h81 1000001 5 0 6 7 8 9 10 11),[.l (.st 3),i6,i6,.l (.st 2),i6,.l (.st 1),.l (.st 5),.l (.st 7),.l (.st 8),.l (.st 10),.l (.st 9),i6],[i6]⟩ [(1,.ptr 1000001 0),(68,.d (.l (.st 3)) 0),(69,dI 1),(70,dI 2)] (h81 1000001 5 0 6 7 8 9 10 11) [] 4 (zQi A3) .n) .n)))) .n) .n)))) .n)) (.s (.s .n (.s (.lr ⟨[(1,.ptr 1000001 0),(100,.d (.l (.st 5)) 0),(101,dI 1),(102,dI 9)],(h81 1000001 2 3 0 4 5 6 7 8),k84,[i6]⟩ [(1,.ptr 1000001 0)] (h81 1000001 2 3 0 4 5 6 7 8) [] 6 (u9Q u0) .n) .n)) (.s (.s .n (.s (.lr ⟨[(1,.ptr 1000001 0),(112,.d (.l (.st 7)) 0),(113,dI 1),(114,dI 9)],(h81 1000001 2 3 4 0 5 6 7 8),k85,[i6]⟩ [(1,.ptr 1000001 0)] (h81 1000001 2 3 4 0 5 6 7 8) [] 8 (u9Q u5) .n) .n)) (.s (.s .n (.s (.lr ⟨[(1,.ptr 1000001 0),(123,.d (.l (.st 8)) 0),(124,dI 1),(125,dI 9)],(h81 1000001 2 3 4 5 0 6 7 8),k86,[i6]⟩ [(1,.ptr 1000001 0)] (h81 1000001 2 3 4 5 0 6 7 8) [] 10 (u9Q u6) (.s .n (.s .n (.s (.s (.s .n (.s (.j ⟨[(1,.ptr 1000001 0),(123,.d (.l (.st 8)) 0),(124,dI 1),(125,dI 2),(146,.d .b 10)],(h81 1000001 3 4 5 6 0 7 8 9),[.l (.st 8),i6,i6,.l (.st 1),.l (.st 3),.l (.st 5),.l (.st 7),.l (.st 10),.l (.st 9),i6],[.b]⟩ false .n) .n)) .n) .n)))) .n)) (.s (.s .n (.s (.lr ⟨[(1,.ptr 1000001 0),(149,.d (.l (.st 10)) 0),(150,dI 1),(151,dI 9)],(h81 1000001 2 3 4 5 6 0 7 8),k87,[i6]⟩ [(1,.ptr 1000001 0)] (h81 1000001 2 3 4 5 6 0 7 8) [] 12 (u9Q qh) (.s .n (.s .n (.s (.s (.s .n (.s (.s (.j ⟨[(1,.ptr 1000001 0),(16,.ptr 1000016 0),(149,.d (.l (.st 10)) 0),(150,dI 1),(151,dI 2),(167,.d .b 16)],[(900000000,.rw 1),(900000001,.rw 2),(900000002,.rw 3),(900000003,.rw 4),(1000001,.box 31 [.d (.l (.st 1)) 3,.d (.l (.st 3)) 4,.d (.l (.st 5)) 5,.d (.l (.st 7)) 6,.d (.l (.st 8)) 7,.d (.l (.st 10)) 0,.d (.l (.st 9)) 8,dI 9]),(1000016,.box 100 [.d .s 10,dI 11,dI 12,dI 13,dI 14,.d (.l (.st 9)) 15])],[.l (.st 10),i6,i6,.l (.st 1),.l (.st 3),.l (.st 5),.l (.st 7),.l (.st 8),.l (.st 9),i6,.s,i6,i6,i6,i6,.l (.st 9)],[.b]⟩ false .n) .n) (.s .n (.s (.lr ⟨[(1,.ptr 1000001 0),(149,.d (.l (.st 10)) 0),(150,dI 1),(151,dI 2),(173,.row 3 1000170),(174,dI 3),(175,dI 12)],(h88 4 5 6 7 8 9 10 11),[.l (.st 10),i6,i6,i6,.l (.st 1),.l (.st 3),.l (.st 5),.l (.st 7),.l (.st 8),.l (.st 9),i6,.l (.st 9)],[i6]⟩ [(1,.ptr 1000001 0),(149,.d (.l (.st 10)) 0),(150,dI 1),(151,dI 2)] (h81 1000001 4 5 6 7 8 0 9 10) [] 14 (zQi A4) (.s .n (.s .n (.s (.s (.s .n (.s (.j ⟨[(1,.ptr 1000001 0),(149,.d (.l (.st 10)) 0),(150,dI 1),(151,dI 2),(173,.row 3 1000170),(174,dI 3),(175,dI 4),(192,.d .b 13)],(h88 5 6 7 8 9 10 11 12),[.l (.st 10),i6,i6,i6,i6,.l (.st 1),.l (.st 3),.l (.st 5),.l (.st 7),.l (.st 8),.l (.st 9),i6,.l (.st 9)],[.b]⟩ false .n) .n)) .n) .n)))) .n)))) .n) .n)))) .n)) (.s (.s .n (.s (.lr ⟨[(1,.ptr 1000001 0),(196,.d (.l (.st 9)) 0),(197,dI 1),(198,dI 9)],(h81 1000001 2 3 4 5 6 7 0 8),k89,[i6]⟩ [(1,.ptr 1000001 0)] (h81 1000001 2 3 4 5 6 7 0 8) [] 16 (u9Q u7) (.s .n (.s .n (.s (.s (.s .n (.s (.j ⟨[(1,.ptr 1000001 0),(196,.d (.l (.st 9)) 0),(197,dI 1),(198,dI 2),(215,.d .b 10)],(h81 1000001 3 4 5 6 7 8 0 9),[.l (.st 9),i6,i6,.l (.st 1),.l (.st 3),.l (.st 5),.l (.st 7),.l (.st 8),.l (.st 10),i6],[.b]⟩ false .n) .n)) .n) .n)))) .n)) .n))))))))) Tryz.func28 rfl hbv28 ⟨zB5,zrr,zrs,zrt,zru,zrv,Aq,zrw,zn9,zda,zoa,trivial⟩ fun x=>by kernel_rfl
def YH:Ct TS:=⟨[.ptr 1 0],[(1,.gn 1 (.s) 0)],[.s],.d .s 1,[(1,.gn 1 (.s) 0)],[.s],false,fun x=>A5 x⟩
theorem zdq:YH.OK PGq 60:=fun x r h=>by
 cases h;exact kmp (by kernel_rfl) (Yj (T:=123) 1 x)
def zkc:Ct TS:=⟨[.ptr 1 0,.d (.i .u8) 1],[(1,.gn 1 (.s) 0)],[.s,.i .u8],.nili,[(1,.gn 1 (.s) 2)],[.s],false,u2Q H0⟩
theorem zob:zkc.OK PGq 168:=fun x r h=>kmp (by kernel_rfl) (zQj zpj x.1 x.2 r h)
def zB6:Ct TS:=⟨[.ptr 1 0,.d .s 1],[(1,.gn 1 (.s) 0)],[.s,.s],.tup [dI 2,.nili],[(1,.gn 1 (.s) 3)],[i6,.s],false,u2Q oG⟩
theorem zG7:zB6.OK PGq 162:=fun x r h=>by
 obtain⟨_,h1,h2⟩:=bind_some h;cases h2;exact kmp (by kernel_rfl) (zqt zpj 1 x.1 x.2 (y4 h1))
def YI:Ct TS:=⟨[.ptr 1 0,.d (.l (.a 3 9)) 1],(h26 1 0),[.s,.l (.a 3 9)],.tup [],(h26 1 2),[.s],false,u2Q yk⟩
theorem WG:HBc 67 YI:=ctk (T:=[(60,YH),(168,zkc),(162,zB6),(163,zBw)]) (h:=.s .n (.s (.l ⟨[(0,.ptr 1 0),(9,.d (.l (.a 3 9)) 0),(10,dI 1),(11,dI 3)],(h26 1 2),[.l (.a 3 9),i6],[.s,i6]⟩ [] (h26 1 2) [.s] 0 (u2Q u9) (.s .n (.s .n (.s (.j ⟨[(0,.ptr 1 0),(9,.d (.l (.a 3 9)) 0),(10,dI 1),(11,dI 2)],(h26 1 3),[.l (.a 3 9),i6,i6],[.s]⟩ false (.s (.s .n (.s (.j ⟨[(0,.ptr 1 0),(5,.d (.a 3 9) 0),(9,.d (.l (.a 3 9)) 1),(10,dI 2),(11,dI 3)],(h26 1 4),[.a 3 9,.l (.a 3 9),i6,i6],[.s]⟩ false (.s .n (.s (.j ⟨[(0,.ptr 1 0),(5,.d (.a 3 9) 1),(9,.d (.l (.a 3 9)) 2),(10,dI 3),(11,dI 4),(28,.d .b 5)],(h26 1 0),[.s,.a 3 9,.l (.a 3 9),i6,i6],[.b]⟩ false .n) .n))) (.s .n (.s (.s .n (.s .n (.s .n (.s (.s .n (.s (.j ⟨[(0,.ptr 1 0),(8,dI 4),(9,.d (.l (.a 3 9)) 0),(10,dI 1),(11,dI 2)],(h26 1 3),[.l (.a 3 9),i6,i6],[.s,i6]⟩ false .n) .n)) .n)))) .n)))) .n)) .n)))) .n)) Tryz.func67 rfl hbv67 ⟨⟨zwr,zdq⟩,⟨zJl,zob⟩,⟨ztk,zG7⟩,⟨zI6,zBx⟩,trivial⟩ fun x=>by kernel_rfl
def zdr:Ct TS:=⟨[.ptr 1 0],(h26 1 0),[.s],.tup [],(h26 1 1),[.s],false,fun x=>qi x⟩
theorem zak:HBc 69 zdr:=ctk (T:=[(67,YI),(168,zkc)]) (h:=.n) Tryz.func69 rfl hbv69 ⟨WG,⟨zJl,zob⟩,trivial⟩ fun x=>by kernel_rfl
def zkd:Ct TS:=⟨[.ptr 1 0,.d (.st 0) 1],(h26 1 0),[.s,.st 0],.tup [],(h26 1 2),[.s],false,u2Q Ky⟩
theorem zoc:HBc 68 zkd:=ctk (T:=[(58,zc1 KK),(60,uW),(67,YI),(69,zdr)]) (h:=.n) Tryz.func68 rfl hbv68 ⟨(zt4 KK),⟨zwr,HD⟩,WG,zak,trivial⟩ fun x=>by kernel_rfl
def zhi:Ct TS:=⟨[.ptr 1 0,.d (.l (.st 4)) 1],(h26 1 0),[.s,.l (.st 4)],.tup [],(h26 1 2),[.s],false,u2Q A6⟩
theorem zrx:HBc 70 zhi:=ctk (T:=[(67,YI),(69,zdr)]) (h:=.s (.s .n (.s (.l ⟨[(0,.ptr 1 0),(6,.d (.l (.st 4)) 0),(7,dI 1),(8,dI 3)],(h26 1 2),[.l (.st 4),i6],[.s,i6]⟩ [(0,.ptr 1 0)] (h26 1 2) [.s] 0 (u2Q xC) .n) .n)) .n) Tryz.func70 rfl hbv70 ⟨WG,zak,trivial⟩ fun x=>by kernel_rfl
def zJn:Ct TS:=⟨[.d (.l (.s)) 0,.d .s 1],[],[.l (.s),.s],.d .s 2,[],[.s],false,u2Q zna⟩
theorem zM6:zJn.OK PGq 65:=fun x r h=>kmp (by kernel_rfl) (J.zQg x.1 x.2 r h)
def zud:Ct TS:=⟨[.ptr 1 0,.d (.st 7) 1],(h26 1 0),[.s,.st 7],.tup [],(h26 1 2),[.s],false,u2Q ZZ⟩
theorem zB7:HBc 71 zud:=ctk (T:=[(67,YI),(65,zJn),(72,zah),(68,zkd),(69,zdr)]) (h:=.s .n (.s .n (.s (.s .n (.s (.l ⟨[(0,.ptr 1 0),(3,.ptr 1000003 0),(22,.row 1 1000022),(23,dI 0),(24,dI 23)],(h90 22 1 2 3 4 5 6 7 8 9 10 11 12 13 14 15 16 17 18 19 20 21),[i6,.s,.l (.s),.l (.s),i6,i6,i6,.b,i6,i6,i6,.s,.s,.l (.st 0),i6,i6,i6,i6,i6,i6,i6,.l (.l (.s))],[.s,i6]⟩ [(0,.ptr 1 0),(3,.ptr 1000003 0)] (h91 22 1 2 3 4 5 6 7 8 9 10 11 12 13 14 15 16 17 18 19 20) [.s] 0 (u22Q jB) (.s .n (.s .n (.s (.j ⟨[(0,.ptr 1 0),(3,.ptr 1000003 0),(22,.row 1 1000022),(23,dI 0),(24,dI 1)],(h90 23 2 3 4 5 6 7 8 9 10 11 12 13 14 15 16 17 18 19 20 21 22),[i6,i6,.s,.l (.s),.l (.s),i6,i6,i6,.b,i6,i6,i6,.s,.s,.l (.st 0),i6,i6,i6,i6,i6,i6,i6,.l (.l (.s))],[.s]⟩ false .n) .n)))) .n)) (.s (.s .n (.s (.l ⟨[(0,.ptr 1 0),(3,.ptr 1000003 0),(50,.row 1 1000050),(51,dI 0),(52,dI 23)],(h92 22 1 2 3 4 5 6 7 8 9 10 11 12 13 14 15 16 17 18 19 20 21),[i6,.s,.l (.s),.l (.s),i6,i6,i6,.b,i6,i6,i6,.s,.s,.l (.st 0),i6,i6,i6,i6,i6,i6,i6,.l i6],[.s,i6]⟩ [(0,.ptr 1 0),(3,.ptr 1000003 0)] (h91 22 1 2 3 4 5 6 7 8 9 10 11 12 13 14 15 16 17 18 19 20) [.s] 2 (u22Q vu) (.s .n (.s .n (.s (.j ⟨[(0,.ptr 1 0),(3,.ptr 1000003 0),(50,.row 1 1000050),(51,dI 0),(52,dI 1)],(h92 23 2 3 4 5 6 7 8 9 10 11 12 13 14 15 16 17 18 19 20 21 22),[i6,i6,.s,.l (.s),.l (.s),i6,i6,i6,.b,i6,i6,i6,.s,.s,.l (.st 0),i6,i6,i6,i6,i6,i6,i6,.l i6],[.s]⟩ false .n) .n)))) .n)) (.s (.j ⟨[(0,.ptr 1 0),(3,.ptr 1000003 0)],(h91 20 0 1 2 3 4 5 6 7 8 9 10 11 12 13 14 15 16 17 18 19),k80,[.s]⟩ false .n) (.s .n (.s .n (.s (.j ⟨[(0,.ptr 1 0)],(h26 1 0),[],[.s]⟩ true (.s .n (.s (.s .n (.s .n (.s .n (.s .n (.s .n (.s .n (.s .n (.s (.s .n (.s .n (.s (.l ⟨[(0,.ptr 1 0),(3,.ptr 1000003 0),(140,.row 1 103008000),(141,dI 0),(142,dI 23)],(h93 22 1 2 3 4 5 6 7 8 9 10 11 12 13 14 15 16 17 18 19 20 21),[i6,.s,.l (.s),.l (.s),i6,i6,i6,.b,i6,i6,i6,.s,.s,.l (.st 0),i6,i6,i6,i6,i6,i6,i6,.l (.s)],[.s,i6]⟩ [(0,.ptr 1 0)] (h26 1 22) [.s] 5 (u22Q xP) (.s .n (.s .n (.s (.j ⟨[(0,.ptr 1 0),(3,.ptr 1000003 0),(140,.row 1 103008000),(141,dI 0),(142,dI 1)],(h93 23 2 3 4 5 6 7 8 9 10 11 12 13 14 15 16 17 18 19 20 21 22),[i6,i6,.s,.l (.s),.l (.s),i6,i6,i6,.b,i6,i6,i6,.s,.s,.l (.st 0),i6,i6,i6,i6,i6,i6,i6,.l (.s)],[.s]⟩ false .n) .n)))) .n))) .n)))))))) .n))) .n)))))))) Tryz.func71 rfl hbv71 ⟨WG,⟨zMg,zM6⟩,⟨zM1,zdc⟩,zoc,zak,trivial⟩ fun x=>by kernel_rfl
def zB8:Ct TS:=⟨[.ptr 1 0],[(1,.gn 1 (.s) 0)],[.s],dI 1,[(1,.gn 1 (.s) 0)],[i6],false,fun x=>zq2 x⟩
theorem zG8:zB8.OK PGq 59:=fun x r h=>by
 cases h;exact kmp (by kernel_rfl) (zAw (T:=123) 1 x)
def zry:Ct TS:=⟨[.d (.st 14) 0],h5,[.st 14],.tup [.d .s 1,dI 2],h5,[.s,i6],false,fun x=>zcn x⟩
theorem zue:HBc 26 zry:=ctk (T:=[(28,zka),(67,YI),(68,zkd),(69,zdr),(70,zhi),(71,zud),(72,zah),(59,zB8),(60,YH)]) (h:=.s .n (.s .n (.s .n (.s (.s .n (.s (.l ⟨[(1,.ptr 1000001 0),(4,.ptr 1000028 0),(30,.d (.l (.st 1)) 0),(31,dI 1),(32,dI 9)],(h94 0 2 3 4 5 6 7 8 10),k82,[i6,.s]⟩ [(1,.ptr 1000001 0),(4,.ptr 1000028 0)] (h94 0 2 3 4 5 6 7 8 9) [.s] 0 (u9Q vN) .n) .n)) (.s (.s .n (.s (.l ⟨[(1,.ptr 1000001 0),(4,.ptr 1000028 0),(50,.d (.l (.st 3)) 0),(51,dI 1),(52,dI 9)],(h94 2 0 3 4 5 6 7 8 10),k83,[i6,.s]⟩ [(1,.ptr 1000001 0),(4,.ptr 1000028 0)] (h94 2 0 3 4 5 6 7 8 9) [.s] 2 (u9Q vP) (.s .n (.s .n (.s (.s (.s .n (.s .n (.s (.s .n (.s (.l ⟨[(1,.ptr 1000001 0),(4,.ptr 1000028 0),(8,.ptr 1000008 0),(50,.d (.l (.st 3)) 0),(51,dI 1),(52,dI 2),(64,.d (.l (.st 2)) 3),(65,dI 4),(66,dI 14)],(h95 15),[.l (.st 3),i6,i6,.l (.st 2),i6,.l (.st 1),.l (.st 5),.l (.st 7),.l (.st 8),.l (.st 10),.l (.st 9),i6,.s,i6],[i6,.s]⟩ [(1,.ptr 1000001 0),(4,.ptr 1000028 0),(8,.ptr 1000008 0),(50,.d (.l (.st 3)) 0),(51,dI 1),(52,dI 2)] (h95 14) [.s] 4 (u14Q vO) .n) .n)) .n))) .n) .n)))) .n)) (.s (.s .n (.s (.l ⟨[(1,.ptr 1000001 0),(4,.ptr 1000028 0),(91,.d (.l (.st 5)) 0),(92,dI 1),(93,dI 9)],(h94 2 3 0 4 5 6 7 8 10),k84,[i6,.s]⟩ [(1,.ptr 1000001 0),(4,.ptr 1000028 0)] (h94 2 3 0 4 5 6 7 8 9) [.s] 6 (u9Q vQ) (.s .n (.s .n (.s (.s (.s .n (.s .n (.s (.j ⟨[(1,.ptr 1000001 0),(4,.ptr 1000028 0),(12,.ptr 1000012 0),(13,.d .s 14),(91,.d (.l (.st 5)) 0),(92,dI 1),(93,dI 2)],[(900000000,.rw 1),(900000001,.rw 2),(900000002,.rw 3),(900000003,.rw 4),(1000001,.box 31 [.d (.l (.st 1)) 3,.d (.l (.st 3)) 4,.d (.l (.st 5)) 0,.d (.l (.st 7)) 5,.d (.l (.st 8)) 6,.d (.l (.st 10)) 7,.d (.l (.st 9)) 8,dI 9]),(1000028,.gn 1 (.s) 10),(1000012,.box 64 [.d .s 11,.d .b 12,.d (.l (.st 4)) 13])],[.l (.st 5),i6,i6,.l (.st 1),.l (.st 3),.l (.st 7),.l (.st 8),.l (.st 10),.l (.st 9),i6,.s,.s,.b,.l (.st 4)],[.s]⟩ false .n) .n))) .n) .n)))) .n)) (.s (.s .n (.s (.l ⟨[(1,.ptr 1000001 0),(4,.ptr 1000028 0),(113,.d (.l (.st 7)) 0),(114,dI 1),(115,dI 9)],(h94 2 3 4 0 5 6 7 8 10),k85,[i6,.s]⟩ [(1,.ptr 1000001 0),(4,.ptr 1000028 0)] (h94 2 3 4 0 5 6 7 8 9) [.s] 8 (u9Q vR) .n) .n)) (.s (.s .n (.s (.l ⟨[(1,.ptr 1000001 0),(4,.ptr 1000028 0),(124,.d (.l (.st 8)) 0),(125,dI 1),(126,dI 9)],(h94 2 3 4 5 0 6 7 8 10),k86,[i6,.s]⟩ [(1,.ptr 1000001 0),(4,.ptr 1000028 0)] (h94 2 3 4 5 0 6 7 8 9) [.s] 10 (u9Q vS) .n) .n)) (.s (.s .n (.s (.l ⟨[(1,.ptr 1000001 0),(4,.ptr 1000028 0),(152,.d (.l (.st 10)) 0),(153,dI 1),(154,dI 9)],(h94 2 3 4 5 6 0 7 8 10),k87,[i6,.s]⟩ [(1,.ptr 1000001 0),(4,.ptr 1000028 0)] (h94 2 3 4 5 6 0 7 8 9) [.s] 12 (u9Q vU) (.s .n (.s .n (.s (.s (.s .n (.s .n (.s (.s .n (.s (.l ⟨[(1,.ptr 1000001 0),(4,.ptr 1000028 0),(152,.d (.l (.st 10)) 0),(153,dI 1),(154,dI 2),(183,.d (.l (.st 9)) 3),(184,dI 4),(185,dI 12)],(h94 5 6 7 8 9 0 10 11 13),[.l (.st 10),i6,i6,.l (.st 9),i6,.l (.st 1),.l (.st 3),.l (.st 5),.l (.st 7),.l (.st 8),.l (.st 9),i6],[i6,.s]⟩ [(1,.ptr 1000001 0),(4,.ptr 1000028 0),(152,.d (.l (.st 10)) 0),(153,dI 1),(154,dI 2)] (h94 5 6 7 8 9 0 10 11 12) [.s] 14 (zQi vT) .n) .n)) .n))) .n) .n)))) .n)) (.s (.s .n (.s (.l ⟨[(1,.ptr 1000001 0),(4,.ptr 1000028 0),(206,.d (.l (.st 9)) 0),(207,dI 1),(208,dI 9)],(h94 2 3 4 5 6 7 0 8 10),k89,[i6,.s]⟩ [(1,.ptr 1000001 0),(4,.ptr 1000028 0)] (h94 2 3 4 5 6 7 0 8 9) [.s] 16 (u9Q vV) .n) .n)) (.s (.j ⟨[(1,.ptr 1000001 0),(4,.ptr 1000028 0)],(h94 0 1 2 3 4 5 6 7 8),k4,[.s]⟩ false .n) (.s (.j ⟨[(4,.ptr 1000028 0)],[(900000000,.rw 1),(900000001,.rw 2),(900000002,.rw 3),(900000003,.rw 4),(1000028,.gn 1 (.s) 0)],[],[.s]⟩ false .n) .n)))))))))))) Tryz.func26 rfl hbv26 ⟨zkb,WG,zoc,zak,zrx,zB7,⟨zM1,zdc⟩,⟨zQx,zG8⟩,⟨zwr,zdq⟩,trivial⟩ fun x=>by kernel_rfl
def zds:Ct TS:=⟨[],h5,[],.d .b 0,h5,[.b],false,fun _=>H5⟩
theorem zod:HBc 9 zds:=ctg (cd:=cdL) (nb:=nbT) (rc:=[]) (T:=[(12,zcz),(19,Vg),(10,zB4),(26,zry),(28,zka),(16,zgs)]) (h:=.s .n (.s .n (.s .n (.s .n (.s .n (.s .n (.s .n (.s .n (.s .n (.s .n (.s .n (.s (.j ⟨[(9,.ptr 1000009 0),(13,dI 0),(14,dI 1),(16,dI 2),(17,dI 3),(19,dI 4),(20,dI 5),(22,dI 6),(23,dI 7),(25,dI 8),(26,dI 9),(27,.d .b 18)],(h75 1000009 103005401 103005402 103005403 103005404 103005405 103005406 10 11 12 13 14 15 16 17),[i6,i6,i6,i6,i6,i6,i6,i6,i6,i6,.l (.st 9),i6,.l (.st 1),.l (.st 3),.l (.st 5),.l (.st 7),.l (.st 8),.l (.st 10)],[.b]⟩ false .n) (.s (.j ⟨[(9,.ptr 1000009 0),(27,.d .b 0),(28,.d .b 9)],(h75 1000009 103005401 103005402 103005403 103005404 103005405 103005406 1 2 3 4 5 6 7 8),k96,[.b]⟩ false .n) .n))))))))))))) Tryz.func9 rfl hbv9 ⟨znm,Y5,zG6,zue,zkb,zcv,trivial⟩ fun x=>by kernel_rfl
def zhj:Ct TS:=⟨[.d (.i .u8) 0],[],[.i .u8],.d .b 1,[],[.b],false,fun x=>Kz x⟩
theorem zrz:HBc 159 zhj:=ctk (T:=[]) (h:=.n) Tryz.func159 rfl zRd trivial fun x=>by kernel_rfl
def zoe:Ct TS:=⟨[.d (.i .u8) 0],[],[.i .u8],.d .b 1,[],[.b],false,fun x=>zco x⟩
theorem zxc:HBc 160 zoe:=ctk (T:=[]) (h:=.n) Tryz.func160 rfl zRe trivial fun x=>by kernel_rfl
def zof:Ct TS:=⟨[.d (.st 14) 0,dI 1],[],[.st 14,i6],.d (.l (.s)) 2,[],[.l (.s)],false,u2Q Wv⟩
theorem zxd:HBc 98 zof:=ctk (T:=[]) (h:=.s .n (.s .n (.s (.s .n (.s (.l ⟨[(1,dI 0),(2,.ptr 1000002 0),(5,.row 1 7000001),(6,dI 9)],(h99 1 2 3 4 5 6 7 8 10),ztv,[i6,.l (.s)]⟩ [(1,dI 0),(2,.ptr 1000002 0),(5,.row 1 7000001)] (h99 1 2 3 4 5 6 7 8 9) [.l (.s)] 0 (u9Q Ae) (.s (.s (.j ⟨[(1,dI 0),(2,.ptr 1000002 0),(5,.row 1 7000001),(6,dI 1),(20,.d .b 11)],(h99 2 3 4 5 6 7 8 9 10),zOn,[.b]⟩ false .n) .n) .n)) .n)) (.s (.s .n (.s (.l ⟨[(1,dI 0),(2,.ptr 1000002 0),(5,.row 1 7000001),(7,dI 9)],(h99 1 2 3 4 5 6 7 8 10),ztv,[i6,.l (.s)]⟩ [(1,dI 0),(2,.ptr 1000002 0),(5,.row 1 7000001)] (h99 1 2 3 4 5 6 7 8 9) [.l (.s)] 2 (u9Q Af) (.s (.s (.j ⟨[(1,dI 0),(2,.ptr 1000002 0),(5,.row 1 7000001),(7,dI 1),(40,.d .b 11)],(h99 2 3 4 5 6 7 8 9 10),zOn,[.b]⟩ false .n) .n) .n)) .n)) (.s (.s .n (.s (.l ⟨[(1,dI 0),(2,.ptr 1000002 0),(5,.row 1 7000001),(8,dI 9)],(h99 1 2 3 4 5 6 7 8 10),ztv,[i6,.l (.s)]⟩ [(1,dI 0),(2,.ptr 1000002 0),(5,.row 1 7000001)] (h99 1 2 3 4 5 6 7 8 9) [.l (.s)] 4 (u9Q Ag) (.s (.s (.j ⟨[(1,dI 0),(2,.ptr 1000002 0),(5,.row 1 7000001),(8,dI 1),(60,.d .b 11)],(h99 2 3 4 5 6 7 8 9 10),zOn,[.b]⟩ false .n) .n) .n)) .n)) (.s (.s .n (.s (.l ⟨[(1,dI 0),(2,.ptr 1000002 0),(5,.row 1 7000001),(9,dI 9)],(h99 1 2 3 4 5 6 7 8 10),ztv,[i6,.l (.s)]⟩ [(1,dI 0),(2,.ptr 1000002 0),(5,.row 1 7000001)] (h99 1 2 3 4 5 6 7 8 9) [.l (.s)] 6 (u9Q Ah) (.s (.s (.j ⟨[(1,dI 0),(2,.ptr 1000002 0),(5,.row 1 7000001),(9,dI 1),(80,.d .b 11)],(h99 2 3 4 5 6 7 8 9 10),zOn,[.b]⟩ false .n) .n) .n)) .n)) (.s (.s .n (.s (.l ⟨[(1,dI 0),(2,.ptr 1000002 0),(5,.row 1 7000001),(10,dI 9)],(h99 1 2 3 4 5 6 7 8 10),ztv,[i6,.l (.s)]⟩ [(1,dI 0),(2,.ptr 1000002 0),(5,.row 1 7000001)] (h99 1 2 3 4 5 6 7 8 9) [.l (.s)] 8 (u9Q Ai) (.s (.s (.j ⟨[(1,dI 0),(2,.ptr 1000002 0),(5,.row 1 7000001),(10,dI 1),(100,.d .b 11)],(h99 2 3 4 5 6 7 8 9 10),zOn,[.b]⟩ false .n) .n) .n)) .n)) (.s (.s .n (.s (.l ⟨[(1,dI 0),(2,.ptr 1000002 0),(5,.row 1 7000001),(11,dI 9)],(h99 1 2 3 4 5 6 7 8 10),ztv,[i6,.l (.s)]⟩ [(5,.row 1 7000001)] (h57 7000001 9) [.l (.s)] 10 (u9Q Aj) (.s (.s (.j ⟨[(1,dI 0),(2,.ptr 1000002 0),(5,.row 1 7000001),(11,dI 1),(120,.d .b 11)],(h99 2 3 4 5 6 7 8 9 10),zOn,[.b]⟩ false .n) .n) .n)) .n)) .n)))))))) Tryz.func98 rfl hbv98 trivial fun x=>by kernel_rfl
def zuf:Ct TS:=⟨[.d .s 0],[],[.s],.d .b 1,[],[.b],false,fun x=>Z1 x⟩
theorem zB9:HBc 53 zuf:=ctk (T:=[(159,zhj),(160,zoe)]) (h:=.s .n (.s (.s (.j ⟨[(0,.d .s 0),(17,.d .b 1)],[],[.s],[.b]⟩ false .n) .n) (.s (.s .n (.s (.lr ⟨[(0,.d .s 0),(3,dI 1)],[],[.s],[i6]⟩ [] [] [] 0 (fun x K v=>qj x K v) (.s .n (.s (.s (.s (.j ⟨[(0,.d .s 0),(3,dI 1),(35,.d .b 2)],[],[.s,i6],[.b]⟩ false .n) .n) .n) .n))) .n)) .n))) Tryz.func53 rfl hbv53 ⟨zrz,zxc,trivial⟩ fun x=>by kernel_rfl
def Zm:Ct TS:=⟨[],[],[],.d (.l (.s)) 0,[],[.l (.s)],false,fun _=>JT⟩
theorem zke:HBc 55 Zm:=ctk (T:=[]) (h:=.n) Tryz.func55 rfl hbv55 trivial fun x=>by kernel_rfl
def zkf:Ct TS:=⟨[.d (.l (.s)) 0,.d .s 1],[],[.l (.s),.s],dI 2,[],[i6],false,u2Q Ww⟩
theorem zog:HBc 54 zkf:=ctk (T:=[]) (h:=.s .n (.s (.s .n (.s (.lr ⟨[(0,.d (.l (.s)) 0),(1,.d .s 1),(5,dI 2)],[],[.l (.s),.s],[i6]⟩ [] [] [] 0 (u2Q qk) .n) .n)) .n)) Tryz.func54 rfl hbv54 trivial fun x=>by kernel_rfl
def zal:Ct TS:=⟨[.d .s 0],[],[.s],.d .b 1,[],[.b],false,fun x=>uJ x⟩
theorem zdt:HBc 17 zal:=ctk (T:=[(53,zuf),(55,Zm),(54,zkf)]) (h:=.n) Tryz.func17 rfl hbv17 ⟨zB9,zke,zog,trivial⟩ fun x=>by kernel_rfl
def zdu:Ct TS:=⟨[.d (.l (.st 4)) 0],[],[.l (.st 4)],.d .b 1,[],[.b],false,fun x=>H7 x⟩
theorem zoh:HBc 181 zdu:=ctk (T:=[]) (h:=.s .n (.s .n (.s (.s .n (.s (.lr ⟨[(0,.d (.l (.st 4)) 0),(3,dI 1),(4,dI 2)],[],[.l (.st 4),i6],[i6]⟩ [] [] [] 0 (u2Q wX) (.s .n (.s (.s (.s .n (.s .n (.s .n (.s (.j ⟨[(0,.d (.l (.st 4)) 0),(3,dI 1),(4,dI 2),(76,.d .b 3)],[],[.l (.st 4),i6,i6],[.b]⟩ false .n) .n)))) .n) .n))) .n)) .n))) Tryz.func181 rfl zRf trivial fun x=>by kernel_rfl
def zug:Ct TS:=⟨[.d (.st 4) 0,.d (.st 4) 1],[],[.st 4,.st 4],.d .b 2,[],[.b],false,u2Q Wx⟩
theorem zCa:HBc 182 zug:=ctk (T:=[]) (h:=.n) Tryz.func182 rfl zRg trivial fun x=>by kernel_rfl
def zuh:Ct TS:=⟨[.d (.st 4) 0,.d (.st 4) 1,.d (.st 4) 2,.d (.st 4) 3],[],[.st 4,.st 4,.st 4,.st 4],.d .b 4,[],[.b],false,u4Q zjr⟩
theorem zCb:HBc 183 zuh:=ctk (T:=[]) (h:=.n) Tryz.func183 rfl zRh trivial fun x=>by kernel_rfl
def zoi:Ct TS:=⟨[.d (.l (.st 4)) 0],[],[.l (.st 4)],.d .b 1,[],[.b],false,fun x=>oH x⟩
theorem zxe:HBc 100 zoi:=ctk (T:=[(181,zdu),(182,zug),(183,zuh)]) (h:=.s .n (.s .n (.s (.s (.j ⟨[(0,.d (.l (.st 4)) 0),(3,dI 1),(13,.d .b 2)],[],[.l (.st 4),i6],[.b]⟩ false .n) .n) (.s (.s (.j ⟨[(0,.d (.l (.st 4)) 0),(3,dI 1),(27,.d .b 2)],[],[.l (.st 4),i6],[.b]⟩ false .n) .n) (.s (.s .n (.s (.lr ⟨[(0,.d (.l (.st 4)) 0),(3,dI 1),(4,dI 2)],[],[.l (.st 4),i6],[i6]⟩ [] [] [] 0 (u2Q jT) (.s .n (.s (.s (.s (.s (.j ⟨[(0,.d (.l (.st 4)) 0),(3,dI 1),(4,dI 2),(45,.d .b 3)],[],[.l (.st 4),i6,i6],[.b]⟩ false .n) .n) (.s .n (.s (.lr ⟨[(0,.d (.l (.st 4)) 0),(3,dI 1),(4,dI 2),(5,dI 3)],[],[.l (.st 4),i6,i6],[i6]⟩ [(0,.d (.l (.st 4)) 0),(3,dI 1),(4,dI 2)] [] [] 2 (u3Q jS) (.s .n (.s (.s (.s (.j ⟨[(0,.d (.l (.st 4)) 0),(3,dI 1),(4,dI 2),(5,dI 3),(81,.d .b 4)],[],[.l (.st 4),i6,i6,i6],[.b]⟩ false .n) .n) .n) .n))) .n))) .n) .n))) .n)) .n))))) Tryz.func100 rfl zRi ⟨zoh,zCa,zCb,trivial⟩ fun x=>by kernel_rfl
def Zn:Ct TS:=⟨[],[],[],.d (.l (.s)) 0,[],[.l (.s)],false,fun _=>jU⟩
theorem zkg:HBc 177 Zn:=ctk (T:=[]) (h:=.n) Tryz.func177 rfl zRj trivial fun x=>by kernel_rfl
def zCc:Ct TS:=⟨[dI 0],[],[i6],dI 1,[],[i6],false,fun x=>zcp x⟩
theorem zG9:HBc 178 zCc:=ctk (T:=[]) (h:=.n) Tryz.func178 rfl zRk trivial fun x=>by kernel_rfl
def WH:Ct TS:=⟨[],[],[],.d (.l (.s)) 0,[],[.l (.s)],false,fun _=>H8⟩
theorem zfb:HBc 77 WH:=ctk (T:=[]) (h:=.n) Tryz.func77 rfl hbv77 trivial fun x=>by kernel_rfl
def K9:Ct TS:=⟨[.d (.l (.st 9)) 0,.d (.l (.st 9)) 1],[],[.l (.st 9),.l (.st 9)],.d .b 2,[],[.b],false,u2Q jq⟩
theorem zdv:HBc 47 K9:=ctk (T:=[]) (h:=.s .n (.s .n (.s (.s .n (.s (.lr ⟨[(0,.d (.l (.st 9)) 0),(1,.d (.l (.st 9)) 1),(5,dI 2)],[],[.l (.st 9),.l (.st 9)],[i6]⟩ [] [] [] 0 (u2Q ql) .n) .n)) .n))) Tryz.func47 rfl hbv47 trivial fun x=>by kernel_rfl
def vC(RK:Nat):Ct TS:=⟨[.d (.st 0) 0,.d (.st 0) 1],[],[.st 0,.st 0],.d .b 2,[],[.b],false,fun x=>yY RK x.1 x.2⟩
theorem Qa:∀RK,(vC RK).OK PGq 15
 |0=>(fun x r h=>nomatch (show(none:Option _)=some r from h))
 |RK+1=>(ctk (c:=vC (RK+1)) (T:=[(15,vC RK)]) (h:=.s .n (.s (.s (.j ⟨[(2,.ptr 1000002 0),(3,.ptr 1000003 0),(40,.d .b 10)],(h43 1000002 0 1 2 3 4 1000003 5 6 7 8 9),k119,[.b]⟩ false .n) .n) (.s (.s .n (.s (.lr ⟨[(2,.ptr 1000002 0),(3,.ptr 1000003 0),(5,dI 10)],(h43 1000002 0 1 2 3 4 1000003 5 6 7 8 9),k119,[i6]⟩ [] [] [] 0 (fun x K v=>kz (yY RK) x.1 x.2.1 x.2.2.1 x.2.2.2.1 x.2.2.2.2.1 (p5Q x).1 (p6Q x).1 (p7Q x).1 (p8Q x).1 (p9Q x) K v) .n) .n)) .n))) Tryz.func15 rfl zM2 ⟨⟨zM2,(Qa RK)⟩,trivial⟩ fun x=>by kernel_rfl).2
theorem Jf(RK:Nat):zd PGq 15∧(vC RK).OK PGq 15:=⟨zM2,(Qa RK)⟩
def JY:Ct TS:=⟨[.d (.l (.st 2)) 0,.d (.l (.st 2)) 1],[],[.l (.st 2),.l (.st 2)],.d .b 2,[],[.b],false,u2Q kB⟩
theorem ZC:HBc 48 JY:=ctk (T:=[]) (h:=.s .n (.s .n (.s (.s .n (.s (.lr ⟨[(0,.d (.l (.st 2)) 0),(1,.d (.l (.st 2)) 1),(5,dI 2)],[],[.l (.st 2),.l (.st 2)],[i6]⟩ [] [] [] 0 (u2Q kA) .n) .n)) .n))) Tryz.func48 rfl hbv48 trivial fun x=>by kernel_rfl
def Qb:Ct TS:=⟨[.d (.l (.st 4)) 0,.d (.l (.st 4)) 1],[],[.l (.st 4),.l (.st 4)],.d .b 2,[],[.b],false,u2Q js⟩
theorem zdw:HBc 49 Qb:=ctk (T:=[]) (h:=.s .n (.s .n (.s (.s .n (.s (.lr ⟨[(0,.d (.l (.st 4)) 0),(1,.d (.l (.st 4)) 1),(5,dI 2)],[],[.l (.st 4),.l (.st 4)],[i6]⟩ [] [] [] 0 (u2Q qm) .n) .n)) .n))) Tryz.func49 rfl hbv49 trivial fun x=>by kernel_rfl
def WI:Ct TS:=⟨[.d (.l (.s)) 0,.d (.l (.s)) 1],[],[.l (.s),.l (.s)],.d .b 2,[],[.b],false,u2Q kC⟩
theorem zfc:HBc 154 WI:=ctk (T:=[]) (h:=.s .n (.s .n (.s (.s .n (.s (.lr ⟨[(0,.d (.l (.s)) 0),(1,.d (.l (.s)) 1),(5,dI 2)],[],[.l (.s),.l (.s)],[i6]⟩ [] [] [] 0 (u2Q uc) .n) .n)) .n))) Tryz.func154 rfl zRl trivial fun x=>by kernel_rfl
def Zo:Ct TS:=⟨[.d (.st 7) 0,.d (.st 7) 1],[],[.st 7,.st 7],.d .b 2,[],[.b],false,u2Q qU⟩
theorem zkh:HBc 50 Zo:=ctk (T:=[(154,WI),(15,vC KK)]) (h:=.s .n (.s (.j ⟨[(2,.ptr 1000002 0),(3,.ptr 1000003 0),(5,.d .b 40)],(h78 0 1 2 3 4 5 6 7 8 9 10 11 12 13 14 15 16 17 18 19 20 21 22 23 24 25 26 27 28 29 30 31 32 33 34 35 36 37 38 39),k79,[.b]⟩ false .n) (.s (.j ⟨[(2,.ptr 1000002 0),(3,.ptr 1000003 0),(5,.d .b 0),(6,.d .b 41)],(h78 1 2 3 4 5 6 7 8 9 10 11 12 13 14 15 16 17 18 19 20 21 22 23 24 25 26 27 28 29 30 31 32 33 34 35 36 37 38 39 40),[.b,.s,.l (.s),.l (.s),i6,i6,i6,.b,i6,i6,i6,.s,.s,.l (.st 0),i6,i6,i6,i6,i6,i6,i6,.s,.l (.s),.l (.s),i6,i6,i6,.b,i6,i6,i6,.s,.s,.l (.st 0),i6,i6,i6,i6,i6,i6,i6],[.b]⟩ false .n) .n))) Tryz.func50 rfl hbv50 ⟨zfc,(Jf KK),trivial⟩ fun x=>by kernel_rfl
def zui:Ct TS:=⟨[.d (.st 14) 0,.d (.st 14) 1],[],[.st 14,.st 14],.d .b 2,[],[.b],false,u2Q Z5⟩
theorem zCd:HBc 14 zui:=ctk (T:=[(47,K9),(15,vC KK),(48,JY),(49,Qb),(50,Zo)]) (h:=.s .n (.s (.s (.j ⟨[(2,.ptr 1000002 0),(3,.ptr 1000003 0),(77,.d .b 16)],(zjt 0 1 2 3 4 5 6 7 8 9 10 11 12 13 14 15),zI0,[.b]⟩ false .n) .n) (.s (.s .n (.s (.lr ⟨[(2,.ptr 1000002 0),(3,.ptr 1000003 0),(5,dI 16)],(zjt 0 1 2 3 4 5 6 7 8 9 10 11 12 13 14 15),zI0,[i6]⟩ [(2,.ptr 1000002 0),(3,.ptr 1000003 0)] (zjt 0 1 2 3 4 5 6 7 8 9 10 11 12 13 14 15) [] 0 (zOk oI) (.s .n (.s (.s (.s (.j ⟨[(2,.ptr 1000002 0),(3,.ptr 1000003 0),(5,dI 0),(113,.d .b 17)],(zjt 1 2 3 4 5 6 7 8 9 10 11 12 13 14 15 16),zQk,[.b]⟩ false .n) .n) .n) .n))) .n)) (.s (.s .n (.s (.lr ⟨[(2,.ptr 1000002 0),(3,.ptr 1000003 0),(6,dI 16)],(zjt 0 1 2 3 4 5 6 7 8 9 10 11 12 13 14 15),zI0,[i6]⟩ [(2,.ptr 1000002 0),(3,.ptr 1000003 0)] (zjt 0 1 2 3 4 5 6 7 8 9 10 11 12 13 14 15) [] 2 (zOk oJ) (.s .n (.s (.s (.s (.j ⟨[(2,.ptr 1000002 0),(3,.ptr 1000003 0),(6,dI 0),(164,.d .b 17)],(zjt 1 2 3 4 5 6 7 8 9 10 11 12 13 14 15 16),zQk,[.b]⟩ false .n) .n) .n) .n))) .n)) (.s (.s .n (.s (.lr ⟨[(2,.ptr 1000002 0),(3,.ptr 1000003 0),(7,dI 16)],(zjt 0 1 2 3 4 5 6 7 8 9 10 11 12 13 14 15),zI0,[i6]⟩ [(2,.ptr 1000002 0),(3,.ptr 1000003 0)] (zjt 0 1 2 3 4 5 6 7 8 9 10 11 12 13 14 15) [] 4 (zOk oK) (.s .n (.s (.s (.s (.j ⟨[(2,.ptr 1000002 0),(3,.ptr 1000003 0),(7,dI 0),(215,.d .b 17)],(zjt 1 2 3 4 5 6 7 8 9 10 11 12 13 14 15 16),zQk,[.b]⟩ false .n) .n) .n) .n))) .n)) (.s (.s .n (.s (.lr ⟨[(2,.ptr 1000002 0),(3,.ptr 1000003 0),(8,dI 16)],(zjt 0 1 2 3 4 5 6 7 8 9 10 11 12 13 14 15),zI0,[i6]⟩ [(2,.ptr 1000002 0),(3,.ptr 1000003 0)] (zjt 0 1 2 3 4 5 6 7 8 9 10 11 12 13 14 15) [] 6 (zOk qn) .n) .n)) (.s (.s .n (.s (.lr ⟨[(2,.ptr 1000002 0),(3,.ptr 1000003 0),(9,dI 16)],(zjt 0 1 2 3 4 5 6 7 8 9 10 11 12 13 14 15),zI0,[i6]⟩ [(2,.ptr 1000002 0),(3,.ptr 1000003 0)] (zjt 0 1 2 3 4 5 6 7 8 9 10 11 12 13 14 15) [] 8 (zOk oL) (.s .n (.s (.s (.s (.j ⟨[(2,.ptr 1000002 0),(3,.ptr 1000003 0),(9,dI 0),(300,.d .b 17)],(zjt 1 2 3 4 5 6 7 8 9 10 11 12 13 14 15 16),zQk,[.b]⟩ false .n) .n) .n) .n))) .n)) (.s (.s .n (.s (.lr ⟨[(2,.ptr 1000002 0),(3,.ptr 1000003 0),(10,dI 16)],(zjt 0 1 2 3 4 5 6 7 8 9 10 11 12 13 14 15),zI0,[i6]⟩ [] [] [] 10 (zOk oM) (.s .n (.s (.s (.s (.j ⟨[(2,.ptr 1000002 0),(3,.ptr 1000003 0),(10,dI 0),(366,.d .b 17)],(zjt 1 2 3 4 5 6 7 8 9 10 11 12 13 14 15 16),zQk,[.b]⟩ false .n) .n) .n) .n))) .n)) .n)))))))) Tryz.func14 rfl hbv14 ⟨zdv,(Jf KK),ZC,zdw,zkh,trivial⟩ fun x=>by kernel_rfl
def oP(RK:Nat):Ct TS:=⟨[.d (.st 0) 0,dI 1],[],[.st 0,i6],dI 2,[],[i6],false,fun x=>vv RK x.1 x.2⟩
theorem WJ:∀RK,(oP RK).OK PGq 56
 |0=>(fun x r h=>nomatch (show(none:Option _)=some r from h))
 |RK+1=>(ctk (c:=oP (RK+1)) (T:=[(56,oP RK)]) (h:=.s .n (.s .n (.s (.s .n (.s (.l ⟨[(1,dI 0),(2,.ptr 1000002 0),(5,dI 6),(6,dI 7)],(h25 1000002 1 2 3 4 5),k13,[i6,i6]⟩ [(5,dI 6)] [] [i6] 0 (fun x K v=>wY (vv RK) x.1 x.2.1 x.2.2.1 x.2.2.2.1 x.2.2.2.2.1 (p5Q x) K v) (.s (.s (.j ⟨[(1,dI 0),(2,.ptr 1000002 0),(5,dI 1),(6,dI 2),(16,.d .b 8)],(h25 1000002 3 4 5 6 7),k22,[.b]⟩ false .n) .n) .n)) .n)) .n))) Tryz.func56 rfl zM3 ⟨⟨zM3,(WJ RK)⟩,trivial⟩ fun x=>by kernel_rfl).2
theorem zoj(RK:Nat):zd PGq 56∧(oP RK).OK PGq 56:=⟨zM3,(WJ RK)⟩
def oQ(RK:Nat):Ct TS:=⟨[.d (.st 0) 0],[],[.st 0],.d .b 1,[],[.b],false,fun x=>jC RK x⟩
theorem WK:∀RK,(oQ RK).OK PGq 57
 |0=>(fun x r h=>nomatch (show(none:Option _)=some r from h))
 |RK+1=>(ctk (c:=oQ (RK+1)) (T:=[(57,oQ RK)]) (h:=.s .n (.s (.s .n (.s (.lr ⟨[(1,.ptr 1000001 0),(3,dI 5)],(h25 1000001 0 1 2 3 4),[i6,i6,.s,.s,.l (.st 0)],[i6]⟩ [(1,.ptr 1000001 0)] (h25 1000001 0 1 2 3 4) [] 0 (fun x K v=>qA (jC RK) x.1 x.2.1 x.2.2.1 x.2.2.2.1 x.2.2.2.2 K v) .n) .n)) .n)) Tryz.func57 rfl zM4 ⟨⟨zM4,(WK RK)⟩,trivial⟩ fun x=>by kernel_rfl).2
theorem zok(RK:Nat):zd PGq 57∧(oQ RK).OK PGq 57:=⟨zM4,(WK RK)⟩
def WL:Ct TS:=⟨[.d (.st 0) 0],[],[.st 0],.d .b 1,[],[.b],false,fun x=>vW x⟩
theorem zfd:HBc 18 WL:=ctk (T:=[(56,oP KK),(57,oQ KK)]) (h:=.n) Tryz.func18 rfl hbv18 ⟨(zoj KK),(zok KK),trivial⟩ fun x=>by kernel_rfl
def Qc:Ct TS:=⟨[.d (.l (.s)) 0],[],[.l (.s)],.d .b 1,[],[.b],false,fun x=>xQ x⟩
theorem zdx:HBc 66 Qc:=ctk (T:=[]) (h:=.s .n (.s (.s .n (.s (.lr ⟨[(0,.d (.l (.s)) 0),(3,dI 1)],[],[.l (.s)],[i6]⟩ [(0,.d (.l (.s)) 0)] [] [] 0 (fun x K v=>vX x K v) .n) .n)) .n)) Tryz.func66 rfl hbv66 trivial fun x=>by kernel_rfl
def zol:Ct TS:=⟨[.d (.st 14) 0],[],[.st 14],.d .b 1,[],[.b],false,fun x=>JU x⟩
theorem zxf:HBc 25 zol:=ctk (T:=[(18,WL),(66,Qc)]) (h:=.s .n (.s (.s (.j ⟨[(1,.ptr 1000001 0),(51,.d .b 8)],(qB 0 1 2 3 4 5 6 7),k4,[.b]⟩ false .n) .n) (.s (.s .n (.s (.lr ⟨[(1,.ptr 1000001 0),(3,dI 8)],(qB 0 1 2 3 4 5 6 7),k4,[i6]⟩ [(1,.ptr 1000001 0)] (qB 0 1 2 3 4 5 6 7) [] 0 (u8Q Ak) (.s .n (.s (.s (.s (.j ⟨[(1,.ptr 1000001 0),(3,dI 0),(76,.d .b 9)],(qB 1 2 3 4 5 6 7 8),ztv,[.b]⟩ false .n) .n) .n) .n))) .n)) (.s (.s .n (.s (.lr ⟨[(1,.ptr 1000001 0),(4,dI 8)],(qB 0 1 2 3 4 5 6 7),k4,[i6]⟩ [(1,.ptr 1000001 0)] (qB 0 1 2 3 4 5 6 7) [] 2 (u8Q vw) (.s .n (.s (.s (.s .n (.s (.s (.j ⟨[(1,.ptr 1000001 0),(4,dI 0),(5,.ptr 1000005 0),(98,.d .b 12)],(zTj 1000005),k125,[.b]⟩ false .n) .n) (.s .n (.s (.lr ⟨[(1,.ptr 1000001 0),(4,dI 0),(5,.ptr 1000005 0),(6,dI 12)],(zTj 1000005),k125,[i6]⟩ [(1,.ptr 1000001 0),(4,dI 0)] (qB 1 2 3 4 5 6 7 8) [] 4 (zQi qV) .n) .n)))) .n) .n))) .n)) (.s (.s .n (.s (.lr ⟨[(1,.ptr 1000001 0),(7,dI 8)],(qB 0 1 2 3 4 5 6 7),k4,[i6]⟩ [(1,.ptr 1000001 0)] (qB 0 1 2 3 4 5 6 7) [] 6 (u8Q Al) (.s .n (.s (.s (.s (.j ⟨[(1,.ptr 1000001 0),(7,dI 0),(138,.d .b 9)],(qB 1 2 3 4 5 6 7 8),ztv,[.b]⟩ false .n) .n) .n) .n))) .n)) (.s (.s .n (.s (.lr ⟨[(1,.ptr 1000001 0),(8,dI 8)],(qB 0 1 2 3 4 5 6 7),k4,[i6]⟩ [(1,.ptr 1000001 0)] (qB 0 1 2 3 4 5 6 7) [] 8 (u8Q jV) (.s .n (.s (.s (.s .n (.s (.j ⟨[(1,.ptr 1000001 0),(8,dI 0),(172,.d .b 9)],(qB 1 2 3 4 5 6 7 8),ztv,[.b]⟩ false .n) .n)) .n) .n))) .n)) (.s (.s .n (.s (.lr ⟨[(1,.ptr 1000001 0),(10,dI 8)],(qB 0 1 2 3 4 5 6 7),k4,[i6]⟩ [(1,.ptr 1000001 0)] (qB 0 1 2 3 4 5 6 7) [] 10 (u8Q Am) (.s .n (.s (.s (.s (.j ⟨[(1,.ptr 1000001 0),(10,dI 0),(197,.d .b 9)],(qB 1 2 3 4 5 6 7 8),ztv,[.b]⟩ false .n) .n) .n) .n))) .n)) (.s (.s .n (.s (.lr ⟨[(1,.ptr 1000001 0),(11,dI 8)],(qB 0 1 2 3 4 5 6 7),k4,[i6]⟩ [] [] [] 12 (u8Q An) (.s .n (.s (.s (.s (.j ⟨[(1,.ptr 1000001 0),(11,dI 0),(222,.d .b 9)],(qB 1 2 3 4 5 6 7 8),ztv,[.b]⟩ false .n) .n) .n) .n))) .n)) .n)))))))) Tryz.func25 rfl hbv25 ⟨zfd,zdx,trivial⟩ fun x=>by kernel_rfl
def oc:Ct TS:=⟨[dI 0,dI 1,dI 2],[],k2,.d .b 3,[],[.b],false,u3Q zC⟩
theorem oR:HBc 96 oc:=ctk (T:=[]) (h:=.n) Tryz.func96 rfl hbv96 trivial fun x=>by kernel_rfl
def YJ:Ct TS:=⟨[.d (.l (.s)) 0],[],[.l (.s)],.d .b 1,[],[.b],false,fun x=>A7 x⟩
theorem zdy:HBc 97 YJ:=ctk (T:=[(17,zal),(54,zkf)]) (h:=.s .n (.s (.s .n (.s (.lr ⟨[(0,.d (.l (.s)) 0),(3,dI 1)],[],[.l (.s)],[i6]⟩ [] [] [] 0 (fun x K v=>vY x K v) (.s .n (.s (.s (.s (.j ⟨[(0,.d (.l (.s)) 0),(3,dI 1),(26,.d .b 2)],[],[.l (.s),i6],[.b]⟩ false .n) .n) .n) .n))) .n)) .n)) Tryz.func97 rfl hbv97 ⟨zdt,zog,trivial⟩ fun x=>by kernel_rfl
def Zp:Ct TS:=⟨[dI 0],[],[i6],dI 1,[],[i6],false,fun x=>xi x⟩
theorem zki:HBc 189 Zp:=ctk (T:=[]) (h:=.s .n (.s .n (.s (.s (.j ⟨[(0,dI 0),(10,.d .b 1)],[],[i6],[.b]⟩ false .n) .n) .n))) Tryz.func189 rfl zRm trivial fun x=>by kernel_rfl
def WM(RK:Nat):Ct TS:=⟨[.d (.st 0) 0,dI 1],[],[.st 0,i6],.d .b 2,[],[.b],false,fun x=>zW RK x.1 x.2⟩
theorem zhk:∀RK,(WM RK).OK PGq 119
 |0=>(fun x r h=>nomatch (show(none:Option _)=some r from h))
 |RK+1=>(ctk (c:=WM (RK+1)) (T:=[(189,Zp),(17,zal),(119,WM RK)]) (h:=.s .n (.s (.s (.j ⟨[(1,dI 0),(2,.ptr 1000002 0),(27,.d .b 6)],(h25 1000002 1 2 3 4 5),k13,[.b]⟩ false .n) .n) (.s (.s (.j ⟨[(1,dI 0),(2,.ptr 1000002 0),(45,.d .b 6)],(h25 1000002 1 2 3 4 5),k13,[.b]⟩ false .n) .n) (.s (.j ⟨[(1,dI 0),(2,.ptr 1000002 0),(5,.d .b 6)],(h25 1000002 1 2 3 4 5),k13,[.b]⟩ false .n) (.s (.s (.j ⟨[(1,dI 0),(2,.ptr 1000002 0),(92,.d .b 6)],(h25 1000002 1 2 3 4 5),k13,[.b]⟩ false .n) .n) (.s (.s .n (.s (.lr ⟨[(1,dI 0),(2,.ptr 1000002 0),(6,dI 6)],(h25 1000002 1 2 3 4 5),k13,[i6]⟩ [] [] [] 0 (fun x K v=>yR (zW RK) x.1 x.2.1 x.2.2.1 x.2.2.2.1 x.2.2.2.2.1 (p5Q x) K v) .n) .n)) .n)))))) Tryz.func119 rfl zBr ⟨zki,zdt,⟨zBr,(zhk RK)⟩,trivial⟩ fun x=>by kernel_rfl).2
theorem zCe(RK:Nat):zd PGq 119∧(WM RK).OK PGq 119:=⟨zBr,(zhk RK)⟩
def kL:Ct TS:=⟨[.d (.st 0) 0],[],[.st 0],.d .b 1,[],[.b],false,fun x=>xD x⟩
theorem qE:HBc 32 kL:=ctk (T:=[(119,WM KK)]) (h:=.n) Tryz.func32 rfl hbv32 ⟨(zCe KK),trivial⟩ fun x=>by kernel_rfl
def Qd:Ct TS:=⟨[.d (.st 3) 0],[],[.st 3],.d .b 1,[],[.b],false,fun x=>jt x⟩
theorem zdz:HBc 99 Qd:=ctk (T:=[(96,oc),(97,YJ)]) (h:=.s .n (.s .n (.s (.s .n (.s (.lr ⟨[(1,.ptr 1000001 0),(3,.row 1 7000001),(4,dI 3)],[(1000001,.box 87 [.d .s 0,.d (.l (.st 2)) 1,dI 2]),(7000001,.row 9 (.s) 4 false)],[.s,.l (.st 2),i6],[i6,.l (.s)]⟩ [(1,.ptr 1000001 0),(3,.row 1 7000001)] [(1000001,.box 87 [.d .s 0,.d (.l (.st 2)) 1,dI 2]),(7000001,.row 9 (.s) 3 false)] [.l (.s)] 0 (u3Q xo) .n) .n)) .n))) Tryz.func99 rfl hbv99 ⟨oR,zdy,trivial⟩ fun x=>by kernel_rfl
def Zq:Ct TS:=⟨[.d (.l (.s)) 0],[],[.l (.s)],.d .b 1,[],[.b],false,fun x=>qW x⟩
theorem zkj:HBc 184 Zq:=ctk (T:=[(17,zal)]) (h:=.s .n (.s (.s .n (.s (.lr ⟨[(0,.d (.l (.s)) 0),(3,dI 1)],[],[.l (.s)],[i6]⟩ [] [] [] 0 (fun x K v=>vx x K v) .n) .n)) .n)) Tryz.func184 rfl zRn ⟨zdt,trivial⟩ fun x=>by kernel_rfl
def zuj:Ct TS:=⟨[.d (.st 0) 0],[],[.st 0],.d .b 1,[],[.b],false,fun x=>KA x⟩
theorem zCf:HBc 185 zuj:=ctk (T:=[(15,vC KK)]) (h:=.n) Tryz.func185 rfl zRo ⟨(Jf KK),trivial⟩ fun x=>by kernel_rfl
def WN:Ct TS:=⟨[.d (.st 7) 0],[],[.st 7],.d .b 1,[],[.b],false,fun x=>kD x⟩
theorem zfe:HBc 101 WN:=ctk (T:=[(184,Zq),(96,oc),(32,kL),(185,zuj)]) (h:=.s .n (.s (.s (.j ⟨[(1,.ptr 1000001 0),(40,.d .b 20)],(zTk 0 1 2 3 4 5 6 7 8 9 10 11 12 13 14 15 16 17 18 19),k80,[.b]⟩ false .n) .n) .n)) Tryz.func101 rfl zRp ⟨zkj,oR,qE,zCf,trivial⟩ fun x=>by kernel_rfl
def Qf:Ct TS:=⟨[.d (.st 9) 0],[],[.st 9],.d .b 1,[],[.b],false,fun x=>wZ x⟩
theorem zd0:HBc 186 Qf:=ctk (T:=[(96,oc)]) (h:=.n) Tryz.func186 rfl zRq ⟨oR,trivial⟩ fun x=>by kernel_rfl
def WO:Ct TS:=⟨[.d (.st 10) 0],[],[.st 10],.d .b 1,[],[.b],false,fun x=>kE x⟩
theorem zff:HBc 102 WO:=ctk (T:=[(186,Qf),(96,oc)]) (h:=.s .n (.s (.s .n (.s (.lr ⟨[(1,.ptr 1000001 0),(3,dI 6)],h127,[.s,i6,i6,i6,i6,.l (.st 9)],[i6]⟩ [(1,.ptr 1000001 0)] h127 [] 0 (u6Q wP) .n) .n)) .n)) Tryz.func102 rfl zRr ⟨zd0,oR,trivial⟩ fun x=>by kernel_rfl
def zd1:Ct TS:=⟨[.d (.st 14) 0],[],[.st 14],.d .b 1,[],[.b],false,fun x=>JV x⟩
theorem zhl:HBc 29 zd1:=ctk (T:=[(96,oc),(98,zof),(97,YJ),(32,kL),(99,Qd),(100,zoi),(101,WN),(102,WO)]) (h:=.s .n (.s (.s (.j ⟨[(1,.ptr 1000001 0),(58,.d .b 8)],(qB 0 1 2 3 4 5 6 7),k4,[.b]⟩ false .n) .n) (.s (.s .n (.s (.lr ⟨[(1,.ptr 1000001 0),(3,dI 8)],(qB 0 1 2 3 4 5 6 7),k4,[i6]⟩ [(1,.ptr 1000001 0)] (qB 0 1 2 3 4 5 6 7) [] 0 (u8Q vy) .n) .n)) (.s (.s .n (.s (.lr ⟨[(1,.ptr 1000001 0),(4,dI 8)],(qB 0 1 2 3 4 5 6 7),k4,[i6]⟩ [(1,.ptr 1000001 0)] (qB 0 1 2 3 4 5 6 7) [] 2 (u8Q jW) .n) .n)) (.s (.s .n (.s (.lr ⟨[(1,.ptr 1000001 0),(5,dI 8)],(qB 0 1 2 3 4 5 6 7),k4,[i6]⟩ [(1,.ptr 1000001 0)] (qB 0 1 2 3 4 5 6 7) [] 4 (u8Q jX) .n) .n)) (.s (.s .n (.s (.lr ⟨[(1,.ptr 1000001 0),(6,dI 8)],(qB 0 1 2 3 4 5 6 7),k4,[i6]⟩ [(1,.ptr 1000001 0)] (qB 0 1 2 3 4 5 6 7) [] 6 (u8Q jY) .n) .n)) (.s (.s .n (.s (.lr ⟨[(1,.ptr 1000001 0),(7,dI 8)],(qB 0 1 2 3 4 5 6 7),k4,[i6]⟩ [(1,.ptr 1000001 0)] (qB 0 1 2 3 4 5 6 7) [] 8 (u8Q jZ) .n) .n)) (.s (.s .n (.s (.lr ⟨[(1,.ptr 1000001 0),(8,dI 8)],(qB 0 1 2 3 4 5 6 7),k4,[i6]⟩ [(1,.ptr 1000001 0)] (qB 0 1 2 3 4 5 6 7) [] 10 (u8Q j3) (.s .n (.s (.s (.s .n (.s (.j ⟨[(1,.ptr 1000001 0),(8,dI 0),(153,.d .b 9)],(qB 1 2 3 4 5 6 7 8),ztv,[.b]⟩ false .n) .n)) .n) .n))) .n)) (.s (.s .n (.s (.lr ⟨[(1,.ptr 1000001 0),(10,dI 8)],(qB 0 1 2 3 4 5 6 7),k4,[i6]⟩ [(1,.ptr 1000001 0)] (qB 0 1 2 3 4 5 6 7) [] 12 (u8Q j4) .n) .n)) (.s (.s .n (.s (.lr ⟨[(1,.ptr 1000001 0),(11,dI 8)],(qB 0 1 2 3 4 5 6 7),k4,[i6]⟩ [] [] [] 14 (u8Q j5) (.s .n (.s (.s (.s .n (.s (.j ⟨[(1,.ptr 1000001 0),(11,dI 0),(195,.d .b 9)],(qB 1 2 3 4 5 6 7 8),ztv,[.b]⟩ false .n) .n)) .n) .n))) .n)) .n)))))))))) Tryz.func29 rfl hbv29 ⟨oR,zxd,zdy,qE,zdz,zxe,zfe,zff,trivial⟩ fun x=>by kernel_rfl
def zd2:Ct TS:=⟨[.d (.st 0) 0],[],[.st 0],dI 1,[],[i6],false,fun x=>Wy x⟩
theorem zhm:HBc 171 zd2:=ctk (T:=[]) (h:=.s .n (.s (.s .n (.s (.s .n (.s .n (.s .n (.s .n (.s .n (.s .n (.s .n (.s .n (.s (.j ⟨[(4,dI 0),(13,.d .b 1)],[],[i6],[.b]⟩ false .n) (.s .n (.s (.j ⟨[(4,dI 0),(17,.d .b 1)],[],[i6],[.b]⟩ false .n) (.s .n (.s (.j ⟨[(4,dI 0),(20,.d .b 1)],[],[i6],[.b]⟩ false .n) .n))))))))))))) .n)) .n)) Tryz.func171 rfl zRs trivial fun x=>by kernel_rfl
def od(RK:Nat):Ct TS:=⟨[dI 0],[],[i6],.d .s 1,[],[.s],false,fun x=>j6 RK x⟩
theorem Zr:∀RK,(od RK).OK PGq 172
 |0=>(fun x r h=>nomatch (show(none:Option _)=some r from h))
 |RK+1=>(ctk (c:=od (RK+1)) (T:=[(172,od RK)]) (h:=.n) Tryz.func172 rfl zBs ⟨⟨zBs,(Zr RK)⟩,trivial⟩ fun x=>by kernel_rfl).2
theorem zd3(RK:Nat):zd PGq 172∧(od RK).OK PGq 172:=⟨zBs,(Zr RK)⟩
def zuk:Ct TS:=⟨[dI 0],[],[i6],.d .s 1,[],[.s],false,fun x=>Z7 x⟩
theorem zCg:HBc 174 zuk:=ctk (T:=[]) (h:=.n) Tryz.func174 rfl zRt trivial fun x=>by kernel_rfl
def zCh(RK:Nat):Ct TS:=⟨[.d (.st 0) 0,dI 1],[],[.st 0,i6],.d .s 2,[],[.s],false,fun x=>A8 RK x.1 x.2⟩
def Jg(RK:Nat):Ct TS:=⟨[.d (.st 0) 0],[],[.st 0],.d .s 1,[],[.s],false,fun x=>kG RK x⟩
theorem zkk:∀RK,(zCh RK).OK PGq 173∧(Jg RK).OK PGq 73
 |0=>⟨(fun x r h=>nomatch (show(none:Option _)=some r from h)),(fun x r h=>nomatch (show(none:Option _)=some r from h))⟩
 |RK+1=>⟨(ctk (c:=zCh (RK+1)) (T:=[(171,zd2),(73,Jg RK)]) (h:=.n) Tryz.func173 rfl zJm ⟨zhm,⟨zM5,(zkk RK).2⟩,trivial⟩ fun x=>by kernel_rfl).2,(ctk (c:=Jg (RK+1)) (T:=[(171,zd2),(172,od KK),(173,zCh RK),(174,zuk)]) (h:=.s .n (.s .n (.s (.s .n (.s (.s .n (.s .n (.s .n (.s .n (.s .n (.s .n (.s .n (.s .n (.s .n (.s .n (.s .n (.s .n (.s .n (.s .n (.s (.j ⟨[(1,.ptr 1000001 0),(3,dI 0),(71,.d .b 6)],(h25 1000001 1 2 3 4 5),k13,[.b]⟩ false .n) .n))))))))))))))) .n)) .n))) Tryz.func73 rfl zM5 ⟨zhm,(zd3 KK),⟨zJm,(zkk RK).1⟩,zCg,trivial⟩ fun x=>by kernel_rfl).2⟩
theorem zd4(RK:Nat):zd PGq 73∧(Jg RK).OK PGq 73:=⟨zM5,(zkk RK).2⟩
def YK:Ct TS:=⟨[dI 0],[],[i6],.d .s 1,[],[.s],false,fun x=>wi x⟩
theorem WQ:HBc 74 YK:=ctk (T:=[(172,od KK)]) (h:=.n) Tryz.func74 rfl hbv74 ⟨(zd3 KK),trivial⟩ fun x=>by kernel_rfl
def zd5:Ct TS:=⟨[.d (.l (.st 4)) 0],[],[.l (.st 4)],.d .s 1,[],[.s],false,fun x=>oN x⟩
theorem zom:HBc 75 zd5:=ctk (T:=[(74,YK)]) (h:=.s .n (.s .n (.s (.s .n (.s (.l ⟨[(0,.d (.l (.st 4)) 0),(3,.d .s 1),(4,dI 2)],[],[.l (.st 4)],[.s,i6]⟩ [(3,.d .s 1)] [] [.s] 0 (fun x K v=>xj x K v) .n) .n)) .n))) Tryz.func75 rfl hbv75 ⟨WQ,trivial⟩ fun x=>by kernel_rfl
def zCi:Ct TS:=⟨[.d .s 0,.d (.l (.s)) 1],[],[.s,.l (.s)],.d .s 2,[],[.s],false,u2Q zcq⟩
theorem zHa:HBc 175 zCi:=ctk (T:=[]) (h:=.s .n (.s .n (.s .n (.s (.s .n (.s (.l ⟨[(0,.d .s 1),(1,.d (.l (.s)) 0),(5,dI 2)],[],[.l (.s)],[.s,i6]⟩ [(0,.d .s 1)] [] [.s] 0 (fun x K v=>j7 x K v) .n) .n)) .n)))) Tryz.func175 rfl zRu trivial fun x=>by kernel_rfl
def zul:Ct TS:=⟨[.d .s 0,dI 1],[],[.s,i6],.d .s 2,[],[.s],false,u2Q KB⟩
theorem zCj:HBc 176 zul:=ctk (T:=[(74,YK)]) (h:=.n) Tryz.func176 rfl zRv ⟨WQ,trivial⟩ fun x=>by kernel_rfl
def zum:Ct TS:=⟨[.d (.st 7) 0],[],[.st 7],.d .s 1,[],[.s],false,fun x=>Z9 x⟩
theorem zCk:HBc 76 zum:=ctk (T:=[(175,zCi),(176,zul),(74,YK),(177,Zn),(73,Jg KK),(178,zCc)]) (h:=.s .n (.s .n (.s (.j ⟨[(1,.ptr 1000001 0),(3,.d .s 20)],(zTk 0 1 2 3 4 5 6 7 8 9 10 11 12 13 14 15 16 17 18 19),k80,[.s]⟩ false .n) (.s .n (.s .n (.s .n (.s .n (.s .n (.s (.s .n (.s (.l ⟨[(1,.ptr 1000001 0),(3,.d .s 20),(4,dI 21)],(zTk 0 1 2 3 4 5 6 7 8 9 10 11 12 13 14 15 16 17 18 19),k80,[.s,i6]⟩ [(3,.d .s 20)] [] [.s] 0 (u20Q wF) (.s .n (.s (.j ⟨[(1,.ptr 1000001 0),(3,.d .s 21),(4,dI 0)],(zTk 1 2 3 4 5 6 7 8 9 10 11 12 13 14 15 16 17 18 19 20),[i6,.s,.l (.s),.l (.s),i6,i6,i6,.b,i6,i6,i6,.s,.s,.l (.st 0),i6,i6,i6,i6,i6,i6,i6],[.s]⟩ false .n) .n))) .n)) .n))))))))) Tryz.func76 rfl hbv76 ⟨zHa,zCj,WQ,zkg,(zd4 KK),zG9,trivial⟩ fun x=>by kernel_rfl
def zon:Ct TS:=⟨[.d (.st 9) 0],[],[.st 9],.d .s 1,[],[.s],false,fun x=>A9 x⟩
theorem zxg:HBc 78 zon:=ctk (T:=[(74,YK)]) (h:=.n) Tryz.func78 rfl hbv78 ⟨WQ,trivial⟩ fun x=>by kernel_rfl
def zoo:Ct TS:=⟨[.d (.st 14) 0],[],[.st 14],.tup [.d .s 1,dI 2],[],[.s,i6],false,fun x=>Wz x⟩
theorem zxh:HBc 27 zoo:=ctk (T:=[(29,zd1),(73,Jg KK),(74,YK),(75,zd5),(76,zum),(77,WH),(78,zon)]) (h:=.s .n (.s .n (.s .n (.s (.s .n (.s (.l ⟨[(1,.ptr 1000001 0),(4,.d .s 8),(5,dI 9)],(qB 0 1 2 3 4 5 6 7),k4,[.s,i6]⟩ [(1,.ptr 1000001 0),(4,.d .s 8)] (qB 0 1 2 3 4 5 6 7) [.s] 0 (u8Q xE) .n) .n)) (.s (.s .n (.s (.l ⟨[(1,.ptr 1000001 0),(4,.d .s 8),(6,dI 9)],(qB 0 1 2 3 4 5 6 7),k4,[.s,i6]⟩ [(1,.ptr 1000001 0),(4,.d .s 8)] (qB 0 1 2 3 4 5 6 7) [.s] 2 (u8Q xG) (.s .n (.s (.s (.s .n (.s .n (.s (.s .n (.s (.l ⟨[(1,.ptr 1000001 0),(4,.d .s 12),(6,dI 0),(7,.ptr 1000007 0),(8,dI 13)],(zTj 1000007),k125,[.s,i6]⟩ [(1,.ptr 1000001 0),(4,.d .s 12),(6,dI 0),(7,.ptr 1000007 0)] (zTj 1000007) [.s] 4 (zQi xF) .n) .n)) .n))) .n) .n))) .n)) (.s (.s .n (.s (.l ⟨[(1,.ptr 1000001 0),(4,.d .s 8),(9,dI 9)],(qB 0 1 2 3 4 5 6 7),k4,[.s,i6]⟩ [(1,.ptr 1000001 0),(4,.d .s 8)] (qB 0 1 2 3 4 5 6 7) [.s] 6 (u8Q xH) (.s .n (.s (.s (.s .n (.s (.j ⟨[(1,.ptr 1000001 0),(4,.d .s 0),(9,dI 1),(10,.d .s 10)],(qB 2 3 4 5 6 7 8 9),k128,[.s]⟩ false .n) .n)) .n) .n))) .n)) (.s (.s .n (.s (.l ⟨[(1,.ptr 1000001 0),(4,.d .s 8),(11,dI 9)],(qB 0 1 2 3 4 5 6 7),k4,[.s,i6]⟩ [(1,.ptr 1000001 0),(4,.d .s 8)] (qB 0 1 2 3 4 5 6 7) [.s] 8 (u8Q xI) .n) .n)) (.s (.s .n (.s (.l ⟨[(1,.ptr 1000001 0),(4,.d .s 8),(12,dI 9)],(qB 0 1 2 3 4 5 6 7),k4,[.s,i6]⟩ [(1,.ptr 1000001 0),(4,.d .s 8)] (qB 0 1 2 3 4 5 6 7) [.s] 10 (u8Q xJ) .n) .n)) (.s (.s .n (.s (.l ⟨[(1,.ptr 1000001 0),(4,.d .s 8),(14,dI 9)],(qB 0 1 2 3 4 5 6 7),k4,[.s,i6]⟩ [(1,.ptr 1000001 0),(4,.d .s 8)] (qB 0 1 2 3 4 5 6 7) [.s] 12 (u8Q xL) (.s .n (.s (.s (.s .n (.s .n (.s (.s .n (.s (.l ⟨[(1,.ptr 1000001 0),(4,.d .s 15),(14,dI 0),(15,.ptr 1000015 0),(16,dI 16)],[(1000001,.box 31 [.d (.l (.st 1)) 1,.d (.l (.st 3)) 2,.d (.l (.st 5)) 3,.d (.l (.st 7)) 4,.d (.l (.st 8)) 5,.d (.l (.st 10)) 6,.d (.l (.st 9)) 7,dI 8]),(1000015,.box 100 [.d .s 9,dI 10,dI 11,dI 12,dI 13,.d (.l (.st 9)) 14])],[i6,.l (.st 1),.l (.st 3),.l (.st 5),.l (.st 7),.l (.st 8),.l (.st 10),.l (.st 9),i6,.s,i6,i6,i6,i6,.l (.st 9)],[.s,i6]⟩ [(1,.ptr 1000001 0),(4,.d .s 15),(14,dI 0)] (qB 1 2 3 4 5 6 7 8) [.s] 14 (u15Q xK) .n) .n)) .n))) .n) .n))) .n)) (.s (.s .n (.s (.l ⟨[(1,.ptr 1000001 0),(4,.d .s 8),(17,dI 9)],(qB 0 1 2 3 4 5 6 7),k4,[.s,i6]⟩ [(1,.ptr 1000001 0),(4,.d .s 8)] (qB 0 1 2 3 4 5 6 7) [.s] 16 (u8Q xk) (.s .n (.s (.j ⟨[(1,.ptr 1000001 0),(4,.d .s 9),(17,dI 0)],(qB 1 2 3 4 5 6 7 8),ztv,[.s]⟩ false (.s (.s .n (.s (.j ⟨[(1,.ptr 1000001 0),(4,.d .s 0),(17,dI 1),(18,.d .s 10)],(qB 2 3 4 5 6 7 8 9),k128,[.s]⟩ false .n) .n)) .n)) .n))) .n)) (.s (.j ⟨[(4,.d .s 0)],[],[],[.s]⟩ false .n) .n))))))))))) Tryz.func27 rfl hbv27 ⟨zhl,(zd4 KK),WQ,zom,zCk,zfb,zxg,trivial⟩ fun x=>by kernel_rfl
def zun:Ct TS:=⟨[.d (.st 1) 0,.d (.st 1) 1],[],[.st 1,.st 1],.d .b 2,[],[.b],false,u2Q zaa⟩
theorem zCl:HBc 103 zun:=ctk (T:=[(104,oa KK)]) (h:=.n) Tryz.func103 rfl zRw ⟨(zdn KK),trivial⟩ fun x=>by kernel_rfl
def uk:Ct TS:=⟨[.d (.l (.st 1)) 0,.d (.l (.st 1)) 1,.fn 103 [] []],[],[.l (.st 1),.l (.st 1)],.d .b 2,[],[.b],false,u2Q xT⟩
theorem JZ:HBc 112 uk:=ctk (T:=[(103,zun)]) (h:=.s .n (.s .n (.s (.s .n (.s (.lr ⟨[(1,.d (.l (.st 1)) 0),(2,.fn 103 [] []),(15,.d (.l (.st 1)) 1),(16,dI 2),(17,dI 3)],[],[.l (.st 1),.l (.st 1),i6],[i6]⟩ [] [] [] 0 (u3Q wG) .n) .n)) .n))) Tryz.func112 rfl zRx ⟨zCl,trivial⟩ fun x=>by kernel_rfl
def Jt:Ct TS:=⟨[.d (.l (.st 2)) 0,.d (.l (.st 2)) 1],[],[.l (.st 2),.l (.st 2)],.d .b 2,[],[.b],false,u2Q jx⟩
theorem YL:HBc 106 Jt:=ctk (T:=[]) (h:=.s .n (.s .n (.s (.s .n (.s (.lr ⟨[(0,.d (.l (.st 2)) 0),(1,.d (.l (.st 2)) 1),(12,dI 2),(13,dI 3)],[],[.l (.st 2),.l (.st 2),i6],[i6]⟩ [] [] [] 0 (u3Q jD) .n) .n)) .n))) Tryz.func106 rfl zRy trivial fun x=>by kernel_rfl
def zuo:Ct TS:=⟨[.d (.st 3) 0,.d (.st 3) 1],[],[.st 3,.st 3],.d .b 2,[],[.b],false,u2Q zab⟩
theorem zCm:HBc 105 zuo:=ctk (T:=[(106,Jt)]) (h:=.n) Tryz.func105 rfl zRz ⟨YL,trivial⟩ fun x=>by kernel_rfl
def um:Ct TS:=⟨[.d (.l (.st 3)) 0,.d (.l (.st 3)) 1,.fn 105 [] []],[],[.l (.st 3),.l (.st 3)],.d .b 2,[],[.b],false,u2Q xU⟩
theorem J0:HBc 113 um:=ctk (T:=[(105,zuo)]) (h:=.s .n (.s .n (.s (.s .n (.s (.lr ⟨[(1,.d (.l (.st 3)) 0),(2,.fn 105 [] []),(15,.d (.l (.st 3)) 1),(16,dI 2),(17,dI 3)],[],[.l (.st 3),.l (.st 3),i6],[i6]⟩ [] [] [] 0 (u3Q wH) .n) .n)) .n))) Tryz.func113 rfl zR0 ⟨zCm,trivial⟩ fun x=>by kernel_rfl
def uo:Ct TS:=⟨[.d (.l (.st 7)) 0,.d (.l (.st 7)) 1,.fn 115 [] []],[],[.l (.st 7),.l (.st 7)],.d .b 2,[],[.b],false,u2Q xV⟩
theorem J1:HBc 114 uo:=ctk (T:=[(115,YG)]) (h:=.s .n (.s .n (.s (.s .n (.s (.lr ⟨[(1,.d (.l (.st 7)) 0),(2,.fn 115 [] []),(15,.d (.l (.st 7)) 1),(16,dI 2),(17,dI 3)],[],[.l (.st 7),.l (.st 7),i6],[i6]⟩ [] [] [] 0 (u3Q wI) .n) .n)) .n))) Tryz.func114 rfl zR1 ⟨zdo,trivial⟩ fun x=>by kernel_rfl
def ud:Ct TS:=⟨[.d (.l (.st 4)) 0,.d (.l (.st 4)) 1],[],[.l (.st 4),.l (.st 4)],.d .b 2,[],[.b],false,u2Q wQ⟩
theorem Hh:HBc 108 ud:=ctk (T:=[]) (h:=.s .n (.s .n (.s (.s .n (.s (.lr ⟨[(0,.d (.l (.st 4)) 0),(1,.d (.l (.st 4)) 1),(12,dI 2),(13,dI 3)],[],[.l (.st 4),.l (.st 4),i6],[i6]⟩ [] [] [] 0 (u3Q jE) .n) .n)) .n))) Tryz.func108 rfl zR2 trivial fun x=>by kernel_rfl
def zup:Ct TS:=⟨[.d (.st 5) 0,.d (.st 5) 1],[],[.st 5,.st 5],.d .b 2,[],[.b],false,u2Q zac⟩
theorem zCn:HBc 107 zup:=ctk (T:=[(108,ud)]) (h:=.n) Tryz.func107 rfl zR3 ⟨Hh,trivial⟩ fun x=>by kernel_rfl
def uq:Ct TS:=⟨[.d (.l (.st 5)) 0,.d (.l (.st 5)) 1,.fn 107 [] []],[],[.l (.st 5),.l (.st 5)],.d .b 2,[],[.b],false,u2Q xW⟩
theorem J2:HBc 116 uq:=ctk (T:=[(107,zup)]) (h:=.s .n (.s .n (.s (.s .n (.s (.lr ⟨[(1,.d (.l (.st 5)) 0),(2,.fn 107 [] []),(15,.d (.l (.st 5)) 1),(16,dI 2),(17,dI 3)],[],[.l (.st 5),.l (.st 5),i6],[i6]⟩ [] [] [] 0 (u3Q wJ) .n) .n)) .n))) Tryz.func116 rfl zR4 ⟨zCn,trivial⟩ fun x=>by kernel_rfl
def zuq:Ct TS:=⟨[.d (.st 8) 0,.d (.st 8) 1],[],[.st 8,.st 8],.d .b 2,[],[.b],false,u2Q zad⟩
theorem zCo:HBc 109 zuq:=ctk (T:=[(108,ud)]) (h:=.n) Tryz.func109 rfl zR5 ⟨Hh,trivial⟩ fun x=>by kernel_rfl
def ur:Ct TS:=⟨[.d (.l (.st 8)) 0,.d (.l (.st 8)) 1,.fn 109 [] []],[],[.l (.st 8),.l (.st 8)],.d .b 2,[],[.b],false,u2Q xX⟩
theorem J3:HBc 117 ur:=ctk (T:=[(109,zuq)]) (h:=.s .n (.s .n (.s (.s .n (.s (.lr ⟨[(1,.d (.l (.st 8)) 0),(2,.fn 109 [] []),(15,.d (.l (.st 8)) 1),(16,dI 2),(17,dI 3)],[],[.l (.st 8),.l (.st 8),i6],[i6]⟩ [] [] [] 0 (u3Q wK) .n) .n)) .n))) Tryz.func117 rfl zR6 ⟨zCo,trivial⟩ fun x=>by kernel_rfl
def ue:Ct TS:=⟨[.d (.l (.st 9)) 0,.d (.l (.st 9)) 1],[],[.l (.st 9),.l (.st 9)],.d .b 2,[],[.b],false,u2Q wR⟩
theorem Hi:HBc 111 ue:=ctk (T:=[]) (h:=.s .n (.s .n (.s (.s .n (.s (.lr ⟨[(0,.d (.l (.st 9)) 0),(1,.d (.l (.st 9)) 1),(12,dI 2),(13,dI 3)],[],[.l (.st 9),.l (.st 9),i6],[i6]⟩ [] [] [] 0 (u3Q jF) .n) .n)) .n))) Tryz.func111 rfl zR7 trivial fun x=>by kernel_rfl
def zur:Ct TS:=⟨[.d (.st 10) 0,.d (.st 10) 1],[],[.st 10,.st 10],.d .b 2,[],[.b],false,u2Q zae⟩
theorem zCp:HBc 110 zur:=ctk (T:=[(111,ue)]) (h:=.n) Tryz.func110 rfl zR8 ⟨Hi,trivial⟩ fun x=>by kernel_rfl
def uu:Ct TS:=⟨[.d (.l (.st 10)) 0,.d (.l (.st 10)) 1,.fn 110 [] []],[],[.l (.st 10),.l (.st 10)],.d .b 2,[],[.b],false,u2Q xY⟩
theorem J4:HBc 118 uu:=ctk (T:=[(110,zur)]) (h:=.s .n (.s .n (.s (.s .n (.s (.lr ⟨[(1,.d (.l (.st 10)) 0),(2,.fn 110 [] []),(15,.d (.l (.st 10)) 1),(16,dI 2),(17,dI 3)],[],[.l (.st 10),.l (.st 10),i6],[i6]⟩ [] [] [] 0 (u3Q wL) .n) .n)) .n))) Tryz.func118 rfl zR9 ⟨zCp,trivial⟩ fun x=>by kernel_rfl
def zJo:Ct TS:=⟨[.d (.st 14) 0,.d (.st 14) 1],[],[.st 14,.st 14],.d .b 2,[],[.b],false,u2Q znb⟩
theorem zM7:HBc 30 zJo:=ctk (T:=[(112,uk),(113,um),(114,uo),(116,uq),(117,ur),(118,uu),(111,ue)]) (h:=.s .n (.s .n (.s .n (.s .n (.s .n (.s .n (.s (.j ⟨[(2,.ptr 1000002 0),(3,.ptr 1000003 0),(7,.fn 107 [] []),(8,.fn 109 [] []),(9,.fn 110 [] []),(10,.d .b 16)],(zjt 0 1 2 3 4 5 6 7 8 9 10 11 12 13 14 15),zI0,[.b]⟩ false .n) (.s (.j ⟨[(2,.ptr 1000002 0),(3,.ptr 1000003 0),(10,.d .b 0),(11,.d .b 17)],(zjt 1 2 3 4 5 6 7 8 9 10 11 12 13 14 15 16),k129,[.b]⟩ false .n) .n)))))))) Tryz.func30 rfl hbv30 ⟨JZ,J0,J1,J2,J3,J4,Hi,trivial⟩ fun x=>by kernel_rfl
def WR:Ct TS:=⟨[.d (.st 0) 0],[],[.st 0],.tup [.d .s 1,dI 2],[],[.s,i6],false,fun x=>uK x⟩
theorem zfg:HBc 31 WR:=ctk (T:=[(32,kL),(73,Jg KK)]) (h:=.n) Tryz.func31 rfl hbv31 ⟨qE,(zd4 KK),trivial⟩ fun x=>by kernel_rfl
def WS:Ct TS:=⟨[.d (.st 14) 0,.d (.st 14) 1],h5,[.st 14,.st 14],.d .b 2,h5,[.b],false,u2Q vi⟩
theorem Vq:HBc 5 WS:=ctk (T:=[(9,zds),(25,zol),(26,zry),(27,zoo),(28,zka),(29,zd1),(30,zJo),(14,zui),(19,Vg),(31,WR),(20,oO),(32,kL)]) (h:=.s .n (.s .n (.s (.s (.j ⟨[(2,.ptr 1000002 0),(3,.ptr 1000003 0),(5,.d .b 0),(24,.d .b 17)],[(900000000,.rw 1),(900000001,.rw 2),(900000002,.rw 3),(900000003,.rw 4),(1000002,.box 31 [.d (.l (.st 1)) 1,.d (.l (.st 3)) 2,.d (.l (.st 5)) 3,.d (.l (.st 7)) 4,.d (.l (.st 8)) 5,.d (.l (.st 10)) 6,.d (.l (.st 9)) 7,dI 8]),(1000003,.box 31 [.d (.l (.st 1)) 9,.d (.l (.st 3)) 10,.d (.l (.st 5)) 11,.d (.l (.st 7)) 12,.d (.l (.st 8)) 13,.d (.l (.st 10)) 14,.d (.l (.st 9)) 15,dI 16])],k129,[.b]⟩ false .n) .n) (.s .n (.s .n (.s (.s (.j ⟨[(2,.ptr 1000002 0),(5,.d .b 0),(65,.d .b 9)],(h81 1000002 1 2 3 4 5 6 7 8),k130,[.b]⟩ false .n) .n) (.s (.s .n (.s (.lr ⟨[(2,.ptr 1000002 0),(5,.d .b 0),(10,dI 9)],(h81 1000002 1 2 3 4 5 6 7 8),k130,[i6]⟩ [(5,.d .b 0)] h5 [] 0 (u9Q yh) (.s .n (.s (.s (.s .n (.s .n (.s .n (.s (.j ⟨[(2,.ptr 1000002 0),(5,.d .b 0),(10,dI 1),(103,.d .b 10)],(h81 1000002 2 3 4 5 6 7 8 9),[.b,i6,.l (.st 1),.l (.st 3),.l (.st 5),.l (.st 7),.l (.st 8),.l (.st 10),.l (.st 9),i6],[.b]⟩ false .n) .n)))) .n) .n))) .n)) .n))))))) Tryz.func5 rfl hbv5 ⟨zod,zxf,zue,zxh,zkb,zhl,zM7,zCd,Y5,zfg,Aq,qE,trivial⟩ fun x=>by kernel_rfl
end Go.Proofs.YtffencjoddkghaaGreatDoor
