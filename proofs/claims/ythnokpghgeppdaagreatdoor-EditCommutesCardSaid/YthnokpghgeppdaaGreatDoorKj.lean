/- texts that the proof reaches, part 10 -/
import Derived.Test.YthnokpghgeppdaaGreatDoorKi
set_option linter.all false
set_option maxRecDepth 100000
namespace Go.Proofs.YthnokpghgeppdaaGreatDoor
open Go Go.RowKit Go.Eng Go.EV Go.EQ
variable[Hx]
theorem kmp{a b:Prop}(h:a=b)(x:a):b:=h▸x
def k1:List TC:=[.l (.st 1),.l (.st 3),.l (.st 5),.l (.st 7),.l (.st 8),.l (.st 10),.l (.st 9),.i .i64]
def h2:List (Nat×TO):=[(900000000,.rw 1),(900000001,.rw 2),(900000002,.rw 3),(900000003,.rw 4)]
def h3(v0 v1 v2 v3 v4:Nat):List (Nat×TO):=[(900000000,.rw 1),(900000001,.rw 2),(900000002,.rw 3),(900000003,.rw 4),(v0,.box 125 [.d (.i .i64) v1,.d .s v2,.d (.i .i64) v3,.d (.i .i64) v4])]
def h4(v0 v1 v2 v3:Nat):List (Nat×TO):=[(v0,.row v1 (.st v2) v3 false)]
def h5(v0 v1 v2 v3 v4 v5 v6 v7 v8 v9 v10 v11 v12 v13 v14 v15 v16 v17 v18 v19 v20 v21 v22 v23 v24 v25 v26 v27 v28 v29 v30:Nat):List (Nat×TO):=[(900000000,.rw 1),(900000001,.rw 2),(900000002,.rw 3),(900000003,.rw 4),(v0,.box 42 [.d (.i .i64) v1,.d .s v2,.d .s v3,.d (.i .i64) v4,.d .s v5,.d (.l (.s)) v6,.d (.l (.s)) v7,.d (.i .i64) v8,.d (.i .i64) v9,.d (.i .i64) v10,.d .b v11,.d (.i .i64) v12,.d (.i .i64) v13,.d (.i .i64) v14,.d .s v15,.d .s v16,.d (.l (.st 0)) v17,.d (.i .i64) v18,.d (.i .i64) v19,.d (.i .i64) v20,.d (.i .i64) v21,.d (.i .i64) v22,.d (.i .i64) v23,.d (.i .i64) v24,.d (.i .i64) v25,.d (.i .i64) v26,.d .s v27,.d .s v28,.d (.l (.st 0)) v29,.d (.l (.st 4)) v30])]
def k6:List TC:=[.i .i64,.i .i64,.s,.s,.i .i64,.s,.l (.s),.l (.s),.i .i64,.i .i64,.i .i64,.b,.i .i64,.i .i64,.i .i64,.s,.s,.l (.st 0),.i .i64,.i .i64,.i .i64,.i .i64,.i .i64,.i .i64,.i .i64,.i .i64,.i .i64,.s,.s,.l (.st 0),.l (.st 4)]
def k7:List TC:=[.l (.st 11),.i .i64,.i .i64,.i .i64,.i .i64,.s,.l (.s),.b,.l (.st 0),.l (.st 4)]
def h8(v0 v1 v2 v3 v4 v5 v6 v7 v8 v9 v10 v11 v12 v13 v14 v15 v16 v17 v18 v19 v20 v21 v22 v23 v24 v25:Nat):List (Nat×TO):=[(900000000,.rw 1),(900000001,.rw 2),(900000002,.rw 3),(900000003,.rw 4),(1000002,.box 42 [.d (.i .i64) v0,.d .s v1,.d .s v1,.d (.i .i64) v2,.d .s v1,.d (.l (.s)) v3,.d (.l (.s)) v3,.d (.i .i64) v4,.d (.i .i64) v5,.d (.i .i64) v6,.d .b v7,.d (.i .i64) v8,.d (.i .i64) v9,.d (.i .i64) v10,.d .s v1,.d .s v1,.d (.l (.st 0)) v11,.d (.i .i64) v12,.d (.i .i64) v13,.d (.i .i64) v14,.d (.i .i64) v15,.d (.i .i64) v16,.d (.i .i64) v17,.d (.i .i64) v18,.d (.i .i64) v19,.d (.i .i64) v20,.d .s v1,.d .s v1,.d (.l (.st 0)) v11,.d (.l (.st 4)) v21]),(1000011,.box 42 [.d (.i .i64) v22,.d .s 23,.d .s v23,.d (.i .i64) v24,.d .s v1,.d (.l (.s)) v3,.d (.l (.s)) v3,.d (.i .i64) v25,.d (.i .i64) v25,.d (.i .i64) v25,.d .b v7,.d (.i .i64) v25,.d (.i .i64) v25,.d (.i .i64) v25,.d .s v1,.d .s v1,.d (.l (.st 0)) v11,.d (.i .i64) v25,.d (.i .i64) v25,.d (.i .i64) v25,.d (.i .i64) v25,.d (.i .i64) v25,.d (.i .i64) v25,.d (.i .i64) v25,.d (.i .i64) v25,.d (.i .i64) v25,.d .s v1,.d .s v1,.d (.l (.st 0)) v11,.d (.l (.st 4)) v21])]
def k9:List TC:=[.i .i64,.i .i64,.s,.i .i64,.l (.s),.i .i64,.i .i64,.i .i64,.b,.i .i64,.i .i64,.i .i64,.l (.st 0),.i .i64,.i .i64,.i .i64,.i .i64,.i .i64,.i .i64,.i .i64,.i .i64,.i .i64,.l (.st 4),.s,.i .i64,.i .i64]
def k10:List TC:=[.i .i64,.s,.i .i64,.l (.s),.i .i64,.i .i64,.i .i64,.b,.i .i64,.i .i64,.i .i64,.l (.st 0),.i .i64,.i .i64,.i .i64,.i .i64,.i .i64,.i .i64,.i .i64,.i .i64,.i .i64,.l (.st 4),.i .i64,.s,.s,.i .i64,.i .i64]
def h11(v0 v1:Nat):List (Nat×TO):=[(900000000,.rw 1),(900000001,.rw 2),(900000002,.rw 3),(900000003,.rw 4),(v0,.row 120 (.l (.st 11)) v1 false)]
def h12(v0 v1 v2 v3 v4 v5 v6 v7 v8:Nat):List (Nat×TO):=[(v0,.box 30 [.d (.l (.st 1)) v1,.d (.l (.st 3)) v2,.d (.l (.st 5)) v3,.d (.l (.st 7)) v4,.d (.l (.st 8)) v5,.d (.l (.st 10)) v6,.d (.l (.st 9)) v7,.d (.i .i64) v8])]
def h13(v0:Nat):List (Nat×TO):=[(900000000,.rw 1),(900000001,.rw 2),(900000002,.rw 3),(900000003,.rw 4),(7000001,.row 9 (.s) v0 false)]
def h14:List (Nat×TO):=[(900000000,.rw 1),(900000001,.rw 2),(900000002,.rw 3),(900000003,.rw 4),(1000002,.box 35 [.d (.i .i64) 1,.d (.i .i64) 2,.d .s 3,.d .s 4,.d (.l (.st 0)) 5])]
def k15:List TC:=[.i .i64,.i .i64,.i .i64,.s,.s,.l (.st 0)]
def h16(v0 v1 v2 v3 v4 v5:Nat):List (Nat×TO):=[(900000000,.rw 1),(900000001,.rw 2),(900000002,.rw 3),(900000003,.rw 4),(1000002,.box 35 [.d (.i .i64) v0,.d (.i .i64) v1,.d .s v2,.d .s v3,.d (.l (.st 0)) v4]),(1000005,.box 35 [.d (.i .i64) v0,.d (.i .i64) 7,.d .s 8,.d .s v5,.d (.l (.st 0)) v4])]
def h17(v0 v1 v2 v3 v4 v5 v6 v7 v8 v9 v10 v11 v12 v13 v14 v15 v16 v17 v18 v19 v20 v21 v22 v23 v24 v25 v26 v27 v28 v29 v30 v31 v32 v33 v34 v35 v36 v37 v38 v39 v40 v41:Nat):List (Nat×TO):=[(v0,.box 39 [.d .s v1,.d (.l (.s)) v2,.d (.l (.s)) v3,.d (.i .i64) v4,.d (.i .i64) v5,.d (.i .i64) v6,.d .b v7,.d (.i .i64) v8,.d (.i .i64) v9,.d (.i .i64) v10,.d .s v11,.d .s v12,.d (.l (.st 0)) v13,.d (.i .i64) v14,.d (.i .i64) v15,.d (.i .i64) v16,.d (.i .i64) v17,.d (.i .i64) v18,.d (.i .i64) v19,.d (.i .i64) v20]),(v21,.box 39 [.d .s v22,.d (.l (.s)) v23,.d (.l (.s)) v24,.d (.i .i64) v25,.d (.i .i64) v26,.d (.i .i64) v27,.d .b v28,.d (.i .i64) v29,.d (.i .i64) v30,.d (.i .i64) v31,.d .s v32,.d .s v33,.d (.l (.st 0)) v34,.d (.i .i64) v35,.d (.i .i64) v36,.d (.i .i64) v37,.d (.i .i64) v38,.d (.i .i64) v39,.d (.i .i64) v40,.d (.i .i64) v41])]
def k18:List TC:=[.s,.l (.s),.l (.s),.i .i64,.i .i64,.i .i64,.b,.i .i64,.i .i64,.i .i64,.s,.s,.l (.st 0),.i .i64,.i .i64,.i .i64,.i .i64,.i .i64,.i .i64,.i .i64,.s,.l (.s),.l (.s),.i .i64,.i .i64,.i .i64,.b,.i .i64,.i .i64,.i .i64,.s,.s,.l (.st 0),.i .i64,.i .i64,.i .i64,.i .i64,.i .i64,.i .i64,.i .i64]
def k19:List TC:=[.s,.l (.s),.l (.s),.i .i64,.i .i64,.i .i64,.b,.i .i64,.i .i64,.i .i64,.s,.s,.l (.st 0),.i .i64,.i .i64,.i .i64,.i .i64,.i .i64,.i .i64,.i .i64]
def h20(v0 v1 v2 v3 v4 v5 v6 v7 v8:Nat):List (Nat×TO):=[(900000000,.rw 1),(900000001,.rw 2),(900000002,.rw 3),(900000003,.rw 4),(v0,.box 30 [.d (.l (.st 1)) v1,.d (.l (.st 3)) v2,.d (.l (.st 5)) v3,.d (.l (.st 7)) v4,.d (.l (.st 8)) v5,.d (.l (.st 10)) v6,.d (.l (.st 9)) v7,.d (.i .i64) v8])]
def h21(v0 v1 v2 v3 v4 v5 v6 v7:Nat):List (Nat×TO):=[(900000000,.rw 1),(900000001,.rw 2),(900000002,.rw 3),(900000003,.rw 4),(1000001,.box 30 [.d (.l (.st 1)) v0,.d (.l (.st 3)) v1,.d (.l (.st 5)) v2,.d (.l (.st 7)) v3,.d (.l (.st 8)) v4,.d (.l (.st 10)) 0,.d (.l (.st 9)) v5,.d (.i .i64) v6]),(1000170,.row 77 (.st 9) v7 false)]
def h22(v0 v1 v2 v3 v4 v5 v6 v7 v8 v9 v10 v11 v12 v13 v14 v15 v16 v17 v18 v19 v20 v21 v22 v23 v24 v25 v26 v27 v28 v29 v30:Nat):List (Nat×TO):=[(v0,.box 42 [.d (.i .i64) v1,.d .s v2,.d .s v3,.d (.i .i64) v4,.d .s v5,.d (.l (.s)) v6,.d (.l (.s)) v7,.d (.i .i64) v8,.d (.i .i64) v9,.d (.i .i64) v10,.d .b v11,.d (.i .i64) v12,.d (.i .i64) v13,.d (.i .i64) v14,.d .s v15,.d .s v16,.d (.l (.st 0)) v17,.d (.i .i64) v18,.d (.i .i64) v19,.d (.i .i64) v20,.d (.i .i64) v21,.d (.i .i64) v22,.d (.i .i64) v23,.d (.i .i64) v24,.d (.i .i64) v25,.d (.i .i64) v26,.d .s v27,.d .s v28,.d (.l (.st 0)) v29,.d (.l (.st 4)) v30])]
def k23:List TC:=[.i .i64,.s,.s,.i .i64,.s,.l (.s),.l (.s),.i .i64,.i .i64,.i .i64,.b,.i .i64,.i .i64,.i .i64,.s,.s,.l (.st 0),.i .i64,.i .i64,.i .i64,.i .i64,.i .i64,.i .i64,.i .i64,.i .i64,.i .i64,.s,.s,.l (.st 0),.l (.st 4)]
def h24(v0 v1 v2 v3 v4 v5 v6 v7 v8 v9 v10 v11 v12 v13 v14 v15 v16 v17 v18 v19 v20 v21 v22 v23 v24 v25 v26 v27 v28 v29 v30 v31 v32 v33 v34 v35 v36 v37 v38 v39 v40 v41 v42 v43 v44 v45 v46 v47 v48 v49 v50 v51 v52 v53 v54 v55 v56 v57 v58:Nat):List (Nat×TO):=[(1000002,.box 42 [.d (.i .i64) 0,.d .s 1,.d .s v0,.d (.i .i64) v1,.d .s v2,.d (.l (.s)) v3,.d (.l (.s)) v4,.d (.i .i64) v5,.d (.i .i64) v6,.d (.i .i64) v7,.d .b v8,.d (.i .i64) v9,.d (.i .i64) v10,.d (.i .i64) v11,.d .s v12,.d .s v13,.d (.l (.st 0)) v14,.d (.i .i64) v15,.d (.i .i64) v16,.d (.i .i64) v17,.d (.i .i64) v18,.d (.i .i64) v19,.d (.i .i64) v20,.d (.i .i64) v21,.d (.i .i64) v22,.d (.i .i64) v23,.d .s v24,.d .s v25,.d (.l (.st 0)) v26,.d (.l (.st 4)) v27]),(v28,.box 42 [.d (.i .i64) v29,.d .s v30,.d .s v31,.d (.i .i64) v32,.d .s v33,.d (.l (.s)) v34,.d (.l (.s)) v35,.d (.i .i64) v36,.d (.i .i64) v37,.d (.i .i64) v38,.d .b v39,.d (.i .i64) v40,.d (.i .i64) v41,.d (.i .i64) v42,.d .s v43,.d .s v44,.d (.l (.st 0)) v45,.d (.i .i64) v46,.d (.i .i64) v47,.d (.i .i64) v48,.d (.i .i64) v49,.d (.i .i64) v50,.d (.i .i64) v51,.d (.i .i64) v52,.d (.i .i64) v53,.d (.i .i64) v54,.d .s v55,.d .s v56,.d (.l (.st 0)) v57,.d (.l (.st 4)) v58])]
def h25(v0 v1 v2 v3 v4 v5 v6 v7 v8 v9 v10 v11 v12 v13 v14 v15 v16:Nat):List (Nat×TO):=[(1000002,.box 30 [.d (.l (.st 1)) v0,.d (.l (.st 3)) v1,.d (.l (.st 5)) v2,.d (.l (.st 7)) v3,.d (.l (.st 8)) v4,.d (.l (.st 10)) v5,.d (.l (.st 9)) v6,.d (.i .i64) v7]),(v8,.box 30 [.d (.l (.st 1)) v9,.d (.l (.st 3)) v10,.d (.l (.st 5)) v11,.d (.l (.st 7)) v12,.d (.l (.st 8)) v13,.d (.l (.st 10)) v14,.d (.l (.st 9)) v15,.d (.i .i64) v16])]
def k26:List TC:=[.l (.st 1),.l (.st 3),.l (.st 5),.l (.st 7),.l (.st 8),.l (.st 10),.l (.st 9),.i .i64,.l (.st 1),.l (.st 3),.l (.st 5),.l (.st 7),.l (.st 8),.l (.st 10),.l (.st 9),.i .i64]
def k27:List TC:=[.i .i64,.s,.s,.i .i64,.s,.l (.s),.l (.s),.i .i64,.i .i64,.i .i64,.b,.i .i64,.i .i64,.i .i64,.s,.s,.l (.st 0),.i .i64,.i .i64,.i .i64,.i .i64,.i .i64,.i .i64,.i .i64,.i .i64,.i .i64,.s,.s,.l (.st 0),.l (.st 4),.i .i64,.s,.s,.i .i64,.s,.l (.s),.l (.s),.i .i64,.i .i64,.i .i64,.b,.i .i64,.i .i64,.i .i64,.s,.s,.l (.st 0),.i .i64,.i .i64,.i .i64,.i .i64,.i .i64,.i .i64,.i .i64,.i .i64,.i .i64,.s,.s,.l (.st 0),.l (.st 4)]
def h28(v0:Nat):List (Nat×TO):=[(900000000,.rw 1),(900000001,.rw 2),(900000002,.rw 3),(900000003,.rw 4),(1000004,.gn 0 (.s) v0)]
def h29(v0 v1 v2 v3 v4 v5 v6 v7 v8 v9 v10 v11 v12 v13 v14 v15 v16 v17 v18 v19 v20 v21 v22 v23 v24 v25 v26 v27 v28 v29 v30 v31 v32:Nat):List (Nat×TO):=[(1,.row v0 (.st v1) v2 false),(2,.box 42 [.d (.i .i64) v3,.d .s v4,.d .s v5,.d (.i .i64) v6,.d .s v7,.d (.l (.s)) v8,.d (.l (.s)) v9,.d (.i .i64) v10,.d (.i .i64) v11,.d (.i .i64) v12,.d .b v13,.d (.i .i64) v14,.d (.i .i64) v15,.d (.i .i64) v16,.d .s v17,.d .s v18,.d (.l (.st 0)) v19,.d (.i .i64) v20,.d (.i .i64) v21,.d (.i .i64) v22,.d (.i .i64) v23,.d (.i .i64) v24,.d (.i .i64) v25,.d (.i .i64) v26,.d (.i .i64) v27,.d (.i .i64) v28,.d .s v29,.d .s v30,.d (.l (.st 0)) v31,.d (.l (.st 4)) v32])]
def k30:List TC:=[.l (.st 7),.i .i64,.i .i64,.s,.s,.i .i64,.s,.l (.s),.l (.s),.i .i64,.i .i64,.i .i64,.b,.i .i64,.i .i64,.i .i64,.s,.s,.l (.st 0),.i .i64,.i .i64,.i .i64,.i .i64,.i .i64,.i .i64,.i .i64,.i .i64,.i .i64,.s,.s,.l (.st 0),.l (.st 4)]
def k31:List TC:=[.l (.st 7),.i .i64,.s,.s,.i .i64,.s,.l (.s),.l (.s),.i .i64,.i .i64,.i .i64,.b,.i .i64,.i .i64,.i .i64,.s,.s,.l (.st 0),.i .i64,.i .i64,.i .i64,.i .i64,.i .i64,.i .i64,.i .i64,.i .i64,.i .i64,.s,.s,.l (.st 0),.l (.st 4),.i .i64]
def h32(v0 v1:Nat):List (Nat×TO):=[(1,.box 42 [.d (.i .i64) 0,.d .s 1,.d .s 2,.d (.i .i64) 3,.d .s 4,.d (.l (.s)) 5,.d (.l (.s)) 6,.d (.i .i64) 7,.d (.i .i64) 8,.d (.i .i64) 9,.d .b 10,.d (.i .i64) 11,.d (.i .i64) 12,.d (.i .i64) 13,.d .s 14,.d .s 15,.d (.l (.st 0)) 16,.d (.i .i64) 17,.d (.i .i64) 18,.d (.i .i64) 19,.d (.i .i64) 20,.d (.i .i64) 21,.d (.i .i64) 22,.d (.i .i64) 23,.d (.i .i64) 24,.d (.i .i64) 25,.d .s 26,.d .s 27,.d (.l (.st 0)) 28,.d (.l (.st 4)) 29]),(103001300,.row v0 (.st v1) 31 false)]
def h33:List (Nat×TO):=[(1,.row 39 (.st 7) 0 false),(2,.box 9 [.d .s 1])]
def h34:List (Nat×TO):=[(1,.box 9 [.d .s 1]),(2,.box 42 [.d (.i .i64) 2,.d .s 3,.d .s 4,.d (.i .i64) 5,.d .s 6,.d (.l (.s)) 7,.d (.l (.s)) 8,.d (.i .i64) 9,.d (.i .i64) 10,.d (.i .i64) 11,.d .b 12,.d (.i .i64) 13,.d (.i .i64) 14,.d (.i .i64) 15,.d .s 16,.d .s 17,.d (.l (.st 0)) 18,.d (.i .i64) 19,.d (.i .i64) 20,.d (.i .i64) 21,.d (.i .i64) 22,.d (.i .i64) 23,.d (.i .i64) 24,.d (.i .i64) 25,.d (.i .i64) 26,.d (.i .i64) 27,.d .s 28,.d .s 29,.d (.l (.st 0)) 30,.d (.l (.st 4)) 31])]
def k35:List TC:=[.l (.st 7),.s,.i .i64,.s,.s,.i .i64,.s,.l (.s),.l (.s),.i .i64,.i .i64,.i .i64,.b,.i .i64,.i .i64,.i .i64,.s,.s,.l (.st 0),.i .i64,.i .i64,.i .i64,.i .i64,.i .i64,.i .i64,.i .i64,.i .i64,.i .i64,.s,.s,.l (.st 0),.l (.st 4),.i .i64]
def k36:List TC:=[.s,.i .i64,.s,.s,.i .i64,.s,.l (.s),.l (.s),.i .i64,.i .i64,.i .i64,.b,.i .i64,.i .i64,.i .i64,.s,.s,.l (.st 0),.i .i64,.i .i64,.i .i64,.i .i64,.i .i64,.i .i64,.i .i64,.i .i64,.i .i64,.s,.s,.l (.st 0),.l (.st 4)]
def k37:List TC:=[.l (.st 7),.s,.i .i64,.s,.s,.i .i64,.s,.l (.s),.l (.s),.i .i64,.i .i64,.i .i64,.b,.i .i64,.i .i64,.i .i64,.s,.s,.l (.st 0),.i .i64,.i .i64,.i .i64,.i .i64,.i .i64,.i .i64,.i .i64,.i .i64,.i .i64,.s,.s,.l (.st 0),.l (.st 4)]
def k38:List TC:=[.st 1,.i .i64,.s,.s,.i .i64,.s,.l (.s),.l (.s),.i .i64,.i .i64,.i .i64,.b,.i .i64,.i .i64,.i .i64,.s,.s,.l (.st 0),.i .i64,.i .i64,.i .i64,.i .i64,.i .i64,.i .i64,.i .i64,.i .i64,.i .i64,.s,.s,.l (.st 0),.l (.st 4)]
def k39:List TC:=[.l (.st 1),.i .i64,.s,.s,.i .i64,.s,.l (.s),.l (.s),.i .i64,.i .i64,.i .i64,.b,.i .i64,.i .i64,.i .i64,.s,.s,.l (.st 0),.i .i64,.i .i64,.i .i64,.i .i64,.i .i64,.i .i64,.i .i64,.i .i64,.i .i64,.s,.s,.l (.st 0),.l (.st 4)]
def k40:List TC:=[.l (.st 1),.i .i64,.s,.s,.i .i64,.s,.l (.s),.l (.s),.i .i64,.i .i64,.i .i64,.b,.i .i64,.i .i64,.i .i64,.s,.s,.l (.st 0),.i .i64,.i .i64,.i .i64,.i .i64,.i .i64,.i .i64,.i .i64,.i .i64,.i .i64,.s,.s,.l (.st 0),.l (.st 4),.i .i64]
def k41:List TC:=[.l (.st 1),.i .i64,.i .i64,.s,.s,.i .i64,.s,.l (.s),.l (.s),.i .i64,.i .i64,.i .i64,.b,.i .i64,.i .i64,.i .i64,.s,.s,.l (.st 0),.i .i64,.i .i64,.i .i64,.i .i64,.i .i64,.i .i64,.i .i64,.i .i64,.i .i64,.s,.s,.l (.st 0),.l (.st 4)]
def k42:List TC:=[.st 3,.i .i64,.s,.s,.i .i64,.s,.l (.s),.l (.s),.i .i64,.i .i64,.i .i64,.b,.i .i64,.i .i64,.i .i64,.s,.s,.l (.st 0),.i .i64,.i .i64,.i .i64,.i .i64,.i .i64,.i .i64,.i .i64,.i .i64,.i .i64,.s,.s,.l (.st 0),.l (.st 4)]
def k43:List TC:=[.l (.st 3),.i .i64,.s,.s,.i .i64,.s,.l (.s),.l (.s),.i .i64,.i .i64,.i .i64,.b,.i .i64,.i .i64,.i .i64,.s,.s,.l (.st 0),.i .i64,.i .i64,.i .i64,.i .i64,.i .i64,.i .i64,.i .i64,.i .i64,.i .i64,.s,.s,.l (.st 0),.l (.st 4)]
def k44:List TC:=[.l (.st 3),.i .i64,.s,.s,.i .i64,.s,.l (.s),.l (.s),.i .i64,.i .i64,.i .i64,.b,.i .i64,.i .i64,.i .i64,.s,.s,.l (.st 0),.i .i64,.i .i64,.i .i64,.i .i64,.i .i64,.i .i64,.i .i64,.i .i64,.i .i64,.s,.s,.l (.st 0),.l (.st 4),.i .i64]
def k45:List TC:=[.st 2,.i .i64,.s,.s,.i .i64,.s,.l (.s),.l (.s),.i .i64,.i .i64,.i .i64,.b,.i .i64,.i .i64,.i .i64,.s,.s,.l (.st 0),.i .i64,.i .i64,.i .i64,.i .i64,.i .i64,.i .i64,.i .i64,.i .i64,.i .i64,.s,.s,.l (.st 0),.l (.st 4)]
def k46:List TC:=[.l (.st 2),.i .i64,.s,.s,.i .i64,.s,.l (.s),.l (.s),.i .i64,.i .i64,.i .i64,.b,.i .i64,.i .i64,.i .i64,.s,.s,.l (.st 0),.i .i64,.i .i64,.i .i64,.i .i64,.i .i64,.i .i64,.i .i64,.i .i64,.i .i64,.s,.s,.l (.st 0),.l (.st 4)]
def k47:List TC:=[.l (.st 2),.i .i64,.s,.s,.i .i64,.s,.l (.s),.l (.s),.i .i64,.i .i64,.i .i64,.b,.i .i64,.i .i64,.i .i64,.s,.s,.l (.st 0),.i .i64,.i .i64,.i .i64,.i .i64,.i .i64,.i .i64,.i .i64,.i .i64,.i .i64,.s,.s,.l (.st 0),.l (.st 4),.i .i64]
def k48:List TC:=[.l (.st 2),.i .i64,.i .i64,.s,.s,.i .i64,.s,.l (.s),.l (.s),.i .i64,.i .i64,.i .i64,.b,.i .i64,.i .i64,.i .i64,.s,.s,.l (.st 0),.i .i64,.i .i64,.i .i64,.i .i64,.i .i64,.i .i64,.i .i64,.i .i64,.i .i64,.s,.s,.l (.st 0),.l (.st 4)]
def h49(v0 v1:Nat):List (Nat×TO):=[(1,.row 70 (.st 3) v0 false),(2,.box 42 [.d (.i .i64) 2,.d .s 3,.d .s 4,.d (.i .i64) 5,.d .s 6,.d (.l (.s)) 7,.d (.l (.s)) 8,.d (.i .i64) 9,.d (.i .i64) 10,.d (.i .i64) 11,.d .b 12,.d (.i .i64) 13,.d (.i .i64) 14,.d (.i .i64) 15,.d .s 16,.d .s 17,.d (.l (.st 0)) 18,.d (.i .i64) 19,.d (.i .i64) 20,.d (.i .i64) 21,.d (.i .i64) 22,.d (.i .i64) 23,.d (.i .i64) 24,.d (.i .i64) 25,.d (.i .i64) 26,.d (.i .i64) 27,.d .s 28,.d .s 29,.d (.l (.st 0)) 30,.d (.l (.st 4)) 31]),(3,.box 46 [.d (.i .i64) v1])]
def k50:List TC:=[.l (.st 3),.i .i64,.i .i64,.s,.s,.i .i64,.s,.l (.s),.l (.s),.i .i64,.i .i64,.i .i64,.b,.i .i64,.i .i64,.i .i64,.s,.s,.l (.st 0),.i .i64,.i .i64,.i .i64,.i .i64,.i .i64,.i .i64,.i .i64,.i .i64,.i .i64,.s,.s,.l (.st 0),.l (.st 4),.i .i64]
def h51(v0:Nat):List (Nat×TO):=[(1,.box 42 [.d (.i .i64) 1,.d .s 2,.d .s 3,.d (.i .i64) 4,.d .s 5,.d (.l (.s)) 6,.d (.l (.s)) 7,.d (.i .i64) 8,.d (.i .i64) 9,.d (.i .i64) 10,.d .b 11,.d (.i .i64) 12,.d (.i .i64) 13,.d (.i .i64) 14,.d .s 15,.d .s 16,.d (.l (.st 0)) 17,.d (.i .i64) 18,.d (.i .i64) 19,.d (.i .i64) 20,.d (.i .i64) 21,.d (.i .i64) 22,.d (.i .i64) 23,.d (.i .i64) 24,.d (.i .i64) 25,.d (.i .i64) 26,.d .s 27,.d .s 28,.d (.l (.st 0)) 29,.d (.l (.st 4)) 30]),(2,.box 46 [.d (.i .i64) v0])]
def k52:List TC:=[.l (.st 3),.i .i64,.s,.s,.i .i64,.s,.l (.s),.l (.s),.i .i64,.i .i64,.i .i64,.b,.i .i64,.i .i64,.i .i64,.s,.s,.l (.st 0),.i .i64,.i .i64,.i .i64,.i .i64,.i .i64,.i .i64,.i .i64,.i .i64,.i .i64,.s,.s,.l (.st 0),.l (.st 4),.i .i64,.i .i64]
def k53:List TC:=[.i .i64,.s,.s,.i .i64,.s,.l (.s),.l (.s),.i .i64,.i .i64,.i .i64,.b,.i .i64,.i .i64,.i .i64,.s,.s,.l (.st 0),.i .i64,.i .i64,.i .i64,.i .i64,.i .i64,.i .i64,.i .i64,.i .i64,.i .i64,.s,.s,.l (.st 0),.l (.st 4),.i .i64]
def k54:List TC:=[.st 5,.i .i64,.s,.s,.i .i64,.s,.l (.s),.l (.s),.i .i64,.i .i64,.i .i64,.b,.i .i64,.i .i64,.i .i64,.s,.s,.l (.st 0),.i .i64,.i .i64,.i .i64,.i .i64,.i .i64,.i .i64,.i .i64,.i .i64,.i .i64,.s,.s,.l (.st 0),.l (.st 4)]
def k55:List TC:=[.l (.st 5),.i .i64,.s,.s,.i .i64,.s,.l (.s),.l (.s),.i .i64,.i .i64,.i .i64,.b,.i .i64,.i .i64,.i .i64,.s,.s,.l (.st 0),.i .i64,.i .i64,.i .i64,.i .i64,.i .i64,.i .i64,.i .i64,.i .i64,.i .i64,.s,.s,.l (.st 0),.l (.st 4)]
def k56:List TC:=[.i .i64,.s,.s,.i .i64,.s,.l (.s),.l (.s),.i .i64,.i .i64,.i .i64,.b,.i .i64,.i .i64,.i .i64,.s,.s,.l (.st 0),.i .i64,.i .i64,.i .i64,.i .i64,.i .i64,.i .i64,.i .i64,.i .i64,.i .i64,.s,.s,.l (.st 0),.l (.st 4),.l (.st 5),.i .i64]
def k57:List TC:=[.l (.st 5),.i .i64,.s,.s,.i .i64,.s,.l (.s),.l (.s),.i .i64,.i .i64,.i .i64,.b,.i .i64,.i .i64,.i .i64,.s,.s,.l (.st 0),.i .i64,.i .i64,.i .i64,.i .i64,.i .i64,.i .i64,.i .i64,.i .i64,.i .i64,.s,.s,.l (.st 0),.l (.st 4),.i .i64]
def k58:List TC:=[.l (.st 5),.i .i64,.i .i64,.s,.s,.i .i64,.s,.l (.s),.l (.s),.i .i64,.i .i64,.i .i64,.b,.i .i64,.i .i64,.i .i64,.s,.s,.l (.st 0),.i .i64,.i .i64,.i .i64,.i .i64,.i .i64,.i .i64,.i .i64,.i .i64,.i .i64,.s,.s,.l (.st 0),.l (.st 4)]
def k59:List TC:=[.st 8,.i .i64,.s,.s,.i .i64,.s,.l (.s),.l (.s),.i .i64,.i .i64,.i .i64,.b,.i .i64,.i .i64,.i .i64,.s,.s,.l (.st 0),.i .i64,.i .i64,.i .i64,.i .i64,.i .i64,.i .i64,.i .i64,.i .i64,.i .i64,.s,.s,.l (.st 0),.l (.st 4)]
def k60:List TC:=[.l (.st 8),.i .i64,.s,.s,.i .i64,.s,.l (.s),.l (.s),.i .i64,.i .i64,.i .i64,.b,.i .i64,.i .i64,.i .i64,.s,.s,.l (.st 0),.i .i64,.i .i64,.i .i64,.i .i64,.i .i64,.i .i64,.i .i64,.i .i64,.i .i64,.s,.s,.l (.st 0),.l (.st 4)]
def k61:List TC:=[.i .i64,.s,.s,.i .i64,.s,.l (.s),.l (.s),.i .i64,.i .i64,.i .i64,.b,.i .i64,.i .i64,.i .i64,.s,.s,.l (.st 0),.i .i64,.i .i64,.i .i64,.i .i64,.i .i64,.i .i64,.i .i64,.i .i64,.i .i64,.s,.s,.l (.st 0),.l (.st 4),.l (.st 8),.i .i64]
def k62:List TC:=[.l (.st 8),.i .i64,.s,.s,.i .i64,.s,.l (.s),.l (.s),.i .i64,.i .i64,.i .i64,.b,.i .i64,.i .i64,.i .i64,.s,.s,.l (.st 0),.i .i64,.i .i64,.i .i64,.i .i64,.i .i64,.i .i64,.i .i64,.i .i64,.i .i64,.s,.s,.l (.st 0),.l (.st 4),.i .i64]
def k63:List TC:=[.l (.st 8),.i .i64,.i .i64,.s,.s,.i .i64,.s,.l (.s),.l (.s),.i .i64,.i .i64,.i .i64,.b,.i .i64,.i .i64,.i .i64,.s,.s,.l (.st 0),.i .i64,.i .i64,.i .i64,.i .i64,.i .i64,.i .i64,.i .i64,.i .i64,.i .i64,.s,.s,.l (.st 0),.l (.st 4)]
def k64:List TC:=[.i .i64,.l (.st 1),.l (.st 3),.l (.st 5),.l (.st 7),.l (.st 8),.l (.st 10),.l (.st 9),.i .i64]
def h65:List (Nat×TO):=[(1000002,.box 30 [.d (.l (.st 1)) 0,.d (.l (.st 3)) 1,.d (.l (.st 5)) 2,.d (.l (.st 7)) 3,.d (.l (.st 8)) 4,.d (.l (.st 10)) 5,.d (.l (.st 9)) 6,.d (.i .i64) 7]),(1000003,.box 42 [.d (.i .i64) 8,.d .s 9,.d .s 10,.d (.i .i64) 11,.d .s 12,.d (.l (.s)) 13,.d (.l (.s)) 14,.d (.i .i64) 15,.d (.i .i64) 16,.d (.i .i64) 17,.d .b 18,.d (.i .i64) 19,.d (.i .i64) 20,.d (.i .i64) 21,.d .s 22,.d .s 23,.d (.l (.st 0)) 24,.d (.i .i64) 25,.d (.i .i64) 26,.d (.i .i64) 27,.d (.i .i64) 28,.d (.i .i64) 29,.d (.i .i64) 30,.d (.i .i64) 31,.d (.i .i64) 32,.d (.i .i64) 33,.d .s 34,.d .s 35,.d (.l (.st 0)) 36,.d (.l (.st 4)) 37]),(1000004,.box 30 [.d (.l (.st 1)) 38,.d (.l (.st 3)) 39,.d (.l (.st 5)) 40,.d (.l (.st 7)) 41,.d (.l (.st 8)) 42,.d (.l (.st 10)) 43,.d (.l (.st 9)) 44,.d (.i .i64) 45])]
def k66:List TC:=[.l (.st 1),.l (.st 3),.l (.st 5),.l (.st 7),.l (.st 8),.l (.st 10),.l (.st 9),.i .i64,.i .i64,.s,.s,.i .i64,.s,.l (.s),.l (.s),.i .i64,.i .i64,.i .i64,.b,.i .i64,.i .i64,.i .i64,.s,.s,.l (.st 0),.i .i64,.i .i64,.i .i64,.i .i64,.i .i64,.i .i64,.i .i64,.i .i64,.i .i64,.s,.s,.l (.st 0),.l (.st 4),.l (.st 1),.l (.st 3),.l (.st 5),.l (.st 7),.l (.st 8),.l (.st 10),.l (.st 9),.i .i64]
def h67(v0 v1 v2 v3 v4 v5:Nat):List (Nat×TO):=[(v0,.box 35 [.d (.i .i64) v1,.d (.i .i64) v2,.d .s v3,.d .s v4,.d (.l (.st 0)) v5])]
def h68(v0:Nat):List (Nat×TO):=[(1000001,.box 35 [.d (.i .i64) 2,.d (.i .i64) 3,.d .s 4,.d .s 5,.d (.l (.st 0)) 0]),(1000002,.box 35 [.d (.i .i64) 6,.d (.i .i64) 6,.d .s 7,.d .s 7,.d (.l (.st 0)) 8]),(7001001,.row 35 (.st 0) v0 false)]
def h69(v0 v1 v2 v3 v4 v5 v6 v7 v8 v9 v10 v11 v12 v13 v14 v15 v16 v17:Nat):List (Nat×TO):=[(1000001,.box 30 [.row 6 103001200,.row 3 103001500,.row 3 103001800,.row 20 103002100,.row 4 103002800,.row 6 103003100,.d (.l (.st 9)) 1,.d (.i .i64) 2]),(1000002,.box 30 [.row 6 1001000002000,.row 3 1001000002001,.row 3 1001000002002,.row 20 1001000002003,.row 4 1001000002004,.row 6 1001000002005,.d (.l (.st 9)) 3,.d (.i .i64) 4]),(v0,.row v1 (.st v2) v3 false),(v4,.row v5 (.st v6) v7 false),(v8,.row v9 (.st v10) v11 false),(v12,.row v13 (.st v14) v15 false),(103002800,.row 75 (.st 8) v16 false),(103003100,.row 79 (.st 10) v17 false),(1001000002000,.row 67 (.st 1) 10 false),(1001000002001,.row 70 (.st 3) 11 false),(1001000002002,.row 72 (.st 5) 12 false),(1001000002003,.row 39 (.st 7) 13 false),(1001000002004,.row 75 (.st 8) 14 false),(1001000002005,.row 79 (.st 10) 15 false)]
def h70(v0 v1 v2 v3 v4 v5:Nat):List (Nat×TO):=[(1,.box 67 [.d .s v0,.d (.i .i64) v1,.d (.i .i64) v2,.d .s v3,.d .s v4,.d (.l (.st 0)) v5])]
def h71(v0 v1 v2:Nat):List (Nat×TO):=[(1,.box 70 [.d .s v0,.d (.l (.st 2)) v1,.d (.i .i64) v2])]
def h72(v0 v1:Nat):List (Nat×TO):=[(1,.box 86 [.d .s v0,.d (.i .i64) v1])]
def h73(v0 v1 v2:Nat):List (Nat×TO):=[(1,.box 72 [.d .s v0,.d .b v1,.d (.l (.st 4)) v2])]
def h74(v0 v1 v2 v3 v4 v5 v6 v7 v8 v9 v10 v11 v12 v13 v14 v15 v16 v17 v18 v19:Nat):List (Nat×TO):=[(1,.box 39 [.d .s v0,.d (.l (.s)) v1,.d (.l (.s)) v2,.d (.i .i64) v3,.d (.i .i64) v4,.d (.i .i64) v5,.d .b v6,.d (.i .i64) v7,.d (.i .i64) v8,.d (.i .i64) v9,.d .s v10,.d .s v11,.d (.l (.st 0)) v12,.d (.i .i64) v13,.d (.i .i64) v14,.d (.i .i64) v15,.d (.i .i64) v16,.d (.i .i64) v17,.d (.i .i64) v18,.d (.i .i64) v19])]
def k75:List TC:=[.l (.st 7),.s,.l (.s),.l (.s),.i .i64,.i .i64,.i .i64,.b,.i .i64,.i .i64,.i .i64,.s,.s,.l (.st 0),.i .i64,.i .i64,.i .i64,.i .i64,.i .i64,.i .i64,.i .i64]
def h76(v0 v1 v2 v3:Nat):List (Nat×TO):=[(1,.box 75 [.d .s v0,.d (.i .i64) v1,.d (.i .i64) v2,.d (.l (.st 4)) v3])]
def h77(v0 v1 v2 v3 v4 v5 v6 v7 v8 v9 v10 v11 v12 v13 v14 v15 v16 v17:Nat):List (Nat×TO):=[(1000002,.box 30 [.d (.l (.st 1)) v0,.d (.l (.st 3)) v1,.d (.l (.st 5)) v2,.d (.l (.st 7)) v3,.d (.l (.st 8)) v4,.d (.l (.st 10)) v5,.d (.l (.st 9)) v6,.d (.i .i64) v7]),(1000003,.box 30 [.d (.l (.st 1)) v8,.d (.l (.st 3)) v9,.d (.l (.st 5)) v10,.d (.l (.st 7)) v11,.d (.l (.st 8)) v12,.d (.l (.st 10)) v13,.d (.l (.st 9)) v14,.d (.i .i64) v15]),(v16,.row 42 (.st 13) v17 false)]
def k78:List TC:=[.l (.st 1),.i .i64,.i .i64,.l (.st 1),.l (.st 3),.l (.st 5),.l (.st 7),.l (.st 8),.l (.st 10),.l (.st 9),.i .i64,.l (.st 3),.l (.st 5),.l (.st 7),.l (.st 8),.l (.st 10),.l (.st 9),.i .i64,.l (.st 13),.i .i64,.s,.s,.i .i64,.l (.s),.b,.l (.st 0),.i .i64,.i .i64,.s,.s,.l (.st 0),.l (.st 4)]
def h79(v0 v1 v2 v3 v4 v5 v6 v7 v8 v9 v10 v11 v12 v13 v14 v15 v16 v17 v18 v19:Nat):List (Nat×TO):=[(1000002,.box 30 [.d (.l (.st 1)) v0,.d (.l (.st 3)) v1,.d (.l (.st 5)) v2,.d (.l (.st 7)) v3,.d (.l (.st 8)) v4,.d (.l (.st 10)) v5,.d (.l (.st 9)) v6,.d (.i .i64) v7]),(1000003,.box 30 [.d (.l (.st 1)) v8,.d (.l (.st 3)) 0,.d (.l (.st 5)) v9,.d (.l (.st 7)) v10,.d (.l (.st 8)) v11,.d (.l (.st 10)) v12,.d (.l (.st 9)) v13,.d (.i .i64) v14]),(7001001,.row 42 (.st 13) 26 false),(1000012,.box 70 [.d .s v15,.d (.l (.st 2)) 3,.d (.i .i64) v16]),(1000013,.box 70 [.d .s v17,.d (.l (.st 2)) v18,.d (.i .i64) v19])]
def k80:List TC:=[.l (.st 3),.i .i64,.i .i64,.l (.st 2),.i .i64,.l (.st 1),.l (.st 3),.l (.st 5),.l (.st 7),.l (.st 8),.l (.st 10),.l (.st 9),.i .i64,.l (.st 1),.l (.st 5),.l (.st 7),.l (.st 8),.l (.st 10),.l (.st 9),.i .i64,.s,.i .i64,.s,.l (.st 2),.i .i64]
def k81:List TC:=[.l (.st 3),.i .i64,.i .i64,.l (.st 2),.i .i64,.i .i64,.l (.st 1),.l (.st 3),.l (.st 5),.l (.st 7),.l (.st 8),.l (.st 10),.l (.st 9),.i .i64,.l (.st 1),.l (.st 5),.l (.st 7),.l (.st 8),.l (.st 10),.l (.st 9),.i .i64,.s,.i .i64,.s,.l (.st 2),.i .i64]
def k82:List TC:=[.l (.st 3),.i .i64,.i .i64,.l (.st 2),.i .i64,.i .i64,.l (.st 1),.l (.st 3),.l (.st 5),.l (.st 7),.l (.st 8),.l (.st 10),.l (.st 9),.i .i64,.l (.st 1),.l (.st 5),.l (.st 7),.l (.st 8),.l (.st 10),.l (.st 9),.i .i64,.l (.st 13),.s,.i .i64,.s,.l (.st 2),.i .i64,.s,.i .i64]
def h83(v0 v1 v2 v3 v4 v5 v6 v7:Nat):List (Nat×TO):=[(1000002,.box 30 [.d (.l (.st 1)) v0,.d (.l (.st 3)) v1,.d (.l (.st 5)) v2,.d (.l (.st 7)) v3,.d (.l (.st 8)) v4,.d (.l (.st 10)) v5,.d (.l (.st 9)) v6,.d (.i .i64) v7]),(7001001,.row 42 (.st 13) 11 false)]
def h84(v0 v1 v2 v3 v4 v5 v6 v7 v8 v9 v10 v11 v12 v13 v14 v15 v16:Nat):List (Nat×TO):=[(900000000,.rw 1),(900000001,.rw 2),(900000002,.rw 3),(900000003,.rw 4),(1000002,.box 30 [.d (.l (.st 1)) v0,.d (.l (.st 3)) v1,.d (.l (.st 5)) v2,.d (.l (.st 7)) v3,.d (.l (.st 8)) v4,.d (.l (.st 10)) v5,.d (.l (.st 9)) v6,.d (.i .i64) v7]),(v8,.box 30 [.d (.l (.st 1)) v9,.d (.l (.st 3)) v10,.d (.l (.st 5)) v11,.d (.l (.st 7)) v12,.d (.l (.st 8)) v13,.d (.l (.st 10)) v14,.d (.l (.st 9)) v15,.d (.i .i64) v16])]
def h85:List (Nat×TO):=[(1000002,.box 35 [.d (.i .i64) 0,.d (.i .i64) 1,.d .s 2,.d .s 3,.d (.l (.st 0)) 4]),(1000003,.box 35 [.d (.i .i64) 5,.d (.i .i64) 6,.d .s 7,.d .s 8,.d (.l (.st 0)) 9])]
def k86:List TC:=[.i .i64,.i .i64,.s,.s,.l (.st 0),.i .i64,.i .i64,.s,.s,.l (.st 0)]
def k87:List TC:=[.b,.s,.l (.s),.l (.s),.i .i64,.i .i64,.i .i64,.b,.i .i64,.i .i64,.i .i64,.s,.s,.l (.st 0),.i .i64,.i .i64,.i .i64,.i .i64,.i .i64,.i .i64,.i .i64,.s,.l (.s),.l (.s),.i .i64,.i .i64,.i .i64,.b,.i .i64,.i .i64,.i .i64,.s,.s,.l (.st 0),.i .i64,.i .i64,.i .i64,.i .i64,.i .i64,.i .i64,.i .i64]
def k88:List TC:=[.i .i64,.l (.st 1),.l (.st 3),.l (.st 5),.l (.st 7),.l (.st 8),.l (.st 10),.l (.st 9),.i .i64,.l (.st 1),.l (.st 3),.l (.st 5),.l (.st 7),.l (.st 8),.l (.st 10),.l (.st 9),.i .i64]
def k90:List TC:=[.b,.l (.st 1),.l (.st 3),.l (.st 5),.l (.st 7),.l (.st 8),.l (.st 10),.l (.st 9),.i .i64,.i .i64,.s,.s,.i .i64,.s,.l (.s),.l (.s),.i .i64,.i .i64,.i .i64,.b,.i .i64,.i .i64,.i .i64,.s,.s,.l (.st 0),.i .i64,.i .i64,.i .i64,.i .i64,.i .i64,.i .i64,.i .i64,.i .i64,.i .i64,.s,.s,.l (.st 0),.l (.st 4),.i .i64,.s,.s,.i .i64,.s,.l (.s),.l (.s),.i .i64,.i .i64,.i .i64,.b,.i .i64,.i .i64,.i .i64,.s,.s,.l (.st 0),.i .i64,.i .i64,.i .i64,.i .i64,.i .i64,.i .i64,.i .i64,.i .i64,.i .i64,.s,.s,.l (.st 0),.l (.st 4)]
def k91:List TC:=[.b,.i .i64,.i .i64,.l (.st 1),.l (.st 3),.l (.st 5),.l (.st 7),.l (.st 8),.l (.st 10),.l (.st 9),.i .i64,.i .i64,.s,.s,.i .i64,.s,.l (.s),.l (.s),.i .i64,.i .i64,.i .i64,.b,.i .i64,.i .i64,.i .i64,.s,.s,.l (.st 0),.i .i64,.i .i64,.i .i64,.i .i64,.i .i64,.i .i64,.i .i64,.i .i64,.i .i64,.s,.s,.l (.st 0),.l (.st 4),.i .i64,.s,.s,.i .i64,.s,.l (.s),.l (.s),.i .i64,.i .i64,.i .i64,.b,.i .i64,.i .i64,.i .i64,.s,.s,.l (.st 0),.i .i64,.i .i64,.i .i64,.i .i64,.i .i64,.i .i64,.i .i64,.i .i64,.i .i64,.s,.s,.l (.st 0),.l (.st 4),.l (.st 1),.l (.st 3),.l (.st 5),.l (.st 7),.l (.st 8),.l (.st 10),.l (.st 9),.i .i64,.l (.st 1),.l (.st 3),.l (.st 5),.l (.st 7),.l (.st 8),.l (.st 10),.l (.st 9),.i .i64]
def h92:List (Nat×TO):=[(900000000,.rw 1),(900000001,.rw 2),(900000002,.rw 3),(900000003,.rw 4),(1000003,.box 30 [.d (.l (.st 1)) 1,.d (.l (.st 3)) 2,.d (.l (.st 5)) 3,.d (.l (.st 7)) 4,.d (.l (.st 8)) 5,.d (.l (.st 10)) 6,.d (.l (.st 9)) 7,.d (.i .i64) 8]),(1000008,.box 30 [.d (.l (.st 1)) 9,.d (.l (.st 3)) 10,.d (.l (.st 5)) 11,.d (.l (.st 7)) 12,.d (.l (.st 8)) 13,.d (.l (.st 10)) 14,.d (.l (.st 9)) 15,.d (.i .i64) 16]),(1000010,.box 30 [.d (.l (.st 1)) 17,.d (.l (.st 3)) 18,.d (.l (.st 5)) 19,.d (.l (.st 7)) 20,.d (.l (.st 8)) 21,.d (.l (.st 10)) 22,.d (.l (.st 9)) 23,.d (.i .i64) 24])]
def k93:List TC:=[.b,.l (.st 1),.l (.st 3),.l (.st 5),.l (.st 7),.l (.st 8),.l (.st 10),.l (.st 9),.i .i64,.l (.st 1),.l (.st 3),.l (.st 5),.l (.st 7),.l (.st 8),.l (.st 10),.l (.st 9),.i .i64,.l (.st 1),.l (.st 3),.l (.st 5),.l (.st 7),.l (.st 8),.l (.st 10),.l (.st 9),.i .i64]
def zBb:Nat→Type
 |0=>Expr
 |1=>Def
 |2=>Entry
 |3=>Table
 |4=>zu
 |5=>zr
 |6=>zg
 |7=>zb
 |8=>Cap
 |9=>zj
 |10=>View
 |11=>Token
 |12=>zK
 |13=>zq
 |14=>zl
 |_=>Unit
def TS0:Tab where
 T:=zBb
 dflt:=fun n=>match n with
  |0=>(default:Expr)
  |1=>(default:Def)
  |2=>(default:Entry)
  |3=>(default:Table)
  |4=>(default:zu)
  |5=>(default:zr)
  |6=>(default:zg)
  |7=>(default:zb)
  |8=>(default:Cap)
  |9=>(default:zj)
  |10=>(default:View)
  |11=>(default:Token)
  |12=>(default:zK)
  |13=>(default:zq)
  |14=>(default:zl)
  |_+15=>()
 fl:=fun n=>match n with
  |0=>[.i .i64,.i .i64,.s,.s,.l (.st 0)]
  |1=>[.s,.st 0]
  |2=>[.s,.i .i64]
  |3=>[.s,.l (.st 2),.i .i64]
  |4=>[.i .i64,.i .i64]
  |5=>[.s,.b,.l (.st 4)]
  |6=>[.i .i64,.i .i64,.i .i64,.i .i64]
  |7=>[.s,.l (.s),.l (.s),.i .i64,.i .i64,.i .i64,.b,.i .i64,.st 0,.st 6,.i .i64,.i .i64,.i .i64]
  |8=>[.s,.i .i64,.i .i64,.l (.st 4)]
  |9=>[.i .i64,.i .i64,.i .i64]
  |10=>[.s,.st 9,.i .i64,.l (.st 9)]
  |11=>[.i .i64,.s,.i .i64,.i .i64]
  |12=>k1
  |13=>[.i .i64,.s,.s,.i .i64,.st 7,.st 0,.l (.st 4)]
  |14=>[.st 4,.st 4]
  |_+15=>[]
 cn:=fun n=>match n with
  |0=>5
  |1=>6
  |2=>2
  |3=>3
  |4=>2
  |5=>3
  |6=>4
  |7=>20
  |8=>4
  |9=>3
  |10=>6
  |11=>4
  |12=>8
  |13=>30
  |14=>4
  |_+15=>0
 out:=fun n=>match n with
  |0=>fun x=>((x:Expr).Op,(x:Expr).N,(x:Expr).S,(x:Expr).Key,(x:Expr).Args)
  |1=>fun x=>((x:Def).Name,(x:Def).Body)
  |2=>fun x=>((x:Entry).Name,(x:Entry).N)
  |3=>fun x=>((x:Table).Name,(x:Table).Rows,(x:Table).Else)
  |4=>fun x=>((x:zu).X,(x:zu).Y)
  |5=>fun x=>((x:zr).Name,(x:zr).Overlay,(x:zr).Corners)
  |6=>fun x=>((x:zg).Side,(x:zg).Base,(x:zg).Num,(x:zg).Den)
  |7=>fun x=>((x:zb).Name,(x:zb).Zones,(x:zb).Except,(x:zb).From,(x:zb).Until,(x:zb).Grace,(x:zb).Vary,(x:zb).Kind,(x:zb).Test,(x:zb).zg,(x:zb).Uses,(x:zb).Other,(x:zb).N)
  |8=>fun x=>((x:Cap).Name,(x:Cap).Load,(x:Cap).Limit,(x:Cap).Corners)
  |9=>fun x=>((x:zj).X,(x:zj).Y,(x:zj).Z_)
  |10=>fun x=>((x:View).Name,(x:View).Eye,(x:View).Least,(x:View).Targets)
  |11=>fun x=>((x:Token).Kind,(x:Token).Text,(x:Token).N,(x:Token).Pos)
  |12=>fun x=>((x:zK).Defs,(x:zK).Tables,(x:zK).Zones,(x:zK).Rules,(x:zK).Caps,(x:zK).Views,(x:zK).Sun,(x:zK).Hours)
  |13=>fun x=>((x:zq).Kind,(x:zq).Name,(x:zq).Key,(x:zq).N,(x:zq).zb,(x:zq).Body,(x:zq).Corners)
  |14=>fun x=>((x:zl).a,(x:zl).b)
  |_+15=>fun _=>()
 inj:=fun n=>match n with
  |0=>fun x=>(⟨x.1,x.2.1,x.2.2.1,x.2.2.2.1,x.2.2.2.2⟩:Expr)
  |1=>fun x=>(⟨x.1,x.2⟩:Def)
  |2=>fun x=>(⟨x.1,x.2⟩:Entry)
  |3=>fun x=>(⟨x.1,x.2.1,x.2.2⟩:Table)
  |4=>fun x=>(⟨x.1,x.2⟩:zu)
  |5=>fun x=>(⟨x.1,x.2.1,x.2.2⟩:zr)
  |6=>fun x=>(⟨x.1,x.2.1,x.2.2.1,x.2.2.2⟩:zg)
  |7=>fun x=>(⟨x.1,x.2.1,x.2.2.1,x.2.2.2.1,x.2.2.2.2.1,x.2.2.2.2.2.1,x.2.2.2.2.2.2.1,x.2.2.2.2.2.2.2.1,x.2.2.2.2.2.2.2.2.1,x.2.2.2.2.2.2.2.2.2.1,x.2.2.2.2.2.2.2.2.2.2.1,x.2.2.2.2.2.2.2.2.2.2.2.1,x.2.2.2.2.2.2.2.2.2.2.2.2⟩:zb)
  |8=>fun x=>(⟨x.1,x.2.1,x.2.2.1,x.2.2.2⟩:Cap)
  |9=>fun x=>(⟨x.1,x.2.1,x.2.2⟩:zj)
  |10=>fun x=>(⟨x.1,x.2.1,x.2.2.1,x.2.2.2⟩:View)
  |11=>fun x=>(⟨x.1,x.2.1,x.2.2.1,x.2.2.2⟩:Token)
  |12=>fun x=>(⟨x.1,x.2.1,x.2.2.1,x.2.2.2.1,x.2.2.2.2.1,x.2.2.2.2.2.1,x.2.2.2.2.2.2.1,x.2.2.2.2.2.2.2⟩:zK)
  |13=>fun x=>(⟨x.1,x.2.1,x.2.2.1,x.2.2.2.1,x.2.2.2.2.1,x.2.2.2.2.2.1,x.2.2.2.2.2.2⟩:zq)
  |14=>fun x=>(⟨x.1,x.2⟩:zl)
  |_+15=>fun _=>()
 enc:=fun n=>match n with
  |0=>kM
  |1=>Q9
  |2=>og
  |3=>oi
  |4=>kg
  |5=>Jf
  |6=>Va
  |7=>Jg
  |8=>Vb
  |9=>jN
  |10=>Jh
  |11=>zb3
  |12=>Ab
  |13=>kN
  |14=>uA
  |_+15=>fun _=>[]
 ro:=fun n=>match n with
  |1=>gl0 Hx.ob0
  |2=>gl1 Hx.ob1
  |3=>gl2 Hx.ob2 Hx.m2
  |4=>gl3 Hx.ob3
  |_=>.gen gone
def goT(i:Nat):(c:TC)→c.ty zBb→EV.Obj
 |.s,x=>sb (bif Nat.beq i 0 then 107 else 219) x
 |.l (.m kc ec),x=>.gen (kD (List.map (Wa (xm TS0 kc) (xm TS0 ec)) x))
 |_,_=>.gen gone
def glT:Nat→Option (Nat×Nat×List (List UInt8))
 |1=>some (1,287,W5)
 |_=>none
def gaT:Nat→Option (Nat×Dy zBb×List V)
 |107=>some (0,⟨.s,([]:List UInt8)⟩,[.nilp,.nils])
 |219=>some (1,⟨.s,([]:List UInt8)⟩,[.nilp,.nils])
 |_=>none
theorem zBc(t i:Nat)(d:Dy zBb)(cs:List V)(h:gaT t=some (i,d,cs))(m:M)(Z:ZM)(w:World)(k:Nat)(hh:EV.Holds m Z w k (.box t cs)):EV.Holds m Z w k (goT i d.1 d.2)∧∀b,blk m (k,goT i d.1 d.2) b→blk m (k,.box t cs) b:=by
 unfold gaT at h;split at h
 ·cases h;exact zuj hh
 ·cases h;exact zuj hh
 ·cases h
def TS:Tab where
 T:=zBb
 dflt:=fun n=>match n with
  |0=>(default:Expr)
  |1=>(default:Def)
  |2=>(default:Entry)
  |3=>(default:Table)
  |4=>(default:zu)
  |5=>(default:zr)
  |6=>(default:zg)
  |7=>(default:zb)
  |8=>(default:Cap)
  |9=>(default:zj)
  |10=>(default:View)
  |11=>(default:Token)
  |12=>(default:zK)
  |13=>(default:zq)
  |14=>(default:zl)
  |_+15=>()
 fl:=fun n=>match n with
  |0=>[.i .i64,.i .i64,.s,.s,.l (.st 0)]
  |1=>[.s,.st 0]
  |2=>[.s,.i .i64]
  |3=>[.s,.l (.st 2),.i .i64]
  |4=>[.i .i64,.i .i64]
  |5=>[.s,.b,.l (.st 4)]
  |6=>[.i .i64,.i .i64,.i .i64,.i .i64]
  |7=>[.s,.l (.s),.l (.s),.i .i64,.i .i64,.i .i64,.b,.i .i64,.st 0,.st 6,.i .i64,.i .i64,.i .i64]
  |8=>[.s,.i .i64,.i .i64,.l (.st 4)]
  |9=>[.i .i64,.i .i64,.i .i64]
  |10=>[.s,.st 9,.i .i64,.l (.st 9)]
  |11=>[.i .i64,.s,.i .i64,.i .i64]
  |12=>k1
  |13=>[.i .i64,.s,.s,.i .i64,.st 7,.st 0,.l (.st 4)]
  |14=>[.st 4,.st 4]
  |_+15=>[]
 cn:=fun n=>match n with
  |0=>5
  |1=>6
  |2=>2
  |3=>3
  |4=>2
  |5=>3
  |6=>4
  |7=>20
  |8=>4
  |9=>3
  |10=>6
  |11=>4
  |12=>8
  |13=>30
  |14=>4
  |_+15=>0
 out:=fun n=>match n with
  |0=>fun x=>((x:Expr).Op,(x:Expr).N,(x:Expr).S,(x:Expr).Key,(x:Expr).Args)
  |1=>fun x=>((x:Def).Name,(x:Def).Body)
  |2=>fun x=>((x:Entry).Name,(x:Entry).N)
  |3=>fun x=>((x:Table).Name,(x:Table).Rows,(x:Table).Else)
  |4=>fun x=>((x:zu).X,(x:zu).Y)
  |5=>fun x=>((x:zr).Name,(x:zr).Overlay,(x:zr).Corners)
  |6=>fun x=>((x:zg).Side,(x:zg).Base,(x:zg).Num,(x:zg).Den)
  |7=>fun x=>((x:zb).Name,(x:zb).Zones,(x:zb).Except,(x:zb).From,(x:zb).Until,(x:zb).Grace,(x:zb).Vary,(x:zb).Kind,(x:zb).Test,(x:zb).zg,(x:zb).Uses,(x:zb).Other,(x:zb).N)
  |8=>fun x=>((x:Cap).Name,(x:Cap).Load,(x:Cap).Limit,(x:Cap).Corners)
  |9=>fun x=>((x:zj).X,(x:zj).Y,(x:zj).Z_)
  |10=>fun x=>((x:View).Name,(x:View).Eye,(x:View).Least,(x:View).Targets)
  |11=>fun x=>((x:Token).Kind,(x:Token).Text,(x:Token).N,(x:Token).Pos)
  |12=>fun x=>((x:zK).Defs,(x:zK).Tables,(x:zK).Zones,(x:zK).Rules,(x:zK).Caps,(x:zK).Views,(x:zK).Sun,(x:zK).Hours)
  |13=>fun x=>((x:zq).Kind,(x:zq).Name,(x:zq).Key,(x:zq).N,(x:zq).zb,(x:zq).Body,(x:zq).Corners)
  |14=>fun x=>((x:zl).a,(x:zl).b)
  |_+15=>fun _=>()
 inj:=fun n=>match n with
  |0=>fun x=>(⟨x.1,x.2.1,x.2.2.1,x.2.2.2.1,x.2.2.2.2⟩:Expr)
  |1=>fun x=>(⟨x.1,x.2⟩:Def)
  |2=>fun x=>(⟨x.1,x.2⟩:Entry)
  |3=>fun x=>(⟨x.1,x.2.1,x.2.2⟩:Table)
  |4=>fun x=>(⟨x.1,x.2⟩:zu)
  |5=>fun x=>(⟨x.1,x.2.1,x.2.2⟩:zr)
  |6=>fun x=>(⟨x.1,x.2.1,x.2.2.1,x.2.2.2⟩:zg)
  |7=>fun x=>(⟨x.1,x.2.1,x.2.2.1,x.2.2.2.1,x.2.2.2.2.1,x.2.2.2.2.2.1,x.2.2.2.2.2.2.1,x.2.2.2.2.2.2.2.1,x.2.2.2.2.2.2.2.2.1,x.2.2.2.2.2.2.2.2.2.1,x.2.2.2.2.2.2.2.2.2.2.1,x.2.2.2.2.2.2.2.2.2.2.2.1,x.2.2.2.2.2.2.2.2.2.2.2.2⟩:zb)
  |8=>fun x=>(⟨x.1,x.2.1,x.2.2.1,x.2.2.2⟩:Cap)
  |9=>fun x=>(⟨x.1,x.2.1,x.2.2⟩:zj)
  |10=>fun x=>(⟨x.1,x.2.1,x.2.2.1,x.2.2.2⟩:View)
  |11=>fun x=>(⟨x.1,x.2.1,x.2.2.1,x.2.2.2⟩:Token)
  |12=>fun x=>(⟨x.1,x.2.1,x.2.2.1,x.2.2.2.1,x.2.2.2.2.1,x.2.2.2.2.2.1,x.2.2.2.2.2.2.1,x.2.2.2.2.2.2.2⟩:zK)
  |13=>fun x=>(⟨x.1,x.2.1,x.2.2.1,x.2.2.2.1,x.2.2.2.2.1,x.2.2.2.2.2.1,x.2.2.2.2.2.2⟩:zq)
  |14=>fun x=>(⟨x.1,x.2⟩:zl)
  |_+15=>fun _=>()
 enc:=fun n=>match n with
  |0=>kM
  |1=>Q9
  |2=>og
  |3=>oi
  |4=>kg
  |5=>Jf
  |6=>Va
  |7=>Jg
  |8=>Vb
  |9=>jN
  |10=>Jh
  |11=>zb3
  |12=>Ab
  |13=>kN
  |14=>uA
  |_+15=>fun _=>[]
 ro:=fun n=>match n with
  |1=>gl0 Hx.ob0
  |2=>gl1 Hx.ob1
  |3=>gl2 Hx.ob2 Hx.m2
  |4=>gl3 Hx.ob3
  |_=>.gen gone
 go:=goT
 gl:=glT
 ga:=gaT
 om:=true
theorem TSok:TS.OK where
 enc_out:=fun n x=>match n with
  |0=>by
   show kM x=_
   unfold kM;simp only[oe];rfl
  |1=>rfl
  |2=>rfl
  |3=>rfl
  |4=>rfl
  |5=>rfl
  |6=>rfl
  |7=>rfl
  |8=>rfl
  |9=>rfl
  |10=>rfl
  |11=>rfl
  |12=>rfl
  |13=>rfl
  |14=>rfl
  |_+15=>rfl
 out_mk:=fun n h=>match n with
  |0=>rfl
  |1=>rfl
  |2=>rfl
  |3=>rfl
  |4=>rfl
  |5=>rfl
  |6=>rfl
  |7=>rfl
  |8=>rfl
  |9=>rfl
  |10=>rfl
  |11=>rfl
  |12=>rfl
  |13=>rfl
  |14=>rfl
  |_+15=>rfl
 ro0:=rfl
 rren:=fun i σ=>match i with|0=>rfl|1=>rfl|2=>rfl|3=>rfl|4=>rfl|_+5=>rfl
 rref:=fun i=>match i with|0=>rfl|1=>rfl|2=>rfl|3=>rfl|4=>rfl|_+5=>rfl
 rfrz:=fun i k=>match i with|0=>rfl|1=>rfl|2=>rfl|3=>rfl|4=>rfl|_+5=>rfl
 len:=fun n x=>match n with
  |0=>rfl
  |1=>rfl
  |2=>rfl
  |3=>rfl
  |4=>rfl
  |5=>rfl
  |6=>rfl
  |7=>rfl
  |8=>rfl
  |9=>rfl
  |10=>rfl
  |11=>rfl
  |12=>rfl
  |13=>rfl
  |14=>rfl
  |_+15=>rfl
 one:=fun n x=>match n with
  |0=>rfl
  |1=>rfl
  |2=>rfl
  |3=>rfl
  |4=>rfl
  |5=>rfl
  |6=>rfl
  |7=>rfl
  |8=>rfl
  |9=>rfl
  |10=>rfl
  |11=>rfl
  |12=>rfl
  |13=>rfl
  |14=>rfl
  |_+15=>rfl
 refs:=fun n x=>match n with
  |0=>rfl
  |1=>rfl
  |2=>rfl
  |3=>rfl
  |4=>rfl
  |5=>rfl
  |6=>rfl
  |7=>rfl
  |8=>rfl
  |9=>rfl
  |10=>rfl
  |11=>rfl
  |12=>rfl
  |13=>rfl
  |14=>rfl
  |_+15=>rfl
 gren:=fun i c x σ=>by cases c with
  |l t=>cases t<;>rfl
  |_=>rfl
 gref:=fun i c x=>by cases c with
  |l t=>cases t<;>rfl
  |_=>rfl
 gfrz:=fun i c x k=>by cases c with
  |l t=>cases t<;>rfl
  |_=>rfl
 gom:=fun _ kc ec x=>by kernel_rfl
 ggl:=fun i c x k=>by cases c with
  |l t=>cases t<;>rfl
  |_=>rfl
 gbox:=fun t i d cs h m Z w k hh=>zBc t i d cs h m Z w k hh
 glob:=fun i g t l h=>by
  change glT i=some (g,t,l)at h;unfold glT at h;split at h
  ·cases h;exact⟨_,rfl⟩
  ·cases h
def cdT(t:Nat):Option TC:=bif Nat.beq t 3 then some (.i .i64)else bif Nat.beq t 4 then some (.b)else bif Nat.beq t 9 then some (.s)else bif Nat.beq t 35 then some (.st 0)else bif Nat.beq t 39 then some (.st 7)else bif Nat.beq t 42 then some (.st 13)else bif Nat.beq t 67 then some (.st 1)else bif Nat.beq t 70 then some (.st 3)else bif Nat.beq t 72 then some (.st 5)else bif Nat.beq t 75 then some (.st 8)else bif Nat.beq t 77 then some (.st 9)else bif Nat.beq t 79 then some (.st 10)else bif Nat.beq t 86 then some (.st 2)else bif Nat.beq t 90 then some (.st 4)else bif Nat.beq t 120 then some (.l (.st 11))else bif Nat.beq t 125 then some (.st 11)else bif Nat.beq t 310 then some (.st 14)else none
def cdL(t:Nat):Option TC:=cdT (bif Nat.ble 1000000 t then Nat.sub t 1000000 else t)
def cdR(t:Nat):Option TC:=bif Nat.beq t 5000000 then some .b else cdT t
def nbT:NB:=fun t=>bif Nat.beq t 30 then[(0,false,67,.st 1),(1,false,70,.st 3),(2,false,72,.st 5),(3,false,39,.st 7),(4,false,75,.st 8),(5,false,79,.st 10),(6,false,77,.st 9)]else bif Nat.beq t 35 then[(4,false,35,.st 0)]else bif Nat.beq t 39 then[(1,false,9,.s),(2,false,9,.s),(12,false,35,.st 0)]else bif Nat.beq t 42 then[(5,false,9,.s),(6,false,9,.s),(16,false,35,.st 0),(28,false,35,.st 0),(29,false,90,.st 4)]else bif Nat.beq t 67 then[(5,false,35,.st 0)]else bif Nat.beq t 70 then[(1,false,86,.st 2)]else bif Nat.beq t 72 then[(2,false,90,.st 4)]else bif Nat.beq t 75 then[(3,false,90,.st 4)]else bif Nat.beq t 79 then[(5,false,77,.st 9)]else bif Nat.beq t 237 then[(0,false,125,.st 11)]else bif Nat.beq t 241 then[(0,false,125,.st 11),(2,true,67,.st 1),(3,true,70,.st 3),(4,true,72,.st 5),(5,true,39,.st 7),(6,true,75,.st 8),(7,true,79,.st 10),(8,true,8000077,.st 9),(10,true,7000000,.l (.m (.s) (.b))),(11,true,7000000,.l (.m (.s) (.b))),(12,true,7000000,.l (.m (.s) (.b))),(13,true,7000000,.l (.m (.s) (.b))),(14,true,7000000,.l (.m (.s) (.b))),(15,true,7000000,.l (.m (.s) (.b)))]else bif Nat.beq t 251 then[(0,false,125,.st 11)]else[]
def zch:NB:=fun t=>bif Nat.beq t 30 then[(0,true,67,.st 1),(1,true,70,.st 3),(2,true,72,.st 5),(3,true,39,.st 7),(4,true,75,.st 8),(5,true,79,.st 10),(6,false,77,.st 9)]else  nbT t
theorem mixT:Tryz.prog.follows .mixedOrders=true:=by kernel_rfl
variable[Fuel]
theorem zBd:za Tryz.prog 186:=zd (by kernel_rfl)
theorem zh8:za Tryz.prog 185:=zd (by kernel_rfl)
theorem zBe:za Tryz.prog 236:=zd (by kernel_rfl)
theorem zBf:za Tryz.prog 238:=zd (by kernel_rfl)
theorem zBg:za Tryz.prog 237:=zd (by kernel_rfl)
theorem zBh:za Tryz.prog 277:=zd (by kernel_rfl)
theorem zBi:za Tryz.prog 195:=zd (by kernel_rfl)
theorem zBj:za Tryz.prog 239:=zd (by kernel_rfl)
theorem zBk:za Tryz.prog 240:=zd (by kernel_rfl)
theorem zBl:za Tryz.prog 187:=zd (by kernel_rfl)
theorem hbv71:za Tryz.prog 71:=zd (by kernel_rfl)
theorem zBm:za Tryz.prog 191:=zd (by kernel_rfl)
theorem zBn:za Tryz.prog 196:=zd (by kernel_rfl)
theorem hbv80:za Tryz.prog 80:=zd (by kernel_rfl)
theorem hbv74:za Tryz.prog 74:=zd (by kernel_rfl)
theorem hbv19:za Tryz.prog 19:=zd (by kernel_rfl)
theorem hbv62:za Tryz.prog 62:=zd (by kernel_rfl)
theorem hbv85:za Tryz.prog 85:=zd (by kernel_rfl)
theorem zBo:za Tryz.prog 200:=zd (by kernel_rfl)
theorem hbv84:za Tryz.prog 84:=zd (by kernel_rfl)
theorem hbv87:za Tryz.prog 87:=zd (by kernel_rfl)
theorem hbv86:za Tryz.prog 86:=zd (by kernel_rfl)
theorem hbv89:za Tryz.prog 89:=zd (by kernel_rfl)
theorem hbv88:za Tryz.prog 88:=zd (by kernel_rfl)
theorem hbv91:za Tryz.prog 91:=zd (by kernel_rfl)
theorem hbv90:za Tryz.prog 90:=zd (by kernel_rfl)
theorem hbv93:za Tryz.prog 93:=zd (by kernel_rfl)
theorem hbv92:za Tryz.prog 92:=zd (by kernel_rfl)
theorem hbv95:za Tryz.prog 95:=zd (by kernel_rfl)
theorem hbv94:za Tryz.prog 94:=zd (by kernel_rfl)
theorem zo4:za Tryz.prog 201:=zd (by kernel_rfl)
theorem hbv96:za Tryz.prog 96:=zd (by kernel_rfl)
theorem hbv98:za Tryz.prog 98:=zd (by kernel_rfl)
theorem hbv97:za Tryz.prog 97:=zd (by kernel_rfl)
theorem hbv99:za Tryz.prog 99:=zd (by kernel_rfl)
theorem zBp:za Tryz.prog 278:=zd (by kernel_rfl)
theorem zBq:za Tryz.prog 279:=zd (by kernel_rfl)
theorem zBr:za Tryz.prog 280:=zd (by kernel_rfl)
theorem zBs:za Tryz.prog 331:=zd (by kernel_rfl)
theorem zBt:za Tryz.prog 314:=zd (by kernel_rfl)
theorem zBu:za Tryz.prog 313:=zd (by kernel_rfl)
theorem zBv:za Tryz.prog 281:=zd (by kernel_rfl)
theorem zBw:za Tryz.prog 282:=zd (by kernel_rfl)
theorem zBx:za Tryz.prog 202:=zd (by kernel_rfl)
theorem zBy:za Tryz.prog 100:=zd (by kernel_rfl)
theorem zBz:za Tryz.prog 152:=zd (by kernel_rfl)
theorem zyb:za Tryz.prog 42:=zd (by kernel_rfl)
theorem zup:za Tryz.prog 151:=zd (by kernel_rfl)
theorem hbv53:za Tryz.prog 53:=zd (by kernel_rfl)
theorem zB0:za Tryz.prog 101:=zd (by kernel_rfl)
theorem hbv28:za Tryz.prog 28:=zd (by kernel_rfl)
theorem hbv73:za Tryz.prog 73:=zd (by kernel_rfl)
theorem hbv46:za Tryz.prog 46:=zd (by kernel_rfl)
theorem hbv41:za Tryz.prog 41:=zd (by kernel_rfl)
theorem hbv50:za Tryz.prog 50:=zd (by kernel_rfl)
theorem hbv44:za Tryz.prog 44:=zd (by kernel_rfl)
theorem hbv43:za Tryz.prog 43:=zd (by kernel_rfl)
theorem hbv51:za Tryz.prog 51:=zd (by kernel_rfl)
theorem hbv52:za Tryz.prog 52:=zd (by kernel_rfl)
theorem hbv45:za Tryz.prog 45:=zd (by kernel_rfl)
theorem hbv54:za Tryz.prog 54:=zd (by kernel_rfl)
theorem hbv47:za Tryz.prog 47:=zd (by kernel_rfl)
theorem hbv55:za Tryz.prog 55:=zd (by kernel_rfl)
theorem hbv49:za Tryz.prog 49:=zd (by kernel_rfl)
theorem hbv48:za Tryz.prog 48:=zd (by kernel_rfl)
theorem hbv56:za Tryz.prog 56:=zd (by kernel_rfl)
theorem hbv14:za Tryz.prog 14:=zd (by kernel_rfl)
theorem hbv26:za Tryz.prog 26:=zd (by kernel_rfl)
theorem hbv22:za Tryz.prog 22:=zd (by kernel_rfl)
theorem hbv61:za Tryz.prog 61:=zd (by kernel_rfl)
theorem zB1:za Tryz.prog 169:=zd (by kernel_rfl)
theorem hbv60:za Tryz.prog 60:=zd (by kernel_rfl)
theorem zuq:za Tryz.prog 177:=zd (by kernel_rfl)
theorem zB2:za Tryz.prog 176:=zd (by kernel_rfl)
theorem hbv64:za Tryz.prog 64:=zd (by kernel_rfl)
theorem hbv65:za Tryz.prog 65:=zd (by kernel_rfl)
theorem hbv66:za Tryz.prog 66:=zd (by kernel_rfl)
theorem hbv67:za Tryz.prog 67:=zd (by kernel_rfl)
theorem hbv17:za Tryz.prog 17:=zd (by kernel_rfl)
theorem zB3:za Tryz.prog 102:=zd (by kernel_rfl)
theorem zB4:za Tryz.prog 103:=zd (by kernel_rfl)
theorem zh9:za Tryz.prog 108:=zd (by kernel_rfl)
theorem zB5:za Tryz.prog 104:=zd (by kernel_rfl)
theorem zB6:za Tryz.prog 131:=zd (by kernel_rfl)
theorem zB7:za Tryz.prog 106:=zd (by kernel_rfl)
theorem zB8:za Tryz.prog 107:=zd (by kernel_rfl)
theorem zur:za Tryz.prog 105:=zd (by kernel_rfl)
theorem zB9:za Tryz.prog 110:=zd (by kernel_rfl)
theorem zCa:za Tryz.prog 109:=zd (by kernel_rfl)
theorem zCb:za Tryz.prog 128:=zd (by kernel_rfl)
theorem zCc:za Tryz.prog 112:=zd (by kernel_rfl)
theorem zus:za Tryz.prog 203:=zd (by kernel_rfl)
theorem zCd:za Tryz.prog 113:=zd (by kernel_rfl)
theorem zCe:za Tryz.prog 111:=zd (by kernel_rfl)
theorem zCf:za Tryz.prog 129:=zd (by kernel_rfl)
theorem zCg:za Tryz.prog 115:=zd (by kernel_rfl)
theorem zut:za Tryz.prog 204:=zd (by kernel_rfl)
theorem zuu:za Tryz.prog 136:=zd (by kernel_rfl)
theorem zCh:za Tryz.prog 118:=zd (by kernel_rfl)
theorem zuv:za Tryz.prog 205:=zd (by kernel_rfl)
theorem zCi:za Tryz.prog 119:=zd (by kernel_rfl)
theorem zCj:za Tryz.prog 117:=zd (by kernel_rfl)
theorem zCk:za Tryz.prog 116:=zd (by kernel_rfl)
theorem zCl:za Tryz.prog 114:=zd (by kernel_rfl)
theorem zCm:za Tryz.prog 121:=zd (by kernel_rfl)
theorem zo5:za Tryz.prog 120:=zd (by kernel_rfl)
theorem zCn:za Tryz.prog 130:=zd (by kernel_rfl)
theorem zCo:za Tryz.prog 123:=zd (by kernel_rfl)
theorem zCp:za Tryz.prog 124:=zd (by kernel_rfl)
theorem zCq:za Tryz.prog 122:=zd (by kernel_rfl)
theorem zCr:za Tryz.prog 126:=zd (by kernel_rfl)
theorem zo6:za Tryz.prog 215:=zd (by kernel_rfl)
theorem zCs:za Tryz.prog 206:=zd (by kernel_rfl)
theorem zCt:za Tryz.prog 132:=zd (by kernel_rfl)
theorem zCu:za Tryz.prog 127:=zd (by kernel_rfl)
theorem zCv:za Tryz.prog 207:=zd (by kernel_rfl)
theorem zCw:za Tryz.prog 125:=zd (by kernel_rfl)
theorem hbv33:za Tryz.prog 33:=zd (by kernel_rfl)
theorem zCx:za Tryz.prog 133:=zd (by kernel_rfl)
theorem zCy:za Tryz.prog 134:=zd (by kernel_rfl)
theorem zo7:za Tryz.prog 135:=zd (by kernel_rfl)
theorem zCz:za Tryz.prog 137:=zd (by kernel_rfl)
theorem zC0:za Tryz.prog 138:=zd (by kernel_rfl)
theorem hbv34:za Tryz.prog 34:=zd (by kernel_rfl)
theorem hbv10:za Tryz.prog 10:=zd (by kernel_rfl)
theorem hbv30:za Tryz.prog 30:=zd (by kernel_rfl)
theorem zC1:za Tryz.prog 154:=zd (by kernel_rfl)
theorem zC2:za Tryz.prog 153:=zd (by kernel_rfl)
theorem zC3:za Tryz.prog 156:=zd (by kernel_rfl)
theorem zC4:za Tryz.prog 155:=zd (by kernel_rfl)
theorem zC5:za Tryz.prog 158:=zd (by kernel_rfl)
theorem zC6:za Tryz.prog 157:=zd (by kernel_rfl)
theorem zC7:za Tryz.prog 160:=zd (by kernel_rfl)
theorem zC8:za Tryz.prog 159:=zd (by kernel_rfl)
theorem zC9:za Tryz.prog 162:=zd (by kernel_rfl)
theorem zDa:za Tryz.prog 161:=zd (by kernel_rfl)
theorem zDb:za Tryz.prog 164:=zd (by kernel_rfl)
theorem zDc:za Tryz.prog 163:=zd (by kernel_rfl)
theorem hbv57:za Tryz.prog 57:=zd (by kernel_rfl)
theorem hbv12:za Tryz.prog 12:=zd (by kernel_rfl)
theorem hbv15:za Tryz.prog 15:=zd (by kernel_rfl)
theorem zDd:za Tryz.prog 165:=zd (by kernel_rfl)
theorem zyc:za Tryz.prog 83:=zd (by kernel_rfl)
theorem zDe:za Tryz.prog 166:=zd (by kernel_rfl)
theorem zDf:za Tryz.prog 167:=zd (by kernel_rfl)
theorem zDg:za Tryz.prog 216:=zd (by kernel_rfl)
theorem zDh:za Tryz.prog 168:=zd (by kernel_rfl)
theorem hbv59:za Tryz.prog 59:=zd (by kernel_rfl)
theorem hbv27:za Tryz.prog 27:=zd (by kernel_rfl)
theorem hbv82:za Tryz.prog 82:=zd (by kernel_rfl)
theorem hbv24:za Tryz.prog 24:=zd (by kernel_rfl)
theorem hbv7:za Tryz.prog 7:=zd (by kernel_rfl)
theorem zyd:za Tryz.prog 31:=zd (by kernel_rfl)
theorem hbv32:za Tryz.prog 32:=zd (by kernel_rfl)
theorem hbv8:za Tryz.prog 8:=zd (by kernel_rfl)
theorem hbv9:za Tryz.prog 9:=zd (by kernel_rfl)
theorem hbv29:za Tryz.prog 29:=zd (by kernel_rfl)
theorem hbv6:za Tryz.prog 6:=zd (by kernel_rfl)
theorem ctg{f:Nat}{fn:Func}{code:Code}{T:CtT TS}{cd:Nat→Option TC}{nb:NB}{rc:List (Nat×Nat×Nat)}{c:Ct TS}{h:HT TS c.co}(hf:Tryz.prog.funcs[f]?=some fn)(hb:fn.body=some code)(hB:za Tryz.prog f)(hT:CtT.OK Tryz.prog T)(hr:∀x,((evF Tryz.prog fn code T cd KK nb c rc h x).run,(evF Tryz.prog fn code T cd KK nb c rc h x).tr true)=(c.fn x,(evF Tryz.prog fn code T cd KK nb c rc h x).tr false)):za Tryz.prog f∧c.OK Tryz.prog f :=
 ⟨hB,zA3 (T:=T) (cd:=cd) (kk:=KK) (nb:=nb) (rc:=rc) (h:=h) TSok hf hb mixT hT (fun x=>congrArg Prod.fst (hr x)) (fun x=>congrArg Prod.snd (hr x))⟩
theorem ctk{f:Nat}{fn:Func}{code:Code}{T:CtT TS}{c:Ct TS}{h:HT TS c.co}(hf:Tryz.prog.funcs[f]?=some fn)(hb:fn.body=some code)(hB:za Tryz.prog f)(hT:CtT.OK Tryz.prog T)(hr:∀x,((evF Tryz.prog fn code T cdT KK nbT c [] h x).run,(evF Tryz.prog fn code T cdT KK nbT c [] h x).tr true)=(c.fn x,(evF Tryz.prog fn code T cdT KK nbT c [] h x).tr false)):za Tryz.prog f∧c.OK Tryz.prog f :=
 ⟨hB,zA3 (T:=T) (cd:=cdT) (kk:=KK) (nb:=nbT) (rc:=[]) (h:=h) TSok hf hb mixT hT (fun x=>congrArg Prod.fst (hr x)) (fun x=>congrArg Prod.snd (hr x))⟩
def zci:Ct TS:=⟨[.d (.i .u8) 0],[],[.i .u8],.d .b 1,[],[.b],false,fun x=>zb6 x⟩
theorem zkn:za Tryz.prog 186∧zci.OK Tryz.prog 186:=ctk (T:=[]) (h:=.n) Tryz.func186 rfl zBd trivial fun x=>by kernel_rfl
def zia:Ct TS:=⟨[.d .s 0,.fn 186 [] []],[],[.s],.d (.i .i64) 1,[],[.i .i64],false,fun x=>zhz x⟩
theorem zo8:za Tryz.prog 185∧zia.OK Tryz.prog 185:=ctk (T:=[(186,zci)]) (h:=.s .n (.s .n (.s (.s (.l ⟨[(0,.d .s 0),(1,.fn 186 [] []),(5,.d (.i .i64) 1)],[],[.s],[.i .i64]⟩ [(5,.d (.i .i64) 1)] [] [.i .i64] 0 (fun x K v=>Hf x K v) (.s (.s (.j ⟨[(0,.d .s 0),(1,.fn 186 [] []),(5,.d (.i .i64) 1),(16,.d .b 2)],[],[.s,.i .i64],[.b]⟩ false .n) .n) .n)) .n) .n))) Tryz.func185 rfl zh8 ⟨zkn,trivial⟩ fun x=>by kernel_rfl
def qB:Ct TS:=⟨[.d (.i .u8) 0],[],[.i .u8],.d .b 1,[],[.b],false,fun x=>w8 x⟩
theorem um:za Tryz.prog 236∧qB.OK Tryz.prog 236:=ctk (T:=[]) (h:=.n) Tryz.func236 rfl zBe trivial fun x=>by kernel_rfl
def oA:Ct TS:=⟨[.d (.i .u8) 0],[],[.i .u8],.d .b 1,[],[.b],false,fun x=>kj x⟩
theorem An:za Tryz.prog 238∧oA.OK Tryz.prog 238:=ctk (T:=[]) (h:=.n) Tryz.func238 rfl zBf trivial fun x=>by kernel_rfl
def Yi:Ct TS:=⟨[.d (.i .u8) 0],[],[.i .u8],.d .b 1,[],[.b],false,fun x=>W9 x⟩
theorem zfp:za Tryz.prog 237∧Yi.OK Tryz.prog 237:=ctk (T:=[(236,qB),(238,oA)]) (h:=.n) Tryz.func237 rfl zBg ⟨um,An,trivial⟩ fun x=>by kernel_rfl
def Yj:Ct TS:=⟨[.d .s 0,.fn 237 [] []],[],[.s],.d (.i .i64) 1,[],[.i .i64],false,fun x=>Ya x⟩
theorem zfq:za Tryz.prog 185∧Yj.OK Tryz.prog 185:=ctk (T:=[(237,Yi)]) (h:=.s .n (.s .n (.s (.s (.l ⟨[(0,.d .s 0),(1,.fn 237 [] []),(5,.d (.i .i64) 1)],[],[.s],[.i .i64]⟩ [(5,.d (.i .i64) 1)] [] [.i .i64] 0 (fun x K v=>q9 x K v) (.s (.s (.j ⟨[(0,.d .s 0),(1,.fn 237 [] []),(5,.d (.i .i64) 1),(16,.d .b 2)],[],[.s,.i .i64],[.b]⟩ false .n) .n) .n)) .n) .n))) Tryz.func185 rfl zh8 ⟨zfp,trivial⟩ fun x=>by kernel_rfl
def Yk:Ct TS:=⟨[.d (.i .u8) 0],[],[.i .u8],.d .b 1,[],[.b],false,fun x=>qw x⟩
theorem zfr:za Tryz.prog 277∧Yk.OK Tryz.prog 277:=ctk (T:=[(236,qB),(238,oA)]) (h:=.n) Tryz.func277 rfl zBh ⟨um,An,trivial⟩ fun x=>by kernel_rfl
def Yl:Ct TS:=⟨[.d .s 0,.fn 277 [] []],[],[.s],.d (.i .i64) 1,[],[.i .i64],false,fun x=>Ac x⟩
theorem zfs:za Tryz.prog 185∧Yl.OK Tryz.prog 185:=ctk (T:=[(277,Yk)]) (h:=.s .n (.s .n (.s (.s (.l ⟨[(0,.d .s 0),(1,.fn 277 [] []),(5,.d (.i .i64) 1)],[],[.s],[.i .i64]⟩ [(5,.d (.i .i64) 1)] [] [.i .i64] 0 (fun x K v=>jz x K v) (.s (.s (.j ⟨[(0,.d .s 0),(1,.fn 277 [] []),(5,.d (.i .i64) 1),(16,.d .b 2)],[],[.s,.i .i64],[.b]⟩ false .n) .n) .n)) .n) .n))) Tryz.func185 rfl zh8 ⟨zfr,trivial⟩ fun x=>by kernel_rfl
def ZI:Ct TS:=⟨[.d .s 0],[],[.s],.d .b 1,[],[.b],false,fun x=>ua x⟩
theorem zcj:za Tryz.prog 195∧ZI.OK Tryz.prog 195:=ctk (T:=[(236,qB),(185,Yl)]) (h:=.s .n (.s (.s (.j ⟨[(0,.d .s 0),(15,.d .b 1)],[],[.s],[.b]⟩ false .n) .n) .n)) Tryz.func195 rfl zBi ⟨um,zfs,trivial⟩ fun x=>by kernel_rfl
def Kh:Ct TS:=⟨[.d .s 0,.fn 238 [] []],[],[.s],.d (.i .i64) 1,[],[.i .i64],false,fun x=>Kd x⟩
theorem Vp:za Tryz.prog 185∧Kh.OK Tryz.prog 185:=ctk (T:=[(238,oA)]) (h:=.s .n (.s .n (.s (.s (.l ⟨[(0,.d .s 0),(1,.fn 238 [] []),(5,.d (.i .i64) 1)],[],[.s],[.i .i64]⟩ [(5,.d (.i .i64) 1)] [] [.i .i64] 0 (fun x K v=>ub x K v) (.s (.s (.j ⟨[(0,.d .s 0),(1,.fn 238 [] []),(5,.d (.i .i64) 1),(16,.d .b 2)],[],[.s,.i .i64],[.b]⟩ false .n) .n) .n)) .n) .n))) Tryz.func185 rfl zh8 ⟨An,trivial⟩ fun x=>by kernel_rfl
def Ym:Ct TS:=⟨[.d .s 0],[],[.s],.tup [.d (.i .i64) 1,.d .b 2],[],[.i .i64,.b],false,fun x=>Yb x⟩
theorem zft:za Tryz.prog 239∧Ym.OK Tryz.prog 239:=ctk (T:=[(185,Kh)]) (h:=.s .n (.s (.s (.j ⟨[(0,.d .s 0),(28,.d .b 1)],[],[.s],[.b]⟩ false .n) .n) (.s .n (.s (.s .n (.s (.l ⟨[(0,.d .s 0),(4,.d (.i .i64) 2),(30,.d (.i .i64) 1),(31,.d (.i .i64) 3)],[],[.s,.i .i64],[.i .i64,.i .i64]⟩ [(4,.d (.i .i64) 2)] [] [.i .i64] 0 (fun x K v=>uc x.1 x.2 K v) .n) .n)) .n)))) Tryz.func239 rfl zBj ⟨Vp,trivial⟩ fun x=>by kernel_rfl
def Vq:Ct TS:=⟨[.d .s 0,.d .s 1],[],[.s,.s],.d .b 2,[],[.b],false,fun x=>Vd x.1 x.2⟩
theorem zck:Vq.OK Tryz.prog 240:=fun x r h=>kmp (by kernel_rfl) (zfl x.1 x.2 r h)
def zib:Ct TS:=⟨[.d .s 0],h2,[.s],.tup [.ag [.d (.i .i64) 2,.d .s 3,.d (.i .i64) 4,.d (.i .i64) 5],.d (.i .i64) 1],(h3 7000001 2 3 4 5),[.i .i64,.i .i64,.s,.i .i64,.i .i64],false,fun x=>zh0 x⟩
theorem zo9:za Tryz.prog 187∧zib.OK Tryz.prog 187:=ctg (cd:=cdT) (nb:=nbT) (rc:=[(2,7000001,0)]) (T:=[(236,qB),(185,Yj),(195,ZI),(238,oA),(185,Kh),(239,Ym),(240,Vq)]) (h:=.s .n (.s .n (.s (.s .n (.s (.lr ⟨[(0,.d .s 0),(2,.ptr 1000002 0),(43,.ag [.d .s 1,.d .s 2,.d .s 3,.d .s 4,.d .s 5,.d .s 6,.d .s 7,.d .s 8,.d .s 9,.d .s 10,.d .s 11,.d .s 12,.d .s 13,.d .s 14]),(44,.d (.i .i64) 17)],(h3 1000002 15 16 15 15),[.s,.s,.s,.s,.s,.s,.s,.s,.s,.s,.s,.s,.s,.s,.s,.i .i64,.s],[.i .i64]⟩ [(2,.ptr 1000002 0)] (h3 1000002 15 16 15 15) [] 1 (fun x K v=>Hg x.1 x.2.1 x.2.2.1 x.2.2.2.1 x.2.2.2.2.1 x.2.2.2.2.2.1 x.2.2.2.2.2.2.1 x.2.2.2.2.2.2.2.1 x.2.2.2.2.2.2.2.2.1 x.2.2.2.2.2.2.2.2.2.1 x.2.2.2.2.2.2.2.2.2.2.1 x.2.2.2.2.2.2.2.2.2.2.2.1 x.2.2.2.2.2.2.2.2.2.2.2.2.1 x.2.2.2.2.2.2.2.2.2.2.2.2.2.1 x.2.2.2.2.2.2.2.2.2.2.2.2.2.2.1 x.2.2.2.2.2.2.2.2.2.2.2.2.2.2.2.1 x.2.2.2.2.2.2.2.2.2.2.2.2.2.2.2.2 K v) .n) .n)) .n))) Tryz.func187 rfl zBl ⟨um,zfq,zcj,An,Vp,zft,⟨zBk,zck⟩,trivial⟩ fun x=>by kernel_rfl
def zpa:Ct TS:=⟨[.d .s 0],h2,[.s],.tup [.d (.l (.st 11)) 1,.d (.i .i64) 2,.d (.i .i64) 3],h2,[.l (.st 11),.i .i64,.i .i64],false,fun x=>zor x⟩
theorem zs5:za Tryz.prog 71∧zpa.OK Tryz.prog 71:=ctk (T:=[(185,zia),(187,zib)]) (h:=.s .n (.s .n (.s .n (.s .n (.s (.lr ⟨[(0,.d .s 0),(5,.row 4 7000001),(6,.d (.i .i64) 1)],[(900000000,.rw 1),(900000001,.rw 2),(900000002,.rw 3),(900000003,.rw 4),(7000001,.row 125 (.st 11) 2 false)],[.s],[.i .i64,.l (.st 11)]⟩ [] [] [] 999999999 (fun x K v=>Ke x K v) .n) .n))))) Tryz.func71 rfl hbv71 ⟨zo8,zo9,trivial⟩ fun x=>by kernel_rfl
def AB:Ct TS:=⟨[.d (.l (.st 11)) 0],[],[.l (.st 11)],.row 4 7000001,(h4 7000001 125 11 1),[.l (.st 11)],false,fun x=>AA x⟩
theorem Vr:za Tryz.prog 191∧AB.OK Tryz.prog 191:=ctk (T:=[]) (h:=.n) Tryz.func191 rfl zBm trivial (fun x=>match x with|[]=>by kernel_rfl|_::_=>by kernel_rfl)
def Yn:Ct TS:=⟨[.d .s 0,.d .s 1],h2,[.s,.s],.d .b 2,h2,[.b],false,fun x=>Ad x.1 x.2⟩
theorem zfu:Yn.OK Tryz.prog 196:=fun x r h=>kmp (by kernel_rfl) (zki x.1 x.2 r h)
def zcl:Ct TS:=⟨[.d .s 0],h2,[.s],.d .b 1,h2,[.b],false,fun x=>Jj x⟩
theorem ZJ:za Tryz.prog 80∧zcl.OK Tryz.prog 80:=ctk (T:=[(195,ZI),(196,Yn)]) (h:=.n) Tryz.func80 rfl hbv80 ⟨zcj,⟨zBn,zfu⟩,trivial⟩ fun x=>by kernel_rfl
def zic:Ct TS:=⟨[.d (.l (.st 11)) 0],h2,[.l (.st 11)],.tup [.ag [.d (.i .i64) 2,.d .s 3,.d .s 4,.d (.i .i64) 5,.d .s 6,.d (.l (.s)) 7,.d (.l (.s)) 8,.d (.i .i64) 9,.d (.i .i64) 10,.d (.i .i64) 11,.d .b 12,.d (.i .i64) 13,.d (.i .i64) 14,.d (.i .i64) 15,.d .s 16,.d .s 17,.d (.l (.st 0)) 18,.d (.i .i64) 19,.d (.i .i64) 20,.d (.i .i64) 21,.d (.i .i64) 22,.d (.i .i64) 23,.d (.i .i64) 24,.d (.i .i64) 25,.d (.i .i64) 26,.d (.i .i64) 27,.d .s 28,.d .s 29,.d (.l (.st 0)) 30,.d (.l (.st 4)) 31],.d (.i .i64) 1],(h5 7000001 2 3 4 5 6 7 8 9 10 11 12 13 14 15 16 17 18 19 20 21 22 23 24 25 26 27 28 29 30 31),k6,false,fun x=>zh1 x⟩
theorem zpb:za Tryz.prog 74∧zic.OK Tryz.prog 74:=ctg (cd:=cdT) (nb:=nbT) (rc:=[(2,7000001,0)]) (T:=[(191,AB),(80,zcl)]) (h:=.s .n (.s .n (.s .n (.s .n (.s .n (.s (.j ⟨[(0,.d (.l (.st 11)) 0),(2,.ptr 1000002 0),(5,.d (.i .i64) 1),(7,.d (.i .i64) 9),(8,.d (.i .i64) 2)],(h5 1000002 3 4 4 3 4 5 5 3 3 3 6 3 3 3 4 4 7 3 3 3 3 3 3 3 3 3 4 4 7 8),[.l (.st 11),.i .i64,.i .i64,.i .i64,.s,.l (.s),.b,.l (.st 0),.l (.st 4)],[.i .i64]⟩ false (.s .n (.s (.s .n (.s (.j ⟨[(0,.d (.l (.st 11)) 0),(2,.ptr 1000002 0),(5,.d (.i .i64) 1),(7,.d (.i .i64) 2),(8,.d (.i .i64) 3),(37,.d .b 10)],(h5 1000002 4 5 5 4 5 6 6 4 4 4 7 4 4 4 5 5 8 4 4 4 4 4 4 4 4 4 5 5 8 9),k7,[.b]⟩ false .n) .n)) .n))) (.s (.s (.j ⟨[(0,.d (.l (.st 11)) 0),(2,.ptr 1000002 0),(5,.d (.i .i64) 1),(7,.d (.i .i64) 2),(8,.d (.i .i64) 3),(54,.d .b 10)],(h5 1000002 4 5 5 4 5 6 6 4 4 4 7 4 4 4 5 5 8 4 4 4 4 4 4 4 4 4 5 5 8 9),k7,[.b]⟩ false .n) .n) (.s (.s .n (.s (.lr ⟨[(0,.d (.l (.st 11)) 0),(2,.ptr 1000002 0),(5,.d (.i .i64) 1),(7,.d (.i .i64) 2),(8,.d (.i .i64) 3),(59,.d (.l (.st 11)) 4),(60,.d (.i .i64) 5),(61,.d (.i .i64) 11)],(h5 1000002 12 6 6 13 6 7 7 14 15 16 8 17 18 19 6 6 9 20 21 22 23 24 25 26 27 28 6 6 9 10),[.l (.st 11),.i .i64,.i .i64,.i .i64,.l (.st 11),.i .i64,.s,.l (.s),.b,.l (.st 0),.l (.st 4)],[.i .i64,.i .i64,.i .i64,.i .i64,.i .i64,.i .i64,.i .i64,.i .i64,.i .i64,.i .i64,.i .i64,.i .i64,.i .i64,.i .i64,.i .i64,.i .i64,.i .i64,.i .i64]⟩ [(0,.d (.l (.st 11)) 0),(2,.ptr 1000002 0),(5,.d (.i .i64) 1),(7,.d (.i .i64) 2),(8,.d (.i .i64) 3)] (h5 1000002 11 6 6 12 6 7 7 13 14 15 8 16 17 18 6 6 9 19 20 21 22 23 24 25 26 27 6 6 9 10) [.i .i64,.i .i64,.i .i64,.i .i64,.i .i64,.i .i64,.i .i64,.i .i64,.i .i64,.i .i64,.i .i64,.i .i64,.i .i64,.i .i64,.i .i64,.i .i64,.i .i64] 0 (fun x K v=>Hh x.1 x.2.1 x.2.2.1 x.2.2.2.1 x.2.2.2.2.1 x.2.2.2.2.2.1 x.2.2.2.2.2.2.1 x.2.2.2.2.2.2.2.1 x.2.2.2.2.2.2.2.2.1 x.2.2.2.2.2.2.2.2.2.1 x.2.2.2.2.2.2.2.2.2.2 K v) (.s .n (.s .n (.s (.s (.s .n (.s (.j ⟨[(0,.d (.l (.st 11)) 0),(2,.ptr 1000002 0),(5,.d (.i .i64) 1),(7,.d (.i .i64) 2),(8,.d (.i .i64) 3),(59,.d (.l (.st 11)) 4),(60,.d (.i .i64) 5),(61,.d (.i .i64) 6),(73,.d .b 12)],(h5 1000002 13 7 7 14 7 8 8 15 16 17 9 18 19 20 7 7 10 21 22 23 24 25 26 27 28 29 7 7 10 11),[.l (.st 11),.i .i64,.i .i64,.i .i64,.l (.st 11),.i .i64,.i .i64,.s,.l (.s),.b,.l (.st 0),.l (.st 4)],[.b,.i .i64,.i .i64,.i .i64,.i .i64,.i .i64,.i .i64,.i .i64,.i .i64,.i .i64,.i .i64,.i .i64,.i .i64,.i .i64,.i .i64,.i .i64,.i .i64,.i .i64]⟩ false .n) .n)) .n) .n)))) .n)) (.s .n (.s (.j ⟨[(2,.ptr 1000002 0),(5,.d (.i .i64) 0),(11,.ptr 1000011 0)],(h8 1 2 3 4 5 6 7 8 9 10 11 12 13 14 15 16 17 18 19 20 21 22 0 26 24 25),k9,[.s]⟩ false .n) (.s (.s (.j ⟨[(2,.ptr 1000002 0),(11,.ptr 1000011 0),(108,.d .b 27)],(h8 0 1 2 3 4 5 6 7 8 9 10 11 12 13 14 15 16 17 18 19 20 21 22 24 25 26),k10,[.b]⟩ false .n) .n) .n))))))))))) Tryz.func74 rfl hbv74 ⟨Vr,ZJ,trivial⟩ fun x=>by kernel_rfl
def zcm:Ct TS:=⟨[.d .s 0],h2,[.s],.tup [.d (.l (.st 13)) 1,.d (.i .i64) 2],h2,[.l (.st 13),.i .i64],false,fun x=>zb7 x⟩
theorem zko:za Tryz.prog 19∧zcm.OK Tryz.prog 19:=ctk (T:=[(71,zpa),(74,zic)]) (h:=.s .n (.s .n (.s .n (.s .n (.s .n (.s (.s .n (.s (.l ⟨[(0,.d .s 0),(4,.d (.l (.st 11)) 1),(7,.row 1 7001001),(8,.d (.i .i64) 3),(26,.d (.l (.st 11)) 1),(27,.d (.i .i64) 2),(28,.d (.i .i64) 4)],(h11 7001001 5),[.s,.l (.st 11),.i .i64],[.i .i64,.i .i64,.l (.l (.st 11))]⟩ [(0,.d .s 0),(4,.d (.l (.st 11)) 1),(7,.row 1 7001001),(8,.d (.i .i64) 3)] (h11 7001001 4) [.i .i64,.l (.l (.st 11))] 0 (fun x K v=>oj x.1 x.2.1 x.2.2 K v) (.s .n (.s .n (.s (.j ⟨[(0,.d .s 0),(4,.d (.l (.st 11)) 1),(7,.row 1 7000001),(8,.d (.i .i64) 3),(26,.d (.l (.st 11)) 1),(27,.d (.i .i64) 2),(28,.d (.i .i64) 4)],(h11 7000001 5),[.s,.l (.st 11),.i .i64],[.i .i64,.i .i64,.l (.l (.st 11))]⟩ false (.s (.s .n (.s (.j ⟨[(0,.d .s 0),(4,.d (.l (.st 11)) 1),(7,.row 1 7001001),(8,.d (.i .i64) 2),(9,.d (.i .i64) 5),(26,.d (.l (.st 11)) 1),(27,.d (.i .i64) 3),(28,.d (.i .i64) 6),(40,.d .b 7)],(h11 7001001 4),[.s,.l (.st 11),.i .i64,.i .i64,.l (.l (.st 11))],[.i .i64,.i .i64,.b]⟩ false .n) .n)) .n)) .n)))) .n)) (.s .n (.s .n (.s (.s .n (.s (.lr ⟨[(0,.d .s 0),(11,.row 30 7002001),(62,.row 1 7001001),(63,.d (.i .i64) 1),(64,.d (.i .i64) 3)],[(900000000,.rw 1),(900000001,.rw 2),(900000002,.rw 3),(900000003,.rw 4),(7002001,.row 42 (.st 13) 4 false),(7001001,.row 120 (.l (.st 11)) 2 false)],[.s,.i .i64,.l (.l (.st 11))],[.i .i64,.l (.st 13)]⟩ [(11,.row 30 7002001)] [(900000000,.rw 1),(900000001,.rw 2),(900000002,.rw 3),(900000003,.rw 4),(7002001,.row 42 (.st 13) 3 false)] [.l (.st 13)] 3 (fun x K v=>oo x.1 x.2.1 x.2.2 K v) (.s .n (.s .n (.s (.s (.s .n (.s .n (.s (.s .n (.s (.s (.j ⟨[(0,.d .s 0),(11,.row 30 7002001),(13,.d (.l (.st 11)) 1),(14,.ptr 1000014 0),(62,.row 1 7001001),(63,.d (.i .i64) 2),(64,.d (.i .i64) 3),(78,.d .b 12)],[(900000000,.rw 1),(900000001,.rw 2),(900000002,.rw 3),(900000003,.rw 4),(7002001,.row 42 (.st 13) 4 false),(1000014,.box 42 [.d (.i .i64) 5,.d .s 6,.d .s 6,.d (.i .i64) 5,.d .s 6,.d (.l (.s)) 7,.d (.l (.s)) 7,.d (.i .i64) 5,.d (.i .i64) 5,.d (.i .i64) 5,.d .b 8,.d (.i .i64) 5,.d (.i .i64) 5,.d (.i .i64) 5,.d .s 6,.d .s 6,.d (.l (.st 0)) 9,.d (.i .i64) 5,.d (.i .i64) 5,.d (.i .i64) 5,.d (.i .i64) 5,.d (.i .i64) 5,.d (.i .i64) 5,.d (.i .i64) 5,.d (.i .i64) 5,.d (.i .i64) 5,.d .s 6,.d .s 6,.d (.l (.st 0)) 9,.d (.l (.st 4)) 10]),(7001001,.row 120 (.l (.st 11)) 11 false)],[.s,.l (.st 11),.i .i64,.i .i64,.l (.st 13),.i .i64,.s,.l (.s),.b,.l (.st 0),.l (.st 4),.l (.l (.st 11))],[.b]⟩ false .n) .n) .n)) .n))) .n) .n)))) .n)) .n))))))))) Tryz.func19 rfl hbv19 ⟨zs5,zpb,trivial⟩ fun x=>by kernel_rfl
def Vs:Ct TS:=⟨[.d (.st 13) 0],[],[.st 13],.tup [.ag [.d (.l (.st 1)) 2,.d (.l (.st 3)) 3,.d (.l (.st 5)) 4,.d (.l (.st 7)) 5,.d (.l (.st 8)) 6,.d (.l (.st 10)) 7,.d (.l (.st 9)) 8,.d (.i .i64) 9],.d .b 1],(h12 7000001 2 3 4 5 6 7 8 9),[.b,.l (.st 1),.l (.st 3),.l (.st 5),.l (.st 7),.l (.st 8),.l (.st 10),.l (.st 9),.i .i64],false,fun x=>Jk x⟩
theorem Yo:za Tryz.prog 62∧Vs.OK Tryz.prog 62:=ctg (cd:=cdT) (nb:=nbT) (rc:=[(2,7000001,0)]) (T:=[]) (h:=.n) Tryz.func62 rfl hbv62 trivial fun x=>by kernel_rfl
def zcn:Ct TS:=⟨[.d (.st 1) 0],[],[.st 1],.d .s 1,[],[.s],false,fun x=>zb8 x⟩
theorem zkp:za Tryz.prog 85∧zcn.OK Tryz.prog 85:=ctk (T:=[]) (h:=.n) Tryz.func85 rfl hbv85 trivial fun x=>by kernel_rfl
def uo:Ct TS:=⟨[.d (.l (.s)) 0,.d .b 1],h2,[.l (.s),.b],.d .b 2,h2,[.b],false,fun x=>w9 x.1 x.2⟩
theorem kQ:za Tryz.prog 200∧uo.OK Tryz.prog 200:=ctk (T:=[(80,zcl)]) (h:=.s .n (.s .n (.s (.s .n (.s (.lr ⟨[(1,.d .b 0),(5,.mp 1000008),(9,.d (.l (.s)) 1),(10,.d (.i .i64) 2),(11,.d (.i .i64) 3)],[(900000000,.rw 1),(900000001,.rw 2),(900000002,.rw 3),(900000003,.rw 4),(1000008,.map (.s) (.b) 4)],[.b,.l (.s),.i .i64],[.i .i64,.m (.s) (.b)]⟩ [] h2 [] 0 (fun x K v=>jO x.1 x.2.1 x.2.2 K v) (.s .n (.s .n (.s (.s (.s .n (.s (.s (.j ⟨[(1,.d .b 0),(5,.mp 1000008),(7,.d .s 1),(9,.d (.l (.s)) 2),(10,.d (.i .i64) 3),(11,.d (.i .i64) 4),(25,.d .b 6)],[(900000000,.rw 1),(900000001,.rw 2),(900000002,.rw 3),(900000003,.rw 4),(1000008,.map (.s) (.b) 5)],[.b,.s,.l (.s),.i .i64,.i .i64,.m (.s) (.b)],[.b]⟩ false .n) .n) .n)) .n) .n)))) .n)) .n))) Tryz.func200 rfl zBo ⟨ZJ,trivial⟩ fun x=>by kernel_rfl
def zid:Ct TS:=⟨[.d (.l (.st 1)) 0,.d (.i .i64) 1,.fn 85 [] []],h2,[.l (.st 1),.i .i64],.d .b 2,h2,[.b],false,fun x=>Qi x.1 x.2⟩
theorem zpc:za Tryz.prog 84∧zid.OK Tryz.prog 84:=ctk (T:=[(85,zcn),(200,uo)]) (h:=.s .n (.s .n (.s (.s .n (.s (.l ⟨[(0,.d (.l (.st 1)) 0),(1,.d (.i .i64) 1),(2,.fn 85 [] []),(7,.row 1 7000001),(10,.d (.l (.st 1)) 0),(11,.d (.i .i64) 2),(12,.d (.i .i64) 3)],(h13 4),[.l (.st 1),.i .i64,.i .i64],[.i .i64,.l (.s)]⟩ [(0,.d (.l (.st 1)) 0),(1,.d (.i .i64) 1),(7,.row 1 7000001)] (h13 3) [.l (.s)] 0 (fun x K v=>ud x.1 x.2.1 x.2.2 K v) .n) .n)) .n))) Tryz.func84 rfl hbv84 ⟨zkp,kQ,trivial⟩ fun x=>by kernel_rfl
def zco:Ct TS:=⟨[.d (.st 3) 0],[],[.st 3],.d .s 1,[],[.s],false,fun x=>zb9 x⟩
theorem zkq:za Tryz.prog 87∧zco.OK Tryz.prog 87:=ctk (T:=[]) (h:=.n) Tryz.func87 rfl hbv87 trivial fun x=>by kernel_rfl
def Yp:Ct TS:=⟨[.d (.l (.st 3)) 0,.d (.i .i64) 1,.fn 87 [] []],h2,[.l (.st 3),.i .i64],.d .b 2,h2,[.b],false,fun x=>Ae x.1 x.2⟩
theorem zfv:za Tryz.prog 86∧Yp.OK Tryz.prog 86:=ctk (T:=[(87,zco),(200,uo)]) (h:=.s .n (.s .n (.s (.s .n (.s (.l ⟨[(0,.d (.l (.st 3)) 0),(1,.d (.i .i64) 1),(2,.fn 87 [] []),(7,.row 1 7000001),(10,.d (.l (.st 3)) 0),(11,.d (.i .i64) 2),(12,.d (.i .i64) 3)],(h13 4),[.l (.st 3),.i .i64,.i .i64],[.i .i64,.l (.s)]⟩ [(0,.d (.l (.st 3)) 0),(1,.d (.i .i64) 1),(7,.row 1 7000001)] (h13 3) [.l (.s)] 0 (fun x K v=>jA x.1 x.2.1 x.2.2 K v) .n) .n)) .n))) Tryz.func86 rfl hbv86 ⟨zkq,kQ,trivial⟩ fun x=>by kernel_rfl
def zcp:Ct TS:=⟨[.d (.st 5) 0],[],[.st 5],.d .s 1,[],[.s],false,fun x=>zca x⟩
theorem zkr:za Tryz.prog 89∧zcp.OK Tryz.prog 89:=ctk (T:=[]) (h:=.n) Tryz.func89 rfl hbv89 trivial fun x=>by kernel_rfl
def Yq:Ct TS:=⟨[.d (.l (.st 5)) 0,.d (.i .i64) 1,.fn 89 [] []],h2,[.l (.st 5),.i .i64],.d .b 2,h2,[.b],false,fun x=>Af x.1 x.2⟩
theorem zfw:za Tryz.prog 88∧Yq.OK Tryz.prog 88:=ctk (T:=[(89,zcp),(200,uo)]) (h:=.s .n (.s .n (.s (.s .n (.s (.l ⟨[(0,.d (.l (.st 5)) 0),(1,.d (.i .i64) 1),(2,.fn 89 [] []),(7,.row 1 7000001),(10,.d (.l (.st 5)) 0),(11,.d (.i .i64) 2),(12,.d (.i .i64) 3)],(h13 4),[.l (.st 5),.i .i64,.i .i64],[.i .i64,.l (.s)]⟩ [(0,.d (.l (.st 5)) 0),(1,.d (.i .i64) 1),(7,.row 1 7000001)] (h13 3) [.l (.s)] 0 (fun x K v=>jB x.1 x.2.1 x.2.2 K v) .n) .n)) .n))) Tryz.func88 rfl hbv88 ⟨zkr,kQ,trivial⟩ fun x=>by kernel_rfl
def zcq:Ct TS:=⟨[.d (.st 7) 0],[],[.st 7],.d .s 1,[],[.s],false,fun x=>zcb x⟩
theorem zks:za Tryz.prog 91∧zcq.OK Tryz.prog 91:=ctk (T:=[]) (h:=.n) Tryz.func91 rfl hbv91 trivial fun x=>by kernel_rfl
def Yr:Ct TS:=⟨[.d (.l (.st 7)) 0,.d (.i .i64) 1,.fn 91 [] []],h2,[.l (.st 7),.i .i64],.d .b 2,h2,[.b],false,fun x=>Ag x.1 x.2⟩
theorem zfx:za Tryz.prog 90∧Yr.OK Tryz.prog 90:=ctk (T:=[(91,zcq),(200,uo)]) (h:=.s .n (.s .n (.s (.s .n (.s (.l ⟨[(0,.d (.l (.st 7)) 0),(1,.d (.i .i64) 1),(2,.fn 91 [] []),(7,.row 1 7000001),(10,.d (.l (.st 7)) 0),(11,.d (.i .i64) 2),(12,.d (.i .i64) 3)],(h13 4),[.l (.st 7),.i .i64,.i .i64],[.i .i64,.l (.s)]⟩ [(0,.d (.l (.st 7)) 0),(1,.d (.i .i64) 1),(7,.row 1 7000001)] (h13 3) [.l (.s)] 0 (fun x K v=>jC x.1 x.2.1 x.2.2 K v) .n) .n)) .n))) Tryz.func90 rfl hbv90 ⟨zks,kQ,trivial⟩ fun x=>by kernel_rfl
def zcr:Ct TS:=⟨[.d (.st 8) 0],[],[.st 8],.d .s 1,[],[.s],false,fun x=>zcc x⟩
theorem zkt:za Tryz.prog 93∧zcr.OK Tryz.prog 93:=ctk (T:=[]) (h:=.n) Tryz.func93 rfl hbv93 trivial fun x=>by kernel_rfl
def Ys:Ct TS:=⟨[.d (.l (.st 8)) 0,.d (.i .i64) 1,.fn 93 [] []],h2,[.l (.st 8),.i .i64],.d .b 2,h2,[.b],false,fun x=>Ah x.1 x.2⟩
theorem zfy:za Tryz.prog 92∧Ys.OK Tryz.prog 92:=ctk (T:=[(93,zcr),(200,uo)]) (h:=.s .n (.s .n (.s (.s .n (.s (.l ⟨[(0,.d (.l (.st 8)) 0),(1,.d (.i .i64) 1),(2,.fn 93 [] []),(7,.row 1 7000001),(10,.d (.l (.st 8)) 0),(11,.d (.i .i64) 2),(12,.d (.i .i64) 3)],(h13 4),[.l (.st 8),.i .i64,.i .i64],[.i .i64,.l (.s)]⟩ [(0,.d (.l (.st 8)) 0),(1,.d (.i .i64) 1),(7,.row 1 7000001)] (h13 3) [.l (.s)] 0 (fun x K v=>jD x.1 x.2.1 x.2.2 K v) .n) .n)) .n))) Tryz.func92 rfl hbv92 ⟨zkt,kQ,trivial⟩ fun x=>by kernel_rfl
def zcs:Ct TS:=⟨[.d (.st 10) 0],[],[.st 10],.d .s 1,[],[.s],false,fun x=>zcd x⟩
theorem zku:za Tryz.prog 95∧zcs.OK Tryz.prog 95:=ctk (T:=[]) (h:=.n) Tryz.func95 rfl hbv95 trivial fun x=>by kernel_rfl
def Yt:Ct TS:=⟨[.d (.l (.st 10)) 0,.d (.i .i64) 1,.fn 95 [] []],h2,[.l (.st 10),.i .i64],.d .b 2,h2,[.b],false,fun x=>Ai x.1 x.2⟩
theorem zfz:za Tryz.prog 94∧Yt.OK Tryz.prog 94:=ctk (T:=[(95,zcs),(200,uo)]) (h:=.s .n (.s .n (.s (.s .n (.s (.l ⟨[(0,.d (.l (.st 10)) 0),(1,.d (.i .i64) 1),(2,.fn 95 [] []),(7,.row 1 7000001),(10,.d (.l (.st 10)) 0),(11,.d (.i .i64) 2),(12,.d (.i .i64) 3)],(h13 4),[.l (.st 10),.i .i64,.i .i64],[.i .i64,.l (.s)]⟩ [(0,.d (.l (.st 10)) 0),(1,.d (.i .i64) 1),(7,.row 1 7000001)] (h13 3) [.l (.s)] 0 (fun x K v=>jE x.1 x.2.1 x.2.2 K v) .n) .n)) .n))) Tryz.func94 rfl hbv94 ⟨zku,kQ,trivial⟩ fun x=>by kernel_rfl
def Vt(RK:Nat):Ct TS:=⟨[.d (.st 0) 0,.d (.i .i64) 1],h2,[.st 0,.i .i64],.d .b 2,h2,[.b],false,fun x=>zB RK x.1 x.2⟩
theorem zct:∀RK,(Vt RK).OK Tryz.prog 201
 |0=>(fun x r h=>nomatch (show(none:Option _)=some r from h))
 |RK+1=>(ctk (c:=Vt (RK+1)) (T:=[(80,zcl),(201,Vt RK)]) (h:=.s .n (.s (.s (.j ⟨[(1,.d (.i .i64) 0),(2,.ptr 1000002 0),(20,.d .b 6)],h14,k15,[.b]⟩ false .n) .n) (.s .n (.s .n (.s (.j ⟨[(1,.d (.i .i64) 0),(2,.ptr 1000002 0),(5,.ptr 1000005 0),(6,.d (.i .i64) 6)],(h16 1 2 3 4 5 9),k15,[.i .i64,.i .i64,.s,.s]⟩ true (.s .n (.s (.s .n (.s .n (.s (.j ⟨[(1,.d (.i .i64) 0),(2,.ptr 1000002 0),(5,.ptr 1000005 0),(6,.d (.i .i64) 1),(27,.d (.i .i64) 2),(35,.d .b 9)],(h16 2 3 4 5 6 8),[.i .i64,.i .i64,.i .i64,.i .i64,.s,.s,.l (.st 0),.i .i64,.s],[.b]⟩ false .n) (.s .n (.s .n (.s .n (.s (.j ⟨[(1,.d (.i .i64) 0),(2,.ptr 1000002 0),(5,.ptr 1000005 0),(6,.d (.i .i64) 1),(27,.d (.i .i64) 2),(53,.d .b 9)],(h16 2 3 4 5 6 8),[.i .i64,.i .i64,.i .i64,.i .i64,.s,.s,.l (.st 0),.i .i64,.s],[.b]⟩ false .n) .n))))))) .n))) (.s (.s (.j ⟨[(1,.d (.i .i64) 0),(2,.ptr 1000002 0),(98,.d .b 6)],h14,k15,[.b]⟩ false .n) .n) (.s (.s .n (.s (.lr ⟨[(1,.d (.i .i64) 0),(100,.d (.l (.st 0)) 1),(101,.d (.i .i64) 2),(102,.d (.i .i64) 3)],h2,[.i .i64,.l (.st 0),.i .i64],[.i .i64]⟩ [] h2 [] 1 (fun x K v=>ya (zB RK) x.1 x.2.1 x.2.2 K v) .n) .n)) .n))))))) Tryz.func201 rfl zo4 ⟨ZJ,⟨zo4,(zct RK)⟩,trivial⟩ fun x=>by kernel_rfl).2
theorem zs6(RK:Nat):za Tryz.prog 201∧(Vt RK).OK Tryz.prog 201:=⟨zo4,(zct RK)⟩
def Hp:Ct TS:=⟨[.d (.st 0) 0],h2,[.st 0],.d .b 1,h2,[.b],false,fun x=>vb x⟩
theorem KO:za Tryz.prog 96∧Hp.OK Tryz.prog 96:=ctk (T:=[(201,Vt KK)]) (h:=.n) Tryz.func96 rfl hbv96 ⟨(zs6 KK),trivial⟩ fun x=>by kernel_rfl
def zcu:Ct TS:=⟨[.d (.st 2) 0],[],[.st 2],.d .s 1,[],[.s],false,fun x=>zce x⟩
theorem zkv:za Tryz.prog 98∧zcu.OK Tryz.prog 98:=ctk (T:=[]) (h:=.n) Tryz.func98 rfl hbv98 trivial fun x=>by kernel_rfl
def Yu:Ct TS:=⟨[.d (.l (.st 2)) 0,.d (.i .i64) 1,.fn 98 [] []],h2,[.l (.st 2),.i .i64],.d .b 2,h2,[.b],false,fun x=>Aj x.1 x.2⟩
theorem zf0:za Tryz.prog 97∧Yu.OK Tryz.prog 97:=ctk (T:=[(98,zcu),(200,uo)]) (h:=.s .n (.s .n (.s (.s .n (.s (.l ⟨[(0,.d (.l (.st 2)) 0),(1,.d (.i .i64) 1),(2,.fn 98 [] []),(7,.row 1 7000001),(10,.d (.l (.st 2)) 0),(11,.d (.i .i64) 2),(12,.d (.i .i64) 3)],(h13 4),[.l (.st 2),.i .i64,.i .i64],[.i .i64,.l (.s)]⟩ [(0,.d (.l (.st 2)) 0),(1,.d (.i .i64) 1),(7,.row 1 7000001)] (h13 3) [.l (.s)] 0 (fun x K v=>jF x.1 x.2.1 x.2.2 K v) .n) .n)) .n))) Tryz.func97 rfl hbv97 ⟨zkv,kQ,trivial⟩ fun x=>by kernel_rfl
def ZK:Ct TS:=⟨[.d (.i .i64) 0,.d (.i .i64) 1,.d (.l (.i .i64)) 2],[],[.i .i64,.i .i64,.l (.i .i64)],.d .b 3,[],[.b],false,fun x=>zw x.1 x.2.1 x.2.2⟩
theorem zcv:za Tryz.prog 99∧ZK.OK Tryz.prog 99:=ctk (T:=[]) (h:=.s .n (.s (.s .n (.s (.lr ⟨[(0,.d (.i .i64) 0),(1,.d (.i .i64) 1),(9,.d (.l (.i .i64)) 2),(10,.d (.i .i64) 3),(11,.d (.i .i64) 4)],[],[.i .i64,.i .i64,.l (.i .i64),.i .i64],[.i .i64]⟩ [] [] [] 0 (fun x K v=>kl x.1 x.2.1 x.2.2.1 x.2.2.2 K v) (.s .n (.s .n (.s (.s (.s .n (.s (.j ⟨[(0,.d (.i .i64) 0),(1,.d (.i .i64) 1),(9,.d (.l (.i .i64)) 2),(10,.d (.i .i64) 3),(11,.d (.i .i64) 4),(22,.d .b 5)],[],[.i .i64,.i .i64,.l (.i .i64),.i .i64,.i .i64],[.b]⟩ false .n) .n)) .n) .n)))) .n)) .n)) Tryz.func99 rfl hbv99 trivial fun x=>by kernel_rfl
def Yv:Ct TS:=⟨[.d (.l (.st 4)) 0],[],[.l (.st 4)],.d (.l (.st 14)) 1,[],[.l (.st 14)],false,fun x=>Ak x⟩
theorem zf1:za Tryz.prog 278∧Yv.OK Tryz.prog 278:=ctk (T:=[]) (h:=.s .n (.s .n (.s (.s .n (.s (.l ⟨[(0,.d (.l (.st 4)) 0),(3,.row 4 1000007),(9,.d (.i .i64) 1),(10,.d (.i .i64) 2)],(h4 1000007 310 14 3),[.l (.st 4),.i .i64],[.i .i64,.l (.st 14)]⟩ [(3,.row 4 1000007)] (h4 1000007 310 14 2) [.l (.st 14)] 0 (fun x K v=>yP x.1 x.2 K v) .n) .n)) .n))) Tryz.func278 rfl zBp trivial fun x=>by kernel_rfl
def Yw:Ct TS:=⟨[.d (.st 4) 0],[],[.st 4],.d .b 1,[],[.b],false,fun x=>Kf x⟩
theorem zf2:za Tryz.prog 279∧Yw.OK Tryz.prog 279:=ctk (T:=[]) (h:=.n) Tryz.func279 rfl zBq trivial fun x=>by kernel_rfl
def uD:Ct TS:=⟨[.d (.st 14) 0],[],[.st 14],.d .b 1,[],[.b],false,fun x=>zY x⟩
theorem Ki:za Tryz.prog 280∧uD.OK Tryz.prog 280:=ctk (T:=[]) (h:=.n) Tryz.func280 rfl zBr trivial fun x=>by kernel_rfl
def Vu:Ct TS:=⟨[.d (.i .i64) 0],[],[.i .i64],.d .b 1,[],[.b],false,fun x=>ue x⟩
theorem zcw:za Tryz.prog 331∧Vu.OK Tryz.prog 331:=ctk (T:=[]) (h:=.n) Tryz.func331 rfl zBs trivial fun x=>by kernel_rfl
def Jz:Ct TS:=⟨[.d (.i .i64) 0,.d (.i .i64) 1],[],[.i .i64,.i .i64],.d (.i .i64) 2,[],[.i .i64],false,fun x=>wJ x.1 x.2⟩
theorem Wq:za Tryz.prog 314∧Jz.OK Tryz.prog 314:=ctk (T:=[(331,Vu)]) (h:=.n) Tryz.func314 rfl zBt ⟨zcw,trivial⟩ fun x=>by kernel_rfl
def zie:Ct TS:=⟨[.d (.l (.i .i64)) 0],[],[.l (.i .i64)],.d (.i .i64) 1,[],[.i .i64],false,fun x=>Qj x⟩
theorem zpd:za Tryz.prog 313∧zie.OK Tryz.prog 313:=ctk (T:=[]) (h:=.s .n (.s .n (.s (.s .n (.s (.lr ⟨[(3,.d (.i .i64) 0),(6,.d (.l (.i .i64)) 1),(7,.d (.i .i64) 2),(8,.d (.i .i64) 3)],[],[.i .i64,.l (.i .i64),.i .i64],[.i .i64]⟩ [(3,.d (.i .i64) 0)] [] [] 0 (fun x K v=>vc x.1 x.2.1 x.2.2 K v) .n) .n)) .n))) Tryz.func313 rfl zBu trivial fun x=>by kernel_rfl
def Vv:Ct TS:=⟨[.d (.st 4) 0,.d (.st 4) 1],[],[.st 4,.st 4],.d (.i .i64) 2,[],[.i .i64],false,fun x=>uf x.1 x.2⟩
theorem zcx:za Tryz.prog 281∧Vv.OK Tryz.prog 281:=ctk (T:=[(314,Jz),(313,zie)]) (h:=.n) Tryz.func281 rfl zBv ⟨Wq,zpd,trivial⟩ fun x=>by kernel_rfl
def uE:Ct TS:=⟨[.d (.st 14) 0,.d (.st 14) 1],[],[.st 14,.st 14],.d .b 2,[],[.b],false,fun x=>uB x.1 x.2⟩
theorem Kj:za Tryz.prog 282∧uE.OK Tryz.prog 282:=ctk (T:=[]) (h:=.n) Tryz.func282 rfl zBw trivial fun x=>by kernel_rfl
def zcy:Ct TS:=⟨[.d (.l (.st 4)) 0],[],[.l (.st 4)],.d .b 1,[],[.b],false,fun x=>Ve x⟩
theorem zkw:za Tryz.prog 202∧zcy.OK Tryz.prog 202:=ctk (T:=[(278,Yv),(279,Yw),(280,uD),(281,Vv),(282,uE)]) (h:=.s .n (.s (.s (.j ⟨[(0,.d (.l (.st 4)) 0),(16,.d .b 1)],[],[.l (.st 4)],[.b]⟩ false .n) .n) (.s .n (.s (.s .n (.s (.lr ⟨[(0,.d (.l (.st 4)) 0),(3,.d (.l (.st 14)) 1),(19,.d (.l (.st 14)) 1),(20,.d (.i .i64) 2),(21,.d (.i .i64) 3)],[],[.l (.st 4),.l (.st 14),.i .i64],[.i .i64]⟩ [(3,.d (.l (.st 14)) 1)] [] [] 0 (fun x K v=>wu x.1 x.2.1 x.2.2 K v) (.s .n (.s .n (.s (.s (.s .n (.s .n (.s (.s (.j ⟨[(0,.d (.l (.st 4)) 0),(3,.d (.l (.st 14)) 1),(4,.d (.i .i64) 2),(19,.d (.l (.st 14)) 1),(20,.d (.i .i64) 3),(21,.d (.i .i64) 2),(61,.d .b 4)],[],[.l (.st 4),.l (.st 14),.i .i64,.i .i64],[.b]⟩ false .n) .n) (.s (.j ⟨[(0,.d (.l (.st 4)) 0),(3,.d (.l (.st 14)) 1),(19,.d (.l (.st 14)) 1),(20,.d (.i .i64) 2),(21,.d (.i .i64) 3),(74,.d .b 4)],[],[.l (.st 4),.l (.st 14),.i .i64,.i .i64],[.b]⟩ false .n) .n)))) .n) .n)))) .n)) (.s (.s .n (.s (.lr ⟨[(3,.d (.l (.st 14)) 0),(77,.d (.i .i64) 1),(78,.d (.i .i64) 2)],[],[.l (.st 14),.i .i64],[.i .i64]⟩ [(3,.d (.l (.st 14)) 0)] [] [] 2 (fun x K v=>wx x.1 x.2 K v) (.s .n (.s .n (.s (.s (.s .n (.s .n (.s (.lr ⟨[(3,.d (.l (.st 14)) 0),(7,.d (.i .i64) 1),(8,.d (.i .i64) 3),(77,.d (.i .i64) 2),(78,.d (.i .i64) 1)],[],[.l (.st 14),.i .i64,.i .i64],[.i .i64]⟩ [(3,.d (.l (.st 14)) 0),(77,.d (.i .i64) 2),(78,.d (.i .i64) 1)] [] [] 4 (fun x K v=>wv x.1 x.2.1 x.2.2 K v) (.s .n (.s (.s (.s (.j ⟨[(3,.d (.l (.st 14)) 0),(7,.d (.i .i64) 1),(8,.d (.i .i64) 2),(77,.d (.i .i64) 3),(78,.d (.i .i64) 1),(106,.d .b 4)],[],[.l (.st 14),.i .i64,.i .i64,.i .i64],[.b]⟩ false .n) .n) .n) .n))) .n))) .n) .n)))) .n)) .n))))) Tryz.func202 rfl zBx ⟨zf1,zf2,Ki,zcx,Kj,trivial⟩ fun x=>by kernel_rfl
def zif:Ct TS:=⟨[.d (.l (.st 4)) 0],[],[.l (.st 4)],.d .b 1,[],[.b],false,fun x=>ug x⟩
theorem zpe:za Tryz.prog 100∧zif.OK Tryz.prog 100:=ctk (T:=[(202,zcy)]) (h:=.n) Tryz.func100 rfl zBy ⟨zkw,trivial⟩ fun x=>by kernel_rfl
def AD:Ct TS:=⟨[.d (.l (.s)) 0,.d (.l (.s)) 1],[],[.l (.s),.l (.s)],.d .b 2,[],[.b],false,fun x=>xU x.1 x.2⟩
theorem Vw:za Tryz.prog 152∧AD.OK Tryz.prog 152:=ctk (T:=[]) (h:=.s .n (.s .n (.s (.s .n (.s (.lr ⟨[(0,.d (.l (.s)) 0),(1,.d (.l (.s)) 1),(12,.d (.i .i64) 2),(13,.d (.i .i64) 3)],[],[.l (.s),.l (.s),.i .i64],[.i .i64]⟩ [] [] [] 0 (fun x K v=>vd x.1 x.2.1 x.2.2 K v) .n) .n)) .n))) Tryz.func152 rfl zBz trivial fun x=>by kernel_rfl
def wT(RK:Nat):Ct TS:=⟨[.d (.l (.st 0)) 0,.d (.l (.st 0)) 1,.fn 42 [] []],[],[.l (.st 0),.l (.st 0)],.d .b 2,[],[.b],false,fun x=>xg RK x.1 x.2⟩
def j4(RK:Nat):Ct TS:=⟨[.d (.st 0) 0,.d (.st 0) 1],[],[.st 0,.st 0],.d .b 2,[],[.b],false,fun x=>xC RK x.1 x.2⟩
theorem xQ:∀RK,(wT RK).OK Tryz.prog 151∧(j4 RK).OK Tryz.prog 42
 |0=>⟨(fun x r h=>nomatch (show(none:Option _)=some r from h)),(fun x r h=>nomatch (show(none:Option _)=some r from h))⟩
 |RK+1=>⟨(ctk (c:=wT (RK+1)) (T:=[(42,j4 RK)]) (h:=.s .n (.s .n (.s (.s .n (.s (.lr ⟨[(1,.d (.l (.st 0)) 0),(2,.fn 42 [] []),(15,.d (.l (.st 0)) 1),(16,.d (.i .i64) 2),(17,.d (.i .i64) 3)],[],[.l (.st 0),.l (.st 0),.i .i64],[.i .i64]⟩ [] [] [] 0 (fun x K v=>xo (xC RK) x.1 x.2.1 x.2.2 K v) .n) .n)) .n))) Tryz.func151 rfl zup ⟨⟨zyb,(xQ RK).2⟩,trivial⟩ fun x=>by kernel_rfl).2,(ctk (c:=j4 (RK+1)) (T:=[(151,wT RK)]) (h:=.n) Tryz.func42 rfl zyb ⟨⟨zup,(xQ RK).1⟩,trivial⟩ fun x=>by kernel_rfl).2⟩
theorem Vx(RK:Nat):za Tryz.prog 42∧(j4 RK).OK Tryz.prog 42:=⟨zyb,(xQ RK).2⟩
def Kk:Ct TS:=⟨[.d (.st 7) 0,.d (.st 7) 1],[],[.st 7,.st 7],.d .b 2,[],[.b],false,fun x=>ve x.1 x.2⟩
theorem Vy:za Tryz.prog 53∧Kk.OK Tryz.prog 53:=ctk (T:=[(152,AD),(42,j4 KK)]) (h:=.s .n (.s (.s (.j ⟨[(2,.ptr 1000002 0),(3,.ptr 1000003 0),(27,.d .b 40)],(h17 1000002 0 1 2 3 4 5 6 7 8 9 10 11 12 13 14 15 16 17 18 19 1000003 20 21 22 23 24 25 26 27 28 29 30 31 32 33 34 35 36 37 38 39),k18,[.b]⟩ false .n) .n) (.s (.j ⟨[(2,.ptr 1000002 0),(3,.ptr 1000003 0),(5,.d .b 40)],(h17 1000002 0 1 2 3 4 5 6 7 8 9 10 11 12 13 14 15 16 17 18 19 1000003 20 21 22 23 24 25 26 27 28 29 30 31 32 33 34 35 36 37 38 39),k18,[.b]⟩ false .n) .n))) Tryz.func53 rfl hbv53 ⟨Vw,(Vx KK),trivial⟩ fun x=>by kernel_rfl
def Vz:Ct TS:=⟨[.d (.st 7) 0],h2,[.st 7],.d .b 1,h2,[.b],false,fun x=>km x⟩
theorem zcz:za Tryz.prog 101∧Vz.OK Tryz.prog 101:=ctk (T:=[(200,uo),(99,ZK),(96,Hp),(53,Kk)]) (h:=.s .n (.s (.s (.j ⟨[(1,.ptr 1000001 0),(37,.d .b 20)],[(900000000,.rw 1),(900000001,.rw 2),(900000002,.rw 3),(900000003,.rw 4),(1000001,.box 39 [.d .s 0,.d (.l (.s)) 1,.d (.l (.s)) 2,.d (.i .i64) 3,.d (.i .i64) 4,.d (.i .i64) 5,.d .b 6,.d (.i .i64) 7,.d (.i .i64) 8,.d (.i .i64) 9,.d .s 10,.d .s 11,.d (.l (.st 0)) 12,.d (.i .i64) 13,.d (.i .i64) 14,.d (.i .i64) 15,.d (.i .i64) 16,.d (.i .i64) 17,.d (.i .i64) 18,.d (.i .i64) 19])],k19,[.b]⟩ false .n) .n) (.s .n (.s .n (.s (.j ⟨[(1,.ptr 1000001 0),(3,.ptr 1000003 0),(4,.d .b 20)],[(900000000,.rw 1),(900000001,.rw 2),(900000002,.rw 3),(900000003,.rw 4),(1000001,.box 39 [.d .s 0,.d (.l (.s)) 1,.d (.l (.s)) 2,.d (.i .i64) 3,.d (.i .i64) 4,.d (.i .i64) 5,.d .b 6,.d (.i .i64) 7,.d (.i .i64) 8,.d (.i .i64) 9,.d .s 10,.d .s 11,.d (.l (.st 0)) 12,.d (.i .i64) 13,.d (.i .i64) 14,.d (.i .i64) 15,.d (.i .i64) 16,.d (.i .i64) 17,.d (.i .i64) 18,.d (.i .i64) 19]),(1000003,.box 39 [.d .s 0,.d (.l (.s)) 1,.d (.l (.s)) 2,.d (.i .i64) 3,.d (.i .i64) 4,.d (.i .i64) 5,.d .b 6,.d (.i .i64) 7,.d (.i .i64) 21,.d (.i .i64) 22,.d .s 23,.d .s 24,.d (.l (.st 0)) 25,.d (.i .i64) 26,.d (.i .i64) 27,.d (.i .i64) 28,.d (.i .i64) 29,.d (.i .i64) 30,.d (.i .i64) 31,.d (.i .i64) 32])],k19,[.b,.i .i64,.i .i64,.s,.s,.l (.st 0),.i .i64,.i .i64,.i .i64,.i .i64,.i .i64,.i .i64,.i .i64]⟩ false .n) .n))))) Tryz.func101 rfl zB0 ⟨kQ,zcv,KO,Vy,trivial⟩ fun x=>by kernel_rfl
def Kl:Ct TS:=⟨[.d (.st 12) 0],h2,[.st 12],.d .b 1,h2,[.b],false,fun x=>uh x⟩
theorem JA:za Tryz.prog 28∧Kl.OK Tryz.prog 28:=ctk (T:=[(84,zid),(86,Yp),(88,Yq),(90,Yr),(92,Ys),(94,Yt),(96,Hp),(97,Yu),(99,ZK),(100,zif),(101,Vz)]) (h:=.s .n (.s (.s (.j ⟨[(1,.ptr 1000001 0),(54,.d .b 8)],(h20 1000001 0 1 2 3 4 5 6 7),k1,[.b]⟩ false .n) .n) (.s (.s .n (.s (.lr ⟨[(1,.ptr 1000001 0),(56,.d (.l (.st 1)) 0),(57,.d (.i .i64) 1),(58,.d (.i .i64) 9)],(h20 1000001 0 2 3 4 5 6 7 8),[.l (.st 1),.i .i64,.l (.st 3),.l (.st 5),.l (.st 7),.l (.st 8),.l (.st 10),.l (.st 9),.i .i64],[.i .i64]⟩ [(1,.ptr 1000001 0)] (h20 1000001 0 2 3 4 5 6 7 8) [] 0 (fun x K v=>jP x.1 x.2.1 x.2.2.1 x.2.2.2.1 x.2.2.2.2.1 x.2.2.2.2.2.1 x.2.2.2.2.2.2.1 x.2.2.2.2.2.2.2.1 x.2.2.2.2.2.2.2.2 K v) .n) .n)) (.s (.s .n (.s (.lr ⟨[(1,.ptr 1000001 0),(68,.d (.l (.st 3)) 0),(69,.d (.i .i64) 1),(70,.d (.i .i64) 9)],(h20 1000001 2 0 3 4 5 6 7 8),[.l (.st 3),.i .i64,.l (.st 1),.l (.st 5),.l (.st 7),.l (.st 8),.l (.st 10),.l (.st 9),.i .i64],[.i .i64]⟩ [(1,.ptr 1000001 0)] (h20 1000001 2 0 3 4 5 6 7 8) [] 2 (fun x K v=>vf x.1 x.2.1 x.2.2.1 x.2.2.2.1 x.2.2.2.2.1 x.2.2.2.2.2.1 x.2.2.2.2.2.2.1 x.2.2.2.2.2.2.2.1 x.2.2.2.2.2.2.2.2 K v) (.s .n (.s .n (.s (.s (.s .n (.s (.s (.j ⟨[(1,.ptr 1000001 0),(6,.ptr 1000006 0),(68,.d (.l (.st 3)) 0),(69,.d (.i .i64) 1),(70,.d (.i .i64) 2),(84,.d .b 13)],[(900000000,.rw 1),(900000001,.rw 2),(900000002,.rw 3),(900000003,.rw 4),(1000001,.box 30 [.d (.l (.st 1)) 3,.d (.l (.st 3)) 0,.d (.l (.st 5)) 4,.d (.l (.st 7)) 5,.d (.l (.st 8)) 6,.d (.l (.st 10)) 7,.d (.l (.st 9)) 8,.d (.i .i64) 9]),(1000006,.box 70 [.d .s 10,.d (.l (.st 2)) 11,.d (.i .i64) 12])],[.l (.st 3),.i .i64,.i .i64,.l (.st 1),.l (.st 5),.l (.st 7),.l (.st 8),.l (.st 10),.l (.st 9),.i .i64,.s,.l (.st 2),.i .i64],[.b]⟩ false .n) .n) (.s .n (.s (.lr ⟨[(1,.ptr 1000001 0),(68,.d (.l (.st 3)) 0),(69,.d (.i .i64) 1),(70,.d (.i .i64) 2),(86,.d (.l (.st 2)) 3),(87,.d (.i .i64) 4),(88,.d (.i .i64) 12)],(h20 1000001 5 0 6 7 8 9 10 11),[.l (.st 3),.i .i64,.i .i64,.l (.st 2),.i .i64,.l (.st 1),.l (.st 5),.l (.st 7),.l (.st 8),.l (.st 10),.l (.st 9),.i .i64],[.i .i64]⟩ [(1,.ptr 1000001 0),(68,.d (.l (.st 3)) 0),(69,.d (.i .i64) 1),(70,.d (.i .i64) 2)] (h20 1000001 5 0 6 7 8 9 10 11) [] 4 (fun x K v=>qx x.1 x.2.1 x.2.2.1 x.2.2.2.1 x.2.2.2.2.1 x.2.2.2.2.2.1 x.2.2.2.2.2.2.1 x.2.2.2.2.2.2.2.1 x.2.2.2.2.2.2.2.2.1 x.2.2.2.2.2.2.2.2.2.1 x.2.2.2.2.2.2.2.2.2.2.1 x.2.2.2.2.2.2.2.2.2.2.2 K v) .n) .n)))) .n) .n)))) .n)) (.s (.s .n (.s (.lr ⟨[(1,.ptr 1000001 0),(100,.d (.l (.st 5)) 0),(101,.d (.i .i64) 1),(102,.d (.i .i64) 9)],(h20 1000001 2 3 0 4 5 6 7 8),[.l (.st 5),.i .i64,.l (.st 1),.l (.st 3),.l (.st 7),.l (.st 8),.l (.st 10),.l (.st 9),.i .i64],[.i .i64]⟩ [(1,.ptr 1000001 0)] (h20 1000001 2 3 0 4 5 6 7 8) [] 6 (fun x K v=>jQ x.1 x.2.1 x.2.2.1 x.2.2.2.1 x.2.2.2.2.1 x.2.2.2.2.2.1 x.2.2.2.2.2.2.1 x.2.2.2.2.2.2.2.1 x.2.2.2.2.2.2.2.2 K v) .n) .n)) (.s (.s .n (.s (.lr ⟨[(1,.ptr 1000001 0),(112,.d (.l (.st 7)) 0),(113,.d (.i .i64) 1),(114,.d (.i .i64) 9)],(h20 1000001 2 3 4 0 5 6 7 8),[.l (.st 7),.i .i64,.l (.st 1),.l (.st 3),.l (.st 5),.l (.st 8),.l (.st 10),.l (.st 9),.i .i64],[.i .i64]⟩ [(1,.ptr 1000001 0)] (h20 1000001 2 3 4 0 5 6 7 8) [] 8 (fun x K v=>jR x.1 x.2.1 x.2.2.1 x.2.2.2.1 x.2.2.2.2.1 x.2.2.2.2.2.1 x.2.2.2.2.2.2.1 x.2.2.2.2.2.2.2.1 x.2.2.2.2.2.2.2.2 K v) .n) .n)) (.s (.s .n (.s (.lr ⟨[(1,.ptr 1000001 0),(123,.d (.l (.st 8)) 0),(124,.d (.i .i64) 1),(125,.d (.i .i64) 9)],(h20 1000001 2 3 4 5 0 6 7 8),[.l (.st 8),.i .i64,.l (.st 1),.l (.st 3),.l (.st 5),.l (.st 7),.l (.st 10),.l (.st 9),.i .i64],[.i .i64]⟩ [(1,.ptr 1000001 0)] (h20 1000001 2 3 4 5 0 6 7 8) [] 10 (fun x K v=>jS x.1 x.2.1 x.2.2.1 x.2.2.2.1 x.2.2.2.2.1 x.2.2.2.2.2.1 x.2.2.2.2.2.2.1 x.2.2.2.2.2.2.2.1 x.2.2.2.2.2.2.2.2 K v) (.s .n (.s .n (.s (.s (.s .n (.s (.j ⟨[(1,.ptr 1000001 0),(123,.d (.l (.st 8)) 0),(124,.d (.i .i64) 1),(125,.d (.i .i64) 2),(146,.d .b 10)],(h20 1000001 3 4 5 6 0 7 8 9),[.l (.st 8),.i .i64,.i .i64,.l (.st 1),.l (.st 3),.l (.st 5),.l (.st 7),.l (.st 10),.l (.st 9),.i .i64],[.b]⟩ false .n) .n)) .n) .n)))) .n)) (.s (.s .n (.s (.lr ⟨[(1,.ptr 1000001 0),(149,.d (.l (.st 10)) 0),(150,.d (.i .i64) 1),(151,.d (.i .i64) 9)],(h20 1000001 2 3 4 5 6 0 7 8),[.l (.st 10),.i .i64,.l (.st 1),.l (.st 3),.l (.st 5),.l (.st 7),.l (.st 8),.l (.st 9),.i .i64],[.i .i64]⟩ [(1,.ptr 1000001 0)] (h20 1000001 2 3 4 5 6 0 7 8) [] 12 (fun x K v=>vg x.1 x.2.1 x.2.2.1 x.2.2.2.1 x.2.2.2.2.1 x.2.2.2.2.2.1 x.2.2.2.2.2.2.1 x.2.2.2.2.2.2.2.1 x.2.2.2.2.2.2.2.2 K v) (.s .n (.s .n (.s (.s (.s .n (.s (.s (.j ⟨[(1,.ptr 1000001 0),(16,.ptr 1000016 0),(149,.d (.l (.st 10)) 0),(150,.d (.i .i64) 1),(151,.d (.i .i64) 2),(167,.d .b 16)],[(900000000,.rw 1),(900000001,.rw 2),(900000002,.rw 3),(900000003,.rw 4),(1000001,.box 30 [.d (.l (.st 1)) 3,.d (.l (.st 3)) 4,.d (.l (.st 5)) 5,.d (.l (.st 7)) 6,.d (.l (.st 8)) 7,.d (.l (.st 10)) 0,.d (.l (.st 9)) 8,.d (.i .i64) 9]),(1000016,.box 79 [.d .s 10,.d (.i .i64) 11,.d (.i .i64) 12,.d (.i .i64) 13,.d (.i .i64) 14,.d (.l (.st 9)) 15])],[.l (.st 10),.i .i64,.i .i64,.l (.st 1),.l (.st 3),.l (.st 5),.l (.st 7),.l (.st 8),.l (.st 9),.i .i64,.s,.i .i64,.i .i64,.i .i64,.i .i64,.l (.st 9)],[.b]⟩ false .n) .n) (.s .n (.s (.lr ⟨[(1,.ptr 1000001 0),(149,.d (.l (.st 10)) 0),(150,.d (.i .i64) 1),(151,.d (.i .i64) 2),(173,.row 3 1000170),(174,.d (.i .i64) 3),(175,.d (.i .i64) 12)],(h21 4 5 6 7 8 9 10 11),[.l (.st 10),.i .i64,.i .i64,.i .i64,.l (.st 1),.l (.st 3),.l (.st 5),.l (.st 7),.l (.st 8),.l (.st 9),.i .i64,.l (.st 9)],[.i .i64]⟩ [(1,.ptr 1000001 0),(149,.d (.l (.st 10)) 0),(150,.d (.i .i64) 1),(151,.d (.i .i64) 2)] (h20 1000001 4 5 6 7 8 0 9 10) [] 14 (fun x K v=>qy x.1 x.2.1 x.2.2.1 x.2.2.2.1 x.2.2.2.2.1 x.2.2.2.2.2.1 x.2.2.2.2.2.2.1 x.2.2.2.2.2.2.2.1 x.2.2.2.2.2.2.2.2.1 x.2.2.2.2.2.2.2.2.2.1 x.2.2.2.2.2.2.2.2.2.2.1 x.2.2.2.2.2.2.2.2.2.2.2 K v) (.s .n (.s .n (.s (.s (.s .n (.s (.j ⟨[(1,.ptr 1000001 0),(149,.d (.l (.st 10)) 0),(150,.d (.i .i64) 1),(151,.d (.i .i64) 2),(173,.row 3 1000170),(174,.d (.i .i64) 3),(175,.d (.i .i64) 4),(192,.d .b 13)],(h21 5 6 7 8 9 10 11 12),[.l (.st 10),.i .i64,.i .i64,.i .i64,.i .i64,.l (.st 1),.l (.st 3),.l (.st 5),.l (.st 7),.l (.st 8),.l (.st 9),.i .i64,.l (.st 9)],[.b]⟩ false .n) .n)) .n) .n)))) .n)))) .n) .n)))) .n)) (.s (.s .n (.s (.lr ⟨[(1,.ptr 1000001 0),(196,.d (.l (.st 9)) 0),(197,.d (.i .i64) 1),(198,.d (.i .i64) 9)],(h20 1000001 2 3 4 5 6 7 0 8),[.l (.st 9),.i .i64,.l (.st 1),.l (.st 3),.l (.st 5),.l (.st 7),.l (.st 8),.l (.st 10),.i .i64],[.i .i64]⟩ [(1,.ptr 1000001 0)] (h20 1000001 2 3 4 5 6 7 0 8) [] 16 (fun x K v=>jT x.1 x.2.1 x.2.2.1 x.2.2.2.1 x.2.2.2.2.1 x.2.2.2.2.2.1 x.2.2.2.2.2.2.1 x.2.2.2.2.2.2.2.1 x.2.2.2.2.2.2.2.2 K v) (.s .n (.s .n (.s (.s (.s .n (.s (.j ⟨[(1,.ptr 1000001 0),(196,.d (.l (.st 9)) 0),(197,.d (.i .i64) 1),(198,.d (.i .i64) 2),(215,.d .b 10)],(h20 1000001 3 4 5 6 7 8 0 9),[.l (.st 9),.i .i64,.i .i64,.l (.st 1),.l (.st 3),.l (.st 5),.l (.st 7),.l (.st 8),.l (.st 10),.i .i64],[.b]⟩ false .n) .n)) .n) .n)))) .n)) .n))))))))) Tryz.func28 rfl hbv28 ⟨zpc,zfv,zfw,zfx,zfy,zfz,KO,zf0,zcv,zpe,zcz,trivial⟩ fun x=>by kernel_rfl
def ZL:Ct TS:=⟨[.d (.st 12) 0],[],[.st 12],.ag [.d (.i .i64) 1,.d .s 2,.d .s 3,.d (.i .i64) 4,.d .s 5,.d (.l (.s)) 6,.d (.l (.s)) 7,.d (.i .i64) 8,.d (.i .i64) 9,.d (.i .i64) 10,.d .b 11,.d (.i .i64) 12,.d (.i .i64) 13,.d (.i .i64) 14,.d .s 15,.d .s 16,.d (.l (.st 0)) 17,.d (.i .i64) 18,.d (.i .i64) 19,.d (.i .i64) 20,.d (.i .i64) 21,.d (.i .i64) 22,.d (.i .i64) 23,.d (.i .i64) 24,.d (.i .i64) 25,.d (.i .i64) 26,.d .s 27,.d .s 28,.d (.l (.st 0)) 29,.d (.l (.st 4)) 30],(h22 7000001 1 2 3 4 5 6 7 8 9 10 11 12 13 14 15 16 17 18 19 20 21 22 23 24 25 26 27 28 29 30),k23,false,fun x=>Al x⟩
theorem zc0:za Tryz.prog 73∧ZL.OK Tryz.prog 73:=ctg (cd:=cdT) (nb:=nbT) (rc:=[(2,7000001,0)]) (T:=[]) (h:=.s .n (.s .n (.s .n (.s .n (.s (.j ⟨[(2,.ptr 1000002 0),(4,.ptr 1000004 0)],(h24 1 0 1 2 2 0 0 0 3 0 0 0 1 1 4 0 0 0 0 0 0 0 0 0 1 1 4 5 1000004 6 7 1 9 1 2 2 0 0 0 3 0 0 0 1 1 4 0 0 0 0 0 0 0 0 0 1 1 4 8),[.i .i64,.s,.l (.s),.b,.l (.st 0),.l (.st 4),.i .i64,.s,.l (.st 4)],[.i .i64]⟩ false .n) .n))))) Tryz.func73 rfl hbv73 trivial fun x=>by kernel_rfl
def y8:Ct TS:=⟨[.d (.l (.st 4)) 0,.d (.l (.st 4)) 1],[],[.l (.st 4),.l (.st 4)],.d .b 2,[],[.b],false,fun x=>zZ x.1 x.2⟩
theorem xF:za Tryz.prog 46∧y8.OK Tryz.prog 46:=ctk (T:=[]) (h:=.s .n (.s .n (.s (.s .n (.s (.lr ⟨[(0,.d (.l (.st 4)) 0),(1,.d (.l (.st 4)) 1),(12,.d (.i .i64) 2),(13,.d (.i .i64) 3)],[],[.l (.st 4),.l (.st 4),.i .i64],[.i .i64]⟩ [] [] [] 0 (fun x K v=>we x.1 x.2.1 x.2.2 K v) .n) .n)) .n))) Tryz.func46 rfl hbv46 trivial fun x=>by kernel_rfl
def zig:Ct TS:=⟨[.d (.st 1) 0,.d (.st 1) 1],[],[.st 1,.st 1],.d .b 2,[],[.b],false,fun x=>Qk x.1 x.2⟩
theorem zpf:za Tryz.prog 41∧zig.OK Tryz.prog 41:=ctk (T:=[(42,j4 KK)]) (h:=.n) Tryz.func41 rfl hbv41 ⟨(Vx KK),trivial⟩ fun x=>by kernel_rfl
def jg:Ct TS:=⟨[.d (.l (.st 1)) 0,.d (.l (.st 1)) 1,.fn 41 [] []],[],[.l (.st 1),.l (.st 1)],.d .b 2,[],[.b],false,fun x=>yh x.1 x.2⟩
theorem oB:za Tryz.prog 50∧jg.OK Tryz.prog 50:=ctk (T:=[(41,zig)]) (h:=.s .n (.s .n (.s (.s .n (.s (.lr ⟨[(1,.d (.l (.st 1)) 0),(2,.fn 41 [] []),(15,.d (.l (.st 1)) 1),(16,.d (.i .i64) 2),(17,.d (.i .i64) 3)],[],[.l (.st 1),.l (.st 1),.i .i64],[.i .i64]⟩ [] [] [] 0 (fun x K v=>yQ x.1 x.2.1 x.2.2 K v) .n) .n)) .n))) Tryz.func50 rfl hbv50 ⟨zpf,trivial⟩ fun x=>by kernel_rfl
def uF:Ct TS:=⟨[.d (.l (.st 2)) 0,.d (.l (.st 2)) 1],[],[.l (.st 2),.l (.st 2)],.d .b 2,[],[.b],false,fun x=>xX x.1 x.2⟩
theorem Km:za Tryz.prog 44∧uF.OK Tryz.prog 44:=ctk (T:=[]) (h:=.s .n (.s .n (.s (.s .n (.s (.lr ⟨[(0,.d (.l (.st 2)) 0),(1,.d (.l (.st 2)) 1),(12,.d (.i .i64) 2),(13,.d (.i .i64) 3)],[],[.l (.st 2),.l (.st 2),.i .i64],[.i .i64]⟩ [] [] [] 0 (fun x K v=>wg x.1 x.2.1 x.2.2 K v) .n) .n)) .n))) Tryz.func44 rfl hbv44 trivial fun x=>by kernel_rfl
def zih:Ct TS:=⟨[.d (.st 3) 0,.d (.st 3) 1],[],[.st 3,.st 3],.d .b 2,[],[.b],false,fun x=>Ql x.1 x.2⟩
theorem zpg:za Tryz.prog 43∧zih.OK Tryz.prog 43:=ctk (T:=[(44,uF)]) (h:=.n) Tryz.func43 rfl hbv43 ⟨Km,trivial⟩ fun x=>by kernel_rfl
def jh:Ct TS:=⟨[.d (.l (.st 3)) 0,.d (.l (.st 3)) 1,.fn 43 [] []],[],[.l (.st 3),.l (.st 3)],.d .b 2,[],[.b],false,fun x=>yi x.1 x.2⟩
theorem oC:za Tryz.prog 51∧jh.OK Tryz.prog 51:=ctk (T:=[(43,zih)]) (h:=.s .n (.s .n (.s (.s .n (.s (.lr ⟨[(1,.d (.l (.st 3)) 0),(2,.fn 43 [] []),(15,.d (.l (.st 3)) 1),(16,.d (.i .i64) 2),(17,.d (.i .i64) 3)],[],[.l (.st 3),.l (.st 3),.i .i64],[.i .i64]⟩ [] [] [] 0 (fun x K v=>yR x.1 x.2.1 x.2.2 K v) .n) .n)) .n))) Tryz.func51 rfl hbv51 ⟨zpg,trivial⟩ fun x=>by kernel_rfl
def ji:Ct TS:=⟨[.d (.l (.st 7)) 0,.d (.l (.st 7)) 1,.fn 53 [] []],[],[.l (.st 7),.l (.st 7)],.d .b 2,[],[.b],false,fun x=>yj x.1 x.2⟩
theorem oD:za Tryz.prog 52∧ji.OK Tryz.prog 52:=ctk (T:=[(53,Kk)]) (h:=.s .n (.s .n (.s (.s .n (.s (.lr ⟨[(1,.d (.l (.st 7)) 0),(2,.fn 53 [] []),(15,.d (.l (.st 7)) 1),(16,.d (.i .i64) 2),(17,.d (.i .i64) 3)],[],[.l (.st 7),.l (.st 7),.i .i64],[.i .i64]⟩ [] [] [] 0 (fun x K v=>yS x.1 x.2.1 x.2.2 K v) .n) .n)) .n))) Tryz.func52 rfl hbv52 ⟨Vy,trivial⟩ fun x=>by kernel_rfl
def zii:Ct TS:=⟨[.d (.st 5) 0,.d (.st 5) 1],[],[.st 5,.st 5],.d .b 2,[],[.b],false,fun x=>Qm x.1 x.2⟩
theorem zph:za Tryz.prog 45∧zii.OK Tryz.prog 45:=ctk (T:=[(46,y8)]) (h:=.n) Tryz.func45 rfl hbv45 ⟨xF,trivial⟩ fun x=>by kernel_rfl
def jj:Ct TS:=⟨[.d (.l (.st 5)) 0,.d (.l (.st 5)) 1,.fn 45 [] []],[],[.l (.st 5),.l (.st 5)],.d .b 2,[],[.b],false,fun x=>yk x.1 x.2⟩
theorem oE:za Tryz.prog 54∧jj.OK Tryz.prog 54:=ctk (T:=[(45,zii)]) (h:=.s .n (.s .n (.s (.s .n (.s (.lr ⟨[(1,.d (.l (.st 5)) 0),(2,.fn 45 [] []),(15,.d (.l (.st 5)) 1),(16,.d (.i .i64) 2),(17,.d (.i .i64) 3)],[],[.l (.st 5),.l (.st 5),.i .i64],[.i .i64]⟩ [] [] [] 0 (fun x K v=>yT x.1 x.2.1 x.2.2 K v) .n) .n)) .n))) Tryz.func54 rfl hbv54 ⟨zph,trivial⟩ fun x=>by kernel_rfl
def zij:Ct TS:=⟨[.d (.st 8) 0,.d (.st 8) 1],[],[.st 8,.st 8],.d .b 2,[],[.b],false,fun x=>Qn x.1 x.2⟩
theorem zpi:za Tryz.prog 47∧zij.OK Tryz.prog 47:=ctk (T:=[(46,y8)]) (h:=.n) Tryz.func47 rfl hbv47 ⟨xF,trivial⟩ fun x=>by kernel_rfl
def jk:Ct TS:=⟨[.d (.l (.st 8)) 0,.d (.l (.st 8)) 1,.fn 47 [] []],[],[.l (.st 8),.l (.st 8)],.d .b 2,[],[.b],false,fun x=>yl x.1 x.2⟩
theorem oF:za Tryz.prog 55∧jk.OK Tryz.prog 55:=ctk (T:=[(47,zij)]) (h:=.s .n (.s .n (.s (.s .n (.s (.lr ⟨[(1,.d (.l (.st 8)) 0),(2,.fn 47 [] []),(15,.d (.l (.st 8)) 1),(16,.d (.i .i64) 2),(17,.d (.i .i64) 3)],[],[.l (.st 8),.l (.st 8),.i .i64],[.i .i64]⟩ [] [] [] 0 (fun x K v=>yU x.1 x.2.1 x.2.2 K v) .n) .n)) .n))) Tryz.func55 rfl hbv55 ⟨zpi,trivial⟩ fun x=>by kernel_rfl
def vX:Ct TS:=⟨[.d (.l (.st 9)) 0,.d (.l (.st 9)) 1],[],[.l (.st 9),.l (.st 9)],.d .b 2,[],[.b],false,fun x=>y0 x.1 x.2⟩
theorem qC:za Tryz.prog 49∧vX.OK Tryz.prog 49:=ctk (T:=[]) (h:=.s .n (.s .n (.s (.s .n (.s (.lr ⟨[(0,.d (.l (.st 9)) 0),(1,.d (.l (.st 9)) 1),(12,.d (.i .i64) 2),(13,.d (.i .i64) 3)],[],[.l (.st 9),.l (.st 9),.i .i64],[.i .i64]⟩ [] [] [] 0 (fun x K v=>wh x.1 x.2.1 x.2.2 K v) .n) .n)) .n))) Tryz.func49 rfl hbv49 trivial fun x=>by kernel_rfl
def zik:Ct TS:=⟨[.d (.st 10) 0,.d (.st 10) 1],[],[.st 10,.st 10],.d .b 2,[],[.b],false,fun x=>Qo x.1 x.2⟩
theorem zpj:za Tryz.prog 48∧zik.OK Tryz.prog 48:=ctk (T:=[(49,vX)]) (h:=.n) Tryz.func48 rfl hbv48 ⟨qC,trivial⟩ fun x=>by kernel_rfl
def jm:Ct TS:=⟨[.d (.l (.st 10)) 0,.d (.l (.st 10)) 1,.fn 48 [] []],[],[.l (.st 10),.l (.st 10)],.d .b 2,[],[.b],false,fun x=>ym x.1 x.2⟩
theorem oG:za Tryz.prog 56∧jm.OK Tryz.prog 56:=ctk (T:=[(48,zik)]) (h:=.s .n (.s .n (.s (.s .n (.s (.lr ⟨[(1,.d (.l (.st 10)) 0),(2,.fn 48 [] []),(15,.d (.l (.st 10)) 1),(16,.d (.i .i64) 2),(17,.d (.i .i64) 3)],[],[.l (.st 10),.l (.st 10),.i .i64],[.i .i64]⟩ [] [] [] 0 (fun x K v=>yV x.1 x.2.1 x.2.2 K v) .n) .n)) .n))) Tryz.func56 rfl hbv56 ⟨zpj,trivial⟩ fun x=>by kernel_rfl
def zil:Ct TS:=⟨[.d (.st 12) 0,.d (.st 12) 1],[],[.st 12,.st 12],.d .b 2,[],[.b],false,fun x=>Vf x.1 x.2⟩
theorem zf3:za Tryz.prog 14∧zil.OK Tryz.prog 14:=ctk (T:=[(50,jg),(51,jh),(52,ji),(54,jj),(55,jk),(56,jm),(49,vX)]) (h:=.s .n (.s .n (.s .n (.s .n (.s .n (.s .n (.s (.j ⟨[(2,.ptr 1000002 0),(3,.ptr 1000003 0),(7,.fn 45 [] []),(8,.fn 47 [] []),(9,.fn 48 [] []),(10,.d .b 16)],(h25 0 1 2 3 4 5 6 7 1000003 8 9 10 11 12 13 14 15),k26,[.b]⟩ false .n) (.s (.j ⟨[(2,.ptr 1000002 0),(3,.ptr 1000003 0),(10,.d .b 0),(11,.d .b 17)],(h25 1 2 3 4 5 6 7 8 1000003 9 10 11 12 13 14 15 16),[.b,.l (.st 1),.l (.st 3),.l (.st 5),.l (.st 7),.l (.st 8),.l (.st 10),.l (.st 9),.i .i64,.l (.st 1),.l (.st 3),.l (.st 5),.l (.st 7),.l (.st 8),.l (.st 10),.l (.st 9),.i .i64],[.b]⟩ false .n) .n)))))))) Tryz.func14 rfl hbv14 ⟨oB,oC,oD,oE,oF,oG,qC,trivial⟩ fun x=>by kernel_rfl
def Qq:Ct TS:=⟨[.d (.st 13) 0,.d (.st 13) 1],[],[.st 13,.st 13],.d .b 2,[],[.b],false,fun x=>vt x.1 x.2⟩
theorem VA:za Tryz.prog 26∧Qq.OK Tryz.prog 26:=ctk (T:=[(46,y8),(14,zil)]) (h:=.s .n (.s (.j ⟨[(2,.ptr 1000002 0),(3,.ptr 1000003 0),(5,.d .b 60)],(h24 2 3 4 5 6 7 8 9 10 11 12 13 14 15 16 17 18 19 20 21 22 23 24 25 26 27 28 29 1000003 30 31 32 33 34 35 36 37 38 39 40 41 42 43 44 45 46 47 48 49 50 51 52 53 54 55 56 57 58 59),k27,[.b]⟩ false .n) .n)) Tryz.func26 rfl hbv26 ⟨xF,zf3,trivial⟩ fun x=>by kernel_rfl
def kv:Ct TS:=⟨[.d (.st 13) 0],h2,[.st 13],.d .b 1,h2,[.b],false,fun x=>yr x⟩
theorem j5:za Tryz.prog 22∧kv.OK Tryz.prog 22:=ctk (T:=[(62,Vs),(28,Kl),(73,ZL),(26,Qq),(80,zcl)]) (h:=.s .n (.s .n (.s (.s (.j ⟨[(1,.ptr 1000001 0),(36,.d .b 30)],(h5 1000001 0 1 2 3 4 5 6 7 8 9 10 11 12 13 14 15 16 17 18 19 20 21 22 23 24 25 26 27 28 29),k23,[.b]⟩ false .n) .n) .n))) Tryz.func22 rfl hbv22 ⟨Yo,JA,zc0,VA,ZJ,trivial⟩ fun x=>by kernel_rfl
def VB:Ct TS:=⟨[.d (.st 13) 0],h2,[.st 13],.d .b 1,h2,[.b],false,fun x=>Vg x⟩
theorem zc1:za Tryz.prog 61∧VB.OK Tryz.prog 61:=ctk (T:=[(22,kv)]) (h:=.n) Tryz.func61 rfl hbv61 ⟨j5,trivial⟩ fun x=>by kernel_rfl
def kS:Ct TS:=⟨[.d (.l (.st 13)) 0,.fn 61 [] []],h2,[.l (.st 13)],.d (.i .i64) 1,h2,[.i .i64],false,fun x=>kO x⟩
theorem Hq:za Tryz.prog 169∧kS.OK Tryz.prog 169:=ctk (T:=[(61,VB)]) (h:=.s .n (.s (.s .n (.s (.lr ⟨[(0,.d (.l (.st 13)) 0),(1,.fn 61 [] []),(7,.d (.i .i64) 1),(8,.d (.i .i64) 2)],h2,[.l (.st 13),.i .i64],[.i .i64]⟩ [] h2 [] 0 (fun x K v=>xp x.1 x.2 K v) .n) .n)) .n)) Tryz.func169 rfl zB1 ⟨zc1,trivial⟩ fun x=>by kernel_rfl
def vI:Ct TS:=⟨[.d (.l (.st 13)) 0,.fn 61 [] []],h2,[.l (.st 13)],.d .b 1,h2,[.b],false,fun x=>vz x⟩
theorem uL:za Tryz.prog 60∧vI.OK Tryz.prog 60:=ctk (T:=[(169,kS)]) (h:=.n) Tryz.func60 rfl hbv60 ⟨Hq,trivial⟩ fun x=>by kernel_rfl
def zpk:Ct TS:=⟨[.d (.i .i64) 0],h2,[.i .i64],.d .s 1,h2,[.s],false,fun x=>oq x⟩
theorem zpl:zpk.OK Tryz.prog 177:=fun x r h=>kmp (by kernel_rfl) (zA4 x r h)
def zc2:Ct TS:=⟨[.d .s 0,.d .s 1,.d .s 2,.d (.i .i64) 3],h2,[.s,.s,.s,.i .i64],.d .s 4,h2,[.s],false,fun x=>zcf x.1 x.2.1 x.2.2.1 x.2.2.2⟩
theorem zkx:zc2.OK Tryz.prog 176:=fun x r h=>kmp (by kernel_rfl) (zon x.1 x.2.1 x.2.2.1 x.2.2.2 r h)
def zim:Ct TS:=⟨[.d (.st 13) 0],h2,[.st 13],.d .s 1,h2,[.s],false,fun x=>zh2 x⟩
theorem zpm:za Tryz.prog 64∧zim.OK Tryz.prog 64:=ctk (T:=[(177,zpk),(176,zc2)]) (h:=.n) Tryz.func64 rfl hbv64 ⟨⟨zuq,zpl⟩,⟨zB2,zkx⟩,trivial⟩ fun x=>by kernel_rfl
def zpn:Ct TS:=⟨[.ptr 1 0,.d .s 1],[(1,.gn 0 (.s) 0)],[.s,.s],.tup [.d (.i .i64) 2,.nili],[(1,.gn 0 (.s) 3)],[.i .i64,.s],false,fun x=>zos x.1 x.2⟩
theorem zs7:zpn.OK Tryz.prog 65:=fun x r h=>by
 obtain⟨_,h1,h2⟩:=bind_some h;cases h2;exact kmp (by kernel_rfl) (zxk bldTB 1 x.1 x.2 (yg h1))
def zpo:Ct TS:=⟨[.ptr 1 0],[(1,.gn 0 (.s) 0)],[.s],.d (.i .i64) 1,[(1,.gn 0 (.s) 0)],[.i .i64],false,fun x=>zot x⟩
theorem zs8:zpo.OK Tryz.prog 66:=fun x r h=>by
 cases h;exact kmp (by kernel_rfl) (zxl (T:=107) 1 x)
def Yx:Ct TS:=⟨[.ptr 1 0],[(1,.gn 0 (.s) 0)],[.s],.d .s 1,[(1,.gn 0 (.s) 0)],[.s],false,fun x=>Yc x⟩
theorem zf4:Yx.OK Tryz.prog 67:=fun x r h=>by
 cases h;exact kmp (by kernel_rfl) (zkg (T:=107) 1 x)
def zc3:Ct TS:=⟨[.d (.l (.st 13)) 0],h2,[.l (.st 13)],.tup [.d .s 1,.d (.i .i64) 2],h2,[.s,.i .i64],false,fun x=>zcg x⟩
theorem zky:za Tryz.prog 17∧zc3.OK Tryz.prog 17:=ctk (T:=[(60,vI),(22,kv),(62,Vs),(64,zim),(65,zpn),(66,zpo),(67,Yx)]) (h:=.s .n (.s (.s (.j ⟨[(0,.d (.l (.st 13)) 0),(19,.d .b 1)],h2,[.l (.st 13)],[.b]⟩ false .n) .n) (.s .n (.s .n (.s (.s .n (.s (.lr ⟨[(4,.ptr 1000004 0),(5,.d (.i .i64) 0),(20,.d (.l (.st 13)) 1),(21,.d (.i .i64) 2),(22,.d (.i .i64) 3)],(h28 4),[.i .i64,.l (.st 13),.i .i64],[.i .i64,.s]⟩ [(4,.ptr 1000004 0),(5,.d (.i .i64) 0)] (h28 3) [.s] 0 (fun x K v=>ou x.1 x.2.1 x.2.2 K v) .n) .n)) (.s (.s (.j ⟨[(4,.ptr 1000004 0),(52,.d .b 1)],(h28 0),[.s],[.b]⟩ false .n) .n) .n)))))) Tryz.func17 rfl hbv17 ⟨uL,j5,Yo,zpm,⟨hbv65,zs7⟩,⟨hbv66,zs8⟩,⟨hbv67,zf4⟩,trivial⟩ fun x=>by kernel_rfl
def VC:Ct TS:=⟨[.d .s 0],[],[.s],.fn 103 [] [.ptr 7000001 0],[(7000001,.box 9 [.d .s 1])],[.s],false,fun x=>vh x⟩
theorem zc4:za Tryz.prog 102∧VC.OK Tryz.prog 102:=ctk (T:=[]) (h:=.n) Tryz.func102 rfl zB3 trivial fun x=>by kernel_rfl
def uq:Ct TS:=⟨[.d (.st 7) 0,.ptr 1 0],[(1,.box 9 [.d .s 1])],[.st 7,.s],.d .b 2,[(1,.box 9 [.d .s 1])],[.b],false,fun x=>ui x.1 x.2⟩
theorem AF:za Tryz.prog 103∧uq.OK Tryz.prog 103:=ctk (T:=[]) (h:=.n) Tryz.func103 rfl zB4 trivial fun x=>by kernel_rfl
def xR:Ct TS:=⟨[.d (.l (.st 7)) 0,.fn 103 [] [.ptr 1 0]],[(1,.box 9 [.d .s 1])],[.l (.st 7),.s],.d (.i .i64) 2,[(1,.box 9 [.d .s 1])],[.i .i64],false,fun x=>yn x.1 x.2⟩
theorem vJ:za Tryz.prog 108∧xR.OK Tryz.prog 108:=ctk (T:=[(103,uq)]) (h:=.s .n (.s (.s .n (.s (.lr ⟨[(0,.d (.l (.st 7)) 1),(1,.fn 103 [] [.ptr 1 0]),(7,.d (.i .i64) 2),(8,.d (.i .i64) 3)],[(1,.box 9 [.d .s 0])],[.s,.l (.st 7),.i .i64],[.i .i64]⟩ [] [(1,.box 9 [.d .s 0])] [] 0 (fun x K v=>zC x.1 x.2.1 x.2.2 K v) .n) .n)) .n)) Tryz.func108 rfl zh9 ⟨AF,trivial⟩ fun x=>by kernel_rfl
def yX:Ct TS:=⟨[.d (.l (.st 7)) 0,.fn 103 [] [.ptr 1 0]],[(1,.box 9 [.d .s 1])],[.l (.st 7),.s],.d .b 2,[(1,.box 9 [.d .s 1])],[.b],false,fun x=>zO x.1 x.2⟩
theorem wA:za Tryz.prog 104∧yX.OK Tryz.prog 104:=ctk (T:=[(108,xR)]) (h:=.n) Tryz.func104 rfl zB5 ⟨vJ,trivial⟩ fun x=>by kernel_rfl
def wa:Ct TS:=⟨[.d (.l (.st 7)) 0],[],[.l (.st 7)],.row 20 7000001,(h4 7000001 39 7 1),[.l (.st 7)],false,fun x=>ye x⟩
theorem vl:za Tryz.prog 131∧wa.OK Tryz.prog 131:=ctk (T:=[]) (h:=.n) Tryz.func131 rfl zB6 trivial (fun x=>match x with|[]=>by kernel_rfl|_::_=>by kernel_rfl)
def VD:Ct TS:=⟨[.d (.st 7) 0],[],[.st 7],.d .b 1,[],[.b],false,fun x=>Vh x⟩
theorem zc5:za Tryz.prog 106∧VD.OK Tryz.prog 106:=ctk (T:=[]) (h:=.n) Tryz.func106 rfl zB7 trivial fun x=>by kernel_rfl
def jo:Ct TS:=⟨[.row 20 1,.fn 106 [] []],(h4 1 39 7 0),[.l (.st 7)],.d (.i .i64) 1,(h4 1 39 7 0),[.i .i64],false,fun x=>xJ x⟩
theorem oH:za Tryz.prog 108∧jo.OK Tryz.prog 108:=ctk (T:=[(106,VD)]) (h:=.s .n (.s (.s .n (.s (.lr ⟨[(0,.row 20 1),(1,.fn 106 [] []),(7,.d (.i .i64) 1),(8,.d (.i .i64) 2)],(h4 1 39 7 0),[.l (.st 7),.i .i64],[.i .i64]⟩ [] (h4 1 39 7 0) [] 0 (fun x K v=>zD x.1 x.2 K v) .n) .n)) .n)) Tryz.func108 rfl zh9 ⟨zc5,trivial⟩ fun x=>by kernel_rfl
def VE:Ct TS:=⟨[.rp 20 1 1 0,.ptr 2 0],(h29 39 7 0 2 3 4 5 6 7 8 9 10 11 12 13 14 15 16 17 18 19 20 21 22 23 24 25 26 27 28 29 30 31),k30,.tup [],(h29 39 7 32 2 3 4 5 6 7 8 9 10 11 12 13 14 15 16 17 18 19 20 21 22 23 24 25 26 27 28 29 30 31),[.l (.st 7)],false,fun x=>ko x.1 x.2.1 (kE x.2.2)⟩
theorem zc6:za Tryz.prog 107∧VE.OK Tryz.prog 107:=ctk (T:=[]) (h:=.n) Tryz.func107 rfl zB8 trivial fun x=>by kernel_rfl
def zpp:Ct TS:=⟨[.d (.l (.st 7)) 0,.fn 106 [] [],.fn 107 [] [.ptr 1 0],.d (.i .i64) 31],(h22 1 1 2 3 4 5 6 7 8 9 10 11 12 13 14 15 16 17 18 19 20 21 22 23 24 25 26 27 28 29 30),k31,.tup [.d (.l (.st 7)) 32,.d (.i .i64) 33],(h22 1 1 2 3 4 5 6 7 8 9 10 11 12 13 14 15 16 17 18 19 20 21 22 23 24 25 26 27 28 29 30),[.l (.st 7),.i .i64],false,fun x=>ZH x.1 (zul x.2) (rEB x.2)⟩
theorem zs9:za Tryz.prog 105∧zpp.OK Tryz.prog 105:=ctg (cd:=cdR) (nb:=nbT) (rc:=[]) (T:=[(131,wa),(108,jo),(107,VE)]) (h:=.s .n (.s .n (.s .n (.s (.j ⟨[(0,.row 20 103001300),(2,.fn 107 [] [.ptr 1 0]),(10,.d (.i .i64) 30)],(h32 39 7),k23,[.i .i64,.l (.st 7)]⟩ true .n) .n)))) Tryz.func105 rfl zur ⟨vl,oH,zc6,trivial⟩ fun x=>by kernel_rfl
def jq:Ct TS:=⟨[.row 20 1,.fn 103 [] [.ptr 2 0]],h33,[.l (.st 7),.s],.d (.i .i64) 2,h33,[.i .i64],false,fun x=>xK x.1 x.2⟩
theorem oI:za Tryz.prog 108∧jq.OK Tryz.prog 108:=ctk (T:=[(103,uq)]) (h:=.s .n (.s (.s .n (.s (.lr ⟨[(0,.row 20 1),(1,.fn 103 [] [.ptr 2 0]),(7,.d (.i .i64) 2),(8,.d (.i .i64) 3)],h33,[.l (.st 7),.s,.i .i64],[.i .i64]⟩ [] h33 [] 0 (fun x K v=>zE x.1 x.2.1 x.2.2 K v) .n) .n)) .n)) Tryz.func108 rfl zh9 ⟨AF,trivial⟩ fun x=>by kernel_rfl
def VF:Ct TS:=⟨[.rp 20 1 1 0,.ptr 2 0],(h29 39 7 0 2 3 4 5 6 7 8 9 10 11 12 13 14 15 16 17 18 19 20 21 22 23 24 25 26 27 28 29 30 31),k30,.tup [],(h29 39 7 32 2 3 4 5 6 7 8 9 10 11 12 13 14 15 16 17 18 19 20 21 22 23 24 25 26 27 28 29 30 31),[.l (.st 7)],false,fun x=>kp x.1 x.2.1 (kE x.2.2)⟩
theorem zc7:za Tryz.prog 110∧VF.OK Tryz.prog 110:=ctk (T:=[]) (h:=.n) Tryz.func110 rfl zB9 trivial fun x=>by kernel_rfl
def zc8:Ct TS:=⟨[.d (.l (.st 7)) 0,.fn 103 [] [.ptr 1 0],.fn 110 [] [.ptr 2 0],.d (.i .i64) 32],h34,k35,.tup [.d (.l (.st 7)) 33,.d (.i .i64) 34],h34,[.l (.st 7),.i .i64],false,fun x=>Jl x.1 x.2.1 (zul x.2.2) (rEB x.2.2)⟩
theorem zkz:za Tryz.prog 105∧zc8.OK Tryz.prog 105:=ctg (cd:=cdR) (nb:=nbT) (rc:=[]) (T:=[(131,wa),(108,jq),(110,VF)]) (h:=.s .n (.s .n (.s .n (.s (.j ⟨[(0,.row 20 103001300),(2,.fn 110 [] [.ptr 2 0]),(10,.d (.i .i64) 31)],[(1,.box 9 [.d .s 0]),(2,.box 42 [.d (.i .i64) 1,.d .s 2,.d .s 3,.d (.i .i64) 4,.d .s 5,.d (.l (.s)) 6,.d (.l (.s)) 7,.d (.i .i64) 8,.d (.i .i64) 9,.d (.i .i64) 10,.d .b 11,.d (.i .i64) 12,.d (.i .i64) 13,.d (.i .i64) 14,.d .s 15,.d .s 16,.d (.l (.st 0)) 17,.d (.i .i64) 18,.d (.i .i64) 19,.d (.i .i64) 20,.d (.i .i64) 21,.d (.i .i64) 22,.d (.i .i64) 23,.d (.i .i64) 24,.d (.i .i64) 25,.d (.i .i64) 26,.d .s 27,.d .s 28,.d (.l (.st 0)) 29,.d (.l (.st 4)) 30]),(103001300,.row 39 (.st 7) 32 false)],k36,[.i .i64,.l (.st 7)]⟩ true .n) .n)))) Tryz.func105 rfl zur ⟨vl,oI,zc7,trivial⟩ fun x=>by kernel_rfl
def KP:Ct TS:=⟨[.d (.l (.st 7)) 0,.fn 103 [] [.ptr 1 0],.fn 110 [] [.ptr 2 0]],h34,k37,.tup [.d (.l (.st 7)) 32,.d (.i .i64) 33],h34,[.l (.st 7),.i .i64],false,fun x=>kP x.1 x.2.1 (kE x.2.2)⟩
theorem ZN:za Tryz.prog 109∧KP.OK Tryz.prog 109:=ctk (T:=[(104,yX),(105,zc8)]) (h:=.n) Tryz.func109 rfl zCa ⟨wA,zkz,trivial⟩ fun x=>by kernel_rfl
def vY:Ct TS:=⟨[.d (.l (.st 1)) 0],[],[.l (.st 1)],.row 6 7000001,(h4 7000001 67 1 1),[.l (.st 1)],false,fun x=>y3 x⟩
theorem qD:za Tryz.prog 128∧vY.OK Tryz.prog 128:=ctk (T:=[]) (h:=.n) Tryz.func128 rfl zCb trivial (fun x=>match x with|[]=>by kernel_rfl|_::_=>by kernel_rfl)
def VG:Ct TS:=⟨[.d (.st 1) 0,.ptr 1 0],(h22 1 1 2 3 4 5 6 7 8 9 10 11 12 13 14 15 16 17 18 19 20 21 22 23 24 25 26 27 28 29 30),k38,.d .b 31,(h22 1 1 2 3 4 5 6 7 8 9 10 11 12 13 14 15 16 17 18 19 20 21 22 23 24 25 26 27 28 29 30),[.b],false,fun x=>Vi x.1 (kE x.2)⟩
theorem zc9:za Tryz.prog 112∧VG.OK Tryz.prog 112:=ctk (T:=[]) (h:=.n) Tryz.func112 rfl zCc trivial fun x=>by kernel_rfl
def js:Ct TS:=⟨[.row 6 1,.fn 112 [] [.ptr 2 0]],(h29 67 1 0 1 2 3 4 5 6 7 8 9 10 11 12 13 14 15 16 17 18 19 20 21 22 23 24 25 26 27 28 29 30),k39,.d (.i .i64) 31,(h29 67 1 0 1 2 3 4 5 6 7 8 9 10 11 12 13 14 15 16 17 18 19 20 21 22 23 24 25 26 27 28 29 30),[.i .i64],false,fun x=>xL x.1 (kE x.2)⟩
theorem oJ:za Tryz.prog 203∧js.OK Tryz.prog 203:=ctk (T:=[(112,VG)]) (h:=.s .n (.s (.s .n (.s (.lr ⟨[(0,.row 6 1),(1,.fn 112 [] [.ptr 2 0]),(7,.d (.i .i64) 31),(8,.d (.i .i64) 32)],(h29 67 1 0 1 2 3 4 5 6 7 8 9 10 11 12 13 14 15 16 17 18 19 20 21 22 23 24 25 26 27 28 29 30),k40,[.i .i64]⟩ [] (h29 67 1 0 1 2 3 4 5 6 7 8 9 10 11 12 13 14 15 16 17 18 19 20 21 22 23 24 25 26 27 28 29 30) [] 0 (fun x K v=>zF (EB.mk x.2.1 x.2.2.1 x.2.2.2.1 x.2.2.2.2.1 x.2.2.2.2.2.1 x.2.2.2.2.2.2.1 x.2.2.2.2.2.2.2.1 x.2.2.2.2.2.2.2.2.1 x.2.2.2.2.2.2.2.2.2.1 x.2.2.2.2.2.2.2.2.2.2.1 x.2.2.2.2.2.2.2.2.2.2.2.1 x.2.2.2.2.2.2.2.2.2.2.2.2.1 x.2.2.2.2.2.2.2.2.2.2.2.2.2.1 x.2.2.2.2.2.2.2.2.2.2.2.2.2.2.1 x.2.2.2.2.2.2.2.2.2.2.2.2.2.2.2.1 x.2.2.2.2.2.2.2.2.2.2.2.2.2.2.2.2.1 x.2.2.2.2.2.2.2.2.2.2.2.2.2.2.2.2.2.1 x.2.2.2.2.2.2.2.2.2.2.2.2.2.2.2.2.2.2.1 x.2.2.2.2.2.2.2.2.2.2.2.2.2.2.2.2.2.2.2.1 x.2.2.2.2.2.2.2.2.2.2.2.2.2.2.2.2.2.2.2.2.1 x.2.2.2.2.2.2.2.2.2.2.2.2.2.2.2.2.2.2.2.2.2.1 x.2.2.2.2.2.2.2.2.2.2.2.2.2.2.2.2.2.2.2.2.2.2.1 x.2.2.2.2.2.2.2.2.2.2.2.2.2.2.2.2.2.2.2.2.2.2.2.1 x.2.2.2.2.2.2.2.2.2.2.2.2.2.2.2.2.2.2.2.2.2.2.2.2.1 x.2.2.2.2.2.2.2.2.2.2.2.2.2.2.2.2.2.2.2.2.2.2.2.2.2.1 x.2.2.2.2.2.2.2.2.2.2.2.2.2.2.2.2.2.2.2.2.2.2.2.2.2.2.1 x.2.2.2.2.2.2.2.2.2.2.2.2.2.2.2.2.2.2.2.2.2.2.2.2.2.2.2.1 x.2.2.2.2.2.2.2.2.2.2.2.2.2.2.2.2.2.2.2.2.2.2.2.2.2.2.2.2.1 x.2.2.2.2.2.2.2.2.2.2.2.2.2.2.2.2.2.2.2.2.2.2.2.2.2.2.2.2.2.1 x.2.2.2.2.2.2.2.2.2.2.2.2.2.2.2.2.2.2.2.2.2.2.2.2.2.2.2.2.2.2.1) x.1 x.2.2.2.2.2.2.2.2.2.2.2.2.2.2.2.2.2.2.2.2.2.2.2.2.2.2.2.2.2.2.2 K v) .n) .n)) .n)) Tryz.func203 rfl zus ⟨zc9,trivial⟩ fun x=>by kernel_rfl
def VH:Ct TS:=⟨[.rp 6 1 1 0,.ptr 2 0],(h29 67 1 0 2 3 4 5 6 7 8 9 10 11 12 13 14 15 16 17 18 19 20 21 22 23 24 25 26 27 28 29 30 31),k41,.tup [],(h29 67 1 32 2 3 4 5 6 7 8 9 10 11 12 13 14 15 16 17 18 19 20 21 22 23 24 25 26 27 28 29 30 31),[.l (.st 1)],false,fun x=>kq x.1 x.2.1 (kE x.2.2)⟩
theorem zda:za Tryz.prog 113∧VH.OK Tryz.prog 113:=ctk (T:=[]) (h:=.n) Tryz.func113 rfl zCd trivial fun x=>by kernel_rfl
def zdb:Ct TS:=⟨[.d (.l (.st 1)) 0,.fn 112 [] [.ptr 1 0],.fn 113 [] [.ptr 1 0],.d (.i .i64) 31],(h22 1 1 2 3 4 5 6 7 8 9 10 11 12 13 14 15 16 17 18 19 20 21 22 23 24 25 26 27 28 29 30),k40,.tup [.d (.l (.st 1)) 32,.d (.i .i64) 33],(h22 1 1 2 3 4 5 6 7 8 9 10 11 12 13 14 15 16 17 18 19 20 21 22 23 24 25 26 27 28 29 30),[.l (.st 1),.i .i64],false,fun x=>Jm x.1 (zul x.2) (rEB x.2)⟩
theorem zk0:za Tryz.prog 111∧zdb.OK Tryz.prog 111:=ctg (cd:=cdR) (nb:=nbT) (rc:=[]) (T:=[(128,vY),(203,js),(113,VH)]) (h:=.s .n (.s .n (.s .n (.s (.j ⟨[(0,.row 6 103001300),(2,.fn 113 [] [.ptr 1 0]),(10,.d (.i .i64) 30)],(h32 67 1),k23,[.i .i64,.l (.st 1)]⟩ true .n) .n)))) Tryz.func111 rfl zCe ⟨qD,oJ,zda,trivial⟩ fun x=>by kernel_rfl
def vZ:Ct TS:=⟨[.d (.l (.st 3)) 0],[],[.l (.st 3)],.row 3 7000001,(h4 7000001 70 3 1),[.l (.st 3)],false,fun x=>y4 x⟩
theorem qE:za Tryz.prog 129∧vZ.OK Tryz.prog 129:=ctk (T:=[]) (h:=.n) Tryz.func129 rfl zCf trivial (fun x=>match x with|[]=>by kernel_rfl|_::_=>by kernel_rfl)
def VI:Ct TS:=⟨[.d (.st 3) 0,.ptr 1 0],(h22 1 1 2 3 4 5 6 7 8 9 10 11 12 13 14 15 16 17 18 19 20 21 22 23 24 25 26 27 28 29 30),k42,.d .b 31,(h22 1 1 2 3 4 5 6 7 8 9 10 11 12 13 14 15 16 17 18 19 20 21 22 23 24 25 26 27 28 29 30),[.b],false,fun x=>Vj x.1 (kE x.2)⟩
theorem zdc:za Tryz.prog 115∧VI.OK Tryz.prog 115:=ctk (T:=[]) (h:=.n) Tryz.func115 rfl zCg trivial fun x=>by kernel_rfl
def jt:Ct TS:=⟨[.row 3 1,.fn 115 [] [.ptr 2 0]],(h29 70 3 0 1 2 3 4 5 6 7 8 9 10 11 12 13 14 15 16 17 18 19 20 21 22 23 24 25 26 27 28 29 30),k43,.d (.i .i64) 31,(h29 70 3 0 1 2 3 4 5 6 7 8 9 10 11 12 13 14 15 16 17 18 19 20 21 22 23 24 25 26 27 28 29 30),[.i .i64],false,fun x=>xM x.1 (kE x.2)⟩
theorem oK:za Tryz.prog 204∧jt.OK Tryz.prog 204:=ctk (T:=[(115,VI)]) (h:=.s .n (.s (.s .n (.s (.lr ⟨[(0,.row 3 1),(1,.fn 115 [] [.ptr 2 0]),(7,.d (.i .i64) 31),(8,.d (.i .i64) 32)],(h29 70 3 0 1 2 3 4 5 6 7 8 9 10 11 12 13 14 15 16 17 18 19 20 21 22 23 24 25 26 27 28 29 30),k44,[.i .i64]⟩ [] (h29 70 3 0 1 2 3 4 5 6 7 8 9 10 11 12 13 14 15 16 17 18 19 20 21 22 23 24 25 26 27 28 29 30) [] 0 (fun x K v=>zG (EB.mk x.2.1 x.2.2.1 x.2.2.2.1 x.2.2.2.2.1 x.2.2.2.2.2.1 x.2.2.2.2.2.2.1 x.2.2.2.2.2.2.2.1 x.2.2.2.2.2.2.2.2.1 x.2.2.2.2.2.2.2.2.2.1 x.2.2.2.2.2.2.2.2.2.2.1 x.2.2.2.2.2.2.2.2.2.2.2.1 x.2.2.2.2.2.2.2.2.2.2.2.2.1 x.2.2.2.2.2.2.2.2.2.2.2.2.2.1 x.2.2.2.2.2.2.2.2.2.2.2.2.2.2.1 x.2.2.2.2.2.2.2.2.2.2.2.2.2.2.2.1 x.2.2.2.2.2.2.2.2.2.2.2.2.2.2.2.2.1 x.2.2.2.2.2.2.2.2.2.2.2.2.2.2.2.2.2.1 x.2.2.2.2.2.2.2.2.2.2.2.2.2.2.2.2.2.2.1 x.2.2.2.2.2.2.2.2.2.2.2.2.2.2.2.2.2.2.2.1 x.2.2.2.2.2.2.2.2.2.2.2.2.2.2.2.2.2.2.2.2.1 x.2.2.2.2.2.2.2.2.2.2.2.2.2.2.2.2.2.2.2.2.2.1 x.2.2.2.2.2.2.2.2.2.2.2.2.2.2.2.2.2.2.2.2.2.2.1 x.2.2.2.2.2.2.2.2.2.2.2.2.2.2.2.2.2.2.2.2.2.2.2.1 x.2.2.2.2.2.2.2.2.2.2.2.2.2.2.2.2.2.2.2.2.2.2.2.2.1 x.2.2.2.2.2.2.2.2.2.2.2.2.2.2.2.2.2.2.2.2.2.2.2.2.2.1 x.2.2.2.2.2.2.2.2.2.2.2.2.2.2.2.2.2.2.2.2.2.2.2.2.2.2.1 x.2.2.2.2.2.2.2.2.2.2.2.2.2.2.2.2.2.2.2.2.2.2.2.2.2.2.2.1 x.2.2.2.2.2.2.2.2.2.2.2.2.2.2.2.2.2.2.2.2.2.2.2.2.2.2.2.2.1 x.2.2.2.2.2.2.2.2.2.2.2.2.2.2.2.2.2.2.2.2.2.2.2.2.2.2.2.2.2.1 x.2.2.2.2.2.2.2.2.2.2.2.2.2.2.2.2.2.2.2.2.2.2.2.2.2.2.2.2.2.2.1) x.1 x.2.2.2.2.2.2.2.2.2.2.2.2.2.2.2.2.2.2.2.2.2.2.2.2.2.2.2.2.2.2.2 K v) .n) .n)) .n)) Tryz.func204 rfl zut ⟨zdc,trivial⟩ fun x=>by kernel_rfl
def uG:Ct TS:=⟨[.d (.l (.st 2)) 0],[],[.l (.st 2)],.row 2 7000001,(h4 7000001 86 2 1),[.l (.st 2)],false,fun x=>xY x⟩
theorem Ko:za Tryz.prog 136∧uG.OK Tryz.prog 136:=ctk (T:=[]) (h:=.n) Tryz.func136 rfl zuu trivial (fun x=>match x with|[]=>by kernel_rfl|_::_=>by kernel_rfl)
def JB:Ct TS:=⟨[.d (.st 2) 0,.ptr 1 0],(h22 1 1 2 3 4 5 6 7 8 9 10 11 12 13 14 15 16 17 18 19 20 21 22 23 24 25 26 27 28 29 30),k45,.d .b 31,(h22 1 1 2 3 4 5 6 7 8 9 10 11 12 13 14 15 16 17 18 19 20 21 22 23 24 25 26 27 28 29 30),[.b],false,fun x=>Jn x.1 (kE x.2)⟩
theorem Wr:za Tryz.prog 118∧JB.OK Tryz.prog 118:=ctk (T:=[]) (h:=.n) Tryz.func118 rfl zCh trivial fun x=>by kernel_rfl
def ju:Ct TS:=⟨[.row 2 1,.fn 118 [] [.ptr 2 0]],(h29 86 2 0 1 2 3 4 5 6 7 8 9 10 11 12 13 14 15 16 17 18 19 20 21 22 23 24 25 26 27 28 29 30),k46,.d (.i .i64) 31,(h29 86 2 0 1 2 3 4 5 6 7 8 9 10 11 12 13 14 15 16 17 18 19 20 21 22 23 24 25 26 27 28 29 30),[.i .i64],false,fun x=>xN x.1 (kE x.2)⟩
theorem oL:za Tryz.prog 205∧ju.OK Tryz.prog 205:=ctk (T:=[(118,JB)]) (h:=.s .n (.s (.s .n (.s (.lr ⟨[(0,.row 2 1),(1,.fn 118 [] [.ptr 2 0]),(7,.d (.i .i64) 31),(8,.d (.i .i64) 32)],(h29 86 2 0 1 2 3 4 5 6 7 8 9 10 11 12 13 14 15 16 17 18 19 20 21 22 23 24 25 26 27 28 29 30),k47,[.i .i64]⟩ [] (h29 86 2 0 1 2 3 4 5 6 7 8 9 10 11 12 13 14 15 16 17 18 19 20 21 22 23 24 25 26 27 28 29 30) [] 0 (fun x K v=>zH (EB.mk x.2.1 x.2.2.1 x.2.2.2.1 x.2.2.2.2.1 x.2.2.2.2.2.1 x.2.2.2.2.2.2.1 x.2.2.2.2.2.2.2.1 x.2.2.2.2.2.2.2.2.1 x.2.2.2.2.2.2.2.2.2.1 x.2.2.2.2.2.2.2.2.2.2.1 x.2.2.2.2.2.2.2.2.2.2.2.1 x.2.2.2.2.2.2.2.2.2.2.2.2.1 x.2.2.2.2.2.2.2.2.2.2.2.2.2.1 x.2.2.2.2.2.2.2.2.2.2.2.2.2.2.1 x.2.2.2.2.2.2.2.2.2.2.2.2.2.2.2.1 x.2.2.2.2.2.2.2.2.2.2.2.2.2.2.2.2.1 x.2.2.2.2.2.2.2.2.2.2.2.2.2.2.2.2.2.1 x.2.2.2.2.2.2.2.2.2.2.2.2.2.2.2.2.2.2.1 x.2.2.2.2.2.2.2.2.2.2.2.2.2.2.2.2.2.2.2.1 x.2.2.2.2.2.2.2.2.2.2.2.2.2.2.2.2.2.2.2.2.1 x.2.2.2.2.2.2.2.2.2.2.2.2.2.2.2.2.2.2.2.2.2.1 x.2.2.2.2.2.2.2.2.2.2.2.2.2.2.2.2.2.2.2.2.2.2.1 x.2.2.2.2.2.2.2.2.2.2.2.2.2.2.2.2.2.2.2.2.2.2.2.1 x.2.2.2.2.2.2.2.2.2.2.2.2.2.2.2.2.2.2.2.2.2.2.2.2.1 x.2.2.2.2.2.2.2.2.2.2.2.2.2.2.2.2.2.2.2.2.2.2.2.2.2.1 x.2.2.2.2.2.2.2.2.2.2.2.2.2.2.2.2.2.2.2.2.2.2.2.2.2.2.1 x.2.2.2.2.2.2.2.2.2.2.2.2.2.2.2.2.2.2.2.2.2.2.2.2.2.2.2.1 x.2.2.2.2.2.2.2.2.2.2.2.2.2.2.2.2.2.2.2.2.2.2.2.2.2.2.2.2.1 x.2.2.2.2.2.2.2.2.2.2.2.2.2.2.2.2.2.2.2.2.2.2.2.2.2.2.2.2.2.1 x.2.2.2.2.2.2.2.2.2.2.2.2.2.2.2.2.2.2.2.2.2.2.2.2.2.2.2.2.2.2.1) x.1 x.2.2.2.2.2.2.2.2.2.2.2.2.2.2.2.2.2.2.2.2.2.2.2.2.2.2.2.2.2.2.2 K v) .n) .n)) .n)) Tryz.func205 rfl zuv ⟨Wr,trivial⟩ fun x=>by kernel_rfl
def JC:Ct TS:=⟨[.rp 2 1 1 0,.ptr 2 0],(h29 86 2 0 2 3 4 5 6 7 8 9 10 11 12 13 14 15 16 17 18 19 20 21 22 23 24 25 26 27 28 29 30 31),k48,.tup [],(h29 86 2 32 2 3 4 5 6 7 8 9 10 11 12 13 14 15 16 17 18 19 20 21 22 23 24 25 26 27 28 29 30 31),[.l (.st 2)],false,fun x=>wK x.1 x.2.1 (kE x.2.2)⟩
theorem Ws:za Tryz.prog 119∧JC.OK Tryz.prog 119:=ctk (T:=[]) (h:=.n) Tryz.func119 rfl zCi trivial fun x=>by kernel_rfl
def zdd:Ct TS:=⟨[.d (.l (.st 2)) 0,.fn 118 [] [.ptr 1 0],.fn 119 [] [.ptr 1 0],.d (.i .i64) 31],(h22 1 1 2 3 4 5 6 7 8 9 10 11 12 13 14 15 16 17 18 19 20 21 22 23 24 25 26 27 28 29 30),k47,.tup [.d (.l (.st 2)) 32,.d (.i .i64) 33],(h22 1 1 2 3 4 5 6 7 8 9 10 11 12 13 14 15 16 17 18 19 20 21 22 23 24 25 26 27 28 29 30),[.l (.st 2),.i .i64],false,fun x=>ow x.1 (zul x.2) (rEB x.2)⟩
theorem zk1:za Tryz.prog 117∧zdd.OK Tryz.prog 117:=ctg (cd:=cdR) (nb:=nbT) (rc:=[]) (T:=[(136,uG),(205,ju),(119,JC)]) (h:=.s .n (.s .n (.s .n (.s (.j ⟨[(0,.row 2 103001300),(2,.fn 119 [] [.ptr 1 0]),(10,.d (.i .i64) 30)],(h32 86 2),k23,[.i .i64,.l (.st 2)]⟩ true .n) .n)))) Tryz.func117 rfl zCj ⟨Ko,oL,Ws,trivial⟩ fun x=>by kernel_rfl
def VJ:Ct TS:=⟨[.rp 3 1 1 0,.ptr 2 0,.ptr 3 0],(h49 0 32),k50,.tup [],(h49 33 34),[.l (.st 3),.i .i64],false,fun x=>kr x.1 x.2.1 (zul x.2.2) (rEB x.2.2)⟩
theorem zde:za Tryz.prog 116∧VJ.OK Tryz.prog 116:=ctk (T:=[(117,zdd)]) (h:=.n) Tryz.func116 rfl zCk ⟨zk1,trivial⟩ fun x=>by kernel_rfl
def zdf:Ct TS:=⟨[.d (.l (.st 3)) 0,.fn 115 [] [.ptr 1 0],.fn 116 [] [.ptr 1 0,.ptr 2 0],.d (.i .i64) 32],(h51 31),k52,.tup [.d (.l (.st 3)) 33,.d (.i .i64) 34],(h51 35),[.l (.st 3),.i .i64,.i .i64],false,fun x=>Jo x.1 (zul x.2) (rEB x.2).1 (rEB x.2).2⟩
theorem zk2:za Tryz.prog 114∧zdf.OK Tryz.prog 114:=ctg (cd:=cdR) (nb:=nbT) (rc:=[]) (T:=[(129,vZ),(204,jt),(116,VJ)]) (h:=.s .n (.s .n (.s .n (.s (.j ⟨[(0,.row 3 103001300),(2,.fn 116 [] [.ptr 1 0,.ptr 2 0]),(10,.d (.i .i64) 31)],[(1,.box 42 [.d (.i .i64) 0,.d .s 1,.d .s 2,.d (.i .i64) 3,.d .s 4,.d (.l (.s)) 5,.d (.l (.s)) 6,.d (.i .i64) 7,.d (.i .i64) 8,.d (.i .i64) 9,.d .b 10,.d (.i .i64) 11,.d (.i .i64) 12,.d (.i .i64) 13,.d .s 14,.d .s 15,.d (.l (.st 0)) 16,.d (.i .i64) 17,.d (.i .i64) 18,.d (.i .i64) 19,.d (.i .i64) 20,.d (.i .i64) 21,.d (.i .i64) 22,.d (.i .i64) 23,.d (.i .i64) 24,.d (.i .i64) 25,.d .s 26,.d .s 27,.d (.l (.st 0)) 28,.d (.l (.st 4)) 29]),(2,.box 46 [.d (.i .i64) 30]),(103001300,.row 70 (.st 3) 32 false)],k53,[.i .i64,.l (.st 3)]⟩ true .n) .n)))) Tryz.func114 rfl zCl ⟨qE,oK,zde,trivial⟩ fun x=>by kernel_rfl
def VK:Ct TS:=⟨[.d (.st 5) 0,.ptr 1 0],(h22 1 1 2 3 4 5 6 7 8 9 10 11 12 13 14 15 16 17 18 19 20 21 22 23 24 25 26 27 28 29 30),k54,.d .b 31,(h22 1 1 2 3 4 5 6 7 8 9 10 11 12 13 14 15 16 17 18 19 20 21 22 23 24 25 26 27 28 29 30),[.b],false,fun x=>Vk x.1 (kE x.2)⟩
theorem zdg:za Tryz.prog 121∧VK.OK Tryz.prog 121:=ctk (T:=[]) (h:=.n) Tryz.func121 rfl zCm trivial fun x=>by kernel_rfl
def jv:Ct TS:=⟨[.d (.l (.st 5)) 0,.fn 121 [] [.ptr 1 0]],(h22 1 1 2 3 4 5 6 7 8 9 10 11 12 13 14 15 16 17 18 19 20 21 22 23 24 25 26 27 28 29 30),k55,.d (.i .i64) 31,(h22 1 1 2 3 4 5 6 7 8 9 10 11 12 13 14 15 16 17 18 19 20 21 22 23 24 25 26 27 28 29 30),[.i .i64],false,fun x=>xO x.1 (kE x.2)⟩
theorem oM:za Tryz.prog 120∧jv.OK Tryz.prog 120:=ctk (T:=[(121,VK)]) (h:=.s .n (.s (.s .n (.s (.lr ⟨[(0,.d (.l (.st 5)) 30),(1,.fn 121 [] [.ptr 1 0]),(7,.d (.i .i64) 31),(8,.d (.i .i64) 32)],(h22 1 0 1 2 3 4 5 6 7 8 9 10 11 12 13 14 15 16 17 18 19 20 21 22 23 24 25 26 27 28 29),k56,[.i .i64]⟩ [] (h22 1 0 1 2 3 4 5 6 7 8 9 10 11 12 13 14 15 16 17 18 19 20 21 22 23 24 25 26 27 28 29) [] 0 (fun x K v=>zI (EB.mk x.1 x.2.1 x.2.2.1 x.2.2.2.1 x.2.2.2.2.1 x.2.2.2.2.2.1 x.2.2.2.2.2.2.1 x.2.2.2.2.2.2.2.1 x.2.2.2.2.2.2.2.2.1 x.2.2.2.2.2.2.2.2.2.1 x.2.2.2.2.2.2.2.2.2.2.1 x.2.2.2.2.2.2.2.2.2.2.2.1 x.2.2.2.2.2.2.2.2.2.2.2.2.1 x.2.2.2.2.2.2.2.2.2.2.2.2.2.1 x.2.2.2.2.2.2.2.2.2.2.2.2.2.2.1 x.2.2.2.2.2.2.2.2.2.2.2.2.2.2.2.1 x.2.2.2.2.2.2.2.2.2.2.2.2.2.2.2.2.1 x.2.2.2.2.2.2.2.2.2.2.2.2.2.2.2.2.2.1 x.2.2.2.2.2.2.2.2.2.2.2.2.2.2.2.2.2.2.1 x.2.2.2.2.2.2.2.2.2.2.2.2.2.2.2.2.2.2.2.1 x.2.2.2.2.2.2.2.2.2.2.2.2.2.2.2.2.2.2.2.2.1 x.2.2.2.2.2.2.2.2.2.2.2.2.2.2.2.2.2.2.2.2.2.1 x.2.2.2.2.2.2.2.2.2.2.2.2.2.2.2.2.2.2.2.2.2.2.1 x.2.2.2.2.2.2.2.2.2.2.2.2.2.2.2.2.2.2.2.2.2.2.2.1 x.2.2.2.2.2.2.2.2.2.2.2.2.2.2.2.2.2.2.2.2.2.2.2.2.1 x.2.2.2.2.2.2.2.2.2.2.2.2.2.2.2.2.2.2.2.2.2.2.2.2.2.1 x.2.2.2.2.2.2.2.2.2.2.2.2.2.2.2.2.2.2.2.2.2.2.2.2.2.2.1 x.2.2.2.2.2.2.2.2.2.2.2.2.2.2.2.2.2.2.2.2.2.2.2.2.2.2.2.1 x.2.2.2.2.2.2.2.2.2.2.2.2.2.2.2.2.2.2.2.2.2.2.2.2.2.2.2.2.1 x.2.2.2.2.2.2.2.2.2.2.2.2.2.2.2.2.2.2.2.2.2.2.2.2.2.2.2.2.2.1) x.2.2.2.2.2.2.2.2.2.2.2.2.2.2.2.2.2.2.2.2.2.2.2.2.2.2.2.2.2.2.1 x.2.2.2.2.2.2.2.2.2.2.2.2.2.2.2.2.2.2.2.2.2.2.2.2.2.2.2.2.2.2.2 K v) .n) .n)) .n)) Tryz.func120 rfl zo5 ⟨zdg,trivial⟩ fun x=>by kernel_rfl
def ja:Ct TS:=⟨[.d (.l (.st 5)) 0],[],[.l (.st 5)],.row 3 7000001,(h4 7000001 72 5 1),[.l (.st 5)],false,fun x=>y5 x⟩
theorem qF:za Tryz.prog 130∧ja.OK Tryz.prog 130:=ctk (T:=[]) (h:=.n) Tryz.func130 rfl zCn trivial (fun x=>match x with|[]=>by kernel_rfl|_::_=>by kernel_rfl)
def KQ:Ct TS:=⟨[.d (.st 5) 0,.ptr 1 0],(h22 1 1 2 3 4 5 6 7 8 9 10 11 12 13 14 15 16 17 18 19 20 21 22 23 24 25 26 27 28 29 30),k54,.d .b 31,(h22 1 1 2 3 4 5 6 7 8 9 10 11 12 13 14 15 16 17 18 19 20 21 22 23 24 25 26 27 28 29 30),[.b],false,fun x=>KJ x.1 (kE x.2)⟩
theorem ZO:za Tryz.prog 123∧KQ.OK Tryz.prog 123:=ctk (T:=[]) (h:=.n) Tryz.func123 rfl zCo trivial fun x=>by kernel_rfl
def jw:Ct TS:=⟨[.row 3 1,.fn 123 [] [.ptr 2 0]],(h29 72 5 0 1 2 3 4 5 6 7 8 9 10 11 12 13 14 15 16 17 18 19 20 21 22 23 24 25 26 27 28 29 30),k55,.d (.i .i64) 31,(h29 72 5 0 1 2 3 4 5 6 7 8 9 10 11 12 13 14 15 16 17 18 19 20 21 22 23 24 25 26 27 28 29 30),[.i .i64],false,fun x=>xP x.1 (kE x.2)⟩
theorem oN:za Tryz.prog 120∧jw.OK Tryz.prog 120:=ctk (T:=[(123,KQ)]) (h:=.s .n (.s (.s .n (.s (.lr ⟨[(0,.row 3 1),(1,.fn 123 [] [.ptr 2 0]),(7,.d (.i .i64) 31),(8,.d (.i .i64) 32)],(h29 72 5 0 1 2 3 4 5 6 7 8 9 10 11 12 13 14 15 16 17 18 19 20 21 22 23 24 25 26 27 28 29 30),k57,[.i .i64]⟩ [] (h29 72 5 0 1 2 3 4 5 6 7 8 9 10 11 12 13 14 15 16 17 18 19 20 21 22 23 24 25 26 27 28 29 30) [] 0 (fun x K v=>zJ (EB.mk x.2.1 x.2.2.1 x.2.2.2.1 x.2.2.2.2.1 x.2.2.2.2.2.1 x.2.2.2.2.2.2.1 x.2.2.2.2.2.2.2.1 x.2.2.2.2.2.2.2.2.1 x.2.2.2.2.2.2.2.2.2.1 x.2.2.2.2.2.2.2.2.2.2.1 x.2.2.2.2.2.2.2.2.2.2.2.1 x.2.2.2.2.2.2.2.2.2.2.2.2.1 x.2.2.2.2.2.2.2.2.2.2.2.2.2.1 x.2.2.2.2.2.2.2.2.2.2.2.2.2.2.1 x.2.2.2.2.2.2.2.2.2.2.2.2.2.2.2.1 x.2.2.2.2.2.2.2.2.2.2.2.2.2.2.2.2.1 x.2.2.2.2.2.2.2.2.2.2.2.2.2.2.2.2.2.1 x.2.2.2.2.2.2.2.2.2.2.2.2.2.2.2.2.2.2.1 x.2.2.2.2.2.2.2.2.2.2.2.2.2.2.2.2.2.2.2.1 x.2.2.2.2.2.2.2.2.2.2.2.2.2.2.2.2.2.2.2.2.1 x.2.2.2.2.2.2.2.2.2.2.2.2.2.2.2.2.2.2.2.2.2.1 x.2.2.2.2.2.2.2.2.2.2.2.2.2.2.2.2.2.2.2.2.2.2.1 x.2.2.2.2.2.2.2.2.2.2.2.2.2.2.2.2.2.2.2.2.2.2.2.1 x.2.2.2.2.2.2.2.2.2.2.2.2.2.2.2.2.2.2.2.2.2.2.2.2.1 x.2.2.2.2.2.2.2.2.2.2.2.2.2.2.2.2.2.2.2.2.2.2.2.2.2.1 x.2.2.2.2.2.2.2.2.2.2.2.2.2.2.2.2.2.2.2.2.2.2.2.2.2.2.1 x.2.2.2.2.2.2.2.2.2.2.2.2.2.2.2.2.2.2.2.2.2.2.2.2.2.2.2.1 x.2.2.2.2.2.2.2.2.2.2.2.2.2.2.2.2.2.2.2.2.2.2.2.2.2.2.2.2.1 x.2.2.2.2.2.2.2.2.2.2.2.2.2.2.2.2.2.2.2.2.2.2.2.2.2.2.2.2.2.1 x.2.2.2.2.2.2.2.2.2.2.2.2.2.2.2.2.2.2.2.2.2.2.2.2.2.2.2.2.2.2.1) x.1 x.2.2.2.2.2.2.2.2.2.2.2.2.2.2.2.2.2.2.2.2.2.2.2.2.2.2.2.2.2.2.2 K v) .n) .n)) .n)) Tryz.func120 rfl zo5 ⟨ZO,trivial⟩ fun x=>by kernel_rfl
def KR:Ct TS:=⟨[.rp 3 1 1 0,.ptr 2 0],(h29 72 5 0 2 3 4 5 6 7 8 9 10 11 12 13 14 15 16 17 18 19 20 21 22 23 24 25 26 27 28 29 30 31),k58,.tup [],(h29 72 5 32 2 3 4 5 6 7 8 9 10 11 12 13 14 15 16 17 18 19 20 21 22 23 24 25 26 27 28 29 30 31),[.l (.st 5)],false,fun x=>vA x.1 x.2.1 (kE x.2.2)⟩
theorem ZP:za Tryz.prog 124∧KR.OK Tryz.prog 124:=ctk (T:=[]) (h:=.n) Tryz.func124 rfl zCp trivial fun x=>by kernel_rfl
def zdh:Ct TS:=⟨[.d (.l (.st 5)) 0,.fn 123 [] [.ptr 1 0],.fn 124 [] [.ptr 1 0],.d (.i .i64) 31],(h22 1 1 2 3 4 5 6 7 8 9 10 11 12 13 14 15 16 17 18 19 20 21 22 23 24 25 26 27 28 29 30),k57,.tup [.d (.l (.st 5)) 32,.d (.i .i64) 33],(h22 1 1 2 3 4 5 6 7 8 9 10 11 12 13 14 15 16 17 18 19 20 21 22 23 24 25 26 27 28 29 30),[.l (.st 5),.i .i64],false,fun x=>Jp x.1 (zul x.2) (rEB x.2)⟩
theorem zk3:za Tryz.prog 122∧zdh.OK Tryz.prog 122:=ctg (cd:=cdR) (nb:=nbT) (rc:=[]) (T:=[(130,ja),(120,jw),(124,KR)]) (h:=.s .n (.s .n (.s .n (.s (.j ⟨[(0,.row 3 103001300),(2,.fn 124 [] [.ptr 1 0]),(10,.d (.i .i64) 30)],(h32 72 5),k23,[.i .i64,.l (.st 5)]⟩ true .n) .n)))) Tryz.func122 rfl zCq ⟨qF,oN,ZP,trivial⟩ fun x=>by kernel_rfl
def oO:Ct TS:=⟨[.d (.st 8) 0,.ptr 1 0],(h22 1 1 2 3 4 5 6 7 8 9 10 11 12 13 14 15 16 17 18 19 20 21 22 23 24 25 26 27 28 29 30),k59,.d .b 31,(h22 1 1 2 3 4 5 6 7 8 9 10 11 12 13 14 15 16 17 18 19 20 21 22 23 24 25 26 27 28 29 30),[.b],false,fun x=>ox x.1 (kE x.2)⟩
theorem JD:za Tryz.prog 126∧oO.OK Tryz.prog 126:=ctk (T:=[]) (h:=.n) Tryz.func126 rfl zCr trivial fun x=>by kernel_rfl
def vK:Ct TS:=⟨[.d (.l (.st 8)) 0,.fn 126 [] [.ptr 1 0]],(h22 1 1 2 3 4 5 6 7 8 9 10 11 12 13 14 15 16 17 18 19 20 21 22 23 24 25 26 27 28 29 30),k60,.d (.i .i64) 31,(h22 1 1 2 3 4 5 6 7 8 9 10 11 12 13 14 15 16 17 18 19 20 21 22 23 24 25 26 27 28 29 30),[.i .i64],false,fun x=>xq x.1 (kE x.2)⟩
theorem uM:za Tryz.prog 215∧vK.OK Tryz.prog 215:=ctk (T:=[(126,oO)]) (h:=.s .n (.s (.s .n (.s (.lr ⟨[(0,.d (.l (.st 8)) 30),(1,.fn 126 [] [.ptr 1 0]),(7,.d (.i .i64) 31),(8,.d (.i .i64) 32)],(h22 1 0 1 2 3 4 5 6 7 8 9 10 11 12 13 14 15 16 17 18 19 20 21 22 23 24 25 26 27 28 29),k61,[.i .i64]⟩ [] (h22 1 0 1 2 3 4 5 6 7 8 9 10 11 12 13 14 15 16 17 18 19 20 21 22 23 24 25 26 27 28 29) [] 0 (fun x K v=>zy (EB.mk x.1 x.2.1 x.2.2.1 x.2.2.2.1 x.2.2.2.2.1 x.2.2.2.2.2.1 x.2.2.2.2.2.2.1 x.2.2.2.2.2.2.2.1 x.2.2.2.2.2.2.2.2.1 x.2.2.2.2.2.2.2.2.2.1 x.2.2.2.2.2.2.2.2.2.2.1 x.2.2.2.2.2.2.2.2.2.2.2.1 x.2.2.2.2.2.2.2.2.2.2.2.2.1 x.2.2.2.2.2.2.2.2.2.2.2.2.2.1 x.2.2.2.2.2.2.2.2.2.2.2.2.2.2.1 x.2.2.2.2.2.2.2.2.2.2.2.2.2.2.2.1 x.2.2.2.2.2.2.2.2.2.2.2.2.2.2.2.2.1 x.2.2.2.2.2.2.2.2.2.2.2.2.2.2.2.2.2.1 x.2.2.2.2.2.2.2.2.2.2.2.2.2.2.2.2.2.2.1 x.2.2.2.2.2.2.2.2.2.2.2.2.2.2.2.2.2.2.2.1 x.2.2.2.2.2.2.2.2.2.2.2.2.2.2.2.2.2.2.2.2.1 x.2.2.2.2.2.2.2.2.2.2.2.2.2.2.2.2.2.2.2.2.2.1 x.2.2.2.2.2.2.2.2.2.2.2.2.2.2.2.2.2.2.2.2.2.2.1 x.2.2.2.2.2.2.2.2.2.2.2.2.2.2.2.2.2.2.2.2.2.2.2.1 x.2.2.2.2.2.2.2.2.2.2.2.2.2.2.2.2.2.2.2.2.2.2.2.2.1 x.2.2.2.2.2.2.2.2.2.2.2.2.2.2.2.2.2.2.2.2.2.2.2.2.2.1 x.2.2.2.2.2.2.2.2.2.2.2.2.2.2.2.2.2.2.2.2.2.2.2.2.2.2.1 x.2.2.2.2.2.2.2.2.2.2.2.2.2.2.2.2.2.2.2.2.2.2.2.2.2.2.2.1 x.2.2.2.2.2.2.2.2.2.2.2.2.2.2.2.2.2.2.2.2.2.2.2.2.2.2.2.2.1 x.2.2.2.2.2.2.2.2.2.2.2.2.2.2.2.2.2.2.2.2.2.2.2.2.2.2.2.2.2.1) x.2.2.2.2.2.2.2.2.2.2.2.2.2.2.2.2.2.2.2.2.2.2.2.2.2.2.2.2.2.2.1 x.2.2.2.2.2.2.2.2.2.2.2.2.2.2.2.2.2.2.2.2.2.2.2.2.2.2.2.2.2.2.2 K v) .n) .n)) .n)) Tryz.func215 rfl zo6 ⟨JD,trivial⟩ fun x=>by kernel_rfl
def wU:Ct TS:=⟨[.d (.l (.st 8)) 0,.fn 126 [] [.ptr 1 0]],(h22 1 1 2 3 4 5 6 7 8 9 10 11 12 13 14 15 16 17 18 19 20 21 22 23 24 25 26 27 28 29 30),k60,.d .b 31,(h22 1 1 2 3 4 5 6 7 8 9 10 11 12 13 14 15 16 17 18 19 20 21 22 23 24 25 26 27 28 29 30),[.b],false,fun x=>z7 x.1 (kE x.2)⟩
theorem qG:za Tryz.prog 206∧wU.OK Tryz.prog 206:=ctk (T:=[(215,vK)]) (h:=.n) Tryz.func206 rfl zCs ⟨uM,trivial⟩ fun x=>by kernel_rfl
def jb:Ct TS:=⟨[.d (.l (.st 8)) 0],[],[.l (.st 8)],.row 4 7000001,(h4 7000001 75 8 1),[.l (.st 8)],false,fun x=>y6 x⟩
theorem qH:za Tryz.prog 132∧jb.OK Tryz.prog 132:=ctk (T:=[]) (h:=.n) Tryz.func132 rfl zCt trivial (fun x=>match x with|[]=>by kernel_rfl|_::_=>by kernel_rfl)
def vL:Ct TS:=⟨[.row 4 1,.fn 126 [] [.ptr 2 0]],(h29 75 8 0 1 2 3 4 5 6 7 8 9 10 11 12 13 14 15 16 17 18 19 20 21 22 23 24 25 26 27 28 29 30),k60,.d (.i .i64) 31,(h29 75 8 0 1 2 3 4 5 6 7 8 9 10 11 12 13 14 15 16 17 18 19 20 21 22 23 24 25 26 27 28 29 30),[.i .i64],false,fun x=>xr x.1 (kE x.2)⟩
theorem uN:za Tryz.prog 215∧vL.OK Tryz.prog 215:=ctk (T:=[(126,oO)]) (h:=.s .n (.s (.s .n (.s (.lr ⟨[(0,.row 4 1),(1,.fn 126 [] [.ptr 2 0]),(7,.d (.i .i64) 31),(8,.d (.i .i64) 32)],(h29 75 8 0 1 2 3 4 5 6 7 8 9 10 11 12 13 14 15 16 17 18 19 20 21 22 23 24 25 26 27 28 29 30),k62,[.i .i64]⟩ [] (h29 75 8 0 1 2 3 4 5 6 7 8 9 10 11 12 13 14 15 16 17 18 19 20 21 22 23 24 25 26 27 28 29 30) [] 0 (fun x K v=>zA (EB.mk x.2.1 x.2.2.1 x.2.2.2.1 x.2.2.2.2.1 x.2.2.2.2.2.1 x.2.2.2.2.2.2.1 x.2.2.2.2.2.2.2.1 x.2.2.2.2.2.2.2.2.1 x.2.2.2.2.2.2.2.2.2.1 x.2.2.2.2.2.2.2.2.2.2.1 x.2.2.2.2.2.2.2.2.2.2.2.1 x.2.2.2.2.2.2.2.2.2.2.2.2.1 x.2.2.2.2.2.2.2.2.2.2.2.2.2.1 x.2.2.2.2.2.2.2.2.2.2.2.2.2.2.1 x.2.2.2.2.2.2.2.2.2.2.2.2.2.2.2.1 x.2.2.2.2.2.2.2.2.2.2.2.2.2.2.2.2.1 x.2.2.2.2.2.2.2.2.2.2.2.2.2.2.2.2.2.1 x.2.2.2.2.2.2.2.2.2.2.2.2.2.2.2.2.2.2.1 x.2.2.2.2.2.2.2.2.2.2.2.2.2.2.2.2.2.2.2.1 x.2.2.2.2.2.2.2.2.2.2.2.2.2.2.2.2.2.2.2.2.1 x.2.2.2.2.2.2.2.2.2.2.2.2.2.2.2.2.2.2.2.2.2.1 x.2.2.2.2.2.2.2.2.2.2.2.2.2.2.2.2.2.2.2.2.2.2.1 x.2.2.2.2.2.2.2.2.2.2.2.2.2.2.2.2.2.2.2.2.2.2.2.1 x.2.2.2.2.2.2.2.2.2.2.2.2.2.2.2.2.2.2.2.2.2.2.2.2.1 x.2.2.2.2.2.2.2.2.2.2.2.2.2.2.2.2.2.2.2.2.2.2.2.2.2.1 x.2.2.2.2.2.2.2.2.2.2.2.2.2.2.2.2.2.2.2.2.2.2.2.2.2.2.1 x.2.2.2.2.2.2.2.2.2.2.2.2.2.2.2.2.2.2.2.2.2.2.2.2.2.2.2.1 x.2.2.2.2.2.2.2.2.2.2.2.2.2.2.2.2.2.2.2.2.2.2.2.2.2.2.2.2.1 x.2.2.2.2.2.2.2.2.2.2.2.2.2.2.2.2.2.2.2.2.2.2.2.2.2.2.2.2.2.1 x.2.2.2.2.2.2.2.2.2.2.2.2.2.2.2.2.2.2.2.2.2.2.2.2.2.2.2.2.2.2.1) x.1 x.2.2.2.2.2.2.2.2.2.2.2.2.2.2.2.2.2.2.2.2.2.2.2.2.2.2.2.2.2.2.2 K v) .n) .n)) .n)) Tryz.func215 rfl zo6 ⟨JD,trivial⟩ fun x=>by kernel_rfl
def KS:Ct TS:=⟨[.rp 4 1 1 0,.ptr 2 0],(h29 75 8 0 2 3 4 5 6 7 8 9 10 11 12 13 14 15 16 17 18 19 20 21 22 23 24 25 26 27 28 29 30 31),k63,.tup [],(h29 75 8 32 2 3 4 5 6 7 8 9 10 11 12 13 14 15 16 17 18 19 20 21 22 23 24 25 26 27 28 29 30 31),[.l (.st 8)],false,fun x=>vB x.1 x.2.1 (kE x.2.2)⟩
theorem ZQ:za Tryz.prog 127∧KS.OK Tryz.prog 127:=ctk (T:=[]) (h:=.n) Tryz.func127 rfl zCu trivial fun x=>by kernel_rfl
def zdi:Ct TS:=⟨[.d (.l (.st 8)) 0,.fn 126 [] [.ptr 1 0],.fn 127 [] [.ptr 1 0],.d (.i .i64) 31],(h22 1 1 2 3 4 5 6 7 8 9 10 11 12 13 14 15 16 17 18 19 20 21 22 23 24 25 26 27 28 29 30),k62,.tup [.d (.l (.st 8)) 32,.d (.i .i64) 33],(h22 1 1 2 3 4 5 6 7 8 9 10 11 12 13 14 15 16 17 18 19 20 21 22 23 24 25 26 27 28 29 30),[.l (.st 8),.i .i64],false,fun x=>Jq x.1 (zul x.2) (rEB x.2)⟩
theorem zk4:za Tryz.prog 207∧zdi.OK Tryz.prog 207:=ctg (cd:=cdR) (nb:=nbT) (rc:=[]) (T:=[(132,jb),(215,vL),(127,KS)]) (h:=.s .n (.s .n (.s .n (.s (.j ⟨[(0,.row 4 103001300),(2,.fn 127 [] [.ptr 1 0]),(10,.d (.i .i64) 30)],(h32 75 8),k23,[.i .i64,.l (.st 8)]⟩ true .n) .n)))) Tryz.func207 rfl zCv ⟨qH,uN,ZQ,trivial⟩ fun x=>by kernel_rfl
def AG:Ct TS:=⟨[.d (.l (.st 8)) 0,.fn 126 [] [.ptr 1 0],.fn 127 [] [.ptr 1 0]],(h22 1 1 2 3 4 5 6 7 8 9 10 11 12 13 14 15 16 17 18 19 20 21 22 23 24 25 26 27 28 29 30),k60,.tup [.d (.l (.st 8)) 31,.d (.i .i64) 32],(h22 1 1 2 3 4 5 6 7 8 9 10 11 12 13 14 15 16 17 18 19 20 21 22 23 24 25 26 27 28 29 30),[.l (.st 8),.i .i64],false,fun x=>vu x.1 (kE x.2)⟩
theorem VL:za Tryz.prog 125∧AG.OK Tryz.prog 125:=ctk (T:=[(206,wU),(207,zdi)]) (h:=.n) Tryz.func125 rfl zCw ⟨qG,zk4,trivial⟩ fun x=>by kernel_rfl
def zdj:Ct TS:=⟨[.d (.st 12) 0,.d (.st 13) 1],[],[.st 12,.st 13],.tup [.ag [.d (.l (.st 1)) 3,.d (.l (.st 3)) 4,.d (.l (.st 5)) 5,.d (.l (.st 7)) 6,.d (.l (.st 8)) 7,.d (.l (.st 10)) 8,.d (.l (.st 9)) 9,.d (.i .i64) 10],.d (.i .i64) 2],(h12 7000001 3 4 5 6 7 8 9 10),k64,false,fun x=>yd x.1 x.2⟩
theorem zk5:za Tryz.prog 33∧zdj.OK Tryz.prog 33:=ctg (cd:=cdT) (nb:=nbT) (rc:=[(4,7000001,0)]) (T:=[(102,VC),(104,yX),(105,zpp),(108,xR),(109,KP),(111,zdb),(114,zdf),(120,jv),(122,zdh),(125,AG)]) (h:=.s .n (.s .n (.s .n (.s (.j ⟨[(2,.ptr 1000002 0),(4,.ptr 1000004 0),(6,.d (.i .i64) 11)],(h25 12 13 14 15 16 0 1 2 1000004 3 4 5 6 7 8 9 10),[.l (.st 10),.l (.st 9),.i .i64,.l (.st 1),.l (.st 3),.l (.st 5),.l (.st 7),.l (.st 8),.l (.st 10),.l (.st 9),.i .i64],[.i .i64,.l (.st 1),.l (.st 3),.l (.st 5),.l (.st 7),.l (.st 8)]⟩ true (.s .n (.s (.s .n (.s .n (.s .n (.s (.s (.s .n (.s (.j ⟨[(2,.ptr 1000002 0),(3,.ptr 1000003 0),(4,.ptr 1000004 0),(7,.fn 102 [] []),(62,.d .b 46)],h65,k66,[.b]⟩ false .n) .n)) .n) (.s .n (.s .n (.s .n (.s .n (.s .n (.s (.s (.s .n (.s (.j ⟨[(2,.ptr 1000002 0),(3,.ptr 1000003 0),(4,.ptr 1000004 0),(120,.d .b 46)],h65,k66,[.b]⟩ false .n) .n)) .n) .n)))))))))) .n))) .n)))) Tryz.func33 rfl hbv33 ⟨zc4,wA,zs9,vJ,ZN,zk0,zk2,oM,zk3,VL,trivial⟩ fun x=>by kernel_rfl
def uH:Ct TS:=⟨[.d (.l (.st 10)) 0],[],[.l (.st 10)],.row 6 7000001,(h4 7000001 79 10 1),[.l (.st 10)],false,fun x=>xZ x⟩
theorem Kp:za Tryz.prog 133∧uH.OK Tryz.prog 133:=ctk (T:=[]) (h:=.n) Tryz.func133 rfl zCx trivial (fun x=>match x with|[]=>by kernel_rfl|_::_=>by kernel_rfl)
def uI:Ct TS:=⟨[.d (.l (.st 9)) 0],[],[.l (.st 9)],.d (.l (.st 9)) 1,[],[.l (.st 9)],false,fun x=>y7 x⟩
theorem Kq:za Tryz.prog 134∧uI.OK Tryz.prog 134:=ctk (T:=[]) (h:=.n) Tryz.func134 rfl zCy trivial (fun x=>match x with|[]=>by kernel_rfl|_::_=>by kernel_rfl)
def ky(RK:Nat):Ct TS:=⟨[.d (.st 0) 0],[],[.st 0],.ag [.d (.i .i64) 1,.d (.i .i64) 2,.d .s 3,.d .s 4,.d (.l (.st 0)) 5],(h67 7000001 1 2 3 4 5),[.i .i64,.i .i64,.s,.s,.l (.st 0)],false,fun x=>yW RK x⟩
theorem JE:∀RK,(ky RK).OK Tryz.prog 135
 |0=>(fun x r h=>nomatch (show(none:Option _)=some r from h))
 |RK+1=>(ctg (c:=ky (RK+1)) (cd:=cdT) (nb:=nbT) (rc:=[(2,7000001,0)]) (T:=[(135,ky RK)]) (h:=.s .n (.s .n (.s (.s .n (.s (.l ⟨[(1,.ptr 1000001 0),(2,.ptr 1000002 0),(3,.row 5 7001001),(7,.d (.l (.st 0)) 0),(8,.d (.i .i64) 1),(9,.d (.i .i64) 9)],(h68 10),[.l (.st 0),.i .i64,.i .i64,.i .i64,.s,.s,.i .i64,.s,.l (.st 0)],[.i .i64,.l (.st 0)]⟩ [(1,.ptr 1000001 0),(2,.ptr 1000002 0),(3,.row 5 7001001)] (h68 9) [.l (.st 0)] 0 (fun x K v=>xd (yW RK) x.1 x.2.1 x.2.2.1 x.2.2.2.1 x.2.2.2.2.1 x.2.2.2.2.2.1 x.2.2.2.2.2.2.1 x.2.2.2.2.2.2.2.1 x.2.2.2.2.2.2.2.2 K v) .n) .n)) .n))) Tryz.func135 rfl zo7 ⟨⟨zo7,(JE RK)⟩,trivial⟩ fun x=>by kernel_rfl).2
theorem zdk(RK:Nat):za Tryz.prog 135∧(ky RK).OK Tryz.prog 135:=⟨zo7,(JE RK)⟩
def qI:Ct TS:=⟨[.d (.l (.st 2)) 0],[],[.l (.st 2)],.d (.l (.st 2)) 1,[],[.l (.st 2)],false,fun x=>xD x⟩
theorem JF:za Tryz.prog 136∧qI.OK Tryz.prog 136:=ctk (T:=[]) (h:=.n) Tryz.func136 rfl zuu trivial (fun x=>match x with|[]=>by kernel_rfl|_::_=>by kernel_rfl)
def qJ:Ct TS:=⟨[.d (.l (.st 4)) 0],[],[.l (.st 4)],.d (.l (.st 4)) 1,[],[.l (.st 4)],false,fun x=>yt x⟩
theorem JG:za Tryz.prog 137∧qJ.OK Tryz.prog 137:=ctk (T:=[]) (h:=.n) Tryz.func137 rfl zCz trivial (fun x=>match x with|[]=>by kernel_rfl|_::_=>by kernel_rfl)
def qK:Ct TS:=⟨[.d (.l (.s)) 0],[],[.l (.s)],.d (.l (.s)) 1,[],[.l (.s)],false,fun x=>yu x⟩
theorem JH:za Tryz.prog 138∧qK.OK Tryz.prog 138:=ctk (T:=[]) (h:=.n) Tryz.func138 rfl zC0 trivial (fun x=>match x with|[]=>by kernel_rfl|_::_=>by kernel_rfl)
def ZR:Ct TS:=⟨[.d (.st 12) 0],[],[.st 12],.ag [.row 6 7000002,.row 3 7000003,.row 3 7000004,.row 20 7000005,.row 4 7000006,.row 6 7000007,.d (.l (.st 9)) 1,.d (.i .i64) 2],[(7000001,.box 30 [.row 6 7000002,.row 3 7000003,.row 3 7000004,.row 20 7000005,.row 4 7000006,.row 6 7000007,.d (.l (.st 9)) 1,.d (.i .i64) 2]),(7000002,.row 67 (.st 1) 3 false),(7000003,.row 70 (.st 3) 4 false),(7000004,.row 72 (.st 5) 5 false),(7000005,.row 39 (.st 7) 6 false),(7000006,.row 75 (.st 8) 7 false),(7000007,.row 79 (.st 10) 8 false)],[.l (.st 9),.i .i64,.l (.st 1),.l (.st 3),.l (.st 5),.l (.st 7),.l (.st 8),.l (.st 10)],false,fun x=>oy x⟩
theorem ZS:za Tryz.prog 34∧ZR.OK Tryz.prog 34:=ctg (cd:=cdT) (nb:=zch) (rc:=[(2,7000001,0)]) (T:=[(128,vY),(129,vZ),(130,ja),(131,wa),(132,jb),(133,uH),(134,uI),(135,ky KK),(136,qI),(137,qJ),(138,qK)]) (h:=.s .n (.s .n (.s .n (.s (.s .n (.s (.l ⟨[(1,.ptr 1000001 0),(2,.ptr 1000002 0),(40,.d (.i .i64) 0),(41,.d (.i .i64) 16)],(h69 103001200 67 1 17 103001500 70 3 5 103001800 72 5 6 103002100 39 7 7 8 9),[.i .i64,.l (.st 9),.i .i64,.l (.st 9),.i .i64,.l (.st 3),.l (.st 5),.l (.st 7),.l (.st 8),.l (.st 10),.l (.st 1),.l (.st 3),.l (.st 5),.l (.st 7),.l (.st 8),.l (.st 10)],[.i .i64,.l (.st 1)]⟩ [(1,.ptr 1000001 0),(2,.ptr 1000002 0)] (h69 103001200 67 1 16 103001500 70 3 5 103001800 72 5 6 103002100 39 7 7 8 9) [.l (.st 1)] 0 (fun x K v=>jU x.1 x.2.1 x.2.2.1 x.2.2.2.1 x.2.2.2.2.1 x.2.2.2.2.2.1 x.2.2.2.2.2.2.1 x.2.2.2.2.2.2.2.1 x.2.2.2.2.2.2.2.2.1 x.2.2.2.2.2.2.2.2.2.1 x.2.2.2.2.2.2.2.2.2.2.1 x.2.2.2.2.2.2.2.2.2.2.2.1 x.2.2.2.2.2.2.2.2.2.2.2.2.1 x.2.2.2.2.2.2.2.2.2.2.2.2.2.1 x.2.2.2.2.2.2.2.2.2.2.2.2.2.2.1 x.2.2.2.2.2.2.2.2.2.2.2.2.2.2.2 K v) .n) .n)) (.s (.s .n (.s (.l ⟨[(1,.ptr 1000001 0),(2,.ptr 1000002 0),(59,.d (.i .i64) 0),(60,.d (.i .i64) 16)],(h69 103001200 67 1 5 103001500 70 3 17 103001800 72 5 6 103002100 39 7 7 8 9),[.i .i64,.l (.st 9),.i .i64,.l (.st 9),.i .i64,.l (.st 1),.l (.st 5),.l (.st 7),.l (.st 8),.l (.st 10),.l (.st 1),.l (.st 3),.l (.st 5),.l (.st 7),.l (.st 8),.l (.st 10)],[.i .i64,.l (.st 3)]⟩ [(1,.ptr 1000001 0),(2,.ptr 1000002 0)] (h69 103001200 67 1 5 103001500 70 3 16 103001800 72 5 6 103002100 39 7 7 8 9) [.l (.st 3)] 2 (fun x K v=>jV x.1 x.2.1 x.2.2.1 x.2.2.2.1 x.2.2.2.2.1 x.2.2.2.2.2.1 x.2.2.2.2.2.2.1 x.2.2.2.2.2.2.2.1 x.2.2.2.2.2.2.2.2.1 x.2.2.2.2.2.2.2.2.2.1 x.2.2.2.2.2.2.2.2.2.2.1 x.2.2.2.2.2.2.2.2.2.2.2.1 x.2.2.2.2.2.2.2.2.2.2.2.2.1 x.2.2.2.2.2.2.2.2.2.2.2.2.2.1 x.2.2.2.2.2.2.2.2.2.2.2.2.2.2.1 x.2.2.2.2.2.2.2.2.2.2.2.2.2.2.2 K v) .n) .n)) (.s (.s .n (.s (.l ⟨[(1,.ptr 1000001 0),(2,.ptr 1000002 0),(78,.d (.i .i64) 0),(79,.d (.i .i64) 16)],(h69 103001200 67 1 5 103001500 70 3 6 103001800 72 5 17 103002100 39 7 7 8 9),[.i .i64,.l (.st 9),.i .i64,.l (.st 9),.i .i64,.l (.st 1),.l (.st 3),.l (.st 7),.l (.st 8),.l (.st 10),.l (.st 1),.l (.st 3),.l (.st 5),.l (.st 7),.l (.st 8),.l (.st 10)],[.i .i64,.l (.st 5)]⟩ [(1,.ptr 1000001 0),(2,.ptr 1000002 0)] (h69 103001200 67 1 5 103001500 70 3 6 103001800 72 5 16 103002100 39 7 7 8 9) [.l (.st 5)] 4 (fun x K v=>jW x.1 x.2.1 x.2.2.1 x.2.2.2.1 x.2.2.2.2.1 x.2.2.2.2.2.1 x.2.2.2.2.2.2.1 x.2.2.2.2.2.2.2.1 x.2.2.2.2.2.2.2.2.1 x.2.2.2.2.2.2.2.2.2.1 x.2.2.2.2.2.2.2.2.2.2.1 x.2.2.2.2.2.2.2.2.2.2.2.1 x.2.2.2.2.2.2.2.2.2.2.2.2.1 x.2.2.2.2.2.2.2.2.2.2.2.2.2.1 x.2.2.2.2.2.2.2.2.2.2.2.2.2.2.1 x.2.2.2.2.2.2.2.2.2.2.2.2.2.2.2 K v) .n) .n)) (.s (.s .n (.s (.l ⟨[(1,.ptr 1000001 0),(2,.ptr 1000002 0),(96,.row 20 103002100),(97,.d (.i .i64) 0),(98,.d (.i .i64) 16)],(h69 103002100 39 7 17 103001200 67 1 5 103001500 70 3 6 103001800 72 5 7 8 9),[.i .i64,.l (.st 9),.i .i64,.l (.st 9),.i .i64,.l (.st 1),.l (.st 3),.l (.st 5),.l (.st 8),.l (.st 10),.l (.st 1),.l (.st 3),.l (.st 5),.l (.st 7),.l (.st 8),.l (.st 10)],[.i .i64,.l (.st 7)]⟩ [(1,.ptr 1000001 0),(2,.ptr 1000002 0)] (h69 103001200 67 1 5 103001500 70 3 6 103001800 72 5 7 103002100 39 7 16 8 9) [.l (.st 7)] 6 (fun x K v=>jX x.1 x.2.1 x.2.2.1 x.2.2.2.1 x.2.2.2.2.1 x.2.2.2.2.2.1 x.2.2.2.2.2.2.1 x.2.2.2.2.2.2.2.1 x.2.2.2.2.2.2.2.2.1 x.2.2.2.2.2.2.2.2.2.1 x.2.2.2.2.2.2.2.2.2.2.1 x.2.2.2.2.2.2.2.2.2.2.2.1 x.2.2.2.2.2.2.2.2.2.2.2.2.1 x.2.2.2.2.2.2.2.2.2.2.2.2.2.1 x.2.2.2.2.2.2.2.2.2.2.2.2.2.2.1 x.2.2.2.2.2.2.2.2.2.2.2.2.2.2.2 K v) .n) .n)) (.s (.s .n (.s (.l ⟨[(1,.ptr 1000001 0),(2,.ptr 1000002 0),(130,.d (.i .i64) 0),(131,.d (.i .i64) 16)],(h69 103001200 67 1 5 103001500 70 3 6 103001800 72 5 7 103002100 39 7 8 17 9),[.i .i64,.l (.st 9),.i .i64,.l (.st 9),.i .i64,.l (.st 1),.l (.st 3),.l (.st 5),.l (.st 7),.l (.st 10),.l (.st 1),.l (.st 3),.l (.st 5),.l (.st 7),.l (.st 8),.l (.st 10)],[.i .i64,.l (.st 8)]⟩ [(1,.ptr 1000001 0),(2,.ptr 1000002 0)] (h69 103001200 67 1 5 103001500 70 3 6 103001800 72 5 7 103002100 39 7 8 16 9) [.l (.st 8)] 8 (fun x K v=>jY x.1 x.2.1 x.2.2.1 x.2.2.2.1 x.2.2.2.2.1 x.2.2.2.2.2.1 x.2.2.2.2.2.2.1 x.2.2.2.2.2.2.2.1 x.2.2.2.2.2.2.2.2.1 x.2.2.2.2.2.2.2.2.2.1 x.2.2.2.2.2.2.2.2.2.2.1 x.2.2.2.2.2.2.2.2.2.2.2.1 x.2.2.2.2.2.2.2.2.2.2.2.2.1 x.2.2.2.2.2.2.2.2.2.2.2.2.2.1 x.2.2.2.2.2.2.2.2.2.2.2.2.2.2.1 x.2.2.2.2.2.2.2.2.2.2.2.2.2.2.2 K v) .n) .n)) (.s (.s .n (.s (.l ⟨[(1,.ptr 1000001 0),(2,.ptr 1000002 0),(149,.d (.i .i64) 0),(150,.d (.i .i64) 16)],(h69 103001200 67 1 5 103001500 70 3 6 103001800 72 5 7 103002100 39 7 8 9 17),[.i .i64,.l (.st 9),.i .i64,.l (.st 9),.i .i64,.l (.st 1),.l (.st 3),.l (.st 5),.l (.st 7),.l (.st 8),.l (.st 1),.l (.st 3),.l (.st 5),.l (.st 7),.l (.st 8),.l (.st 10)],[.i .i64,.l (.st 10)]⟩ [(1,.ptr 1000001 0),(2,.ptr 1000002 0)] (h69 103001200 67 1 5 103001500 70 3 6 103001800 72 5 7 103002100 39 7 8 9 16) [.l (.st 10)] 10 (fun x K v=>jZ x.1 x.2.1 x.2.2.1 x.2.2.2.1 x.2.2.2.2.1 x.2.2.2.2.2.1 x.2.2.2.2.2.2.1 x.2.2.2.2.2.2.2.1 x.2.2.2.2.2.2.2.2.1 x.2.2.2.2.2.2.2.2.2.1 x.2.2.2.2.2.2.2.2.2.2.1 x.2.2.2.2.2.2.2.2.2.2.2.1 x.2.2.2.2.2.2.2.2.2.2.2.2.1 x.2.2.2.2.2.2.2.2.2.2.2.2.2.1 x.2.2.2.2.2.2.2.2.2.2.2.2.2.2.1 x.2.2.2.2.2.2.2.2.2.2.2.2.2.2.2 K v) .n) .n)) .n))))))))) Tryz.func34 rfl hbv34 ⟨qD,qE,qF,vl,qH,Kp,Kq,(zdk KK),JF,JG,JH,trivial⟩ fun x=>by kernel_rfl
def zf5:Ct TS:=⟨[.d (.st 12) 0,.d (.st 13) 1],h2,[.st 12,.st 13],.tup [.ag [.d (.l (.st 1)) 3,.d (.l (.st 3)) 4,.d (.l (.st 5)) 5,.d (.l (.st 7)) 6,.d (.l (.st 8)) 7,.d (.l (.st 10)) 8,.d (.l (.st 9)) 9,.d (.i .i64) 10],.d (.i .i64) 2],(h20 7000001 3 4 5 6 7 8 9 10),k64,false,fun x=>Kg x.1 x.2⟩
theorem zin:za Tryz.prog 10∧zf5.OK Tryz.prog 10:=ctg (cd:=cdT) (nb:=nbT) (rc:=[(4,7000001,0)]) (T:=[(28,Kl),(22,kv),(33,zdj),(34,ZR)]) (h:=.s .n (.s (.s (.j ⟨[(2,.ptr 1000002 0),(3,.ptr 1000003 0),(4,.ptr 1000004 0),(15,.d .b 46)],[(900000000,.rw 1),(900000001,.rw 2),(900000002,.rw 3),(900000003,.rw 4),(1000002,.box 30 [.d (.l (.st 1)) 0,.d (.l (.st 3)) 1,.d (.l (.st 5)) 2,.d (.l (.st 7)) 3,.d (.l (.st 8)) 4,.d (.l (.st 10)) 5,.d (.l (.st 9)) 6,.d (.i .i64) 7]),(1000003,.box 42 [.d (.i .i64) 8,.d .s 9,.d .s 10,.d (.i .i64) 11,.d .s 12,.d (.l (.s)) 13,.d (.l (.s)) 14,.d (.i .i64) 15,.d (.i .i64) 16,.d (.i .i64) 17,.d .b 18,.d (.i .i64) 19,.d (.i .i64) 20,.d (.i .i64) 21,.d .s 22,.d .s 23,.d (.l (.st 0)) 24,.d (.i .i64) 25,.d (.i .i64) 26,.d (.i .i64) 27,.d (.i .i64) 28,.d (.i .i64) 29,.d (.i .i64) 30,.d (.i .i64) 31,.d (.i .i64) 32,.d (.i .i64) 33,.d .s 34,.d .s 35,.d (.l (.st 0)) 36,.d (.l (.st 4)) 37]),(1000004,.box 30 [.d (.l (.st 1)) 38,.d (.l (.st 3)) 39,.d (.l (.st 5)) 40,.d (.l (.st 7)) 41,.d (.l (.st 8)) 42,.d (.l (.st 10)) 43,.d (.l (.st 9)) 44,.d (.i .i64) 45])],k66,[.b]⟩ false .n) .n) .n)) Tryz.func10 rfl hbv10 ⟨JA,j5,zk5,ZS,trivial⟩ fun x=>by kernel_rfl
def zdl:Ct TS:=⟨[.d (.i .i64) 0],[],[.i .i64],.ag [.d (.i .i64) 1,.d (.i .i64) 2,.d .s 3,.d .s 4,.d (.l (.st 0)) 5],(h67 7000001 1 2 3 4 5),[.i .i64,.i .i64,.s,.s,.l (.st 0)],false,fun x=>Vl x⟩
theorem zk6:za Tryz.prog 30∧zdl.OK Tryz.prog 30:=ctg (cd:=cdT) (nb:=nbT) (rc:=[(2,7000001,0)]) (T:=[]) (h:=.n) Tryz.func30 rfl hbv30 trivial fun x=>by kernel_rfl
def JI:Ct TS:=⟨[.d (.st 1) 0,.ptr 1 0],(h70 1 2 3 4 5 6),[.st 1,.s,.i .i64,.i .i64,.s,.s,.l (.st 0)],.d .b 7,(h70 1 2 3 4 5 6),[.b],false,fun x=>Jr x.1 x.2.1 x.2.2.1 x.2.2.2.1 x.2.2.2.2.1 x.2.2.2.2.2.1 x.2.2.2.2.2.2⟩
theorem Wt:za Tryz.prog 154∧JI.OK Tryz.prog 154:=ctk (T:=[]) (h:=.n) Tryz.func154 rfl zC1 trivial fun x=>by kernel_rfl
def vM:Ct TS:=⟨[.d (.l (.st 1)) 0,.fn 154 [] [.ptr 1 0]],(h70 1 2 3 4 5 6),[.l (.st 1),.s,.i .i64,.i .i64,.s,.s,.l (.st 0)],.d (.i .i64) 7,(h70 1 2 3 4 5 6),[.i .i64],false,fun x=>vC x.1 x.2.1 x.2.2.1 x.2.2.2.1 x.2.2.2.2.1 x.2.2.2.2.2.1 x.2.2.2.2.2.2⟩
theorem uO:za Tryz.prog 203∧vM.OK Tryz.prog 203:=ctk (T:=[(154,JI)]) (h:=.s .n (.s (.s .n (.s (.lr ⟨[(0,.d (.l (.st 1)) 6),(1,.fn 154 [] [.ptr 1 0]),(7,.d (.i .i64) 7),(8,.d (.i .i64) 8)],(h70 0 1 2 3 4 5),[.s,.i .i64,.i .i64,.s,.s,.l (.st 0),.l (.st 1),.i .i64],[.i .i64]⟩ [] (h70 0 1 2 3 4 5) [] 0 (fun x K v=>yv x.1 x.2.1 x.2.2.1 x.2.2.2.1 x.2.2.2.2.1 x.2.2.2.2.2.1 x.2.2.2.2.2.2.1 x.2.2.2.2.2.2.2 K v) .n) .n)) .n)) Tryz.func203 rfl zus ⟨Wt,trivial⟩ fun x=>by kernel_rfl
def zio:Ct TS:=⟨[.d (.l (.st 1)) 0,.fn 154 [] [.ptr 1 0]],(h70 1 2 3 4 5 6),[.l (.st 1),.s,.i .i64,.i .i64,.s,.s,.l (.st 0)],.tup [.ag [.d .s 8,.d (.i .i64) 9,.d (.i .i64) 10,.d .s 11,.d .s 12,.d (.l (.st 0)) 13],.d .b 7],[(1,.box 67 [.d .s 1,.d (.i .i64) 2,.d (.i .i64) 3,.d .s 4,.d .s 5,.d (.l (.st 0)) 6]),(7000001,.box 67 [.d .s 8,.d (.i .i64) 9,.d (.i .i64) 10,.d .s 11,.d .s 12,.d (.l (.st 0)) 13])],[.b,.s,.i .i64,.i .i64,.s,.s,.l (.st 0)],false,fun x=>zh3 x.1 x.2.1 x.2.2.1 x.2.2.2.1 x.2.2.2.2.1 x.2.2.2.2.2.1 x.2.2.2.2.2.2⟩
theorem zpq:za Tryz.prog 153∧zio.OK Tryz.prog 153:=ctg (cd:=cdT) (nb:=nbT) (rc:=[(4,7000001,0)]) (T:=[(203,vM)]) (h:=.n) Tryz.func153 rfl zC2 ⟨uO,trivial⟩ fun x=>by kernel_rfl
def JJ:Ct TS:=⟨[.d (.st 3) 0,.ptr 1 0],(h71 1 2 3),[.st 3,.s,.l (.st 2),.i .i64],.d .b 4,(h71 1 2 3),[.b],false,fun x=>Js x.1 x.2.1 x.2.2.1 x.2.2.2⟩
theorem Wu:za Tryz.prog 156∧JJ.OK Tryz.prog 156:=ctk (T:=[]) (h:=.n) Tryz.func156 rfl zC3 trivial fun x=>by kernel_rfl
def vN:Ct TS:=⟨[.d (.l (.st 3)) 0,.fn 156 [] [.ptr 1 0]],(h71 1 2 3),[.l (.st 3),.s,.l (.st 2),.i .i64],.d (.i .i64) 4,(h71 1 2 3),[.i .i64],false,fun x=>vD x.1 x.2.1 x.2.2.1 x.2.2.2⟩
theorem uP:za Tryz.prog 204∧vN.OK Tryz.prog 204:=ctk (T:=[(156,JJ)]) (h:=.s .n (.s (.s .n (.s (.lr ⟨[(0,.d (.l (.st 3)) 3),(1,.fn 156 [] [.ptr 1 0]),(7,.d (.i .i64) 4),(8,.d (.i .i64) 5)],(h71 0 1 2),[.s,.l (.st 2),.i .i64,.l (.st 3),.i .i64],[.i .i64]⟩ [] (h71 0 1 2) [] 0 (fun x K v=>yw x.1 x.2.1 x.2.2.1 x.2.2.2.1 x.2.2.2.2 K v) .n) .n)) .n)) Tryz.func204 rfl zut ⟨Wu,trivial⟩ fun x=>by kernel_rfl
def Yy:Ct TS:=⟨[.d (.l (.st 3)) 0,.fn 156 [] [.ptr 1 0]],(h71 1 2 3),[.l (.st 3),.s,.l (.st 2),.i .i64],.tup [.ag [.d .s 5,.d (.l (.st 2)) 6,.d (.i .i64) 7],.d .b 4],[(1,.box 70 [.d .s 1,.d (.l (.st 2)) 2,.d (.i .i64) 3]),(7000001,.box 70 [.d .s 5,.d (.l (.st 2)) 6,.d (.i .i64) 7])],[.b,.s,.l (.st 2),.i .i64],false,fun x=>Yd x.1 x.2.1 x.2.2.1 x.2.2.2⟩
theorem zf6:za Tryz.prog 155∧Yy.OK Tryz.prog 155:=ctg (cd:=cdT) (nb:=nbT) (rc:=[(4,7000001,0)]) (T:=[(204,vN)]) (h:=.n) Tryz.func155 rfl zC4 ⟨uP,trivial⟩ fun x=>by kernel_rfl
def JK:Ct TS:=⟨[.d (.st 2) 0,.ptr 1 0],(h72 1 2),[.st 2,.s,.i .i64],.d .b 3,(h72 1 2),[.b],false,fun x=>Jt x.1 x.2.1 x.2.2⟩
theorem Wv:za Tryz.prog 158∧JK.OK Tryz.prog 158:=ctk (T:=[]) (h:=.n) Tryz.func158 rfl zC5 trivial fun x=>by kernel_rfl
def vO:Ct TS:=⟨[.d (.l (.st 2)) 0,.fn 158 [] [.ptr 1 0]],(h72 1 2),[.l (.st 2),.s,.i .i64],.d (.i .i64) 3,(h72 1 2),[.i .i64],false,fun x=>vE x.1 x.2.1 x.2.2⟩
theorem uQ:za Tryz.prog 205∧vO.OK Tryz.prog 205:=ctk (T:=[(158,JK)]) (h:=.s .n (.s (.s .n (.s (.lr ⟨[(0,.d (.l (.st 2)) 2),(1,.fn 158 [] [.ptr 1 0]),(7,.d (.i .i64) 3),(8,.d (.i .i64) 4)],(h72 0 1),[.s,.i .i64,.l (.st 2),.i .i64],[.i .i64]⟩ [] (h72 0 1) [] 0 (fun x K v=>yx x.1 x.2.1 x.2.2.1 x.2.2.2 K v) .n) .n)) .n)) Tryz.func205 rfl zuv ⟨Wv,trivial⟩ fun x=>by kernel_rfl
def Yz:Ct TS:=⟨[.d (.l (.st 2)) 0,.fn 158 [] [.ptr 1 0]],(h72 1 2),[.l (.st 2),.s,.i .i64],.tup [.ag [.d .s 4,.d (.i .i64) 5],.d .b 3],[(1,.box 86 [.d .s 1,.d (.i .i64) 2]),(7000001,.box 86 [.d .s 4,.d (.i .i64) 5])],[.b,.s,.i .i64],false,fun x=>Ye x.1 x.2.1 x.2.2⟩
theorem zf7:za Tryz.prog 157∧Yz.OK Tryz.prog 157:=ctg (cd:=cdT) (nb:=nbT) (rc:=[(4,7000001,0)]) (T:=[(205,vO)]) (h:=.n) Tryz.func157 rfl zC6 ⟨uQ,trivial⟩ fun x=>by kernel_rfl
def JL:Ct TS:=⟨[.d (.st 5) 0,.ptr 1 0],(h73 1 2 3),[.st 5,.s,.b,.l (.st 4)],.d .b 4,(h73 1 2 3),[.b],false,fun x=>Ju x.1 x.2.1 x.2.2.1 x.2.2.2⟩
theorem Ww:za Tryz.prog 160∧JL.OK Tryz.prog 160:=ctk (T:=[]) (h:=.n) Tryz.func160 rfl zC7 trivial fun x=>by kernel_rfl
def vP:Ct TS:=⟨[.d (.l (.st 5)) 0,.fn 160 [] [.ptr 1 0]],(h73 1 2 3),[.l (.st 5),.s,.b,.l (.st 4)],.d (.i .i64) 4,(h73 1 2 3),[.i .i64],false,fun x=>vF x.1 x.2.1 x.2.2.1 x.2.2.2⟩
theorem uR:za Tryz.prog 120∧vP.OK Tryz.prog 120:=ctk (T:=[(160,JL)]) (h:=.s .n (.s (.s .n (.s (.lr ⟨[(0,.d (.l (.st 5)) 3),(1,.fn 160 [] [.ptr 1 0]),(7,.d (.i .i64) 4),(8,.d (.i .i64) 5)],(h73 0 1 2),[.s,.b,.l (.st 4),.l (.st 5),.i .i64],[.i .i64]⟩ [] (h73 0 1 2) [] 0 (fun x K v=>yy x.1 x.2.1 x.2.2.1 x.2.2.2.1 x.2.2.2.2 K v) .n) .n)) .n)) Tryz.func120 rfl zo5 ⟨Ww,trivial⟩ fun x=>by kernel_rfl
def YA:Ct TS:=⟨[.d (.l (.st 5)) 0,.fn 160 [] [.ptr 1 0]],(h73 1 2 3),[.l (.st 5),.s,.b,.l (.st 4)],.tup [.ag [.d .s 5,.d .b 6,.d (.l (.st 4)) 7],.d .b 4],[(1,.box 72 [.d .s 1,.d .b 2,.d (.l (.st 4)) 3]),(7000001,.box 72 [.d .s 5,.d .b 6,.d (.l (.st 4)) 7])],[.b,.s,.b,.l (.st 4)],false,fun x=>Yf x.1 x.2.1 x.2.2.1 x.2.2.2⟩
theorem zf8:za Tryz.prog 159∧YA.OK Tryz.prog 159:=ctg (cd:=cdT) (nb:=nbT) (rc:=[(4,7000001,0)]) (T:=[(120,vP)]) (h:=.n) Tryz.func159 rfl zC8 ⟨uR,trivial⟩ fun x=>by kernel_rfl
def JM:Ct TS:=⟨[.d (.st 7) 0,.ptr 1 0],(h74 1 2 3 4 5 6 7 8 9 10 11 12 13 14 15 16 17 18 19 20),[.st 7,.s,.l (.s),.l (.s),.i .i64,.i .i64,.i .i64,.b,.i .i64,.i .i64,.i .i64,.s,.s,.l (.st 0),.i .i64,.i .i64,.i .i64,.i .i64,.i .i64,.i .i64,.i .i64],.d .b 21,(h74 1 2 3 4 5 6 7 8 9 10 11 12 13 14 15 16 17 18 19 20),[.b],false,fun x=>Jv x.1 (zxo x.2)⟩
theorem Wx:za Tryz.prog 162∧JM.OK Tryz.prog 162:=ctk (T:=[]) (h:=.n) Tryz.func162 rfl zC9 trivial fun x=>by kernel_rfl
def vQ:Ct TS:=⟨[.d (.l (.st 7)) 0,.fn 162 [] [.ptr 1 0]],(h74 1 2 3 4 5 6 7 8 9 10 11 12 13 14 15 16 17 18 19 20),k75,.d (.i .i64) 21,(h74 1 2 3 4 5 6 7 8 9 10 11 12 13 14 15 16 17 18 19 20),[.i .i64],false,fun x=>vG x.1 (zxo x.2)⟩
theorem uS:za Tryz.prog 108∧vQ.OK Tryz.prog 108:=ctk (T:=[(162,JM)]) (h:=.s .n (.s (.s .n (.s (.lr ⟨[(0,.d (.l (.st 7)) 20),(1,.fn 162 [] [.ptr 1 0]),(7,.d (.i .i64) 21),(8,.d (.i .i64) 22)],(h74 0 1 2 3 4 5 6 7 8 9 10 11 12 13 14 15 16 17 18 19),[.s,.l (.s),.l (.s),.i .i64,.i .i64,.i .i64,.b,.i .i64,.i .i64,.i .i64,.s,.s,.l (.st 0),.i .i64,.i .i64,.i .i64,.i .i64,.i .i64,.i .i64,.i .i64,.l (.st 7),.i .i64],[.i .i64]⟩ [] (h74 0 1 2 3 4 5 6 7 8 9 10 11 12 13 14 15 16 17 18 19) [] 0 (fun x K v=>yz (RB.mk x.1 x.2.1 x.2.2.1 x.2.2.2.1 x.2.2.2.2.1 x.2.2.2.2.2.1 x.2.2.2.2.2.2.1 x.2.2.2.2.2.2.2.1 x.2.2.2.2.2.2.2.2.1 x.2.2.2.2.2.2.2.2.2.1 x.2.2.2.2.2.2.2.2.2.2.1 x.2.2.2.2.2.2.2.2.2.2.2.1 x.2.2.2.2.2.2.2.2.2.2.2.2.1 x.2.2.2.2.2.2.2.2.2.2.2.2.2.1 x.2.2.2.2.2.2.2.2.2.2.2.2.2.2.1 x.2.2.2.2.2.2.2.2.2.2.2.2.2.2.2.1 x.2.2.2.2.2.2.2.2.2.2.2.2.2.2.2.2.1 x.2.2.2.2.2.2.2.2.2.2.2.2.2.2.2.2.2.1 x.2.2.2.2.2.2.2.2.2.2.2.2.2.2.2.2.2.2.1 x.2.2.2.2.2.2.2.2.2.2.2.2.2.2.2.2.2.2.2.1) x.2.2.2.2.2.2.2.2.2.2.2.2.2.2.2.2.2.2.2.2.1 x.2.2.2.2.2.2.2.2.2.2.2.2.2.2.2.2.2.2.2.2.2 K v) .n) .n)) .n)) Tryz.func108 rfl zh9 ⟨Wx,trivial⟩ fun x=>by kernel_rfl
def YB:Ct TS:=⟨[.d (.l (.st 7)) 0,.fn 162 [] [.ptr 1 0]],(h74 1 2 3 4 5 6 7 8 9 10 11 12 13 14 15 16 17 18 19 20),k75,.tup [.ag [.d .s 22,.d (.l (.s)) 23,.d (.l (.s)) 24,.d (.i .i64) 25,.d (.i .i64) 26,.d (.i .i64) 27,.d .b 28,.d (.i .i64) 29,.d (.i .i64) 30,.d (.i .i64) 31,.d .s 32,.d .s 33,.d (.l (.st 0)) 34,.d (.i .i64) 35,.d (.i .i64) 36,.d (.i .i64) 37,.d (.i .i64) 38,.d (.i .i64) 39,.d (.i .i64) 40,.d (.i .i64) 41],.d .b 21],(h17 1 1 2 3 4 5 6 7 8 9 10 11 12 13 14 15 16 17 18 19 20 7000001 22 23 24 25 26 27 28 29 30 31 32 33 34 35 36 37 38 39 40 41),[.b,.s,.l (.s),.l (.s),.i .i64,.i .i64,.i .i64,.b,.i .i64,.i .i64,.i .i64,.s,.s,.l (.st 0),.i .i64,.i .i64,.i .i64,.i .i64,.i .i64,.i .i64,.i .i64],false,fun x=>Yg x.1 (zxo x.2)⟩
theorem zf9:za Tryz.prog 161∧YB.OK Tryz.prog 161:=ctg (cd:=cdT) (nb:=nbT) (rc:=[(4,7000001,0)]) (T:=[(108,vQ)]) (h:=.n) Tryz.func161 rfl zDa ⟨uS,trivial⟩ fun x=>by kernel_rfl
def JN:Ct TS:=⟨[.d (.st 8) 0,.ptr 1 0],(h76 1 2 3 4),[.st 8,.s,.i .i64,.i .i64,.l (.st 4)],.d .b 5,(h76 1 2 3 4),[.b],false,fun x=>Jw x.1 x.2.1 x.2.2.1 x.2.2.2.1 x.2.2.2.2⟩
theorem Wy:za Tryz.prog 164∧JN.OK Tryz.prog 164:=ctk (T:=[]) (h:=.n) Tryz.func164 rfl zDb trivial fun x=>by kernel_rfl
def vR:Ct TS:=⟨[.d (.l (.st 8)) 0,.fn 164 [] [.ptr 1 0]],(h76 1 2 3 4),[.l (.st 8),.s,.i .i64,.i .i64,.l (.st 4)],.d (.i .i64) 5,(h76 1 2 3 4),[.i .i64],false,fun x=>vH x.1 x.2.1 x.2.2.1 x.2.2.2.1 x.2.2.2.2⟩
theorem uT:za Tryz.prog 215∧vR.OK Tryz.prog 215:=ctk (T:=[(164,JN)]) (h:=.s .n (.s (.s .n (.s (.lr ⟨[(0,.d (.l (.st 8)) 4),(1,.fn 164 [] [.ptr 1 0]),(7,.d (.i .i64) 5),(8,.d (.i .i64) 6)],(h76 0 1 2 3),[.s,.i .i64,.i .i64,.l (.st 4),.l (.st 8),.i .i64],[.i .i64]⟩ [] (h76 0 1 2 3) [] 0 (fun x K v=>yA x.1 x.2.1 x.2.2.1 x.2.2.2.1 x.2.2.2.2.1 x.2.2.2.2.2 K v) .n) .n)) .n)) Tryz.func215 rfl zo6 ⟨Wy,trivial⟩ fun x=>by kernel_rfl
def YC:Ct TS:=⟨[.d (.l (.st 8)) 0,.fn 164 [] [.ptr 1 0]],(h76 1 2 3 4),[.l (.st 8),.s,.i .i64,.i .i64,.l (.st 4)],.tup [.ag [.d .s 6,.d (.i .i64) 7,.d (.i .i64) 8,.d (.l (.st 4)) 9],.d .b 5],[(1,.box 75 [.d .s 1,.d (.i .i64) 2,.d (.i .i64) 3,.d (.l (.st 4)) 4]),(7000001,.box 75 [.d .s 6,.d (.i .i64) 7,.d (.i .i64) 8,.d (.l (.st 4)) 9])],[.b,.s,.i .i64,.i .i64,.l (.st 4)],false,fun x=>Yh x.1 x.2.1 x.2.2.1 x.2.2.2.1 x.2.2.2.2⟩
theorem zga:za Tryz.prog 163∧YC.OK Tryz.prog 163:=ctg (cd:=cdT) (nb:=nbT) (rc:=[(4,7000001,0)]) (T:=[(215,vR)]) (h:=.n) Tryz.func163 rfl zDc ⟨uT,trivial⟩ fun x=>by kernel_rfl
def VM:Ct TS:=⟨[.d (.st 12) 0,.d (.st 12) 1],[],[.st 12,.st 12],.d (.l (.st 13)) 2,[],[.l (.st 13)],false,fun x=>Vm x.1 x.2⟩
theorem zdm:za Tryz.prog 57∧VM.OK Tryz.prog 57:=ctk (T:=[(153,zio),(26,Qq),(155,Yy),(157,Yz),(159,YA),(46,y8),(73,ZL),(161,YB),(163,YC)]) (h:=.s .n (.s .n (.s (.s .n (.s (.l ⟨[(2,.ptr 1000002 0),(3,.ptr 1000003 0),(5,.row 30 7001001),(32,.d (.l (.st 1)) 0),(33,.d (.i .i64) 1),(34,.d (.i .i64) 17)],(h77 2 3 4 5 6 7 8 9 0 10 11 12 13 14 15 16 7001001 18),[.l (.st 1),.i .i64,.l (.st 1),.l (.st 3),.l (.st 5),.l (.st 7),.l (.st 8),.l (.st 10),.l (.st 9),.i .i64,.l (.st 3),.l (.st 5),.l (.st 7),.l (.st 8),.l (.st 10),.l (.st 9),.i .i64],[.i .i64,.l (.st 13)]⟩ [(2,.ptr 1000002 0),(3,.ptr 1000003 0),(5,.row 30 7001001)] (h77 2 3 4 5 6 7 8 9 0 10 11 12 13 14 15 16 7001001 17) [.l (.st 13)] 0 (fun x K v=>qb x.1 x.2.1 x.2.2.1 x.2.2.2.1 x.2.2.2.2.1 x.2.2.2.2.2.1 x.2.2.2.2.2.2.1 x.2.2.2.2.2.2.2.1 x.2.2.2.2.2.2.2.2.1 x.2.2.2.2.2.2.2.2.2.1 x.2.2.2.2.2.2.2.2.2.2.1 x.2.2.2.2.2.2.2.2.2.2.2.1 x.2.2.2.2.2.2.2.2.2.2.2.2.1 x.2.2.2.2.2.2.2.2.2.2.2.2.2.1 x.2.2.2.2.2.2.2.2.2.2.2.2.2.2.1 x.2.2.2.2.2.2.2.2.2.2.2.2.2.2.2.1 x.2.2.2.2.2.2.2.2.2.2.2.2.2.2.2.2 K v) (.s .n (.s .n (.s (.j ⟨[(2,.ptr 1000002 0),(3,.ptr 1000003 0),(5,.row 30 7000001),(32,.d (.l (.st 1)) 0),(33,.d (.i .i64) 1),(34,.d (.i .i64) 2)],(h77 3 4 5 6 7 8 9 10 0 11 12 13 14 15 16 17 7000001 18),[.l (.st 1),.i .i64,.i .i64,.l (.st 1),.l (.st 3),.l (.st 5),.l (.st 7),.l (.st 8),.l (.st 10),.l (.st 9),.i .i64,.l (.st 3),.l (.st 5),.l (.st 7),.l (.st 8),.l (.st 10),.l (.st 9),.i .i64],[.l (.st 13)]⟩ false (.s (.s .n (.s .n (.s .n (.s (.j ⟨[(2,.ptr 1000002 0),(3,.ptr 1000003 0),(5,.row 30 7001001),(10,.ptr 1000010 0),(32,.d (.l (.st 1)) 0),(33,.d (.i .i64) 1),(34,.d (.i .i64) 2),(61,.d .b 32)],[(1000002,.box 30 [.d (.l (.st 1)) 3,.d (.l (.st 3)) 4,.d (.l (.st 5)) 5,.d (.l (.st 7)) 6,.d (.l (.st 8)) 7,.d (.l (.st 10)) 8,.d (.l (.st 9)) 9,.d (.i .i64) 10]),(1000003,.box 30 [.d (.l (.st 1)) 0,.d (.l (.st 3)) 11,.d (.l (.st 5)) 12,.d (.l (.st 7)) 13,.d (.l (.st 8)) 14,.d (.l (.st 10)) 15,.d (.l (.st 9)) 16,.d (.i .i64) 17]),(7001001,.row 42 (.st 13) 18 false),(1000010,.box 42 [.d (.i .i64) 19,.d .s 20,.d .s 21,.d (.i .i64) 22,.d .s 21,.d (.l (.s)) 23,.d (.l (.s)) 23,.d (.i .i64) 22,.d (.i .i64) 22,.d (.i .i64) 22,.d .b 24,.d (.i .i64) 22,.d (.i .i64) 22,.d (.i .i64) 22,.d .s 21,.d .s 21,.d (.l (.st 0)) 25,.d (.i .i64) 22,.d (.i .i64) 22,.d (.i .i64) 22,.d (.i .i64) 22,.d (.i .i64) 22,.d (.i .i64) 22,.d (.i .i64) 22,.d (.i .i64) 26,.d (.i .i64) 27,.d .s 28,.d .s 29,.d (.l (.st 0)) 30,.d (.l (.st 4)) 31])],k78,[.b]⟩ false .n) .n)))) .n)) .n)))) .n)) (.s (.s .n (.s (.l ⟨[(2,.ptr 1000002 0),(3,.ptr 1000003 0),(5,.row 30 7001001),(68,.d (.l (.st 3)) 0),(69,.d (.i .i64) 1),(70,.d (.i .i64) 17)],(h77 2 3 4 5 6 7 8 9 10 0 11 12 13 14 15 16 7001001 18),[.l (.st 3),.i .i64,.l (.st 1),.l (.st 3),.l (.st 5),.l (.st 7),.l (.st 8),.l (.st 10),.l (.st 9),.i .i64,.l (.st 1),.l (.st 5),.l (.st 7),.l (.st 8),.l (.st 10),.l (.st 9),.i .i64],[.i .i64,.l (.st 13)]⟩ [(2,.ptr 1000002 0),(3,.ptr 1000003 0),(5,.row 30 7001001)] (h77 2 3 4 5 6 7 8 9 10 0 11 12 13 14 15 16 7001001 17) [.l (.st 13)] 2 (fun x K v=>qd x.1 x.2.1 x.2.2.1 x.2.2.2.1 x.2.2.2.2.1 x.2.2.2.2.2.1 x.2.2.2.2.2.2.1 x.2.2.2.2.2.2.2.1 x.2.2.2.2.2.2.2.2.1 x.2.2.2.2.2.2.2.2.2.1 x.2.2.2.2.2.2.2.2.2.2.1 x.2.2.2.2.2.2.2.2.2.2.2.1 x.2.2.2.2.2.2.2.2.2.2.2.2.1 x.2.2.2.2.2.2.2.2.2.2.2.2.2.1 x.2.2.2.2.2.2.2.2.2.2.2.2.2.2.1 x.2.2.2.2.2.2.2.2.2.2.2.2.2.2.2.1 x.2.2.2.2.2.2.2.2.2.2.2.2.2.2.2.2 K v) (.s .n (.s .n (.s (.s (.s .n (.s .n (.s .n (.s (.l ⟨[(2,.ptr 1000002 0),(3,.ptr 1000003 0),(5,.row 30 7001001),(12,.ptr 1000012 0),(13,.ptr 1000013 0),(68,.d (.l (.st 3)) 0),(69,.d (.i .i64) 1),(70,.d (.i .i64) 2),(82,.d (.l (.st 2)) 3),(83,.d (.i .i64) 4),(84,.d (.i .i64) 25)],(h79 5 6 7 8 9 10 11 12 13 14 15 16 17 18 19 20 21 22 23 24),k80,[.i .i64,.l (.st 13)]⟩ [(2,.ptr 1000002 0),(3,.ptr 1000003 0),(5,.row 30 7001001),(68,.d (.l (.st 3)) 0),(69,.d (.i .i64) 1),(70,.d (.i .i64) 2)] (h77 5 6 7 8 9 10 11 12 13 0 14 15 16 17 18 19 7001001 25) [.l (.st 13)] 4 (fun x K v=>qc x.1 x.2.1 x.2.2.1 x.2.2.2.1 x.2.2.2.2.1 x.2.2.2.2.2.1 x.2.2.2.2.2.2.1 x.2.2.2.2.2.2.2.1 x.2.2.2.2.2.2.2.2.1 x.2.2.2.2.2.2.2.2.2.1 x.2.2.2.2.2.2.2.2.2.2.1 x.2.2.2.2.2.2.2.2.2.2.2.1 x.2.2.2.2.2.2.2.2.2.2.2.2.1 x.2.2.2.2.2.2.2.2.2.2.2.2.2.1 x.2.2.2.2.2.2.2.2.2.2.2.2.2.2.1 x.2.2.2.2.2.2.2.2.2.2.2.2.2.2.2.1 x.2.2.2.2.2.2.2.2.2.2.2.2.2.2.2.2.1 x.2.2.2.2.2.2.2.2.2.2.2.2.2.2.2.2.2.1 x.2.2.2.2.2.2.2.2.2.2.2.2.2.2.2.2.2.2.1 x.2.2.2.2.2.2.2.2.2.2.2.2.2.2.2.2.2.2.2.1 x.2.2.2.2.2.2.2.2.2.2.2.2.2.2.2.2.2.2.2.2.1 x.2.2.2.2.2.2.2.2.2.2.2.2.2.2.2.2.2.2.2.2.2.1 x.2.2.2.2.2.2.2.2.2.2.2.2.2.2.2.2.2.2.2.2.2.2.1 x.2.2.2.2.2.2.2.2.2.2.2.2.2.2.2.2.2.2.2.2.2.2.2.1 x.2.2.2.2.2.2.2.2.2.2.2.2.2.2.2.2.2.2.2.2.2.2.2.2 K v) (.s .n (.s .n (.s (.j ⟨[(2,.ptr 1000002 0),(3,.ptr 1000003 0),(5,.row 30 7001001),(12,.ptr 1000012 0),(13,.ptr 1000013 0),(68,.d (.l (.st 3)) 0),(69,.d (.i .i64) 1),(70,.d (.i .i64) 2),(82,.d (.l (.st 2)) 3),(83,.d (.i .i64) 4),(84,.d (.i .i64) 5)],(h79 6 7 8 9 10 11 12 13 14 15 16 17 18 19 20 21 22 23 24 25),k81,[.l (.st 13)]⟩ false (.s (.s .n (.s .n (.s (.j ⟨[(2,.ptr 1000002 0),(3,.ptr 1000003 0),(5,.row 30 7001001),(12,.ptr 1000012 0),(13,.ptr 1000013 0),(16,.ptr 1000016 0),(68,.d (.l (.st 3)) 0),(69,.d (.i .i64) 1),(70,.d (.i .i64) 2),(82,.d (.l (.st 2)) 3),(83,.d (.i .i64) 4),(84,.d (.i .i64) 5),(103,.d .b 29)],[(1000002,.box 30 [.d (.l (.st 1)) 6,.d (.l (.st 3)) 7,.d (.l (.st 5)) 8,.d (.l (.st 7)) 9,.d (.l (.st 8)) 10,.d (.l (.st 10)) 11,.d (.l (.st 9)) 12,.d (.i .i64) 13]),(1000003,.box 30 [.d (.l (.st 1)) 14,.d (.l (.st 3)) 0,.d (.l (.st 5)) 15,.d (.l (.st 7)) 16,.d (.l (.st 8)) 17,.d (.l (.st 10)) 18,.d (.l (.st 9)) 19,.d (.i .i64) 20]),(7001001,.row 42 (.st 13) 21 false),(1000012,.box 70 [.d .s 22,.d (.l (.st 2)) 3,.d (.i .i64) 23]),(1000013,.box 70 [.d .s 24,.d (.l (.st 2)) 25,.d (.i .i64) 26]),(1000016,.box 86 [.d .s 27,.d (.i .i64) 28])],k82,[.b]⟩ false .n) .n))) .n)) .n)))) .n)))) .n) .n)))) .n)) (.s (.s .n (.s (.l ⟨[(2,.ptr 1000002 0),(3,.ptr 1000003 0),(5,.row 30 7001001),(117,.d (.l (.st 5)) 0),(118,.d (.i .i64) 1),(119,.d (.i .i64) 17)],(h77 2 3 4 5 6 7 8 9 10 11 0 12 13 14 15 16 7001001 18),[.l (.st 5),.i .i64,.l (.st 1),.l (.st 3),.l (.st 5),.l (.st 7),.l (.st 8),.l (.st 10),.l (.st 9),.i .i64,.l (.st 1),.l (.st 3),.l (.st 7),.l (.st 8),.l (.st 10),.l (.st 9),.i .i64],[.i .i64,.l (.st 13)]⟩ [(2,.ptr 1000002 0),(3,.ptr 1000003 0),(5,.row 30 7001001)] (h77 2 3 4 5 6 7 8 9 10 11 0 12 13 14 15 16 7001001 17) [.l (.st 13)] 6 (fun x K v=>qe x.1 x.2.1 x.2.2.1 x.2.2.2.1 x.2.2.2.2.1 x.2.2.2.2.2.1 x.2.2.2.2.2.2.1 x.2.2.2.2.2.2.2.1 x.2.2.2.2.2.2.2.2.1 x.2.2.2.2.2.2.2.2.2.1 x.2.2.2.2.2.2.2.2.2.2.1 x.2.2.2.2.2.2.2.2.2.2.2.1 x.2.2.2.2.2.2.2.2.2.2.2.2.1 x.2.2.2.2.2.2.2.2.2.2.2.2.2.1 x.2.2.2.2.2.2.2.2.2.2.2.2.2.2.1 x.2.2.2.2.2.2.2.2.2.2.2.2.2.2.2.1 x.2.2.2.2.2.2.2.2.2.2.2.2.2.2.2.2 K v) (.s .n (.s .n (.s (.j ⟨[(2,.ptr 1000002 0),(3,.ptr 1000003 0),(5,.row 30 7001001),(117,.d (.l (.st 5)) 0),(118,.d (.i .i64) 1),(119,.d (.i .i64) 2)],(h77 3 4 5 6 7 8 9 10 11 12 0 13 14 15 16 17 7001001 18),[.l (.st 5),.i .i64,.i .i64,.l (.st 1),.l (.st 3),.l (.st 5),.l (.st 7),.l (.st 8),.l (.st 10),.l (.st 9),.i .i64,.l (.st 1),.l (.st 3),.l (.st 7),.l (.st 8),.l (.st 10),.l (.st 9),.i .i64],[.l (.st 13)]⟩ false (.s (.s .n (.s .n (.s (.j ⟨[(2,.ptr 1000002 0),(3,.ptr 1000003 0),(5,.row 30 7001001),(20,.ptr 1000020 0),(117,.d (.l (.st 5)) 0),(118,.d (.i .i64) 1),(119,.d (.i .i64) 2),(139,.d .b 22)],[(1000002,.box 30 [.d (.l (.st 1)) 3,.d (.l (.st 3)) 4,.d (.l (.st 5)) 5,.d (.l (.st 7)) 6,.d (.l (.st 8)) 7,.d (.l (.st 10)) 8,.d (.l (.st 9)) 9,.d (.i .i64) 10]),(1000003,.box 30 [.d (.l (.st 1)) 11,.d (.l (.st 3)) 12,.d (.l (.st 5)) 0,.d (.l (.st 7)) 13,.d (.l (.st 8)) 14,.d (.l (.st 10)) 15,.d (.l (.st 9)) 16,.d (.i .i64) 17]),(7001001,.row 42 (.st 13) 18 false),(1000020,.box 72 [.d .s 19,.d .b 20,.d (.l (.st 4)) 21])],[.l (.st 5),.i .i64,.i .i64,.l (.st 1),.l (.st 3),.l (.st 5),.l (.st 7),.l (.st 8),.l (.st 10),.l (.st 9),.i .i64,.l (.st 1),.l (.st 3),.l (.st 7),.l (.st 8),.l (.st 10),.l (.st 9),.i .i64,.l (.st 13),.s,.b,.l (.st 4)],[.b]⟩ false .n) .n))) .n)) .n)))) .n)) (.s (.s .n (.s (.l ⟨[(2,.ptr 1000002 0),(3,.ptr 1000003 0),(5,.row 30 7001001),(149,.d (.l (.st 7)) 0),(150,.d (.i .i64) 1),(151,.d (.i .i64) 17)],(h77 2 3 4 5 6 7 8 9 10 11 12 0 13 14 15 16 7001001 18),[.l (.st 7),.i .i64,.l (.st 1),.l (.st 3),.l (.st 5),.l (.st 7),.l (.st 8),.l (.st 10),.l (.st 9),.i .i64,.l (.st 1),.l (.st 3),.l (.st 5),.l (.st 8),.l (.st 10),.l (.st 9),.i .i64],[.i .i64,.l (.st 13)]⟩ [(2,.ptr 1000002 0),(3,.ptr 1000003 0),(5,.row 30 7001001)] (h77 2 3 4 5 6 7 8 9 10 11 12 0 13 14 15 16 7001001 17) [.l (.st 13)] 8 (fun x K v=>qf x.1 x.2.1 x.2.2.1 x.2.2.2.1 x.2.2.2.2.1 x.2.2.2.2.2.1 x.2.2.2.2.2.2.1 x.2.2.2.2.2.2.2.1 x.2.2.2.2.2.2.2.2.1 x.2.2.2.2.2.2.2.2.2.1 x.2.2.2.2.2.2.2.2.2.2.1 x.2.2.2.2.2.2.2.2.2.2.2.1 x.2.2.2.2.2.2.2.2.2.2.2.2.1 x.2.2.2.2.2.2.2.2.2.2.2.2.2.1 x.2.2.2.2.2.2.2.2.2.2.2.2.2.2.1 x.2.2.2.2.2.2.2.2.2.2.2.2.2.2.2.1 x.2.2.2.2.2.2.2.2.2.2.2.2.2.2.2.2 K v) (.s .n (.s .n (.s (.j ⟨[(2,.ptr 1000002 0),(3,.ptr 1000003 0),(5,.row 30 7001001),(149,.d (.l (.st 7)) 0),(150,.d (.i .i64) 1),(151,.d (.i .i64) 2)],(h77 3 4 5 6 7 8 9 10 11 12 13 0 14 15 16 17 7001001 18),[.l (.st 7),.i .i64,.i .i64,.l (.st 1),.l (.st 3),.l (.st 5),.l (.st 7),.l (.st 8),.l (.st 10),.l (.st 9),.i .i64,.l (.st 1),.l (.st 3),.l (.st 5),.l (.st 8),.l (.st 10),.l (.st 9),.i .i64],[.l (.st 13)]⟩ false .n) .n)))) .n)) (.s (.s .n (.s (.l ⟨[(2,.ptr 1000002 0),(5,.row 30 7001001),(186,.d (.l (.st 8)) 0),(187,.d (.i .i64) 1),(188,.d (.i .i64) 10)],(h83 2 3 4 5 6 7 8 9),[.l (.st 8),.i .i64,.l (.st 1),.l (.st 3),.l (.st 5),.l (.st 7),.l (.st 8),.l (.st 10),.l (.st 9),.i .i64],[.i .i64,.l (.st 13)]⟩ [(5,.row 30 7001001)] (h4 7001001 42 13 10) [.l (.st 13)] 11 (fun x K v=>qg x.1 x.2.1 x.2.2.1 x.2.2.2.1 x.2.2.2.2.1 x.2.2.2.2.2.1 x.2.2.2.2.2.2.1 x.2.2.2.2.2.2.2.1 x.2.2.2.2.2.2.2.2.1 x.2.2.2.2.2.2.2.2.2 K v) (.s .n (.s .n (.s (.j ⟨[(2,.ptr 1000002 0),(5,.row 30 7001001),(186,.d (.l (.st 8)) 0),(187,.d (.i .i64) 1),(188,.d (.i .i64) 2)],(h83 3 4 5 6 7 8 9 10),[.l (.st 8),.i .i64,.i .i64,.l (.st 1),.l (.st 3),.l (.st 5),.l (.st 7),.l (.st 8),.l (.st 10),.l (.st 9),.i .i64],[.l (.st 13)]⟩ false (.s (.s .n (.s .n (.s (.j ⟨[(2,.ptr 1000002 0),(5,.row 30 7001001),(28,.ptr 1000028 0),(186,.d (.l (.st 8)) 0),(187,.d (.i .i64) 1),(188,.d (.i .i64) 2),(206,.d .b 16)],[(1000002,.box 30 [.d (.l (.st 1)) 3,.d (.l (.st 3)) 4,.d (.l (.st 5)) 5,.d (.l (.st 7)) 6,.d (.l (.st 8)) 7,.d (.l (.st 10)) 8,.d (.l (.st 9)) 9,.d (.i .i64) 10]),(7001001,.row 42 (.st 13) 11 false),(1000028,.box 75 [.d .s 12,.d (.i .i64) 13,.d (.i .i64) 14,.d (.l (.st 4)) 15])],[.l (.st 8),.i .i64,.i .i64,.l (.st 1),.l (.st 3),.l (.st 5),.l (.st 7),.l (.st 8),.l (.st 10),.l (.st 9),.i .i64,.l (.st 13),.s,.i .i64,.i .i64,.l (.st 4)],[.b]⟩ false .n) .n))) .n)) .n)))) .n)) .n))))))) Tryz.func57 rfl hbv57 ⟨zpq,VA,zf6,zf7,zf8,xF,zc0,zf9,zga,trivial⟩ fun x=>by kernel_rfl
def VN:Ct TS:=⟨[.d (.st 12) 0,.d (.l (.st 13)) 1],h2,[.st 12,.l (.st 13)],.tup [.ag [.d (.l (.st 1)) 3,.d (.l (.st 3)) 4,.d (.l (.st 5)) 5,.d (.l (.st 7)) 6,.d (.l (.st 8)) 7,.d (.l (.st 10)) 8,.d (.l (.st 9)) 9,.d (.i .i64) 10],.d (.i .i64) 2],(h20 7000001 3 4 5 6 7 8 9 10),k64,false,fun x=>qz x.1 x.2⟩
theorem YD:za Tryz.prog 12∧VN.OK Tryz.prog 12:=ctg (cd:=cdT) (nb:=nbT) (rc:=[(4,7000001,0)]) (T:=[(28,Kl),(10,zf5),(34,ZR)]) (h:=.s .n (.s .n (.s .n (.s (.s .n (.s (.lr ⟨[(2,.ptr 1000002 0),(4,.ptr 1000004 0),(13,.d (.l (.st 13)) 0),(14,.d (.i .i64) 1),(15,.d (.i .i64) 10)],(h84 11 12 13 14 15 16 17 18 1000004 2 3 4 5 6 7 8 9),[.l (.st 13),.i .i64,.l (.st 1),.l (.st 3),.l (.st 5),.l (.st 7),.l (.st 8),.l (.st 10),.l (.st 9),.i .i64],k64⟩ [(2,.ptr 1000002 0),(4,.ptr 1000004 0)] (h84 10 11 12 13 14 15 16 17 1000004 2 3 4 5 6 7 8 9) k1 0 (fun x K v=>xu x.1 x.2.1 x.2.2.1 x.2.2.2.1 x.2.2.2.2.1 x.2.2.2.2.2.1 x.2.2.2.2.2.2.1 x.2.2.2.2.2.2.2.1 x.2.2.2.2.2.2.2.2.1 x.2.2.2.2.2.2.2.2.2 K v) .n) .n)) .n)))) Tryz.func12 rfl hbv12 ⟨JA,zin,ZS,trivial⟩ fun x=>by kernel_rfl
def ziq:Ct TS:=⟨[.d (.st 12) 0,.d (.st 12) 1],h2,[.st 12,.st 12],.tup [.d (.l (.st 13)) 2,.d (.i .i64) 3],h2,[.l (.st 13),.i .i64],false,fun x=>zh4 x.1 x.2⟩
theorem zpr:za Tryz.prog 15∧ziq.OK Tryz.prog 15:=ctk (T:=[(28,Kl),(34,ZR),(57,VM),(12,VN),(14,zil)]) (h:=.s .n (.s (.s (.j ⟨[(2,.ptr 1000002 0),(3,.ptr 1000003 0),(16,.d .b 16)],(h84 0 1 2 3 4 5 6 7 1000003 8 9 10 11 12 13 14 15),k26,[.b]⟩ false .n) .n) (.s .n (.s (.s .n (.s (.j ⟨[(6,.d (.l (.st 13)) 0),(34,.d .b 1)],h2,[.l (.st 13)],[.b]⟩ false .n) .n)) .n)))) Tryz.func15 rfl hbv15 ⟨JA,ZS,zdm,YD,zf3,trivial⟩ fun x=>by kernel_rfl
def AI:Ct TS:=⟨[.d (.l (.st 9)) 0,.d (.l (.st 9)) 1],[],[.l (.st 9),.l (.st 9)],.d .b 2,[],[.b],false,fun x=>qh x.1 x.2⟩
theorem VO:za Tryz.prog 165∧AI.OK Tryz.prog 165:=ctk (T:=[]) (h:=.s .n (.s .n (.s (.s .n (.s (.lr ⟨[(0,.d (.l (.st 9)) 0),(1,.d (.l (.st 9)) 1),(5,.d (.i .i64) 2)],[],[.l (.st 9),.l (.st 9)],[.i .i64]⟩ [] [] [] 0 (fun x K v=>vi x.1 x.2 K v) .n) .n)) .n))) Tryz.func165 rfl zDd trivial fun x=>by kernel_rfl
def xv(RK:Nat):Ct TS:=⟨[.d (.st 0) 0,.d (.st 0) 1],[],[.st 0,.st 0],.d .b 2,[],[.b],false,fun x=>wy RK x.1 x.2⟩
theorem AJ:∀RK,(xv RK).OK Tryz.prog 83
 |0=>(fun x r h=>nomatch (show(none:Option _)=some r from h))
 |RK+1=>(ctk (c:=xv (RK+1)) (T:=[(83,xv RK)]) (h:=.s .n (.s (.s (.j ⟨[(2,.ptr 1000002 0),(3,.ptr 1000003 0),(40,.d .b 10)],h85,k86,[.b]⟩ false .n) .n) (.s (.s .n (.s (.lr ⟨[(2,.ptr 1000002 0),(3,.ptr 1000003 0),(5,.d (.i .i64) 10)],h85,k86,[.i .i64]⟩ [] [] [] 0 (fun x K v=>ku (wy RK) x.1 x.2.1 x.2.2.1 x.2.2.2.1 x.2.2.2.2.1 x.2.2.2.2.2.1 x.2.2.2.2.2.2.1 x.2.2.2.2.2.2.2.1 x.2.2.2.2.2.2.2.2.1 x.2.2.2.2.2.2.2.2.2 K v) .n) .n)) .n))) Tryz.func83 rfl zyc ⟨⟨zyc,(AJ RK)⟩,trivial⟩ fun x=>by kernel_rfl).2
theorem ur(RK:Nat):za Tryz.prog 83∧(xv RK).OK Tryz.prog 83:=⟨zyc,(AJ RK)⟩
def oP:Ct TS:=⟨[.d (.l (.st 2)) 0,.d (.l (.st 2)) 1],[],[.l (.st 2),.l (.st 2)],.d .b 2,[],[.b],false,fun x=>oz x.1 x.2⟩
theorem K1:za Tryz.prog 166∧oP.OK Tryz.prog 166:=ctk (T:=[]) (h:=.s .n (.s .n (.s (.s .n (.s (.lr ⟨[(0,.d (.l (.st 2)) 0),(1,.d (.l (.st 2)) 1),(5,.d (.i .i64) 2)],[],[.l (.st 2),.l (.st 2)],[.i .i64]⟩ [] [] [] 0 (fun x K v=>wL x.1 x.2 K v) .n) .n)) .n))) Tryz.func166 rfl zDe trivial fun x=>by kernel_rfl
def AK:Ct TS:=⟨[.d (.l (.st 4)) 0,.d (.l (.st 4)) 1],[],[.l (.st 4),.l (.st 4)],.d .b 2,[],[.b],false,fun x=>qi x.1 x.2⟩
theorem VP:za Tryz.prog 167∧AK.OK Tryz.prog 167:=ctk (T:=[]) (h:=.s .n (.s .n (.s (.s .n (.s (.lr ⟨[(0,.d (.l (.st 4)) 0),(1,.d (.l (.st 4)) 1),(5,.d (.i .i64) 2)],[],[.l (.st 4),.l (.st 4)],[.i .i64]⟩ [] [] [] 0 (fun x K v=>vj x.1 x.2 K v) .n) .n)) .n))) Tryz.func167 rfl zDf trivial fun x=>by kernel_rfl
def JO:Ct TS:=⟨[.d (.l (.s)) 0,.d (.l (.s)) 1],[],[.l (.s),.l (.s)],.d .b 2,[],[.b],false,fun x=>uj x.1 x.2⟩
theorem Wz:za Tryz.prog 216∧JO.OK Tryz.prog 216:=ctk (T:=[]) (h:=.s .n (.s .n (.s (.s .n (.s (.lr ⟨[(0,.d (.l (.s)) 0),(1,.d (.l (.s)) 1),(5,.d (.i .i64) 2)],[],[.l (.s),.l (.s)],[.i .i64]⟩ [] [] [] 0 (fun x K v=>vW x.1 x.2 K v) .n) .n)) .n))) Tryz.func216 rfl zDg trivial fun x=>by kernel_rfl
def KT:Ct TS:=⟨[.d (.st 7) 0,.d (.st 7) 1],[],[.st 7,.st 7],.d .b 2,[],[.b],false,fun x=>KN x.1 x.2⟩
theorem ZT:za Tryz.prog 168∧KT.OK Tryz.prog 168:=ctk (T:=[(216,JO),(83,xv KK)]) (h:=.s .n (.s (.j ⟨[(2,.ptr 1000002 0),(3,.ptr 1000003 0),(5,.d .b 40)],(h17 1000002 0 1 2 3 4 5 6 7 8 9 10 11 12 13 14 15 16 17 18 19 1000003 20 21 22 23 24 25 26 27 28 29 30 31 32 33 34 35 36 37 38 39),k18,[.b]⟩ false .n) (.s (.j ⟨[(2,.ptr 1000002 0),(3,.ptr 1000003 0),(5,.d .b 0),(6,.d .b 41)],(h17 1000002 1 2 3 4 5 6 7 8 9 10 11 12 13 14 15 16 17 18 19 20 1000003 21 22 23 24 25 26 27 28 29 30 31 32 33 34 35 36 37 38 39 40),k87,[.b]⟩ false .n) .n))) Tryz.func168 rfl zDh ⟨Wz,(ur KK),trivial⟩ fun x=>by kernel_rfl
def zir:Ct TS:=⟨[.d (.st 12) 0,.d (.st 12) 1],[],[.st 12,.st 12],.d .b 2,[],[.b],false,fun x=>zh5 x.1 x.2⟩
theorem zps:za Tryz.prog 59∧zir.OK Tryz.prog 59:=ctk (T:=[(165,AI),(83,xv KK),(166,oP),(167,AK),(168,KT)]) (h:=.s .n (.s (.s (.j ⟨[(2,.ptr 1000002 0),(3,.ptr 1000003 0),(77,.d .b 16)],(h25 0 1 2 3 4 5 6 7 1000003 8 9 10 11 12 13 14 15),k26,[.b]⟩ false .n) .n) (.s (.s .n (.s (.lr ⟨[(2,.ptr 1000002 0),(3,.ptr 1000003 0),(5,.d (.i .i64) 16)],(h25 0 1 2 3 4 5 6 7 1000003 8 9 10 11 12 13 14 15),k26,[.i .i64]⟩ [(2,.ptr 1000002 0),(3,.ptr 1000003 0)] (h25 0 1 2 3 4 5 6 7 1000003 8 9 10 11 12 13 14 15) [] 0 (fun x K v=>Hi x.1 x.2.1 x.2.2.1 x.2.2.2.1 x.2.2.2.2.1 x.2.2.2.2.2.1 x.2.2.2.2.2.2.1 x.2.2.2.2.2.2.2.1 x.2.2.2.2.2.2.2.2.1 x.2.2.2.2.2.2.2.2.2.1 x.2.2.2.2.2.2.2.2.2.2.1 x.2.2.2.2.2.2.2.2.2.2.2.1 x.2.2.2.2.2.2.2.2.2.2.2.2.1 x.2.2.2.2.2.2.2.2.2.2.2.2.2.1 x.2.2.2.2.2.2.2.2.2.2.2.2.2.2.1 x.2.2.2.2.2.2.2.2.2.2.2.2.2.2.2 K v) (.s .n (.s (.s (.s (.j ⟨[(2,.ptr 1000002 0),(3,.ptr 1000003 0),(5,.d (.i .i64) 0),(113,.d .b 17)],(h25 1 2 3 4 5 6 7 8 1000003 9 10 11 12 13 14 15 16),k88,[.b]⟩ false .n) .n) .n) .n))) .n)) (.s (.s .n (.s (.lr ⟨[(2,.ptr 1000002 0),(3,.ptr 1000003 0),(6,.d (.i .i64) 16)],(h25 0 1 2 3 4 5 6 7 1000003 8 9 10 11 12 13 14 15),k26,[.i .i64]⟩ [(2,.ptr 1000002 0),(3,.ptr 1000003 0)] (h25 0 1 2 3 4 5 6 7 1000003 8 9 10 11 12 13 14 15) [] 2 (fun x K v=>Hj x.1 x.2.1 x.2.2.1 x.2.2.2.1 x.2.2.2.2.1 x.2.2.2.2.2.1 x.2.2.2.2.2.2.1 x.2.2.2.2.2.2.2.1 x.2.2.2.2.2.2.2.2.1 x.2.2.2.2.2.2.2.2.2.1 x.2.2.2.2.2.2.2.2.2.2.1 x.2.2.2.2.2.2.2.2.2.2.2.1 x.2.2.2.2.2.2.2.2.2.2.2.2.1 x.2.2.2.2.2.2.2.2.2.2.2.2.2.1 x.2.2.2.2.2.2.2.2.2.2.2.2.2.2.1 x.2.2.2.2.2.2.2.2.2.2.2.2.2.2.2 K v) (.s .n (.s (.s (.s (.j ⟨[(2,.ptr 1000002 0),(3,.ptr 1000003 0),(6,.d (.i .i64) 0),(164,.d .b 17)],(h25 1 2 3 4 5 6 7 8 1000003 9 10 11 12 13 14 15 16),k88,[.b]⟩ false .n) .n) .n) .n))) .n)) (.s (.s .n (.s (.lr ⟨[(2,.ptr 1000002 0),(3,.ptr 1000003 0),(7,.d (.i .i64) 16)],(h25 0 1 2 3 4 5 6 7 1000003 8 9 10 11 12 13 14 15),k26,[.i .i64]⟩ [(2,.ptr 1000002 0),(3,.ptr 1000003 0)] (h25 0 1 2 3 4 5 6 7 1000003 8 9 10 11 12 13 14 15) [] 4 (fun x K v=>Hk x.1 x.2.1 x.2.2.1 x.2.2.2.1 x.2.2.2.2.1 x.2.2.2.2.2.1 x.2.2.2.2.2.2.1 x.2.2.2.2.2.2.2.1 x.2.2.2.2.2.2.2.2.1 x.2.2.2.2.2.2.2.2.2.1 x.2.2.2.2.2.2.2.2.2.2.1 x.2.2.2.2.2.2.2.2.2.2.2.1 x.2.2.2.2.2.2.2.2.2.2.2.2.1 x.2.2.2.2.2.2.2.2.2.2.2.2.2.1 x.2.2.2.2.2.2.2.2.2.2.2.2.2.2.1 x.2.2.2.2.2.2.2.2.2.2.2.2.2.2.2 K v) (.s .n (.s (.s (.s (.j ⟨[(2,.ptr 1000002 0),(3,.ptr 1000003 0),(7,.d (.i .i64) 0),(215,.d .b 17)],(h25 1 2 3 4 5 6 7 8 1000003 9 10 11 12 13 14 15 16),k88,[.b]⟩ false .n) .n) .n) .n))) .n)) (.s (.s .n (.s (.lr ⟨[(2,.ptr 1000002 0),(3,.ptr 1000003 0),(8,.d (.i .i64) 16)],(h25 0 1 2 3 4 5 6 7 1000003 8 9 10 11 12 13 14 15),k26,[.i .i64]⟩ [(2,.ptr 1000002 0),(3,.ptr 1000003 0)] (h25 0 1 2 3 4 5 6 7 1000003 8 9 10 11 12 13 14 15) [] 6 (fun x K v=>Hl x.1 x.2.1 x.2.2.1 x.2.2.2.1 x.2.2.2.2.1 x.2.2.2.2.2.1 x.2.2.2.2.2.2.1 x.2.2.2.2.2.2.2.1 x.2.2.2.2.2.2.2.2.1 x.2.2.2.2.2.2.2.2.2.1 x.2.2.2.2.2.2.2.2.2.2.1 x.2.2.2.2.2.2.2.2.2.2.2.1 x.2.2.2.2.2.2.2.2.2.2.2.2.1 x.2.2.2.2.2.2.2.2.2.2.2.2.2.1 x.2.2.2.2.2.2.2.2.2.2.2.2.2.2.1 x.2.2.2.2.2.2.2.2.2.2.2.2.2.2.2 K v) .n) .n)) (.s (.s .n (.s (.lr ⟨[(2,.ptr 1000002 0),(3,.ptr 1000003 0),(9,.d (.i .i64) 16)],(h25 0 1 2 3 4 5 6 7 1000003 8 9 10 11 12 13 14 15),k26,[.i .i64]⟩ [(2,.ptr 1000002 0),(3,.ptr 1000003 0)] (h25 0 1 2 3 4 5 6 7 1000003 8 9 10 11 12 13 14 15) [] 8 (fun x K v=>Hm x.1 x.2.1 x.2.2.1 x.2.2.2.1 x.2.2.2.2.1 x.2.2.2.2.2.1 x.2.2.2.2.2.2.1 x.2.2.2.2.2.2.2.1 x.2.2.2.2.2.2.2.2.1 x.2.2.2.2.2.2.2.2.2.1 x.2.2.2.2.2.2.2.2.2.2.1 x.2.2.2.2.2.2.2.2.2.2.2.1 x.2.2.2.2.2.2.2.2.2.2.2.2.1 x.2.2.2.2.2.2.2.2.2.2.2.2.2.1 x.2.2.2.2.2.2.2.2.2.2.2.2.2.2.1 x.2.2.2.2.2.2.2.2.2.2.2.2.2.2.2 K v) (.s .n (.s (.s (.s (.j ⟨[(2,.ptr 1000002 0),(3,.ptr 1000003 0),(9,.d (.i .i64) 0),(300,.d .b 17)],(h25 1 2 3 4 5 6 7 8 1000003 9 10 11 12 13 14 15 16),k88,[.b]⟩ false .n) .n) .n) .n))) .n)) (.s (.s .n (.s (.lr ⟨[(2,.ptr 1000002 0),(3,.ptr 1000003 0),(10,.d (.i .i64) 16)],(h25 0 1 2 3 4 5 6 7 1000003 8 9 10 11 12 13 14 15),k26,[.i .i64]⟩ [] [] [] 10 (fun x K v=>Hn x.1 x.2.1 x.2.2.1 x.2.2.2.1 x.2.2.2.2.1 x.2.2.2.2.2.1 x.2.2.2.2.2.2.1 x.2.2.2.2.2.2.2.1 x.2.2.2.2.2.2.2.2.1 x.2.2.2.2.2.2.2.2.2.1 x.2.2.2.2.2.2.2.2.2.2.1 x.2.2.2.2.2.2.2.2.2.2.2.1 x.2.2.2.2.2.2.2.2.2.2.2.2.1 x.2.2.2.2.2.2.2.2.2.2.2.2.2.1 x.2.2.2.2.2.2.2.2.2.2.2.2.2.2.1 x.2.2.2.2.2.2.2.2.2.2.2.2.2.2.2 K v) (.s .n (.s (.s (.s (.j ⟨[(2,.ptr 1000002 0),(3,.ptr 1000003 0),(10,.d (.i .i64) 0),(366,.d .b 17)],(h25 1 2 3 4 5 6 7 8 1000003 9 10 11 12 13 14 15 16),k88,[.b]⟩ false .n) .n) .n) .n))) .n)) .n)))))))) Tryz.func59 rfl hbv59 ⟨VO,(ur KK),K1,VP,ZT,trivial⟩ fun x=>by kernel_rfl
def zis:Ct TS:=⟨[.d (.st 13) 0,.d (.st 13) 1],[],[.st 13,.st 13],.d .b 2,[],[.b],false,fun x=>Qp x.1 x.2⟩
theorem zpt:za Tryz.prog 27∧zis.OK Tryz.prog 27:=ctk (T:=[(59,zir),(83,xv KK)]) (h:=.s .n (.s (.s (.j ⟨[(2,.ptr 1000002 0),(3,.ptr 1000003 0),(42,.d .b 60)],(h24 2 3 4 5 6 7 8 9 10 11 12 13 14 15 16 17 18 19 20 21 22 23 24 25 26 27 28 29 1000003 30 31 32 33 34 35 36 37 38 39 40 41 42 43 44 45 46 47 48 49 50 51 52 53 54 55 56 57 58 59),k27,[.b]⟩ false .n) .n) (.s (.s .n (.s (.lr ⟨[(2,.ptr 1000002 0),(3,.ptr 1000003 0),(5,.d (.i .i64) 60)],(h24 2 3 4 5 6 7 8 9 10 11 12 13 14 15 16 17 18 19 20 21 22 23 24 25 26 27 28 29 1000003 30 31 32 33 34 35 36 37 38 39 40 41 42 43 44 45 46 47 48 49 50 51 52 53 54 55 56 57 58 59),k27,[.i .i64]⟩ [(2,.ptr 1000002 0),(3,.ptr 1000003 0)] (h24 2 3 4 5 6 7 8 9 10 11 12 13 14 15 16 17 18 19 20 21 22 23 24 25 26 27 28 29 1000003 30 31 32 33 34 35 36 37 38 39 40 41 42 43 44 45 46 47 48 49 50 51 52 53 54 55 56 57 58 59) [] 0 (fun x K v=>Ho x.1 x.2.1 x.2.2.1 x.2.2.2.1 x.2.2.2.2.1 x.2.2.2.2.2.1 x.2.2.2.2.2.2.1 x.2.2.2.2.2.2.2.1 x.2.2.2.2.2.2.2.2.1 x.2.2.2.2.2.2.2.2.2.1 x.2.2.2.2.2.2.2.2.2.2.1 x.2.2.2.2.2.2.2.2.2.2.2.1 x.2.2.2.2.2.2.2.2.2.2.2.2.1 x.2.2.2.2.2.2.2.2.2.2.2.2.2.1 x.2.2.2.2.2.2.2.2.2.2.2.2.2.2.1 x.2.2.2.2.2.2.2.2.2.2.2.2.2.2.2.1 x.2.2.2.2.2.2.2.2.2.2.2.2.2.2.2.2.1 x.2.2.2.2.2.2.2.2.2.2.2.2.2.2.2.2.2.1 x.2.2.2.2.2.2.2.2.2.2.2.2.2.2.2.2.2.2.1 x.2.2.2.2.2.2.2.2.2.2.2.2.2.2.2.2.2.2.2.1 x.2.2.2.2.2.2.2.2.2.2.2.2.2.2.2.2.2.2.2.2.1 x.2.2.2.2.2.2.2.2.2.2.2.2.2.2.2.2.2.2.2.2.2.1 x.2.2.2.2.2.2.2.2.2.2.2.2.2.2.2.2.2.2.2.2.2.2.1 x.2.2.2.2.2.2.2.2.2.2.2.2.2.2.2.2.2.2.2.2.2.2.2.1 x.2.2.2.2.2.2.2.2.2.2.2.2.2.2.2.2.2.2.2.2.2.2.2.2.1 x.2.2.2.2.2.2.2.2.2.2.2.2.2.2.2.2.2.2.2.2.2.2.2.2.2.1 x.2.2.2.2.2.2.2.2.2.2.2.2.2.2.2.2.2.2.2.2.2.2.2.2.2.2.1 x.2.2.2.2.2.2.2.2.2.2.2.2.2.2.2.2.2.2.2.2.2.2.2.2.2.2.2.1 x.2.2.2.2.2.2.2.2.2.2.2.2.2.2.2.2.2.2.2.2.2.2.2.2.2.2.2.2.1 x.2.2.2.2.2.2.2.2.2.2.2.2.2.2.2.2.2.2.2.2.2.2.2.2.2.2.2.2.2.1 x.2.2.2.2.2.2.2.2.2.2.2.2.2.2.2.2.2.2.2.2.2.2.2.2.2.2.2.2.2.2.1 x.2.2.2.2.2.2.2.2.2.2.2.2.2.2.2.2.2.2.2.2.2.2.2.2.2.2.2.2.2.2.2.1 x.2.2.2.2.2.2.2.2.2.2.2.2.2.2.2.2.2.2.2.2.2.2.2.2.2.2.2.2.2.2.2.2.1 x.2.2.2.2.2.2.2.2.2.2.2.2.2.2.2.2.2.2.2.2.2.2.2.2.2.2.2.2.2.2.2.2.2.1 x.2.2.2.2.2.2.2.2.2.2.2.2.2.2.2.2.2.2.2.2.2.2.2.2.2.2.2.2.2.2.2.2.2.2.1 x.2.2.2.2.2.2.2.2.2.2.2.2.2.2.2.2.2.2.2.2.2.2.2.2.2.2.2.2.2.2.2.2.2.2.2.1 x.2.2.2.2.2.2.2.2.2.2.2.2.2.2.2.2.2.2.2.2.2.2.2.2.2.2.2.2.2.2.2.2.2.2.2.2.1 x.2.2.2.2.2.2.2.2.2.2.2.2.2.2.2.2.2.2.2.2.2.2.2.2.2.2.2.2.2.2.2.2.2.2.2.2.2.1 x.2.2.2.2.2.2.2.2.2.2.2.2.2.2.2.2.2.2.2.2.2.2.2.2.2.2.2.2.2.2.2.2.2.2.2.2.2.2.1 x.2.2.2.2.2.2.2.2.2.2.2.2.2.2.2.2.2.2.2.2.2.2.2.2.2.2.2.2.2.2.2.2.2.2.2.2.2.2.2.1 x.2.2.2.2.2.2.2.2.2.2.2.2.2.2.2.2.2.2.2.2.2.2.2.2.2.2.2.2.2.2.2.2.2.2.2.2.2.2.2.2.1 x.2.2.2.2.2.2.2.2.2.2.2.2.2.2.2.2.2.2.2.2.2.2.2.2.2.2.2.2.2.2.2.2.2.2.2.2.2.2.2.2.2.1 x.2.2.2.2.2.2.2.2.2.2.2.2.2.2.2.2.2.2.2.2.2.2.2.2.2.2.2.2.2.2.2.2.2.2.2.2.2.2.2.2.2.2.1 x.2.2.2.2.2.2.2.2.2.2.2.2.2.2.2.2.2.2.2.2.2.2.2.2.2.2.2.2.2.2.2.2.2.2.2.2.2.2.2.2.2.2.2.1 x.2.2.2.2.2.2.2.2.2.2.2.2.2.2.2.2.2.2.2.2.2.2.2.2.2.2.2.2.2.2.2.2.2.2.2.2.2.2.2.2.2.2.2.2.1 x.2.2.2.2.2.2.2.2.2.2.2.2.2.2.2.2.2.2.2.2.2.2.2.2.2.2.2.2.2.2.2.2.2.2.2.2.2.2.2.2.2.2.2.2.2.1 x.2.2.2.2.2.2.2.2.2.2.2.2.2.2.2.2.2.2.2.2.2.2.2.2.2.2.2.2.2.2.2.2.2.2.2.2.2.2.2.2.2.2.2.2.2.2.1 x.2.2.2.2.2.2.2.2.2.2.2.2.2.2.2.2.2.2.2.2.2.2.2.2.2.2.2.2.2.2.2.2.2.2.2.2.2.2.2.2.2.2.2.2.2.2.2.1 x.2.2.2.2.2.2.2.2.2.2.2.2.2.2.2.2.2.2.2.2.2.2.2.2.2.2.2.2.2.2.2.2.2.2.2.2.2.2.2.2.2.2.2.2.2.2.2.2.1 x.2.2.2.2.2.2.2.2.2.2.2.2.2.2.2.2.2.2.2.2.2.2.2.2.2.2.2.2.2.2.2.2.2.2.2.2.2.2.2.2.2.2.2.2.2.2.2.2.2.1 x.2.2.2.2.2.2.2.2.2.2.2.2.2.2.2.2.2.2.2.2.2.2.2.2.2.2.2.2.2.2.2.2.2.2.2.2.2.2.2.2.2.2.2.2.2.2.2.2.2.2.1 x.2.2.2.2.2.2.2.2.2.2.2.2.2.2.2.2.2.2.2.2.2.2.2.2.2.2.2.2.2.2.2.2.2.2.2.2.2.2.2.2.2.2.2.2.2.2.2.2.2.2.2.1 x.2.2.2.2.2.2.2.2.2.2.2.2.2.2.2.2.2.2.2.2.2.2.2.2.2.2.2.2.2.2.2.2.2.2.2.2.2.2.2.2.2.2.2.2.2.2.2.2.2.2.2.2.1 x.2.2.2.2.2.2.2.2.2.2.2.2.2.2.2.2.2.2.2.2.2.2.2.2.2.2.2.2.2.2.2.2.2.2.2.2.2.2.2.2.2.2.2.2.2.2.2.2.2.2.2.2.2.1 x.2.2.2.2.2.2.2.2.2.2.2.2.2.2.2.2.2.2.2.2.2.2.2.2.2.2.2.2.2.2.2.2.2.2.2.2.2.2.2.2.2.2.2.2.2.2.2.2.2.2.2.2.2.2.1 x.2.2.2.2.2.2.2.2.2.2.2.2.2.2.2.2.2.2.2.2.2.2.2.2.2.2.2.2.2.2.2.2.2.2.2.2.2.2.2.2.2.2.2.2.2.2.2.2.2.2.2.2.2.2.2.1 x.2.2.2.2.2.2.2.2.2.2.2.2.2.2.2.2.2.2.2.2.2.2.2.2.2.2.2.2.2.2.2.2.2.2.2.2.2.2.2.2.2.2.2.2.2.2.2.2.2.2.2.2.2.2.2.2.1 x.2.2.2.2.2.2.2.2.2.2.2.2.2.2.2.2.2.2.2.2.2.2.2.2.2.2.2.2.2.2.2.2.2.2.2.2.2.2.2.2.2.2.2.2.2.2.2.2.2.2.2.2.2.2.2.2.2.1 x.2.2.2.2.2.2.2.2.2.2.2.2.2.2.2.2.2.2.2.2.2.2.2.2.2.2.2.2.2.2.2.2.2.2.2.2.2.2.2.2.2.2.2.2.2.2.2.2.2.2.2.2.2.2.2.2.2.2.1 x.2.2.2.2.2.2.2.2.2.2.2.2.2.2.2.2.2.2.2.2.2.2.2.2.2.2.2.2.2.2.2.2.2.2.2.2.2.2.2.2.2.2.2.2.2.2.2.2.2.2.2.2.2.2.2.2.2.2.2 K v) .n) .n)) .n))) Tryz.func27 rfl hbv27 ⟨zps,(ur KK),trivial⟩ fun x=>by kernel_rfl
def zdn:Ct TS:=⟨[.d (.st 13) 0],h2,[.st 13],.ag [.d .s 1,.d .s 2,.d .s 3],[(900000000,.rw 1),(900000001,.rw 2),(900000002,.rw 3),(900000003,.rw 4),(7000001,.box 133 [.d .s 1,.d .s 2,.d .s 3])],[.s,.s,.s],false,fun x=>qA x⟩
theorem zk7:za Tryz.prog 82∧zdn.OK Tryz.prog 82:=ctg (cd:=cdT) (nb:=nbT) (rc:=[(2,7000001,0)]) (T:=[(177,zpk)]) (h:=.n) Tryz.func82 rfl hbv82 ⟨⟨zuq,zpl⟩,trivial⟩ fun x=>by kernel_rfl
def VQ:Ct TS:=⟨[.d (.st 13) 0,.d (.st 13) 1],h2,[.st 13,.st 13],.d .b 2,h2,[.b],false,fun x=>wM x.1 x.2⟩
theorem YE:za Tryz.prog 24∧VQ.OK Tryz.prog 24:=ctk (T:=[(22,kv),(82,zdn)]) (h:=.n) Tryz.func24 rfl hbv24 ⟨j5,zk7,trivial⟩ fun x=>by kernel_rfl
def VR:Ct TS:=⟨[],h2,[],.d .b 0,h2,[.b],false,fun _=>uk⟩
theorem zdo:za Tryz.prog 7∧VR.OK Tryz.prog 7:=ctg (cd:=cdL) (nb:=nbT) (rc:=[]) (T:=[(19,zcm),(17,zc3),(10,zf5),(30,zdl),(15,ziq),(27,zis),(22,kv),(24,VQ),(26,Qq)]) (h:=.s .n (.s .n (.s .n (.s .n (.s .n (.s .n (.s (.s (.j ⟨[(1,.d (.l (.st 13)) 0),(2,.d (.i .i64) 1),(3,.d .s 2),(4,.d (.i .i64) 3),(6,.d (.i .i64) 4),(8,.d (.i .i64) 5),(9,.d (.l (.st 13)) 6),(10,.d (.i .i64) 7),(55,.d .b 8)],h2,[.l (.st 13),.i .i64,.s,.i .i64,.i .i64,.i .i64,.l (.st 13),.i .i64],[.b]⟩ false .n) .n) (.s (.j ⟨[(1,.d (.l (.st 13)) 0),(9,.d (.l (.st 13)) 1),(11,.d .b 2)],h2,[.l (.st 13),.l (.st 13)],[.b]⟩ false .n) (.s (.j ⟨[(1,.d (.l (.st 13)) 0),(9,.d (.l (.st 13)) 1),(11,.d .b 2),(12,.d .b 3)],h2,[.l (.st 13),.l (.st 13),.b],[.b]⟩ false .n) .n))))))))) Tryz.func7 rfl hbv7 ⟨zko,zky,zin,zk6,zpr,zpt,j5,YE,VA,trivial⟩ fun x=>by kernel_rfl
def wi(RK:Nat):Ct TS:=⟨[.d (.st 0) 0,.d (.i .i64) 1,.d (.i .i64) 2],[],[.st 0,.i .i64,.i .i64],.d (.i .i64) 3,[],[.i .i64],false,fun x=>zL RK x.1 x.2.1 x.2.2⟩
theorem JP:∀RK,(wi RK).OK Tryz.prog 31
 |0=>(fun x r h=>nomatch (show(none:Option _)=some r from h))
 |RK+1=>(ctk (c:=wi (RK+1)) (T:=[(31,wi RK)]) (h:=.s .n (.s .n (.s .n (.s (.s .n (.s (.l ⟨[(1,.d (.i .i64) 0),(2,.d (.i .i64) 1),(3,.ptr 1000003 0),(7,.d (.i .i64) 7),(8,.d (.i .i64) 8)],(h67 1000003 2 3 4 5 6),[.i .i64,.i .i64,.i .i64,.i .i64,.s,.s,.l (.st 0)],[.i .i64,.i .i64]⟩ [(7,.d (.i .i64) 7)] [] [.i .i64] 0 (fun x K v=>xe (zL RK) x.1 x.2.1 x.2.2.1 x.2.2.2.1 x.2.2.2.2.1 x.2.2.2.2.2.1 x.2.2.2.2.2.2 K v) (.s (.s (.j ⟨[(1,.d (.i .i64) 0),(2,.d (.i .i64) 1),(3,.ptr 1000003 0),(7,.d (.i .i64) 2),(8,.d (.i .i64) 3),(22,.d .b 9)],(h67 1000003 4 5 6 7 8),[.i .i64,.i .i64,.i .i64,.i .i64,.i .i64,.i .i64,.s,.s,.l (.st 0)],[.b]⟩ false .n) .n) .n)) .n)) .n)))) Tryz.func31 rfl zyd ⟨⟨zyd,(JP RK)⟩,trivial⟩ fun x=>by kernel_rfl).2
theorem oQ(RK:Nat):za Tryz.prog 31∧(wi RK).OK Tryz.prog 31:=⟨zyd,(JP RK)⟩
def Kr:Ct TS:=⟨[.d (.st 7) 0],[],[.st 7],.d .b 1,[],[.b],false,fun x=>j3 x⟩
theorem VS:za Tryz.prog 32∧Kr.OK Tryz.prog 32:=ctk (T:=[(31,wi KK)]) (h:=.n) Tryz.func32 rfl hbv32 ⟨(oQ KK),trivial⟩ fun x=>by kernel_rfl
def YF:Ct TS:=⟨[.d (.st 12) 0],[],[.st 12],.d .b 1,[],[.b],false,fun x=>Am x⟩
theorem zgb:za Tryz.prog 8∧YF.OK Tryz.prog 8:=ctk (T:=[(31,wi KK),(32,Kr)]) (h:=.s .n (.s (.s (.j ⟨[(1,.ptr 1000001 0),(48,.d .b 8)],(h12 1000001 0 1 2 3 4 5 6 7),k1,[.b]⟩ false .n) .n) (.s (.s .n (.s (.lr ⟨[(1,.ptr 1000001 0),(3,.d (.i .i64) 8)],(h12 1000001 0 1 2 3 4 5 6 7),k1,[.i .i64]⟩ [(1,.ptr 1000001 0)] (h12 1000001 0 1 2 3 4 5 6 7) [] 0 (fun x K v=>wN x.1 x.2.1 x.2.2.1 x.2.2.2.1 x.2.2.2.2.1 x.2.2.2.2.2.1 x.2.2.2.2.2.2.1 x.2.2.2.2.2.2.2 K v) .n) .n)) (.s (.s .n (.s (.lr ⟨[(1,.ptr 1000001 0),(4,.d (.i .i64) 8)],(h12 1000001 0 1 2 3 4 5 6 7),k1,[.i .i64]⟩ [(1,.ptr 1000001 0)] (h12 1000001 0 1 2 3 4 5 6 7) [] 2 (fun x K v=>wO x.1 x.2.1 x.2.2.1 x.2.2.2.1 x.2.2.2.2.1 x.2.2.2.2.2.1 x.2.2.2.2.2.2.1 x.2.2.2.2.2.2.2 K v) .n) .n)) (.s (.s .n (.s (.lr ⟨[(1,.ptr 1000001 0),(5,.d (.i .i64) 8)],(h12 1000001 0 1 2 3 4 5 6 7),k1,[.i .i64]⟩ [(1,.ptr 1000001 0)] (h12 1000001 0 1 2 3 4 5 6 7) [] 4 (fun x K v=>wP x.1 x.2.1 x.2.2.1 x.2.2.2.1 x.2.2.2.2.1 x.2.2.2.2.2.1 x.2.2.2.2.2.2.1 x.2.2.2.2.2.2.2 K v) .n) .n)) (.s (.s .n (.s (.lr ⟨[(1,.ptr 1000001 0),(6,.d (.i .i64) 8)],(h12 1000001 0 1 2 3 4 5 6 7),k1,[.i .i64]⟩ [(1,.ptr 1000001 0)] (h12 1000001 0 1 2 3 4 5 6 7) [] 6 (fun x K v=>wQ x.1 x.2.1 x.2.2.1 x.2.2.2.1 x.2.2.2.2.1 x.2.2.2.2.2.1 x.2.2.2.2.2.2.1 x.2.2.2.2.2.2.2 K v) .n) .n)) (.s (.s .n (.s (.lr ⟨[(1,.ptr 1000001 0),(7,.d (.i .i64) 8)],(h12 1000001 0 1 2 3 4 5 6 7),k1,[.i .i64]⟩ [(1,.ptr 1000001 0)] (h12 1000001 0 1 2 3 4 5 6 7) [] 8 (fun x K v=>wR x.1 x.2.1 x.2.2.1 x.2.2.2.1 x.2.2.2.2.1 x.2.2.2.2.2.1 x.2.2.2.2.2.2.1 x.2.2.2.2.2.2.2 K v) .n) .n)) (.s (.s .n (.s (.lr ⟨[(1,.ptr 1000001 0),(8,.d (.i .i64) 8)],(h12 1000001 0 1 2 3 4 5 6 7),k1,[.i .i64]⟩ [] [] [] 10 (fun x K v=>wS x.1 x.2.1 x.2.2.1 x.2.2.2.1 x.2.2.2.2.1 x.2.2.2.2.2.1 x.2.2.2.2.2.2.1 x.2.2.2.2.2.2.2 K v) .n) .n)) .n)))))))) Tryz.func8 rfl hbv8 ⟨(oQ KK),VS,trivial⟩ fun x=>by kernel_rfl
def zdp:Ct TS:=⟨[.d (.l (.st 13)) 0],[],[.l (.st 13)],.d .b 1,[],[.b],false,fun x=>Jx x⟩
theorem zk8:za Tryz.prog 9∧zdp.OK Tryz.prog 9:=ctk (T:=[(32,Kr),(31,wi KK)]) (h:=.s .n (.s (.s .n (.s (.lr ⟨[(0,.d (.l (.st 13)) 0),(3,.d (.i .i64) 1)],[],[.l (.st 13)],[.i .i64]⟩ [(0,.d (.l (.st 13)) 0)] [] [] 0 (fun x K v=>wz x K v) (.s (.s (.j ⟨[(0,.d (.l (.st 13)) 0),(3,.d (.i .i64) 1),(11,.d .b 2)],[],[.l (.st 13),.i .i64],[.b]⟩ false .n) .n) (.s (.s (.s (.j ⟨[(0,.d (.l (.st 13)) 0),(3,.d (.i .i64) 1),(38,.d .b 2)],[],[.l (.st 13),.i .i64],[.b]⟩ false .n) .n) .n) .n))) .n)) .n)) Tryz.func9 rfl hbv9 ⟨VS,(oQ KK),trivial⟩ fun x=>by kernel_rfl
def YG:Ct TS:=⟨[.d (.st 12) 0],[],[.st 12],.d (.i .i64) 1,[],[.i .i64],false,fun x=>vk x⟩
theorem zgc:za Tryz.prog 29∧YG.OK Tryz.prog 29:=ctk (T:=[]) (h:=.s .n (.s .n (.s (.s .n (.s (.l ⟨[(1,.ptr 1000001 0),(3,.d (.i .i64) 8),(4,.d (.i .i64) 9)],(h12 1000001 0 1 2 3 4 5 6 7),k1,[.i .i64,.i .i64]⟩ [(3,.d (.i .i64) 8)] [] [.i .i64] 0 (fun x K v=>xE x.1 x.2.1 x.2.2.1 x.2.2.2.1 x.2.2.2.2.1 x.2.2.2.2.2.1 x.2.2.2.2.2.2.1 x.2.2.2.2.2.2.2 K v) .n) .n)) .n))) Tryz.func29 rfl hbv29 trivial fun x=>by kernel_rfl
def JQ:Ct TS:=⟨[.d (.st 12) 0,.d (.st 13) 1,.d (.st 13) 2],h2,[.st 12,.st 13,.st 13],.d .b 3,h2,[.b],false,fun x=>xh x.1 x.2.1 x.2.2⟩
theorem Hr:za Tryz.prog 6∧JQ.OK Tryz.prog 6:=ctk (T:=[(7,VR),(8,YF),(9,zdp),(22,kv),(28,Kl),(12,VN),(24,VQ),(29,YG),(14,zil)]) (h:=.s .n (.s .n (.s (.s (.j ⟨[(3,.ptr 1000003 0),(4,.ptr 1000004 0),(5,.ptr 1000005 0),(7,.d .b 0),(38,.d .b 69)],[(900000000,.rw 1),(900000001,.rw 2),(900000002,.rw 3),(900000003,.rw 4),(1000003,.box 30 [.d (.l (.st 1)) 1,.d (.l (.st 3)) 2,.d (.l (.st 5)) 3,.d (.l (.st 7)) 4,.d (.l (.st 8)) 5,.d (.l (.st 10)) 6,.d (.l (.st 9)) 7,.d (.i .i64) 8]),(1000004,.box 42 [.d (.i .i64) 9,.d .s 10,.d .s 11,.d (.i .i64) 12,.d .s 13,.d (.l (.s)) 14,.d (.l (.s)) 15,.d (.i .i64) 16,.d (.i .i64) 17,.d (.i .i64) 18,.d .b 19,.d (.i .i64) 20,.d (.i .i64) 21,.d (.i .i64) 22,.d .s 23,.d .s 24,.d (.l (.st 0)) 25,.d (.i .i64) 26,.d (.i .i64) 27,.d (.i .i64) 28,.d (.i .i64) 29,.d (.i .i64) 30,.d (.i .i64) 31,.d (.i .i64) 32,.d (.i .i64) 33,.d (.i .i64) 34,.d .s 35,.d .s 36,.d (.l (.st 0)) 37,.d (.l (.st 4)) 38]),(1000005,.box 42 [.d (.i .i64) 39,.d .s 40,.d .s 41,.d (.i .i64) 42,.d .s 43,.d (.l (.s)) 44,.d (.l (.s)) 45,.d (.i .i64) 46,.d (.i .i64) 47,.d (.i .i64) 48,.d .b 49,.d (.i .i64) 50,.d (.i .i64) 51,.d (.i .i64) 52,.d .s 53,.d .s 54,.d (.l (.st 0)) 55,.d (.i .i64) 56,.d (.i .i64) 57,.d (.i .i64) 58,.d (.i .i64) 59,.d (.i .i64) 60,.d (.i .i64) 61,.d (.i .i64) 62,.d (.i .i64) 63,.d (.i .i64) 64,.d .s 65,.d .s 66,.d (.l (.st 0)) 67,.d (.l (.st 4)) 68])],k90,[.b]⟩ false .n) .n) (.s .n (.s .n (.s (.s (.j ⟨[(3,.ptr 1000003 0),(4,.ptr 1000004 0),(5,.ptr 1000005 0),(7,.d .b 0),(8,.ptr 1000008 0),(9,.d (.i .i64) 1),(10,.ptr 1000010 0),(11,.d (.i .i64) 2),(68,.d .b 87)],[(900000000,.rw 1),(900000001,.rw 2),(900000002,.rw 3),(900000003,.rw 4),(1000003,.box 30 [.d (.l (.st 1)) 3,.d (.l (.st 3)) 4,.d (.l (.st 5)) 5,.d (.l (.st 7)) 6,.d (.l (.st 8)) 7,.d (.l (.st 10)) 8,.d (.l (.st 9)) 9,.d (.i .i64) 10]),(1000004,.box 42 [.d (.i .i64) 11,.d .s 12,.d .s 13,.d (.i .i64) 14,.d .s 15,.d (.l (.s)) 16,.d (.l (.s)) 17,.d (.i .i64) 18,.d (.i .i64) 19,.d (.i .i64) 20,.d .b 21,.d (.i .i64) 22,.d (.i .i64) 23,.d (.i .i64) 24,.d .s 25,.d .s 26,.d (.l (.st 0)) 27,.d (.i .i64) 28,.d (.i .i64) 29,.d (.i .i64) 30,.d (.i .i64) 31,.d (.i .i64) 32,.d (.i .i64) 33,.d (.i .i64) 34,.d (.i .i64) 35,.d (.i .i64) 36,.d .s 37,.d .s 38,.d (.l (.st 0)) 39,.d (.l (.st 4)) 40]),(1000005,.box 42 [.d (.i .i64) 41,.d .s 42,.d .s 43,.d (.i .i64) 44,.d .s 45,.d (.l (.s)) 46,.d (.l (.s)) 47,.d (.i .i64) 48,.d (.i .i64) 49,.d (.i .i64) 50,.d .b 51,.d (.i .i64) 52,.d (.i .i64) 53,.d (.i .i64) 54,.d .s 55,.d .s 56,.d (.l (.st 0)) 57,.d (.i .i64) 58,.d (.i .i64) 59,.d (.i .i64) 60,.d (.i .i64) 61,.d (.i .i64) 62,.d (.i .i64) 63,.d (.i .i64) 64,.d (.i .i64) 65,.d (.i .i64) 66,.d .s 67,.d .s 68,.d (.l (.st 0)) 69,.d (.l (.st 4)) 70]),(1000008,.box 30 [.d (.l (.st 1)) 71,.d (.l (.st 3)) 72,.d (.l (.st 5)) 73,.d (.l (.st 7)) 74,.d (.l (.st 8)) 75,.d (.l (.st 10)) 76,.d (.l (.st 9)) 77,.d (.i .i64) 78]),(1000010,.box 30 [.d (.l (.st 1)) 79,.d (.l (.st 3)) 80,.d (.l (.st 5)) 81,.d (.l (.st 7)) 82,.d (.l (.st 8)) 83,.d (.l (.st 10)) 84,.d (.l (.st 9)) 85,.d (.i .i64) 86])],k91,[.b]⟩ false .n) .n) (.s (.s (.j ⟨[(3,.ptr 1000003 0),(7,.d .b 0),(8,.ptr 1000008 0),(10,.ptr 1000010 0),(79,.d .b 25)],h92,k93,[.b]⟩ false .n) .n) (.s (.j ⟨[(3,.ptr 1000003 0),(7,.d .b 0),(8,.ptr 1000008 0),(10,.ptr 1000010 0),(12,.d .b 25)],h92,k93,[.b]⟩ false .n) .n)))))))) Tryz.func6 rfl hbv6 ⟨zdo,zgb,zk8,j5,JA,YD,YE,zgc,zf3,trivial⟩ fun x=>by kernel_rfl
end Go.Proofs.YthnokpghgeppdaaGreatDoor
