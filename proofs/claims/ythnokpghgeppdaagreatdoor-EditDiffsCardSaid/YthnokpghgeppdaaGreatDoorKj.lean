/- texts that the proof reaches, part 10 -/
import Derived.Test.YthnokpghgeppdaaGreatDoorKi
set_option linter.all false
set_option maxRecDepth 100000
namespace Go.Proofs.YthnokpghgeppdaaGreatDoor
open Go Go.RowKit Go.Eng Go.EV Go.EQ
variable[Hm]
theorem kmp{a b:Prop}(h:a=b)(x:a):b:=h▸x
def k1:List TC:=[.l (.st 1),.l (.st 3),.l (.st 5),.l (.st 7),.l (.st 8),.l (.st 10),.l (.st 9),.i .i64]
def h2:List (Nat×TO):=[(900000000,.rw 1),(900000001,.rw 2),(900000002,.rw 3),(900000003,.rw 4)]
def h3(v0 v1 v2 v3 v4:Nat):List (Nat×TO):=[(900000000,.rw 1),(900000001,.rw 2),(900000002,.rw 3),(900000003,.rw 4),(v0,.box 125 [.d (.i .i64) v1,.d .s v2,.d (.i .i64) v3,.d (.i .i64) v4])]
def h4(v0 v1 v2 v3:Nat):List (Nat×TO):=[(v0,.row v1 (.st v2) v3 false)]
def h5(v0 v1 v2 v3 v4 v5 v6 v7 v8 v9 v10 v11 v12 v13 v14 v15 v16 v17 v18 v19 v20 v21 v22 v23 v24 v25 v26 v27 v28 v29 v30:Nat):List (Nat×TO):=[(900000000,.rw 1),(900000001,.rw 2),(900000002,.rw 3),(900000003,.rw 4),(v0,.box 42 [.d (.i .i64) v1,.d .s v2,.d .s v3,.d (.i .i64) v4,.d .s v5,.d (.l (.s)) v6,.d (.l (.s)) v7,.d (.i .i64) v8,.d (.i .i64) v9,.d (.i .i64) v10,.d .b v11,.d (.i .i64) v12,.d (.i .i64) v13,.d (.i .i64) v14,.d .s v15,.d .s v16,.d (.l (.st 0)) v17,.d (.i .i64) v18,.d (.i .i64) v19,.d (.i .i64) v20,.d (.i .i64) v21,.d (.i .i64) v22,.d (.i .i64) v23,.d (.i .i64) v24,.d (.i .i64) v25,.d (.i .i64) v26,.d .s v27,.d .s v28,.d (.l (.st 0)) v29,.d (.l (.st 4)) v30])]
def k6:List TC:=[.i .i64,.i .i64,.s,.s,.i .i64,.s,.l (.s),.l (.s),.i .i64,.i .i64,.i .i64,.b,.i .i64,.i .i64,.i .i64,.s,.s,.l (.st 0),.i .i64,.i .i64,.i .i64,.i .i64,.i .i64,.i .i64,.i .i64,.i .i64,.i .i64,.s,.s,.l (.st 0),.l (.st 4)]
def k7:List TC:=[.l (.st 11),.i .i64,.i .i64,.i .i64,.i .i64,.s,.l (.s),.b,.l (.st 0),.l (.st 4)]
def h8(v0 v1 v2 v3 v4 v5 v6 v7 v8 v9 v10 v11 v12 v13 v14 v15 v16 v17 v18 v19 v20 v21 v22 v23 v24 v25:Nat):List (Nat×TO):=[(900000000,.rw 1),(900000001,.rw 2),(900000002,.rw 3),(900000003,.rw 4),(1000002,.box 42 [.d (.i .i64) v0,.d .s v1,.d .s v1,.d (.i .i64) v2,.d .s v1,.d (.l (.s)) v3,.d (.l (.s)) v3,.d (.i .i64) v4,.d (.i .i64) v5,.d (.i .i64) v6,.d .b v7,.d (.i .i64) v8,.d (.i .i64) v9,.d (.i .i64) v10,.d .s v1,.d .s v1,.d (.l (.st 0)) v11,.d (.i .i64) v12,.d (.i .i64) v13,.d (.i .i64) v14,.d (.i .i64) v15,.d (.i .i64) v16,.d (.i .i64) v17,.d (.i .i64) v18,.d (.i .i64) v19,.d (.i .i64) v20,.d .s v1,.d .s v1,.d (.l (.st 0)) v11,.d (.l (.st 4)) v21]),(1000011,.box 42 [.d (.i .i64) v22,.d .s 23,.d .s v23,.d (.i .i64) v24,.d .s v1,.d (.l (.s)) v3,.d (.l (.s)) v3,.d (.i .i64) v25,.d (.i .i64) v25,.d (.i .i64) v25,.d .b v7,.d (.i .i64) v25,.d (.i .i64) v25,.d (.i .i64) v25,.d .s v1,.d .s v1,.d (.l (.st 0)) v11,.d (.i .i64) v25,.d (.i .i64) v25,.d (.i .i64) v25,.d (.i .i64) v25,.d (.i .i64) v25,.d (.i .i64) v25,.d (.i .i64) v25,.d (.i .i64) v25,.d (.i .i64) v25,.d .s v1,.d .s v1,.d (.l (.st 0)) v11,.d (.l (.st 4)) v21])]
def k9:List TC:=[.i .i64,.i .i64,.s,.i .i64,.l (.s),.i .i64,.i .i64,.i .i64,.b,.i .i64,.i .i64,.i .i64,.l (.st 0),.i .i64,.i .i64,.i .i64,.i .i64,.i .i64,.i .i64,.i .i64,.i .i64,.i .i64,.l (.st 4),.s,.i .i64,.i .i64]
def k10:List TC:=[.i .i64,.s,.i .i64,.l (.s),.i .i64,.i .i64,.i .i64,.b,.i .i64,.i .i64,.i .i64,.l (.st 0),.i .i64,.i .i64,.i .i64,.i .i64,.i .i64,.i .i64,.i .i64,.i .i64,.i .i64,.l (.st 4),.i .i64,.s,.s,.i .i64,.i .i64]
def h11(v0 v1:Nat):List (Nat×TO):=[(900000000,.rw 1),(900000001,.rw 2),(900000002,.rw 3),(900000003,.rw 4),(v0,.row 120 (.l (.st 11)) v1 false)]
def h12(v0 v1 v2 v3 v4 v5 v6 v7 v8:Nat):List (Nat×TO):=[(v0,.box 30 [.d (.l (.st 1)) v1,.d (.l (.st 3)) v2,.d (.l (.st 5)) v3,.d (.l (.st 7)) v4,.d (.l (.st 8)) v5,.d (.l (.st 10)) v6,.d (.l (.st 9)) v7,.d (.i .i64) v8])]
def h13(v0:Nat):List (Nat×TO):=[(900000000,.rw 1),(900000001,.rw 2),(900000002,.rw 3),(900000003,.rw 4),(7000001,.row 9 (.s) v0 false)]
def h14:List (Nat×TO):=[(900000000,.rw 1),(900000001,.rw 2),(900000002,.rw 3),(900000003,.rw 4),(1000002,.box 35 [.d (.i .i64) 1,.d (.i .i64) 2,.d .s 3,.d .s 4,.d (.l (.st 0)) 5])]
def k15:List TC:=[.i .i64,.i .i64,.i .i64,.s,.s,.l (.st 0)]
def h16(v0 v1 v2 v3 v4 v5:Nat):List (Nat×TO):=[(900000000,.rw 1),(900000001,.rw 2),(900000002,.rw 3),(900000003,.rw 4),(1000002,.box 35 [.d (.i .i64) v0,.d (.i .i64) v1,.d .s v2,.d .s v3,.d (.l (.st 0)) v4]),(1000005,.box 35 [.d (.i .i64) v0,.d (.i .i64) 7,.d .s 8,.d .s v5,.d (.l (.st 0)) v4])]
def h17(v0 v1 v2 v3 v4 v5 v6 v7 v8 v9 v10 v11 v12 v13 v14 v15 v16 v17 v18 v19 v20 v21 v22 v23 v24 v25 v26 v27 v28 v29 v30 v31 v32 v33 v34 v35 v36 v37 v38 v39 v40 v41:Nat):List (Nat×TO):=[(v0,.box 39 [.d .s v1,.d (.l (.s)) v2,.d (.l (.s)) v3,.d (.i .i64) v4,.d (.i .i64) v5,.d (.i .i64) v6,.d .b v7,.d (.i .i64) v8,.d (.i .i64) v9,.d (.i .i64) v10,.d .s v11,.d .s v12,.d (.l (.st 0)) v13,.d (.i .i64) v14,.d (.i .i64) v15,.d (.i .i64) v16,.d (.i .i64) v17,.d (.i .i64) v18,.d (.i .i64) v19,.d (.i .i64) v20]),(v21,.box 39 [.d .s v22,.d (.l (.s)) v23,.d (.l (.s)) v24,.d (.i .i64) v25,.d (.i .i64) v26,.d (.i .i64) v27,.d .b v28,.d (.i .i64) v29,.d (.i .i64) v30,.d (.i .i64) v31,.d .s v32,.d .s v33,.d (.l (.st 0)) v34,.d (.i .i64) v35,.d (.i .i64) v36,.d (.i .i64) v37,.d (.i .i64) v38,.d (.i .i64) v39,.d (.i .i64) v40,.d (.i .i64) v41])]
def k18:List TC:=[.s,.l (.s),.l (.s),.i .i64,.i .i64,.i .i64,.b,.i .i64,.i .i64,.i .i64,.s,.s,.l (.st 0),.i .i64,.i .i64,.i .i64,.i .i64,.i .i64,.i .i64,.i .i64,.s,.l (.s),.l (.s),.i .i64,.i .i64,.i .i64,.b,.i .i64,.i .i64,.i .i64,.s,.s,.l (.st 0),.i .i64,.i .i64,.i .i64,.i .i64,.i .i64,.i .i64,.i .i64]
def k19:List TC:=[.s,.l (.s),.l (.s),.i .i64,.i .i64,.i .i64,.b,.i .i64,.i .i64,.i .i64,.s,.s,.l (.st 0),.i .i64,.i .i64,.i .i64,.i .i64,.i .i64,.i .i64,.i .i64]
def h20(v0 v1 v2 v3 v4 v5 v6 v7 v8:Nat):List (Nat×TO):=[(900000000,.rw 1),(900000001,.rw 2),(900000002,.rw 3),(900000003,.rw 4),(v0,.box 30 [.d (.l (.st 1)) v1,.d (.l (.st 3)) v2,.d (.l (.st 5)) v3,.d (.l (.st 7)) v4,.d (.l (.st 8)) v5,.d (.l (.st 10)) v6,.d (.l (.st 9)) v7,.d (.i .i64) v8])]
def h21(v0 v1 v2 v3 v4 v5 v6 v7:Nat):List (Nat×TO):=[(900000000,.rw 1),(900000001,.rw 2),(900000002,.rw 3),(900000003,.rw 4),(1000001,.box 30 [.d (.l (.st 1)) v0,.d (.l (.st 3)) v1,.d (.l (.st 5)) v2,.d (.l (.st 7)) v3,.d (.l (.st 8)) v4,.d (.l (.st 10)) 0,.d (.l (.st 9)) v5,.d (.i .i64) v6]),(1000170,.row 77 (.st 9) v7 false)]
def h22(v0 v1 v2 v3 v4 v5 v6 v7 v8 v9 v10 v11 v12 v13 v14 v15 v16 v17 v18 v19 v20 v21 v22 v23 v24 v25 v26 v27 v28 v29 v30:Nat):List (Nat×TO):=[(v0,.box 42 [.d (.i .i64) v1,.d .s v2,.d .s v3,.d (.i .i64) v4,.d .s v5,.d (.l (.s)) v6,.d (.l (.s)) v7,.d (.i .i64) v8,.d (.i .i64) v9,.d (.i .i64) v10,.d .b v11,.d (.i .i64) v12,.d (.i .i64) v13,.d (.i .i64) v14,.d .s v15,.d .s v16,.d (.l (.st 0)) v17,.d (.i .i64) v18,.d (.i .i64) v19,.d (.i .i64) v20,.d (.i .i64) v21,.d (.i .i64) v22,.d (.i .i64) v23,.d (.i .i64) v24,.d (.i .i64) v25,.d (.i .i64) v26,.d .s v27,.d .s v28,.d (.l (.st 0)) v29,.d (.l (.st 4)) v30])]
def k23:List TC:=[.i .i64,.s,.s,.i .i64,.s,.l (.s),.l (.s),.i .i64,.i .i64,.i .i64,.b,.i .i64,.i .i64,.i .i64,.s,.s,.l (.st 0),.i .i64,.i .i64,.i .i64,.i .i64,.i .i64,.i .i64,.i .i64,.i .i64,.i .i64,.s,.s,.l (.st 0),.l (.st 4)]
def h24(v0 v1 v2 v3 v4 v5 v6 v7 v8 v9 v10 v11 v12 v13 v14 v15 v16 v17 v18 v19 v20 v21 v22 v23 v24 v25 v26 v27 v28 v29 v30 v31 v32 v33 v34 v35 v36 v37 v38 v39 v40 v41 v42 v43 v44 v45 v46 v47 v48 v49 v50 v51 v52 v53 v54 v55 v56 v57 v58:Nat):List (Nat×TO):=[(1000002,.box 42 [.d (.i .i64) 0,.d .s 1,.d .s v0,.d (.i .i64) v1,.d .s v2,.d (.l (.s)) v3,.d (.l (.s)) v4,.d (.i .i64) v5,.d (.i .i64) v6,.d (.i .i64) v7,.d .b v8,.d (.i .i64) v9,.d (.i .i64) v10,.d (.i .i64) v11,.d .s v12,.d .s v13,.d (.l (.st 0)) v14,.d (.i .i64) v15,.d (.i .i64) v16,.d (.i .i64) v17,.d (.i .i64) v18,.d (.i .i64) v19,.d (.i .i64) v20,.d (.i .i64) v21,.d (.i .i64) v22,.d (.i .i64) v23,.d .s v24,.d .s v25,.d (.l (.st 0)) v26,.d (.l (.st 4)) v27]),(v28,.box 42 [.d (.i .i64) v29,.d .s v30,.d .s v31,.d (.i .i64) v32,.d .s v33,.d (.l (.s)) v34,.d (.l (.s)) v35,.d (.i .i64) v36,.d (.i .i64) v37,.d (.i .i64) v38,.d .b v39,.d (.i .i64) v40,.d (.i .i64) v41,.d (.i .i64) v42,.d .s v43,.d .s v44,.d (.l (.st 0)) v45,.d (.i .i64) v46,.d (.i .i64) v47,.d (.i .i64) v48,.d (.i .i64) v49,.d (.i .i64) v50,.d (.i .i64) v51,.d (.i .i64) v52,.d (.i .i64) v53,.d (.i .i64) v54,.d .s v55,.d .s v56,.d (.l (.st 0)) v57,.d (.l (.st 4)) v58])]
def h25(v0 v1 v2 v3 v4 v5 v6 v7 v8 v9 v10 v11 v12 v13 v14 v15 v16:Nat):List (Nat×TO):=[(1000002,.box 30 [.d (.l (.st 1)) v0,.d (.l (.st 3)) v1,.d (.l (.st 5)) v2,.d (.l (.st 7)) v3,.d (.l (.st 8)) v4,.d (.l (.st 10)) v5,.d (.l (.st 9)) v6,.d (.i .i64) v7]),(v8,.box 30 [.d (.l (.st 1)) v9,.d (.l (.st 3)) v10,.d (.l (.st 5)) v11,.d (.l (.st 7)) v12,.d (.l (.st 8)) v13,.d (.l (.st 10)) v14,.d (.l (.st 9)) v15,.d (.i .i64) v16])]
def k26:List TC:=[.l (.st 1),.l (.st 3),.l (.st 5),.l (.st 7),.l (.st 8),.l (.st 10),.l (.st 9),.i .i64,.l (.st 1),.l (.st 3),.l (.st 5),.l (.st 7),.l (.st 8),.l (.st 10),.l (.st 9),.i .i64]
def k27:List TC:=[.i .i64,.s,.s,.i .i64,.s,.l (.s),.l (.s),.i .i64,.i .i64,.i .i64,.b,.i .i64,.i .i64,.i .i64,.s,.s,.l (.st 0),.i .i64,.i .i64,.i .i64,.i .i64,.i .i64,.i .i64,.i .i64,.i .i64,.i .i64,.s,.s,.l (.st 0),.l (.st 4),.i .i64,.s,.s,.i .i64,.s,.l (.s),.l (.s),.i .i64,.i .i64,.i .i64,.b,.i .i64,.i .i64,.i .i64,.s,.s,.l (.st 0),.i .i64,.i .i64,.i .i64,.i .i64,.i .i64,.i .i64,.i .i64,.i .i64,.i .i64,.s,.s,.l (.st 0),.l (.st 4)]
def h28(v0:Nat):List (Nat×TO):=[(900000000,.rw 1),(900000001,.rw 2),(900000002,.rw 3),(900000003,.rw 4),(1000004,.gn 0 (.s) v0)]
def h29(v0 v1 v2 v3 v4 v5 v6 v7 v8 v9 v10 v11 v12 v13 v14 v15 v16 v17 v18 v19 v20 v21 v22 v23 v24 v25 v26 v27 v28 v29 v30 v31 v32:Nat):List (Nat×TO):=[(1,.row v0 (.st v1) v2 false),(2,.box 42 [.d (.i .i64) v3,.d .s v4,.d .s v5,.d (.i .i64) v6,.d .s v7,.d (.l (.s)) v8,.d (.l (.s)) v9,.d (.i .i64) v10,.d (.i .i64) v11,.d (.i .i64) v12,.d .b v13,.d (.i .i64) v14,.d (.i .i64) v15,.d (.i .i64) v16,.d .s v17,.d .s v18,.d (.l (.st 0)) v19,.d (.i .i64) v20,.d (.i .i64) v21,.d (.i .i64) v22,.d (.i .i64) v23,.d (.i .i64) v24,.d (.i .i64) v25,.d (.i .i64) v26,.d (.i .i64) v27,.d (.i .i64) v28,.d .s v29,.d .s v30,.d (.l (.st 0)) v31,.d (.l (.st 4)) v32])]
def k30:List TC:=[.l (.st 7),.i .i64,.i .i64,.s,.s,.i .i64,.s,.l (.s),.l (.s),.i .i64,.i .i64,.i .i64,.b,.i .i64,.i .i64,.i .i64,.s,.s,.l (.st 0),.i .i64,.i .i64,.i .i64,.i .i64,.i .i64,.i .i64,.i .i64,.i .i64,.i .i64,.s,.s,.l (.st 0),.l (.st 4)]
def k31:List TC:=[.l (.st 7),.i .i64,.s,.s,.i .i64,.s,.l (.s),.l (.s),.i .i64,.i .i64,.i .i64,.b,.i .i64,.i .i64,.i .i64,.s,.s,.l (.st 0),.i .i64,.i .i64,.i .i64,.i .i64,.i .i64,.i .i64,.i .i64,.i .i64,.i .i64,.s,.s,.l (.st 0),.l (.st 4),.i .i64]
def h32(v0 v1:Nat):List (Nat×TO):=[(1,.box 42 [.d (.i .i64) 0,.d .s 1,.d .s 2,.d (.i .i64) 3,.d .s 4,.d (.l (.s)) 5,.d (.l (.s)) 6,.d (.i .i64) 7,.d (.i .i64) 8,.d (.i .i64) 9,.d .b 10,.d (.i .i64) 11,.d (.i .i64) 12,.d (.i .i64) 13,.d .s 14,.d .s 15,.d (.l (.st 0)) 16,.d (.i .i64) 17,.d (.i .i64) 18,.d (.i .i64) 19,.d (.i .i64) 20,.d (.i .i64) 21,.d (.i .i64) 22,.d (.i .i64) 23,.d (.i .i64) 24,.d (.i .i64) 25,.d .s 26,.d .s 27,.d (.l (.st 0)) 28,.d (.l (.st 4)) 29]),(103001300,.row v0 (.st v1) 31 false)]
def h33:List (Nat×TO):=[(1,.row 39 (.st 7) 0 false),(2,.box 9 [.d .s 1])]
def h34:List (Nat×TO):=[(1,.box 9 [.d .s 1]),(2,.box 42 [.d (.i .i64) 2,.d .s 3,.d .s 4,.d (.i .i64) 5,.d .s 6,.d (.l (.s)) 7,.d (.l (.s)) 8,.d (.i .i64) 9,.d (.i .i64) 10,.d (.i .i64) 11,.d .b 12,.d (.i .i64) 13,.d (.i .i64) 14,.d (.i .i64) 15,.d .s 16,.d .s 17,.d (.l (.st 0)) 18,.d (.i .i64) 19,.d (.i .i64) 20,.d (.i .i64) 21,.d (.i .i64) 22,.d (.i .i64) 23,.d (.i .i64) 24,.d (.i .i64) 25,.d (.i .i64) 26,.d (.i .i64) 27,.d .s 28,.d .s 29,.d (.l (.st 0)) 30,.d (.l (.st 4)) 31])]
def k35:List TC:=[.l (.st 7),.s,.i .i64,.s,.s,.i .i64,.s,.l (.s),.l (.s),.i .i64,.i .i64,.i .i64,.b,.i .i64,.i .i64,.i .i64,.s,.s,.l (.st 0),.i .i64,.i .i64,.i .i64,.i .i64,.i .i64,.i .i64,.i .i64,.i .i64,.i .i64,.s,.s,.l (.st 0),.l (.st 4),.i .i64]
def k36:List TC:=[.s,.i .i64,.s,.s,.i .i64,.s,.l (.s),.l (.s),.i .i64,.i .i64,.i .i64,.b,.i .i64,.i .i64,.i .i64,.s,.s,.l (.st 0),.i .i64,.i .i64,.i .i64,.i .i64,.i .i64,.i .i64,.i .i64,.i .i64,.i .i64,.s,.s,.l (.st 0),.l (.st 4)]
def k37:List TC:=[.l (.st 7),.s,.i .i64,.s,.s,.i .i64,.s,.l (.s),.l (.s),.i .i64,.i .i64,.i .i64,.b,.i .i64,.i .i64,.i .i64,.s,.s,.l (.st 0),.i .i64,.i .i64,.i .i64,.i .i64,.i .i64,.i .i64,.i .i64,.i .i64,.i .i64,.s,.s,.l (.st 0),.l (.st 4)]
def k38:List TC:=[.st 1,.i .i64,.s,.s,.i .i64,.s,.l (.s),.l (.s),.i .i64,.i .i64,.i .i64,.b,.i .i64,.i .i64,.i .i64,.s,.s,.l (.st 0),.i .i64,.i .i64,.i .i64,.i .i64,.i .i64,.i .i64,.i .i64,.i .i64,.i .i64,.s,.s,.l (.st 0),.l (.st 4)]
def k39:List TC:=[.l (.st 1),.i .i64,.s,.s,.i .i64,.s,.l (.s),.l (.s),.i .i64,.i .i64,.i .i64,.b,.i .i64,.i .i64,.i .i64,.s,.s,.l (.st 0),.i .i64,.i .i64,.i .i64,.i .i64,.i .i64,.i .i64,.i .i64,.i .i64,.i .i64,.s,.s,.l (.st 0),.l (.st 4)]
def k40:List TC:=[.l (.st 1),.i .i64,.s,.s,.i .i64,.s,.l (.s),.l (.s),.i .i64,.i .i64,.i .i64,.b,.i .i64,.i .i64,.i .i64,.s,.s,.l (.st 0),.i .i64,.i .i64,.i .i64,.i .i64,.i .i64,.i .i64,.i .i64,.i .i64,.i .i64,.s,.s,.l (.st 0),.l (.st 4),.i .i64]
def k41:List TC:=[.l (.st 1),.i .i64,.i .i64,.s,.s,.i .i64,.s,.l (.s),.l (.s),.i .i64,.i .i64,.i .i64,.b,.i .i64,.i .i64,.i .i64,.s,.s,.l (.st 0),.i .i64,.i .i64,.i .i64,.i .i64,.i .i64,.i .i64,.i .i64,.i .i64,.i .i64,.s,.s,.l (.st 0),.l (.st 4)]
def k42:List TC:=[.st 3,.i .i64,.s,.s,.i .i64,.s,.l (.s),.l (.s),.i .i64,.i .i64,.i .i64,.b,.i .i64,.i .i64,.i .i64,.s,.s,.l (.st 0),.i .i64,.i .i64,.i .i64,.i .i64,.i .i64,.i .i64,.i .i64,.i .i64,.i .i64,.s,.s,.l (.st 0),.l (.st 4)]
def k43:List TC:=[.l (.st 3),.i .i64,.s,.s,.i .i64,.s,.l (.s),.l (.s),.i .i64,.i .i64,.i .i64,.b,.i .i64,.i .i64,.i .i64,.s,.s,.l (.st 0),.i .i64,.i .i64,.i .i64,.i .i64,.i .i64,.i .i64,.i .i64,.i .i64,.i .i64,.s,.s,.l (.st 0),.l (.st 4)]
def k44:List TC:=[.l (.st 3),.i .i64,.s,.s,.i .i64,.s,.l (.s),.l (.s),.i .i64,.i .i64,.i .i64,.b,.i .i64,.i .i64,.i .i64,.s,.s,.l (.st 0),.i .i64,.i .i64,.i .i64,.i .i64,.i .i64,.i .i64,.i .i64,.i .i64,.i .i64,.s,.s,.l (.st 0),.l (.st 4),.i .i64]
def k45:List TC:=[.st 2,.i .i64,.s,.s,.i .i64,.s,.l (.s),.l (.s),.i .i64,.i .i64,.i .i64,.b,.i .i64,.i .i64,.i .i64,.s,.s,.l (.st 0),.i .i64,.i .i64,.i .i64,.i .i64,.i .i64,.i .i64,.i .i64,.i .i64,.i .i64,.s,.s,.l (.st 0),.l (.st 4)]
def k46:List TC:=[.l (.st 2),.i .i64,.s,.s,.i .i64,.s,.l (.s),.l (.s),.i .i64,.i .i64,.i .i64,.b,.i .i64,.i .i64,.i .i64,.s,.s,.l (.st 0),.i .i64,.i .i64,.i .i64,.i .i64,.i .i64,.i .i64,.i .i64,.i .i64,.i .i64,.s,.s,.l (.st 0),.l (.st 4)]
def k47:List TC:=[.l (.st 2),.i .i64,.s,.s,.i .i64,.s,.l (.s),.l (.s),.i .i64,.i .i64,.i .i64,.b,.i .i64,.i .i64,.i .i64,.s,.s,.l (.st 0),.i .i64,.i .i64,.i .i64,.i .i64,.i .i64,.i .i64,.i .i64,.i .i64,.i .i64,.s,.s,.l (.st 0),.l (.st 4),.i .i64]
def k48:List TC:=[.l (.st 2),.i .i64,.i .i64,.s,.s,.i .i64,.s,.l (.s),.l (.s),.i .i64,.i .i64,.i .i64,.b,.i .i64,.i .i64,.i .i64,.s,.s,.l (.st 0),.i .i64,.i .i64,.i .i64,.i .i64,.i .i64,.i .i64,.i .i64,.i .i64,.i .i64,.s,.s,.l (.st 0),.l (.st 4)]
def h49(v0 v1:Nat):List (Nat×TO):=[(1,.row 70 (.st 3) v0 false),(2,.box 42 [.d (.i .i64) 2,.d .s 3,.d .s 4,.d (.i .i64) 5,.d .s 6,.d (.l (.s)) 7,.d (.l (.s)) 8,.d (.i .i64) 9,.d (.i .i64) 10,.d (.i .i64) 11,.d .b 12,.d (.i .i64) 13,.d (.i .i64) 14,.d (.i .i64) 15,.d .s 16,.d .s 17,.d (.l (.st 0)) 18,.d (.i .i64) 19,.d (.i .i64) 20,.d (.i .i64) 21,.d (.i .i64) 22,.d (.i .i64) 23,.d (.i .i64) 24,.d (.i .i64) 25,.d (.i .i64) 26,.d (.i .i64) 27,.d .s 28,.d .s 29,.d (.l (.st 0)) 30,.d (.l (.st 4)) 31]),(3,.box 46 [.d (.i .i64) v1])]
def k50:List TC:=[.l (.st 3),.i .i64,.i .i64,.s,.s,.i .i64,.s,.l (.s),.l (.s),.i .i64,.i .i64,.i .i64,.b,.i .i64,.i .i64,.i .i64,.s,.s,.l (.st 0),.i .i64,.i .i64,.i .i64,.i .i64,.i .i64,.i .i64,.i .i64,.i .i64,.i .i64,.s,.s,.l (.st 0),.l (.st 4),.i .i64]
def h51(v0:Nat):List (Nat×TO):=[(1,.box 42 [.d (.i .i64) 1,.d .s 2,.d .s 3,.d (.i .i64) 4,.d .s 5,.d (.l (.s)) 6,.d (.l (.s)) 7,.d (.i .i64) 8,.d (.i .i64) 9,.d (.i .i64) 10,.d .b 11,.d (.i .i64) 12,.d (.i .i64) 13,.d (.i .i64) 14,.d .s 15,.d .s 16,.d (.l (.st 0)) 17,.d (.i .i64) 18,.d (.i .i64) 19,.d (.i .i64) 20,.d (.i .i64) 21,.d (.i .i64) 22,.d (.i .i64) 23,.d (.i .i64) 24,.d (.i .i64) 25,.d (.i .i64) 26,.d .s 27,.d .s 28,.d (.l (.st 0)) 29,.d (.l (.st 4)) 30]),(2,.box 46 [.d (.i .i64) v0])]
def k52:List TC:=[.l (.st 3),.i .i64,.s,.s,.i .i64,.s,.l (.s),.l (.s),.i .i64,.i .i64,.i .i64,.b,.i .i64,.i .i64,.i .i64,.s,.s,.l (.st 0),.i .i64,.i .i64,.i .i64,.i .i64,.i .i64,.i .i64,.i .i64,.i .i64,.i .i64,.s,.s,.l (.st 0),.l (.st 4),.i .i64,.i .i64]
def k53:List TC:=[.i .i64,.s,.s,.i .i64,.s,.l (.s),.l (.s),.i .i64,.i .i64,.i .i64,.b,.i .i64,.i .i64,.i .i64,.s,.s,.l (.st 0),.i .i64,.i .i64,.i .i64,.i .i64,.i .i64,.i .i64,.i .i64,.i .i64,.i .i64,.s,.s,.l (.st 0),.l (.st 4),.i .i64]
def k54:List TC:=[.st 5,.i .i64,.s,.s,.i .i64,.s,.l (.s),.l (.s),.i .i64,.i .i64,.i .i64,.b,.i .i64,.i .i64,.i .i64,.s,.s,.l (.st 0),.i .i64,.i .i64,.i .i64,.i .i64,.i .i64,.i .i64,.i .i64,.i .i64,.i .i64,.s,.s,.l (.st 0),.l (.st 4)]
def k55:List TC:=[.l (.st 5),.i .i64,.s,.s,.i .i64,.s,.l (.s),.l (.s),.i .i64,.i .i64,.i .i64,.b,.i .i64,.i .i64,.i .i64,.s,.s,.l (.st 0),.i .i64,.i .i64,.i .i64,.i .i64,.i .i64,.i .i64,.i .i64,.i .i64,.i .i64,.s,.s,.l (.st 0),.l (.st 4)]
def k56:List TC:=[.i .i64,.s,.s,.i .i64,.s,.l (.s),.l (.s),.i .i64,.i .i64,.i .i64,.b,.i .i64,.i .i64,.i .i64,.s,.s,.l (.st 0),.i .i64,.i .i64,.i .i64,.i .i64,.i .i64,.i .i64,.i .i64,.i .i64,.i .i64,.s,.s,.l (.st 0),.l (.st 4),.l (.st 5),.i .i64]
def k57:List TC:=[.l (.st 5),.i .i64,.s,.s,.i .i64,.s,.l (.s),.l (.s),.i .i64,.i .i64,.i .i64,.b,.i .i64,.i .i64,.i .i64,.s,.s,.l (.st 0),.i .i64,.i .i64,.i .i64,.i .i64,.i .i64,.i .i64,.i .i64,.i .i64,.i .i64,.s,.s,.l (.st 0),.l (.st 4),.i .i64]
def k58:List TC:=[.l (.st 5),.i .i64,.i .i64,.s,.s,.i .i64,.s,.l (.s),.l (.s),.i .i64,.i .i64,.i .i64,.b,.i .i64,.i .i64,.i .i64,.s,.s,.l (.st 0),.i .i64,.i .i64,.i .i64,.i .i64,.i .i64,.i .i64,.i .i64,.i .i64,.i .i64,.s,.s,.l (.st 0),.l (.st 4)]
def k59:List TC:=[.st 8,.i .i64,.s,.s,.i .i64,.s,.l (.s),.l (.s),.i .i64,.i .i64,.i .i64,.b,.i .i64,.i .i64,.i .i64,.s,.s,.l (.st 0),.i .i64,.i .i64,.i .i64,.i .i64,.i .i64,.i .i64,.i .i64,.i .i64,.i .i64,.s,.s,.l (.st 0),.l (.st 4)]
def k60:List TC:=[.l (.st 8),.i .i64,.s,.s,.i .i64,.s,.l (.s),.l (.s),.i .i64,.i .i64,.i .i64,.b,.i .i64,.i .i64,.i .i64,.s,.s,.l (.st 0),.i .i64,.i .i64,.i .i64,.i .i64,.i .i64,.i .i64,.i .i64,.i .i64,.i .i64,.s,.s,.l (.st 0),.l (.st 4)]
def k61:List TC:=[.i .i64,.s,.s,.i .i64,.s,.l (.s),.l (.s),.i .i64,.i .i64,.i .i64,.b,.i .i64,.i .i64,.i .i64,.s,.s,.l (.st 0),.i .i64,.i .i64,.i .i64,.i .i64,.i .i64,.i .i64,.i .i64,.i .i64,.i .i64,.s,.s,.l (.st 0),.l (.st 4),.l (.st 8),.i .i64]
def k62:List TC:=[.l (.st 8),.i .i64,.s,.s,.i .i64,.s,.l (.s),.l (.s),.i .i64,.i .i64,.i .i64,.b,.i .i64,.i .i64,.i .i64,.s,.s,.l (.st 0),.i .i64,.i .i64,.i .i64,.i .i64,.i .i64,.i .i64,.i .i64,.i .i64,.i .i64,.s,.s,.l (.st 0),.l (.st 4),.i .i64]
def k63:List TC:=[.l (.st 8),.i .i64,.i .i64,.s,.s,.i .i64,.s,.l (.s),.l (.s),.i .i64,.i .i64,.i .i64,.b,.i .i64,.i .i64,.i .i64,.s,.s,.l (.st 0),.i .i64,.i .i64,.i .i64,.i .i64,.i .i64,.i .i64,.i .i64,.i .i64,.i .i64,.s,.s,.l (.st 0),.l (.st 4)]
def k64:List TC:=[.i .i64,.l (.st 1),.l (.st 3),.l (.st 5),.l (.st 7),.l (.st 8),.l (.st 10),.l (.st 9),.i .i64]
def h65:List (Nat×TO):=[(1000002,.box 30 [.d (.l (.st 1)) 0,.d (.l (.st 3)) 1,.d (.l (.st 5)) 2,.d (.l (.st 7)) 3,.d (.l (.st 8)) 4,.d (.l (.st 10)) 5,.d (.l (.st 9)) 6,.d (.i .i64) 7]),(1000003,.box 42 [.d (.i .i64) 8,.d .s 9,.d .s 10,.d (.i .i64) 11,.d .s 12,.d (.l (.s)) 13,.d (.l (.s)) 14,.d (.i .i64) 15,.d (.i .i64) 16,.d (.i .i64) 17,.d .b 18,.d (.i .i64) 19,.d (.i .i64) 20,.d (.i .i64) 21,.d .s 22,.d .s 23,.d (.l (.st 0)) 24,.d (.i .i64) 25,.d (.i .i64) 26,.d (.i .i64) 27,.d (.i .i64) 28,.d (.i .i64) 29,.d (.i .i64) 30,.d (.i .i64) 31,.d (.i .i64) 32,.d (.i .i64) 33,.d .s 34,.d .s 35,.d (.l (.st 0)) 36,.d (.l (.st 4)) 37]),(1000004,.box 30 [.d (.l (.st 1)) 38,.d (.l (.st 3)) 39,.d (.l (.st 5)) 40,.d (.l (.st 7)) 41,.d (.l (.st 8)) 42,.d (.l (.st 10)) 43,.d (.l (.st 9)) 44,.d (.i .i64) 45])]
def k66:List TC:=[.l (.st 1),.l (.st 3),.l (.st 5),.l (.st 7),.l (.st 8),.l (.st 10),.l (.st 9),.i .i64,.i .i64,.s,.s,.i .i64,.s,.l (.s),.l (.s),.i .i64,.i .i64,.i .i64,.b,.i .i64,.i .i64,.i .i64,.s,.s,.l (.st 0),.i .i64,.i .i64,.i .i64,.i .i64,.i .i64,.i .i64,.i .i64,.i .i64,.i .i64,.s,.s,.l (.st 0),.l (.st 4),.l (.st 1),.l (.st 3),.l (.st 5),.l (.st 7),.l (.st 8),.l (.st 10),.l (.st 9),.i .i64]
def h67(v0 v1 v2 v3 v4 v5:Nat):List (Nat×TO):=[(v0,.box 35 [.d (.i .i64) v1,.d (.i .i64) v2,.d .s v3,.d .s v4,.d (.l (.st 0)) v5])]
def h68(v0:Nat):List (Nat×TO):=[(1000001,.box 35 [.d (.i .i64) 2,.d (.i .i64) 3,.d .s 4,.d .s 5,.d (.l (.st 0)) 0]),(1000002,.box 35 [.d (.i .i64) 6,.d (.i .i64) 6,.d .s 7,.d .s 7,.d (.l (.st 0)) 8]),(7001001,.row 35 (.st 0) v0 false)]
def h69(v0 v1 v2 v3 v4 v5 v6 v7 v8 v9 v10 v11 v12 v13 v14 v15 v16 v17:Nat):List (Nat×TO):=[(1000001,.box 30 [.row 6 103001200,.row 3 103001500,.row 3 103001800,.row 20 103002100,.row 4 103002800,.row 6 103003100,.d (.l (.st 9)) 1,.d (.i .i64) 2]),(1000002,.box 30 [.row 6 1001000002000,.row 3 1001000002001,.row 3 1001000002002,.row 20 1001000002003,.row 4 1001000002004,.row 6 1001000002005,.d (.l (.st 9)) 3,.d (.i .i64) 4]),(v0,.row v1 (.st v2) v3 false),(v4,.row v5 (.st v6) v7 false),(v8,.row v9 (.st v10) v11 false),(v12,.row v13 (.st v14) v15 false),(103002800,.row 75 (.st 8) v16 false),(103003100,.row 79 (.st 10) v17 false),(1001000002000,.row 67 (.st 1) 10 false),(1001000002001,.row 70 (.st 3) 11 false),(1001000002002,.row 72 (.st 5) 12 false),(1001000002003,.row 39 (.st 7) 13 false),(1001000002004,.row 75 (.st 8) 14 false),(1001000002005,.row 79 (.st 10) 15 false)]
def h70(v0 v1 v2 v3 v4 v5:Nat):List (Nat×TO):=[(1,.box 67 [.d .s v0,.d (.i .i64) v1,.d (.i .i64) v2,.d .s v3,.d .s v4,.d (.l (.st 0)) v5])]
def h71(v0 v1 v2:Nat):List (Nat×TO):=[(1,.box 70 [.d .s v0,.d (.l (.st 2)) v1,.d (.i .i64) v2])]
def h72(v0 v1:Nat):List (Nat×TO):=[(1,.box 86 [.d .s v0,.d (.i .i64) v1])]
def h73(v0 v1 v2:Nat):List (Nat×TO):=[(1,.box 72 [.d .s v0,.d .b v1,.d (.l (.st 4)) v2])]
def h74(v0 v1 v2 v3 v4 v5 v6 v7 v8 v9 v10 v11 v12 v13 v14 v15 v16 v17 v18 v19:Nat):List (Nat×TO):=[(1,.box 39 [.d .s v0,.d (.l (.s)) v1,.d (.l (.s)) v2,.d (.i .i64) v3,.d (.i .i64) v4,.d (.i .i64) v5,.d .b v6,.d (.i .i64) v7,.d (.i .i64) v8,.d (.i .i64) v9,.d .s v10,.d .s v11,.d (.l (.st 0)) v12,.d (.i .i64) v13,.d (.i .i64) v14,.d (.i .i64) v15,.d (.i .i64) v16,.d (.i .i64) v17,.d (.i .i64) v18,.d (.i .i64) v19])]
def k75:List TC:=[.l (.st 7),.s,.l (.s),.l (.s),.i .i64,.i .i64,.i .i64,.b,.i .i64,.i .i64,.i .i64,.s,.s,.l (.st 0),.i .i64,.i .i64,.i .i64,.i .i64,.i .i64,.i .i64,.i .i64]
def h76(v0 v1 v2 v3:Nat):List (Nat×TO):=[(1,.box 75 [.d .s v0,.d (.i .i64) v1,.d (.i .i64) v2,.d (.l (.st 4)) v3])]
def h77(v0 v1 v2 v3 v4 v5 v6 v7 v8 v9 v10 v11 v12 v13 v14 v15 v16 v17:Nat):List (Nat×TO):=[(1000002,.box 30 [.d (.l (.st 1)) v0,.d (.l (.st 3)) v1,.d (.l (.st 5)) v2,.d (.l (.st 7)) v3,.d (.l (.st 8)) v4,.d (.l (.st 10)) v5,.d (.l (.st 9)) v6,.d (.i .i64) v7]),(1000003,.box 30 [.d (.l (.st 1)) v8,.d (.l (.st 3)) v9,.d (.l (.st 5)) v10,.d (.l (.st 7)) v11,.d (.l (.st 8)) v12,.d (.l (.st 10)) v13,.d (.l (.st 9)) v14,.d (.i .i64) v15]),(v16,.row 42 (.st 13) v17 false)]
def k78:List TC:=[.l (.st 1),.i .i64,.i .i64,.l (.st 1),.l (.st 3),.l (.st 5),.l (.st 7),.l (.st 8),.l (.st 10),.l (.st 9),.i .i64,.l (.st 3),.l (.st 5),.l (.st 7),.l (.st 8),.l (.st 10),.l (.st 9),.i .i64,.l (.st 13),.i .i64,.s,.s,.i .i64,.l (.s),.b,.l (.st 0),.i .i64,.i .i64,.s,.s,.l (.st 0),.l (.st 4)]
def h79(v0 v1 v2 v3 v4 v5 v6 v7 v8 v9 v10 v11 v12 v13 v14 v15 v16 v17 v18 v19:Nat):List (Nat×TO):=[(1000002,.box 30 [.d (.l (.st 1)) v0,.d (.l (.st 3)) v1,.d (.l (.st 5)) v2,.d (.l (.st 7)) v3,.d (.l (.st 8)) v4,.d (.l (.st 10)) v5,.d (.l (.st 9)) v6,.d (.i .i64) v7]),(1000003,.box 30 [.d (.l (.st 1)) v8,.d (.l (.st 3)) 0,.d (.l (.st 5)) v9,.d (.l (.st 7)) v10,.d (.l (.st 8)) v11,.d (.l (.st 10)) v12,.d (.l (.st 9)) v13,.d (.i .i64) v14]),(7001001,.row 42 (.st 13) 26 false),(1000012,.box 70 [.d .s v15,.d (.l (.st 2)) 3,.d (.i .i64) v16]),(1000013,.box 70 [.d .s v17,.d (.l (.st 2)) v18,.d (.i .i64) v19])]
def k80:List TC:=[.l (.st 3),.i .i64,.i .i64,.l (.st 2),.i .i64,.l (.st 1),.l (.st 3),.l (.st 5),.l (.st 7),.l (.st 8),.l (.st 10),.l (.st 9),.i .i64,.l (.st 1),.l (.st 5),.l (.st 7),.l (.st 8),.l (.st 10),.l (.st 9),.i .i64,.s,.i .i64,.s,.l (.st 2),.i .i64]
def k81:List TC:=[.l (.st 3),.i .i64,.i .i64,.l (.st 2),.i .i64,.i .i64,.l (.st 1),.l (.st 3),.l (.st 5),.l (.st 7),.l (.st 8),.l (.st 10),.l (.st 9),.i .i64,.l (.st 1),.l (.st 5),.l (.st 7),.l (.st 8),.l (.st 10),.l (.st 9),.i .i64,.s,.i .i64,.s,.l (.st 2),.i .i64]
def k82:List TC:=[.l (.st 3),.i .i64,.i .i64,.l (.st 2),.i .i64,.i .i64,.l (.st 1),.l (.st 3),.l (.st 5),.l (.st 7),.l (.st 8),.l (.st 10),.l (.st 9),.i .i64,.l (.st 1),.l (.st 5),.l (.st 7),.l (.st 8),.l (.st 10),.l (.st 9),.i .i64,.l (.st 13),.s,.i .i64,.s,.l (.st 2),.i .i64,.s,.i .i64]
def h83(v0 v1 v2 v3 v4 v5 v6 v7:Nat):List (Nat×TO):=[(1000002,.box 30 [.d (.l (.st 1)) v0,.d (.l (.st 3)) v1,.d (.l (.st 5)) v2,.d (.l (.st 7)) v3,.d (.l (.st 8)) v4,.d (.l (.st 10)) v5,.d (.l (.st 9)) v6,.d (.i .i64) v7]),(7001001,.row 42 (.st 13) 11 false)]
def h84(v0 v1 v2 v3 v4 v5 v6 v7 v8 v9 v10 v11 v12 v13 v14 v15 v16:Nat):List (Nat×TO):=[(900000000,.rw 1),(900000001,.rw 2),(900000002,.rw 3),(900000003,.rw 4),(1000002,.box 30 [.d (.l (.st 1)) v0,.d (.l (.st 3)) v1,.d (.l (.st 5)) v2,.d (.l (.st 7)) v3,.d (.l (.st 8)) v4,.d (.l (.st 10)) v5,.d (.l (.st 9)) v6,.d (.i .i64) v7]),(v8,.box 30 [.d (.l (.st 1)) v9,.d (.l (.st 3)) v10,.d (.l (.st 5)) v11,.d (.l (.st 7)) v12,.d (.l (.st 8)) v13,.d (.l (.st 10)) v14,.d (.l (.st 9)) v15,.d (.i .i64) v16])]
def h85:List (Nat×TO):=[(1000002,.box 35 [.d (.i .i64) 0,.d (.i .i64) 1,.d .s 2,.d .s 3,.d (.l (.st 0)) 4]),(1000003,.box 35 [.d (.i .i64) 5,.d (.i .i64) 6,.d .s 7,.d .s 8,.d (.l (.st 0)) 9])]
def k86:List TC:=[.i .i64,.i .i64,.s,.s,.l (.st 0),.i .i64,.i .i64,.s,.s,.l (.st 0)]
def k87:List TC:=[.b,.s,.l (.s),.l (.s),.i .i64,.i .i64,.i .i64,.b,.i .i64,.i .i64,.i .i64,.s,.s,.l (.st 0),.i .i64,.i .i64,.i .i64,.i .i64,.i .i64,.i .i64,.i .i64,.s,.l (.s),.l (.s),.i .i64,.i .i64,.i .i64,.b,.i .i64,.i .i64,.i .i64,.s,.s,.l (.st 0),.i .i64,.i .i64,.i .i64,.i .i64,.i .i64,.i .i64,.i .i64]
def k88:List TC:=[.i .i64,.l (.st 1),.l (.st 3),.l (.st 5),.l (.st 7),.l (.st 8),.l (.st 10),.l (.st 9),.i .i64,.l (.st 1),.l (.st 3),.l (.st 5),.l (.st 7),.l (.st 8),.l (.st 10),.l (.st 9),.i .i64]
def k89:List TC:=[.b,.l (.st 13),.l (.st 1),.l (.st 3),.l (.st 5),.l (.st 7),.l (.st 8),.l (.st 10),.l (.st 9),.i .i64,.l (.st 1),.l (.st 3),.l (.st 5),.l (.st 7),.l (.st 8),.l (.st 10),.l (.st 9),.i .i64]
def zCf:Nat→Type
 |0=>Expr
 |1=>Def
 |2=>Entry
 |3=>Table
 |4=>zw
 |5=>zm
 |6=>zg
 |7=>zb
 |8=>Cap
 |9=>zj
 |10=>View
 |11=>Token
 |12=>zu
 |13=>zn
 |14=>zl
 |_=>Unit
def TS0:Tab where
 T:=zCf
 dflt:=fun n=>match n with
  |0=>(default:Expr)
  |1=>(default:Def)
  |2=>(default:Entry)
  |3=>(default:Table)
  |4=>(default:zw)
  |5=>(default:zm)
  |6=>(default:zg)
  |7=>(default:zb)
  |8=>(default:Cap)
  |9=>(default:zj)
  |10=>(default:View)
  |11=>(default:Token)
  |12=>(default:zu)
  |13=>(default:zn)
  |14=>(default:zl)
  |_+15=>()
 fl:=fun n=>match n with
  |0=>[.i .i64,.i .i64,.s,.s,.l (.st 0)]
  |1=>[.s,.st 0]
  |2=>[.s,.i .i64]
  |3=>[.s,.l (.st 2),.i .i64]
  |4=>[.i .i64,.i .i64]
  |5=>[.s,.b,.l (.st 4)]
  |6=>[.i .i64,.i .i64,.i .i64,.i .i64]
  |7=>[.s,.l (.s),.l (.s),.i .i64,.i .i64,.i .i64,.b,.i .i64,.st 0,.st 6,.i .i64,.i .i64,.i .i64]
  |8=>[.s,.i .i64,.i .i64,.l (.st 4)]
  |9=>[.i .i64,.i .i64,.i .i64]
  |10=>[.s,.st 9,.i .i64,.l (.st 9)]
  |11=>[.i .i64,.s,.i .i64,.i .i64]
  |12=>k1
  |13=>[.i .i64,.s,.s,.i .i64,.st 7,.st 0,.l (.st 4)]
  |14=>[.st 4,.st 4]
  |_+15=>[]
 cn:=fun n=>match n with
  |0=>5
  |1=>6
  |2=>2
  |3=>3
  |4=>2
  |5=>3
  |6=>4
  |7=>20
  |8=>4
  |9=>3
  |10=>6
  |11=>4
  |12=>8
  |13=>30
  |14=>4
  |_+15=>0
 out:=fun n=>match n with
  |0=>fun x=>((x:Expr).Op,(x:Expr).N,(x:Expr).S,(x:Expr).Key,(x:Expr).Args)
  |1=>fun x=>((x:Def).Name,(x:Def).Body)
  |2=>fun x=>((x:Entry).Name,(x:Entry).N)
  |3=>fun x=>((x:Table).Name,(x:Table).Rows,(x:Table).Else)
  |4=>fun x=>((x:zw).X,(x:zw).Y)
  |5=>fun x=>((x:zm).Name,(x:zm).Overlay,(x:zm).Corners)
  |6=>fun x=>((x:zg).Side,(x:zg).Base,(x:zg).Num,(x:zg).Den)
  |7=>fun x=>((x:zb).Name,(x:zb).Zones,(x:zb).Except,(x:zb).From,(x:zb).Until,(x:zb).Grace,(x:zb).Vary,(x:zb).Kind,(x:zb).Test,(x:zb).zg,(x:zb).Uses,(x:zb).Other,(x:zb).N)
  |8=>fun x=>((x:Cap).Name,(x:Cap).Load,(x:Cap).Limit,(x:Cap).Corners)
  |9=>fun x=>((x:zj).X,(x:zj).Y,(x:zj).Z_)
  |10=>fun x=>((x:View).Name,(x:View).Eye,(x:View).Least,(x:View).Targets)
  |11=>fun x=>((x:Token).Kind,(x:Token).Text,(x:Token).N,(x:Token).Pos)
  |12=>fun x=>((x:zu).Defs,(x:zu).Tables,(x:zu).Zones,(x:zu).Rules,(x:zu).Caps,(x:zu).Views,(x:zu).Sun,(x:zu).Hours)
  |13=>fun x=>((x:zn).Kind,(x:zn).Name,(x:zn).Key,(x:zn).N,(x:zn).zb,(x:zn).Body,(x:zn).Corners)
  |14=>fun x=>((x:zl).a,(x:zl).b)
  |_+15=>fun _=>()
 inj:=fun n=>match n with
  |0=>fun x=>(⟨x.1,x.2.1,x.2.2.1,x.2.2.2.1,x.2.2.2.2⟩:Expr)
  |1=>fun x=>(⟨x.1,x.2⟩:Def)
  |2=>fun x=>(⟨x.1,x.2⟩:Entry)
  |3=>fun x=>(⟨x.1,x.2.1,x.2.2⟩:Table)
  |4=>fun x=>(⟨x.1,x.2⟩:zw)
  |5=>fun x=>(⟨x.1,x.2.1,x.2.2⟩:zm)
  |6=>fun x=>(⟨x.1,x.2.1,x.2.2.1,x.2.2.2⟩:zg)
  |7=>fun x=>(⟨x.1,x.2.1,x.2.2.1,x.2.2.2.1,x.2.2.2.2.1,x.2.2.2.2.2.1,x.2.2.2.2.2.2.1,x.2.2.2.2.2.2.2.1,x.2.2.2.2.2.2.2.2.1,x.2.2.2.2.2.2.2.2.2.1,x.2.2.2.2.2.2.2.2.2.2.1,x.2.2.2.2.2.2.2.2.2.2.2.1,x.2.2.2.2.2.2.2.2.2.2.2.2⟩:zb)
  |8=>fun x=>(⟨x.1,x.2.1,x.2.2.1,x.2.2.2⟩:Cap)
  |9=>fun x=>(⟨x.1,x.2.1,x.2.2⟩:zj)
  |10=>fun x=>(⟨x.1,x.2.1,x.2.2.1,x.2.2.2⟩:View)
  |11=>fun x=>(⟨x.1,x.2.1,x.2.2.1,x.2.2.2⟩:Token)
  |12=>fun x=>(⟨x.1,x.2.1,x.2.2.1,x.2.2.2.1,x.2.2.2.2.1,x.2.2.2.2.2.1,x.2.2.2.2.2.2.1,x.2.2.2.2.2.2.2⟩:zu)
  |13=>fun x=>(⟨x.1,x.2.1,x.2.2.1,x.2.2.2.1,x.2.2.2.2.1,x.2.2.2.2.2.1,x.2.2.2.2.2.2⟩:zn)
  |14=>fun x=>(⟨x.1,x.2⟩:zl)
  |_+15=>fun _=>()
 enc:=fun n=>match n with
  |0=>kT
  |1=>Vl
  |2=>oz
  |3=>oA
  |4=>kp
  |5=>HQ
  |6=>Vm
  |7=>HR
  |8=>Vn
  |9=>jU
  |10=>HS
  |11=>zcl
  |12=>An
  |13=>ud
  |14=>uK
  |_+15=>fun _=>[]
 ro:=fun n=>match n with
  |1=>gl0 Hm.ob0
  |2=>gl1 Hm.ob1
  |3=>gl2 Hm.ob2 Hm.m2
  |4=>gl3 Hm.ob3
  |_=>.gen gone
def goT(i:Nat):(c:TC)→c.ty zCf→EV.Obj
 |.s,x=>sb (bif Nat.beq i 0 then 107 else 219) x
 |.l (.m kc ec),x=>.gen (kK (List.map (Wo (xx TS0 kc) (xx TS0 ec)) x))
 |_,_=>.gen gone
def glT:Nat→Option (Nat×Nat×List (List UInt8))
 |1=>some (1,287,Ym)
 |_=>none
def gaT:Nat→Option (Nat×Dy zCf×List V)
 |107=>some (0,⟨.s,([]:List UInt8)⟩,[.nilp,.nils])
 |219=>some (1,⟨.s,([]:List UInt8)⟩,[.nilp,.nils])
 |_=>none
theorem zCg(t i:Nat)(d:Dy zCf)(cs:List V)(h:gaT t=some (i,d,cs))(m:M)(Z:ZM)(w:World)(k:Nat)(hh:EV.Holds m Z w k (.box t cs)):EV.Holds m Z w k (goT i d.1 d.2)∧∀b,blk m (k,goT i d.1 d.2) b→blk m (k,.box t cs) b:=by
 unfold gaT at h;split at h
 ·cases h;exact zvg hh
 ·cases h;exact zvg hh
 ·cases h
def TS:Tab where
 T:=zCf
 dflt:=fun n=>match n with
  |0=>(default:Expr)
  |1=>(default:Def)
  |2=>(default:Entry)
  |3=>(default:Table)
  |4=>(default:zw)
  |5=>(default:zm)
  |6=>(default:zg)
  |7=>(default:zb)
  |8=>(default:Cap)
  |9=>(default:zj)
  |10=>(default:View)
  |11=>(default:Token)
  |12=>(default:zu)
  |13=>(default:zn)
  |14=>(default:zl)
  |_+15=>()
 fl:=fun n=>match n with
  |0=>[.i .i64,.i .i64,.s,.s,.l (.st 0)]
  |1=>[.s,.st 0]
  |2=>[.s,.i .i64]
  |3=>[.s,.l (.st 2),.i .i64]
  |4=>[.i .i64,.i .i64]
  |5=>[.s,.b,.l (.st 4)]
  |6=>[.i .i64,.i .i64,.i .i64,.i .i64]
  |7=>[.s,.l (.s),.l (.s),.i .i64,.i .i64,.i .i64,.b,.i .i64,.st 0,.st 6,.i .i64,.i .i64,.i .i64]
  |8=>[.s,.i .i64,.i .i64,.l (.st 4)]
  |9=>[.i .i64,.i .i64,.i .i64]
  |10=>[.s,.st 9,.i .i64,.l (.st 9)]
  |11=>[.i .i64,.s,.i .i64,.i .i64]
  |12=>k1
  |13=>[.i .i64,.s,.s,.i .i64,.st 7,.st 0,.l (.st 4)]
  |14=>[.st 4,.st 4]
  |_+15=>[]
 cn:=fun n=>match n with
  |0=>5
  |1=>6
  |2=>2
  |3=>3
  |4=>2
  |5=>3
  |6=>4
  |7=>20
  |8=>4
  |9=>3
  |10=>6
  |11=>4
  |12=>8
  |13=>30
  |14=>4
  |_+15=>0
 out:=fun n=>match n with
  |0=>fun x=>((x:Expr).Op,(x:Expr).N,(x:Expr).S,(x:Expr).Key,(x:Expr).Args)
  |1=>fun x=>((x:Def).Name,(x:Def).Body)
  |2=>fun x=>((x:Entry).Name,(x:Entry).N)
  |3=>fun x=>((x:Table).Name,(x:Table).Rows,(x:Table).Else)
  |4=>fun x=>((x:zw).X,(x:zw).Y)
  |5=>fun x=>((x:zm).Name,(x:zm).Overlay,(x:zm).Corners)
  |6=>fun x=>((x:zg).Side,(x:zg).Base,(x:zg).Num,(x:zg).Den)
  |7=>fun x=>((x:zb).Name,(x:zb).Zones,(x:zb).Except,(x:zb).From,(x:zb).Until,(x:zb).Grace,(x:zb).Vary,(x:zb).Kind,(x:zb).Test,(x:zb).zg,(x:zb).Uses,(x:zb).Other,(x:zb).N)
  |8=>fun x=>((x:Cap).Name,(x:Cap).Load,(x:Cap).Limit,(x:Cap).Corners)
  |9=>fun x=>((x:zj).X,(x:zj).Y,(x:zj).Z_)
  |10=>fun x=>((x:View).Name,(x:View).Eye,(x:View).Least,(x:View).Targets)
  |11=>fun x=>((x:Token).Kind,(x:Token).Text,(x:Token).N,(x:Token).Pos)
  |12=>fun x=>((x:zu).Defs,(x:zu).Tables,(x:zu).Zones,(x:zu).Rules,(x:zu).Caps,(x:zu).Views,(x:zu).Sun,(x:zu).Hours)
  |13=>fun x=>((x:zn).Kind,(x:zn).Name,(x:zn).Key,(x:zn).N,(x:zn).zb,(x:zn).Body,(x:zn).Corners)
  |14=>fun x=>((x:zl).a,(x:zl).b)
  |_+15=>fun _=>()
 inj:=fun n=>match n with
  |0=>fun x=>(⟨x.1,x.2.1,x.2.2.1,x.2.2.2.1,x.2.2.2.2⟩:Expr)
  |1=>fun x=>(⟨x.1,x.2⟩:Def)
  |2=>fun x=>(⟨x.1,x.2⟩:Entry)
  |3=>fun x=>(⟨x.1,x.2.1,x.2.2⟩:Table)
  |4=>fun x=>(⟨x.1,x.2⟩:zw)
  |5=>fun x=>(⟨x.1,x.2.1,x.2.2⟩:zm)
  |6=>fun x=>(⟨x.1,x.2.1,x.2.2.1,x.2.2.2⟩:zg)
  |7=>fun x=>(⟨x.1,x.2.1,x.2.2.1,x.2.2.2.1,x.2.2.2.2.1,x.2.2.2.2.2.1,x.2.2.2.2.2.2.1,x.2.2.2.2.2.2.2.1,x.2.2.2.2.2.2.2.2.1,x.2.2.2.2.2.2.2.2.2.1,x.2.2.2.2.2.2.2.2.2.2.1,x.2.2.2.2.2.2.2.2.2.2.2.1,x.2.2.2.2.2.2.2.2.2.2.2.2⟩:zb)
  |8=>fun x=>(⟨x.1,x.2.1,x.2.2.1,x.2.2.2⟩:Cap)
  |9=>fun x=>(⟨x.1,x.2.1,x.2.2⟩:zj)
  |10=>fun x=>(⟨x.1,x.2.1,x.2.2.1,x.2.2.2⟩:View)
  |11=>fun x=>(⟨x.1,x.2.1,x.2.2.1,x.2.2.2⟩:Token)
  |12=>fun x=>(⟨x.1,x.2.1,x.2.2.1,x.2.2.2.1,x.2.2.2.2.1,x.2.2.2.2.2.1,x.2.2.2.2.2.2.1,x.2.2.2.2.2.2.2⟩:zu)
  |13=>fun x=>(⟨x.1,x.2.1,x.2.2.1,x.2.2.2.1,x.2.2.2.2.1,x.2.2.2.2.2.1,x.2.2.2.2.2.2⟩:zn)
  |14=>fun x=>(⟨x.1,x.2⟩:zl)
  |_+15=>fun _=>()
 enc:=fun n=>match n with
  |0=>kT
  |1=>Vl
  |2=>oz
  |3=>oA
  |4=>kp
  |5=>HQ
  |6=>Vm
  |7=>HR
  |8=>Vn
  |9=>jU
  |10=>HS
  |11=>zcl
  |12=>An
  |13=>ud
  |14=>uK
  |_+15=>fun _=>[]
 ro:=fun n=>match n with
  |1=>gl0 Hm.ob0
  |2=>gl1 Hm.ob1
  |3=>gl2 Hm.ob2 Hm.m2
  |4=>gl3 Hm.ob3
  |_=>.gen gone
 go:=goT
 gl:=glT
 ga:=gaT
 om:=true
theorem TSok:TS.OK where
 enc_out:=fun n x=>match n with
  |0=>by
   show kT x=_
   unfold kT;simp only[oy];rfl
  |1=>rfl
  |2=>rfl
  |3=>rfl
  |4=>rfl
  |5=>rfl
  |6=>rfl
  |7=>rfl
  |8=>rfl
  |9=>rfl
  |10=>rfl
  |11=>rfl
  |12=>rfl
  |13=>rfl
  |14=>rfl
  |_+15=>rfl
 out_mk:=fun n h=>match n with
  |0=>rfl
  |1=>rfl
  |2=>rfl
  |3=>rfl
  |4=>rfl
  |5=>rfl
  |6=>rfl
  |7=>rfl
  |8=>rfl
  |9=>rfl
  |10=>rfl
  |11=>rfl
  |12=>rfl
  |13=>rfl
  |14=>rfl
  |_+15=>rfl
 ro0:=rfl
 rren:=fun i σ=>match i with|0=>rfl|1=>rfl|2=>rfl|3=>rfl|4=>rfl|_+5=>rfl
 rref:=fun i=>match i with|0=>rfl|1=>rfl|2=>rfl|3=>rfl|4=>rfl|_+5=>rfl
 rfrz:=fun i k=>match i with|0=>rfl|1=>rfl|2=>rfl|3=>rfl|4=>rfl|_+5=>rfl
 len:=fun n x=>match n with
  |0=>rfl
  |1=>rfl
  |2=>rfl
  |3=>rfl
  |4=>rfl
  |5=>rfl
  |6=>rfl
  |7=>rfl
  |8=>rfl
  |9=>rfl
  |10=>rfl
  |11=>rfl
  |12=>rfl
  |13=>rfl
  |14=>rfl
  |_+15=>rfl
 one:=fun n x=>match n with
  |0=>rfl
  |1=>rfl
  |2=>rfl
  |3=>rfl
  |4=>rfl
  |5=>rfl
  |6=>rfl
  |7=>rfl
  |8=>rfl
  |9=>rfl
  |10=>rfl
  |11=>rfl
  |12=>rfl
  |13=>rfl
  |14=>rfl
  |_+15=>rfl
 refs:=fun n x=>match n with
  |0=>rfl
  |1=>rfl
  |2=>rfl
  |3=>rfl
  |4=>rfl
  |5=>rfl
  |6=>rfl
  |7=>rfl
  |8=>rfl
  |9=>rfl
  |10=>rfl
  |11=>rfl
  |12=>rfl
  |13=>rfl
  |14=>rfl
  |_+15=>rfl
 gren:=fun i c x σ=>by cases c with
  |l t=>cases t<;>rfl
  |_=>rfl
 gref:=fun i c x=>by cases c with
  |l t=>cases t<;>rfl
  |_=>rfl
 gfrz:=fun i c x k=>by cases c with
  |l t=>cases t<;>rfl
  |_=>rfl
 gom:=fun _ kc ec x=>by kernel_rfl
 ggl:=fun i c x k=>by cases c with
  |l t=>cases t<;>rfl
  |_=>rfl
 gbox:=fun t i d cs h m Z w k hh=>zCg t i d cs h m Z w k hh
 glob:=fun i g t l h=>by
  change glT i=some (g,t,l)at h;unfold glT at h;split at h
  ·cases h;exact⟨_,rfl⟩
  ·cases h
def cdT(t:Nat):Option TC:=bif Nat.beq t 3 then some (.i .i64)else bif Nat.beq t 4 then some (.b)else bif Nat.beq t 9 then some (.s)else bif Nat.beq t 35 then some (.st 0)else bif Nat.beq t 39 then some (.st 7)else bif Nat.beq t 42 then some (.st 13)else bif Nat.beq t 67 then some (.st 1)else bif Nat.beq t 70 then some (.st 3)else bif Nat.beq t 72 then some (.st 5)else bif Nat.beq t 75 then some (.st 8)else bif Nat.beq t 77 then some (.st 9)else bif Nat.beq t 79 then some (.st 10)else bif Nat.beq t 86 then some (.st 2)else bif Nat.beq t 90 then some (.st 4)else bif Nat.beq t 120 then some (.l (.st 11))else bif Nat.beq t 125 then some (.st 11)else bif Nat.beq t 310 then some (.st 14)else none
def cdL(t:Nat):Option TC:=cdT (bif Nat.ble 1000000 t then Nat.sub t 1000000 else t)
def cdR(t:Nat):Option TC:=bif Nat.beq t 5000000 then some .b else cdT t
def nbT:NB:=fun t=>bif Nat.beq t 30 then[(0,false,67,.st 1),(1,false,70,.st 3),(2,false,72,.st 5),(3,false,39,.st 7),(4,false,75,.st 8),(5,false,79,.st 10),(6,false,77,.st 9)]else bif Nat.beq t 35 then[(4,false,35,.st 0)]else bif Nat.beq t 39 then[(1,false,9,.s),(2,false,9,.s),(12,false,35,.st 0)]else bif Nat.beq t 42 then[(5,false,9,.s),(6,false,9,.s),(16,false,35,.st 0),(28,false,35,.st 0),(29,false,90,.st 4)]else bif Nat.beq t 67 then[(5,false,35,.st 0)]else bif Nat.beq t 70 then[(1,false,86,.st 2)]else bif Nat.beq t 72 then[(2,false,90,.st 4)]else bif Nat.beq t 75 then[(3,false,90,.st 4)]else bif Nat.beq t 79 then[(5,false,77,.st 9)]else bif Nat.beq t 237 then[(0,false,125,.st 11)]else bif Nat.beq t 241 then[(0,false,125,.st 11),(2,true,67,.st 1),(3,true,70,.st 3),(4,true,72,.st 5),(5,true,39,.st 7),(6,true,75,.st 8),(7,true,79,.st 10),(8,true,8000077,.st 9),(10,true,7000000,.l (.m (.s) (.b))),(11,true,7000000,.l (.m (.s) (.b))),(12,true,7000000,.l (.m (.s) (.b))),(13,true,7000000,.l (.m (.s) (.b))),(14,true,7000000,.l (.m (.s) (.b))),(15,true,7000000,.l (.m (.s) (.b)))]else bif Nat.beq t 251 then[(0,false,125,.st 11)]else[]
def zc0:NB:=fun t=>bif Nat.beq t 30 then[(0,true,67,.st 1),(1,true,70,.st 3),(2,true,72,.st 5),(3,true,39,.st 7),(4,true,75,.st 8),(5,true,79,.st 10),(6,false,77,.st 9)]else  nbT t
theorem mixT:Tryz.prog.follows .mixedOrders=true:=by kernel_rfl
variable[Fuel]
theorem zCh:za Tryz.prog 186:=zd (by kernel_rfl)
theorem zir:za Tryz.prog 185:=zd (by kernel_rfl)
theorem zCi:za Tryz.prog 236:=zd (by kernel_rfl)
theorem zCj:za Tryz.prog 238:=zd (by kernel_rfl)
theorem zCk:za Tryz.prog 237:=zd (by kernel_rfl)
theorem zCl:za Tryz.prog 277:=zd (by kernel_rfl)
theorem zCm:za Tryz.prog 195:=zd (by kernel_rfl)
theorem zCn:za Tryz.prog 239:=zd (by kernel_rfl)
theorem zCo:za Tryz.prog 240:=zd (by kernel_rfl)
theorem zCp:za Tryz.prog 187:=zd (by kernel_rfl)
theorem hbv71:za Tryz.prog 71:=zd (by kernel_rfl)
theorem zCq:za Tryz.prog 191:=zd (by kernel_rfl)
theorem zCr:za Tryz.prog 196:=zd (by kernel_rfl)
theorem hbv80:za Tryz.prog 80:=zd (by kernel_rfl)
theorem hbv74:za Tryz.prog 74:=zd (by kernel_rfl)
theorem hbv19:za Tryz.prog 19:=zd (by kernel_rfl)
theorem hbv62:za Tryz.prog 62:=zd (by kernel_rfl)
theorem hbv85:za Tryz.prog 85:=zd (by kernel_rfl)
theorem zCs:za Tryz.prog 200:=zd (by kernel_rfl)
theorem hbv84:za Tryz.prog 84:=zd (by kernel_rfl)
theorem hbv87:za Tryz.prog 87:=zd (by kernel_rfl)
theorem hbv86:za Tryz.prog 86:=zd (by kernel_rfl)
theorem hbv89:za Tryz.prog 89:=zd (by kernel_rfl)
theorem hbv88:za Tryz.prog 88:=zd (by kernel_rfl)
theorem hbv91:za Tryz.prog 91:=zd (by kernel_rfl)
theorem hbv90:za Tryz.prog 90:=zd (by kernel_rfl)
theorem hbv93:za Tryz.prog 93:=zd (by kernel_rfl)
theorem hbv92:za Tryz.prog 92:=zd (by kernel_rfl)
theorem hbv95:za Tryz.prog 95:=zd (by kernel_rfl)
theorem hbv94:za Tryz.prog 94:=zd (by kernel_rfl)
theorem zpn:za Tryz.prog 201:=zd (by kernel_rfl)
theorem hbv96:za Tryz.prog 96:=zd (by kernel_rfl)
theorem hbv98:za Tryz.prog 98:=zd (by kernel_rfl)
theorem hbv97:za Tryz.prog 97:=zd (by kernel_rfl)
theorem hbv99:za Tryz.prog 99:=zd (by kernel_rfl)
theorem zCt:za Tryz.prog 278:=zd (by kernel_rfl)
theorem zCu:za Tryz.prog 279:=zd (by kernel_rfl)
theorem zCv:za Tryz.prog 280:=zd (by kernel_rfl)
theorem zCw:za Tryz.prog 331:=zd (by kernel_rfl)
theorem zCx:za Tryz.prog 314:=zd (by kernel_rfl)
theorem zCy:za Tryz.prog 313:=zd (by kernel_rfl)
theorem zCz:za Tryz.prog 281:=zd (by kernel_rfl)
theorem zC0:za Tryz.prog 282:=zd (by kernel_rfl)
theorem zC1:za Tryz.prog 202:=zd (by kernel_rfl)
theorem zC2:za Tryz.prog 100:=zd (by kernel_rfl)
theorem zC3:za Tryz.prog 152:=zd (by kernel_rfl)
theorem zzb:za Tryz.prog 42:=zd (by kernel_rfl)
theorem zvl:za Tryz.prog 151:=zd (by kernel_rfl)
theorem hbv53:za Tryz.prog 53:=zd (by kernel_rfl)
theorem zC4:za Tryz.prog 101:=zd (by kernel_rfl)
theorem hbv28:za Tryz.prog 28:=zd (by kernel_rfl)
theorem hbv73:za Tryz.prog 73:=zd (by kernel_rfl)
theorem hbv46:za Tryz.prog 46:=zd (by kernel_rfl)
theorem hbv41:za Tryz.prog 41:=zd (by kernel_rfl)
theorem hbv50:za Tryz.prog 50:=zd (by kernel_rfl)
theorem hbv44:za Tryz.prog 44:=zd (by kernel_rfl)
theorem hbv43:za Tryz.prog 43:=zd (by kernel_rfl)
theorem hbv51:za Tryz.prog 51:=zd (by kernel_rfl)
theorem hbv52:za Tryz.prog 52:=zd (by kernel_rfl)
theorem hbv45:za Tryz.prog 45:=zd (by kernel_rfl)
theorem hbv54:za Tryz.prog 54:=zd (by kernel_rfl)
theorem hbv47:za Tryz.prog 47:=zd (by kernel_rfl)
theorem hbv55:za Tryz.prog 55:=zd (by kernel_rfl)
theorem hbv49:za Tryz.prog 49:=zd (by kernel_rfl)
theorem hbv48:za Tryz.prog 48:=zd (by kernel_rfl)
theorem hbv56:za Tryz.prog 56:=zd (by kernel_rfl)
theorem hbv14:za Tryz.prog 14:=zd (by kernel_rfl)
theorem hbv26:za Tryz.prog 26:=zd (by kernel_rfl)
theorem hbv22:za Tryz.prog 22:=zd (by kernel_rfl)
theorem hbv61:za Tryz.prog 61:=zd (by kernel_rfl)
theorem zC5:za Tryz.prog 169:=zd (by kernel_rfl)
theorem hbv60:za Tryz.prog 60:=zd (by kernel_rfl)
theorem zvm:za Tryz.prog 177:=zd (by kernel_rfl)
theorem zC6:za Tryz.prog 176:=zd (by kernel_rfl)
theorem hbv64:za Tryz.prog 64:=zd (by kernel_rfl)
theorem hbv65:za Tryz.prog 65:=zd (by kernel_rfl)
theorem hbv66:za Tryz.prog 66:=zd (by kernel_rfl)
theorem hbv67:za Tryz.prog 67:=zd (by kernel_rfl)
theorem hbv17:za Tryz.prog 17:=zd (by kernel_rfl)
theorem zC7:za Tryz.prog 102:=zd (by kernel_rfl)
theorem zC8:za Tryz.prog 103:=zd (by kernel_rfl)
theorem zis:za Tryz.prog 108:=zd (by kernel_rfl)
theorem zC9:za Tryz.prog 104:=zd (by kernel_rfl)
theorem zDa:za Tryz.prog 131:=zd (by kernel_rfl)
theorem zDb:za Tryz.prog 106:=zd (by kernel_rfl)
theorem zDc:za Tryz.prog 107:=zd (by kernel_rfl)
theorem zvn:za Tryz.prog 105:=zd (by kernel_rfl)
theorem zDd:za Tryz.prog 110:=zd (by kernel_rfl)
theorem zDe:za Tryz.prog 109:=zd (by kernel_rfl)
theorem zDf:za Tryz.prog 128:=zd (by kernel_rfl)
theorem zDg:za Tryz.prog 112:=zd (by kernel_rfl)
theorem zvo:za Tryz.prog 203:=zd (by kernel_rfl)
theorem zDh:za Tryz.prog 113:=zd (by kernel_rfl)
theorem zDi:za Tryz.prog 111:=zd (by kernel_rfl)
theorem zDj:za Tryz.prog 129:=zd (by kernel_rfl)
theorem zDk:za Tryz.prog 115:=zd (by kernel_rfl)
theorem zvp:za Tryz.prog 204:=zd (by kernel_rfl)
theorem zvq:za Tryz.prog 136:=zd (by kernel_rfl)
theorem zDl:za Tryz.prog 118:=zd (by kernel_rfl)
theorem zvr:za Tryz.prog 205:=zd (by kernel_rfl)
theorem zDm:za Tryz.prog 119:=zd (by kernel_rfl)
theorem zDn:za Tryz.prog 117:=zd (by kernel_rfl)
theorem zDo:za Tryz.prog 116:=zd (by kernel_rfl)
theorem zDp:za Tryz.prog 114:=zd (by kernel_rfl)
theorem zDq:za Tryz.prog 121:=zd (by kernel_rfl)
theorem zpo:za Tryz.prog 120:=zd (by kernel_rfl)
theorem zDr:za Tryz.prog 130:=zd (by kernel_rfl)
theorem zDs:za Tryz.prog 123:=zd (by kernel_rfl)
theorem zDt:za Tryz.prog 124:=zd (by kernel_rfl)
theorem zDu:za Tryz.prog 122:=zd (by kernel_rfl)
theorem zDv:za Tryz.prog 126:=zd (by kernel_rfl)
theorem zpp:za Tryz.prog 215:=zd (by kernel_rfl)
theorem zDw:za Tryz.prog 206:=zd (by kernel_rfl)
theorem zDx:za Tryz.prog 132:=zd (by kernel_rfl)
theorem zDy:za Tryz.prog 127:=zd (by kernel_rfl)
theorem zDz:za Tryz.prog 207:=zd (by kernel_rfl)
theorem zD0:za Tryz.prog 125:=zd (by kernel_rfl)
theorem hbv33:za Tryz.prog 33:=zd (by kernel_rfl)
theorem zD1:za Tryz.prog 133:=zd (by kernel_rfl)
theorem zD2:za Tryz.prog 134:=zd (by kernel_rfl)
theorem zpq:za Tryz.prog 135:=zd (by kernel_rfl)
theorem zD3:za Tryz.prog 137:=zd (by kernel_rfl)
theorem zD4:za Tryz.prog 138:=zd (by kernel_rfl)
theorem hbv34:za Tryz.prog 34:=zd (by kernel_rfl)
theorem hbv10:za Tryz.prog 10:=zd (by kernel_rfl)
theorem hbv30:za Tryz.prog 30:=zd (by kernel_rfl)
theorem zD5:za Tryz.prog 154:=zd (by kernel_rfl)
theorem zD6:za Tryz.prog 153:=zd (by kernel_rfl)
theorem zD7:za Tryz.prog 156:=zd (by kernel_rfl)
theorem zD8:za Tryz.prog 155:=zd (by kernel_rfl)
theorem zD9:za Tryz.prog 158:=zd (by kernel_rfl)
theorem zEa:za Tryz.prog 157:=zd (by kernel_rfl)
theorem zEb:za Tryz.prog 160:=zd (by kernel_rfl)
theorem zEc:za Tryz.prog 159:=zd (by kernel_rfl)
theorem zEd:za Tryz.prog 162:=zd (by kernel_rfl)
theorem zEe:za Tryz.prog 161:=zd (by kernel_rfl)
theorem zEf:za Tryz.prog 164:=zd (by kernel_rfl)
theorem zEg:za Tryz.prog 163:=zd (by kernel_rfl)
theorem hbv57:za Tryz.prog 57:=zd (by kernel_rfl)
theorem hbv12:za Tryz.prog 12:=zd (by kernel_rfl)
theorem hbv15:za Tryz.prog 15:=zd (by kernel_rfl)
theorem zEh:za Tryz.prog 165:=zd (by kernel_rfl)
theorem zzc:za Tryz.prog 83:=zd (by kernel_rfl)
theorem zEi:za Tryz.prog 166:=zd (by kernel_rfl)
theorem zEj:za Tryz.prog 167:=zd (by kernel_rfl)
theorem zEk:za Tryz.prog 216:=zd (by kernel_rfl)
theorem zEl:za Tryz.prog 168:=zd (by kernel_rfl)
theorem hbv59:za Tryz.prog 59:=zd (by kernel_rfl)
theorem hbv27:za Tryz.prog 27:=zd (by kernel_rfl)
theorem hbv82:za Tryz.prog 82:=zd (by kernel_rfl)
theorem hbv24:za Tryz.prog 24:=zd (by kernel_rfl)
theorem hbv7:za Tryz.prog 7:=zd (by kernel_rfl)
theorem zzd:za Tryz.prog 31:=zd (by kernel_rfl)
theorem hbv32:za Tryz.prog 32:=zd (by kernel_rfl)
theorem hbv8:za Tryz.prog 8:=zd (by kernel_rfl)
theorem hbv9:za Tryz.prog 9:=zd (by kernel_rfl)
theorem hbv4:za Tryz.prog 4:=zd (by kernel_rfl)
theorem ctg{f:Nat}{fn:Func}{code:Code}{T:CtT TS}{cd:Nat→Option TC}{nb:NB}{rc:List (Nat×Nat×Nat)}{c:Ct TS}{h:HT TS c.co}(hf:Tryz.prog.funcs[f]?=some fn)(hb:fn.body=some code)(hB:za Tryz.prog f)(hT:CtT.OK Tryz.prog T)(hr:∀x,((evF Tryz.prog fn code T cd KK nb c rc h x).run,(evF Tryz.prog fn code T cd KK nb c rc h x).tr true)=(c.fn x,(evF Tryz.prog fn code T cd KK nb c rc h x).tr false)):za Tryz.prog f∧c.OK Tryz.prog f :=
 ⟨hB,zB7 (T:=T) (cd:=cd) (kk:=KK) (nb:=nb) (rc:=rc) (h:=h) TSok hf hb mixT hT (fun x=>congrArg Prod.fst (hr x)) (fun x=>congrArg Prod.snd (hr x))⟩
theorem ctk{f:Nat}{fn:Func}{code:Code}{T:CtT TS}{c:Ct TS}{h:HT TS c.co}(hf:Tryz.prog.funcs[f]?=some fn)(hb:fn.body=some code)(hB:za Tryz.prog f)(hT:CtT.OK Tryz.prog T)(hr:∀x,((evF Tryz.prog fn code T cdT KK nbT c [] h x).run,(evF Tryz.prog fn code T cdT KK nbT c [] h x).tr true)=(c.fn x,(evF Tryz.prog fn code T cdT KK nbT c [] h x).tr false)):za Tryz.prog f∧c.OK Tryz.prog f :=
 ⟨hB,zB7 (T:=T) (cd:=cdT) (kk:=KK) (nb:=nbT) (rc:=[]) (h:=h) TSok hf hb mixT hT (fun x=>congrArg Prod.fst (hr x)) (fun x=>congrArg Prod.snd (hr x))⟩
def zc1:Ct TS:=⟨[.d (.i .u8) 0],[],[.i .u8],.d .b 1,[],[.b],false,fun x=>zcp x⟩
theorem zk3:za Tryz.prog 186∧zc1.OK Tryz.prog 186:=ctk (T:=[]) (h:=.n) Tryz.func186 rfl zCh trivial fun x=>by kernel_rfl
def zit:Ct TS:=⟨[.d .s 0,.fn 186 [] []],[],[.s],.d (.i .i64) 1,[],[.i .i64],false,fun x=>zij x⟩
theorem zpr:za Tryz.prog 185∧zit.OK Tryz.prog 185:=ctk (T:=[(186,zc1)]) (h:=.s .n (.s .n (.s (.s (.l ⟨[(0,.d .s 0),(1,.fn 186 [] []),(5,.d (.i .i64) 1)],[],[.s],[.i .i64]⟩ [(5,.d (.i .i64) 1)] [] [.i .i64] 0 (fun x K v=>A5 x K v) (.s (.s (.j ⟨[(0,.d .s 0),(1,.fn 186 [] []),(5,.d (.i .i64) 1),(16,.d .b 2)],[],[.s,.i .i64],[.b]⟩ false .n) .n) .n)) .n) .n))) Tryz.func185 rfl zir ⟨zk3,trivial⟩ fun x=>by kernel_rfl
def qD:Ct TS:=⟨[.d (.i .u8) 0],[],[.i .u8],.d .b 1,[],[.b],false,fun x=>vq x⟩
theorem uv:za Tryz.prog 236∧qD.OK Tryz.prog 236:=ctk (T:=[]) (h:=.n) Tryz.func236 rfl zCi trivial fun x=>by kernel_rfl
def oI:Ct TS:=⟨[.d (.i .u8) 0],[],[.i .u8],.d .b 1,[],[.b],false,fun x=>kr x⟩
theorem AD:za Tryz.prog 238∧oI.OK Tryz.prog 238:=ctk (T:=[]) (h:=.n) Tryz.func238 rfl zCj trivial fun x=>by kernel_rfl
def Yt:Ct TS:=⟨[.d (.i .u8) 0],[],[.i .u8],.d .b 1,[],[.b],false,fun x=>Yp x⟩
theorem zgb:za Tryz.prog 237∧Yt.OK Tryz.prog 237:=ctk (T:=[(236,qD),(238,oI)]) (h:=.n) Tryz.func237 rfl zCk ⟨uv,AD,trivial⟩ fun x=>by kernel_rfl
def Yu:Ct TS:=⟨[.d .s 0,.fn 237 [] []],[],[.s],.d (.i .i64) 1,[],[.i .i64],false,fun x=>Yq x⟩
theorem zgc:za Tryz.prog 185∧Yu.OK Tryz.prog 185:=ctk (T:=[(237,Yt)]) (h:=.s .n (.s .n (.s (.s (.l ⟨[(0,.d .s 0),(1,.fn 237 [] []),(5,.d (.i .i64) 1)],[],[.s],[.i .i64]⟩ [(5,.d (.i .i64) 1)] [] [.i .i64] 0 (fun x K v=>ue x K v) (.s (.s (.j ⟨[(0,.d .s 0),(1,.fn 237 [] []),(5,.d (.i .i64) 1),(16,.d .b 2)],[],[.s,.i .i64],[.b]⟩ false .n) .n) .n)) .n) .n))) Tryz.func185 rfl zir ⟨zgb,trivial⟩ fun x=>by kernel_rfl
def Yv:Ct TS:=⟨[.d (.i .u8) 0],[],[.i .u8],.d .b 1,[],[.b],false,fun x=>qw x⟩
theorem zgd:za Tryz.prog 277∧Yv.OK Tryz.prog 277:=ctk (T:=[(236,qD),(238,oI)]) (h:=.n) Tryz.func277 rfl zCl ⟨uv,AD,trivial⟩ fun x=>by kernel_rfl
def Yw:Ct TS:=⟨[.d .s 0,.fn 277 [] []],[],[.s],.d (.i .i64) 1,[],[.i .i64],false,fun x=>Ao x⟩
theorem zge:za Tryz.prog 185∧Yw.OK Tryz.prog 185:=ctk (T:=[(277,Yv)]) (h:=.s .n (.s .n (.s (.s (.l ⟨[(0,.d .s 0),(1,.fn 277 [] []),(5,.d (.i .i64) 1)],[],[.s],[.i .i64]⟩ [(5,.d (.i .i64) 1)] [] [.i .i64] 0 (fun x K v=>jG x K v) (.s (.s (.j ⟨[(0,.d .s 0),(1,.fn 277 [] []),(5,.d (.i .i64) 1),(16,.d .b 2)],[],[.s,.i .i64],[.b]⟩ false .n) .n) .n)) .n) .n))) Tryz.func185 rfl zir ⟨zgd,trivial⟩ fun x=>by kernel_rfl
def ZT:Ct TS:=⟨[.d .s 0],[],[.s],.d .b 1,[],[.b],false,fun x=>uf x⟩
theorem zc2:za Tryz.prog 195∧ZT.OK Tryz.prog 195:=ctk (T:=[(236,qD),(185,Yw)]) (h:=.s .n (.s (.s (.j ⟨[(0,.d .s 0),(15,.d .b 1)],[],[.s],[.b]⟩ false .n) .n) .n)) Tryz.func195 rfl zCm ⟨uv,zge,trivial⟩ fun x=>by kernel_rfl
def JR:Ct TS:=⟨[.d .s 0,.fn 238 [] []],[],[.s],.d (.i .i64) 1,[],[.i .i64],false,fun x=>JN x⟩
theorem VB:za Tryz.prog 185∧JR.OK Tryz.prog 185:=ctk (T:=[(238,oI)]) (h:=.s .n (.s .n (.s (.s (.l ⟨[(0,.d .s 0),(1,.fn 238 [] []),(5,.d (.i .i64) 1)],[],[.s],[.i .i64]⟩ [(5,.d (.i .i64) 1)] [] [.i .i64] 0 (fun x K v=>ug x K v) (.s (.s (.j ⟨[(0,.d .s 0),(1,.fn 238 [] []),(5,.d (.i .i64) 1),(16,.d .b 2)],[],[.s,.i .i64],[.b]⟩ false .n) .n) .n)) .n) .n))) Tryz.func185 rfl zir ⟨AD,trivial⟩ fun x=>by kernel_rfl
def Yx:Ct TS:=⟨[.d .s 0],[],[.s],.tup [.d (.i .i64) 1,.d .b 2],[],[.i .i64,.b],false,fun x=>Yr x⟩
theorem zgf:za Tryz.prog 239∧Yx.OK Tryz.prog 239:=ctk (T:=[(185,JR)]) (h:=.s .n (.s (.s (.j ⟨[(0,.d .s 0),(28,.d .b 1)],[],[.s],[.b]⟩ false .n) .n) (.s .n (.s (.s .n (.s (.l ⟨[(0,.d .s 0),(4,.d (.i .i64) 2),(30,.d (.i .i64) 1),(31,.d (.i .i64) 3)],[],[.s,.i .i64],[.i .i64,.i .i64]⟩ [(4,.d (.i .i64) 2)] [] [.i .i64] 0 (fun x K v=>uh x.1 x.2 K v) .n) .n)) .n)))) Tryz.func239 rfl zCn ⟨VB,trivial⟩ fun x=>by kernel_rfl
def VC:Ct TS:=⟨[.d .s 0,.d .s 1],[],[.s,.s],.d .b 2,[],[.b],false,fun x=>Vp x.1 x.2⟩
theorem zc3:VC.OK Tryz.prog 240:=fun x r h=>kmp (by kernel_rfl) (zf7 x.1 x.2 r h)
def ziu:Ct TS:=⟨[.d .s 0],h2,[.s],.tup [.ag [.d (.i .i64) 2,.d .s 3,.d (.i .i64) 4,.d (.i .i64) 5],.d (.i .i64) 1],(h3 7000001 2 3 4 5),[.i .i64,.i .i64,.s,.i .i64,.i .i64],false,fun x=>zik x⟩
theorem zps:za Tryz.prog 187∧ziu.OK Tryz.prog 187:=ctg (cd:=cdT) (nb:=nbT) (rc:=[(2,7000001,0)]) (T:=[(236,qD),(185,Yu),(195,ZT),(238,oI),(185,JR),(239,Yx),(240,VC)]) (h:=.s .n (.s .n (.s (.s .n (.s (.lr ⟨[(0,.d .s 0),(2,.ptr 1000002 0),(43,.ag [.d .s 1,.d .s 2,.d .s 3,.d .s 4,.d .s 5,.d .s 6,.d .s 7,.d .s 8,.d .s 9,.d .s 10,.d .s 11,.d .s 12,.d .s 13,.d .s 14]),(44,.d (.i .i64) 17)],(h3 1000002 15 16 15 15),[.s,.s,.s,.s,.s,.s,.s,.s,.s,.s,.s,.s,.s,.s,.s,.i .i64,.s],[.i .i64]⟩ [(2,.ptr 1000002 0)] (h3 1000002 15 16 15 15) [] 1 (fun x K v=>A6 x.1 x.2.1 x.2.2.1 x.2.2.2.1 x.2.2.2.2.1 x.2.2.2.2.2.1 x.2.2.2.2.2.2.1 x.2.2.2.2.2.2.2.1 x.2.2.2.2.2.2.2.2.1 x.2.2.2.2.2.2.2.2.2.1 x.2.2.2.2.2.2.2.2.2.2.1 x.2.2.2.2.2.2.2.2.2.2.2.1 x.2.2.2.2.2.2.2.2.2.2.2.2.1 x.2.2.2.2.2.2.2.2.2.2.2.2.2.1 x.2.2.2.2.2.2.2.2.2.2.2.2.2.2.1 x.2.2.2.2.2.2.2.2.2.2.2.2.2.2.2.1 x.2.2.2.2.2.2.2.2.2.2.2.2.2.2.2.2 K v) .n) .n)) .n))) Tryz.func187 rfl zCp ⟨uv,zgc,zc2,AD,VB,zgf,⟨zCo,zc3⟩,trivial⟩ fun x=>by kernel_rfl
def zpt:Ct TS:=⟨[.d .s 0],h2,[.s],.tup [.d (.l (.st 11)) 1,.d (.i .i64) 2,.d (.i .i64) 3],h2,[.l (.st 11),.i .i64,.i .i64],false,fun x=>zo9 x⟩
theorem ztw:za Tryz.prog 71∧zpt.OK Tryz.prog 71:=ctk (T:=[(185,zit),(187,ziu)]) (h:=.s .n (.s .n (.s .n (.s .n (.s (.lr ⟨[(0,.d .s 0),(5,.row 4 7000001),(6,.d (.i .i64) 1)],[(900000000,.rw 1),(900000001,.rw 2),(900000002,.rw 3),(900000003,.rw 4),(7000001,.row 125 (.st 11) 2 false)],[.s],[.i .i64,.l (.st 11)]⟩ [] [] [] 999999999 (fun x K v=>JO x K v) .n) .n))))) Tryz.func71 rfl hbv71 ⟨zpr,zps,trivial⟩ fun x=>by kernel_rfl
def AR:Ct TS:=⟨[.d (.l (.st 11)) 0],[],[.l (.st 11)],.row 4 7000001,(h4 7000001 125 11 1),[.l (.st 11)],false,fun x=>AQ x⟩
theorem VD:za Tryz.prog 191∧AR.OK Tryz.prog 191:=ctk (T:=[]) (h:=.n) Tryz.func191 rfl zCq trivial (fun x=>match x with|[]=>by kernel_rfl|_::_=>by kernel_rfl)
def Yy:Ct TS:=⟨[.d .s 0,.d .s 1],h2,[.s,.s],.d .b 2,h2,[.b],false,fun x=>Aq x.1 x.2⟩
theorem zgg:Yy.OK Tryz.prog 196:=fun x r h=>kmp (by kernel_rfl) (zky x.1 x.2 r h)
def zc4:Ct TS:=⟨[.d .s 0],h2,[.s],.d .b 1,h2,[.b],false,fun x=>HV x⟩
theorem ZU:za Tryz.prog 80∧zc4.OK Tryz.prog 80:=ctk (T:=[(195,ZT),(196,Yy)]) (h:=.n) Tryz.func80 rfl hbv80 ⟨zc2,⟨zCr,zgg⟩,trivial⟩ fun x=>by kernel_rfl
def ziv:Ct TS:=⟨[.d (.l (.st 11)) 0],h2,[.l (.st 11)],.tup [.ag [.d (.i .i64) 2,.d .s 3,.d .s 4,.d (.i .i64) 5,.d .s 6,.d (.l (.s)) 7,.d (.l (.s)) 8,.d (.i .i64) 9,.d (.i .i64) 10,.d (.i .i64) 11,.d .b 12,.d (.i .i64) 13,.d (.i .i64) 14,.d (.i .i64) 15,.d .s 16,.d .s 17,.d (.l (.st 0)) 18,.d (.i .i64) 19,.d (.i .i64) 20,.d (.i .i64) 21,.d (.i .i64) 22,.d (.i .i64) 23,.d (.i .i64) 24,.d (.i .i64) 25,.d (.i .i64) 26,.d (.i .i64) 27,.d .s 28,.d .s 29,.d (.l (.st 0)) 30,.d (.l (.st 4)) 31],.d (.i .i64) 1],(h5 7000001 2 3 4 5 6 7 8 9 10 11 12 13 14 15 16 17 18 19 20 21 22 23 24 25 26 27 28 29 30 31),k6,false,fun x=>zil x⟩
theorem zpu:za Tryz.prog 74∧ziv.OK Tryz.prog 74:=ctg (cd:=cdT) (nb:=nbT) (rc:=[(2,7000001,0)]) (T:=[(191,AR),(80,zc4)]) (h:=.s .n (.s .n (.s .n (.s .n (.s .n (.s (.j ⟨[(0,.d (.l (.st 11)) 0),(2,.ptr 1000002 0),(5,.d (.i .i64) 1),(7,.d (.i .i64) 9),(8,.d (.i .i64) 2)],(h5 1000002 3 4 4 3 4 5 5 3 3 3 6 3 3 3 4 4 7 3 3 3 3 3 3 3 3 3 4 4 7 8),[.l (.st 11),.i .i64,.i .i64,.i .i64,.s,.l (.s),.b,.l (.st 0),.l (.st 4)],[.i .i64]⟩ false (.s .n (.s (.s .n (.s (.j ⟨[(0,.d (.l (.st 11)) 0),(2,.ptr 1000002 0),(5,.d (.i .i64) 1),(7,.d (.i .i64) 2),(8,.d (.i .i64) 3),(37,.d .b 10)],(h5 1000002 4 5 5 4 5 6 6 4 4 4 7 4 4 4 5 5 8 4 4 4 4 4 4 4 4 4 5 5 8 9),k7,[.b]⟩ false .n) .n)) .n))) (.s (.s (.j ⟨[(0,.d (.l (.st 11)) 0),(2,.ptr 1000002 0),(5,.d (.i .i64) 1),(7,.d (.i .i64) 2),(8,.d (.i .i64) 3),(54,.d .b 10)],(h5 1000002 4 5 5 4 5 6 6 4 4 4 7 4 4 4 5 5 8 4 4 4 4 4 4 4 4 4 5 5 8 9),k7,[.b]⟩ false .n) .n) (.s (.s .n (.s (.lr ⟨[(0,.d (.l (.st 11)) 0),(2,.ptr 1000002 0),(5,.d (.i .i64) 1),(7,.d (.i .i64) 2),(8,.d (.i .i64) 3),(59,.d (.l (.st 11)) 4),(60,.d (.i .i64) 5),(61,.d (.i .i64) 11)],(h5 1000002 12 6 6 13 6 7 7 14 15 16 8 17 18 19 6 6 9 20 21 22 23 24 25 26 27 28 6 6 9 10),[.l (.st 11),.i .i64,.i .i64,.i .i64,.l (.st 11),.i .i64,.s,.l (.s),.b,.l (.st 0),.l (.st 4)],[.i .i64,.i .i64,.i .i64,.i .i64,.i .i64,.i .i64,.i .i64,.i .i64,.i .i64,.i .i64,.i .i64,.i .i64,.i .i64,.i .i64,.i .i64,.i .i64,.i .i64,.i .i64]⟩ [(0,.d (.l (.st 11)) 0),(2,.ptr 1000002 0),(5,.d (.i .i64) 1),(7,.d (.i .i64) 2),(8,.d (.i .i64) 3)] (h5 1000002 11 6 6 12 6 7 7 13 14 15 8 16 17 18 6 6 9 19 20 21 22 23 24 25 26 27 6 6 9 10) [.i .i64,.i .i64,.i .i64,.i .i64,.i .i64,.i .i64,.i .i64,.i .i64,.i .i64,.i .i64,.i .i64,.i .i64,.i .i64,.i .i64,.i .i64,.i .i64,.i .i64] 0 (fun x K v=>A7 x.1 x.2.1 x.2.2.1 x.2.2.2.1 x.2.2.2.2.1 x.2.2.2.2.2.1 x.2.2.2.2.2.2.1 x.2.2.2.2.2.2.2.1 x.2.2.2.2.2.2.2.2.1 x.2.2.2.2.2.2.2.2.2.1 x.2.2.2.2.2.2.2.2.2.2 K v) (.s .n (.s .n (.s (.s (.s .n (.s (.j ⟨[(0,.d (.l (.st 11)) 0),(2,.ptr 1000002 0),(5,.d (.i .i64) 1),(7,.d (.i .i64) 2),(8,.d (.i .i64) 3),(59,.d (.l (.st 11)) 4),(60,.d (.i .i64) 5),(61,.d (.i .i64) 6),(73,.d .b 12)],(h5 1000002 13 7 7 14 7 8 8 15 16 17 9 18 19 20 7 7 10 21 22 23 24 25 26 27 28 29 7 7 10 11),[.l (.st 11),.i .i64,.i .i64,.i .i64,.l (.st 11),.i .i64,.i .i64,.s,.l (.s),.b,.l (.st 0),.l (.st 4)],[.b,.i .i64,.i .i64,.i .i64,.i .i64,.i .i64,.i .i64,.i .i64,.i .i64,.i .i64,.i .i64,.i .i64,.i .i64,.i .i64,.i .i64,.i .i64,.i .i64,.i .i64]⟩ false .n) .n)) .n) .n)))) .n)) (.s .n (.s (.j ⟨[(2,.ptr 1000002 0),(5,.d (.i .i64) 0),(11,.ptr 1000011 0)],(h8 1 2 3 4 5 6 7 8 9 10 11 12 13 14 15 16 17 18 19 20 21 22 0 26 24 25),k9,[.s]⟩ false .n) (.s (.s (.j ⟨[(2,.ptr 1000002 0),(11,.ptr 1000011 0),(108,.d .b 27)],(h8 0 1 2 3 4 5 6 7 8 9 10 11 12 13 14 15 16 17 18 19 20 21 22 24 25 26),k10,[.b]⟩ false .n) .n) .n))))))))))) Tryz.func74 rfl hbv74 ⟨VD,ZU,trivial⟩ fun x=>by kernel_rfl
def zc5:Ct TS:=⟨[.d .s 0],h2,[.s],.tup [.d (.l (.st 13)) 1,.d (.i .i64) 2],h2,[.l (.st 13),.i .i64],false,fun x=>zcq x⟩
theorem zk4:za Tryz.prog 19∧zc5.OK Tryz.prog 19:=ctk (T:=[(71,zpt),(74,ziv)]) (h:=.s .n (.s .n (.s .n (.s .n (.s .n (.s (.s .n (.s (.l ⟨[(0,.d .s 0),(4,.d (.l (.st 11)) 1),(7,.row 1 7001001),(8,.d (.i .i64) 3),(26,.d (.l (.st 11)) 1),(27,.d (.i .i64) 2),(28,.d (.i .i64) 4)],(h11 7001001 5),[.s,.l (.st 11),.i .i64],[.i .i64,.i .i64,.l (.l (.st 11))]⟩ [(0,.d .s 0),(4,.d (.l (.st 11)) 1),(7,.row 1 7001001),(8,.d (.i .i64) 3)] (h11 7001001 4) [.i .i64,.l (.l (.st 11))] 0 (fun x K v=>oB x.1 x.2.1 x.2.2 K v) (.s .n (.s .n (.s (.j ⟨[(0,.d .s 0),(4,.d (.l (.st 11)) 1),(7,.row 1 7000001),(8,.d (.i .i64) 3),(26,.d (.l (.st 11)) 1),(27,.d (.i .i64) 2),(28,.d (.i .i64) 4)],(h11 7000001 5),[.s,.l (.st 11),.i .i64],[.i .i64,.i .i64,.l (.l (.st 11))]⟩ false (.s (.s .n (.s (.j ⟨[(0,.d .s 0),(4,.d (.l (.st 11)) 1),(7,.row 1 7001001),(8,.d (.i .i64) 2),(9,.d (.i .i64) 5),(26,.d (.l (.st 11)) 1),(27,.d (.i .i64) 3),(28,.d (.i .i64) 6),(40,.d .b 7)],(h11 7001001 4),[.s,.l (.st 11),.i .i64,.i .i64,.l (.l (.st 11))],[.i .i64,.i .i64,.b]⟩ false .n) .n)) .n)) .n)))) .n)) (.s .n (.s .n (.s (.s .n (.s (.lr ⟨[(0,.d .s 0),(11,.row 30 7002001),(62,.row 1 7001001),(63,.d (.i .i64) 1),(64,.d (.i .i64) 3)],[(900000000,.rw 1),(900000001,.rw 2),(900000002,.rw 3),(900000003,.rw 4),(7002001,.row 42 (.st 13) 4 false),(7001001,.row 120 (.l (.st 11)) 2 false)],[.s,.i .i64,.l (.l (.st 11))],[.i .i64,.l (.st 13)]⟩ [(11,.row 30 7002001)] [(900000000,.rw 1),(900000001,.rw 2),(900000002,.rw 3),(900000003,.rw 4),(7002001,.row 42 (.st 13) 3 false)] [.l (.st 13)] 3 (fun x K v=>oC x.1 x.2.1 x.2.2 K v) (.s .n (.s .n (.s (.s (.s .n (.s .n (.s (.s .n (.s (.s (.j ⟨[(0,.d .s 0),(11,.row 30 7002001),(13,.d (.l (.st 11)) 1),(14,.ptr 1000014 0),(62,.row 1 7001001),(63,.d (.i .i64) 2),(64,.d (.i .i64) 3),(78,.d .b 12)],[(900000000,.rw 1),(900000001,.rw 2),(900000002,.rw 3),(900000003,.rw 4),(7002001,.row 42 (.st 13) 4 false),(1000014,.box 42 [.d (.i .i64) 5,.d .s 6,.d .s 6,.d (.i .i64) 5,.d .s 6,.d (.l (.s)) 7,.d (.l (.s)) 7,.d (.i .i64) 5,.d (.i .i64) 5,.d (.i .i64) 5,.d .b 8,.d (.i .i64) 5,.d (.i .i64) 5,.d (.i .i64) 5,.d .s 6,.d .s 6,.d (.l (.st 0)) 9,.d (.i .i64) 5,.d (.i .i64) 5,.d (.i .i64) 5,.d (.i .i64) 5,.d (.i .i64) 5,.d (.i .i64) 5,.d (.i .i64) 5,.d (.i .i64) 5,.d (.i .i64) 5,.d .s 6,.d .s 6,.d (.l (.st 0)) 9,.d (.l (.st 4)) 10]),(7001001,.row 120 (.l (.st 11)) 11 false)],[.s,.l (.st 11),.i .i64,.i .i64,.l (.st 13),.i .i64,.s,.l (.s),.b,.l (.st 0),.l (.st 4),.l (.l (.st 11))],[.b]⟩ false .n) .n) .n)) .n))) .n) .n)))) .n)) .n))))))))) Tryz.func19 rfl hbv19 ⟨ztw,zpu,trivial⟩ fun x=>by kernel_rfl
def VE:Ct TS:=⟨[.d (.st 13) 0],[],[.st 13],.tup [.ag [.d (.l (.st 1)) 2,.d (.l (.st 3)) 3,.d (.l (.st 5)) 4,.d (.l (.st 7)) 5,.d (.l (.st 8)) 6,.d (.l (.st 10)) 7,.d (.l (.st 9)) 8,.d (.i .i64) 9],.d .b 1],(h12 7000001 2 3 4 5 6 7 8 9),[.b,.l (.st 1),.l (.st 3),.l (.st 5),.l (.st 7),.l (.st 8),.l (.st 10),.l (.st 9),.i .i64],false,fun x=>HW x⟩
theorem Yz:za Tryz.prog 62∧VE.OK Tryz.prog 62:=ctg (cd:=cdT) (nb:=nbT) (rc:=[(2,7000001,0)]) (T:=[]) (h:=.n) Tryz.func62 rfl hbv62 trivial fun x=>by kernel_rfl
def zc6:Ct TS:=⟨[.d (.st 1) 0],[],[.st 1],.d .s 1,[],[.s],false,fun x=>zcr x⟩
theorem zk5:za Tryz.prog 85∧zc6.OK Tryz.prog 85:=ctk (T:=[]) (h:=.n) Tryz.func85 rfl hbv85 trivial fun x=>by kernel_rfl
def uw:Ct TS:=⟨[.d (.l (.s)) 0,.d .b 1],h2,[.l (.s),.b],.d .b 2,h2,[.b],false,fun x=>vr x.1 x.2⟩
theorem kX:za Tryz.prog 200∧uw.OK Tryz.prog 200:=ctk (T:=[(80,zc4)]) (h:=.s .n (.s .n (.s (.s .n (.s (.lr ⟨[(1,.d .b 0),(5,.mp 1000008),(9,.d (.l (.s)) 1),(10,.d (.i .i64) 2),(11,.d (.i .i64) 3)],[(900000000,.rw 1),(900000001,.rw 2),(900000002,.rw 3),(900000003,.rw 4),(1000008,.map (.s) (.b) 4)],[.b,.l (.s),.i .i64],[.i .i64,.m (.s) (.b)]⟩ [] h2 [] 0 (fun x K v=>jV x.1 x.2.1 x.2.2 K v) (.s .n (.s .n (.s (.s (.s .n (.s (.s (.j ⟨[(1,.d .b 0),(5,.mp 1000008),(7,.d .s 1),(9,.d (.l (.s)) 2),(10,.d (.i .i64) 3),(11,.d (.i .i64) 4),(25,.d .b 6)],[(900000000,.rw 1),(900000001,.rw 2),(900000002,.rw 3),(900000003,.rw 4),(1000008,.map (.s) (.b) 5)],[.b,.s,.l (.s),.i .i64,.i .i64,.m (.s) (.b)],[.b]⟩ false .n) .n) .n)) .n) .n)))) .n)) .n))) Tryz.func200 rfl zCs ⟨ZU,trivial⟩ fun x=>by kernel_rfl
def ziw:Ct TS:=⟨[.d (.l (.st 1)) 0,.d (.i .i64) 1,.fn 85 [] []],h2,[.l (.st 1),.i .i64],.d .b 2,h2,[.b],false,fun x=>Qi x.1 x.2⟩
theorem zpv:za Tryz.prog 84∧ziw.OK Tryz.prog 84:=ctk (T:=[(85,zc6),(200,uw)]) (h:=.s .n (.s .n (.s (.s .n (.s (.l ⟨[(0,.d (.l (.st 1)) 0),(1,.d (.i .i64) 1),(2,.fn 85 [] []),(7,.row 1 7000001),(10,.d (.l (.st 1)) 0),(11,.d (.i .i64) 2),(12,.d (.i .i64) 3)],(h13 4),[.l (.st 1),.i .i64,.i .i64],[.i .i64,.l (.s)]⟩ [(0,.d (.l (.st 1)) 0),(1,.d (.i .i64) 1),(7,.row 1 7000001)] (h13 3) [.l (.s)] 0 (fun x K v=>ui x.1 x.2.1 x.2.2 K v) .n) .n)) .n))) Tryz.func84 rfl hbv84 ⟨zk5,kX,trivial⟩ fun x=>by kernel_rfl
def zc7:Ct TS:=⟨[.d (.st 3) 0],[],[.st 3],.d .s 1,[],[.s],false,fun x=>zcs x⟩
theorem zk6:za Tryz.prog 87∧zc7.OK Tryz.prog 87:=ctk (T:=[]) (h:=.n) Tryz.func87 rfl hbv87 trivial fun x=>by kernel_rfl
def YA:Ct TS:=⟨[.d (.l (.st 3)) 0,.d (.i .i64) 1,.fn 87 [] []],h2,[.l (.st 3),.i .i64],.d .b 2,h2,[.b],false,fun x=>Ar x.1 x.2⟩
theorem zgh:za Tryz.prog 86∧YA.OK Tryz.prog 86:=ctk (T:=[(87,zc7),(200,uw)]) (h:=.s .n (.s .n (.s (.s .n (.s (.l ⟨[(0,.d (.l (.st 3)) 0),(1,.d (.i .i64) 1),(2,.fn 87 [] []),(7,.row 1 7000001),(10,.d (.l (.st 3)) 0),(11,.d (.i .i64) 2),(12,.d (.i .i64) 3)],(h13 4),[.l (.st 3),.i .i64,.i .i64],[.i .i64,.l (.s)]⟩ [(0,.d (.l (.st 3)) 0),(1,.d (.i .i64) 1),(7,.row 1 7000001)] (h13 3) [.l (.s)] 0 (fun x K v=>jH x.1 x.2.1 x.2.2 K v) .n) .n)) .n))) Tryz.func86 rfl hbv86 ⟨zk6,kX,trivial⟩ fun x=>by kernel_rfl
def zc8:Ct TS:=⟨[.d (.st 5) 0],[],[.st 5],.d .s 1,[],[.s],false,fun x=>zct x⟩
theorem zk7:za Tryz.prog 89∧zc8.OK Tryz.prog 89:=ctk (T:=[]) (h:=.n) Tryz.func89 rfl hbv89 trivial fun x=>by kernel_rfl
def YB:Ct TS:=⟨[.d (.l (.st 5)) 0,.d (.i .i64) 1,.fn 89 [] []],h2,[.l (.st 5),.i .i64],.d .b 2,h2,[.b],false,fun x=>As x.1 x.2⟩
theorem zgi:za Tryz.prog 88∧YB.OK Tryz.prog 88:=ctk (T:=[(89,zc8),(200,uw)]) (h:=.s .n (.s .n (.s (.s .n (.s (.l ⟨[(0,.d (.l (.st 5)) 0),(1,.d (.i .i64) 1),(2,.fn 89 [] []),(7,.row 1 7000001),(10,.d (.l (.st 5)) 0),(11,.d (.i .i64) 2),(12,.d (.i .i64) 3)],(h13 4),[.l (.st 5),.i .i64,.i .i64],[.i .i64,.l (.s)]⟩ [(0,.d (.l (.st 5)) 0),(1,.d (.i .i64) 1),(7,.row 1 7000001)] (h13 3) [.l (.s)] 0 (fun x K v=>jI x.1 x.2.1 x.2.2 K v) .n) .n)) .n))) Tryz.func88 rfl hbv88 ⟨zk7,kX,trivial⟩ fun x=>by kernel_rfl
def zc9:Ct TS:=⟨[.d (.st 7) 0],[],[.st 7],.d .s 1,[],[.s],false,fun x=>zcu x⟩
theorem zk8:za Tryz.prog 91∧zc9.OK Tryz.prog 91:=ctk (T:=[]) (h:=.n) Tryz.func91 rfl hbv91 trivial fun x=>by kernel_rfl
def YC:Ct TS:=⟨[.d (.l (.st 7)) 0,.d (.i .i64) 1,.fn 91 [] []],h2,[.l (.st 7),.i .i64],.d .b 2,h2,[.b],false,fun x=>At x.1 x.2⟩
theorem zgj:za Tryz.prog 90∧YC.OK Tryz.prog 90:=ctk (T:=[(91,zc9),(200,uw)]) (h:=.s .n (.s .n (.s (.s .n (.s (.l ⟨[(0,.d (.l (.st 7)) 0),(1,.d (.i .i64) 1),(2,.fn 91 [] []),(7,.row 1 7000001),(10,.d (.l (.st 7)) 0),(11,.d (.i .i64) 2),(12,.d (.i .i64) 3)],(h13 4),[.l (.st 7),.i .i64,.i .i64],[.i .i64,.l (.s)]⟩ [(0,.d (.l (.st 7)) 0),(1,.d (.i .i64) 1),(7,.row 1 7000001)] (h13 3) [.l (.s)] 0 (fun x K v=>jJ x.1 x.2.1 x.2.2 K v) .n) .n)) .n))) Tryz.func90 rfl hbv90 ⟨zk8,kX,trivial⟩ fun x=>by kernel_rfl
def zda:Ct TS:=⟨[.d (.st 8) 0],[],[.st 8],.d .s 1,[],[.s],false,fun x=>zcv x⟩
theorem zk9:za Tryz.prog 93∧zda.OK Tryz.prog 93:=ctk (T:=[]) (h:=.n) Tryz.func93 rfl hbv93 trivial fun x=>by kernel_rfl
def YD:Ct TS:=⟨[.d (.l (.st 8)) 0,.d (.i .i64) 1,.fn 93 [] []],h2,[.l (.st 8),.i .i64],.d .b 2,h2,[.b],false,fun x=>Au x.1 x.2⟩
theorem zgk:za Tryz.prog 92∧YD.OK Tryz.prog 92:=ctk (T:=[(93,zda),(200,uw)]) (h:=.s .n (.s .n (.s (.s .n (.s (.l ⟨[(0,.d (.l (.st 8)) 0),(1,.d (.i .i64) 1),(2,.fn 93 [] []),(7,.row 1 7000001),(10,.d (.l (.st 8)) 0),(11,.d (.i .i64) 2),(12,.d (.i .i64) 3)],(h13 4),[.l (.st 8),.i .i64,.i .i64],[.i .i64,.l (.s)]⟩ [(0,.d (.l (.st 8)) 0),(1,.d (.i .i64) 1),(7,.row 1 7000001)] (h13 3) [.l (.s)] 0 (fun x K v=>jK x.1 x.2.1 x.2.2 K v) .n) .n)) .n))) Tryz.func92 rfl hbv92 ⟨zk9,kX,trivial⟩ fun x=>by kernel_rfl
def zdb:Ct TS:=⟨[.d (.st 10) 0],[],[.st 10],.d .s 1,[],[.s],false,fun x=>zcw x⟩
theorem zla:za Tryz.prog 95∧zdb.OK Tryz.prog 95:=ctk (T:=[]) (h:=.n) Tryz.func95 rfl hbv95 trivial fun x=>by kernel_rfl
def YE:Ct TS:=⟨[.d (.l (.st 10)) 0,.d (.i .i64) 1,.fn 95 [] []],h2,[.l (.st 10),.i .i64],.d .b 2,h2,[.b],false,fun x=>Av x.1 x.2⟩
theorem zgl:za Tryz.prog 94∧YE.OK Tryz.prog 94:=ctk (T:=[(95,zdb),(200,uw)]) (h:=.s .n (.s .n (.s (.s .n (.s (.l ⟨[(0,.d (.l (.st 10)) 0),(1,.d (.i .i64) 1),(2,.fn 95 [] []),(7,.row 1 7000001),(10,.d (.l (.st 10)) 0),(11,.d (.i .i64) 2),(12,.d (.i .i64) 3)],(h13 4),[.l (.st 10),.i .i64,.i .i64],[.i .i64,.l (.s)]⟩ [(0,.d (.l (.st 10)) 0),(1,.d (.i .i64) 1),(7,.row 1 7000001)] (h13 3) [.l (.s)] 0 (fun x K v=>jL x.1 x.2.1 x.2.2 K v) .n) .n)) .n))) Tryz.func94 rfl hbv94 ⟨zla,kX,trivial⟩ fun x=>by kernel_rfl
def VF(RK:Nat):Ct TS:=⟨[.d (.st 0) 0,.d (.i .i64) 1],h2,[.st 0,.i .i64],.d .b 2,h2,[.b],false,fun x=>zI RK x.1 x.2⟩
theorem zdc:∀RK,(VF RK).OK Tryz.prog 201
 |0=>(fun x r h=>nomatch (show(none:Option _)=some r from h))
 |RK+1=>(ctk (c:=VF (RK+1)) (T:=[(80,zc4),(201,VF RK)]) (h:=.s .n (.s (.s (.j ⟨[(1,.d (.i .i64) 0),(2,.ptr 1000002 0),(20,.d .b 6)],h14,k15,[.b]⟩ false .n) .n) (.s .n (.s .n (.s (.j ⟨[(1,.d (.i .i64) 0),(2,.ptr 1000002 0),(5,.ptr 1000005 0),(6,.d (.i .i64) 6)],(h16 1 2 3 4 5 9),k15,[.i .i64,.i .i64,.s,.s]⟩ true (.s .n (.s (.s .n (.s .n (.s (.j ⟨[(1,.d (.i .i64) 0),(2,.ptr 1000002 0),(5,.ptr 1000005 0),(6,.d (.i .i64) 1),(27,.d (.i .i64) 2),(35,.d .b 9)],(h16 2 3 4 5 6 8),[.i .i64,.i .i64,.i .i64,.i .i64,.s,.s,.l (.st 0),.i .i64,.s],[.b]⟩ false .n) (.s .n (.s .n (.s .n (.s (.j ⟨[(1,.d (.i .i64) 0),(2,.ptr 1000002 0),(5,.ptr 1000005 0),(6,.d (.i .i64) 1),(27,.d (.i .i64) 2),(53,.d .b 9)],(h16 2 3 4 5 6 8),[.i .i64,.i .i64,.i .i64,.i .i64,.s,.s,.l (.st 0),.i .i64,.s],[.b]⟩ false .n) .n))))))) .n))) (.s (.s (.j ⟨[(1,.d (.i .i64) 0),(2,.ptr 1000002 0),(98,.d .b 6)],h14,k15,[.b]⟩ false .n) .n) (.s (.s .n (.s (.lr ⟨[(1,.d (.i .i64) 0),(100,.d (.l (.st 0)) 1),(101,.d (.i .i64) 2),(102,.d (.i .i64) 3)],h2,[.i .i64,.l (.st 0),.i .i64],[.i .i64]⟩ [] h2 [] 1 (fun x K v=>yk (zI RK) x.1 x.2.1 x.2.2 K v) .n) .n)) .n))))))) Tryz.func201 rfl zpn ⟨ZU,⟨zpn,(zdc RK)⟩,trivial⟩ fun x=>by kernel_rfl).2
theorem ztx(RK:Nat):za Tryz.prog 201∧(VF RK).OK Tryz.prog 201:=⟨zpn,(zdc RK)⟩
def Hf:Ct TS:=⟨[.d (.st 0) 0],h2,[.st 0],.d .b 1,h2,[.b],false,fun x=>vt x⟩
theorem Km:za Tryz.prog 96∧Hf.OK Tryz.prog 96:=ctk (T:=[(201,VF KK)]) (h:=.n) Tryz.func96 rfl hbv96 ⟨(ztx KK),trivial⟩ fun x=>by kernel_rfl
def zdd:Ct TS:=⟨[.d (.st 2) 0],[],[.st 2],.d .s 1,[],[.s],false,fun x=>zcx x⟩
theorem zlb:za Tryz.prog 98∧zdd.OK Tryz.prog 98:=ctk (T:=[]) (h:=.n) Tryz.func98 rfl hbv98 trivial fun x=>by kernel_rfl
def YF:Ct TS:=⟨[.d (.l (.st 2)) 0,.d (.i .i64) 1,.fn 98 [] []],h2,[.l (.st 2),.i .i64],.d .b 2,h2,[.b],false,fun x=>Aw x.1 x.2⟩
theorem zgm:za Tryz.prog 97∧YF.OK Tryz.prog 97:=ctk (T:=[(98,zdd),(200,uw)]) (h:=.s .n (.s .n (.s (.s .n (.s (.l ⟨[(0,.d (.l (.st 2)) 0),(1,.d (.i .i64) 1),(2,.fn 98 [] []),(7,.row 1 7000001),(10,.d (.l (.st 2)) 0),(11,.d (.i .i64) 2),(12,.d (.i .i64) 3)],(h13 4),[.l (.st 2),.i .i64,.i .i64],[.i .i64,.l (.s)]⟩ [(0,.d (.l (.st 2)) 0),(1,.d (.i .i64) 1),(7,.row 1 7000001)] (h13 3) [.l (.s)] 0 (fun x K v=>jM x.1 x.2.1 x.2.2 K v) .n) .n)) .n))) Tryz.func97 rfl hbv97 ⟨zlb,kX,trivial⟩ fun x=>by kernel_rfl
def ZV:Ct TS:=⟨[.d (.i .i64) 0,.d (.i .i64) 1,.d (.l (.i .i64)) 2],[],[.i .i64,.i .i64,.l (.i .i64)],.d .b 3,[],[.b],false,fun x=>zx x.1 x.2.1 x.2.2⟩
theorem zde:za Tryz.prog 99∧ZV.OK Tryz.prog 99:=ctk (T:=[]) (h:=.s .n (.s (.s .n (.s (.lr ⟨[(0,.d (.i .i64) 0),(1,.d (.i .i64) 1),(9,.d (.l (.i .i64)) 2),(10,.d (.i .i64) 3),(11,.d (.i .i64) 4)],[],[.i .i64,.i .i64,.l (.i .i64),.i .i64],[.i .i64]⟩ [] [] [] 0 (fun x K v=>ku x.1 x.2.1 x.2.2.1 x.2.2.2 K v) (.s .n (.s .n (.s (.s (.s .n (.s (.j ⟨[(0,.d (.i .i64) 0),(1,.d (.i .i64) 1),(9,.d (.l (.i .i64)) 2),(10,.d (.i .i64) 3),(11,.d (.i .i64) 4),(22,.d .b 5)],[],[.i .i64,.i .i64,.l (.i .i64),.i .i64,.i .i64],[.b]⟩ false .n) .n)) .n) .n)))) .n)) .n)) Tryz.func99 rfl hbv99 trivial fun x=>by kernel_rfl
def YG:Ct TS:=⟨[.d (.l (.st 4)) 0],[],[.l (.st 4)],.d (.l (.st 14)) 1,[],[.l (.st 14)],false,fun x=>Ax x⟩
theorem zgn:za Tryz.prog 278∧YG.OK Tryz.prog 278:=ctk (T:=[]) (h:=.s .n (.s .n (.s (.s .n (.s (.l ⟨[(0,.d (.l (.st 4)) 0),(3,.row 4 1000007),(9,.d (.i .i64) 1),(10,.d (.i .i64) 2)],(h4 1000007 310 14 3),[.l (.st 4),.i .i64],[.i .i64,.l (.st 14)]⟩ [(3,.row 4 1000007)] (h4 1000007 310 14 2) [.l (.st 14)] 0 (fun x K v=>yU x.1 x.2 K v) .n) .n)) .n))) Tryz.func278 rfl zCt trivial fun x=>by kernel_rfl
def YH:Ct TS:=⟨[.d (.st 4) 0],[],[.st 4],.d .b 1,[],[.b],false,fun x=>JP x⟩
theorem zgo:za Tryz.prog 279∧YH.OK Tryz.prog 279:=ctk (T:=[]) (h:=.n) Tryz.func279 rfl zCu trivial fun x=>by kernel_rfl
def uN:Ct TS:=⟨[.d (.st 14) 0],[],[.st 14],.d .b 1,[],[.b],false,fun x=>yf x⟩
theorem JS:za Tryz.prog 280∧uN.OK Tryz.prog 280:=ctk (T:=[]) (h:=.n) Tryz.func280 rfl zCv trivial fun x=>by kernel_rfl
def VG:Ct TS:=⟨[.d (.i .i64) 0],[],[.i .i64],.d .b 1,[],[.b],false,fun x=>uj x⟩
theorem zdf:za Tryz.prog 331∧VG.OK Tryz.prog 331:=ctk (T:=[]) (h:=.n) Tryz.func331 rfl zCw trivial fun x=>by kernel_rfl
def Jf:Ct TS:=⟨[.d (.i .i64) 0,.d (.i .i64) 1],[],[.i .i64,.i .i64],.d (.i .i64) 2,[],[.i .i64],false,fun x=>wW x.1 x.2⟩
theorem WE:za Tryz.prog 314∧Jf.OK Tryz.prog 314:=ctk (T:=[(331,VG)]) (h:=.n) Tryz.func314 rfl zCx ⟨zdf,trivial⟩ fun x=>by kernel_rfl
def zix:Ct TS:=⟨[.d (.l (.i .i64)) 0],[],[.l (.i .i64)],.d (.i .i64) 1,[],[.i .i64],false,fun x=>Qj x⟩
theorem zpw:za Tryz.prog 313∧zix.OK Tryz.prog 313:=ctk (T:=[]) (h:=.s .n (.s .n (.s (.s .n (.s (.lr ⟨[(3,.d (.i .i64) 0),(6,.d (.l (.i .i64)) 1),(7,.d (.i .i64) 2),(8,.d (.i .i64) 3)],[],[.i .i64,.l (.i .i64),.i .i64],[.i .i64]⟩ [(3,.d (.i .i64) 0)] [] [] 0 (fun x K v=>vu x.1 x.2.1 x.2.2 K v) .n) .n)) .n))) Tryz.func313 rfl zCy trivial fun x=>by kernel_rfl
def VH:Ct TS:=⟨[.d (.st 4) 0,.d (.st 4) 1],[],[.st 4,.st 4],.d (.i .i64) 2,[],[.i .i64],false,fun x=>uk x.1 x.2⟩
theorem zdg:za Tryz.prog 281∧VH.OK Tryz.prog 281:=ctk (T:=[(314,Jf),(313,zix)]) (h:=.n) Tryz.func281 rfl zCz ⟨WE,zpw,trivial⟩ fun x=>by kernel_rfl
def uO:Ct TS:=⟨[.d (.st 14) 0,.d (.st 14) 1],[],[.st 14,.st 14],.d .b 2,[],[.b],false,fun x=>uL x.1 x.2⟩
theorem JT:za Tryz.prog 282∧uO.OK Tryz.prog 282:=ctk (T:=[]) (h:=.n) Tryz.func282 rfl zC0 trivial fun x=>by kernel_rfl
def zdh:Ct TS:=⟨[.d (.l (.st 4)) 0],[],[.l (.st 4)],.d .b 1,[],[.b],false,fun x=>Vq x⟩
theorem zlc:za Tryz.prog 202∧zdh.OK Tryz.prog 202:=ctk (T:=[(278,YG),(279,YH),(280,uN),(281,VH),(282,uO)]) (h:=.s .n (.s (.s (.j ⟨[(0,.d (.l (.st 4)) 0),(16,.d .b 1)],[],[.l (.st 4)],[.b]⟩ false .n) .n) (.s .n (.s (.s .n (.s (.lr ⟨[(0,.d (.l (.st 4)) 0),(3,.d (.l (.st 14)) 1),(19,.d (.l (.st 14)) 1),(20,.d (.i .i64) 2),(21,.d (.i .i64) 3)],[],[.l (.st 4),.l (.st 14),.i .i64],[.i .i64]⟩ [(3,.d (.l (.st 14)) 1)] [] [] 0 (fun x K v=>wH x.1 x.2.1 x.2.2 K v) (.s .n (.s .n (.s (.s (.s .n (.s .n (.s (.s (.j ⟨[(0,.d (.l (.st 4)) 0),(3,.d (.l (.st 14)) 1),(4,.d (.i .i64) 2),(19,.d (.l (.st 14)) 1),(20,.d (.i .i64) 3),(21,.d (.i .i64) 2),(61,.d .b 4)],[],[.l (.st 4),.l (.st 14),.i .i64,.i .i64],[.b]⟩ false .n) .n) (.s (.j ⟨[(0,.d (.l (.st 4)) 0),(3,.d (.l (.st 14)) 1),(19,.d (.l (.st 14)) 1),(20,.d (.i .i64) 2),(21,.d (.i .i64) 3),(74,.d .b 4)],[],[.l (.st 4),.l (.st 14),.i .i64,.i .i64],[.b]⟩ false .n) .n)))) .n) .n)))) .n)) (.s (.s .n (.s (.lr ⟨[(3,.d (.l (.st 14)) 0),(77,.d (.i .i64) 1),(78,.d (.i .i64) 2)],[],[.l (.st 14),.i .i64],[.i .i64]⟩ [(3,.d (.l (.st 14)) 0)] [] [] 2 (fun x K v=>wJ x.1 x.2 K v) (.s .n (.s .n (.s (.s (.s .n (.s .n (.s (.lr ⟨[(3,.d (.l (.st 14)) 0),(7,.d (.i .i64) 1),(8,.d (.i .i64) 3),(77,.d (.i .i64) 2),(78,.d (.i .i64) 1)],[],[.l (.st 14),.i .i64,.i .i64],[.i .i64]⟩ [(3,.d (.l (.st 14)) 0),(77,.d (.i .i64) 2),(78,.d (.i .i64) 1)] [] [] 4 (fun x K v=>wI x.1 x.2.1 x.2.2 K v) (.s .n (.s (.s (.s (.j ⟨[(3,.d (.l (.st 14)) 0),(7,.d (.i .i64) 1),(8,.d (.i .i64) 2),(77,.d (.i .i64) 3),(78,.d (.i .i64) 1),(106,.d .b 4)],[],[.l (.st 14),.i .i64,.i .i64,.i .i64],[.b]⟩ false .n) .n) .n) .n))) .n))) .n) .n)))) .n)) .n))))) Tryz.func202 rfl zC1 ⟨zgn,zgo,JS,zdg,JT,trivial⟩ fun x=>by kernel_rfl
def ziy:Ct TS:=⟨[.d (.l (.st 4)) 0],[],[.l (.st 4)],.d .b 1,[],[.b],false,fun x=>um x⟩
theorem zpx:za Tryz.prog 100∧ziy.OK Tryz.prog 100:=ctk (T:=[(202,zdh)]) (h:=.n) Tryz.func100 rfl zC2 ⟨zlc,trivial⟩ fun x=>by kernel_rfl
def AS:Ct TS:=⟨[.d (.l (.s)) 0,.d (.l (.s)) 1],[],[.l (.s),.l (.s)],.d .b 2,[],[.b],false,fun x=>wk x.1 x.2⟩
theorem VI:za Tryz.prog 152∧AS.OK Tryz.prog 152:=ctk (T:=[]) (h:=.s .n (.s .n (.s (.s .n (.s (.lr ⟨[(0,.d (.l (.s)) 0),(1,.d (.l (.s)) 1),(12,.d (.i .i64) 2),(13,.d (.i .i64) 3)],[],[.l (.s),.l (.s),.i .i64],[.i .i64]⟩ [] [] [] 0 (fun x K v=>vv x.1 x.2.1 x.2.2 K v) .n) .n)) .n))) Tryz.func152 rfl zC3 trivial fun x=>by kernel_rfl
def ve(RK:Nat):Ct TS:=⟨[.d (.l (.st 0)) 0,.d (.l (.st 0)) 1,.fn 42 [] []],[],[.l (.st 0),.l (.st 0)],.d .b 2,[],[.b],false,fun x=>xu RK x.1 x.2⟩
def kd(RK:Nat):Ct TS:=⟨[.d (.st 0) 0,.d (.st 0) 1],[],[.st 0,.st 0],.d .b 2,[],[.b],false,fun x=>xQ RK x.1 x.2⟩
theorem wg:∀RK,(ve RK).OK Tryz.prog 151∧(kd RK).OK Tryz.prog 42
 |0=>⟨(fun x r h=>nomatch (show(none:Option _)=some r from h)),(fun x r h=>nomatch (show(none:Option _)=some r from h))⟩
 |RK+1=>⟨(ctk (c:=ve (RK+1)) (T:=[(42,kd RK)]) (h:=.s .n (.s .n (.s (.s .n (.s (.lr ⟨[(1,.d (.l (.st 0)) 0),(2,.fn 42 [] []),(15,.d (.l (.st 0)) 1),(16,.d (.i .i64) 2),(17,.d (.i .i64) 3)],[],[.l (.st 0),.l (.st 0),.i .i64],[.i .i64]⟩ [] [] [] 0 (fun x K v=>xy (xQ RK) x.1 x.2.1 x.2.2 K v) .n) .n)) .n))) Tryz.func151 rfl zvl ⟨⟨zzb,(wg RK).2⟩,trivial⟩ fun x=>by kernel_rfl).2,(ctk (c:=kd (RK+1)) (T:=[(151,ve RK)]) (h:=.n) Tryz.func42 rfl zzb ⟨⟨zvl,(wg RK).1⟩,trivial⟩ fun x=>by kernel_rfl).2⟩
theorem VJ(RK:Nat):za Tryz.prog 42∧(kd RK).OK Tryz.prog 42:=⟨zzb,(wg RK).2⟩
def JU:Ct TS:=⟨[.d (.st 7) 0,.d (.st 7) 1],[],[.st 7,.st 7],.d .b 2,[],[.b],false,fun x=>vw x.1 x.2⟩
theorem VK:za Tryz.prog 53∧JU.OK Tryz.prog 53:=ctk (T:=[(152,AS),(42,kd KK)]) (h:=.s .n (.s (.s (.j ⟨[(2,.ptr 1000002 0),(3,.ptr 1000003 0),(27,.d .b 40)],(h17 1000002 0 1 2 3 4 5 6 7 8 9 10 11 12 13 14 15 16 17 18 19 1000003 20 21 22 23 24 25 26 27 28 29 30 31 32 33 34 35 36 37 38 39),k18,[.b]⟩ false .n) .n) (.s (.j ⟨[(2,.ptr 1000002 0),(3,.ptr 1000003 0),(5,.d .b 40)],(h17 1000002 0 1 2 3 4 5 6 7 8 9 10 11 12 13 14 15 16 17 18 19 1000003 20 21 22 23 24 25 26 27 28 29 30 31 32 33 34 35 36 37 38 39),k18,[.b]⟩ false .n) .n))) Tryz.func53 rfl hbv53 ⟨VI,(VJ KK),trivial⟩ fun x=>by kernel_rfl
def VL:Ct TS:=⟨[.d (.st 7) 0],h2,[.st 7],.d .b 1,h2,[.b],false,fun x=>kv x⟩
theorem zdi:za Tryz.prog 101∧VL.OK Tryz.prog 101:=ctk (T:=[(200,uw),(99,ZV),(96,Hf),(53,JU)]) (h:=.s .n (.s (.s (.j ⟨[(1,.ptr 1000001 0),(37,.d .b 20)],[(900000000,.rw 1),(900000001,.rw 2),(900000002,.rw 3),(900000003,.rw 4),(1000001,.box 39 [.d .s 0,.d (.l (.s)) 1,.d (.l (.s)) 2,.d (.i .i64) 3,.d (.i .i64) 4,.d (.i .i64) 5,.d .b 6,.d (.i .i64) 7,.d (.i .i64) 8,.d (.i .i64) 9,.d .s 10,.d .s 11,.d (.l (.st 0)) 12,.d (.i .i64) 13,.d (.i .i64) 14,.d (.i .i64) 15,.d (.i .i64) 16,.d (.i .i64) 17,.d (.i .i64) 18,.d (.i .i64) 19])],k19,[.b]⟩ false .n) .n) (.s .n (.s .n (.s (.j ⟨[(1,.ptr 1000001 0),(3,.ptr 1000003 0),(4,.d .b 20)],[(900000000,.rw 1),(900000001,.rw 2),(900000002,.rw 3),(900000003,.rw 4),(1000001,.box 39 [.d .s 0,.d (.l (.s)) 1,.d (.l (.s)) 2,.d (.i .i64) 3,.d (.i .i64) 4,.d (.i .i64) 5,.d .b 6,.d (.i .i64) 7,.d (.i .i64) 8,.d (.i .i64) 9,.d .s 10,.d .s 11,.d (.l (.st 0)) 12,.d (.i .i64) 13,.d (.i .i64) 14,.d (.i .i64) 15,.d (.i .i64) 16,.d (.i .i64) 17,.d (.i .i64) 18,.d (.i .i64) 19]),(1000003,.box 39 [.d .s 0,.d (.l (.s)) 1,.d (.l (.s)) 2,.d (.i .i64) 3,.d (.i .i64) 4,.d (.i .i64) 5,.d .b 6,.d (.i .i64) 7,.d (.i .i64) 21,.d (.i .i64) 22,.d .s 23,.d .s 24,.d (.l (.st 0)) 25,.d (.i .i64) 26,.d (.i .i64) 27,.d (.i .i64) 28,.d (.i .i64) 29,.d (.i .i64) 30,.d (.i .i64) 31,.d (.i .i64) 32])],k19,[.b,.i .i64,.i .i64,.s,.s,.l (.st 0),.i .i64,.i .i64,.i .i64,.i .i64,.i .i64,.i .i64,.i .i64]⟩ false .n) .n))))) Tryz.func101 rfl zC4 ⟨kX,zde,Km,VK,trivial⟩ fun x=>by kernel_rfl
def JV:Ct TS:=⟨[.d (.st 12) 0],h2,[.st 12],.d .b 1,h2,[.b],false,fun x=>qg x⟩
theorem Jg:za Tryz.prog 28∧JV.OK Tryz.prog 28:=ctk (T:=[(84,ziw),(86,YA),(88,YB),(90,YC),(92,YD),(94,YE),(96,Hf),(97,YF),(99,ZV),(100,ziy),(101,VL)]) (h:=.s .n (.s (.s (.j ⟨[(1,.ptr 1000001 0),(54,.d .b 8)],(h20 1000001 0 1 2 3 4 5 6 7),k1,[.b]⟩ false .n) .n) (.s (.s .n (.s (.lr ⟨[(1,.ptr 1000001 0),(56,.d (.l (.st 1)) 0),(57,.d (.i .i64) 1),(58,.d (.i .i64) 9)],(h20 1000001 0 2 3 4 5 6 7 8),[.l (.st 1),.i .i64,.l (.st 3),.l (.st 5),.l (.st 7),.l (.st 8),.l (.st 10),.l (.st 9),.i .i64],[.i .i64]⟩ [(1,.ptr 1000001 0)] (h20 1000001 0 2 3 4 5 6 7 8) [] 0 (fun x K v=>jW x.1 x.2.1 x.2.2.1 x.2.2.2.1 x.2.2.2.2.1 x.2.2.2.2.2.1 x.2.2.2.2.2.2.1 x.2.2.2.2.2.2.2.1 x.2.2.2.2.2.2.2.2 K v) .n) .n)) (.s (.s .n (.s (.lr ⟨[(1,.ptr 1000001 0),(68,.d (.l (.st 3)) 0),(69,.d (.i .i64) 1),(70,.d (.i .i64) 9)],(h20 1000001 2 0 3 4 5 6 7 8),[.l (.st 3),.i .i64,.l (.st 1),.l (.st 5),.l (.st 7),.l (.st 8),.l (.st 10),.l (.st 9),.i .i64],[.i .i64]⟩ [(1,.ptr 1000001 0)] (h20 1000001 2 0 3 4 5 6 7 8) [] 2 (fun x K v=>vx x.1 x.2.1 x.2.2.1 x.2.2.2.1 x.2.2.2.2.1 x.2.2.2.2.2.1 x.2.2.2.2.2.2.1 x.2.2.2.2.2.2.2.1 x.2.2.2.2.2.2.2.2 K v) (.s .n (.s .n (.s (.s (.s .n (.s (.s (.j ⟨[(1,.ptr 1000001 0),(6,.ptr 1000006 0),(68,.d (.l (.st 3)) 0),(69,.d (.i .i64) 1),(70,.d (.i .i64) 2),(84,.d .b 13)],[(900000000,.rw 1),(900000001,.rw 2),(900000002,.rw 3),(900000003,.rw 4),(1000001,.box 30 [.d (.l (.st 1)) 3,.d (.l (.st 3)) 0,.d (.l (.st 5)) 4,.d (.l (.st 7)) 5,.d (.l (.st 8)) 6,.d (.l (.st 10)) 7,.d (.l (.st 9)) 8,.d (.i .i64) 9]),(1000006,.box 70 [.d .s 10,.d (.l (.st 2)) 11,.d (.i .i64) 12])],[.l (.st 3),.i .i64,.i .i64,.l (.st 1),.l (.st 5),.l (.st 7),.l (.st 8),.l (.st 10),.l (.st 9),.i .i64,.s,.l (.st 2),.i .i64],[.b]⟩ false .n) .n) (.s .n (.s (.lr ⟨[(1,.ptr 1000001 0),(68,.d (.l (.st 3)) 0),(69,.d (.i .i64) 1),(70,.d (.i .i64) 2),(86,.d (.l (.st 2)) 3),(87,.d (.i .i64) 4),(88,.d (.i .i64) 12)],(h20 1000001 5 0 6 7 8 9 10 11),[.l (.st 3),.i .i64,.i .i64,.l (.st 2),.i .i64,.l (.st 1),.l (.st 5),.l (.st 7),.l (.st 8),.l (.st 10),.l (.st 9),.i .i64],[.i .i64]⟩ [(1,.ptr 1000001 0),(68,.d (.l (.st 3)) 0),(69,.d (.i .i64) 1),(70,.d (.i .i64) 2)] (h20 1000001 5 0 6 7 8 9 10 11) [] 4 (fun x K v=>qx x.1 x.2.1 x.2.2.1 x.2.2.2.1 x.2.2.2.2.1 x.2.2.2.2.2.1 x.2.2.2.2.2.2.1 x.2.2.2.2.2.2.2.1 x.2.2.2.2.2.2.2.2.1 x.2.2.2.2.2.2.2.2.2.1 x.2.2.2.2.2.2.2.2.2.2.1 x.2.2.2.2.2.2.2.2.2.2.2 K v) .n) .n)))) .n) .n)))) .n)) (.s (.s .n (.s (.lr ⟨[(1,.ptr 1000001 0),(100,.d (.l (.st 5)) 0),(101,.d (.i .i64) 1),(102,.d (.i .i64) 9)],(h20 1000001 2 3 0 4 5 6 7 8),[.l (.st 5),.i .i64,.l (.st 1),.l (.st 3),.l (.st 7),.l (.st 8),.l (.st 10),.l (.st 9),.i .i64],[.i .i64]⟩ [(1,.ptr 1000001 0)] (h20 1000001 2 3 0 4 5 6 7 8) [] 6 (fun x K v=>jX x.1 x.2.1 x.2.2.1 x.2.2.2.1 x.2.2.2.2.1 x.2.2.2.2.2.1 x.2.2.2.2.2.2.1 x.2.2.2.2.2.2.2.1 x.2.2.2.2.2.2.2.2 K v) .n) .n)) (.s (.s .n (.s (.lr ⟨[(1,.ptr 1000001 0),(112,.d (.l (.st 7)) 0),(113,.d (.i .i64) 1),(114,.d (.i .i64) 9)],(h20 1000001 2 3 4 0 5 6 7 8),[.l (.st 7),.i .i64,.l (.st 1),.l (.st 3),.l (.st 5),.l (.st 8),.l (.st 10),.l (.st 9),.i .i64],[.i .i64]⟩ [(1,.ptr 1000001 0)] (h20 1000001 2 3 4 0 5 6 7 8) [] 8 (fun x K v=>jY x.1 x.2.1 x.2.2.1 x.2.2.2.1 x.2.2.2.2.1 x.2.2.2.2.2.1 x.2.2.2.2.2.2.1 x.2.2.2.2.2.2.2.1 x.2.2.2.2.2.2.2.2 K v) .n) .n)) (.s (.s .n (.s (.lr ⟨[(1,.ptr 1000001 0),(123,.d (.l (.st 8)) 0),(124,.d (.i .i64) 1),(125,.d (.i .i64) 9)],(h20 1000001 2 3 4 5 0 6 7 8),[.l (.st 8),.i .i64,.l (.st 1),.l (.st 3),.l (.st 5),.l (.st 7),.l (.st 10),.l (.st 9),.i .i64],[.i .i64]⟩ [(1,.ptr 1000001 0)] (h20 1000001 2 3 4 5 0 6 7 8) [] 10 (fun x K v=>jZ x.1 x.2.1 x.2.2.1 x.2.2.2.1 x.2.2.2.2.1 x.2.2.2.2.2.1 x.2.2.2.2.2.2.1 x.2.2.2.2.2.2.2.1 x.2.2.2.2.2.2.2.2 K v) (.s .n (.s .n (.s (.s (.s .n (.s (.j ⟨[(1,.ptr 1000001 0),(123,.d (.l (.st 8)) 0),(124,.d (.i .i64) 1),(125,.d (.i .i64) 2),(146,.d .b 10)],(h20 1000001 3 4 5 6 0 7 8 9),[.l (.st 8),.i .i64,.i .i64,.l (.st 1),.l (.st 3),.l (.st 5),.l (.st 7),.l (.st 10),.l (.st 9),.i .i64],[.b]⟩ false .n) .n)) .n) .n)))) .n)) (.s (.s .n (.s (.lr ⟨[(1,.ptr 1000001 0),(149,.d (.l (.st 10)) 0),(150,.d (.i .i64) 1),(151,.d (.i .i64) 9)],(h20 1000001 2 3 4 5 6 0 7 8),[.l (.st 10),.i .i64,.l (.st 1),.l (.st 3),.l (.st 5),.l (.st 7),.l (.st 8),.l (.st 9),.i .i64],[.i .i64]⟩ [(1,.ptr 1000001 0)] (h20 1000001 2 3 4 5 6 0 7 8) [] 12 (fun x K v=>vy x.1 x.2.1 x.2.2.1 x.2.2.2.1 x.2.2.2.2.1 x.2.2.2.2.2.1 x.2.2.2.2.2.2.1 x.2.2.2.2.2.2.2.1 x.2.2.2.2.2.2.2.2 K v) (.s .n (.s .n (.s (.s (.s .n (.s (.s (.j ⟨[(1,.ptr 1000001 0),(16,.ptr 1000016 0),(149,.d (.l (.st 10)) 0),(150,.d (.i .i64) 1),(151,.d (.i .i64) 2),(167,.d .b 16)],[(900000000,.rw 1),(900000001,.rw 2),(900000002,.rw 3),(900000003,.rw 4),(1000001,.box 30 [.d (.l (.st 1)) 3,.d (.l (.st 3)) 4,.d (.l (.st 5)) 5,.d (.l (.st 7)) 6,.d (.l (.st 8)) 7,.d (.l (.st 10)) 0,.d (.l (.st 9)) 8,.d (.i .i64) 9]),(1000016,.box 79 [.d .s 10,.d (.i .i64) 11,.d (.i .i64) 12,.d (.i .i64) 13,.d (.i .i64) 14,.d (.l (.st 9)) 15])],[.l (.st 10),.i .i64,.i .i64,.l (.st 1),.l (.st 3),.l (.st 5),.l (.st 7),.l (.st 8),.l (.st 9),.i .i64,.s,.i .i64,.i .i64,.i .i64,.i .i64,.l (.st 9)],[.b]⟩ false .n) .n) (.s .n (.s (.lr ⟨[(1,.ptr 1000001 0),(149,.d (.l (.st 10)) 0),(150,.d (.i .i64) 1),(151,.d (.i .i64) 2),(173,.row 3 1000170),(174,.d (.i .i64) 3),(175,.d (.i .i64) 12)],(h21 4 5 6 7 8 9 10 11),[.l (.st 10),.i .i64,.i .i64,.i .i64,.l (.st 1),.l (.st 3),.l (.st 5),.l (.st 7),.l (.st 8),.l (.st 9),.i .i64,.l (.st 9)],[.i .i64]⟩ [(1,.ptr 1000001 0),(149,.d (.l (.st 10)) 0),(150,.d (.i .i64) 1),(151,.d (.i .i64) 2)] (h20 1000001 4 5 6 7 8 0 9 10) [] 14 (fun x K v=>qy x.1 x.2.1 x.2.2.1 x.2.2.2.1 x.2.2.2.2.1 x.2.2.2.2.2.1 x.2.2.2.2.2.2.1 x.2.2.2.2.2.2.2.1 x.2.2.2.2.2.2.2.2.1 x.2.2.2.2.2.2.2.2.2.1 x.2.2.2.2.2.2.2.2.2.2.1 x.2.2.2.2.2.2.2.2.2.2.2 K v) (.s .n (.s .n (.s (.s (.s .n (.s (.j ⟨[(1,.ptr 1000001 0),(149,.d (.l (.st 10)) 0),(150,.d (.i .i64) 1),(151,.d (.i .i64) 2),(173,.row 3 1000170),(174,.d (.i .i64) 3),(175,.d (.i .i64) 4),(192,.d .b 13)],(h21 5 6 7 8 9 10 11 12),[.l (.st 10),.i .i64,.i .i64,.i .i64,.i .i64,.l (.st 1),.l (.st 3),.l (.st 5),.l (.st 7),.l (.st 8),.l (.st 9),.i .i64,.l (.st 9)],[.b]⟩ false .n) .n)) .n) .n)))) .n)))) .n) .n)))) .n)) (.s (.s .n (.s (.lr ⟨[(1,.ptr 1000001 0),(196,.d (.l (.st 9)) 0),(197,.d (.i .i64) 1),(198,.d (.i .i64) 9)],(h20 1000001 2 3 4 5 6 7 0 8),[.l (.st 9),.i .i64,.l (.st 1),.l (.st 3),.l (.st 5),.l (.st 7),.l (.st 8),.l (.st 10),.i .i64],[.i .i64]⟩ [(1,.ptr 1000001 0)] (h20 1000001 2 3 4 5 6 7 0 8) [] 16 (fun x K v=>j3 x.1 x.2.1 x.2.2.1 x.2.2.2.1 x.2.2.2.2.1 x.2.2.2.2.2.1 x.2.2.2.2.2.2.1 x.2.2.2.2.2.2.2.1 x.2.2.2.2.2.2.2.2 K v) (.s .n (.s .n (.s (.s (.s .n (.s (.j ⟨[(1,.ptr 1000001 0),(196,.d (.l (.st 9)) 0),(197,.d (.i .i64) 1),(198,.d (.i .i64) 2),(215,.d .b 10)],(h20 1000001 3 4 5 6 7 8 0 9),[.l (.st 9),.i .i64,.i .i64,.l (.st 1),.l (.st 3),.l (.st 5),.l (.st 7),.l (.st 8),.l (.st 10),.i .i64],[.b]⟩ false .n) .n)) .n) .n)))) .n)) .n))))))))) Tryz.func28 rfl hbv28 ⟨zpv,zgh,zgi,zgj,zgk,zgl,Km,zgm,zde,zpx,zdi,trivial⟩ fun x=>by kernel_rfl
def ZW:Ct TS:=⟨[.d (.st 12) 0],[],[.st 12],.ag [.d (.i .i64) 1,.d .s 2,.d .s 3,.d (.i .i64) 4,.d .s 5,.d (.l (.s)) 6,.d (.l (.s)) 7,.d (.i .i64) 8,.d (.i .i64) 9,.d (.i .i64) 10,.d .b 11,.d (.i .i64) 12,.d (.i .i64) 13,.d (.i .i64) 14,.d .s 15,.d .s 16,.d (.l (.st 0)) 17,.d (.i .i64) 18,.d (.i .i64) 19,.d (.i .i64) 20,.d (.i .i64) 21,.d (.i .i64) 22,.d (.i .i64) 23,.d (.i .i64) 24,.d (.i .i64) 25,.d (.i .i64) 26,.d .s 27,.d .s 28,.d (.l (.st 0)) 29,.d (.l (.st 4)) 30],(h22 7000001 1 2 3 4 5 6 7 8 9 10 11 12 13 14 15 16 17 18 19 20 21 22 23 24 25 26 27 28 29 30),k23,false,fun x=>Ay x⟩
theorem zdj:za Tryz.prog 73∧ZW.OK Tryz.prog 73:=ctg (cd:=cdT) (nb:=nbT) (rc:=[(2,7000001,0)]) (T:=[]) (h:=.s .n (.s .n (.s .n (.s .n (.s (.j ⟨[(2,.ptr 1000002 0),(4,.ptr 1000004 0)],(h24 1 0 1 2 2 0 0 0 3 0 0 0 1 1 4 0 0 0 0 0 0 0 0 0 1 1 4 5 1000004 6 7 1 9 1 2 2 0 0 0 3 0 0 0 1 1 4 0 0 0 0 0 0 0 0 0 1 1 4 8),[.i .i64,.s,.l (.s),.b,.l (.st 0),.l (.st 4),.i .i64,.s,.l (.st 4)],[.i .i64]⟩ false .n) .n))))) Tryz.func73 rfl hbv73 trivial fun x=>by kernel_rfl
def xf:Ct TS:=⟨[.d (.l (.st 4)) 0,.d (.l (.st 4)) 1],[],[.l (.st 4),.l (.st 4)],.d .b 2,[],[.b],false,fun x=>ya x.1 x.2⟩
theorem xS:za Tryz.prog 46∧xf.OK Tryz.prog 46:=ctk (T:=[]) (h:=.s .n (.s .n (.s (.s .n (.s (.lr ⟨[(0,.d (.l (.st 4)) 0),(1,.d (.l (.st 4)) 1),(12,.d (.i .i64) 2),(13,.d (.i .i64) 3)],[],[.l (.st 4),.l (.st 4),.i .i64],[.i .i64]⟩ [] [] [] 0 (fun x K v=>wA x.1 x.2.1 x.2.2 K v) .n) .n)) .n))) Tryz.func46 rfl hbv46 trivial fun x=>by kernel_rfl
def ziz:Ct TS:=⟨[.d (.st 1) 0,.d (.st 1) 1],[],[.st 1,.st 1],.d .b 2,[],[.b],false,fun x=>Qk x.1 x.2⟩
theorem zpy:za Tryz.prog 41∧ziz.OK Tryz.prog 41:=ctk (T:=[(42,kd KK)]) (h:=.n) Tryz.func41 rfl hbv41 ⟨(VJ KK),trivial⟩ fun x=>by kernel_rfl
def js:Ct TS:=⟨[.d (.l (.st 1)) 0,.d (.l (.st 1)) 1,.fn 41 [] []],[],[.l (.st 1),.l (.st 1)],.d .b 2,[],[.b],false,fun x=>yt x.1 x.2⟩
theorem oJ:za Tryz.prog 50∧js.OK Tryz.prog 50:=ctk (T:=[(41,ziz)]) (h:=.s .n (.s .n (.s (.s .n (.s (.lr ⟨[(1,.d (.l (.st 1)) 0),(2,.fn 41 [] []),(15,.d (.l (.st 1)) 1),(16,.d (.i .i64) 2),(17,.d (.i .i64) 3)],[],[.l (.st 1),.l (.st 1),.i .i64],[.i .i64]⟩ [] [] [] 0 (fun x K v=>yV x.1 x.2.1 x.2.2 K v) .n) .n)) .n))) Tryz.func50 rfl hbv50 ⟨zpy,trivial⟩ fun x=>by kernel_rfl
def uP:Ct TS:=⟨[.d (.l (.st 2)) 0,.d (.l (.st 2)) 1],[],[.l (.st 2),.l (.st 2)],.d .b 2,[],[.b],false,fun x=>wq x.1 x.2⟩
theorem JW:za Tryz.prog 44∧uP.OK Tryz.prog 44:=ctk (T:=[]) (h:=.s .n (.s .n (.s (.s .n (.s (.lr ⟨[(0,.d (.l (.st 2)) 0),(1,.d (.l (.st 2)) 1),(12,.d (.i .i64) 2),(13,.d (.i .i64) 3)],[],[.l (.st 2),.l (.st 2),.i .i64],[.i .i64]⟩ [] [] [] 0 (fun x K v=>wB x.1 x.2.1 x.2.2 K v) .n) .n)) .n))) Tryz.func44 rfl hbv44 trivial fun x=>by kernel_rfl
def zi0:Ct TS:=⟨[.d (.st 3) 0,.d (.st 3) 1],[],[.st 3,.st 3],.d .b 2,[],[.b],false,fun x=>Ql x.1 x.2⟩
theorem zpz:za Tryz.prog 43∧zi0.OK Tryz.prog 43:=ctk (T:=[(44,uP)]) (h:=.n) Tryz.func43 rfl hbv43 ⟨JW,trivial⟩ fun x=>by kernel_rfl
def jt:Ct TS:=⟨[.d (.l (.st 3)) 0,.d (.l (.st 3)) 1,.fn 43 [] []],[],[.l (.st 3),.l (.st 3)],.d .b 2,[],[.b],false,fun x=>yu x.1 x.2⟩
theorem oK:za Tryz.prog 51∧jt.OK Tryz.prog 51:=ctk (T:=[(43,zi0)]) (h:=.s .n (.s .n (.s (.s .n (.s (.lr ⟨[(1,.d (.l (.st 3)) 0),(2,.fn 43 [] []),(15,.d (.l (.st 3)) 1),(16,.d (.i .i64) 2),(17,.d (.i .i64) 3)],[],[.l (.st 3),.l (.st 3),.i .i64],[.i .i64]⟩ [] [] [] 0 (fun x K v=>yW x.1 x.2.1 x.2.2 K v) .n) .n)) .n))) Tryz.func51 rfl hbv51 ⟨zpz,trivial⟩ fun x=>by kernel_rfl
def ju:Ct TS:=⟨[.d (.l (.st 7)) 0,.d (.l (.st 7)) 1,.fn 53 [] []],[],[.l (.st 7),.l (.st 7)],.d .b 2,[],[.b],false,fun x=>yv x.1 x.2⟩
theorem oL:za Tryz.prog 52∧ju.OK Tryz.prog 52:=ctk (T:=[(53,JU)]) (h:=.s .n (.s .n (.s (.s .n (.s (.lr ⟨[(1,.d (.l (.st 7)) 0),(2,.fn 53 [] []),(15,.d (.l (.st 7)) 1),(16,.d (.i .i64) 2),(17,.d (.i .i64) 3)],[],[.l (.st 7),.l (.st 7),.i .i64],[.i .i64]⟩ [] [] [] 0 (fun x K v=>yX x.1 x.2.1 x.2.2 K v) .n) .n)) .n))) Tryz.func52 rfl hbv52 ⟨VK,trivial⟩ fun x=>by kernel_rfl
def zi1:Ct TS:=⟨[.d (.st 5) 0,.d (.st 5) 1],[],[.st 5,.st 5],.d .b 2,[],[.b],false,fun x=>Qm x.1 x.2⟩
theorem zp0:za Tryz.prog 45∧zi1.OK Tryz.prog 45:=ctk (T:=[(46,xf)]) (h:=.n) Tryz.func45 rfl hbv45 ⟨xS,trivial⟩ fun x=>by kernel_rfl
def jv:Ct TS:=⟨[.d (.l (.st 5)) 0,.d (.l (.st 5)) 1,.fn 45 [] []],[],[.l (.st 5),.l (.st 5)],.d .b 2,[],[.b],false,fun x=>yw x.1 x.2⟩
theorem oM:za Tryz.prog 54∧jv.OK Tryz.prog 54:=ctk (T:=[(45,zi1)]) (h:=.s .n (.s .n (.s (.s .n (.s (.lr ⟨[(1,.d (.l (.st 5)) 0),(2,.fn 45 [] []),(15,.d (.l (.st 5)) 1),(16,.d (.i .i64) 2),(17,.d (.i .i64) 3)],[],[.l (.st 5),.l (.st 5),.i .i64],[.i .i64]⟩ [] [] [] 0 (fun x K v=>yY x.1 x.2.1 x.2.2 K v) .n) .n)) .n))) Tryz.func54 rfl hbv54 ⟨zp0,trivial⟩ fun x=>by kernel_rfl
def zi2:Ct TS:=⟨[.d (.st 8) 0,.d (.st 8) 1],[],[.st 8,.st 8],.d .b 2,[],[.b],false,fun x=>Qn x.1 x.2⟩
theorem zp1:za Tryz.prog 47∧zi2.OK Tryz.prog 47:=ctk (T:=[(46,xf)]) (h:=.n) Tryz.func47 rfl hbv47 ⟨xS,trivial⟩ fun x=>by kernel_rfl
def jw:Ct TS:=⟨[.d (.l (.st 8)) 0,.d (.l (.st 8)) 1,.fn 47 [] []],[],[.l (.st 8),.l (.st 8)],.d .b 2,[],[.b],false,fun x=>yx x.1 x.2⟩
theorem oN:za Tryz.prog 55∧jw.OK Tryz.prog 55:=ctk (T:=[(47,zi2)]) (h:=.s .n (.s .n (.s (.s .n (.s (.lr ⟨[(1,.d (.l (.st 8)) 0),(2,.fn 47 [] []),(15,.d (.l (.st 8)) 1),(16,.d (.i .i64) 2),(17,.d (.i .i64) 3)],[],[.l (.st 8),.l (.st 8),.i .i64],[.i .i64]⟩ [] [] [] 0 (fun x K v=>yZ x.1 x.2.1 x.2.2 K v) .n) .n)) .n))) Tryz.func55 rfl hbv55 ⟨zp1,trivial⟩ fun x=>by kernel_rfl
def je:Ct TS:=⟨[.d (.l (.st 9)) 0,.d (.l (.st 9)) 1],[],[.l (.st 9),.l (.st 9)],.d .b 2,[],[.b],false,fun x=>y8 x.1 x.2⟩
theorem qE:za Tryz.prog 49∧je.OK Tryz.prog 49:=ctk (T:=[]) (h:=.s .n (.s .n (.s (.s .n (.s (.lr ⟨[(0,.d (.l (.st 9)) 0),(1,.d (.l (.st 9)) 1),(12,.d (.i .i64) 2),(13,.d (.i .i64) 3)],[],[.l (.st 9),.l (.st 9),.i .i64],[.i .i64]⟩ [] [] [] 0 (fun x K v=>wC x.1 x.2.1 x.2.2 K v) .n) .n)) .n))) Tryz.func49 rfl hbv49 trivial fun x=>by kernel_rfl
def zi3:Ct TS:=⟨[.d (.st 10) 0,.d (.st 10) 1],[],[.st 10,.st 10],.d .b 2,[],[.b],false,fun x=>Qo x.1 x.2⟩
theorem zp2:za Tryz.prog 48∧zi3.OK Tryz.prog 48:=ctk (T:=[(49,je)]) (h:=.n) Tryz.func48 rfl hbv48 ⟨qE,trivial⟩ fun x=>by kernel_rfl
def jx:Ct TS:=⟨[.d (.l (.st 10)) 0,.d (.l (.st 10)) 1,.fn 48 [] []],[],[.l (.st 10),.l (.st 10)],.d .b 2,[],[.b],false,fun x=>yy x.1 x.2⟩
theorem oO:za Tryz.prog 56∧jx.OK Tryz.prog 56:=ctk (T:=[(48,zi3)]) (h:=.s .n (.s .n (.s (.s .n (.s (.lr ⟨[(1,.d (.l (.st 10)) 0),(2,.fn 48 [] []),(15,.d (.l (.st 10)) 1),(16,.d (.i .i64) 2),(17,.d (.i .i64) 3)],[],[.l (.st 10),.l (.st 10),.i .i64],[.i .i64]⟩ [] [] [] 0 (fun x K v=>y0 x.1 x.2.1 x.2.2 K v) .n) .n)) .n))) Tryz.func56 rfl hbv56 ⟨zp2,trivial⟩ fun x=>by kernel_rfl
def zi4:Ct TS:=⟨[.d (.st 12) 0,.d (.st 12) 1],[],[.st 12,.st 12],.d .b 2,[],[.b],false,fun x=>kU x.1 x.2⟩
theorem zgp:za Tryz.prog 14∧zi4.OK Tryz.prog 14:=ctk (T:=[(50,js),(51,jt),(52,ju),(54,jv),(55,jw),(56,jx),(49,je)]) (h:=.s .n (.s .n (.s .n (.s .n (.s .n (.s .n (.s (.j ⟨[(2,.ptr 1000002 0),(3,.ptr 1000003 0),(7,.fn 45 [] []),(8,.fn 47 [] []),(9,.fn 48 [] []),(10,.d .b 16)],(h25 0 1 2 3 4 5 6 7 1000003 8 9 10 11 12 13 14 15),k26,[.b]⟩ false .n) (.s (.j ⟨[(2,.ptr 1000002 0),(3,.ptr 1000003 0),(10,.d .b 0),(11,.d .b 17)],(h25 1 2 3 4 5 6 7 8 1000003 9 10 11 12 13 14 15 16),[.b,.l (.st 1),.l (.st 3),.l (.st 5),.l (.st 7),.l (.st 8),.l (.st 10),.l (.st 9),.i .i64,.l (.st 1),.l (.st 3),.l (.st 5),.l (.st 7),.l (.st 8),.l (.st 10),.l (.st 9),.i .i64],[.b]⟩ false .n) .n)))))))) Tryz.func14 rfl hbv14 ⟨oJ,oK,oL,oM,oN,oO,qE,trivial⟩ fun x=>by kernel_rfl
def Qq:Ct TS:=⟨[.d (.st 13) 0,.d (.st 13) 1],[],[.st 13,.st 13],.d .b 2,[],[.b],false,fun x=>wX x.1 x.2⟩
theorem VM:za Tryz.prog 26∧Qq.OK Tryz.prog 26:=ctk (T:=[(46,xf),(14,zi4)]) (h:=.s .n (.s (.j ⟨[(2,.ptr 1000002 0),(3,.ptr 1000003 0),(5,.d .b 60)],(h24 2 3 4 5 6 7 8 9 10 11 12 13 14 15 16 17 18 19 20 21 22 23 24 25 26 27 28 29 1000003 30 31 32 33 34 35 36 37 38 39 40 41 42 43 44 45 46 47 48 49 50 51 52 53 54 55 56 57 58 59),k27,[.b]⟩ false .n) .n)) Tryz.func26 rfl hbv26 ⟨xS,zgp,trivial⟩ fun x=>by kernel_rfl
def qF:Ct TS:=⟨[.d (.st 13) 0],h2,[.st 13],.d .b 1,h2,[.b],false,fun x=>wY x⟩
theorem qG:za Tryz.prog 22∧qF.OK Tryz.prog 22:=ctk (T:=[(62,VE),(28,JV),(73,ZW),(26,Qq),(80,zc4)]) (h:=.s .n (.s .n (.s (.s (.j ⟨[(1,.ptr 1000001 0),(36,.d .b 30)],(h5 1000001 0 1 2 3 4 5 6 7 8 9 10 11 12 13 14 15 16 17 18 19 20 21 22 23 24 25 26 27 28 29),k23,[.b]⟩ false .n) .n) .n))) Tryz.func22 rfl hbv22 ⟨Yz,Jg,zdj,VM,ZU,trivial⟩ fun x=>by kernel_rfl
def VN:Ct TS:=⟨[.d (.st 13) 0],h2,[.st 13],.d .b 1,h2,[.b],false,fun x=>Vr x⟩
theorem zdk:za Tryz.prog 61∧VN.OK Tryz.prog 61:=ctk (T:=[(22,qF)]) (h:=.n) Tryz.func61 rfl hbv61 ⟨qG,trivial⟩ fun x=>by kernel_rfl
def kY:Ct TS:=⟨[.d (.l (.st 13)) 0,.fn 61 [] []],h2,[.l (.st 13)],.d (.i .i64) 1,h2,[.i .i64],false,fun x=>kV x⟩
theorem Hg:za Tryz.prog 169∧kY.OK Tryz.prog 169:=ctk (T:=[(61,VN)]) (h:=.s .n (.s (.s .n (.s (.lr ⟨[(0,.d (.l (.st 13)) 0),(1,.fn 61 [] []),(7,.d (.i .i64) 1),(8,.d (.i .i64) 2)],h2,[.l (.st 13),.i .i64],[.i .i64]⟩ [] h2 [] 0 (fun x K v=>xz x.1 x.2 K v) .n) .n)) .n)) Tryz.func169 rfl zC5 ⟨zdk,trivial⟩ fun x=>by kernel_rfl
def vQ:Ct TS:=⟨[.d (.l (.st 13)) 0,.fn 61 [] []],h2,[.l (.st 13)],.d .b 1,h2,[.b],false,fun x=>vN x⟩
theorem uV:za Tryz.prog 60∧vQ.OK Tryz.prog 60:=ctk (T:=[(169,kY)]) (h:=.n) Tryz.func60 rfl hbv60 ⟨Hg,trivial⟩ fun x=>by kernel_rfl
def zp3:Ct TS:=⟨[.d (.i .i64) 0],h2,[.i .i64],.d .s 1,h2,[.s],false,fun x=>zpa x⟩
theorem zp4:zp3.OK Tryz.prog 177:=fun x r h=>kmp (by kernel_rfl) (zB8 x r h)
def zdl:Ct TS:=⟨[.d .s 0,.d .s 1,.d .s 2,.d (.i .i64) 3],h2,[.s,.s,.s,.i .i64],.d .s 4,h2,[.s],false,fun x=>zcy x.1 x.2.1 x.2.2.1 x.2.2.2⟩
theorem zld:zdl.OK Tryz.prog 176:=fun x r h=>kmp (by kernel_rfl) (zo5 x.1 x.2.1 x.2.2.1 x.2.2.2 r h)
def zi5:Ct TS:=⟨[.d (.st 13) 0],h2,[.st 13],.d .s 1,h2,[.s],false,fun x=>zim x⟩
theorem zp5:za Tryz.prog 64∧zi5.OK Tryz.prog 64:=ctk (T:=[(177,zp3),(176,zdl)]) (h:=.n) Tryz.func64 rfl hbv64 ⟨⟨zvm,zp4⟩,⟨zC6,zld⟩,trivial⟩ fun x=>by kernel_rfl
def zp6:Ct TS:=⟨[.ptr 1 0,.d .s 1],[(1,.gn 0 (.s) 0)],[.s,.s],.tup [.d (.i .i64) 2,.nili],[(1,.gn 0 (.s) 3)],[.i .i64,.s],false,fun x=>zpb x.1 x.2⟩
theorem zty:zp6.OK Tryz.prog 65:=fun x r h=>by
 obtain⟨_,h1,h2⟩:=bind_some h;cases h2;exact kmp (by kernel_rfl) (zyi bldTB 1 x.1 x.2 (yr h1))
def zp7:Ct TS:=⟨[.ptr 1 0],[(1,.gn 0 (.s) 0)],[.s],.d (.i .i64) 1,[(1,.gn 0 (.s) 0)],[.i .i64],false,fun x=>zpc x⟩
theorem ztz:zp7.OK Tryz.prog 66:=fun x r h=>by
 cases h;exact kmp (by kernel_rfl) (zyj (T:=107) 1 x)
def YI:Ct TS:=⟨[.ptr 1 0],[(1,.gn 0 (.s) 0)],[.s],.d .s 1,[(1,.gn 0 (.s) 0)],[.s],false,fun x=>Ys x⟩
theorem zgq:YI.OK Tryz.prog 67:=fun x r h=>by
 cases h;exact kmp (by kernel_rfl) (zkw (T:=107) 1 x)
def zdm:Ct TS:=⟨[.d (.l (.st 13)) 0],h2,[.l (.st 13)],.tup [.d .s 1,.d (.i .i64) 2],h2,[.s,.i .i64],false,fun x=>zcz x⟩
theorem zle:za Tryz.prog 17∧zdm.OK Tryz.prog 17:=ctk (T:=[(60,vQ),(22,qF),(62,VE),(64,zi5),(65,zp6),(66,zp7),(67,YI)]) (h:=.s .n (.s (.s (.j ⟨[(0,.d (.l (.st 13)) 0),(19,.d .b 1)],h2,[.l (.st 13)],[.b]⟩ false .n) .n) (.s .n (.s .n (.s (.s .n (.s (.lr ⟨[(4,.ptr 1000004 0),(5,.d (.i .i64) 0),(20,.d (.l (.st 13)) 1),(21,.d (.i .i64) 2),(22,.d (.i .i64) 3)],(h28 4),[.i .i64,.l (.st 13),.i .i64],[.i .i64,.s]⟩ [(4,.ptr 1000004 0),(5,.d (.i .i64) 0)] (h28 3) [.s] 0 (fun x K v=>oD x.1 x.2.1 x.2.2 K v) .n) .n)) (.s (.s (.j ⟨[(4,.ptr 1000004 0),(52,.d .b 1)],(h28 0),[.s],[.b]⟩ false .n) .n) .n)))))) Tryz.func17 rfl hbv17 ⟨uV,qG,Yz,zp5,⟨hbv65,zty⟩,⟨hbv66,ztz⟩,⟨hbv67,zgq⟩,trivial⟩ fun x=>by kernel_rfl
def VO:Ct TS:=⟨[.d .s 0],[],[.s],.fn 103 [] [.ptr 7000001 0],[(7000001,.box 9 [.d .s 1])],[.s],false,fun x=>vz x⟩
theorem zdn:za Tryz.prog 102∧VO.OK Tryz.prog 102:=ctk (T:=[]) (h:=.n) Tryz.func102 rfl zC7 trivial fun x=>by kernel_rfl
def ux:Ct TS:=⟨[.d (.st 7) 0,.ptr 1 0],[(1,.box 9 [.d .s 1])],[.st 7,.s],.d .b 2,[(1,.box 9 [.d .s 1])],[.b],false,fun x=>uo x.1 x.2⟩
theorem AT:za Tryz.prog 103∧ux.OK Tryz.prog 103:=ctk (T:=[]) (h:=.n) Tryz.func103 rfl zC8 trivial fun x=>by kernel_rfl
def wh:Ct TS:=⟨[.d (.l (.st 7)) 0,.fn 103 [] [.ptr 1 0]],[(1,.box 9 [.d .s 1])],[.l (.st 7),.s],.d (.i .i64) 2,[(1,.box 9 [.d .s 1])],[.i .i64],false,fun x=>yz x.1 x.2⟩
theorem vR:za Tryz.prog 108∧wh.OK Tryz.prog 108:=ctk (T:=[(103,ux)]) (h:=.s .n (.s (.s .n (.s (.lr ⟨[(0,.d (.l (.st 7)) 1),(1,.fn 103 [] [.ptr 1 0]),(7,.d (.i .i64) 2),(8,.d (.i .i64) 3)],[(1,.box 9 [.d .s 0])],[.s,.l (.st 7),.i .i64],[.i .i64]⟩ [] [(1,.box 9 [.d .s 0])] [] 0 (fun x K v=>zK x.1 x.2.1 x.2.2 K v) .n) .n)) .n)) Tryz.func108 rfl zis ⟨AT,trivial⟩ fun x=>by kernel_rfl
def y4:Ct TS:=⟨[.d (.l (.st 7)) 0,.fn 103 [] [.ptr 1 0]],[(1,.box 9 [.d .s 1])],[.l (.st 7),.s],.d .b 2,[(1,.box 9 [.d .s 1])],[.b],false,fun x=>zY x.1 x.2⟩
theorem wM:za Tryz.prog 104∧y4.OK Tryz.prog 104:=ctk (T:=[(108,wh)]) (h:=.n) Tryz.func104 rfl zC9 ⟨vR,trivial⟩ fun x=>by kernel_rfl
def wx:Ct TS:=⟨[.d (.l (.st 7)) 0],[],[.l (.st 7)],.row 20 7000001,(h4 7000001 39 7 1),[.l (.st 7)],false,fun x=>yo x⟩
theorem vC:za Tryz.prog 131∧wx.OK Tryz.prog 131:=ctk (T:=[]) (h:=.n) Tryz.func131 rfl zDa trivial (fun x=>match x with|[]=>by kernel_rfl|_::_=>by kernel_rfl)
def VP:Ct TS:=⟨[.d (.st 7) 0],[],[.st 7],.d .b 1,[],[.b],false,fun x=>Vs x⟩
theorem zdo:za Tryz.prog 106∧VP.OK Tryz.prog 106:=ctk (T:=[]) (h:=.n) Tryz.func106 rfl zDb trivial fun x=>by kernel_rfl
def jy:Ct TS:=⟨[.row 20 1,.fn 106 [] []],(h4 1 39 7 0),[.l (.st 7)],.d (.i .i64) 1,(h4 1 39 7 0),[.i .i64],false,fun x=>xX x⟩
theorem oP:za Tryz.prog 108∧jy.OK Tryz.prog 108:=ctk (T:=[(106,VP)]) (h:=.s .n (.s (.s .n (.s (.lr ⟨[(0,.row 20 1),(1,.fn 106 [] []),(7,.d (.i .i64) 1),(8,.d (.i .i64) 2)],(h4 1 39 7 0),[.l (.st 7),.i .i64],[.i .i64]⟩ [] (h4 1 39 7 0) [] 0 (fun x K v=>zL x.1 x.2 K v) .n) .n)) .n)) Tryz.func108 rfl zis ⟨zdo,trivial⟩ fun x=>by kernel_rfl
def VQ:Ct TS:=⟨[.rp 20 1 1 0,.ptr 2 0],(h29 39 7 0 2 3 4 5 6 7 8 9 10 11 12 13 14 15 16 17 18 19 20 21 22 23 24 25 26 27 28 29 30 31),k30,.tup [],(h29 39 7 32 2 3 4 5 6 7 8 9 10 11 12 13 14 15 16 17 18 19 20 21 22 23 24 25 26 27 28 29 30 31),[.l (.st 7)],false,fun x=>ky x.1 x.2.1 (kL x.2.2)⟩
theorem zdp:za Tryz.prog 107∧VQ.OK Tryz.prog 107:=ctk (T:=[]) (h:=.n) Tryz.func107 rfl zDc trivial fun x=>by kernel_rfl
def zp8:Ct TS:=⟨[.d (.l (.st 7)) 0,.fn 106 [] [],.fn 107 [] [.ptr 1 0],.d (.i .i64) 31],(h22 1 1 2 3 4 5 6 7 8 9 10 11 12 13 14 15 16 17 18 19 20 21 22 23 24 25 26 27 28 29 30),k31,.tup [.d (.l (.st 7)) 32,.d (.i .i64) 33],(h22 1 1 2 3 4 5 6 7 8 9 10 11 12 13 14 15 16 17 18 19 20 21 22 23 24 25 26 27 28 29 30),[.l (.st 7),.i .i64],false,fun x=>ZS x.1 (zvi x.2) (rEB x.2)⟩
theorem zt0:za Tryz.prog 105∧zp8.OK Tryz.prog 105:=ctg (cd:=cdR) (nb:=nbT) (rc:=[]) (T:=[(131,wx),(108,jy),(107,VQ)]) (h:=.s .n (.s .n (.s .n (.s (.j ⟨[(0,.row 20 103001300),(2,.fn 107 [] [.ptr 1 0]),(10,.d (.i .i64) 30)],(h32 39 7),k23,[.i .i64,.l (.st 7)]⟩ true .n) .n)))) Tryz.func105 rfl zvn ⟨vC,oP,zdp,trivial⟩ fun x=>by kernel_rfl
def jz:Ct TS:=⟨[.row 20 1,.fn 103 [] [.ptr 2 0]],h33,[.l (.st 7),.s],.d (.i .i64) 2,h33,[.i .i64],false,fun x=>xY x.1 x.2⟩
theorem oQ:za Tryz.prog 108∧jz.OK Tryz.prog 108:=ctk (T:=[(103,ux)]) (h:=.s .n (.s (.s .n (.s (.lr ⟨[(0,.row 20 1),(1,.fn 103 [] [.ptr 2 0]),(7,.d (.i .i64) 2),(8,.d (.i .i64) 3)],h33,[.l (.st 7),.s,.i .i64],[.i .i64]⟩ [] h33 [] 0 (fun x K v=>zM x.1 x.2.1 x.2.2 K v) .n) .n)) .n)) Tryz.func108 rfl zis ⟨AT,trivial⟩ fun x=>by kernel_rfl
def VR:Ct TS:=⟨[.rp 20 1 1 0,.ptr 2 0],(h29 39 7 0 2 3 4 5 6 7 8 9 10 11 12 13 14 15 16 17 18 19 20 21 22 23 24 25 26 27 28 29 30 31),k30,.tup [],(h29 39 7 32 2 3 4 5 6 7 8 9 10 11 12 13 14 15 16 17 18 19 20 21 22 23 24 25 26 27 28 29 30 31),[.l (.st 7)],false,fun x=>kz x.1 x.2.1 (kL x.2.2)⟩
theorem zdq:za Tryz.prog 110∧VR.OK Tryz.prog 110:=ctk (T:=[]) (h:=.n) Tryz.func110 rfl zDd trivial fun x=>by kernel_rfl
def zdr:Ct TS:=⟨[.d (.l (.st 7)) 0,.fn 103 [] [.ptr 1 0],.fn 110 [] [.ptr 2 0],.d (.i .i64) 32],h34,k35,.tup [.d (.l (.st 7)) 33,.d (.i .i64) 34],h34,[.l (.st 7),.i .i64],false,fun x=>HX x.1 x.2.1 (zvi x.2.2) (rEB x.2.2)⟩
theorem zlf:za Tryz.prog 105∧zdr.OK Tryz.prog 105:=ctg (cd:=cdR) (nb:=nbT) (rc:=[]) (T:=[(131,wx),(108,jz),(110,VR)]) (h:=.s .n (.s .n (.s .n (.s (.j ⟨[(0,.row 20 103001300),(2,.fn 110 [] [.ptr 2 0]),(10,.d (.i .i64) 31)],[(1,.box 9 [.d .s 0]),(2,.box 42 [.d (.i .i64) 1,.d .s 2,.d .s 3,.d (.i .i64) 4,.d .s 5,.d (.l (.s)) 6,.d (.l (.s)) 7,.d (.i .i64) 8,.d (.i .i64) 9,.d (.i .i64) 10,.d .b 11,.d (.i .i64) 12,.d (.i .i64) 13,.d (.i .i64) 14,.d .s 15,.d .s 16,.d (.l (.st 0)) 17,.d (.i .i64) 18,.d (.i .i64) 19,.d (.i .i64) 20,.d (.i .i64) 21,.d (.i .i64) 22,.d (.i .i64) 23,.d (.i .i64) 24,.d (.i .i64) 25,.d (.i .i64) 26,.d .s 27,.d .s 28,.d (.l (.st 0)) 29,.d (.l (.st 4)) 30]),(103001300,.row 39 (.st 7) 32 false)],k36,[.i .i64,.l (.st 7)]⟩ true .n) .n)))) Tryz.func105 rfl zvn ⟨vC,oQ,zdq,trivial⟩ fun x=>by kernel_rfl
def Ko:Ct TS:=⟨[.d (.l (.st 7)) 0,.fn 103 [] [.ptr 1 0],.fn 110 [] [.ptr 2 0]],h34,k37,.tup [.d (.l (.st 7)) 32,.d (.i .i64) 33],h34,[.l (.st 7),.i .i64],false,fun x=>kW x.1 x.2.1 (kL x.2.2)⟩
theorem ZX:za Tryz.prog 109∧Ko.OK Tryz.prog 109:=ctk (T:=[(104,y4),(105,zdr)]) (h:=.n) Tryz.func109 rfl zDe ⟨wM,zlf,trivial⟩ fun x=>by kernel_rfl
def jf:Ct TS:=⟨[.d (.l (.st 1)) 0],[],[.l (.st 1)],.row 6 7000001,(h4 7000001 67 1 1),[.l (.st 1)],false,fun x=>y9 x⟩
theorem qH:za Tryz.prog 128∧jf.OK Tryz.prog 128:=ctk (T:=[]) (h:=.n) Tryz.func128 rfl zDf trivial (fun x=>match x with|[]=>by kernel_rfl|_::_=>by kernel_rfl)
def VS:Ct TS:=⟨[.d (.st 1) 0,.ptr 1 0],(h22 1 1 2 3 4 5 6 7 8 9 10 11 12 13 14 15 16 17 18 19 20 21 22 23 24 25 26 27 28 29 30),k38,.d .b 31,(h22 1 1 2 3 4 5 6 7 8 9 10 11 12 13 14 15 16 17 18 19 20 21 22 23 24 25 26 27 28 29 30),[.b],false,fun x=>Vt x.1 (kL x.2)⟩
theorem zds:za Tryz.prog 112∧VS.OK Tryz.prog 112:=ctk (T:=[]) (h:=.n) Tryz.func112 rfl zDg trivial fun x=>by kernel_rfl
def jA:Ct TS:=⟨[.row 6 1,.fn 112 [] [.ptr 2 0]],(h29 67 1 0 1 2 3 4 5 6 7 8 9 10 11 12 13 14 15 16 17 18 19 20 21 22 23 24 25 26 27 28 29 30),k39,.d (.i .i64) 31,(h29 67 1 0 1 2 3 4 5 6 7 8 9 10 11 12 13 14 15 16 17 18 19 20 21 22 23 24 25 26 27 28 29 30),[.i .i64],false,fun x=>xZ x.1 (kL x.2)⟩
theorem oR:za Tryz.prog 203∧jA.OK Tryz.prog 203:=ctk (T:=[(112,VS)]) (h:=.s .n (.s (.s .n (.s (.lr ⟨[(0,.row 6 1),(1,.fn 112 [] [.ptr 2 0]),(7,.d (.i .i64) 31),(8,.d (.i .i64) 32)],(h29 67 1 0 1 2 3 4 5 6 7 8 9 10 11 12 13 14 15 16 17 18 19 20 21 22 23 24 25 26 27 28 29 30),k40,[.i .i64]⟩ [] (h29 67 1 0 1 2 3 4 5 6 7 8 9 10 11 12 13 14 15 16 17 18 19 20 21 22 23 24 25 26 27 28 29 30) [] 0 (fun x K v=>zN (EB.mk x.2.1 x.2.2.1 x.2.2.2.1 x.2.2.2.2.1 x.2.2.2.2.2.1 x.2.2.2.2.2.2.1 x.2.2.2.2.2.2.2.1 x.2.2.2.2.2.2.2.2.1 x.2.2.2.2.2.2.2.2.2.1 x.2.2.2.2.2.2.2.2.2.2.1 x.2.2.2.2.2.2.2.2.2.2.2.1 x.2.2.2.2.2.2.2.2.2.2.2.2.1 x.2.2.2.2.2.2.2.2.2.2.2.2.2.1 x.2.2.2.2.2.2.2.2.2.2.2.2.2.2.1 x.2.2.2.2.2.2.2.2.2.2.2.2.2.2.2.1 x.2.2.2.2.2.2.2.2.2.2.2.2.2.2.2.2.1 x.2.2.2.2.2.2.2.2.2.2.2.2.2.2.2.2.2.1 x.2.2.2.2.2.2.2.2.2.2.2.2.2.2.2.2.2.2.1 x.2.2.2.2.2.2.2.2.2.2.2.2.2.2.2.2.2.2.2.1 x.2.2.2.2.2.2.2.2.2.2.2.2.2.2.2.2.2.2.2.2.1 x.2.2.2.2.2.2.2.2.2.2.2.2.2.2.2.2.2.2.2.2.2.1 x.2.2.2.2.2.2.2.2.2.2.2.2.2.2.2.2.2.2.2.2.2.2.1 x.2.2.2.2.2.2.2.2.2.2.2.2.2.2.2.2.2.2.2.2.2.2.2.1 x.2.2.2.2.2.2.2.2.2.2.2.2.2.2.2.2.2.2.2.2.2.2.2.2.1 x.2.2.2.2.2.2.2.2.2.2.2.2.2.2.2.2.2.2.2.2.2.2.2.2.2.1 x.2.2.2.2.2.2.2.2.2.2.2.2.2.2.2.2.2.2.2.2.2.2.2.2.2.2.1 x.2.2.2.2.2.2.2.2.2.2.2.2.2.2.2.2.2.2.2.2.2.2.2.2.2.2.2.1 x.2.2.2.2.2.2.2.2.2.2.2.2.2.2.2.2.2.2.2.2.2.2.2.2.2.2.2.2.1 x.2.2.2.2.2.2.2.2.2.2.2.2.2.2.2.2.2.2.2.2.2.2.2.2.2.2.2.2.2.1 x.2.2.2.2.2.2.2.2.2.2.2.2.2.2.2.2.2.2.2.2.2.2.2.2.2.2.2.2.2.2.1) x.1 x.2.2.2.2.2.2.2.2.2.2.2.2.2.2.2.2.2.2.2.2.2.2.2.2.2.2.2.2.2.2.2 K v) .n) .n)) .n)) Tryz.func203 rfl zvo ⟨zds,trivial⟩ fun x=>by kernel_rfl
def VT:Ct TS:=⟨[.rp 6 1 1 0,.ptr 2 0],(h29 67 1 0 2 3 4 5 6 7 8 9 10 11 12 13 14 15 16 17 18 19 20 21 22 23 24 25 26 27 28 29 30 31),k41,.tup [],(h29 67 1 32 2 3 4 5 6 7 8 9 10 11 12 13 14 15 16 17 18 19 20 21 22 23 24 25 26 27 28 29 30 31),[.l (.st 1)],false,fun x=>kA x.1 x.2.1 (kL x.2.2)⟩
theorem zdt:za Tryz.prog 113∧VT.OK Tryz.prog 113:=ctk (T:=[]) (h:=.n) Tryz.func113 rfl zDh trivial fun x=>by kernel_rfl
def zdu:Ct TS:=⟨[.d (.l (.st 1)) 0,.fn 112 [] [.ptr 1 0],.fn 113 [] [.ptr 1 0],.d (.i .i64) 31],(h22 1 1 2 3 4 5 6 7 8 9 10 11 12 13 14 15 16 17 18 19 20 21 22 23 24 25 26 27 28 29 30),k40,.tup [.d (.l (.st 1)) 32,.d (.i .i64) 33],(h22 1 1 2 3 4 5 6 7 8 9 10 11 12 13 14 15 16 17 18 19 20 21 22 23 24 25 26 27 28 29 30),[.l (.st 1),.i .i64],false,fun x=>HY x.1 (zvi x.2) (rEB x.2)⟩
theorem zlg:za Tryz.prog 111∧zdu.OK Tryz.prog 111:=ctg (cd:=cdR) (nb:=nbT) (rc:=[]) (T:=[(128,jf),(203,jA),(113,VT)]) (h:=.s .n (.s .n (.s .n (.s (.j ⟨[(0,.row 6 103001300),(2,.fn 113 [] [.ptr 1 0]),(10,.d (.i .i64) 30)],(h32 67 1),k23,[.i .i64,.l (.st 1)]⟩ true .n) .n)))) Tryz.func111 rfl zDi ⟨qH,oR,zdt,trivial⟩ fun x=>by kernel_rfl
def jg:Ct TS:=⟨[.d (.l (.st 3)) 0],[],[.l (.st 3)],.row 3 7000001,(h4 7000001 70 3 1),[.l (.st 3)],false,fun x=>xa x⟩
theorem qI:za Tryz.prog 129∧jg.OK Tryz.prog 129:=ctk (T:=[]) (h:=.n) Tryz.func129 rfl zDj trivial (fun x=>match x with|[]=>by kernel_rfl|_::_=>by kernel_rfl)
def VU:Ct TS:=⟨[.d (.st 3) 0,.ptr 1 0],(h22 1 1 2 3 4 5 6 7 8 9 10 11 12 13 14 15 16 17 18 19 20 21 22 23 24 25 26 27 28 29 30),k42,.d .b 31,(h22 1 1 2 3 4 5 6 7 8 9 10 11 12 13 14 15 16 17 18 19 20 21 22 23 24 25 26 27 28 29 30),[.b],false,fun x=>Vu x.1 (kL x.2)⟩
theorem zdv:za Tryz.prog 115∧VU.OK Tryz.prog 115:=ctk (T:=[]) (h:=.n) Tryz.func115 rfl zDk trivial fun x=>by kernel_rfl
def jB:Ct TS:=⟨[.row 3 1,.fn 115 [] [.ptr 2 0]],(h29 70 3 0 1 2 3 4 5 6 7 8 9 10 11 12 13 14 15 16 17 18 19 20 21 22 23 24 25 26 27 28 29 30),k43,.d (.i .i64) 31,(h29 70 3 0 1 2 3 4 5 6 7 8 9 10 11 12 13 14 15 16 17 18 19 20 21 22 23 24 25 26 27 28 29 30),[.i .i64],false,fun x=>wa x.1 (kL x.2)⟩
theorem oS:za Tryz.prog 204∧jB.OK Tryz.prog 204:=ctk (T:=[(115,VU)]) (h:=.s .n (.s (.s .n (.s (.lr ⟨[(0,.row 3 1),(1,.fn 115 [] [.ptr 2 0]),(7,.d (.i .i64) 31),(8,.d (.i .i64) 32)],(h29 70 3 0 1 2 3 4 5 6 7 8 9 10 11 12 13 14 15 16 17 18 19 20 21 22 23 24 25 26 27 28 29 30),k44,[.i .i64]⟩ [] (h29 70 3 0 1 2 3 4 5 6 7 8 9 10 11 12 13 14 15 16 17 18 19 20 21 22 23 24 25 26 27 28 29 30) [] 0 (fun x K v=>zO (EB.mk x.2.1 x.2.2.1 x.2.2.2.1 x.2.2.2.2.1 x.2.2.2.2.2.1 x.2.2.2.2.2.2.1 x.2.2.2.2.2.2.2.1 x.2.2.2.2.2.2.2.2.1 x.2.2.2.2.2.2.2.2.2.1 x.2.2.2.2.2.2.2.2.2.2.1 x.2.2.2.2.2.2.2.2.2.2.2.1 x.2.2.2.2.2.2.2.2.2.2.2.2.1 x.2.2.2.2.2.2.2.2.2.2.2.2.2.1 x.2.2.2.2.2.2.2.2.2.2.2.2.2.2.1 x.2.2.2.2.2.2.2.2.2.2.2.2.2.2.2.1 x.2.2.2.2.2.2.2.2.2.2.2.2.2.2.2.2.1 x.2.2.2.2.2.2.2.2.2.2.2.2.2.2.2.2.2.1 x.2.2.2.2.2.2.2.2.2.2.2.2.2.2.2.2.2.2.1 x.2.2.2.2.2.2.2.2.2.2.2.2.2.2.2.2.2.2.2.1 x.2.2.2.2.2.2.2.2.2.2.2.2.2.2.2.2.2.2.2.2.1 x.2.2.2.2.2.2.2.2.2.2.2.2.2.2.2.2.2.2.2.2.2.1 x.2.2.2.2.2.2.2.2.2.2.2.2.2.2.2.2.2.2.2.2.2.2.1 x.2.2.2.2.2.2.2.2.2.2.2.2.2.2.2.2.2.2.2.2.2.2.2.1 x.2.2.2.2.2.2.2.2.2.2.2.2.2.2.2.2.2.2.2.2.2.2.2.2.1 x.2.2.2.2.2.2.2.2.2.2.2.2.2.2.2.2.2.2.2.2.2.2.2.2.2.1 x.2.2.2.2.2.2.2.2.2.2.2.2.2.2.2.2.2.2.2.2.2.2.2.2.2.2.1 x.2.2.2.2.2.2.2.2.2.2.2.2.2.2.2.2.2.2.2.2.2.2.2.2.2.2.2.1 x.2.2.2.2.2.2.2.2.2.2.2.2.2.2.2.2.2.2.2.2.2.2.2.2.2.2.2.2.1 x.2.2.2.2.2.2.2.2.2.2.2.2.2.2.2.2.2.2.2.2.2.2.2.2.2.2.2.2.2.1 x.2.2.2.2.2.2.2.2.2.2.2.2.2.2.2.2.2.2.2.2.2.2.2.2.2.2.2.2.2.2.1) x.1 x.2.2.2.2.2.2.2.2.2.2.2.2.2.2.2.2.2.2.2.2.2.2.2.2.2.2.2.2.2.2.2 K v) .n) .n)) .n)) Tryz.func204 rfl zvp ⟨zdv,trivial⟩ fun x=>by kernel_rfl
def uQ:Ct TS:=⟨[.d (.l (.st 2)) 0],[],[.l (.st 2)],.row 2 7000001,(h4 7000001 86 2 1),[.l (.st 2)],false,fun x=>wu x⟩
theorem JX:za Tryz.prog 136∧uQ.OK Tryz.prog 136:=ctk (T:=[]) (h:=.n) Tryz.func136 rfl zvq trivial (fun x=>match x with|[]=>by kernel_rfl|_::_=>by kernel_rfl)
def Jh:Ct TS:=⟨[.d (.st 2) 0,.ptr 1 0],(h22 1 1 2 3 4 5 6 7 8 9 10 11 12 13 14 15 16 17 18 19 20 21 22 23 24 25 26 27 28 29 30),k45,.d .b 31,(h22 1 1 2 3 4 5 6 7 8 9 10 11 12 13 14 15 16 17 18 19 20 21 22 23 24 25 26 27 28 29 30),[.b],false,fun x=>HZ x.1 (kL x.2)⟩
theorem WG:za Tryz.prog 118∧Jh.OK Tryz.prog 118:=ctk (T:=[]) (h:=.n) Tryz.func118 rfl zDl trivial fun x=>by kernel_rfl
def jC:Ct TS:=⟨[.row 2 1,.fn 118 [] [.ptr 2 0]],(h29 86 2 0 1 2 3 4 5 6 7 8 9 10 11 12 13 14 15 16 17 18 19 20 21 22 23 24 25 26 27 28 29 30),k46,.d (.i .i64) 31,(h29 86 2 0 1 2 3 4 5 6 7 8 9 10 11 12 13 14 15 16 17 18 19 20 21 22 23 24 25 26 27 28 29 30),[.i .i64],false,fun x=>wb x.1 (kL x.2)⟩
theorem oT:za Tryz.prog 205∧jC.OK Tryz.prog 205:=ctk (T:=[(118,Jh)]) (h:=.s .n (.s (.s .n (.s (.lr ⟨[(0,.row 2 1),(1,.fn 118 [] [.ptr 2 0]),(7,.d (.i .i64) 31),(8,.d (.i .i64) 32)],(h29 86 2 0 1 2 3 4 5 6 7 8 9 10 11 12 13 14 15 16 17 18 19 20 21 22 23 24 25 26 27 28 29 30),k47,[.i .i64]⟩ [] (h29 86 2 0 1 2 3 4 5 6 7 8 9 10 11 12 13 14 15 16 17 18 19 20 21 22 23 24 25 26 27 28 29 30) [] 0 (fun x K v=>zP (EB.mk x.2.1 x.2.2.1 x.2.2.2.1 x.2.2.2.2.1 x.2.2.2.2.2.1 x.2.2.2.2.2.2.1 x.2.2.2.2.2.2.2.1 x.2.2.2.2.2.2.2.2.1 x.2.2.2.2.2.2.2.2.2.1 x.2.2.2.2.2.2.2.2.2.2.1 x.2.2.2.2.2.2.2.2.2.2.2.1 x.2.2.2.2.2.2.2.2.2.2.2.2.1 x.2.2.2.2.2.2.2.2.2.2.2.2.2.1 x.2.2.2.2.2.2.2.2.2.2.2.2.2.2.1 x.2.2.2.2.2.2.2.2.2.2.2.2.2.2.2.1 x.2.2.2.2.2.2.2.2.2.2.2.2.2.2.2.2.1 x.2.2.2.2.2.2.2.2.2.2.2.2.2.2.2.2.2.1 x.2.2.2.2.2.2.2.2.2.2.2.2.2.2.2.2.2.2.1 x.2.2.2.2.2.2.2.2.2.2.2.2.2.2.2.2.2.2.2.1 x.2.2.2.2.2.2.2.2.2.2.2.2.2.2.2.2.2.2.2.2.1 x.2.2.2.2.2.2.2.2.2.2.2.2.2.2.2.2.2.2.2.2.2.1 x.2.2.2.2.2.2.2.2.2.2.2.2.2.2.2.2.2.2.2.2.2.2.1 x.2.2.2.2.2.2.2.2.2.2.2.2.2.2.2.2.2.2.2.2.2.2.2.1 x.2.2.2.2.2.2.2.2.2.2.2.2.2.2.2.2.2.2.2.2.2.2.2.2.1 x.2.2.2.2.2.2.2.2.2.2.2.2.2.2.2.2.2.2.2.2.2.2.2.2.2.1 x.2.2.2.2.2.2.2.2.2.2.2.2.2.2.2.2.2.2.2.2.2.2.2.2.2.2.1 x.2.2.2.2.2.2.2.2.2.2.2.2.2.2.2.2.2.2.2.2.2.2.2.2.2.2.2.1 x.2.2.2.2.2.2.2.2.2.2.2.2.2.2.2.2.2.2.2.2.2.2.2.2.2.2.2.2.1 x.2.2.2.2.2.2.2.2.2.2.2.2.2.2.2.2.2.2.2.2.2.2.2.2.2.2.2.2.2.1 x.2.2.2.2.2.2.2.2.2.2.2.2.2.2.2.2.2.2.2.2.2.2.2.2.2.2.2.2.2.2.1) x.1 x.2.2.2.2.2.2.2.2.2.2.2.2.2.2.2.2.2.2.2.2.2.2.2.2.2.2.2.2.2.2.2 K v) .n) .n)) .n)) Tryz.func205 rfl zvr ⟨WG,trivial⟩ fun x=>by kernel_rfl
def Ji:Ct TS:=⟨[.rp 2 1 1 0,.ptr 2 0],(h29 86 2 0 2 3 4 5 6 7 8 9 10 11 12 13 14 15 16 17 18 19 20 21 22 23 24 25 26 27 28 29 30 31),k48,.tup [],(h29 86 2 32 2 3 4 5 6 7 8 9 10 11 12 13 14 15 16 17 18 19 20 21 22 23 24 25 26 27 28 29 30 31),[.l (.st 2)],false,fun x=>wZ x.1 x.2.1 (kL x.2.2)⟩
theorem WH:za Tryz.prog 119∧Ji.OK Tryz.prog 119:=ctk (T:=[]) (h:=.n) Tryz.func119 rfl zDm trivial fun x=>by kernel_rfl
def zdw:Ct TS:=⟨[.d (.l (.st 2)) 0,.fn 118 [] [.ptr 1 0],.fn 119 [] [.ptr 1 0],.d (.i .i64) 31],(h22 1 1 2 3 4 5 6 7 8 9 10 11 12 13 14 15 16 17 18 19 20 21 22 23 24 25 26 27 28 29 30),k47,.tup [.d (.l (.st 2)) 32,.d (.i .i64) 33],(h22 1 1 2 3 4 5 6 7 8 9 10 11 12 13 14 15 16 17 18 19 20 21 22 23 24 25 26 27 28 29 30),[.l (.st 2),.i .i64],false,fun x=>oE x.1 (zvi x.2) (rEB x.2)⟩
theorem zlh:za Tryz.prog 117∧zdw.OK Tryz.prog 117:=ctg (cd:=cdR) (nb:=nbT) (rc:=[]) (T:=[(136,uQ),(205,jC),(119,Ji)]) (h:=.s .n (.s .n (.s .n (.s (.j ⟨[(0,.row 2 103001300),(2,.fn 119 [] [.ptr 1 0]),(10,.d (.i .i64) 30)],(h32 86 2),k23,[.i .i64,.l (.st 2)]⟩ true .n) .n)))) Tryz.func117 rfl zDn ⟨JX,oT,WH,trivial⟩ fun x=>by kernel_rfl
def VV:Ct TS:=⟨[.rp 3 1 1 0,.ptr 2 0,.ptr 3 0],(h49 0 32),k50,.tup [],(h49 33 34),[.l (.st 3),.i .i64],false,fun x=>kB x.1 x.2.1 (zvi x.2.2) (rEB x.2.2)⟩
theorem zdx:za Tryz.prog 116∧VV.OK Tryz.prog 116:=ctk (T:=[(117,zdw)]) (h:=.n) Tryz.func116 rfl zDo ⟨zlh,trivial⟩ fun x=>by kernel_rfl
def zdy:Ct TS:=⟨[.d (.l (.st 3)) 0,.fn 115 [] [.ptr 1 0],.fn 116 [] [.ptr 1 0,.ptr 2 0],.d (.i .i64) 32],(h51 31),k52,.tup [.d (.l (.st 3)) 33,.d (.i .i64) 34],(h51 35),[.l (.st 3),.i .i64,.i .i64],false,fun x=>H0 x.1 (zvi x.2) (rEB x.2).1 (rEB x.2).2⟩
theorem zli:za Tryz.prog 114∧zdy.OK Tryz.prog 114:=ctg (cd:=cdR) (nb:=nbT) (rc:=[]) (T:=[(129,jg),(204,jB),(116,VV)]) (h:=.s .n (.s .n (.s .n (.s (.j ⟨[(0,.row 3 103001300),(2,.fn 116 [] [.ptr 1 0,.ptr 2 0]),(10,.d (.i .i64) 31)],[(1,.box 42 [.d (.i .i64) 0,.d .s 1,.d .s 2,.d (.i .i64) 3,.d .s 4,.d (.l (.s)) 5,.d (.l (.s)) 6,.d (.i .i64) 7,.d (.i .i64) 8,.d (.i .i64) 9,.d .b 10,.d (.i .i64) 11,.d (.i .i64) 12,.d (.i .i64) 13,.d .s 14,.d .s 15,.d (.l (.st 0)) 16,.d (.i .i64) 17,.d (.i .i64) 18,.d (.i .i64) 19,.d (.i .i64) 20,.d (.i .i64) 21,.d (.i .i64) 22,.d (.i .i64) 23,.d (.i .i64) 24,.d (.i .i64) 25,.d .s 26,.d .s 27,.d (.l (.st 0)) 28,.d (.l (.st 4)) 29]),(2,.box 46 [.d (.i .i64) 30]),(103001300,.row 70 (.st 3) 32 false)],k53,[.i .i64,.l (.st 3)]⟩ true .n) .n)))) Tryz.func114 rfl zDp ⟨qI,oS,zdx,trivial⟩ fun x=>by kernel_rfl
def VW:Ct TS:=⟨[.d (.st 5) 0,.ptr 1 0],(h22 1 1 2 3 4 5 6 7 8 9 10 11 12 13 14 15 16 17 18 19 20 21 22 23 24 25 26 27 28 29 30),k54,.d .b 31,(h22 1 1 2 3 4 5 6 7 8 9 10 11 12 13 14 15 16 17 18 19 20 21 22 23 24 25 26 27 28 29 30),[.b],false,fun x=>Vv x.1 (kL x.2)⟩
theorem zdz:za Tryz.prog 121∧VW.OK Tryz.prog 121:=ctk (T:=[]) (h:=.n) Tryz.func121 rfl zDq trivial fun x=>by kernel_rfl
def jD:Ct TS:=⟨[.d (.l (.st 5)) 0,.fn 121 [] [.ptr 1 0]],(h22 1 1 2 3 4 5 6 7 8 9 10 11 12 13 14 15 16 17 18 19 20 21 22 23 24 25 26 27 28 29 30),k55,.d (.i .i64) 31,(h22 1 1 2 3 4 5 6 7 8 9 10 11 12 13 14 15 16 17 18 19 20 21 22 23 24 25 26 27 28 29 30),[.i .i64],false,fun x=>wc x.1 (kL x.2)⟩
theorem oU:za Tryz.prog 120∧jD.OK Tryz.prog 120:=ctk (T:=[(121,VW)]) (h:=.s .n (.s (.s .n (.s (.lr ⟨[(0,.d (.l (.st 5)) 30),(1,.fn 121 [] [.ptr 1 0]),(7,.d (.i .i64) 31),(8,.d (.i .i64) 32)],(h22 1 0 1 2 3 4 5 6 7 8 9 10 11 12 13 14 15 16 17 18 19 20 21 22 23 24 25 26 27 28 29),k56,[.i .i64]⟩ [] (h22 1 0 1 2 3 4 5 6 7 8 9 10 11 12 13 14 15 16 17 18 19 20 21 22 23 24 25 26 27 28 29) [] 0 (fun x K v=>zQ (EB.mk x.1 x.2.1 x.2.2.1 x.2.2.2.1 x.2.2.2.2.1 x.2.2.2.2.2.1 x.2.2.2.2.2.2.1 x.2.2.2.2.2.2.2.1 x.2.2.2.2.2.2.2.2.1 x.2.2.2.2.2.2.2.2.2.1 x.2.2.2.2.2.2.2.2.2.2.1 x.2.2.2.2.2.2.2.2.2.2.2.1 x.2.2.2.2.2.2.2.2.2.2.2.2.1 x.2.2.2.2.2.2.2.2.2.2.2.2.2.1 x.2.2.2.2.2.2.2.2.2.2.2.2.2.2.1 x.2.2.2.2.2.2.2.2.2.2.2.2.2.2.2.1 x.2.2.2.2.2.2.2.2.2.2.2.2.2.2.2.2.1 x.2.2.2.2.2.2.2.2.2.2.2.2.2.2.2.2.2.1 x.2.2.2.2.2.2.2.2.2.2.2.2.2.2.2.2.2.2.1 x.2.2.2.2.2.2.2.2.2.2.2.2.2.2.2.2.2.2.2.1 x.2.2.2.2.2.2.2.2.2.2.2.2.2.2.2.2.2.2.2.2.1 x.2.2.2.2.2.2.2.2.2.2.2.2.2.2.2.2.2.2.2.2.2.1 x.2.2.2.2.2.2.2.2.2.2.2.2.2.2.2.2.2.2.2.2.2.2.1 x.2.2.2.2.2.2.2.2.2.2.2.2.2.2.2.2.2.2.2.2.2.2.2.1 x.2.2.2.2.2.2.2.2.2.2.2.2.2.2.2.2.2.2.2.2.2.2.2.2.1 x.2.2.2.2.2.2.2.2.2.2.2.2.2.2.2.2.2.2.2.2.2.2.2.2.2.1 x.2.2.2.2.2.2.2.2.2.2.2.2.2.2.2.2.2.2.2.2.2.2.2.2.2.2.1 x.2.2.2.2.2.2.2.2.2.2.2.2.2.2.2.2.2.2.2.2.2.2.2.2.2.2.2.1 x.2.2.2.2.2.2.2.2.2.2.2.2.2.2.2.2.2.2.2.2.2.2.2.2.2.2.2.2.1 x.2.2.2.2.2.2.2.2.2.2.2.2.2.2.2.2.2.2.2.2.2.2.2.2.2.2.2.2.2.1) x.2.2.2.2.2.2.2.2.2.2.2.2.2.2.2.2.2.2.2.2.2.2.2.2.2.2.2.2.2.2.1 x.2.2.2.2.2.2.2.2.2.2.2.2.2.2.2.2.2.2.2.2.2.2.2.2.2.2.2.2.2.2.2 K v) .n) .n)) .n)) Tryz.func120 rfl zpo ⟨zdz,trivial⟩ fun x=>by kernel_rfl
def jh:Ct TS:=⟨[.d (.l (.st 5)) 0],[],[.l (.st 5)],.row 3 7000001,(h4 7000001 72 5 1),[.l (.st 5)],false,fun x=>xb x⟩
theorem qJ:za Tryz.prog 130∧jh.OK Tryz.prog 130:=ctk (T:=[]) (h:=.n) Tryz.func130 rfl zDr trivial (fun x=>match x with|[]=>by kernel_rfl|_::_=>by kernel_rfl)
def Kp:Ct TS:=⟨[.d (.st 5) 0,.ptr 1 0],(h22 1 1 2 3 4 5 6 7 8 9 10 11 12 13 14 15 16 17 18 19 20 21 22 23 24 25 26 27 28 29 30),k54,.d .b 31,(h22 1 1 2 3 4 5 6 7 8 9 10 11 12 13 14 15 16 17 18 19 20 21 22 23 24 25 26 27 28 29 30),[.b],false,fun x=>Kk x.1 (kL x.2)⟩
theorem ZY:za Tryz.prog 123∧Kp.OK Tryz.prog 123:=ctk (T:=[]) (h:=.n) Tryz.func123 rfl zDs trivial fun x=>by kernel_rfl
def jE:Ct TS:=⟨[.row 3 1,.fn 123 [] [.ptr 2 0]],(h29 72 5 0 1 2 3 4 5 6 7 8 9 10 11 12 13 14 15 16 17 18 19 20 21 22 23 24 25 26 27 28 29 30),k55,.d (.i .i64) 31,(h29 72 5 0 1 2 3 4 5 6 7 8 9 10 11 12 13 14 15 16 17 18 19 20 21 22 23 24 25 26 27 28 29 30),[.i .i64],false,fun x=>we x.1 (kL x.2)⟩
theorem oV:za Tryz.prog 120∧jE.OK Tryz.prog 120:=ctk (T:=[(123,Kp)]) (h:=.s .n (.s (.s .n (.s (.lr ⟨[(0,.row 3 1),(1,.fn 123 [] [.ptr 2 0]),(7,.d (.i .i64) 31),(8,.d (.i .i64) 32)],(h29 72 5 0 1 2 3 4 5 6 7 8 9 10 11 12 13 14 15 16 17 18 19 20 21 22 23 24 25 26 27 28 29 30),k57,[.i .i64]⟩ [] (h29 72 5 0 1 2 3 4 5 6 7 8 9 10 11 12 13 14 15 16 17 18 19 20 21 22 23 24 25 26 27 28 29 30) [] 0 (fun x K v=>zR (EB.mk x.2.1 x.2.2.1 x.2.2.2.1 x.2.2.2.2.1 x.2.2.2.2.2.1 x.2.2.2.2.2.2.1 x.2.2.2.2.2.2.2.1 x.2.2.2.2.2.2.2.2.1 x.2.2.2.2.2.2.2.2.2.1 x.2.2.2.2.2.2.2.2.2.2.1 x.2.2.2.2.2.2.2.2.2.2.2.1 x.2.2.2.2.2.2.2.2.2.2.2.2.1 x.2.2.2.2.2.2.2.2.2.2.2.2.2.1 x.2.2.2.2.2.2.2.2.2.2.2.2.2.2.1 x.2.2.2.2.2.2.2.2.2.2.2.2.2.2.2.1 x.2.2.2.2.2.2.2.2.2.2.2.2.2.2.2.2.1 x.2.2.2.2.2.2.2.2.2.2.2.2.2.2.2.2.2.1 x.2.2.2.2.2.2.2.2.2.2.2.2.2.2.2.2.2.2.1 x.2.2.2.2.2.2.2.2.2.2.2.2.2.2.2.2.2.2.2.1 x.2.2.2.2.2.2.2.2.2.2.2.2.2.2.2.2.2.2.2.2.1 x.2.2.2.2.2.2.2.2.2.2.2.2.2.2.2.2.2.2.2.2.2.1 x.2.2.2.2.2.2.2.2.2.2.2.2.2.2.2.2.2.2.2.2.2.2.1 x.2.2.2.2.2.2.2.2.2.2.2.2.2.2.2.2.2.2.2.2.2.2.2.1 x.2.2.2.2.2.2.2.2.2.2.2.2.2.2.2.2.2.2.2.2.2.2.2.2.1 x.2.2.2.2.2.2.2.2.2.2.2.2.2.2.2.2.2.2.2.2.2.2.2.2.2.1 x.2.2.2.2.2.2.2.2.2.2.2.2.2.2.2.2.2.2.2.2.2.2.2.2.2.2.1 x.2.2.2.2.2.2.2.2.2.2.2.2.2.2.2.2.2.2.2.2.2.2.2.2.2.2.2.1 x.2.2.2.2.2.2.2.2.2.2.2.2.2.2.2.2.2.2.2.2.2.2.2.2.2.2.2.2.1 x.2.2.2.2.2.2.2.2.2.2.2.2.2.2.2.2.2.2.2.2.2.2.2.2.2.2.2.2.2.1 x.2.2.2.2.2.2.2.2.2.2.2.2.2.2.2.2.2.2.2.2.2.2.2.2.2.2.2.2.2.2.1) x.1 x.2.2.2.2.2.2.2.2.2.2.2.2.2.2.2.2.2.2.2.2.2.2.2.2.2.2.2.2.2.2.2 K v) .n) .n)) .n)) Tryz.func120 rfl zpo ⟨ZY,trivial⟩ fun x=>by kernel_rfl
def Kq:Ct TS:=⟨[.rp 3 1 1 0,.ptr 2 0],(h29 72 5 0 2 3 4 5 6 7 8 9 10 11 12 13 14 15 16 17 18 19 20 21 22 23 24 25 26 27 28 29 30 31),k58,.tup [],(h29 72 5 32 2 3 4 5 6 7 8 9 10 11 12 13 14 15 16 17 18 19 20 21 22 23 24 25 26 27 28 29 30 31),[.l (.st 5)],false,fun x=>vO x.1 x.2.1 (kL x.2.2)⟩
theorem ZZ:za Tryz.prog 124∧Kq.OK Tryz.prog 124:=ctk (T:=[]) (h:=.n) Tryz.func124 rfl zDt trivial fun x=>by kernel_rfl
def zd0:Ct TS:=⟨[.d (.l (.st 5)) 0,.fn 123 [] [.ptr 1 0],.fn 124 [] [.ptr 1 0],.d (.i .i64) 31],(h22 1 1 2 3 4 5 6 7 8 9 10 11 12 13 14 15 16 17 18 19 20 21 22 23 24 25 26 27 28 29 30),k57,.tup [.d (.l (.st 5)) 32,.d (.i .i64) 33],(h22 1 1 2 3 4 5 6 7 8 9 10 11 12 13 14 15 16 17 18 19 20 21 22 23 24 25 26 27 28 29 30),[.l (.st 5),.i .i64],false,fun x=>H4 x.1 (zvi x.2) (rEB x.2)⟩
theorem zlj:za Tryz.prog 122∧zd0.OK Tryz.prog 122:=ctg (cd:=cdR) (nb:=nbT) (rc:=[]) (T:=[(130,jh),(120,jE),(124,Kq)]) (h:=.s .n (.s .n (.s .n (.s (.j ⟨[(0,.row 3 103001300),(2,.fn 124 [] [.ptr 1 0]),(10,.d (.i .i64) 30)],(h32 72 5),k23,[.i .i64,.l (.st 5)]⟩ true .n) .n)))) Tryz.func122 rfl zDu ⟨qJ,oV,ZZ,trivial⟩ fun x=>by kernel_rfl
def oW:Ct TS:=⟨[.d (.st 8) 0,.ptr 1 0],(h22 1 1 2 3 4 5 6 7 8 9 10 11 12 13 14 15 16 17 18 19 20 21 22 23 24 25 26 27 28 29 30),k59,.d .b 31,(h22 1 1 2 3 4 5 6 7 8 9 10 11 12 13 14 15 16 17 18 19 20 21 22 23 24 25 26 27 28 29 30),[.b],false,fun x=>oF x.1 (kL x.2)⟩
theorem Jj:za Tryz.prog 126∧oW.OK Tryz.prog 126:=ctk (T:=[]) (h:=.n) Tryz.func126 rfl zDv trivial fun x=>by kernel_rfl
def vS:Ct TS:=⟨[.d (.l (.st 8)) 0,.fn 126 [] [.ptr 1 0]],(h22 1 1 2 3 4 5 6 7 8 9 10 11 12 13 14 15 16 17 18 19 20 21 22 23 24 25 26 27 28 29 30),k60,.d (.i .i64) 31,(h22 1 1 2 3 4 5 6 7 8 9 10 11 12 13 14 15 16 17 18 19 20 21 22 23 24 25 26 27 28 29 30),[.i .i64],false,fun x=>xA x.1 (kL x.2)⟩
theorem uW:za Tryz.prog 215∧vS.OK Tryz.prog 215:=ctk (T:=[(126,oW)]) (h:=.s .n (.s (.s .n (.s (.lr ⟨[(0,.d (.l (.st 8)) 30),(1,.fn 126 [] [.ptr 1 0]),(7,.d (.i .i64) 31),(8,.d (.i .i64) 32)],(h22 1 0 1 2 3 4 5 6 7 8 9 10 11 12 13 14 15 16 17 18 19 20 21 22 23 24 25 26 27 28 29),k61,[.i .i64]⟩ [] (h22 1 0 1 2 3 4 5 6 7 8 9 10 11 12 13 14 15 16 17 18 19 20 21 22 23 24 25 26 27 28 29) [] 0 (fun x K v=>zA (EB.mk x.1 x.2.1 x.2.2.1 x.2.2.2.1 x.2.2.2.2.1 x.2.2.2.2.2.1 x.2.2.2.2.2.2.1 x.2.2.2.2.2.2.2.1 x.2.2.2.2.2.2.2.2.1 x.2.2.2.2.2.2.2.2.2.1 x.2.2.2.2.2.2.2.2.2.2.1 x.2.2.2.2.2.2.2.2.2.2.2.1 x.2.2.2.2.2.2.2.2.2.2.2.2.1 x.2.2.2.2.2.2.2.2.2.2.2.2.2.1 x.2.2.2.2.2.2.2.2.2.2.2.2.2.2.1 x.2.2.2.2.2.2.2.2.2.2.2.2.2.2.2.1 x.2.2.2.2.2.2.2.2.2.2.2.2.2.2.2.2.1 x.2.2.2.2.2.2.2.2.2.2.2.2.2.2.2.2.2.1 x.2.2.2.2.2.2.2.2.2.2.2.2.2.2.2.2.2.2.1 x.2.2.2.2.2.2.2.2.2.2.2.2.2.2.2.2.2.2.2.1 x.2.2.2.2.2.2.2.2.2.2.2.2.2.2.2.2.2.2.2.2.1 x.2.2.2.2.2.2.2.2.2.2.2.2.2.2.2.2.2.2.2.2.2.1 x.2.2.2.2.2.2.2.2.2.2.2.2.2.2.2.2.2.2.2.2.2.2.1 x.2.2.2.2.2.2.2.2.2.2.2.2.2.2.2.2.2.2.2.2.2.2.2.1 x.2.2.2.2.2.2.2.2.2.2.2.2.2.2.2.2.2.2.2.2.2.2.2.2.1 x.2.2.2.2.2.2.2.2.2.2.2.2.2.2.2.2.2.2.2.2.2.2.2.2.2.1 x.2.2.2.2.2.2.2.2.2.2.2.2.2.2.2.2.2.2.2.2.2.2.2.2.2.2.1 x.2.2.2.2.2.2.2.2.2.2.2.2.2.2.2.2.2.2.2.2.2.2.2.2.2.2.2.1 x.2.2.2.2.2.2.2.2.2.2.2.2.2.2.2.2.2.2.2.2.2.2.2.2.2.2.2.2.1 x.2.2.2.2.2.2.2.2.2.2.2.2.2.2.2.2.2.2.2.2.2.2.2.2.2.2.2.2.2.1) x.2.2.2.2.2.2.2.2.2.2.2.2.2.2.2.2.2.2.2.2.2.2.2.2.2.2.2.2.2.2.1 x.2.2.2.2.2.2.2.2.2.2.2.2.2.2.2.2.2.2.2.2.2.2.2.2.2.2.2.2.2.2.2 K v) .n) .n)) .n)) Tryz.func215 rfl zpp ⟨Jj,trivial⟩ fun x=>by kernel_rfl
def vf:Ct TS:=⟨[.d (.l (.st 8)) 0,.fn 126 [] [.ptr 1 0]],(h22 1 1 2 3 4 5 6 7 8 9 10 11 12 13 14 15 16 17 18 19 20 21 22 23 24 25 26 27 28 29 30),k60,.d .b 31,(h22 1 1 2 3 4 5 6 7 8 9 10 11 12 13 14 15 16 17 18 19 20 21 22 23 24 25 26 27 28 29 30),[.b],false,fun x=>yh x.1 (kL x.2)⟩
theorem qK:za Tryz.prog 206∧vf.OK Tryz.prog 206:=ctk (T:=[(215,vS)]) (h:=.n) Tryz.func206 rfl zDw ⟨uW,trivial⟩ fun x=>by kernel_rfl
def ji:Ct TS:=⟨[.d (.l (.st 8)) 0],[],[.l (.st 8)],.row 4 7000001,(h4 7000001 75 8 1),[.l (.st 8)],false,fun x=>xd x⟩
theorem qL:za Tryz.prog 132∧ji.OK Tryz.prog 132:=ctk (T:=[]) (h:=.n) Tryz.func132 rfl zDx trivial (fun x=>match x with|[]=>by kernel_rfl|_::_=>by kernel_rfl)
def vT:Ct TS:=⟨[.row 4 1,.fn 126 [] [.ptr 2 0]],(h29 75 8 0 1 2 3 4 5 6 7 8 9 10 11 12 13 14 15 16 17 18 19 20 21 22 23 24 25 26 27 28 29 30),k60,.d (.i .i64) 31,(h29 75 8 0 1 2 3 4 5 6 7 8 9 10 11 12 13 14 15 16 17 18 19 20 21 22 23 24 25 26 27 28 29 30),[.i .i64],false,fun x=>xB x.1 (kL x.2)⟩
theorem uX:za Tryz.prog 215∧vT.OK Tryz.prog 215:=ctk (T:=[(126,oW)]) (h:=.s .n (.s (.s .n (.s (.lr ⟨[(0,.row 4 1),(1,.fn 126 [] [.ptr 2 0]),(7,.d (.i .i64) 31),(8,.d (.i .i64) 32)],(h29 75 8 0 1 2 3 4 5 6 7 8 9 10 11 12 13 14 15 16 17 18 19 20 21 22 23 24 25 26 27 28 29 30),k62,[.i .i64]⟩ [] (h29 75 8 0 1 2 3 4 5 6 7 8 9 10 11 12 13 14 15 16 17 18 19 20 21 22 23 24 25 26 27 28 29 30) [] 0 (fun x K v=>zB (EB.mk x.2.1 x.2.2.1 x.2.2.2.1 x.2.2.2.2.1 x.2.2.2.2.2.1 x.2.2.2.2.2.2.1 x.2.2.2.2.2.2.2.1 x.2.2.2.2.2.2.2.2.1 x.2.2.2.2.2.2.2.2.2.1 x.2.2.2.2.2.2.2.2.2.2.1 x.2.2.2.2.2.2.2.2.2.2.2.1 x.2.2.2.2.2.2.2.2.2.2.2.2.1 x.2.2.2.2.2.2.2.2.2.2.2.2.2.1 x.2.2.2.2.2.2.2.2.2.2.2.2.2.2.1 x.2.2.2.2.2.2.2.2.2.2.2.2.2.2.2.1 x.2.2.2.2.2.2.2.2.2.2.2.2.2.2.2.2.1 x.2.2.2.2.2.2.2.2.2.2.2.2.2.2.2.2.2.1 x.2.2.2.2.2.2.2.2.2.2.2.2.2.2.2.2.2.2.1 x.2.2.2.2.2.2.2.2.2.2.2.2.2.2.2.2.2.2.2.1 x.2.2.2.2.2.2.2.2.2.2.2.2.2.2.2.2.2.2.2.2.1 x.2.2.2.2.2.2.2.2.2.2.2.2.2.2.2.2.2.2.2.2.2.1 x.2.2.2.2.2.2.2.2.2.2.2.2.2.2.2.2.2.2.2.2.2.2.1 x.2.2.2.2.2.2.2.2.2.2.2.2.2.2.2.2.2.2.2.2.2.2.2.1 x.2.2.2.2.2.2.2.2.2.2.2.2.2.2.2.2.2.2.2.2.2.2.2.2.1 x.2.2.2.2.2.2.2.2.2.2.2.2.2.2.2.2.2.2.2.2.2.2.2.2.2.1 x.2.2.2.2.2.2.2.2.2.2.2.2.2.2.2.2.2.2.2.2.2.2.2.2.2.2.1 x.2.2.2.2.2.2.2.2.2.2.2.2.2.2.2.2.2.2.2.2.2.2.2.2.2.2.2.1 x.2.2.2.2.2.2.2.2.2.2.2.2.2.2.2.2.2.2.2.2.2.2.2.2.2.2.2.2.1 x.2.2.2.2.2.2.2.2.2.2.2.2.2.2.2.2.2.2.2.2.2.2.2.2.2.2.2.2.2.1 x.2.2.2.2.2.2.2.2.2.2.2.2.2.2.2.2.2.2.2.2.2.2.2.2.2.2.2.2.2.2.1) x.1 x.2.2.2.2.2.2.2.2.2.2.2.2.2.2.2.2.2.2.2.2.2.2.2.2.2.2.2.2.2.2.2 K v) .n) .n)) .n)) Tryz.func215 rfl zpp ⟨Jj,trivial⟩ fun x=>by kernel_rfl
def Kr:Ct TS:=⟨[.rp 4 1 1 0,.ptr 2 0],(h29 75 8 0 2 3 4 5 6 7 8 9 10 11 12 13 14 15 16 17 18 19 20 21 22 23 24 25 26 27 28 29 30 31),k63,.tup [],(h29 75 8 32 2 3 4 5 6 7 8 9 10 11 12 13 14 15 16 17 18 19 20 21 22 23 24 25 26 27 28 29 30 31),[.l (.st 8)],false,fun x=>vP x.1 x.2.1 (kL x.2.2)⟩
theorem Z1:za Tryz.prog 127∧Kr.OK Tryz.prog 127:=ctk (T:=[]) (h:=.n) Tryz.func127 rfl zDy trivial fun x=>by kernel_rfl
def zd1:Ct TS:=⟨[.d (.l (.st 8)) 0,.fn 126 [] [.ptr 1 0],.fn 127 [] [.ptr 1 0],.d (.i .i64) 31],(h22 1 1 2 3 4 5 6 7 8 9 10 11 12 13 14 15 16 17 18 19 20 21 22 23 24 25 26 27 28 29 30),k62,.tup [.d (.l (.st 8)) 32,.d (.i .i64) 33],(h22 1 1 2 3 4 5 6 7 8 9 10 11 12 13 14 15 16 17 18 19 20 21 22 23 24 25 26 27 28 29 30),[.l (.st 8),.i .i64],false,fun x=>H5 x.1 (zvi x.2) (rEB x.2)⟩
theorem zlk:za Tryz.prog 207∧zd1.OK Tryz.prog 207:=ctg (cd:=cdR) (nb:=nbT) (rc:=[]) (T:=[(132,ji),(215,vT),(127,Kr)]) (h:=.s .n (.s .n (.s .n (.s (.j ⟨[(0,.row 4 103001300),(2,.fn 127 [] [.ptr 1 0]),(10,.d (.i .i64) 30)],(h32 75 8),k23,[.i .i64,.l (.st 8)]⟩ true .n) .n)))) Tryz.func207 rfl zDz ⟨qL,uX,Z1,trivial⟩ fun x=>by kernel_rfl
def AU:Ct TS:=⟨[.d (.l (.st 8)) 0,.fn 126 [] [.ptr 1 0],.fn 127 [] [.ptr 1 0]],(h22 1 1 2 3 4 5 6 7 8 9 10 11 12 13 14 15 16 17 18 19 20 21 22 23 24 25 26 27 28 29 30),k60,.tup [.d (.l (.st 8)) 31,.d (.i .i64) 32],(h22 1 1 2 3 4 5 6 7 8 9 10 11 12 13 14 15 16 17 18 19 20 21 22 23 24 25 26 27 28 29 30),[.l (.st 8),.i .i64],false,fun x=>vH x.1 (kL x.2)⟩
theorem VX:za Tryz.prog 125∧AU.OK Tryz.prog 125:=ctk (T:=[(206,vf),(207,zd1)]) (h:=.n) Tryz.func125 rfl zD0 ⟨qK,zlk,trivial⟩ fun x=>by kernel_rfl
def zd2:Ct TS:=⟨[.d (.st 12) 0,.d (.st 13) 1],[],[.st 12,.st 13],.tup [.ag [.d (.l (.st 1)) 3,.d (.l (.st 3)) 4,.d (.l (.st 5)) 5,.d (.l (.st 7)) 6,.d (.l (.st 8)) 7,.d (.l (.st 10)) 8,.d (.l (.st 9)) 9,.d (.i .i64) 10],.d (.i .i64) 2],(h12 7000001 3 4 5 6 7 8 9 10),k64,false,fun x=>yn x.1 x.2⟩
theorem zll:za Tryz.prog 33∧zd2.OK Tryz.prog 33:=ctg (cd:=cdT) (nb:=nbT) (rc:=[(4,7000001,0)]) (T:=[(102,VO),(104,y4),(105,zp8),(108,wh),(109,Ko),(111,zdu),(114,zdy),(120,jD),(122,zd0),(125,AU)]) (h:=.s .n (.s .n (.s .n (.s (.j ⟨[(2,.ptr 1000002 0),(4,.ptr 1000004 0),(6,.d (.i .i64) 11)],(h25 12 13 14 15 16 0 1 2 1000004 3 4 5 6 7 8 9 10),[.l (.st 10),.l (.st 9),.i .i64,.l (.st 1),.l (.st 3),.l (.st 5),.l (.st 7),.l (.st 8),.l (.st 10),.l (.st 9),.i .i64],[.i .i64,.l (.st 1),.l (.st 3),.l (.st 5),.l (.st 7),.l (.st 8)]⟩ true (.s .n (.s (.s .n (.s .n (.s .n (.s (.s (.s .n (.s (.j ⟨[(2,.ptr 1000002 0),(3,.ptr 1000003 0),(4,.ptr 1000004 0),(7,.fn 102 [] []),(62,.d .b 46)],h65,k66,[.b]⟩ false .n) .n)) .n) (.s .n (.s .n (.s .n (.s .n (.s .n (.s (.s (.s .n (.s (.j ⟨[(2,.ptr 1000002 0),(3,.ptr 1000003 0),(4,.ptr 1000004 0),(120,.d .b 46)],h65,k66,[.b]⟩ false .n) .n)) .n) .n)))))))))) .n))) .n)))) Tryz.func33 rfl hbv33 ⟨zdn,wM,zt0,vR,ZX,zlg,zli,oU,zlj,VX,trivial⟩ fun x=>by kernel_rfl
def uR:Ct TS:=⟨[.d (.l (.st 10)) 0],[],[.l (.st 10)],.row 6 7000001,(h4 7000001 79 10 1),[.l (.st 10)],false,fun x=>wv x⟩
theorem JY:za Tryz.prog 133∧uR.OK Tryz.prog 133:=ctk (T:=[]) (h:=.n) Tryz.func133 rfl zD1 trivial (fun x=>match x with|[]=>by kernel_rfl|_::_=>by kernel_rfl)
def uS:Ct TS:=⟨[.d (.l (.st 9)) 0],[],[.l (.st 9)],.d (.l (.st 9)) 1,[],[.l (.st 9)],false,fun x=>xe x⟩
theorem JZ:za Tryz.prog 134∧uS.OK Tryz.prog 134:=ctk (T:=[]) (h:=.n) Tryz.func134 rfl zD2 trivial (fun x=>match x with|[]=>by kernel_rfl|_::_=>by kernel_rfl)
def kD(RK:Nat):Ct TS:=⟨[.d (.st 0) 0],[],[.st 0],.ag [.d (.i .i64) 1,.d (.i .i64) 2,.d .s 3,.d .s 4,.d (.l (.st 0)) 5],(h67 7000001 1 2 3 4 5),[.i .i64,.i .i64,.s,.s,.l (.st 0)],false,fun x=>y3 RK x⟩
theorem Jk:∀RK,(kD RK).OK Tryz.prog 135
 |0=>(fun x r h=>nomatch (show(none:Option _)=some r from h))
 |RK+1=>(ctg (c:=kD (RK+1)) (cd:=cdT) (nb:=nbT) (rc:=[(2,7000001,0)]) (T:=[(135,kD RK)]) (h:=.s .n (.s .n (.s (.s .n (.s (.l ⟨[(1,.ptr 1000001 0),(2,.ptr 1000002 0),(3,.row 5 7001001),(7,.d (.l (.st 0)) 0),(8,.d (.i .i64) 1),(9,.d (.i .i64) 9)],(h68 10),[.l (.st 0),.i .i64,.i .i64,.i .i64,.s,.s,.i .i64,.s,.l (.st 0)],[.i .i64,.l (.st 0)]⟩ [(1,.ptr 1000001 0),(2,.ptr 1000002 0),(3,.row 5 7001001)] (h68 9) [.l (.st 0)] 0 (fun x K v=>xj (y3 RK) x.1 x.2.1 x.2.2.1 x.2.2.2.1 x.2.2.2.2.1 x.2.2.2.2.2.1 x.2.2.2.2.2.2.1 x.2.2.2.2.2.2.2.1 x.2.2.2.2.2.2.2.2 K v) .n) .n)) .n))) Tryz.func135 rfl zpq ⟨⟨zpq,(Jk RK)⟩,trivial⟩ fun x=>by kernel_rfl).2
theorem zd3(RK:Nat):za Tryz.prog 135∧(kD RK).OK Tryz.prog 135:=⟨zpq,(Jk RK)⟩
def qM:Ct TS:=⟨[.d (.l (.st 2)) 0],[],[.l (.st 2)],.d (.l (.st 2)) 1,[],[.l (.st 2)],false,fun x=>xR x⟩
theorem Jl:za Tryz.prog 136∧qM.OK Tryz.prog 136:=ctk (T:=[]) (h:=.n) Tryz.func136 rfl zvq trivial (fun x=>match x with|[]=>by kernel_rfl|_::_=>by kernel_rfl)
def qN:Ct TS:=⟨[.d (.l (.st 4)) 0],[],[.l (.st 4)],.d (.l (.st 4)) 1,[],[.l (.st 4)],false,fun x=>yE x⟩
theorem Jm:za Tryz.prog 137∧qN.OK Tryz.prog 137:=ctk (T:=[]) (h:=.n) Tryz.func137 rfl zD3 trivial (fun x=>match x with|[]=>by kernel_rfl|_::_=>by kernel_rfl)
def qO:Ct TS:=⟨[.d (.l (.s)) 0],[],[.l (.s)],.d (.l (.s)) 1,[],[.l (.s)],false,fun x=>yF x⟩
theorem Jn:za Tryz.prog 138∧qO.OK Tryz.prog 138:=ctk (T:=[]) (h:=.n) Tryz.func138 rfl zD4 trivial (fun x=>match x with|[]=>by kernel_rfl|_::_=>by kernel_rfl)
def Z3:Ct TS:=⟨[.d (.st 12) 0],[],[.st 12],.ag [.row 6 7000002,.row 3 7000003,.row 3 7000004,.row 20 7000005,.row 4 7000006,.row 6 7000007,.d (.l (.st 9)) 1,.d (.i .i64) 2],[(7000001,.box 30 [.row 6 7000002,.row 3 7000003,.row 3 7000004,.row 20 7000005,.row 4 7000006,.row 6 7000007,.d (.l (.st 9)) 1,.d (.i .i64) 2]),(7000002,.row 67 (.st 1) 3 false),(7000003,.row 70 (.st 3) 4 false),(7000004,.row 72 (.st 5) 5 false),(7000005,.row 39 (.st 7) 6 false),(7000006,.row 75 (.st 8) 7 false),(7000007,.row 79 (.st 10) 8 false)],[.l (.st 9),.i .i64,.l (.st 1),.l (.st 3),.l (.st 5),.l (.st 7),.l (.st 8),.l (.st 10)],false,fun x=>oG x⟩
theorem Z4:za Tryz.prog 34∧Z3.OK Tryz.prog 34:=ctg (cd:=cdT) (nb:=zc0) (rc:=[(2,7000001,0)]) (T:=[(128,jf),(129,jg),(130,jh),(131,wx),(132,ji),(133,uR),(134,uS),(135,kD KK),(136,qM),(137,qN),(138,qO)]) (h:=.s .n (.s .n (.s .n (.s (.s .n (.s (.l ⟨[(1,.ptr 1000001 0),(2,.ptr 1000002 0),(40,.d (.i .i64) 0),(41,.d (.i .i64) 16)],(h69 103001200 67 1 17 103001500 70 3 5 103001800 72 5 6 103002100 39 7 7 8 9),[.i .i64,.l (.st 9),.i .i64,.l (.st 9),.i .i64,.l (.st 3),.l (.st 5),.l (.st 7),.l (.st 8),.l (.st 10),.l (.st 1),.l (.st 3),.l (.st 5),.l (.st 7),.l (.st 8),.l (.st 10)],[.i .i64,.l (.st 1)]⟩ [(1,.ptr 1000001 0),(2,.ptr 1000002 0)] (h69 103001200 67 1 16 103001500 70 3 5 103001800 72 5 6 103002100 39 7 7 8 9) [.l (.st 1)] 0 (fun x K v=>j4 x.1 x.2.1 x.2.2.1 x.2.2.2.1 x.2.2.2.2.1 x.2.2.2.2.2.1 x.2.2.2.2.2.2.1 x.2.2.2.2.2.2.2.1 x.2.2.2.2.2.2.2.2.1 x.2.2.2.2.2.2.2.2.2.1 x.2.2.2.2.2.2.2.2.2.2.1 x.2.2.2.2.2.2.2.2.2.2.2.1 x.2.2.2.2.2.2.2.2.2.2.2.2.1 x.2.2.2.2.2.2.2.2.2.2.2.2.2.1 x.2.2.2.2.2.2.2.2.2.2.2.2.2.2.1 x.2.2.2.2.2.2.2.2.2.2.2.2.2.2.2 K v) .n) .n)) (.s (.s .n (.s (.l ⟨[(1,.ptr 1000001 0),(2,.ptr 1000002 0),(59,.d (.i .i64) 0),(60,.d (.i .i64) 16)],(h69 103001200 67 1 5 103001500 70 3 17 103001800 72 5 6 103002100 39 7 7 8 9),[.i .i64,.l (.st 9),.i .i64,.l (.st 9),.i .i64,.l (.st 1),.l (.st 5),.l (.st 7),.l (.st 8),.l (.st 10),.l (.st 1),.l (.st 3),.l (.st 5),.l (.st 7),.l (.st 8),.l (.st 10)],[.i .i64,.l (.st 3)]⟩ [(1,.ptr 1000001 0),(2,.ptr 1000002 0)] (h69 103001200 67 1 5 103001500 70 3 16 103001800 72 5 6 103002100 39 7 7 8 9) [.l (.st 3)] 2 (fun x K v=>j5 x.1 x.2.1 x.2.2.1 x.2.2.2.1 x.2.2.2.2.1 x.2.2.2.2.2.1 x.2.2.2.2.2.2.1 x.2.2.2.2.2.2.2.1 x.2.2.2.2.2.2.2.2.1 x.2.2.2.2.2.2.2.2.2.1 x.2.2.2.2.2.2.2.2.2.2.1 x.2.2.2.2.2.2.2.2.2.2.2.1 x.2.2.2.2.2.2.2.2.2.2.2.2.1 x.2.2.2.2.2.2.2.2.2.2.2.2.2.1 x.2.2.2.2.2.2.2.2.2.2.2.2.2.2.1 x.2.2.2.2.2.2.2.2.2.2.2.2.2.2.2 K v) .n) .n)) (.s (.s .n (.s (.l ⟨[(1,.ptr 1000001 0),(2,.ptr 1000002 0),(78,.d (.i .i64) 0),(79,.d (.i .i64) 16)],(h69 103001200 67 1 5 103001500 70 3 6 103001800 72 5 17 103002100 39 7 7 8 9),[.i .i64,.l (.st 9),.i .i64,.l (.st 9),.i .i64,.l (.st 1),.l (.st 3),.l (.st 7),.l (.st 8),.l (.st 10),.l (.st 1),.l (.st 3),.l (.st 5),.l (.st 7),.l (.st 8),.l (.st 10)],[.i .i64,.l (.st 5)]⟩ [(1,.ptr 1000001 0),(2,.ptr 1000002 0)] (h69 103001200 67 1 5 103001500 70 3 6 103001800 72 5 16 103002100 39 7 7 8 9) [.l (.st 5)] 4 (fun x K v=>j6 x.1 x.2.1 x.2.2.1 x.2.2.2.1 x.2.2.2.2.1 x.2.2.2.2.2.1 x.2.2.2.2.2.2.1 x.2.2.2.2.2.2.2.1 x.2.2.2.2.2.2.2.2.1 x.2.2.2.2.2.2.2.2.2.1 x.2.2.2.2.2.2.2.2.2.2.1 x.2.2.2.2.2.2.2.2.2.2.2.1 x.2.2.2.2.2.2.2.2.2.2.2.2.1 x.2.2.2.2.2.2.2.2.2.2.2.2.2.1 x.2.2.2.2.2.2.2.2.2.2.2.2.2.2.1 x.2.2.2.2.2.2.2.2.2.2.2.2.2.2.2 K v) .n) .n)) (.s (.s .n (.s (.l ⟨[(1,.ptr 1000001 0),(2,.ptr 1000002 0),(96,.row 20 103002100),(97,.d (.i .i64) 0),(98,.d (.i .i64) 16)],(h69 103002100 39 7 17 103001200 67 1 5 103001500 70 3 6 103001800 72 5 7 8 9),[.i .i64,.l (.st 9),.i .i64,.l (.st 9),.i .i64,.l (.st 1),.l (.st 3),.l (.st 5),.l (.st 8),.l (.st 10),.l (.st 1),.l (.st 3),.l (.st 5),.l (.st 7),.l (.st 8),.l (.st 10)],[.i .i64,.l (.st 7)]⟩ [(1,.ptr 1000001 0),(2,.ptr 1000002 0)] (h69 103001200 67 1 5 103001500 70 3 6 103001800 72 5 7 103002100 39 7 16 8 9) [.l (.st 7)] 6 (fun x K v=>j7 x.1 x.2.1 x.2.2.1 x.2.2.2.1 x.2.2.2.2.1 x.2.2.2.2.2.1 x.2.2.2.2.2.2.1 x.2.2.2.2.2.2.2.1 x.2.2.2.2.2.2.2.2.1 x.2.2.2.2.2.2.2.2.2.1 x.2.2.2.2.2.2.2.2.2.2.1 x.2.2.2.2.2.2.2.2.2.2.2.1 x.2.2.2.2.2.2.2.2.2.2.2.2.1 x.2.2.2.2.2.2.2.2.2.2.2.2.2.1 x.2.2.2.2.2.2.2.2.2.2.2.2.2.2.1 x.2.2.2.2.2.2.2.2.2.2.2.2.2.2.2 K v) .n) .n)) (.s (.s .n (.s (.l ⟨[(1,.ptr 1000001 0),(2,.ptr 1000002 0),(130,.d (.i .i64) 0),(131,.d (.i .i64) 16)],(h69 103001200 67 1 5 103001500 70 3 6 103001800 72 5 7 103002100 39 7 8 17 9),[.i .i64,.l (.st 9),.i .i64,.l (.st 9),.i .i64,.l (.st 1),.l (.st 3),.l (.st 5),.l (.st 7),.l (.st 10),.l (.st 1),.l (.st 3),.l (.st 5),.l (.st 7),.l (.st 8),.l (.st 10)],[.i .i64,.l (.st 8)]⟩ [(1,.ptr 1000001 0),(2,.ptr 1000002 0)] (h69 103001200 67 1 5 103001500 70 3 6 103001800 72 5 7 103002100 39 7 8 16 9) [.l (.st 8)] 8 (fun x K v=>j8 x.1 x.2.1 x.2.2.1 x.2.2.2.1 x.2.2.2.2.1 x.2.2.2.2.2.1 x.2.2.2.2.2.2.1 x.2.2.2.2.2.2.2.1 x.2.2.2.2.2.2.2.2.1 x.2.2.2.2.2.2.2.2.2.1 x.2.2.2.2.2.2.2.2.2.2.1 x.2.2.2.2.2.2.2.2.2.2.2.1 x.2.2.2.2.2.2.2.2.2.2.2.2.1 x.2.2.2.2.2.2.2.2.2.2.2.2.2.1 x.2.2.2.2.2.2.2.2.2.2.2.2.2.2.1 x.2.2.2.2.2.2.2.2.2.2.2.2.2.2.2 K v) .n) .n)) (.s (.s .n (.s (.l ⟨[(1,.ptr 1000001 0),(2,.ptr 1000002 0),(149,.d (.i .i64) 0),(150,.d (.i .i64) 16)],(h69 103001200 67 1 5 103001500 70 3 6 103001800 72 5 7 103002100 39 7 8 9 17),[.i .i64,.l (.st 9),.i .i64,.l (.st 9),.i .i64,.l (.st 1),.l (.st 3),.l (.st 5),.l (.st 7),.l (.st 8),.l (.st 1),.l (.st 3),.l (.st 5),.l (.st 7),.l (.st 8),.l (.st 10)],[.i .i64,.l (.st 10)]⟩ [(1,.ptr 1000001 0),(2,.ptr 1000002 0)] (h69 103001200 67 1 5 103001500 70 3 6 103001800 72 5 7 103002100 39 7 8 9 16) [.l (.st 10)] 10 (fun x K v=>j9 x.1 x.2.1 x.2.2.1 x.2.2.2.1 x.2.2.2.2.1 x.2.2.2.2.2.1 x.2.2.2.2.2.2.1 x.2.2.2.2.2.2.2.1 x.2.2.2.2.2.2.2.2.1 x.2.2.2.2.2.2.2.2.2.1 x.2.2.2.2.2.2.2.2.2.2.1 x.2.2.2.2.2.2.2.2.2.2.2.1 x.2.2.2.2.2.2.2.2.2.2.2.2.1 x.2.2.2.2.2.2.2.2.2.2.2.2.2.1 x.2.2.2.2.2.2.2.2.2.2.2.2.2.2.1 x.2.2.2.2.2.2.2.2.2.2.2.2.2.2.2 K v) .n) .n)) .n))))))))) Tryz.func34 rfl hbv34 ⟨qH,qI,qJ,vC,qL,JY,JZ,(zd3 KK),Jl,Jm,Jn,trivial⟩ fun x=>by kernel_rfl
def zgr:Ct TS:=⟨[.d (.st 12) 0,.d (.st 13) 1],h2,[.st 12,.st 13],.tup [.ag [.d (.l (.st 1)) 3,.d (.l (.st 3)) 4,.d (.l (.st 5)) 5,.d (.l (.st 7)) 6,.d (.l (.st 8)) 7,.d (.l (.st 10)) 8,.d (.l (.st 9)) 9,.d (.i .i64) 10],.d (.i .i64) 2],(h20 7000001 3 4 5 6 7 8 9 10),k64,false,fun x=>JQ x.1 x.2⟩
theorem zi6:za Tryz.prog 10∧zgr.OK Tryz.prog 10:=ctg (cd:=cdT) (nb:=nbT) (rc:=[(4,7000001,0)]) (T:=[(28,JV),(22,qF),(33,zd2),(34,Z3)]) (h:=.s .n (.s (.s (.j ⟨[(2,.ptr 1000002 0),(3,.ptr 1000003 0),(4,.ptr 1000004 0),(15,.d .b 46)],[(900000000,.rw 1),(900000001,.rw 2),(900000002,.rw 3),(900000003,.rw 4),(1000002,.box 30 [.d (.l (.st 1)) 0,.d (.l (.st 3)) 1,.d (.l (.st 5)) 2,.d (.l (.st 7)) 3,.d (.l (.st 8)) 4,.d (.l (.st 10)) 5,.d (.l (.st 9)) 6,.d (.i .i64) 7]),(1000003,.box 42 [.d (.i .i64) 8,.d .s 9,.d .s 10,.d (.i .i64) 11,.d .s 12,.d (.l (.s)) 13,.d (.l (.s)) 14,.d (.i .i64) 15,.d (.i .i64) 16,.d (.i .i64) 17,.d .b 18,.d (.i .i64) 19,.d (.i .i64) 20,.d (.i .i64) 21,.d .s 22,.d .s 23,.d (.l (.st 0)) 24,.d (.i .i64) 25,.d (.i .i64) 26,.d (.i .i64) 27,.d (.i .i64) 28,.d (.i .i64) 29,.d (.i .i64) 30,.d (.i .i64) 31,.d (.i .i64) 32,.d (.i .i64) 33,.d .s 34,.d .s 35,.d (.l (.st 0)) 36,.d (.l (.st 4)) 37]),(1000004,.box 30 [.d (.l (.st 1)) 38,.d (.l (.st 3)) 39,.d (.l (.st 5)) 40,.d (.l (.st 7)) 41,.d (.l (.st 8)) 42,.d (.l (.st 10)) 43,.d (.l (.st 9)) 44,.d (.i .i64) 45])],k66,[.b]⟩ false .n) .n) .n)) Tryz.func10 rfl hbv10 ⟨Jg,qG,zll,Z4,trivial⟩ fun x=>by kernel_rfl
def zd4:Ct TS:=⟨[.d (.i .i64) 0],[],[.i .i64],.ag [.d (.i .i64) 1,.d (.i .i64) 2,.d .s 3,.d .s 4,.d (.l (.st 0)) 5],(h67 7000001 1 2 3 4 5),[.i .i64,.i .i64,.s,.s,.l (.st 0)],false,fun x=>Vw x⟩
theorem zlm:za Tryz.prog 30∧zd4.OK Tryz.prog 30:=ctg (cd:=cdT) (nb:=nbT) (rc:=[(2,7000001,0)]) (T:=[]) (h:=.n) Tryz.func30 rfl hbv30 trivial fun x=>by kernel_rfl
def Jo:Ct TS:=⟨[.d (.st 1) 0,.ptr 1 0],(h70 1 2 3 4 5 6),[.st 1,.s,.i .i64,.i .i64,.s,.s,.l (.st 0)],.d .b 7,(h70 1 2 3 4 5 6),[.b],false,fun x=>H6 x.1 x.2.1 x.2.2.1 x.2.2.2.1 x.2.2.2.2.1 x.2.2.2.2.2.1 x.2.2.2.2.2.2⟩
theorem WI:za Tryz.prog 154∧Jo.OK Tryz.prog 154:=ctk (T:=[]) (h:=.n) Tryz.func154 rfl zD5 trivial fun x=>by kernel_rfl
def vU:Ct TS:=⟨[.d (.l (.st 1)) 0,.fn 154 [] [.ptr 1 0]],(h70 1 2 3 4 5 6),[.l (.st 1),.s,.i .i64,.i .i64,.s,.s,.l (.st 0)],.d (.i .i64) 7,(h70 1 2 3 4 5 6),[.i .i64],false,fun x=>xC x.1 x.2.1 x.2.2.1 x.2.2.2.1 x.2.2.2.2.1 x.2.2.2.2.2.1 x.2.2.2.2.2.2⟩
theorem uY:za Tryz.prog 203∧vU.OK Tryz.prog 203:=ctk (T:=[(154,Jo)]) (h:=.s .n (.s (.s .n (.s (.lr ⟨[(0,.d (.l (.st 1)) 6),(1,.fn 154 [] [.ptr 1 0]),(7,.d (.i .i64) 7),(8,.d (.i .i64) 8)],(h70 0 1 2 3 4 5),[.s,.i .i64,.i .i64,.s,.s,.l (.st 0),.l (.st 1),.i .i64],[.i .i64]⟩ [] (h70 0 1 2 3 4 5) [] 0 (fun x K v=>zC x.1 x.2.1 x.2.2.1 x.2.2.2.1 x.2.2.2.2.1 x.2.2.2.2.2.1 x.2.2.2.2.2.2.1 x.2.2.2.2.2.2.2 K v) .n) .n)) .n)) Tryz.func203 rfl zvo ⟨WI,trivial⟩ fun x=>by kernel_rfl
def zi7:Ct TS:=⟨[.d (.l (.st 1)) 0,.fn 154 [] [.ptr 1 0]],(h70 1 2 3 4 5 6),[.l (.st 1),.s,.i .i64,.i .i64,.s,.s,.l (.st 0)],.tup [.ag [.d .s 8,.d (.i .i64) 9,.d (.i .i64) 10,.d .s 11,.d .s 12,.d (.l (.st 0)) 13],.d .b 7],[(1,.box 67 [.d .s 1,.d (.i .i64) 2,.d (.i .i64) 3,.d .s 4,.d .s 5,.d (.l (.st 0)) 6]),(7000001,.box 67 [.d .s 8,.d (.i .i64) 9,.d (.i .i64) 10,.d .s 11,.d .s 12,.d (.l (.st 0)) 13])],[.b,.s,.i .i64,.i .i64,.s,.s,.l (.st 0)],false,fun x=>H7 x.1 x.2.1 x.2.2.1 x.2.2.2.1 x.2.2.2.2.1 x.2.2.2.2.2.1 x.2.2.2.2.2.2⟩
theorem zp9:za Tryz.prog 153∧zi7.OK Tryz.prog 153:=ctg (cd:=cdT) (nb:=nbT) (rc:=[(4,7000001,0)]) (T:=[(203,vU)]) (h:=.n) Tryz.func153 rfl zD6 ⟨uY,trivial⟩ fun x=>by kernel_rfl
def Jp:Ct TS:=⟨[.d (.st 3) 0,.ptr 1 0],(h71 1 2 3),[.st 3,.s,.l (.st 2),.i .i64],.d .b 4,(h71 1 2 3),[.b],false,fun x=>H8 x.1 x.2.1 x.2.2.1 x.2.2.2⟩
theorem WJ:za Tryz.prog 156∧Jp.OK Tryz.prog 156:=ctk (T:=[]) (h:=.n) Tryz.func156 rfl zD7 trivial fun x=>by kernel_rfl
def vV:Ct TS:=⟨[.d (.l (.st 3)) 0,.fn 156 [] [.ptr 1 0]],(h71 1 2 3),[.l (.st 3),.s,.l (.st 2),.i .i64],.d (.i .i64) 4,(h71 1 2 3),[.i .i64],false,fun x=>xD x.1 x.2.1 x.2.2.1 x.2.2.2⟩
theorem uZ:za Tryz.prog 204∧vV.OK Tryz.prog 204:=ctk (T:=[(156,Jp)]) (h:=.s .n (.s (.s .n (.s (.lr ⟨[(0,.d (.l (.st 3)) 3),(1,.fn 156 [] [.ptr 1 0]),(7,.d (.i .i64) 4),(8,.d (.i .i64) 5)],(h71 0 1 2),[.s,.l (.st 2),.i .i64,.l (.st 3),.i .i64],[.i .i64]⟩ [] (h71 0 1 2) [] 0 (fun x K v=>zD x.1 x.2.1 x.2.2.1 x.2.2.2.1 x.2.2.2.2 K v) .n) .n)) .n)) Tryz.func204 rfl zvp ⟨WJ,trivial⟩ fun x=>by kernel_rfl
def YJ:Ct TS:=⟨[.d (.l (.st 3)) 0,.fn 156 [] [.ptr 1 0]],(h71 1 2 3),[.l (.st 3),.s,.l (.st 2),.i .i64],.tup [.ag [.d .s 5,.d (.l (.st 2)) 6,.d (.i .i64) 7],.d .b 4],[(1,.box 70 [.d .s 1,.d (.l (.st 2)) 2,.d (.i .i64) 3]),(7000001,.box 70 [.d .s 5,.d (.l (.st 2)) 6,.d (.i .i64) 7])],[.b,.s,.l (.st 2),.i .i64],false,fun x=>Az x.1 x.2.1 x.2.2.1 x.2.2.2⟩
theorem zgs:za Tryz.prog 155∧YJ.OK Tryz.prog 155:=ctg (cd:=cdT) (nb:=nbT) (rc:=[(4,7000001,0)]) (T:=[(204,vV)]) (h:=.n) Tryz.func155 rfl zD8 ⟨uZ,trivial⟩ fun x=>by kernel_rfl
def Jq:Ct TS:=⟨[.d (.st 2) 0,.ptr 1 0],(h72 1 2),[.st 2,.s,.i .i64],.d .b 3,(h72 1 2),[.b],false,fun x=>H9 x.1 x.2.1 x.2.2⟩
theorem WK:za Tryz.prog 158∧Jq.OK Tryz.prog 158:=ctk (T:=[]) (h:=.n) Tryz.func158 rfl zD9 trivial fun x=>by kernel_rfl
def vW:Ct TS:=⟨[.d (.l (.st 2)) 0,.fn 158 [] [.ptr 1 0]],(h72 1 2),[.l (.st 2),.s,.i .i64],.d (.i .i64) 3,(h72 1 2),[.i .i64],false,fun x=>xE x.1 x.2.1 x.2.2⟩
theorem u0:za Tryz.prog 205∧vW.OK Tryz.prog 205:=ctk (T:=[(158,Jq)]) (h:=.s .n (.s (.s .n (.s (.lr ⟨[(0,.d (.l (.st 2)) 2),(1,.fn 158 [] [.ptr 1 0]),(7,.d (.i .i64) 3),(8,.d (.i .i64) 4)],(h72 0 1),[.s,.i .i64,.l (.st 2),.i .i64],[.i .i64]⟩ [] (h72 0 1) [] 0 (fun x K v=>zE x.1 x.2.1 x.2.2.1 x.2.2.2 K v) .n) .n)) .n)) Tryz.func205 rfl zvr ⟨WK,trivial⟩ fun x=>by kernel_rfl
def YK:Ct TS:=⟨[.d (.l (.st 2)) 0,.fn 158 [] [.ptr 1 0]],(h72 1 2),[.l (.st 2),.s,.i .i64],.tup [.ag [.d .s 4,.d (.i .i64) 5],.d .b 3],[(1,.box 86 [.d .s 1,.d (.i .i64) 2]),(7000001,.box 86 [.d .s 4,.d (.i .i64) 5])],[.b,.s,.i .i64],false,fun x=>qz x.1 x.2.1 x.2.2⟩
theorem zgt:za Tryz.prog 157∧YK.OK Tryz.prog 157:=ctg (cd:=cdT) (nb:=nbT) (rc:=[(4,7000001,0)]) (T:=[(205,vW)]) (h:=.n) Tryz.func157 rfl zEa ⟨u0,trivial⟩ fun x=>by kernel_rfl
def Jr:Ct TS:=⟨[.d (.st 5) 0,.ptr 1 0],(h73 1 2 3),[.st 5,.s,.b,.l (.st 4)],.d .b 4,(h73 1 2 3),[.b],false,fun x=>Ja x.1 x.2.1 x.2.2.1 x.2.2.2⟩
theorem WL:za Tryz.prog 160∧Jr.OK Tryz.prog 160:=ctk (T:=[]) (h:=.n) Tryz.func160 rfl zEb trivial fun x=>by kernel_rfl
def vX:Ct TS:=⟨[.d (.l (.st 5)) 0,.fn 160 [] [.ptr 1 0]],(h73 1 2 3),[.l (.st 5),.s,.b,.l (.st 4)],.d (.i .i64) 4,(h73 1 2 3),[.i .i64],false,fun x=>xF x.1 x.2.1 x.2.2.1 x.2.2.2⟩
theorem u5:za Tryz.prog 120∧vX.OK Tryz.prog 120:=ctk (T:=[(160,Jr)]) (h:=.s .n (.s (.s .n (.s (.lr ⟨[(0,.d (.l (.st 5)) 3),(1,.fn 160 [] [.ptr 1 0]),(7,.d (.i .i64) 4),(8,.d (.i .i64) 5)],(h73 0 1 2),[.s,.b,.l (.st 4),.l (.st 5),.i .i64],[.i .i64]⟩ [] (h73 0 1 2) [] 0 (fun x K v=>zF x.1 x.2.1 x.2.2.1 x.2.2.2.1 x.2.2.2.2 K v) .n) .n)) .n)) Tryz.func120 rfl zpo ⟨WL,trivial⟩ fun x=>by kernel_rfl
def YL:Ct TS:=⟨[.d (.l (.st 5)) 0,.fn 160 [] [.ptr 1 0]],(h73 1 2 3),[.l (.st 5),.s,.b,.l (.st 4)],.tup [.ag [.d .s 5,.d .b 6,.d (.l (.st 4)) 7],.d .b 4],[(1,.box 72 [.d .s 1,.d .b 2,.d (.l (.st 4)) 3]),(7000001,.box 72 [.d .s 5,.d .b 6,.d (.l (.st 4)) 7])],[.b,.s,.b,.l (.st 4)],false,fun x=>qA x.1 x.2.1 x.2.2.1 x.2.2.2⟩
theorem zgu:za Tryz.prog 159∧YL.OK Tryz.prog 159:=ctg (cd:=cdT) (nb:=nbT) (rc:=[(4,7000001,0)]) (T:=[(120,vX)]) (h:=.n) Tryz.func159 rfl zEc ⟨u5,trivial⟩ fun x=>by kernel_rfl
def Js:Ct TS:=⟨[.d (.st 7) 0,.ptr 1 0],(h74 1 2 3 4 5 6 7 8 9 10 11 12 13 14 15 16 17 18 19 20),[.st 7,.s,.l (.s),.l (.s),.i .i64,.i .i64,.i .i64,.b,.i .i64,.i .i64,.i .i64,.s,.s,.l (.st 0),.i .i64,.i .i64,.i .i64,.i .i64,.i .i64,.i .i64,.i .i64],.d .b 21,(h74 1 2 3 4 5 6 7 8 9 10 11 12 13 14 15 16 17 18 19 20),[.b],false,fun x=>Jb x.1 (zym x.2)⟩
theorem WM:za Tryz.prog 162∧Js.OK Tryz.prog 162:=ctk (T:=[]) (h:=.n) Tryz.func162 rfl zEd trivial fun x=>by kernel_rfl
def vY:Ct TS:=⟨[.d (.l (.st 7)) 0,.fn 162 [] [.ptr 1 0]],(h74 1 2 3 4 5 6 7 8 9 10 11 12 13 14 15 16 17 18 19 20),k75,.d (.i .i64) 21,(h74 1 2 3 4 5 6 7 8 9 10 11 12 13 14 15 16 17 18 19 20),[.i .i64],false,fun x=>xG x.1 (zym x.2)⟩
theorem u6:za Tryz.prog 108∧vY.OK Tryz.prog 108:=ctk (T:=[(162,Js)]) (h:=.s .n (.s (.s .n (.s (.lr ⟨[(0,.d (.l (.st 7)) 20),(1,.fn 162 [] [.ptr 1 0]),(7,.d (.i .i64) 21),(8,.d (.i .i64) 22)],(h74 0 1 2 3 4 5 6 7 8 9 10 11 12 13 14 15 16 17 18 19),[.s,.l (.s),.l (.s),.i .i64,.i .i64,.i .i64,.b,.i .i64,.i .i64,.i .i64,.s,.s,.l (.st 0),.i .i64,.i .i64,.i .i64,.i .i64,.i .i64,.i .i64,.i .i64,.l (.st 7),.i .i64],[.i .i64]⟩ [] (h74 0 1 2 3 4 5 6 7 8 9 10 11 12 13 14 15 16 17 18 19) [] 0 (fun x K v=>zG (RB.mk x.1 x.2.1 x.2.2.1 x.2.2.2.1 x.2.2.2.2.1 x.2.2.2.2.2.1 x.2.2.2.2.2.2.1 x.2.2.2.2.2.2.2.1 x.2.2.2.2.2.2.2.2.1 x.2.2.2.2.2.2.2.2.2.1 x.2.2.2.2.2.2.2.2.2.2.1 x.2.2.2.2.2.2.2.2.2.2.2.1 x.2.2.2.2.2.2.2.2.2.2.2.2.1 x.2.2.2.2.2.2.2.2.2.2.2.2.2.1 x.2.2.2.2.2.2.2.2.2.2.2.2.2.2.1 x.2.2.2.2.2.2.2.2.2.2.2.2.2.2.2.1 x.2.2.2.2.2.2.2.2.2.2.2.2.2.2.2.2.1 x.2.2.2.2.2.2.2.2.2.2.2.2.2.2.2.2.2.1 x.2.2.2.2.2.2.2.2.2.2.2.2.2.2.2.2.2.2.1 x.2.2.2.2.2.2.2.2.2.2.2.2.2.2.2.2.2.2.2.1) x.2.2.2.2.2.2.2.2.2.2.2.2.2.2.2.2.2.2.2.2.1 x.2.2.2.2.2.2.2.2.2.2.2.2.2.2.2.2.2.2.2.2.2 K v) .n) .n)) .n)) Tryz.func108 rfl zis ⟨WM,trivial⟩ fun x=>by kernel_rfl
def YM:Ct TS:=⟨[.d (.l (.st 7)) 0,.fn 162 [] [.ptr 1 0]],(h74 1 2 3 4 5 6 7 8 9 10 11 12 13 14 15 16 17 18 19 20),k75,.tup [.ag [.d .s 22,.d (.l (.s)) 23,.d (.l (.s)) 24,.d (.i .i64) 25,.d (.i .i64) 26,.d (.i .i64) 27,.d .b 28,.d (.i .i64) 29,.d (.i .i64) 30,.d (.i .i64) 31,.d .s 32,.d .s 33,.d (.l (.st 0)) 34,.d (.i .i64) 35,.d (.i .i64) 36,.d (.i .i64) 37,.d (.i .i64) 38,.d (.i .i64) 39,.d (.i .i64) 40,.d (.i .i64) 41],.d .b 21],(h17 1 1 2 3 4 5 6 7 8 9 10 11 12 13 14 15 16 17 18 19 20 7000001 22 23 24 25 26 27 28 29 30 31 32 33 34 35 36 37 38 39 40 41),[.b,.s,.l (.s),.l (.s),.i .i64,.i .i64,.i .i64,.b,.i .i64,.i .i64,.i .i64,.s,.s,.l (.st 0),.i .i64,.i .i64,.i .i64,.i .i64,.i .i64,.i .i64,.i .i64],false,fun x=>qB x.1 (zym x.2)⟩
theorem zgv:za Tryz.prog 161∧YM.OK Tryz.prog 161:=ctg (cd:=cdT) (nb:=nbT) (rc:=[(4,7000001,0)]) (T:=[(108,vY)]) (h:=.n) Tryz.func161 rfl zEe ⟨u6,trivial⟩ fun x=>by kernel_rfl
def Jt:Ct TS:=⟨[.d (.st 8) 0,.ptr 1 0],(h76 1 2 3 4),[.st 8,.s,.i .i64,.i .i64,.l (.st 4)],.d .b 5,(h76 1 2 3 4),[.b],false,fun x=>Jc x.1 x.2.1 x.2.2.1 x.2.2.2.1 x.2.2.2.2⟩
theorem WN:za Tryz.prog 164∧Jt.OK Tryz.prog 164:=ctk (T:=[]) (h:=.n) Tryz.func164 rfl zEf trivial fun x=>by kernel_rfl
def vZ:Ct TS:=⟨[.d (.l (.st 8)) 0,.fn 164 [] [.ptr 1 0]],(h76 1 2 3 4),[.l (.st 8),.s,.i .i64,.i .i64,.l (.st 4)],.d (.i .i64) 5,(h76 1 2 3 4),[.i .i64],false,fun x=>xH x.1 x.2.1 x.2.2.1 x.2.2.2.1 x.2.2.2.2⟩
theorem u7:za Tryz.prog 215∧vZ.OK Tryz.prog 215:=ctk (T:=[(164,Jt)]) (h:=.s .n (.s (.s .n (.s (.lr ⟨[(0,.d (.l (.st 8)) 4),(1,.fn 164 [] [.ptr 1 0]),(7,.d (.i .i64) 5),(8,.d (.i .i64) 6)],(h76 0 1 2 3),[.s,.i .i64,.i .i64,.l (.st 4),.l (.st 8),.i .i64],[.i .i64]⟩ [] (h76 0 1 2 3) [] 0 (fun x K v=>zH x.1 x.2.1 x.2.2.1 x.2.2.2.1 x.2.2.2.2.1 x.2.2.2.2.2 K v) .n) .n)) .n)) Tryz.func215 rfl zpp ⟨WN,trivial⟩ fun x=>by kernel_rfl
def YN:Ct TS:=⟨[.d (.l (.st 8)) 0,.fn 164 [] [.ptr 1 0]],(h76 1 2 3 4),[.l (.st 8),.s,.i .i64,.i .i64,.l (.st 4)],.tup [.ag [.d .s 6,.d (.i .i64) 7,.d (.i .i64) 8,.d (.l (.st 4)) 9],.d .b 5],[(1,.box 75 [.d .s 1,.d (.i .i64) 2,.d (.i .i64) 3,.d (.l (.st 4)) 4]),(7000001,.box 75 [.d .s 6,.d (.i .i64) 7,.d (.i .i64) 8,.d (.l (.st 4)) 9])],[.b,.s,.i .i64,.i .i64,.l (.st 4)],false,fun x=>qC x.1 x.2.1 x.2.2.1 x.2.2.2.1 x.2.2.2.2⟩
theorem zgw:za Tryz.prog 163∧YN.OK Tryz.prog 163:=ctg (cd:=cdT) (nb:=nbT) (rc:=[(4,7000001,0)]) (T:=[(215,vZ)]) (h:=.n) Tryz.func163 rfl zEg ⟨u7,trivial⟩ fun x=>by kernel_rfl
def VY:Ct TS:=⟨[.d (.st 12) 0,.d (.st 12) 1],[],[.st 12,.st 12],.d (.l (.st 13)) 2,[],[.l (.st 13)],false,fun x=>uq x.1 x.2⟩
theorem zd5:za Tryz.prog 57∧VY.OK Tryz.prog 57:=ctk (T:=[(153,zi7),(26,Qq),(155,YJ),(157,YK),(159,YL),(46,xf),(73,ZW),(161,YM),(163,YN)]) (h:=.s .n (.s .n (.s (.s .n (.s (.l ⟨[(2,.ptr 1000002 0),(3,.ptr 1000003 0),(5,.row 30 7001001),(32,.d (.l (.st 1)) 0),(33,.d (.i .i64) 1),(34,.d (.i .i64) 17)],(h77 2 3 4 5 6 7 8 9 0 10 11 12 13 14 15 16 7001001 18),[.l (.st 1),.i .i64,.l (.st 1),.l (.st 3),.l (.st 5),.l (.st 7),.l (.st 8),.l (.st 10),.l (.st 9),.i .i64,.l (.st 3),.l (.st 5),.l (.st 7),.l (.st 8),.l (.st 10),.l (.st 9),.i .i64],[.i .i64,.l (.st 13)]⟩ [(2,.ptr 1000002 0),(3,.ptr 1000003 0),(5,.row 30 7001001)] (h77 2 3 4 5 6 7 8 9 0 10 11 12 13 14 15 16 7001001 17) [.l (.st 13)] 0 (fun x K v=>xk x.1 x.2.1 x.2.2.1 x.2.2.2.1 x.2.2.2.2.1 x.2.2.2.2.2.1 x.2.2.2.2.2.2.1 x.2.2.2.2.2.2.2.1 x.2.2.2.2.2.2.2.2.1 x.2.2.2.2.2.2.2.2.2.1 x.2.2.2.2.2.2.2.2.2.2.1 x.2.2.2.2.2.2.2.2.2.2.2.1 x.2.2.2.2.2.2.2.2.2.2.2.2.1 x.2.2.2.2.2.2.2.2.2.2.2.2.2.1 x.2.2.2.2.2.2.2.2.2.2.2.2.2.2.1 x.2.2.2.2.2.2.2.2.2.2.2.2.2.2.2.1 x.2.2.2.2.2.2.2.2.2.2.2.2.2.2.2.2 K v) (.s .n (.s .n (.s (.j ⟨[(2,.ptr 1000002 0),(3,.ptr 1000003 0),(5,.row 30 7000001),(32,.d (.l (.st 1)) 0),(33,.d (.i .i64) 1),(34,.d (.i .i64) 2)],(h77 3 4 5 6 7 8 9 10 0 11 12 13 14 15 16 17 7000001 18),[.l (.st 1),.i .i64,.i .i64,.l (.st 1),.l (.st 3),.l (.st 5),.l (.st 7),.l (.st 8),.l (.st 10),.l (.st 9),.i .i64,.l (.st 3),.l (.st 5),.l (.st 7),.l (.st 8),.l (.st 10),.l (.st 9),.i .i64],[.l (.st 13)]⟩ false (.s (.s .n (.s .n (.s .n (.s (.j ⟨[(2,.ptr 1000002 0),(3,.ptr 1000003 0),(5,.row 30 7001001),(10,.ptr 1000010 0),(32,.d (.l (.st 1)) 0),(33,.d (.i .i64) 1),(34,.d (.i .i64) 2),(61,.d .b 32)],[(1000002,.box 30 [.d (.l (.st 1)) 3,.d (.l (.st 3)) 4,.d (.l (.st 5)) 5,.d (.l (.st 7)) 6,.d (.l (.st 8)) 7,.d (.l (.st 10)) 8,.d (.l (.st 9)) 9,.d (.i .i64) 10]),(1000003,.box 30 [.d (.l (.st 1)) 0,.d (.l (.st 3)) 11,.d (.l (.st 5)) 12,.d (.l (.st 7)) 13,.d (.l (.st 8)) 14,.d (.l (.st 10)) 15,.d (.l (.st 9)) 16,.d (.i .i64) 17]),(7001001,.row 42 (.st 13) 18 false),(1000010,.box 42 [.d (.i .i64) 19,.d .s 20,.d .s 21,.d (.i .i64) 22,.d .s 21,.d (.l (.s)) 23,.d (.l (.s)) 23,.d (.i .i64) 22,.d (.i .i64) 22,.d (.i .i64) 22,.d .b 24,.d (.i .i64) 22,.d (.i .i64) 22,.d (.i .i64) 22,.d .s 21,.d .s 21,.d (.l (.st 0)) 25,.d (.i .i64) 22,.d (.i .i64) 22,.d (.i .i64) 22,.d (.i .i64) 22,.d (.i .i64) 22,.d (.i .i64) 22,.d (.i .i64) 22,.d (.i .i64) 26,.d (.i .i64) 27,.d .s 28,.d .s 29,.d (.l (.st 0)) 30,.d (.l (.st 4)) 31])],k78,[.b]⟩ false .n) .n)))) .n)) .n)))) .n)) (.s (.s .n (.s (.l ⟨[(2,.ptr 1000002 0),(3,.ptr 1000003 0),(5,.row 30 7001001),(68,.d (.l (.st 3)) 0),(69,.d (.i .i64) 1),(70,.d (.i .i64) 17)],(h77 2 3 4 5 6 7 8 9 10 0 11 12 13 14 15 16 7001001 18),[.l (.st 3),.i .i64,.l (.st 1),.l (.st 3),.l (.st 5),.l (.st 7),.l (.st 8),.l (.st 10),.l (.st 9),.i .i64,.l (.st 1),.l (.st 5),.l (.st 7),.l (.st 8),.l (.st 10),.l (.st 9),.i .i64],[.i .i64,.l (.st 13)]⟩ [(2,.ptr 1000002 0),(3,.ptr 1000003 0),(5,.row 30 7001001)] (h77 2 3 4 5 6 7 8 9 10 0 11 12 13 14 15 16 7001001 17) [.l (.st 13)] 2 (fun x K v=>xm x.1 x.2.1 x.2.2.1 x.2.2.2.1 x.2.2.2.2.1 x.2.2.2.2.2.1 x.2.2.2.2.2.2.1 x.2.2.2.2.2.2.2.1 x.2.2.2.2.2.2.2.2.1 x.2.2.2.2.2.2.2.2.2.1 x.2.2.2.2.2.2.2.2.2.2.1 x.2.2.2.2.2.2.2.2.2.2.2.1 x.2.2.2.2.2.2.2.2.2.2.2.2.1 x.2.2.2.2.2.2.2.2.2.2.2.2.2.1 x.2.2.2.2.2.2.2.2.2.2.2.2.2.2.1 x.2.2.2.2.2.2.2.2.2.2.2.2.2.2.2.1 x.2.2.2.2.2.2.2.2.2.2.2.2.2.2.2.2 K v) (.s .n (.s .n (.s (.s (.s .n (.s .n (.s .n (.s (.l ⟨[(2,.ptr 1000002 0),(3,.ptr 1000003 0),(5,.row 30 7001001),(12,.ptr 1000012 0),(13,.ptr 1000013 0),(68,.d (.l (.st 3)) 0),(69,.d (.i .i64) 1),(70,.d (.i .i64) 2),(82,.d (.l (.st 2)) 3),(83,.d (.i .i64) 4),(84,.d (.i .i64) 25)],(h79 5 6 7 8 9 10 11 12 13 14 15 16 17 18 19 20 21 22 23 24),k80,[.i .i64,.l (.st 13)]⟩ [(2,.ptr 1000002 0),(3,.ptr 1000003 0),(5,.row 30 7001001),(68,.d (.l (.st 3)) 0),(69,.d (.i .i64) 1),(70,.d (.i .i64) 2)] (h77 5 6 7 8 9 10 11 12 13 0 14 15 16 17 18 19 7001001 25) [.l (.st 13)] 4 (fun x K v=>xl x.1 x.2.1 x.2.2.1 x.2.2.2.1 x.2.2.2.2.1 x.2.2.2.2.2.1 x.2.2.2.2.2.2.1 x.2.2.2.2.2.2.2.1 x.2.2.2.2.2.2.2.2.1 x.2.2.2.2.2.2.2.2.2.1 x.2.2.2.2.2.2.2.2.2.2.1 x.2.2.2.2.2.2.2.2.2.2.2.1 x.2.2.2.2.2.2.2.2.2.2.2.2.1 x.2.2.2.2.2.2.2.2.2.2.2.2.2.1 x.2.2.2.2.2.2.2.2.2.2.2.2.2.2.1 x.2.2.2.2.2.2.2.2.2.2.2.2.2.2.2.1 x.2.2.2.2.2.2.2.2.2.2.2.2.2.2.2.2.1 x.2.2.2.2.2.2.2.2.2.2.2.2.2.2.2.2.2.1 x.2.2.2.2.2.2.2.2.2.2.2.2.2.2.2.2.2.2.1 x.2.2.2.2.2.2.2.2.2.2.2.2.2.2.2.2.2.2.2.1 x.2.2.2.2.2.2.2.2.2.2.2.2.2.2.2.2.2.2.2.2.1 x.2.2.2.2.2.2.2.2.2.2.2.2.2.2.2.2.2.2.2.2.2.1 x.2.2.2.2.2.2.2.2.2.2.2.2.2.2.2.2.2.2.2.2.2.2.1 x.2.2.2.2.2.2.2.2.2.2.2.2.2.2.2.2.2.2.2.2.2.2.2.1 x.2.2.2.2.2.2.2.2.2.2.2.2.2.2.2.2.2.2.2.2.2.2.2.2 K v) (.s .n (.s .n (.s (.j ⟨[(2,.ptr 1000002 0),(3,.ptr 1000003 0),(5,.row 30 7001001),(12,.ptr 1000012 0),(13,.ptr 1000013 0),(68,.d (.l (.st 3)) 0),(69,.d (.i .i64) 1),(70,.d (.i .i64) 2),(82,.d (.l (.st 2)) 3),(83,.d (.i .i64) 4),(84,.d (.i .i64) 5)],(h79 6 7 8 9 10 11 12 13 14 15 16 17 18 19 20 21 22 23 24 25),k81,[.l (.st 13)]⟩ false (.s (.s .n (.s .n (.s (.j ⟨[(2,.ptr 1000002 0),(3,.ptr 1000003 0),(5,.row 30 7001001),(12,.ptr 1000012 0),(13,.ptr 1000013 0),(16,.ptr 1000016 0),(68,.d (.l (.st 3)) 0),(69,.d (.i .i64) 1),(70,.d (.i .i64) 2),(82,.d (.l (.st 2)) 3),(83,.d (.i .i64) 4),(84,.d (.i .i64) 5),(103,.d .b 29)],[(1000002,.box 30 [.d (.l (.st 1)) 6,.d (.l (.st 3)) 7,.d (.l (.st 5)) 8,.d (.l (.st 7)) 9,.d (.l (.st 8)) 10,.d (.l (.st 10)) 11,.d (.l (.st 9)) 12,.d (.i .i64) 13]),(1000003,.box 30 [.d (.l (.st 1)) 14,.d (.l (.st 3)) 0,.d (.l (.st 5)) 15,.d (.l (.st 7)) 16,.d (.l (.st 8)) 17,.d (.l (.st 10)) 18,.d (.l (.st 9)) 19,.d (.i .i64) 20]),(7001001,.row 42 (.st 13) 21 false),(1000012,.box 70 [.d .s 22,.d (.l (.st 2)) 3,.d (.i .i64) 23]),(1000013,.box 70 [.d .s 24,.d (.l (.st 2)) 25,.d (.i .i64) 26]),(1000016,.box 86 [.d .s 27,.d (.i .i64) 28])],k82,[.b]⟩ false .n) .n))) .n)) .n)))) .n)))) .n) .n)))) .n)) (.s (.s .n (.s (.l ⟨[(2,.ptr 1000002 0),(3,.ptr 1000003 0),(5,.row 30 7001001),(117,.d (.l (.st 5)) 0),(118,.d (.i .i64) 1),(119,.d (.i .i64) 17)],(h77 2 3 4 5 6 7 8 9 10 11 0 12 13 14 15 16 7001001 18),[.l (.st 5),.i .i64,.l (.st 1),.l (.st 3),.l (.st 5),.l (.st 7),.l (.st 8),.l (.st 10),.l (.st 9),.i .i64,.l (.st 1),.l (.st 3),.l (.st 7),.l (.st 8),.l (.st 10),.l (.st 9),.i .i64],[.i .i64,.l (.st 13)]⟩ [(2,.ptr 1000002 0),(3,.ptr 1000003 0),(5,.row 30 7001001)] (h77 2 3 4 5 6 7 8 9 10 11 0 12 13 14 15 16 7001001 17) [.l (.st 13)] 6 (fun x K v=>xn x.1 x.2.1 x.2.2.1 x.2.2.2.1 x.2.2.2.2.1 x.2.2.2.2.2.1 x.2.2.2.2.2.2.1 x.2.2.2.2.2.2.2.1 x.2.2.2.2.2.2.2.2.1 x.2.2.2.2.2.2.2.2.2.1 x.2.2.2.2.2.2.2.2.2.2.1 x.2.2.2.2.2.2.2.2.2.2.2.1 x.2.2.2.2.2.2.2.2.2.2.2.2.1 x.2.2.2.2.2.2.2.2.2.2.2.2.2.1 x.2.2.2.2.2.2.2.2.2.2.2.2.2.2.1 x.2.2.2.2.2.2.2.2.2.2.2.2.2.2.2.1 x.2.2.2.2.2.2.2.2.2.2.2.2.2.2.2.2 K v) (.s .n (.s .n (.s (.j ⟨[(2,.ptr 1000002 0),(3,.ptr 1000003 0),(5,.row 30 7001001),(117,.d (.l (.st 5)) 0),(118,.d (.i .i64) 1),(119,.d (.i .i64) 2)],(h77 3 4 5 6 7 8 9 10 11 12 0 13 14 15 16 17 7001001 18),[.l (.st 5),.i .i64,.i .i64,.l (.st 1),.l (.st 3),.l (.st 5),.l (.st 7),.l (.st 8),.l (.st 10),.l (.st 9),.i .i64,.l (.st 1),.l (.st 3),.l (.st 7),.l (.st 8),.l (.st 10),.l (.st 9),.i .i64],[.l (.st 13)]⟩ false (.s (.s .n (.s .n (.s (.j ⟨[(2,.ptr 1000002 0),(3,.ptr 1000003 0),(5,.row 30 7001001),(20,.ptr 1000020 0),(117,.d (.l (.st 5)) 0),(118,.d (.i .i64) 1),(119,.d (.i .i64) 2),(139,.d .b 22)],[(1000002,.box 30 [.d (.l (.st 1)) 3,.d (.l (.st 3)) 4,.d (.l (.st 5)) 5,.d (.l (.st 7)) 6,.d (.l (.st 8)) 7,.d (.l (.st 10)) 8,.d (.l (.st 9)) 9,.d (.i .i64) 10]),(1000003,.box 30 [.d (.l (.st 1)) 11,.d (.l (.st 3)) 12,.d (.l (.st 5)) 0,.d (.l (.st 7)) 13,.d (.l (.st 8)) 14,.d (.l (.st 10)) 15,.d (.l (.st 9)) 16,.d (.i .i64) 17]),(7001001,.row 42 (.st 13) 18 false),(1000020,.box 72 [.d .s 19,.d .b 20,.d (.l (.st 4)) 21])],[.l (.st 5),.i .i64,.i .i64,.l (.st 1),.l (.st 3),.l (.st 5),.l (.st 7),.l (.st 8),.l (.st 10),.l (.st 9),.i .i64,.l (.st 1),.l (.st 3),.l (.st 7),.l (.st 8),.l (.st 10),.l (.st 9),.i .i64,.l (.st 13),.s,.b,.l (.st 4)],[.b]⟩ false .n) .n))) .n)) .n)))) .n)) (.s (.s .n (.s (.l ⟨[(2,.ptr 1000002 0),(3,.ptr 1000003 0),(5,.row 30 7001001),(149,.d (.l (.st 7)) 0),(150,.d (.i .i64) 1),(151,.d (.i .i64) 17)],(h77 2 3 4 5 6 7 8 9 10 11 12 0 13 14 15 16 7001001 18),[.l (.st 7),.i .i64,.l (.st 1),.l (.st 3),.l (.st 5),.l (.st 7),.l (.st 8),.l (.st 10),.l (.st 9),.i .i64,.l (.st 1),.l (.st 3),.l (.st 5),.l (.st 8),.l (.st 10),.l (.st 9),.i .i64],[.i .i64,.l (.st 13)]⟩ [(2,.ptr 1000002 0),(3,.ptr 1000003 0),(5,.row 30 7001001)] (h77 2 3 4 5 6 7 8 9 10 11 12 0 13 14 15 16 7001001 17) [.l (.st 13)] 8 (fun x K v=>xo x.1 x.2.1 x.2.2.1 x.2.2.2.1 x.2.2.2.2.1 x.2.2.2.2.2.1 x.2.2.2.2.2.2.1 x.2.2.2.2.2.2.2.1 x.2.2.2.2.2.2.2.2.1 x.2.2.2.2.2.2.2.2.2.1 x.2.2.2.2.2.2.2.2.2.2.1 x.2.2.2.2.2.2.2.2.2.2.2.1 x.2.2.2.2.2.2.2.2.2.2.2.2.1 x.2.2.2.2.2.2.2.2.2.2.2.2.2.1 x.2.2.2.2.2.2.2.2.2.2.2.2.2.2.1 x.2.2.2.2.2.2.2.2.2.2.2.2.2.2.2.1 x.2.2.2.2.2.2.2.2.2.2.2.2.2.2.2.2 K v) (.s .n (.s .n (.s (.j ⟨[(2,.ptr 1000002 0),(3,.ptr 1000003 0),(5,.row 30 7001001),(149,.d (.l (.st 7)) 0),(150,.d (.i .i64) 1),(151,.d (.i .i64) 2)],(h77 3 4 5 6 7 8 9 10 11 12 13 0 14 15 16 17 7001001 18),[.l (.st 7),.i .i64,.i .i64,.l (.st 1),.l (.st 3),.l (.st 5),.l (.st 7),.l (.st 8),.l (.st 10),.l (.st 9),.i .i64,.l (.st 1),.l (.st 3),.l (.st 5),.l (.st 8),.l (.st 10),.l (.st 9),.i .i64],[.l (.st 13)]⟩ false .n) .n)))) .n)) (.s (.s .n (.s (.l ⟨[(2,.ptr 1000002 0),(5,.row 30 7001001),(186,.d (.l (.st 8)) 0),(187,.d (.i .i64) 1),(188,.d (.i .i64) 10)],(h83 2 3 4 5 6 7 8 9),[.l (.st 8),.i .i64,.l (.st 1),.l (.st 3),.l (.st 5),.l (.st 7),.l (.st 8),.l (.st 10),.l (.st 9),.i .i64],[.i .i64,.l (.st 13)]⟩ [(5,.row 30 7001001)] (h4 7001001 42 13 10) [.l (.st 13)] 11 (fun x K v=>xp x.1 x.2.1 x.2.2.1 x.2.2.2.1 x.2.2.2.2.1 x.2.2.2.2.2.1 x.2.2.2.2.2.2.1 x.2.2.2.2.2.2.2.1 x.2.2.2.2.2.2.2.2.1 x.2.2.2.2.2.2.2.2.2 K v) (.s .n (.s .n (.s (.j ⟨[(2,.ptr 1000002 0),(5,.row 30 7001001),(186,.d (.l (.st 8)) 0),(187,.d (.i .i64) 1),(188,.d (.i .i64) 2)],(h83 3 4 5 6 7 8 9 10),[.l (.st 8),.i .i64,.i .i64,.l (.st 1),.l (.st 3),.l (.st 5),.l (.st 7),.l (.st 8),.l (.st 10),.l (.st 9),.i .i64],[.l (.st 13)]⟩ false (.s (.s .n (.s .n (.s (.j ⟨[(2,.ptr 1000002 0),(5,.row 30 7001001),(28,.ptr 1000028 0),(186,.d (.l (.st 8)) 0),(187,.d (.i .i64) 1),(188,.d (.i .i64) 2),(206,.d .b 16)],[(1000002,.box 30 [.d (.l (.st 1)) 3,.d (.l (.st 3)) 4,.d (.l (.st 5)) 5,.d (.l (.st 7)) 6,.d (.l (.st 8)) 7,.d (.l (.st 10)) 8,.d (.l (.st 9)) 9,.d (.i .i64) 10]),(7001001,.row 42 (.st 13) 11 false),(1000028,.box 75 [.d .s 12,.d (.i .i64) 13,.d (.i .i64) 14,.d (.l (.st 4)) 15])],[.l (.st 8),.i .i64,.i .i64,.l (.st 1),.l (.st 3),.l (.st 5),.l (.st 7),.l (.st 8),.l (.st 10),.l (.st 9),.i .i64,.l (.st 13),.s,.i .i64,.i .i64,.l (.st 4)],[.b]⟩ false .n) .n))) .n)) .n)))) .n)) .n))))))) Tryz.func57 rfl hbv57 ⟨zp9,VM,zgs,zgt,zgu,xS,zdj,zgv,zgw,trivial⟩ fun x=>by kernel_rfl
def VZ:Ct TS:=⟨[.d (.st 12) 0,.d (.l (.st 13)) 1],h2,[.st 12,.l (.st 13)],.tup [.ag [.d (.l (.st 1)) 3,.d (.l (.st 3)) 4,.d (.l (.st 5)) 5,.d (.l (.st 7)) 6,.d (.l (.st 8)) 7,.d (.l (.st 10)) 8,.d (.l (.st 9)) 9,.d (.i .i64) 10],.d (.i .i64) 2],(h20 7000001 3 4 5 6 7 8 9 10),k64,false,fun x=>wm x.1 x.2⟩
theorem YO:za Tryz.prog 12∧VZ.OK Tryz.prog 12:=ctg (cd:=cdT) (nb:=nbT) (rc:=[(4,7000001,0)]) (T:=[(28,JV),(10,zgr),(34,Z3)]) (h:=.s .n (.s .n (.s .n (.s (.s .n (.s (.lr ⟨[(2,.ptr 1000002 0),(4,.ptr 1000004 0),(13,.d (.l (.st 13)) 0),(14,.d (.i .i64) 1),(15,.d (.i .i64) 10)],(h84 11 12 13 14 15 16 17 18 1000004 2 3 4 5 6 7 8 9),[.l (.st 13),.i .i64,.l (.st 1),.l (.st 3),.l (.st 5),.l (.st 7),.l (.st 8),.l (.st 10),.l (.st 9),.i .i64],k64⟩ [(2,.ptr 1000002 0),(4,.ptr 1000004 0)] (h84 10 11 12 13 14 15 16 17 1000004 2 3 4 5 6 7 8 9) k1 0 (fun x K v=>xI x.1 x.2.1 x.2.2.1 x.2.2.2.1 x.2.2.2.2.1 x.2.2.2.2.2.1 x.2.2.2.2.2.2.1 x.2.2.2.2.2.2.2.1 x.2.2.2.2.2.2.2.2.1 x.2.2.2.2.2.2.2.2.2 K v) .n) .n)) .n)))) Tryz.func12 rfl hbv12 ⟨Jg,zi6,Z4,trivial⟩ fun x=>by kernel_rfl
def Z5:Ct TS:=⟨[.d (.st 12) 0,.d (.st 12) 1],h2,[.st 12,.st 12],.tup [.d (.l (.st 13)) 2,.d (.i .i64) 3],h2,[.l (.st 13),.i .i64],false,fun x=>AA x.1 x.2⟩
theorem zd6:za Tryz.prog 15∧Z5.OK Tryz.prog 15:=ctk (T:=[(28,JV),(34,Z3),(57,VY),(12,VZ),(14,zi4)]) (h:=.s .n (.s (.s (.j ⟨[(2,.ptr 1000002 0),(3,.ptr 1000003 0),(16,.d .b 16)],(h84 0 1 2 3 4 5 6 7 1000003 8 9 10 11 12 13 14 15),k26,[.b]⟩ false .n) .n) (.s .n (.s (.s .n (.s (.j ⟨[(6,.d (.l (.st 13)) 0),(34,.d .b 1)],h2,[.l (.st 13)],[.b]⟩ false .n) .n)) .n)))) Tryz.func15 rfl hbv15 ⟨Jg,Z4,zd5,YO,zgp,trivial⟩ fun x=>by kernel_rfl
def AV:Ct TS:=⟨[.d (.l (.st 9)) 0,.d (.l (.st 9)) 1],[],[.l (.st 9),.l (.st 9)],.d .b 2,[],[.b],false,fun x=>qh x.1 x.2⟩
theorem V0:za Tryz.prog 165∧AV.OK Tryz.prog 165:=ctk (T:=[]) (h:=.s .n (.s .n (.s (.s .n (.s (.lr ⟨[(0,.d (.l (.st 9)) 0),(1,.d (.l (.st 9)) 1),(5,.d (.i .i64) 2)],[],[.l (.st 9),.l (.st 9)],[.i .i64]⟩ [] [] [] 0 (fun x K v=>vA x.1 x.2 K v) .n) .n)) .n))) Tryz.func165 rfl zEh trivial fun x=>by kernel_rfl
def xJ(RK:Nat):Ct TS:=⟨[.d (.st 0) 0,.d (.st 0) 1],[],[.st 0,.st 0],.d .b 2,[],[.b],false,fun x=>wK RK x.1 x.2⟩
theorem AW:∀RK,(xJ RK).OK Tryz.prog 83
 |0=>(fun x r h=>nomatch (show(none:Option _)=some r from h))
 |RK+1=>(ctk (c:=xJ (RK+1)) (T:=[(83,xJ RK)]) (h:=.s .n (.s (.s (.j ⟨[(2,.ptr 1000002 0),(3,.ptr 1000003 0),(40,.d .b 10)],h85,k86,[.b]⟩ false .n) .n) (.s (.s .n (.s (.lr ⟨[(2,.ptr 1000002 0),(3,.ptr 1000003 0),(5,.d (.i .i64) 10)],h85,k86,[.i .i64]⟩ [] [] [] 0 (fun x K v=>kC (wK RK) x.1 x.2.1 x.2.2.1 x.2.2.2.1 x.2.2.2.2.1 x.2.2.2.2.2.1 x.2.2.2.2.2.2.1 x.2.2.2.2.2.2.2.1 x.2.2.2.2.2.2.2.2.1 x.2.2.2.2.2.2.2.2.2 K v) .n) .n)) .n))) Tryz.func83 rfl zzc ⟨⟨zzc,(AW RK)⟩,trivial⟩ fun x=>by kernel_rfl).2
theorem uy(RK:Nat):za Tryz.prog 83∧(xJ RK).OK Tryz.prog 83:=⟨zzc,(AW RK)⟩
def oX:Ct TS:=⟨[.d (.l (.st 2)) 0,.d (.l (.st 2)) 1],[],[.l (.st 2),.l (.st 2)],.d .b 2,[],[.b],false,fun x=>oH x.1 x.2⟩
theorem KZ:za Tryz.prog 166∧oX.OK Tryz.prog 166:=ctk (T:=[]) (h:=.s .n (.s .n (.s (.s .n (.s (.lr ⟨[(0,.d (.l (.st 2)) 0),(1,.d (.l (.st 2)) 1),(5,.d (.i .i64) 2)],[],[.l (.st 2),.l (.st 2)],[.i .i64]⟩ [] [] [] 0 (fun x K v=>w0 x.1 x.2 K v) .n) .n)) .n))) Tryz.func166 rfl zEi trivial fun x=>by kernel_rfl
def AX:Ct TS:=⟨[.d (.l (.st 4)) 0,.d (.l (.st 4)) 1],[],[.l (.st 4),.l (.st 4)],.d .b 2,[],[.b],false,fun x=>qi x.1 x.2⟩
theorem V1:za Tryz.prog 167∧AX.OK Tryz.prog 167:=ctk (T:=[]) (h:=.s .n (.s .n (.s (.s .n (.s (.lr ⟨[(0,.d (.l (.st 4)) 0),(1,.d (.l (.st 4)) 1),(5,.d (.i .i64) 2)],[],[.l (.st 4),.l (.st 4)],[.i .i64]⟩ [] [] [] 0 (fun x K v=>vB x.1 x.2 K v) .n) .n)) .n))) Tryz.func167 rfl zEj trivial fun x=>by kernel_rfl
def Ju:Ct TS:=⟨[.d (.l (.s)) 0,.d (.l (.s)) 1],[],[.l (.s),.l (.s)],.d .b 2,[],[.b],false,fun x=>ur x.1 x.2⟩
theorem WO:za Tryz.prog 216∧Ju.OK Tryz.prog 216:=ctk (T:=[]) (h:=.s .n (.s .n (.s (.s .n (.s (.lr ⟨[(0,.d (.l (.s)) 0),(1,.d (.l (.s)) 1),(5,.d (.i .i64) 2)],[],[.l (.s),.l (.s)],[.i .i64]⟩ [] [] [] 0 (fun x K v=>jd x.1 x.2 K v) .n) .n)) .n))) Tryz.func216 rfl zEk trivial fun x=>by kernel_rfl
def Ks:Ct TS:=⟨[.d (.st 7) 0,.d (.st 7) 1],[],[.st 7,.st 7],.d .b 2,[],[.b],false,fun x=>Kl x.1 x.2⟩
theorem Z6:za Tryz.prog 168∧Ks.OK Tryz.prog 168:=ctk (T:=[(216,Ju),(83,xJ KK)]) (h:=.s .n (.s (.j ⟨[(2,.ptr 1000002 0),(3,.ptr 1000003 0),(5,.d .b 40)],(h17 1000002 0 1 2 3 4 5 6 7 8 9 10 11 12 13 14 15 16 17 18 19 1000003 20 21 22 23 24 25 26 27 28 29 30 31 32 33 34 35 36 37 38 39),k18,[.b]⟩ false .n) (.s (.j ⟨[(2,.ptr 1000002 0),(3,.ptr 1000003 0),(5,.d .b 0),(6,.d .b 41)],(h17 1000002 1 2 3 4 5 6 7 8 9 10 11 12 13 14 15 16 17 18 19 20 1000003 21 22 23 24 25 26 27 28 29 30 31 32 33 34 35 36 37 38 39 40),k87,[.b]⟩ false .n) .n))) Tryz.func168 rfl zEl ⟨WO,(uy KK),trivial⟩ fun x=>by kernel_rfl
def zi8:Ct TS:=⟨[.d (.st 12) 0,.d (.st 12) 1],[],[.st 12,.st 12],.d .b 2,[],[.b],false,fun x=>zin x.1 x.2⟩
theorem zqa:za Tryz.prog 59∧zi8.OK Tryz.prog 59:=ctk (T:=[(165,AV),(83,xJ KK),(166,oX),(167,AX),(168,Ks)]) (h:=.s .n (.s (.s (.j ⟨[(2,.ptr 1000002 0),(3,.ptr 1000003 0),(77,.d .b 16)],(h25 0 1 2 3 4 5 6 7 1000003 8 9 10 11 12 13 14 15),k26,[.b]⟩ false .n) .n) (.s (.s .n (.s (.lr ⟨[(2,.ptr 1000002 0),(3,.ptr 1000003 0),(5,.d (.i .i64) 16)],(h25 0 1 2 3 4 5 6 7 1000003 8 9 10 11 12 13 14 15),k26,[.i .i64]⟩ [(2,.ptr 1000002 0),(3,.ptr 1000003 0)] (h25 0 1 2 3 4 5 6 7 1000003 8 9 10 11 12 13 14 15) [] 0 (fun x K v=>A8 x.1 x.2.1 x.2.2.1 x.2.2.2.1 x.2.2.2.2.1 x.2.2.2.2.2.1 x.2.2.2.2.2.2.1 x.2.2.2.2.2.2.2.1 x.2.2.2.2.2.2.2.2.1 x.2.2.2.2.2.2.2.2.2.1 x.2.2.2.2.2.2.2.2.2.2.1 x.2.2.2.2.2.2.2.2.2.2.2.1 x.2.2.2.2.2.2.2.2.2.2.2.2.1 x.2.2.2.2.2.2.2.2.2.2.2.2.2.1 x.2.2.2.2.2.2.2.2.2.2.2.2.2.2.1 x.2.2.2.2.2.2.2.2.2.2.2.2.2.2.2 K v) (.s .n (.s (.s (.s (.j ⟨[(2,.ptr 1000002 0),(3,.ptr 1000003 0),(5,.d (.i .i64) 0),(113,.d .b 17)],(h25 1 2 3 4 5 6 7 8 1000003 9 10 11 12 13 14 15 16),k88,[.b]⟩ false .n) .n) .n) .n))) .n)) (.s (.s .n (.s (.lr ⟨[(2,.ptr 1000002 0),(3,.ptr 1000003 0),(6,.d (.i .i64) 16)],(h25 0 1 2 3 4 5 6 7 1000003 8 9 10 11 12 13 14 15),k26,[.i .i64]⟩ [(2,.ptr 1000002 0),(3,.ptr 1000003 0)] (h25 0 1 2 3 4 5 6 7 1000003 8 9 10 11 12 13 14 15) [] 2 (fun x K v=>A9 x.1 x.2.1 x.2.2.1 x.2.2.2.1 x.2.2.2.2.1 x.2.2.2.2.2.1 x.2.2.2.2.2.2.1 x.2.2.2.2.2.2.2.1 x.2.2.2.2.2.2.2.2.1 x.2.2.2.2.2.2.2.2.2.1 x.2.2.2.2.2.2.2.2.2.2.1 x.2.2.2.2.2.2.2.2.2.2.2.1 x.2.2.2.2.2.2.2.2.2.2.2.2.1 x.2.2.2.2.2.2.2.2.2.2.2.2.2.1 x.2.2.2.2.2.2.2.2.2.2.2.2.2.2.1 x.2.2.2.2.2.2.2.2.2.2.2.2.2.2.2 K v) (.s .n (.s (.s (.s (.j ⟨[(2,.ptr 1000002 0),(3,.ptr 1000003 0),(6,.d (.i .i64) 0),(164,.d .b 17)],(h25 1 2 3 4 5 6 7 8 1000003 9 10 11 12 13 14 15 16),k88,[.b]⟩ false .n) .n) .n) .n))) .n)) (.s (.s .n (.s (.lr ⟨[(2,.ptr 1000002 0),(3,.ptr 1000003 0),(7,.d (.i .i64) 16)],(h25 0 1 2 3 4 5 6 7 1000003 8 9 10 11 12 13 14 15),k26,[.i .i64]⟩ [(2,.ptr 1000002 0),(3,.ptr 1000003 0)] (h25 0 1 2 3 4 5 6 7 1000003 8 9 10 11 12 13 14 15) [] 4 (fun x K v=>Ha x.1 x.2.1 x.2.2.1 x.2.2.2.1 x.2.2.2.2.1 x.2.2.2.2.2.1 x.2.2.2.2.2.2.1 x.2.2.2.2.2.2.2.1 x.2.2.2.2.2.2.2.2.1 x.2.2.2.2.2.2.2.2.2.1 x.2.2.2.2.2.2.2.2.2.2.1 x.2.2.2.2.2.2.2.2.2.2.2.1 x.2.2.2.2.2.2.2.2.2.2.2.2.1 x.2.2.2.2.2.2.2.2.2.2.2.2.2.1 x.2.2.2.2.2.2.2.2.2.2.2.2.2.2.1 x.2.2.2.2.2.2.2.2.2.2.2.2.2.2.2 K v) (.s .n (.s (.s (.s (.j ⟨[(2,.ptr 1000002 0),(3,.ptr 1000003 0),(7,.d (.i .i64) 0),(215,.d .b 17)],(h25 1 2 3 4 5 6 7 8 1000003 9 10 11 12 13 14 15 16),k88,[.b]⟩ false .n) .n) .n) .n))) .n)) (.s (.s .n (.s (.lr ⟨[(2,.ptr 1000002 0),(3,.ptr 1000003 0),(8,.d (.i .i64) 16)],(h25 0 1 2 3 4 5 6 7 1000003 8 9 10 11 12 13 14 15),k26,[.i .i64]⟩ [(2,.ptr 1000002 0),(3,.ptr 1000003 0)] (h25 0 1 2 3 4 5 6 7 1000003 8 9 10 11 12 13 14 15) [] 6 (fun x K v=>Hb x.1 x.2.1 x.2.2.1 x.2.2.2.1 x.2.2.2.2.1 x.2.2.2.2.2.1 x.2.2.2.2.2.2.1 x.2.2.2.2.2.2.2.1 x.2.2.2.2.2.2.2.2.1 x.2.2.2.2.2.2.2.2.2.1 x.2.2.2.2.2.2.2.2.2.2.1 x.2.2.2.2.2.2.2.2.2.2.2.1 x.2.2.2.2.2.2.2.2.2.2.2.2.1 x.2.2.2.2.2.2.2.2.2.2.2.2.2.1 x.2.2.2.2.2.2.2.2.2.2.2.2.2.2.1 x.2.2.2.2.2.2.2.2.2.2.2.2.2.2.2 K v) .n) .n)) (.s (.s .n (.s (.lr ⟨[(2,.ptr 1000002 0),(3,.ptr 1000003 0),(9,.d (.i .i64) 16)],(h25 0 1 2 3 4 5 6 7 1000003 8 9 10 11 12 13 14 15),k26,[.i .i64]⟩ [(2,.ptr 1000002 0),(3,.ptr 1000003 0)] (h25 0 1 2 3 4 5 6 7 1000003 8 9 10 11 12 13 14 15) [] 8 (fun x K v=>Hc x.1 x.2.1 x.2.2.1 x.2.2.2.1 x.2.2.2.2.1 x.2.2.2.2.2.1 x.2.2.2.2.2.2.1 x.2.2.2.2.2.2.2.1 x.2.2.2.2.2.2.2.2.1 x.2.2.2.2.2.2.2.2.2.1 x.2.2.2.2.2.2.2.2.2.2.1 x.2.2.2.2.2.2.2.2.2.2.2.1 x.2.2.2.2.2.2.2.2.2.2.2.2.1 x.2.2.2.2.2.2.2.2.2.2.2.2.2.1 x.2.2.2.2.2.2.2.2.2.2.2.2.2.2.1 x.2.2.2.2.2.2.2.2.2.2.2.2.2.2.2 K v) (.s .n (.s (.s (.s (.j ⟨[(2,.ptr 1000002 0),(3,.ptr 1000003 0),(9,.d (.i .i64) 0),(300,.d .b 17)],(h25 1 2 3 4 5 6 7 8 1000003 9 10 11 12 13 14 15 16),k88,[.b]⟩ false .n) .n) .n) .n))) .n)) (.s (.s .n (.s (.lr ⟨[(2,.ptr 1000002 0),(3,.ptr 1000003 0),(10,.d (.i .i64) 16)],(h25 0 1 2 3 4 5 6 7 1000003 8 9 10 11 12 13 14 15),k26,[.i .i64]⟩ [] [] [] 10 (fun x K v=>Hd x.1 x.2.1 x.2.2.1 x.2.2.2.1 x.2.2.2.2.1 x.2.2.2.2.2.1 x.2.2.2.2.2.2.1 x.2.2.2.2.2.2.2.1 x.2.2.2.2.2.2.2.2.1 x.2.2.2.2.2.2.2.2.2.1 x.2.2.2.2.2.2.2.2.2.2.1 x.2.2.2.2.2.2.2.2.2.2.2.1 x.2.2.2.2.2.2.2.2.2.2.2.2.1 x.2.2.2.2.2.2.2.2.2.2.2.2.2.1 x.2.2.2.2.2.2.2.2.2.2.2.2.2.2.1 x.2.2.2.2.2.2.2.2.2.2.2.2.2.2.2 K v) (.s .n (.s (.s (.s (.j ⟨[(2,.ptr 1000002 0),(3,.ptr 1000003 0),(10,.d (.i .i64) 0),(366,.d .b 17)],(h25 1 2 3 4 5 6 7 8 1000003 9 10 11 12 13 14 15 16),k88,[.b]⟩ false .n) .n) .n) .n))) .n)) .n)))))))) Tryz.func59 rfl hbv59 ⟨V0,(uy KK),KZ,V1,Z6,trivial⟩ fun x=>by kernel_rfl
def zi9:Ct TS:=⟨[.d (.st 13) 0,.d (.st 13) 1],[],[.st 13,.st 13],.d .b 2,[],[.b],false,fun x=>Qp x.1 x.2⟩
theorem zqb:za Tryz.prog 27∧zi9.OK Tryz.prog 27:=ctk (T:=[(59,zi8),(83,xJ KK)]) (h:=.s .n (.s (.s (.j ⟨[(2,.ptr 1000002 0),(3,.ptr 1000003 0),(42,.d .b 60)],(h24 2 3 4 5 6 7 8 9 10 11 12 13 14 15 16 17 18 19 20 21 22 23 24 25 26 27 28 29 1000003 30 31 32 33 34 35 36 37 38 39 40 41 42 43 44 45 46 47 48 49 50 51 52 53 54 55 56 57 58 59),k27,[.b]⟩ false .n) .n) (.s (.s .n (.s (.lr ⟨[(2,.ptr 1000002 0),(3,.ptr 1000003 0),(5,.d (.i .i64) 60)],(h24 2 3 4 5 6 7 8 9 10 11 12 13 14 15 16 17 18 19 20 21 22 23 24 25 26 27 28 29 1000003 30 31 32 33 34 35 36 37 38 39 40 41 42 43 44 45 46 47 48 49 50 51 52 53 54 55 56 57 58 59),k27,[.i .i64]⟩ [(2,.ptr 1000002 0),(3,.ptr 1000003 0)] (h24 2 3 4 5 6 7 8 9 10 11 12 13 14 15 16 17 18 19 20 21 22 23 24 25 26 27 28 29 1000003 30 31 32 33 34 35 36 37 38 39 40 41 42 43 44 45 46 47 48 49 50 51 52 53 54 55 56 57 58 59) [] 0 (fun x K v=>He x.1 x.2.1 x.2.2.1 x.2.2.2.1 x.2.2.2.2.1 x.2.2.2.2.2.1 x.2.2.2.2.2.2.1 x.2.2.2.2.2.2.2.1 x.2.2.2.2.2.2.2.2.1 x.2.2.2.2.2.2.2.2.2.1 x.2.2.2.2.2.2.2.2.2.2.1 x.2.2.2.2.2.2.2.2.2.2.2.1 x.2.2.2.2.2.2.2.2.2.2.2.2.1 x.2.2.2.2.2.2.2.2.2.2.2.2.2.1 x.2.2.2.2.2.2.2.2.2.2.2.2.2.2.1 x.2.2.2.2.2.2.2.2.2.2.2.2.2.2.2.1 x.2.2.2.2.2.2.2.2.2.2.2.2.2.2.2.2.1 x.2.2.2.2.2.2.2.2.2.2.2.2.2.2.2.2.2.1 x.2.2.2.2.2.2.2.2.2.2.2.2.2.2.2.2.2.2.1 x.2.2.2.2.2.2.2.2.2.2.2.2.2.2.2.2.2.2.2.1 x.2.2.2.2.2.2.2.2.2.2.2.2.2.2.2.2.2.2.2.2.1 x.2.2.2.2.2.2.2.2.2.2.2.2.2.2.2.2.2.2.2.2.2.1 x.2.2.2.2.2.2.2.2.2.2.2.2.2.2.2.2.2.2.2.2.2.2.1 x.2.2.2.2.2.2.2.2.2.2.2.2.2.2.2.2.2.2.2.2.2.2.2.1 x.2.2.2.2.2.2.2.2.2.2.2.2.2.2.2.2.2.2.2.2.2.2.2.2.1 x.2.2.2.2.2.2.2.2.2.2.2.2.2.2.2.2.2.2.2.2.2.2.2.2.2.1 x.2.2.2.2.2.2.2.2.2.2.2.2.2.2.2.2.2.2.2.2.2.2.2.2.2.2.1 x.2.2.2.2.2.2.2.2.2.2.2.2.2.2.2.2.2.2.2.2.2.2.2.2.2.2.2.1 x.2.2.2.2.2.2.2.2.2.2.2.2.2.2.2.2.2.2.2.2.2.2.2.2.2.2.2.2.1 x.2.2.2.2.2.2.2.2.2.2.2.2.2.2.2.2.2.2.2.2.2.2.2.2.2.2.2.2.2.1 x.2.2.2.2.2.2.2.2.2.2.2.2.2.2.2.2.2.2.2.2.2.2.2.2.2.2.2.2.2.2.1 x.2.2.2.2.2.2.2.2.2.2.2.2.2.2.2.2.2.2.2.2.2.2.2.2.2.2.2.2.2.2.2.1 x.2.2.2.2.2.2.2.2.2.2.2.2.2.2.2.2.2.2.2.2.2.2.2.2.2.2.2.2.2.2.2.2.1 x.2.2.2.2.2.2.2.2.2.2.2.2.2.2.2.2.2.2.2.2.2.2.2.2.2.2.2.2.2.2.2.2.2.1 x.2.2.2.2.2.2.2.2.2.2.2.2.2.2.2.2.2.2.2.2.2.2.2.2.2.2.2.2.2.2.2.2.2.2.1 x.2.2.2.2.2.2.2.2.2.2.2.2.2.2.2.2.2.2.2.2.2.2.2.2.2.2.2.2.2.2.2.2.2.2.2.1 x.2.2.2.2.2.2.2.2.2.2.2.2.2.2.2.2.2.2.2.2.2.2.2.2.2.2.2.2.2.2.2.2.2.2.2.2.1 x.2.2.2.2.2.2.2.2.2.2.2.2.2.2.2.2.2.2.2.2.2.2.2.2.2.2.2.2.2.2.2.2.2.2.2.2.2.1 x.2.2.2.2.2.2.2.2.2.2.2.2.2.2.2.2.2.2.2.2.2.2.2.2.2.2.2.2.2.2.2.2.2.2.2.2.2.2.1 x.2.2.2.2.2.2.2.2.2.2.2.2.2.2.2.2.2.2.2.2.2.2.2.2.2.2.2.2.2.2.2.2.2.2.2.2.2.2.2.1 x.2.2.2.2.2.2.2.2.2.2.2.2.2.2.2.2.2.2.2.2.2.2.2.2.2.2.2.2.2.2.2.2.2.2.2.2.2.2.2.2.1 x.2.2.2.2.2.2.2.2.2.2.2.2.2.2.2.2.2.2.2.2.2.2.2.2.2.2.2.2.2.2.2.2.2.2.2.2.2.2.2.2.2.1 x.2.2.2.2.2.2.2.2.2.2.2.2.2.2.2.2.2.2.2.2.2.2.2.2.2.2.2.2.2.2.2.2.2.2.2.2.2.2.2.2.2.2.1 x.2.2.2.2.2.2.2.2.2.2.2.2.2.2.2.2.2.2.2.2.2.2.2.2.2.2.2.2.2.2.2.2.2.2.2.2.2.2.2.2.2.2.2.1 x.2.2.2.2.2.2.2.2.2.2.2.2.2.2.2.2.2.2.2.2.2.2.2.2.2.2.2.2.2.2.2.2.2.2.2.2.2.2.2.2.2.2.2.2.1 x.2.2.2.2.2.2.2.2.2.2.2.2.2.2.2.2.2.2.2.2.2.2.2.2.2.2.2.2.2.2.2.2.2.2.2.2.2.2.2.2.2.2.2.2.2.1 x.2.2.2.2.2.2.2.2.2.2.2.2.2.2.2.2.2.2.2.2.2.2.2.2.2.2.2.2.2.2.2.2.2.2.2.2.2.2.2.2.2.2.2.2.2.2.1 x.2.2.2.2.2.2.2.2.2.2.2.2.2.2.2.2.2.2.2.2.2.2.2.2.2.2.2.2.2.2.2.2.2.2.2.2.2.2.2.2.2.2.2.2.2.2.2.1 x.2.2.2.2.2.2.2.2.2.2.2.2.2.2.2.2.2.2.2.2.2.2.2.2.2.2.2.2.2.2.2.2.2.2.2.2.2.2.2.2.2.2.2.2.2.2.2.2.1 x.2.2.2.2.2.2.2.2.2.2.2.2.2.2.2.2.2.2.2.2.2.2.2.2.2.2.2.2.2.2.2.2.2.2.2.2.2.2.2.2.2.2.2.2.2.2.2.2.2.1 x.2.2.2.2.2.2.2.2.2.2.2.2.2.2.2.2.2.2.2.2.2.2.2.2.2.2.2.2.2.2.2.2.2.2.2.2.2.2.2.2.2.2.2.2.2.2.2.2.2.2.1 x.2.2.2.2.2.2.2.2.2.2.2.2.2.2.2.2.2.2.2.2.2.2.2.2.2.2.2.2.2.2.2.2.2.2.2.2.2.2.2.2.2.2.2.2.2.2.2.2.2.2.2.1 x.2.2.2.2.2.2.2.2.2.2.2.2.2.2.2.2.2.2.2.2.2.2.2.2.2.2.2.2.2.2.2.2.2.2.2.2.2.2.2.2.2.2.2.2.2.2.2.2.2.2.2.2.1 x.2.2.2.2.2.2.2.2.2.2.2.2.2.2.2.2.2.2.2.2.2.2.2.2.2.2.2.2.2.2.2.2.2.2.2.2.2.2.2.2.2.2.2.2.2.2.2.2.2.2.2.2.2.1 x.2.2.2.2.2.2.2.2.2.2.2.2.2.2.2.2.2.2.2.2.2.2.2.2.2.2.2.2.2.2.2.2.2.2.2.2.2.2.2.2.2.2.2.2.2.2.2.2.2.2.2.2.2.2.1 x.2.2.2.2.2.2.2.2.2.2.2.2.2.2.2.2.2.2.2.2.2.2.2.2.2.2.2.2.2.2.2.2.2.2.2.2.2.2.2.2.2.2.2.2.2.2.2.2.2.2.2.2.2.2.2.1 x.2.2.2.2.2.2.2.2.2.2.2.2.2.2.2.2.2.2.2.2.2.2.2.2.2.2.2.2.2.2.2.2.2.2.2.2.2.2.2.2.2.2.2.2.2.2.2.2.2.2.2.2.2.2.2.2.1 x.2.2.2.2.2.2.2.2.2.2.2.2.2.2.2.2.2.2.2.2.2.2.2.2.2.2.2.2.2.2.2.2.2.2.2.2.2.2.2.2.2.2.2.2.2.2.2.2.2.2.2.2.2.2.2.2.2.1 x.2.2.2.2.2.2.2.2.2.2.2.2.2.2.2.2.2.2.2.2.2.2.2.2.2.2.2.2.2.2.2.2.2.2.2.2.2.2.2.2.2.2.2.2.2.2.2.2.2.2.2.2.2.2.2.2.2.2.1 x.2.2.2.2.2.2.2.2.2.2.2.2.2.2.2.2.2.2.2.2.2.2.2.2.2.2.2.2.2.2.2.2.2.2.2.2.2.2.2.2.2.2.2.2.2.2.2.2.2.2.2.2.2.2.2.2.2.2.2 K v) .n) .n)) .n))) Tryz.func27 rfl hbv27 ⟨zqa,(uy KK),trivial⟩ fun x=>by kernel_rfl
def zd7:Ct TS:=⟨[.d (.st 13) 0],h2,[.st 13],.ag [.d .s 1,.d .s 2,.d .s 3],[(900000000,.rw 1),(900000001,.rw 2),(900000002,.rw 3),(900000003,.rw 4),(7000001,.box 133 [.d .s 1,.d .s 2,.d .s 3])],[.s,.s,.s],false,fun x=>Vx x⟩
theorem zln:za Tryz.prog 82∧zd7.OK Tryz.prog 82:=ctg (cd:=cdT) (nb:=nbT) (rc:=[(2,7000001,0)]) (T:=[(177,zp3)]) (h:=.n) Tryz.func82 rfl hbv82 ⟨⟨zvm,zp4⟩,trivial⟩ fun x=>by kernel_rfl
def zd8:Ct TS:=⟨[.d (.st 13) 0,.d (.st 13) 1],h2,[.st 13,.st 13],.d .b 2,h2,[.b],false,fun x=>Vy x.1 x.2⟩
theorem zlo:za Tryz.prog 24∧zd8.OK Tryz.prog 24:=ctk (T:=[(22,qF),(82,zd7)]) (h:=.n) Tryz.func24 rfl hbv24 ⟨qG,zln,trivial⟩ fun x=>by kernel_rfl
def V2:Ct TS:=⟨[],h2,[],.d .b 0,h2,[.b],false,fun _=>uu⟩
theorem zd9:za Tryz.prog 7∧V2.OK Tryz.prog 7:=ctg (cd:=cdL) (nb:=nbT) (rc:=[]) (T:=[(19,zc5),(17,zdm),(10,zgr),(30,zd4),(15,Z5),(27,zi9),(22,qF),(24,zd8),(26,Qq)]) (h:=.s .n (.s .n (.s .n (.s .n (.s .n (.s .n (.s (.s (.j ⟨[(1,.d (.l (.st 13)) 0),(2,.d (.i .i64) 1),(3,.d .s 2),(4,.d (.i .i64) 3),(6,.d (.i .i64) 4),(8,.d (.i .i64) 5),(9,.d (.l (.st 13)) 6),(10,.d (.i .i64) 7),(55,.d .b 8)],h2,[.l (.st 13),.i .i64,.s,.i .i64,.i .i64,.i .i64,.l (.st 13),.i .i64],[.b]⟩ false .n) .n) (.s (.j ⟨[(1,.d (.l (.st 13)) 0),(9,.d (.l (.st 13)) 1),(11,.d .b 2)],h2,[.l (.st 13),.l (.st 13)],[.b]⟩ false .n) (.s (.j ⟨[(1,.d (.l (.st 13)) 0),(9,.d (.l (.st 13)) 1),(11,.d .b 2),(12,.d .b 3)],h2,[.l (.st 13),.l (.st 13),.b],[.b]⟩ false .n) .n))))))))) Tryz.func7 rfl hbv7 ⟨zk4,zle,zi6,zlm,zd6,zqb,qG,zlo,VM,trivial⟩ fun x=>by kernel_rfl
def wD(RK:Nat):Ct TS:=⟨[.d (.st 0) 0,.d (.i .i64) 1,.d (.i .i64) 2],[],[.st 0,.i .i64,.i .i64],.d (.i .i64) 3,[],[.i .i64],false,fun x=>zW RK x.1 x.2.1 x.2.2⟩
theorem Jv:∀RK,(wD RK).OK Tryz.prog 31
 |0=>(fun x r h=>nomatch (show(none:Option _)=some r from h))
 |RK+1=>(ctk (c:=wD (RK+1)) (T:=[(31,wD RK)]) (h:=.s .n (.s .n (.s .n (.s (.s .n (.s (.l ⟨[(1,.d (.i .i64) 0),(2,.d (.i .i64) 1),(3,.ptr 1000003 0),(7,.d (.i .i64) 7),(8,.d (.i .i64) 8)],(h67 1000003 2 3 4 5 6),[.i .i64,.i .i64,.i .i64,.i .i64,.s,.s,.l (.st 0)],[.i .i64,.i .i64]⟩ [(7,.d (.i .i64) 7)] [] [.i .i64] 0 (fun x K v=>xq (zW RK) x.1 x.2.1 x.2.2.1 x.2.2.2.1 x.2.2.2.2.1 x.2.2.2.2.2.1 x.2.2.2.2.2.2 K v) (.s (.s (.j ⟨[(1,.d (.i .i64) 0),(2,.d (.i .i64) 1),(3,.ptr 1000003 0),(7,.d (.i .i64) 2),(8,.d (.i .i64) 3),(22,.d .b 9)],(h67 1000003 4 5 6 7 8),[.i .i64,.i .i64,.i .i64,.i .i64,.i .i64,.i .i64,.s,.s,.l (.st 0)],[.b]⟩ false .n) .n) .n)) .n)) .n)))) Tryz.func31 rfl zzd ⟨⟨zzd,(Jv RK)⟩,trivial⟩ fun x=>by kernel_rfl).2
theorem oY(RK:Nat):za Tryz.prog 31∧(wD RK).OK Tryz.prog 31:=⟨zzd,(Jv RK)⟩
def J0:Ct TS:=⟨[.d (.st 7) 0],[],[.st 7],.d .b 1,[],[.b],false,fun x=>ka x⟩
theorem V3:za Tryz.prog 32∧J0.OK Tryz.prog 32:=ctk (T:=[(31,wD KK)]) (h:=.n) Tryz.func32 rfl hbv32 ⟨(oY KK),trivial⟩ fun x=>by kernel_rfl
def YP:Ct TS:=⟨[.d (.st 12) 0],[],[.st 12],.d .b 1,[],[.b],false,fun x=>AB x⟩
theorem zgx:za Tryz.prog 8∧YP.OK Tryz.prog 8:=ctk (T:=[(31,wD KK),(32,J0)]) (h:=.s .n (.s (.s (.j ⟨[(1,.ptr 1000001 0),(48,.d .b 8)],(h12 1000001 0 1 2 3 4 5 6 7),k1,[.b]⟩ false .n) .n) (.s (.s .n (.s (.lr ⟨[(1,.ptr 1000001 0),(3,.d (.i .i64) 8)],(h12 1000001 0 1 2 3 4 5 6 7),k1,[.i .i64]⟩ [(1,.ptr 1000001 0)] (h12 1000001 0 1 2 3 4 5 6 7) [] 0 (fun x K v=>w6 x.1 x.2.1 x.2.2.1 x.2.2.2.1 x.2.2.2.2.1 x.2.2.2.2.2.1 x.2.2.2.2.2.2.1 x.2.2.2.2.2.2.2 K v) .n) .n)) (.s (.s .n (.s (.lr ⟨[(1,.ptr 1000001 0),(4,.d (.i .i64) 8)],(h12 1000001 0 1 2 3 4 5 6 7),k1,[.i .i64]⟩ [(1,.ptr 1000001 0)] (h12 1000001 0 1 2 3 4 5 6 7) [] 2 (fun x K v=>w7 x.1 x.2.1 x.2.2.1 x.2.2.2.1 x.2.2.2.2.1 x.2.2.2.2.2.1 x.2.2.2.2.2.2.1 x.2.2.2.2.2.2.2 K v) .n) .n)) (.s (.s .n (.s (.lr ⟨[(1,.ptr 1000001 0),(5,.d (.i .i64) 8)],(h12 1000001 0 1 2 3 4 5 6 7),k1,[.i .i64]⟩ [(1,.ptr 1000001 0)] (h12 1000001 0 1 2 3 4 5 6 7) [] 4 (fun x K v=>w8 x.1 x.2.1 x.2.2.1 x.2.2.2.1 x.2.2.2.2.1 x.2.2.2.2.2.1 x.2.2.2.2.2.2.1 x.2.2.2.2.2.2.2 K v) .n) .n)) (.s (.s .n (.s (.lr ⟨[(1,.ptr 1000001 0),(6,.d (.i .i64) 8)],(h12 1000001 0 1 2 3 4 5 6 7),k1,[.i .i64]⟩ [(1,.ptr 1000001 0)] (h12 1000001 0 1 2 3 4 5 6 7) [] 6 (fun x K v=>w9 x.1 x.2.1 x.2.2.1 x.2.2.2.1 x.2.2.2.2.1 x.2.2.2.2.2.1 x.2.2.2.2.2.2.1 x.2.2.2.2.2.2.2 K v) .n) .n)) (.s (.s .n (.s (.lr ⟨[(1,.ptr 1000001 0),(7,.d (.i .i64) 8)],(h12 1000001 0 1 2 3 4 5 6 7),k1,[.i .i64]⟩ [(1,.ptr 1000001 0)] (h12 1000001 0 1 2 3 4 5 6 7) [] 8 (fun x K v=>vb x.1 x.2.1 x.2.2.1 x.2.2.2.1 x.2.2.2.2.1 x.2.2.2.2.2.1 x.2.2.2.2.2.2.1 x.2.2.2.2.2.2.2 K v) .n) .n)) (.s (.s .n (.s (.lr ⟨[(1,.ptr 1000001 0),(8,.d (.i .i64) 8)],(h12 1000001 0 1 2 3 4 5 6 7),k1,[.i .i64]⟩ [] [] [] 10 (fun x K v=>vc x.1 x.2.1 x.2.2.1 x.2.2.2.1 x.2.2.2.2.1 x.2.2.2.2.2.1 x.2.2.2.2.2.2.1 x.2.2.2.2.2.2.2 K v) .n) .n)) .n)))))))) Tryz.func8 rfl hbv8 ⟨(oY KK),V3,trivial⟩ fun x=>by kernel_rfl
def zea:Ct TS:=⟨[.d (.l (.st 13)) 0],[],[.l (.st 13)],.d .b 1,[],[.b],false,fun x=>Jd x⟩
theorem zlp:za Tryz.prog 9∧zea.OK Tryz.prog 9:=ctk (T:=[(32,J0),(31,wD KK)]) (h:=.s .n (.s (.s .n (.s (.lr ⟨[(0,.d (.l (.st 13)) 0),(3,.d (.i .i64) 1)],[],[.l (.st 13)],[.i .i64]⟩ [(0,.d (.l (.st 13)) 0)] [] [] 0 (fun x K v=>wL x K v) (.s (.s (.j ⟨[(0,.d (.l (.st 13)) 0),(3,.d (.i .i64) 1),(11,.d .b 2)],[],[.l (.st 13),.i .i64],[.b]⟩ false .n) .n) (.s (.s (.s (.j ⟨[(0,.d (.l (.st 13)) 0),(3,.d (.i .i64) 1),(38,.d .b 2)],[],[.l (.st 13),.i .i64],[.b]⟩ false .n) .n) .n) .n))) .n)) .n)) Tryz.func9 rfl hbv9 ⟨V3,(oY KK),trivial⟩ fun x=>by kernel_rfl
def V4:Ct TS:=⟨[.d (.st 12) 0,.d (.l (.st 13)) 1],h2,[.st 12,.l (.st 13)],.d .b 2,h2,[.b],false,fun x=>vd x.1 x.2⟩
theorem K1:za Tryz.prog 4∧V4.OK Tryz.prog 4:=ctk (T:=[(7,V2),(8,YP),(9,zea),(12,VZ),(14,zi4),(15,Z5),(28,JV)]) (h:=.s .n (.s .n (.s (.s (.j ⟨[(1,.d (.l (.st 13)) 0),(2,.ptr 1000002 0),(5,.d .b 1),(24,.d .b 10)],(h20 1000002 2 3 4 5 6 7 8 9),[.l (.st 13),.b,.l (.st 1),.l (.st 3),.l (.st 5),.l (.st 7),.l (.st 8),.l (.st 10),.l (.st 9),.i .i64],[.b]⟩ false .n) .n) (.s .n (.s .n (.s .n (.s .n (.s (.s (.j ⟨[(2,.ptr 1000002 0),(5,.d .b 0),(6,.ptr 1000006 0),(8,.d (.l (.st 13)) 1),(75,.d .b 18)],(h84 2 3 4 5 6 7 8 9 1000006 10 11 12 13 14 15 16 17),k89,[.b]⟩ false .n) .n) (.s (.s .n (.s (.lr ⟨[(2,.ptr 1000002 0),(5,.d .b 0),(6,.ptr 1000006 0),(8,.d (.l (.st 13)) 1),(12,.d (.i .i64) 18)],(h84 2 3 4 5 6 7 8 9 1000006 10 11 12 13 14 15 16 17),k89,[.i .i64]⟩ [(5,.d .b 0)] h2 [] 0 (fun x K v=>zS x.1 x.2.1 x.2.2.1 x.2.2.2.1 x.2.2.2.2.1 x.2.2.2.2.2.1 x.2.2.2.2.2.2.1 x.2.2.2.2.2.2.2.1 x.2.2.2.2.2.2.2.2.1 x.2.2.2.2.2.2.2.2.2.1 x.2.2.2.2.2.2.2.2.2.2.1 x.2.2.2.2.2.2.2.2.2.2.2.1 x.2.2.2.2.2.2.2.2.2.2.2.2.1 x.2.2.2.2.2.2.2.2.2.2.2.2.2.1 x.2.2.2.2.2.2.2.2.2.2.2.2.2.2.1 x.2.2.2.2.2.2.2.2.2.2.2.2.2.2.2.1 x.2.2.2.2.2.2.2.2.2.2.2.2.2.2.2.2.1 x.2.2.2.2.2.2.2.2.2.2.2.2.2.2.2.2.2 K v) (.s .n (.s (.s (.s .n (.s .n (.s (.j ⟨[(2,.ptr 1000002 0),(5,.d .b 0),(6,.ptr 1000006 0),(8,.d (.l (.st 13)) 1),(12,.d (.i .i64) 2),(104,.d .b 19)],(h84 3 4 5 6 7 8 9 10 1000006 11 12 13 14 15 16 17 18),[.b,.l (.st 13),.i .i64,.l (.st 1),.l (.st 3),.l (.st 5),.l (.st 7),.l (.st 8),.l (.st 10),.l (.st 9),.i .i64,.l (.st 1),.l (.st 3),.l (.st 5),.l (.st 7),.l (.st 8),.l (.st 10),.l (.st 9),.i .i64],[.b]⟩ false .n) .n))) .n) .n))) .n)) .n))))))))) Tryz.func4 rfl hbv4 ⟨zd9,zgx,zlp,YO,zgp,zd6,Jg,trivial⟩ fun x=>by kernel_rfl
end Go.Proofs.YthnokpghgeppdaaGreatDoor
