/- What the functions compute; printed by laws.py. -/
import Derived.Test.YtoflckochjijcaaDoorKD
import Derived.Test.YtoflckochjijcaaDoorLaD
set_option linter.all false
set_option maxRecDepth 100000
namespace Go.Proofs.YtoflckochjijcaaDoor
open Go Go.RowKit Go.Eng Go.EV
variable [Fuel]
def s_greenbeltlaw03_few_L1 (l : (List greenbeltref03_Op)) : Nat → Int → Option (Bool ⊕ Unit)
  | 0, _ => none
  | K1 + 1, q1 => (bif (decide (q1 < (List.length l : Int))) then ((idx l q1).bind fun x1 => (bif (decide ((List.length x1.S : Int) > 200)) then some true else (idx l q1).bind fun x2 => some (decide ((List.length x2.Keep : Int) > 50)))).bind fun v2 => (bif v2 then some (.inl false) else (s_greenbeltlaw03_few_L1 l) K1 (w64 (q1 + 1))) else some (.inr ()))
def s_greenbeltlaw03_few (l : (List greenbeltref03_Op)) : Option Bool :=
  ((s_greenbeltlaw03_few_L1 l) KK 0 : Option (Bool ⊕ Unit)).bind fun z1 => match z1 with
 | .inl r => some r
 | .inr v1 => some (decide ((List.length l : Int) ≤ 25))
def s_greenbeltlaw03_texts_L1 (l : (List (List UInt8))) : Nat → Int → Option (Bool ⊕ Unit)
  | 0, _ => none
  | K1 + 1, q1 => (bif (decide (q1 < (List.length l : Int))) then (idx l q1).bind fun x1 => (bif (decide ((List.length x1 : Int) > 200)) then some (.inl false) else (s_greenbeltlaw03_texts_L1 l) K1 (w64 (q1 + 1))) else some (.inr ()))
def s_greenbeltlaw03_texts (l : (List (List UInt8))) : Option Bool :=
  ((s_greenbeltlaw03_texts_L1 l) KK 0 : Option (Bool ⊕ Unit)).bind fun z1 => match z1 with
 | .inl r => some r
 | .inr v1 => some (decide ((List.length l : Int) ≤ 8))
def s_greenbeltlaw03_JournalStays_L1 (l : (List greenbeltref03_Op)) : Nat → (Nat × Int × Wd) → Option (Nat × Wd)
  | 0, _ => none
  | K1 + 1, q1 => (bif (decide (q1.2.1 < (List.length l : Int))) then (idx l q1.2.1).bind fun x1 => ((bif (decide (x1.Kind = 0)) then (bif (!(decide (q1.1 = 0))) then (idx l q1.2.1).bind fun x2 => (k_append q1.2.2 q1.1 x2.S).bind fun y6 => some (q1.1, y6.2) else some (q1.1, q1.2.2)) else (bif (decide (x1.Kind = 1)) then (bif (!(decide (q1.1 = 0))) then (k_sync q1.2.2 q1.1).bind fun y7 => some (q1.1, y7.2) else some (q1.1, q1.2.2)) else (bif (decide (x1.Kind = 2)) then (idx l q1.2.1).bind fun x3 => (k_lose q1.2.2 x3.N).bind fun y8 => some (q1.1, y8.2) else (bif (decide (x1.Kind = 4)) then (idx l q1.2.1).bind fun x4 => (k_crash q1.2.2 x4.Keep).bind fun y9 => (k_start y9.2).bind fun y10 => (k_open y10.2 0).bind fun y11 => some (y11.1.1, y11.2) else some (q1.1, q1.2.2)))))).bind fun v3 => (s_greenbeltlaw03_JournalStays_L1 l) K1 (v3.1, (w64 (q1.2.1 + 1)), v3.2) else some (q1.1, q1.2.2))
def s_greenbeltlaw03_JournalStays_L2 (s : (List (List UInt8))) (v2 : (Nat × Wd)) : Nat → (Int × Wd × (List (List UInt8))) → Option (Bool ⊕ (Wd × (List (List UInt8))))
  | 0, _ => none
  | K2 + 1, q2 => (bif (decide (q2.1 < (List.length s : Int))) then (idx s q2.1).bind fun x5 => (k_append q2.2.1 v2.1 x5).bind fun y13 => ((bif (!(decide (y13.1 = 0))) then some (!(decide (y13.1 = 7))) else some false)).bind fun v5 => (bif v5 then some (.inl false) else ((bif (decide (y13.1 = 0)) then (idx s q2.1).bind fun x6 => (grd (((q2.2.2 ++ [x6])).length * 16 ≤ 140737488355328)).bind fun _ => some (q2.2.2 ++ [x6]) else some q2.2.2)).bind fun v6 => (s_greenbeltlaw03_JournalStays_L2 s v2) K2 ((w64 (q2.1 + 1)), y13.2, v6)) else some (.inr (q2.2.1, q2.2.2)))
def s_greenbeltlaw03_JournalStays_L3 (one : (List Int)) (two : (List Int)) (v4 : (Wd × (List (List UInt8)))) : Nat → (Nat × Int × Wd) → Option (Bool ⊕ (Nat × Wd))
  | 0, _ => none
  | K3 + 1, q3 => (bif (decide (q3.2.1 < 2)) then (k_all q3.2.2 q3.1).bind fun y18 => (s_greenbeltref01_SameTexts y18.1 v4.2).bind fun y19 => (bif (!y19) then some (.inl false) else ((bif (decide (q3.2.1 = 0)) then (k_crash y18.2 one).bind fun y20 => some y20.2 else (k_crash y18.2 two).bind fun y21 => some y21.2)).bind fun v9 => (k_start v9).bind fun y22 => (k_open y22.2 0).bind fun y23 => ((bif (decide (y23.1.1 = 0)) then some true else some (!(decide (y23.1.2 = 0))))).bind fun v10 => (bif v10 then some (.inl false) else (s_greenbeltlaw03_JournalStays_L3 one two v4) K3 (y23.1.1, (w64 (q3.2.1 + 1)), y23.2))) else some (.inr (q3.1, q3.2.2)))
def s_greenbeltlaw03_JournalStays (l : (List greenbeltref03_Op)) (s : (List (List UInt8))) (one : (List Int)) (two : (List Int)) : Option Bool :=
  (s_greenbeltlaw03_small ).bind fun y1 => ((s_greenbeltlaw03_few l).bind fun y2 => (bif (!y2) then some true else (s_greenbeltlaw03_texts s).bind fun y3 => (bif (!y3) then some true else (bif (decide ((List.length one : Int) > 50)) then some true else some (decide ((List.length two : Int) > 50)))))).bind fun v1 => (bif v1 then some y1 else k_new.bind fun y4 => (k_open y4.2 0).bind fun y5 => ((s_greenbeltlaw03_JournalStays_L1 l) KK (y5.1.1, 0, y5.2)).bind fun v2 => (bif (decide (v2.1 = 0)) then some y1 else (k_all v2.2 v2.1).bind fun y12 => ((s_greenbeltlaw03_JournalStays_L2 s v2) KK (0, y12.2, y12.1) : Option (Bool ⊕ (Wd × (List (List UInt8))))).bind fun z4 => match z4 with
 | .inl r => some r
 | .inr v4 => (k_sync v4.1 v2.1).bind fun y14 => (bif (!(decide (y14.1 = 0))) then ((bif y1 then (k_all y14.2 v2.1).bind fun y15 => (s_greenbeltref01_SameTexts y15.1 v4.2).bind fun y16 => some y16 else some false)).bind fun v7 => some v7 else (k_lose y14.2 0).bind fun y17 => ((s_greenbeltlaw03_JournalStays_L3 one two v4) KK (v2.1, 0, y17.2) : Option (Bool ⊕ (Nat × Wd))).bind fun z8 => match z8 with
 | .inl r => some r
 | .inr v8 => ((bif y1 then (k_all v8.2 v8.1).bind fun y24 => (s_greenbeltref01_SameTexts y24.1 v4.2).bind fun y25 => some y25 else some false)).bind fun v11 => some v11)))
def s_greenbeltlaw03_disky (e : Int) : Option Bool :=
  ((bif (decide (e = 8)) then some true else some (decide (e = 9)))).bind fun v1 => some v1
def s_greenbeltlaw03_begins (l : (List (List UInt8))) (a : (List (List UInt8))) : Option Bool :=
  ((bif (decide ((List.length a : Int) ≤ (List.length l : Int))) then (cut l 0 (min (List.length a : Int) (List.length l : Int))).bind fun x1 => (s_greenbeltref01_SameTexts x1 a).bind fun y1 => some y1 else some false)).bind fun v1 => some v1
def s_greenbeltlaw03_JournalLasts_L1 (l : (List greenbeltref03_Op)) (keep : (List Int)) : Nat → (Nat × (List (List UInt8)) × (List (List UInt8)) × Int × Wd) → Option (Bool ⊕ Unit)
  | 0, _ => none
  | K1 + 1, q1 => (bif (decide (q1.2.2.2.1 ≤ (List.length l : Int))) then (((bif (decide (q1.2.2.2.1 < (List.length l : Int))) then (idx l q1.2.2.2.1).bind fun x1 => some (x1.Kind, x1.S, x1.N, x1.Keep, q1.2.2.2.2) else (k_lose q1.2.2.2.2 0).bind fun y5 => (k_arm y5.2 0 []).bind fun y6 => some (4, [], 0, keep, y6.2))).bind fun v4 => (bif (decide (v4.1 = 0)) then (bif (decide (q1.1 = 0)) then some (.inr (q1.1, q1.2.1, q1.2.2.1, v4.2.2.2.2)) else (k_all v4.2.2.2.2 q1.1).bind fun y7 => (k_append y7.2 q1.1 v4.2.1).bind fun y8 => (k_all y8.2 q1.1).bind fun y9 => ((bif (decide (y8.1 = 0)) then some true else (s_greenbeltlaw03_disky y8.1).bind fun y10 => some y10)).bind fun v5 => ((bif v5 then (grd ((q1.2.1).length * 16 ≤ 140737488355328)).bind fun _ => (grd (((q1.2.1 ++ [v4.2.1])).length * 16 ≤ 140737488355328)).bind fun _ => some (q1.2.1 ++ [v4.2.1]) else some q1.2.1)).bind fun v6 => ((bif (decide (y8.1 = 0)) then (grd (((y7.1 ++ [v4.2.1])).length * 16 ≤ 140737488355328)).bind fun _ => (s_greenbeltref01_SameTexts y9.1 (y7.1 ++ [v4.2.1])).bind fun y12 => (bif (!y12) then some true else (bif (!(decide (y8.1 = 0))) then none else some false)) else (bif (!(decide (y8.1 = 0))) then (s_greenbeltref01_SameTexts y9.1 y7.1).bind fun y11 => some (!y11) else some false))).bind fun v7 => (bif v7 then some (.inl false) else some (.inr (q1.1, v6, q1.2.2.1, y9.2)))) else (bif (decide (v4.1 = 1)) then (bif (decide (q1.1 = 0)) then some (.inr (q1.1, q1.2.1, q1.2.2.1, v4.2.2.2.2)) else (k_sync v4.2.2.2.2 q1.1).bind fun y14 => ((bif (decide (y14.1 = 0)) then (k_all y14.2 q1.1).bind fun y15 => some (y15.1, y15.2) else some (q1.2.2.1, y14.2))).bind fun v8 => some (.inr (q1.1, q1.2.1, v8.1, v8.2))) else (bif (decide (v4.1 = 2)) then (k_lose v4.2.2.2.2 v4.2.2.1).bind fun y16 => some (.inr (q1.1, q1.2.1, q1.2.2.1, y16.2)) else (bif (decide (v4.1 = 3)) then (k_arm v4.2.2.2.2 v4.2.2.1 v4.2.2.2.1).bind fun y17 => some (.inr (q1.1, q1.2.1, q1.2.2.1, y17.2)) else ((bif (decide (v4.1 = 4)) then some (decide (v4.1 = 4)) else some (decide (v4.1 = 5)))).bind fun v9 => (bif v9 then ((bif (decide (v4.1 = 4)) then (k_crash v4.2.2.2.2 v4.2.2.2.1).bind fun y18 => some y18.2 else some v4.2.2.2.2)).bind fun v10 => (k_start v10).bind fun y19 => (k_open y19.2 3).bind fun y20 => (bif (decide (y20.1.1 = 0)) then ((s_greenbeltlaw03_disky y20.1.2).bind fun y21 => (bif (!y21) then some true else some (decide (q1.2.2.2.1 = (List.length l : Int))))).bind fun v11 => (bif v11 then some (.inl false) else some (.inr (y20.1.1, q1.2.1, q1.2.2.1, y20.2))) else (k_all y20.2 y20.1.1).bind fun y22 => ((bif (!(decide (y20.1.2 = 0))) then some true else (s_greenbeltlaw03_begins q1.2.1 y22.1).bind fun y23 => (bif (!y23) then some true else (s_greenbeltlaw03_begins y22.1 q1.2.2.1).bind fun y24 => some (!y24)))).bind fun v12 => (bif v12 then some (.inl false) else some (.inr (y20.1.1, y22.1, y22.1, y22.2)))) else some (.inr (q1.1, q1.2.1, q1.2.2.1, v4.2.2.2.2))))))) : Option (Bool ⊕ (Nat × (List (List UInt8)) × (List (List UInt8)) × Wd))).bind fun z3 => match z3 with
 | .inl r => some (.inl r)
 | .inr v3 => (s_greenbeltlaw03_JournalLasts_L1 l keep) K1 (v3.1, v3.2.1, v3.2.2.1, (w64 (q1.2.2.2.1 + 1)), v3.2.2.2) else some (.inr ()))
def s_greenbeltlaw03_JournalLasts (l : (List greenbeltref03_Op)) (keep : (List Int)) : Option Bool :=
  (s_greenbeltlaw03_small ).bind fun y1 => ((s_greenbeltlaw03_few l).bind fun y2 => (bif (!y2) then some true else some (decide ((List.length keep : Int) > 50)))).bind fun v1 => (bif v1 then some y1 else k_new.bind fun y3 => (k_open y3.2 3).bind fun y4 => (bif (decide (y4.1.1 = 0)) then some false else ((s_greenbeltlaw03_JournalLasts_L1 l keep) KK (y4.1.1, [], [], 0, y4.2) : Option (Bool ⊕ Unit)).bind fun z2 => match z2 with
 | .inl r => some r
 | .inr v2 => some y1))
end Go.Proofs.YtoflckochjijcaaDoor
