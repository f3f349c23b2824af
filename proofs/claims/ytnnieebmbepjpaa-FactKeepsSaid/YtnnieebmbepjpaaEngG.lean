/- The engine, seventh part: small words. -/
import Derived.Test.YtnnieebmbepjpaaEngF
set_option linter.all false
namespace Go.Eng
open Go Go.RowKit
theorem cell0 {W : World} {p : Addr} {v : Value} (h : W.cell? (p.add 0) = some v) : W.cell? p = some v := by rwa [Addr.add_zero'] at h
theorem blk_each {W0 w : World} {L : List Own} (S : St W0 L w) {n b t : Nat} {cs : List Value} (hL : L[n]? = some (.blk b cs t)) (off : Nat) {us : List Value} (hu : (cs.drop off).take us.length = us) :
    ∀ j u, us[j]? = some u → w.cell? ((⟨b, off, none⟩ : Addr).add j) = some u := by
  intro j u hj
  rw [Addr.add_lit]
  refine S.cell hL ?_
  have hjl : j < us.length := (List.getElem?_eq_some_iff.1 hj).1
  rw [← hu, List.getElem?_take, if_pos hjl, List.getElem?_drop] at hj
  exact hj
theorem zero_of {P : Program} {t : Nat} {z : Value} {zs : List Value} (h : (P.info? t).map (·.zero) = some (some z)) (hz : z.cells.toList = zs) : ZeroT P t zs := by
  cases hi : P.info? t with
  | none => rw [hi] at h; cases h
  | some i =>
    rw [hi] at h
    exact ⟨i, z, hi, by simpa using h, hz⟩
def encI (n : Int) : List Value := [i64 n]
def encB (b : Bool) : List Value := [.bool b]
def encS (s : List UInt8) : List Value := [str s]
end Go.Eng
