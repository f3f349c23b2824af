/- chapter 44: the contracts of the walked functions, for the engine Ev -/
import Derived.Test.YtnnieebmbepjpaaR
import Derived.Test.YtnnieebmbepjpaaE
import Derived.Test.YtnnieebmbepjpaaEvTwo
set_option linter.all false
namespace Go.Proofs.Ytnnieebmbepjpaa
open Go Go.Eng
section
def enc_Fact (x : Fact) : List EV.V := [.str x.key, .int .i64 x.value, .int .i64 x.from_, .int .i64 x.until_, .int .i64 x.known]
def enc_Stay (x : Stay) : List EV.V := [.int .i64 x.from_, .int .i64 x.to]
theorem encFact_is (Z : EV.ZM) (a : Fact) (xs : List Value) (h : EV.RepL none Z (enc_Fact a) xs) : xs = encFact a := by
  obtain ⟨_, _, rfl, rfl, _, _, rfl, rfl, _, _, rfl, rfl, _, _, rfl, rfl, _, _, rfl, rfl, rfl⟩ := h
  rfl
theorem encFact_rep (Z : EV.ZM) (a : Fact) : EV.RepL none Z (enc_Fact a) (encFact a) := ⟨_, _, rfl, rfl, _, _, rfl, rfl, _, _, rfl, rfl, _, _, rfl, rfl, _, _, rfl, rfl, rfl⟩
theorem encStay_is (Z : EV.ZM) (a : Stay) (xs : List Value) (h : EV.RepL none Z (enc_Stay a) xs) : xs = encStay a := by
  obtain ⟨_, _, rfl, rfl, _, _, rfl, rfl, rfl⟩ := h
  rfl
theorem encStay_rep (Z : EV.ZM) (a : Stay) : EV.RepL none Z (enc_Stay a) (encStay a) := ⟨_, _, rfl, rfl, _, _, rfl, rfl, rfl⟩
theorem rdFact {Z : EV.ZM} {w : World} {x : Value} {l : List Fact} (hf : ∀ a y, Z a = some y → w.cell? a = some y) (h : EV.Rep none Z (.vs 5 (l.map enc_Fact)) x) : Rd w encFact 5 x l := EV.rd_of (fun _ => rfl) (encFact_is Z) hf h
theorem rdStay {Z : EV.ZM} {w : World} {x : Value} {l : List Stay} (hf : ∀ a y, Z a = some y → w.cell? a = some y) (h : EV.Rep none Z (.vs 2 (l.map enc_Stay)) x) : Rd w encStay 2 x l := EV.rd_of (fun _ => rfl) (encStay_is Z) hf h
def s_small : Option Bool := some true
theorem w_small (r : Bool) (hs : s_small = some r) : EV.FnA Try.prog 7 [] [] (.bool r) [] := by
  cases hs
  refine EV.fnA_is (x := .bool true) rfl (fun _ _ => rfl) fun w Z vals hf hv => ?_
  cases hv
  exact small_is w
def s_few (base : List Fact) : Option Bool := some (fewB base)
theorem w_few (base : List Fact) (r : Bool) (hs : s_few base = some r) : EV.FnA Try.prog 8 [.vs 5 (List.map enc_Fact base)] [] (.bool r) [] := by
  cases hs
  refine EV.fnA_is (x := .bool (fewB base)) rfl (fun _ _ => rfl) fun w Z vals hf hv => ?_
  obtain ⟨x, _, rfl, hx, rfl⟩ := hv
  exact few_is x base w (rdFact hf hx)
def s_right (base : List Fact) : Option Bool := some (rightB base)
theorem w_right (base : List Fact) (r : Bool) (hs : s_right base = some r) : EV.FnA Try.prog 15 [.vs 5 (List.map enc_Fact base)] [] (.bool r) [] := by
  cases hs
  refine EV.fnA_is (x := .bool (rightB base)) rfl (fun _ _ => rfl) fun w Z vals hf hv => ?_
  obtain ⟨x, _, rfl, hx, rfl⟩ := hv
  exact right_is x base w (rdFact hf hx)
def s_has (f : Fact) (day : Int) : Option Bool := some (hasB f day)
theorem w_has (f : Fact) (day : Int) (r : Bool) (hs : s_has f day = some r) : EV.FnA Try.prog 23 [.agg (enc_Fact f), .int .i64 day] [] (.bool r) [] := by
  cases hs
  refine EV.fnA_is (x := .bool (hasB f day)) rfl (fun _ _ => rfl) fun w Z vals hf hv => ?_
  obtain ⟨x, _, rfl, ⟨xs, rfl, hx⟩, _, _, rfl, rfl, rfl⟩ := hv
  rw [encFact_is Z f xs hx]
  exact has_is f day w
def s_at (base : List Fact) (key : List UInt8) (day known : Int) : Option (Int × Bool) := some (atOf base key day known)
theorem w_at (base : List Fact) (key : List UInt8) (day known : Int) (r : Int × Bool) (hs : s_at base key day known = some r) : EV.FnA Try.prog 11 [.vs 5 (List.map enc_Fact base), .str key, .int .i64 day, .int .i64 known] [] (.tup [.int .i64 r.1, .bool r.2]) [] := by
  cases hs
  refine EV.fnA_is (x := .tuple #[i64 ((atOf base key day known).1), .bool ((atOf base key day known).2)]) rfl (fun _ _ => ⟨_, rfl, _, _, rfl, rfl, _, _, rfl, rfl, rfl⟩) fun w Z vals hf hv => ?_
  obtain ⟨x, _, rfl, hx, _, _, rfl, rfl, _, _, rfl, rfl, _, _, rfl, rfl, rfl⟩ := hv
  exact at_is x base key day known w (rdFact hf hx)
def s_hist (base : List Fact) (key : List UInt8) (known : Int) : Option (List Fact) := some (histOf base key known)
theorem w_hist (base : List Fact) (key : List UInt8) (known : Int) (r : List Fact) (hs : s_hist base key known = some r) : EV.FnA Try.prog 18 [.vs 5 (List.map enc_Fact base), .str key, .int .i64 known] [] (.vs 5 (List.map enc_Fact r)) [] := by
  cases hs
  refine EV.fnA_row (e := 24) (enc := encFact) (fun _ => rfl) rfl encFact_rep fun w Z vals hf hv => ?_
  obtain ⟨x, _, rfl, hx, _, _, rfl, rfl, _, _, rfl, rfl, rfl⟩ := hv
  exact hist_is x base key known w (rdFact hf hx)
def s_cor (base : List Fact) (key : List UInt8) (a b : Int) : Option (List Stay) := some (corOf base key a b)
theorem w_cor (base : List Fact) (key : List UInt8) (a b : Int) (r : List Stay) (hs : s_cor base key a b = some r) : EV.FnA Try.prog 21 [.vs 5 (List.map enc_Fact base), .str key, .int .i64 a, .int .i64 b] [] (.vs 2 (List.map enc_Stay r)) [] := by
  cases hs
  refine EV.fnA_row (e := 44) (enc := encStay) (fun _ => rfl) rfl encStay_rep fun w Z vals hf hv => ?_
  obtain ⟨x, _, rfl, hx, _, _, rfl, rfl, _, _, rfl, rfl, _, _, rfl, rfl, rfl⟩ := hv
  exact cor_is x base key a b w (rdFact hf hx)
def s_stays (a b : List Stay) : Option Bool := some (decide (a = b))
theorem w_stays (a b : List Stay) (r : Bool) (hs : s_stays a b = some r) : EV.FnA Try.prog 20 [.vs 2 (List.map enc_Stay a), .vs 2 (List.map enc_Stay b)] [] (.bool r) [] := by
  cases hs
  refine EV.fnA_is (x := .bool (decide (a = b))) rfl (fun _ _ => rfl) fun w Z vals hf hv => ?_
  obtain ⟨x, _, rfl, hx, y, _, rfl, hy, rfl⟩ := hv
  exact stays_is x a y b w (rdStay hf hx) (rdStay hf hy)
end
end Go.Proofs.Ytnnieebmbepjpaa
