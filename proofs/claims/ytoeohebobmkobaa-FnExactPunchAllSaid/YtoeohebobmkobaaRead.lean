/- The walks of the functions that read texts off cards and that tell illegal columns: what each returns, and that memory has at most new blocks. -/
import Derived.Test.YtoeohebobmkobaaData
import Derived.Test.YtoeohebobmkobaaRanks
import Derived.Test.YtoeohebobmkobaaCopy
import Derived.Test.YtoeohebobmkobaaTexts
import Derived.Laws.IdiomStrings
namespace Go.Proofs.Ytoeohebobmkobaa
open Go.RowKit
set_option maxRecDepth 100000
set_option linter.unusedVariables false
set_option linter.unusedSimpArgs false
set_option linter.unnecessarySimpa false

/-- has a column a character? -/
def legalB (m : Int) : Bool := decide (0 ≤ rankM m)
def legalL (xs : List Int) : Bool := xs.all legalB
/-- the columns that have none -/
def illL (xs : List Int) (k : Nat) : List Int := ((List.range k).filter fun j => !legalB (xs.getD j 0)).map Int.ofNat
theorem illL_zero (xs : List Int) : illL xs 0 = [] := rfl
theorem illL_yes {xs : List Int} {k : Nat} {x : Int} (h : xs[k]? = some x) (hx : rankM x < 0) : illL xs (k + 1) = illL xs k ++ [(k : Int)] := by
  unfold illL
  rw [List.range_succ, List.filter_append, List.map_append]
  simp [List.getD_eq_getElem?_getD, h, legalB, hx]
theorem illL_no {xs : List Int} {k : Nat} {x : Int} (h : xs[k]? = some x) (hx : ¬ rankM x < 0) : illL xs (k + 1) = illL xs k := by
  unfold illL
  rw [List.range_succ, List.filter_append, List.map_append]
  simp [List.getD_eq_getElem?_getD, h, legalB]; omega
theorem illL_len (xs : List Int) (k : Nat) : (illL xs k).length ≤ k := by
  unfold illL; rw [List.length_map]
  exact Nat.le_trans (List.length_filter_le _ _) (by simp)
def illegalL (xs : List Int) : List Int := if validCardL xs then illL xs xs.length else []
def validCode (xs : List Int) : Int := if validCardL xs then 0 else 1
theorem illegal_bad {xs : List Int} (h : validCardL xs = false) : illegalL xs = [] ∧ validCode xs = 1 := by unfold illegalL validCode; rw [h]; exact ⟨rfl, rfl⟩
theorem illegal_ok {xs : List Int} (h : validCardL xs = true) : illegalL xs = illL xs xs.length ∧ validCode xs = 0 := by unfold illegalL validCode; rw [h]; exact ⟨rfl, rfl⟩
theorem illegalL_len (xs : List Int) : (illegalL xs).length ≤ 1048576 := by
  cases h : validCardL xs
  · rw [(illegal_bad h).1]; simp
  · rw [(illegal_ok h).1]; have := illL_len xs xs.length; have := validCard_len h; omega
/-! ### texts -/
def chU (m : Int) : UInt8 := UInt8.ofNat (charM m).toNat
theorem chU_is {m : Int} (h : 0 ≤ rankM m) : ((chU m).toNat : Int) = charM m := by
  obtain ⟨_, h1, h2, _⟩ := charM_is h
  unfold chU
  rw [UInt8.toNat_ofNat', Nat.mod_eq_of_lt (by omega)]; omega
def textL (xs : List Int) : List UInt8 := xs.map chU
def textS (xs : List Int) : ByteArray := ⟨(textL xs).toArray⟩
theorem textL_length (xs : List Int) : (textL xs).length = xs.length := by simp [textL]
theorem textL_take {xs : List Int} {k : Nat} {x : Int} (h : xs[k]? = some x) : textL (xs.take (k + 1)) = textL (xs.take k) ++ [chU x] := by
  unfold textL; rw [List.take_add_one, h]; simp
theorem textS_size (xs : List Int) : (textS xs).size = xs.length := by
  show (textL xs).toArray.size = _
  simp [textL]
def textOrS (xs : List Int) : ByteArray := if legalL xs then textS xs else ⟨#[]⟩
def readS (xs : List Int) : ByteArray := if validCardL xs then textOrS xs else ⟨#[]⟩
def readCode (xs : List Int) : Int := if validCardL xs then (if legalL xs then 0 else 8) else 1
theorem read_bad {xs : List Int} (h : validCardL xs = false) : readS xs = ⟨#[]⟩ ∧ readCode xs = 1 := by unfold readS readCode; rw [h]; exact ⟨rfl, rfl⟩
theorem read_not {xs : List Int} (h : validCardL xs = true) (h2 : legalL xs = false) : readS xs = ⟨#[]⟩ ∧ readCode xs = 8 := by unfold readS readCode textOrS; rw [h, h2]; exact ⟨rfl, rfl⟩
theorem read_ok {xs : List Int} (h : validCardL xs = true) (h2 : legalL xs = true) : readS xs = textS xs ∧ readCode xs = 0 := by unfold readS readCode textOrS; rw [h, h2]; exact ⟨rfl, rfl⟩
theorem legal_at {xs : List Int} {k : Nat} {x : Int} (h : legalL xs = true) (hx : xs[k]? = some x) : 0 ≤ rankM x := by
  have := List.all_eq_true.1 h x (List.mem_of_getElem? hx)
  simpa [legalB] using this
end Go.Proofs.Ytoeohebobmkobaa
