/- The walks of the functions on single holes: what each returns, and that memory has at most new blocks. -/
import Derived.Test.YtcbjfgjlhjjpiaaDoorCopy
import Derived.Test.YtcbjfgjlhjjpiaaDoorRanks
import Derived.Deep.RegionWith
namespace Go.Proofs.YtcbjfgjlhjjpiaaDoor
open Go.RowKit
set_option maxRecDepth 100000
set_option linter.unusedVariables false
set_option linter.unusedSimpArgs false
set_option linter.unnecessarySimpa false

/-- the code of a card, a column and a row -/
def holeI (xs : List Int) (col row : Int) : Int := if validCardL xs then (if inB col 0 ((xs.length : Int) - 1) && !(bitI row == 0) then 0 else 2) else 1
theorem holeI_bad {xs : List Int} {col row : Int} (h : validCardL xs = false) : holeI xs col row = 1 := by unfold holeI; rw [h]; rfl
theorem holeI_range {xs : List Int} {col row : Int} (h : validCardL xs = true) (h2 : inB col 0 ((xs.length : Int) - 1) = false) : holeI xs col row = 2 := by unfold holeI; rw [h, h2]; rfl
theorem holeI_row {xs : List Int} {col row : Int} (h : validCardL xs = true) (h2 : (bitI row == 0) = true) : holeI xs col row = 2 := by unfold holeI; rw [h, h2]; simp
theorem holeI_ok {xs : List Int} {col row : Int} (h : validCardL xs = true) (h2 : inB col 0 ((xs.length : Int) - 1) = true) (h3 : (bitI row == 0) = false) : holeI xs col row = 0 := by unfold holeI; rw [h, h2, h3]; rfl
theorem holeI_zero {xs : List Int} {col row : Int} (h : holeI xs col row = 0) : validCardL xs = true ∧ inB col 0 ((xs.length : Int) - 1) = true ∧ (bitI row == 0) = false := by
  cases h1 : validCardL xs
  · rw [holeI_bad h1] at h; cases h
  · cases h2 : inB col 0 ((xs.length : Int) - 1)
    · rw [holeI_range h1 h2] at h; cases h
    · cases h3 : (bitI row == 0)
      · exact ⟨rfl, rfl, rfl⟩
      · rw [holeI_row h1 h3] at h; cases h

/-- is there a hole? -/
def hasI (xs : List Int) (col row : Int) : Bool := andI (xs.getD col.toNat 0) (bitI row) != 0
def hasHoleB (xs : List Int) (col row : Int) : Bool := if holeI xs col row == 0 then hasI xs col row else false
theorem hasHole_no {xs : List Int} {col row : Int} (h : (holeI xs col row == 0) = false) : hasHoleB xs col row = false := by unfold hasHoleB; rw [h]; rfl
theorem hasHole_yes {xs : List Int} {col row : Int} {k : Nat} {x : Int} (h : holeI xs col row = 0) (hc : col = k) (hx : xs[k]? = some x) : hasHoleB xs col row = (bits BinOp.and IntKind.i64 x (bitI row) != 0) := by
  unfold hasHoleB hasI; rw [h, hc]; simp [List.getD_eq_getElem?_getD, hx, andI]
/-- a card with a hole more -/
def punchI (xs : List Int) (col row : Int) : List Int := xs.set col.toNat (orI (xs.getD col.toNat 0) (bitI row))
def punchHoleCode (xs : List Int) (col row : Int) : Int := if holeI xs col row == 0 then (if hasI xs col row then 4 else 0) else holeI xs col row
def punchHoleL (xs : List Int) (col row : Int) : List Int := if punchHoleCode xs col row == 0 then punchI xs col row else []
theorem punchHole_bad {xs : List Int} {col row : Int} (h : (holeI xs col row == 0) = false) : punchHoleCode xs col row = holeI xs col row ∧ punchHoleL xs col row = [] := by
  have h1 : punchHoleCode xs col row = holeI xs col row := by unfold punchHoleCode; rw [h]; rfl
  exact ⟨h1, by unfold punchHoleL; rw [h1, h]; rfl⟩
theorem punchHole_has {xs : List Int} {col row : Int} {k : Nat} {x : Int} (h : holeI xs col row = 0) (hc : col = k) (hx : xs[k]? = some x) (hh : (bits BinOp.and IntKind.i64 x (bitI row) != 0) = true) : punchHoleCode xs col row = 4 ∧ punchHoleL xs col row = [] := by
  have h0 : hasI xs col row = true := by unfold hasI; rw [hc]; simpa [List.getD_eq_getElem?_getD, hx, andI] using hh
  have h1 : punchHoleCode xs col row = 4 := by unfold punchHoleCode; rw [h, h0]; rfl
  exact ⟨h1, by unfold punchHoleL; rw [h1]; rfl⟩
theorem punchHole_ok {xs : List Int} {col row : Int} {k : Nat} {x : Int} (h : holeI xs col row = 0) (hc : col = k) (hx : xs[k]? = some x) (hh : (bits BinOp.and IntKind.i64 x (bitI row) != 0) = false) : punchHoleCode xs col row = 0 ∧ punchHoleL xs col row = xs.set k (bits BinOp.or IntKind.i64 x (bitI row)) := by
  have h0 : hasI xs col row = false := by unfold hasI; rw [hc]; simpa [List.getD_eq_getElem?_getD, hx, andI] using hh
  have h1 : punchHoleCode xs col row = 0 := by unfold punchHoleCode; rw [h, h0]; rfl
  exact ⟨h1, by unfold punchHoleL punchI; rw [h1, hc]; simp [List.getD_eq_getElem?_getD, hx, orI]⟩
theorem punchHoleL_len (xs : List Int) (col row : Int) (h : xs.length ≤ 1048576) : (punchHoleL xs col row).length ≤ 1048576 := by
  unfold punchHoleL punchI; split
  · simpa using h
  · simp
end Go.Proofs.YtcbjfgjlhjjpiaaDoor
