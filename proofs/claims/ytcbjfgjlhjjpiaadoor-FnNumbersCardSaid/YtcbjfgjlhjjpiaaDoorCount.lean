/- The walks of the functions that count the holes of a card, in both packages: what each returns, and that memory has at most new blocks. -/
import Derived.Test.YtcbjfgjlhjjpiaaDoorHole
namespace Go.Proofs.YtcbjfgjlhjjpiaaDoor
open Go.RowKit
set_option maxRecDepth 100000
set_option linter.unusedVariables false
set_option linter.unusedSimpArgs false
set_option linter.unnecessarySimpa false

/-- the ones of a number, f bits of it -/
def cntN : Nat → Nat → Nat
  | 0, _ => 0
  | f + 1, x => x % 2 + cntN f (x / 2)
theorem cntN_le : ∀ f x, cntN f x ≤ f
  | 0, _ => Nat.le_refl _
  | f + 1, x => by have := cntN_le f (x / 2); simp only [cntN]; omega
theorem cntN_zero : ∀ f, cntN f 0 = 0
  | 0 => rfl
  | f + 1 => by simp only [cntN]; simpa using cntN_zero f
def onesI (x : Int) : Int := (cntN 12 x.toNat : Int)
theorem onesI_bd (x : Int) : 0 ≤ onesI x ∧ onesI x ≤ 12 := by have := cntN_le 12 x.toNat; unfold onesI; omega
def sumUp (xs : List Int) (k : Nat) : Int := ((xs.take k).map onesI).sum
theorem sumUp_zero (xs : List Int) : sumUp xs 0 = 0 := rfl
theorem sumUp_succ {xs : List Int} {k : Nat} {x : Int} (h : xs[k]? = some x) : sumUp xs (k + 1) = sumUp xs k + onesI x := by
  simp [sumUp, List.take_add_one, h]
theorem sumUp_bd (xs : List Int) : ∀ k, 0 ≤ sumUp xs k ∧ sumUp xs k ≤ 12 * k
  | 0 => by simp [sumUp_zero]
  | k + 1 => by
    have ih := sumUp_bd xs k
    cases h : xs[k]? with
    | some x => rw [sumUp_succ h]; have := onesI_bd x; omega
    | none => have e : sumUp xs (k + 1) = sumUp xs k := by simp [sumUp, List.take_add_one, h]
              rw [e]; omega
def countI (xs : List Int) : Int := if validCardL xs then sumUp xs xs.length else 0
def countCode (xs : List Int) : Int := if validCardL xs then 0 else 1
theorem count_bad {xs : List Int} (h : validCardL xs = false) : countI xs = 0 ∧ countCode xs = 1 := by unfold countI countCode; rw [h]; exact ⟨rfl, rfl⟩
theorem count_ok {xs : List Int} (h : validCardL xs = true) : countI xs = sumUp xs xs.length ∧ countCode xs = 0 := by unfold countI countCode; rw [h]; exact ⟨rfl, rfl⟩
theorem validCard_mask {xs : List Int} {k : Nat} {x : Int} (h : validCardL xs = true) (hx : xs[k]? = some x) : 0 ≤ x ∧ x ≤ 4095 := by
  cases hm : maskB x
  · rw [validCard_not hx hm] at h; cases h
  · exact inB_true.1 hm

def popA (x : Int) : Int := IntKind.u64.wrap (bits BinOp.and IntKind.u64 (x / 2) 6148914691236517205 + bits BinOp.and IntKind.u64 x 6148914691236517205)
def popB (x : Int) : Int := IntKind.u64.wrap (bits BinOp.and IntKind.u64 (x / 4) 3689348814741910323 + bits BinOp.and IntKind.u64 x 3689348814741910323)
def popC (x : Int) : Int := bits BinOp.and IntKind.u64 (IntKind.u64.wrap (x / 16 + x)) 1085102592571150095
def popD (x : Int) : Int := IntKind.u64.wrap (x + x / 256)
def popE (x : Int) : Int := IntKind.u64.wrap (x + x / 65536)
def popF (x : Int) : Int := IntKind.u64.wrap (x + x / 4294967296)
def pop64 (x : Int) : Int := bits BinOp.and IntKind.i64 (wrap64 (popF (popE (popD (popC (popB (popA x))))))) 127
theorem pop64_fin : ∀ n : Fin 4096, pop64 (n.val : Int) = onesI (n.val : Int) := by decide +kernel
theorem pop64_eq (x : Int) (h0 : 0 ≤ x) (h1 : x ≤ 4095) : pop64 x = onesI x := by
  have e := pop64_fin ⟨x.toNat, by omega⟩
  simp only [Int.toNat_of_nonneg h0] at e
  exact e
end Go.Proofs.YtcbjfgjlhjjpiaaDoor
