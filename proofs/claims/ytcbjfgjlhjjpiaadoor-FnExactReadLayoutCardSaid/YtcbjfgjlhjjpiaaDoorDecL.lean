/- The decimal form of a number, digit by digit from behind. No program in sight. -/
import Derived.Test.YtcbjfgjlhjjpiaaDoorData
import Derived.Lib.ItoaMem
import Derived.Lib.ItoaLen
namespace Go.Proofs.YtcbjfgjlhjjpiaaDoor
open Go.RowKit
set_option linter.unusedVariables false
set_option linter.unusedSimpArgs false
set_option linter.unnecessarySimpa false

/-- the last L digits -/
def decUp (u L : Nat) : List UInt8 := (List.range L).map fun t => Lib.dg u (L - 1 - t)
theorem decUp_zero (u : Nat) : decUp u 0 = [] := rfl
theorem decUp_length (u L : Nat) : (decUp u L).length = L := by simp [decUp]
theorem decUp_succ (u L : Nat) : decUp u (L + 1) = Lib.dg u L :: decUp u L := by
  unfold decUp
  rw [List.range_succ_eq_map, List.map_cons, List.map_map]
  congr 1
  apply List.map_congr_left
  intro t _
  simp only [Function.comp]
  congr 1
  omega
theorem pow_le_digits (u : Nat) : 0 < u → 10 ^ (Lib.nDigits u - 1) ≤ u := by
  induction u using Nat.strongRecOn with
  | _ u ih =>
    intro h0
    by_cases h : u < 10
    · rw [Lib.nDigits_small h]; exact h0
    · have h1 := ih (u / 10) (by omega) (by omega)
      have h2 := Lib.nDigits_pos (u / 10)
      rw [Lib.nDigits_big h, show Lib.nDigits (u / 10) + 1 - 1 = (Lib.nDigits (u / 10) - 1) + 1 by omega, Nat.pow_succ]
      omega
theorem decUp_all {u L : Nat} (h0 : 0 < u) (h1 : u / 10 ^ L = 0) (h2 : L ≤ Lib.nDigits u) : decUp u L = Lib.decDigits u := by
  have hlt : u < 10 ^ L := (Nat.div_eq_zero_iff_lt (Nat.pow_pos (by decide))).1 h1
  have hn : Lib.nDigits u ≤ L := by
    rcases Nat.lt_or_ge L (Lib.nDigits u) with h | h
    · exfalso
      have hp : 10 ^ (Lib.nDigits u - 1) ≤ u := pow_le_digits u h0
      have : 10 ^ L ≤ 10 ^ (Lib.nDigits u - 1) := Nat.pow_le_pow_right (by decide) (by omega)
      omega
    · exact h
  have e : L = Lib.nDigits u := by omega
  subst e
  rw [Lib.decDigits_eq]; rfl
theorem more_digits {u L : Nat} (h : ¬ u / 10 ^ L = 0) : L + 1 ≤ Lib.nDigits u := by
  rcases Nat.lt_or_ge L (Lib.nDigits u) with h1 | h1
  · exact h1
  · exfalso
    apply h
    have := Lib.lt_pow_nDigits u
    exact Nat.div_eq_of_lt (Nat.lt_of_lt_of_le this (Nat.pow_le_pow_right (by decide) h1))
theorem dg_toNat (u L : Nat) : ((Lib.dg u L).toNat : Int) = 48 + ((u / 10 ^ L % 10 : Nat) : Int) := by
  unfold Lib.dg
  have : (UInt8.ofNat (48 + u / 10 ^ L % 10)).toNat = 48 + u / 10 ^ L % 10 := by
    rw [UInt8.toNat_ofNat']; omega
  rw [this]; omega
theorem ret_str {a b : ByteArray} (h : a = b) : Ending.returned (.string a) = .returned (.string b) := by rw [h]
theorem itoa_zero : Lib.itoa 0 = [48] := by decide +kernel
end Go.Proofs.YtcbjfgjlhjjpiaaDoor
