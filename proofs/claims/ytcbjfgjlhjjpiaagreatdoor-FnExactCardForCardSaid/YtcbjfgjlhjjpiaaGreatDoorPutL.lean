/- Numbers in columns: what is punched. No program in sight. -/
import Derived.Test.YtcbjfgjlhjjpiaaGreatDoorHoles
import Derived.Test.YtcbjfgjlhjjpiaaGreatDoorMem
import Derived.Test.YtcbjfgjlhjjpiaaGreatDoorDecL
namespace Go.Proofs.YtcbjfgjlhjjpiaaGreatDoor
open Go.RowKit
set_option linter.unusedVariables false
set_option linter.unusedSimpArgs false
set_option linter.unnecessarySimpa false

/-- the columns of the last m digits -/
def digs (u m : Nat) : List Int := (List.range m).map fun j => bitI ((u / 10 ^ (m - 1 - j) % 10 : Nat) : Int)
theorem digs_zero (u : Nat) : digs u 0 = [] := rfl
theorem digs_length (u m : Nat) : (digs u m).length = m := by simp [digs]
theorem digs_succ (u m : Nat) : digs u (m + 1) = bitI ((u / 10 ^ m % 10 : Nat) : Int) :: digs u m := by
  unfold digs
  rw [List.range_succ_eq_map, List.map_cons, List.map_map]
  congr 1
  apply List.map_congr_left
  intro t _
  simp only [Function.comp]
  rw [show m + 1 - 1 - (t + 1) = m - 1 - t by omega]
/-- the last column with the hole of a negative number -/
def signL (neg : Bool) (l : List Int) : List Int := if neg then l.set (l.length - 1) (bits BinOp.or IntKind.i64 (l.getD (l.length - 1) 0) 2) else l
theorem signL_length (neg : Bool) (l : List Int) : (signL neg l).length = l.length := by unfold signL; split <;> simp
def numL (wd u : Nat) (neg : Bool) : List Int := signL neg (digs u wd)
theorem numL_length (wd u : Nat) (neg : Bool) : (numL wd u neg).length = wd := by unfold numL; rw [signL_length, digs_length]
/-- columns laid over others from a place on -/
def putL (xs : List Int) (f : Nat) (l : List Int) : List Int := xs.take f ++ l ++ xs.drop (f + l.length)
theorem putL_length {xs l : List Int} {f : Nat} (h : f + l.length ≤ xs.length) : (putL xs f l).length = xs.length := by
  unfold putL; simp; omega
theorem putL_nil (xs : List Int) (f : Nat) : putL xs f [] = xs := by unfold putL; simp
theorem putL_all {xs l : List Int} (h : l.length = xs.length) : putL xs 0 l = l := by unfold putL; simp [h]
theorem putL_at {xs l : List Int} {f j : Nat} {x : Int} (hf : f ≤ xs.length) (h : l[j]? = some x) : (putL xs f l)[f + j]? = some x := by
  have hj := (List.getElem?_eq_some_iff.1 h).1
  unfold putL
  rw [List.append_assoc, List.getElem?_append_right (by rw [List.length_take]; omega), List.length_take, show f + j - min f xs.length = j by omega, List.getElem?_append_left hj, h]
theorem putL_front {xs l : List Int} {f : Nat} (h : f + 1 + l.length ≤ xs.length) (v : Int) : (putL xs (f + 1) l).set f v = putL xs f (v :: l) := by
  have hf : f < xs.length := by omega
  unfold putL
  rw [List.take_add_one, List.getElem?_eq_getElem hf]
  simp only [Option.toList_some, List.append_assoc, List.length_cons]
  rw [List.set_append_right _ _ (by rw [List.length_take]; omega), List.length_take, show f - min f xs.length = 0 by omega]
  simp only [List.cons_append, List.nil_append, List.set_cons_zero]
  rw [show f + 1 + l.length = f + (l.length + 1) by omega]
theorem putL_free {xs l : List Int} {f : Nat} (h : f < xs.length) : ∃ x, (putL xs (f + 1) l)[f]? = some x := by
  unfold putL
  rw [List.append_assoc, List.getElem?_append_left (by rw [List.length_take]; omega)]
  exact get_some (by rw [List.length_take]; omega)
theorem putL_back {xs p : List Int} {f : Nat} (h : f + p.length < xs.length) (y : Int) : (putL xs f p).set (f + p.length) y = putL xs f (p ++ [y]) := by
  unfold putL
  rw [List.set_append_right _ _ (by rw [List.length_append, List.length_take]; omega), List.length_append, List.length_take, show f + p.length - (min f xs.length + p.length) = 0 by omega]
  rw [List.drop_eq_getElem_cons h, List.set_cons_zero]
  simp [Nat.add_assoc]
theorem putL_next {xs p : List Int} {f : Nat} (h : f + p.length < xs.length) : ∃ x, (putL xs f p)[f + p.length]? = some x := get_some (by rw [putL_length (by omega)]; exact h)
theorem putL_sign {xs l : List Int} {f v : Nat} (hf : f + l.length ≤ xs.length) (hl : l.length = v + 1) : (putL xs f l).set (f + v) (bits BinOp.or IntKind.i64 (l.getD v 0) 2) = putL xs f (signL true l) := by
  unfold putL
  rw [signL_length, List.append_assoc, List.set_append_right _ _ (by rw [List.length_take]; omega), List.length_take, show f + v - min f xs.length = v by omega, List.set_append_left _ _ (by omega)]
  unfold signL
  rw [if_pos rfl, hl, show v + 1 - 1 = v by omega, List.append_assoc]
theorem last_at {l : List Int} {v : Nat} (hl : l.length = v + 1) : l[v]? = some (l.getD v 0) := by
  rw [List.getD_eq_getElem?_getD, List.getElem?_eq_getElem (by omega)]; rfl
theorem sign_no (l : List Int) : signL false l = l := rfl
theorem fits_digits {u wd : Nat} (h : 1 ≤ wd) : u / 10 ^ wd = 0 ↔ Lib.nDigits u ≤ wd := by
  constructor
  · intro h0
    rcases Nat.lt_or_ge wd (Lib.nDigits u) with h1 | h1
    · exfalso
      have hu : 0 < u := by
        rcases Nat.eq_zero_or_pos u with h2 | h2
        · subst h2; rw [Lib.nDigits_small (by decide)] at h1; omega
        · exact h2
      have h2 := pow_le_digits u hu
      have h3 : 10 ^ wd ≤ 10 ^ (Lib.nDigits u - 1) := Nat.pow_le_pow_right (by decide) (by omega)
      have h4 : u < 10 ^ wd := (Nat.div_eq_zero_iff_lt (Nat.pow_pos (by decide))).1 h0
      omega
    · exact h1
  · intro h1
    have := Lib.lt_pow_nDigits u
    exact Nat.div_eq_of_lt (Nat.lt_of_lt_of_le this (Nat.pow_le_pow_right (by decide) h1))
end Go.Proofs.YtcbjfgjlhjjpiaaGreatDoor
