/- The number that a text of digits names, and whether the text is its decimal form, in plain Lean. No program in sight. -/
import Derived.Test.YtcbjfgjlhjjpiaaDoorBase
import Derived.Test.YtcbjfgjlhjjpiaaDoorDecL
import Derived.Lib.ParseIntBTie
namespace Go.Proofs.YtcbjfgjlhjjpiaaDoor
open Go.RowKit
set_option linter.unusedVariables false
set_option linter.unusedSimpArgs false
set_option linter.unnecessarySimpa false

/-- the number of digits, read from the left -/
def natD (acc : Nat) : List UInt8 → Option Nat
  | [] => some acc
  | c :: r => if 48 ≤ c.toNat ∧ c.toNat ≤ 57 then natD (acc * 10 + (c.toNat - 48)) r else none
theorem natD_snoc : ∀ (l : List UInt8) (c : UInt8) (acc n : Nat), natD acc l = some n → 48 ≤ c.toNat → c.toNat ≤ 57 → natD acc (l ++ [c]) = some (n * 10 + (c.toNat - 48))
  | [], c, acc, n, h, h1, h2 => by
    simp only [natD, Option.some.injEq] at h
    subst h
    simp [natD, h1, h2]
  | d :: r, c, acc, n, h, h1, h2 => by
    rw [List.cons_append]
    unfold natD at h ⊢
    split at h
    · rename_i hd
      rw [if_pos hd]
      exact natD_snoc r c _ n h h1 h2
    · cases h
theorem natD_bad : ∀ (l : List UInt8) (k : Nat) (c : UInt8) (acc : Nat), l[k]? = some c → ¬ (48 ≤ c.toNat ∧ c.toNat ≤ 57) → natD acc l = none
  | [], k, c, acc, h, _ => by simp at h
  | d :: r, 0, c, acc, h, hc => by
    simp only [List.getElem?_cons_zero, Option.some.injEq] at h
    subst h
    unfold natD; rw [if_neg hc]
  | d :: r, k + 1, c, acc, h, hc => by
    simp only [List.getElem?_cons_succ] at h
    unfold natD
    split
    · exact natD_bad r k c _ h hc
    · rfl
theorem natD_lt : ∀ (l : List UInt8) (acc n m : Nat), natD acc l = some n → acc < 10 ^ m → n < 10 ^ (m + l.length)
  | [], acc, n, m, h, ha => by simp only [natD, Option.some.injEq] at h; subst h; simpa using ha
  | c :: r, acc, n, m, h, ha => by
    unfold natD at h
    split at h
    · rename_i hc
      have := natD_lt r _ n (m + 1) h (by rw [Nat.pow_succ]; omega)
      rw [List.length_cons, show m + (r.length + 1) = m + 1 + r.length by omega]
      exact this
    · cases h
theorem natD_ge : ∀ (l : List UInt8) (acc n : Nat), natD acc l = some n → acc ≤ n
  | [], acc, n, h => by simp only [natD, Option.some.injEq] at h; omega
  | c :: r, acc, n, h => by
    unfold natD at h
    split at h
    · have := natD_ge r _ n h; omega
    · cases h
theorem dig_byte {d : Nat} (h : d < 10) : (UInt8.ofNat (48 + d)).toNat = 48 + d := by rw [UInt8.toNat_ofNat']; omega
theorem natD_dec (u : Nat) : natD 0 (Lib.decDigits u) = some u := by
  induction u using Nat.strongRecOn with
  | _ u ih =>
    rw [Lib.decDigits]
    split
    · rename_i h
      have e := dig_byte h
      simp only [natD, e]
      rw [if_pos (by omega)]; simp
    · rename_i h
      have e := dig_byte (show u % 10 < 10 by omega)
      rw [natD_snoc _ _ _ _ (ih (u / 10) (by omega)) (by rw [e]; omega) (by rw [e]; omega), e]
      congr 1; omega
theorem dec_ne (u : Nat) : Lib.decDigits u ≠ [] := fun e => by
  have h1 := Lib.decDigits_length u
  have h2 := Lib.nDigits_pos u
  rw [e] at h1; simp at h1; omega
/-- what stands behind the sign -/
def absL (l : List UInt8) : List UInt8 := if l.head? = some 45 then l.tail else l
theorem absL_dec (u : Nat) : absL (Lib.decDigits u) = Lib.decDigits u := by
  unfold absL
  cases h : Lib.decDigits u with
  | nil => rfl
  | cons c r =>
    by_cases hc : c = 45
    · subst hc
      have h1 := natD_dec u
      rw [h] at h1
      unfold natD at h1
      rw [if_neg (by decide)] at h1
      cases h1
    · rw [if_neg (by simpa using hc)]
theorem absL_neg (r : List UInt8) : absL (45 :: r) = r := rfl
theorem dec_head (u : Nat) : ¬ (Lib.decDigits u).head? = some 45 := fun e => by
  have h := absL_dec u
  unfold absL at h
  rw [if_pos e] at h
  have h1 := dec_ne u
  have := congrArg List.length h
  cases h2 : Lib.decDigits u with
  | nil => exact h1 h2
  | cons c r => rw [h2] at this; simp at this
/-- the number, with its sign -/
def valL (l : List UInt8) : Int := if l.head? = some 45 then -(((natD 0 (absL l)).getD 0 : Nat) : Int) else (((natD 0 (absL l)).getD 0 : Nat) : Int)
theorem absL_itoa (v : Int) : absL (Lib.itoa v) = Lib.decDigits v.natAbs := by
  unfold Lib.itoa
  split
  · rfl
  · rw [show v.toNat = v.natAbs by omega]; exact absL_dec _
theorem valL_itoa (v : Int) : valL (Lib.itoa v) = v := by
  unfold valL
  rw [absL_itoa, natD_dec]
  unfold Lib.itoa
  split
  · rw [if_pos (show (45 :: Lib.decDigits v.natAbs).head? = some 45 from rfl)]; simp only [Option.getD_some]; omega
  · rw [if_neg (dec_head _)]; simp only [Option.getD_some]; omega
/-- is it a decimal form of at most 18 digits? -/
def readL (l : List UInt8) : Bool := decide ((absL l).length ≤ 18) && decide (l = Lib.itoa (valL l))
theorem readL_long {l : List UInt8} (h : ¬ (absL l).length ≤ 18) : readL l = false := by unfold readL; rw [decide_eq_false h]; rfl
theorem readL_short {l : List UInt8} (h : (absL l).length < 1) : readL l = false := by
  unfold readL
  rw [decide_eq_false (p := l = Lib.itoa (valL l))]
  · simp
  · intro e
    rw [e, absL_itoa] at h
    have := dec_ne (valL l).natAbs
    cases h2 : Lib.decDigits (valL l).natAbs with
    | nil => exact this h2
    | cons c r => rw [h2] at h; simp at h
theorem readL_bad {l : List UInt8} {k : Nat} {c : UInt8} (h : (absL l)[k]? = some c) (hc : ¬ (48 ≤ c.toNat ∧ c.toNat ≤ 57)) : readL l = false := by
  have hn := natD_bad _ k c 0 h hc
  unfold readL
  rw [decide_eq_false (p := l = Lib.itoa (valL l))]
  · simp
  · intro e
    rw [e, absL_itoa, natD_dec] at hn
    cases hn
theorem readL_is {l : List UInt8} {v : Int} (h18 : (absL l).length ≤ 18) (h : l = Lib.itoa v) : readL l = true ∧ valL l = v := by
  have hv : valL l = v := by rw [h]; exact valL_itoa v
  refine ⟨?_, hv⟩
  unfold readL
  rw [hv, decide_eq_true h18, decide_eq_true h]; rfl
theorem readL_not {l : List UInt8} (v : Int) (hv : valL l = v) (h : l ≠ Lib.itoa v) : readL l = false := by
  unfold readL
  rw [hv, decide_eq_false h]; simp
theorem readL_of {l : List UInt8} (h : readL l = true) : (absL l).length ≤ 18 ∧ l = Lib.itoa (valL l) := by
  unfold readL at h
  simp only [Bool.and_eq_true, decide_eq_true_eq] at h
  exact h
theorem dec18 {u : Nat} (h : (Lib.decDigits u).length ≤ 18) : u < 1000000000000000000 := by
  rw [Lib.decDigits_length] at h
  have h1 := Lib.lt_pow_nDigits u
  have : 10 ^ Lib.nDigits u ≤ 10 ^ 18 := Nat.pow_le_pow_right (by decide) h
  omega
theorem parse_nat : ∀ (l : List UInt8) (acc n : Nat), natD acc l = some n → n < 1000000000000000000 → Lib.parseUintM (2 ^ 64 - 1) acc l = .ok n
  | [], acc, n, h, _ => by simp only [natD, Option.some.injEq] at h; subst h; rfl
  | c :: r, acc, n, h, hn => by
    unfold natD at h
    unfold Lib.parseUintM
    split at h
    · rename_i hc
      have := natD_ge r _ n h
      rw [if_pos hc, if_neg (by omega), if_neg (by omega)]
      exact parse_nat r _ n h hn
    · cases h
theorem parse_dec {u : Nat} (h : u < 1000000000000000000) : Lib.parseUintB 64 (Lib.decDigits u) = .ok u := by
  unfold Lib.parseUintB
  rw [if_neg (dec_ne u)]
  exact parse_nat _ 0 u (natD_dec u) h
/-- what ParseInt makes of a decimal form -/
theorem parse_itoa {v : Int} (h : (Lib.decDigits v.natAbs).length ≤ 18) : Lib.parseIntB 64 (Lib.itoa v) = .ok v := by
  have hu := dec18 h
  have hp := parse_dec hu
  unfold Lib.itoa
  split
  · rename_i hneg
    rw [Lib.parseIntB_minus, hp]
    unfold Lib.signedC
    rw [show (2 : Nat) ^ (64 - 1) = 9223372036854775808 by decide]
    simp only
    rw [if_neg (by omega)]
    congr 1; omega
  · rename_i hpos
    rw [show v.toNat = v.natAbs by omega]
    have hn := natD_dec v.natAbs
    cases hd : Lib.decDigits v.natAbs with
    | nil => exact absurd hd (dec_ne _)
    | cons c r =>
      rw [hd] at hn hp
      have hc : 48 ≤ c.toNat ∧ c.toNat ≤ 57 := by
        unfold natD at hn
        split at hn
        · assumption
        · cases hn
      rw [Lib.parseIntB_plain 64 c r (by omega) (by omega), hp]
      unfold Lib.signlessC
      rw [show (2 : Nat) ^ (64 - 1) = 9223372036854775808 by decide]
      simp only
      rw [if_neg (by omega)]
      congr 1; omega
/-- a text that ParseInt refuses is no decimal form of at most 18 digits -/
theorem readL_err {l : List UInt8} (h : ∀ v, Lib.parseIntB 64 l ≠ .ok v) : readL l = false := by
  cases hr : readL l
  · rfl
  · exfalso
    obtain ⟨h1, h2⟩ := readL_of hr
    have h3 : (absL (Lib.itoa (valL l))).length ≤ 18 := by rw [← h2]; exact h1
    rw [absL_itoa] at h3
    have := parse_itoa h3
    rw [← h2] at this
    exact h _ this
theorem readL_ok_not {l : List UInt8} {v : Int} (h : Lib.parseIntB 64 l = .ok v) (hne : l ≠ Lib.itoa v) : readL l = false := by
  cases hr : readL l
  · rfl
  · exfalso
    obtain ⟨h1, h2⟩ := readL_of hr
    have h3 : (absL (Lib.itoa (valL l))).length ≤ 18 := by rw [← h2]; exact h1
    rw [absL_itoa] at h3
    have := parse_itoa h3
    rw [← h2, h] at this
    simp only [Lib.NumEnd.ok.injEq] at this
    rw [← this] at h2
    exact hne h2
/-- the number that is read; 0 if there is none -/
def readI (l : List UInt8) : Int := if readL l then valL l else 0
theorem readI_no {l : List UInt8} (h : readL l = false) : readI l = 0 := by unfold readI; rw [h]; rfl
theorem readI_is {l : List UInt8} {v : Int} (h : readL l = true) (hv : valL l = v) : readI l = v := by unfold readI; rw [h]; exact hv
theorem read_bound (l : List UInt8) : -1000000000000000000 < readI l ∧ readI l < 1000000000000000000 := by
  cases hr : readL l
  · rw [readI_no hr]; omega
  · obtain ⟨h1, h2⟩ := readL_of hr
    rw [readI_is hr rfl]
    have h3 : (absL (Lib.itoa (valL l))).length ≤ 18 := by rw [← h2]; exact h1
    rw [absL_itoa] at h3
    have := dec18 h3
    omega
theorem ret_num {a a' : Int} {b b' : Bool} (h : a = a') (h' : b = b') : Ending.returned (.tuple #[.int .i64 a, .bool b]) = .returned (.tuple #[.int .i64 a', .bool b']) := by rw [h, h']
end Go.Proofs.YtcbjfgjlhjjpiaaDoor
