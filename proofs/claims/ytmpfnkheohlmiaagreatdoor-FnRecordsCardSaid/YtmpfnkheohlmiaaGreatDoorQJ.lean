/- The decimal form of a number, digit by digit from behind. No program in sight. The number that a text of digits names, and whether the text is its decimal form, in plain Lean. No program in sight. Numbers in columns: what is punched. No program in sight. The walks of the functions that write a number in decimal. The walks of the functions that punch numbers: what each returns, and that memory has at most new blocks. The walks of the reference's functions that punch numbers. The walks of the two functions that punch a number: what each returns, and that memory has at most new blocks. -/
import Derived.Test.YtmpfnkheohlmiaaGreatDoorQA
import Derived.Lib.ItoaMem
import Derived.Lib.ItoaLen
import Derived.Lib.ParseIntBTie
import Derived.Test.YtmpfnkheohlmiaaGreatDoorQD
import Derived.Test.YtmpfnkheohlmiaaGreatDoorQC
import Derived.Test.YtmpfnkheohlmiaaGreatDoorShelf
import Derived.Laws.AppendOwn
import Derived.IntWalk
import Derived.Lib.AppendIntMem
import Derived.Lib.LaidTab
import Derived.Test.YtmpfnkheohlmiaaGreatDoorQI
import Derived.Test.YtmpfnkheohlmiaaGreatDoorQE
import Derived.Deep.RegionWith
import Derived.Deep.RegionHeld3
namespace Go.Proofs.YtmpfnkheohlmiaaGreatDoor
open Go.RowKit
set_option linter.unusedVariables false
set_option linter.unusedSimpArgs false
set_option linter.unnecessarySimpa false

/-- the last L digits -/
def decUp (u L : Nat) : List UInt8 := (List.range L).map fun t => Lib.dg u (L - 1 - t)
theorem decUp_zero (u : Nat) : decUp u 0 = [] := rfl
theorem decUp_length (u L : Nat) : (decUp u L).length = L := by simp [decUp]
theorem decUp_succ (u L : Nat) : decUp u (L + 1) = Lib.dg u L :: decUp u L := by
  unfold decUp
  rw [List.range_succ_eq_map, List.map_cons, List.map_map]
  congr 1
  apply List.map_congr_left
  intro t _
  simp only [Function.comp]
  congr 1
  omega
theorem pow_le_digits (u : Nat) : 0 < u → 10 ^ (Lib.nDigits u - 1) ≤ u := by
  induction u using Nat.strongRecOn with
  | _ u ih =>
    intro h0
    by_cases h : u < 10
    · rw [Lib.nDigits_small h]; exact h0
    · have h1 := ih (u / 10) (by omega) (by omega)
      have h2 := Lib.nDigits_pos (u / 10)
      rw [Lib.nDigits_big h, show Lib.nDigits (u / 10) + 1 - 1 = (Lib.nDigits (u / 10) - 1) + 1 by omega, Nat.pow_succ]
      omega
theorem decUp_all {u L : Nat} (h0 : 0 < u) (h1 : u / 10 ^ L = 0) (h2 : L ≤ Lib.nDigits u) : decUp u L = Lib.decDigits u := by
  have hlt : u < 10 ^ L := (Nat.div_eq_zero_iff_lt (Nat.pow_pos (by decide))).1 h1
  have hn : Lib.nDigits u ≤ L := by
    rcases Nat.lt_or_ge L (Lib.nDigits u) with h | h
    · exfalso
      have hp : 10 ^ (Lib.nDigits u - 1) ≤ u := pow_le_digits u h0
      have : 10 ^ L ≤ 10 ^ (Lib.nDigits u - 1) := Nat.pow_le_pow_right (by decide) (by omega)
      omega
    · exact h
  have e : L = Lib.nDigits u := by omega
  subst e
  rw [Lib.decDigits_eq]; rfl
theorem more_digits {u L : Nat} (h : ¬ u / 10 ^ L = 0) : L + 1 ≤ Lib.nDigits u := by
  rcases Nat.lt_or_ge L (Lib.nDigits u) with h1 | h1
  · exact h1
  · exfalso
    apply h
    have := Lib.lt_pow_nDigits u
    exact Nat.div_eq_of_lt (Nat.lt_of_lt_of_le this (Nat.pow_le_pow_right (by decide) h1))
theorem dg_toNat (u L : Nat) : ((Lib.dg u L).toNat : Int) = 48 + ((u / 10 ^ L % 10 : Nat) : Int) := by
  unfold Lib.dg
  have : (UInt8.ofNat (48 + u / 10 ^ L % 10)).toNat = 48 + u / 10 ^ L % 10 := by
    rw [UInt8.toNat_ofNat']; omega
  rw [this]; omega
theorem ret_str {a b : ByteArray} (h : a = b) : Ending.returned (.string a) = .returned (.string b) := by rw [h]
theorem itoa_zero : Lib.itoa 0 = [48] := by decide +kernel
end Go.Proofs.YtmpfnkheohlmiaaGreatDoor
namespace Go.Proofs.YtmpfnkheohlmiaaGreatDoor
open Go.RowKit
set_option linter.unusedVariables false
set_option linter.unusedSimpArgs false
set_option linter.unnecessarySimpa false

/-- the number of digits, read from the left -/
def natD (acc : Nat) : List UInt8 → Option Nat
  | [] => some acc
  | c :: r => if 48 ≤ c.toNat ∧ c.toNat ≤ 57 then natD (acc * 10 + (c.toNat - 48)) r else none
theorem natD_snoc : ∀ (l : List UInt8) (c : UInt8) (acc n : Nat), natD acc l = some n → 48 ≤ c.toNat → c.toNat ≤ 57 → natD acc (l ++ [c]) = some (n * 10 + (c.toNat - 48))
  | [], c, acc, n, h, h1, h2 => by
    simp only [natD, Option.some.injEq] at h
    subst h
    simp [natD, h1, h2]
  | d :: r, c, acc, n, h, h1, h2 => by
    rw [List.cons_append]
    unfold natD at h ⊢
    split at h
    · rename_i hd
      rw [if_pos hd]
      exact natD_snoc r c _ n h h1 h2
    · cases h
theorem natD_bad : ∀ (l : List UInt8) (k : Nat) (c : UInt8) (acc : Nat), l[k]? = some c → ¬ (48 ≤ c.toNat ∧ c.toNat ≤ 57) → natD acc l = none
  | [], k, c, acc, h, _ => by simp at h
  | d :: r, 0, c, acc, h, hc => by
    simp only [List.getElem?_cons_zero, Option.some.injEq] at h
    subst h
    unfold natD; rw [if_neg hc]
  | d :: r, k + 1, c, acc, h, hc => by
    simp only [List.getElem?_cons_succ] at h
    unfold natD
    split
    · exact natD_bad r k c _ h hc
    · rfl
theorem natD_lt : ∀ (l : List UInt8) (acc n m : Nat), natD acc l = some n → acc < 10 ^ m → n < 10 ^ (m + l.length)
  | [], acc, n, m, h, ha => by simp only [natD, Option.some.injEq] at h; subst h; simpa using ha
  | c :: r, acc, n, m, h, ha => by
    unfold natD at h
    split at h
    · rename_i hc
      have := natD_lt r _ n (m + 1) h (by rw [Nat.pow_succ]; omega)
      rw [List.length_cons, show m + (r.length + 1) = m + 1 + r.length by omega]
      exact this
    · cases h
theorem natD_ge : ∀ (l : List UInt8) (acc n : Nat), natD acc l = some n → acc ≤ n
  | [], acc, n, h => by simp only [natD, Option.some.injEq] at h; omega
  | c :: r, acc, n, h => by
    unfold natD at h
    split at h
    · have := natD_ge r _ n h; omega
    · cases h
theorem dig_byte {d : Nat} (h : d < 10) : (UInt8.ofNat (48 + d)).toNat = 48 + d := by rw [UInt8.toNat_ofNat']; omega
theorem natD_dec (u : Nat) : natD 0 (Lib.decDigits u) = some u := by
  induction u using Nat.strongRecOn with
  | _ u ih =>
    rw [Lib.decDigits]
    split
    · rename_i h
      have e := dig_byte h
      simp only [natD, e]
      rw [if_pos (by omega)]; simp
    · rename_i h
      have e := dig_byte (show u % 10 < 10 by omega)
      rw [natD_snoc _ _ _ _ (ih (u / 10) (by omega)) (by rw [e]; omega) (by rw [e]; omega), e]
      congr 1; omega
theorem dec_ne (u : Nat) : Lib.decDigits u ≠ [] := fun e => by
  have h1 := Lib.decDigits_length u
  have h2 := Lib.nDigits_pos u
  rw [e] at h1; simp at h1; omega
/-- what stands behind the sign -/
def absL (l : List UInt8) : List UInt8 := if l.head? = some 45 then l.tail else l
theorem absL_dec (u : Nat) : absL (Lib.decDigits u) = Lib.decDigits u := by
  unfold absL
  cases h : Lib.decDigits u with
  | nil => rfl
  | cons c r =>
    by_cases hc : c = 45
    · subst hc
      have h1 := natD_dec u
      rw [h] at h1
      unfold natD at h1
      rw [if_neg (by decide)] at h1
      cases h1
    · rw [if_neg (by simpa using hc)]
theorem absL_neg (r : List UInt8) : absL (45 :: r) = r := rfl
theorem dec_head (u : Nat) : ¬ (Lib.decDigits u).head? = some 45 := fun e => by
  have h := absL_dec u
  unfold absL at h
  rw [if_pos e] at h
  have h1 := dec_ne u
  have := congrArg List.length h
  cases h2 : Lib.decDigits u with
  | nil => exact h1 h2
  | cons c r => rw [h2] at this; simp at this
/-- the number, with its sign -/
def valL (l : List UInt8) : Int := if l.head? = some 45 then -(((natD 0 (absL l)).getD 0 : Nat) : Int) else (((natD 0 (absL l)).getD 0 : Nat) : Int)
theorem absL_itoa (v : Int) : absL (Lib.itoa v) = Lib.decDigits v.natAbs := by
  unfold Lib.itoa
  split
  · rfl
  · rw [show v.toNat = v.natAbs by omega]; exact absL_dec _
theorem valL_itoa (v : Int) : valL (Lib.itoa v) = v := by
  unfold valL
  rw [absL_itoa, natD_dec]
  unfold Lib.itoa
  split
  · rw [if_pos (show (45 :: Lib.decDigits v.natAbs).head? = some 45 from rfl)]; simp only [Option.getD_some]; omega
  · rw [if_neg (dec_head _)]; simp only [Option.getD_some]; omega
/-- is it a decimal form of at most 18 digits? -/
def readL (l : List UInt8) : Bool := decide ((absL l).length ≤ 18) && decide (l = Lib.itoa (valL l))
theorem readL_long {l : List UInt8} (h : ¬ (absL l).length ≤ 18) : readL l = false := by unfold readL; rw [decide_eq_false h]; rfl
theorem readL_short {l : List UInt8} (h : (absL l).length < 1) : readL l = false := by
  unfold readL
  rw [decide_eq_false (p := l = Lib.itoa (valL l))]
  · simp
  · intro e
    rw [e, absL_itoa] at h
    have := dec_ne (valL l).natAbs
    cases h2 : Lib.decDigits (valL l).natAbs with
    | nil => exact this h2
    | cons c r => rw [h2] at h; simp at h
theorem readL_bad {l : List UInt8} {k : Nat} {c : UInt8} (h : (absL l)[k]? = some c) (hc : ¬ (48 ≤ c.toNat ∧ c.toNat ≤ 57)) : readL l = false := by
  have hn := natD_bad _ k c 0 h hc
  unfold readL
  rw [decide_eq_false (p := l = Lib.itoa (valL l))]
  · simp
  · intro e
    rw [e, absL_itoa, natD_dec] at hn
    cases hn
theorem readL_is {l : List UInt8} {v : Int} (h18 : (absL l).length ≤ 18) (h : l = Lib.itoa v) : readL l = true ∧ valL l = v := by
  have hv : valL l = v := by rw [h]; exact valL_itoa v
  refine ⟨?_, hv⟩
  unfold readL
  rw [hv, decide_eq_true h18, decide_eq_true h]; rfl
theorem readL_not {l : List UInt8} (v : Int) (hv : valL l = v) (h : l ≠ Lib.itoa v) : readL l = false := by
  unfold readL
  rw [hv, decide_eq_false h]; simp
theorem readL_of {l : List UInt8} (h : readL l = true) : (absL l).length ≤ 18 ∧ l = Lib.itoa (valL l) := by
  unfold readL at h
  simp only [Bool.and_eq_true, decide_eq_true_eq] at h
  exact h
theorem dec18 {u : Nat} (h : (Lib.decDigits u).length ≤ 18) : u < 1000000000000000000 := by
  rw [Lib.decDigits_length] at h
  have h1 := Lib.lt_pow_nDigits u
  have : 10 ^ Lib.nDigits u ≤ 10 ^ 18 := Nat.pow_le_pow_right (by decide) h
  omega
theorem parse_nat : ∀ (l : List UInt8) (acc n : Nat), natD acc l = some n → n < 1000000000000000000 → Lib.parseUintM (2 ^ 64 - 1) acc l = .ok n
  | [], acc, n, h, _ => by simp only [natD, Option.some.injEq] at h; subst h; rfl
  | c :: r, acc, n, h, hn => by
    unfold natD at h
    unfold Lib.parseUintM
    split at h
    · rename_i hc
      have := natD_ge r _ n h
      rw [if_pos hc, if_neg (by omega), if_neg (by omega)]
      exact parse_nat r _ n h hn
    · cases h
theorem parse_dec {u : Nat} (h : u < 1000000000000000000) : Lib.parseUintB 64 (Lib.decDigits u) = .ok u := by
  unfold Lib.parseUintB
  rw [if_neg (dec_ne u)]
  exact parse_nat _ 0 u (natD_dec u) h
/-- what ParseInt makes of a decimal form -/
theorem parse_itoa {v : Int} (h : (Lib.decDigits v.natAbs).length ≤ 18) : Lib.parseIntB 64 (Lib.itoa v) = .ok v := by
  have hu := dec18 h
  have hp := parse_dec hu
  unfold Lib.itoa
  split
  · rename_i hneg
    rw [Lib.parseIntB_minus, hp]
    unfold Lib.signedC
    rw [show (2 : Nat) ^ (64 - 1) = 9223372036854775808 by decide]
    simp only
    rw [if_neg (by omega)]
    congr 1; omega
  · rename_i hpos
    rw [show v.toNat = v.natAbs by omega]
    have hn := natD_dec v.natAbs
    cases hd : Lib.decDigits v.natAbs with
    | nil => exact absurd hd (dec_ne _)
    | cons c r =>
      rw [hd] at hn hp
      have hc : 48 ≤ c.toNat ∧ c.toNat ≤ 57 := by
        unfold natD at hn
        split at hn
        · assumption
        · cases hn
      rw [Lib.parseIntB_plain 64 c r (by omega) (by omega), hp]
      unfold Lib.signlessC
      rw [show (2 : Nat) ^ (64 - 1) = 9223372036854775808 by decide]
      simp only
      rw [if_neg (by omega)]
      congr 1; omega
/-- a text that ParseInt refuses is no decimal form of at most 18 digits -/
theorem readL_err {l : List UInt8} (h : ∀ v, Lib.parseIntB 64 l ≠ .ok v) : readL l = false := by
  cases hr : readL l
  · rfl
  · exfalso
    obtain ⟨h1, h2⟩ := readL_of hr
    have h3 : (absL (Lib.itoa (valL l))).length ≤ 18 := by rw [← h2]; exact h1
    rw [absL_itoa] at h3
    have := parse_itoa h3
    rw [← h2] at this
    exact h _ this
theorem readL_ok_not {l : List UInt8} {v : Int} (h : Lib.parseIntB 64 l = .ok v) (hne : l ≠ Lib.itoa v) : readL l = false := by
  cases hr : readL l
  · rfl
  · exfalso
    obtain ⟨h1, h2⟩ := readL_of hr
    have h3 : (absL (Lib.itoa (valL l))).length ≤ 18 := by rw [← h2]; exact h1
    rw [absL_itoa] at h3
    have := parse_itoa h3
    rw [← h2, h] at this
    simp only [Lib.NumEnd.ok.injEq] at this
    rw [← this] at h2
    exact hne h2
/-- the number that is read; 0 if there is none -/
def readI (l : List UInt8) : Int := if readL l then valL l else 0
theorem readI_no {l : List UInt8} (h : readL l = false) : readI l = 0 := by unfold readI; rw [h]; rfl
theorem readI_is {l : List UInt8} {v : Int} (h : readL l = true) (hv : valL l = v) : readI l = v := by unfold readI; rw [h]; exact hv
theorem read_bound (l : List UInt8) : -1000000000000000000 < readI l ∧ readI l < 1000000000000000000 := by
  cases hr : readL l
  · rw [readI_no hr]; omega
  · obtain ⟨h1, h2⟩ := readL_of hr
    rw [readI_is hr rfl]
    have h3 : (absL (Lib.itoa (valL l))).length ≤ 18 := by rw [← h2]; exact h1
    rw [absL_itoa] at h3
    have := dec18 h3
    omega
theorem ret_num {a a' : Int} {b b' : Bool} (h : a = a') (h' : b = b') : Ending.returned (.tuple #[.int .i64 a, .bool b]) = .returned (.tuple #[.int .i64 a', .bool b']) := by rw [h, h']
end Go.Proofs.YtmpfnkheohlmiaaGreatDoor
namespace Go.Proofs.YtmpfnkheohlmiaaGreatDoor
open Go.RowKit
set_option linter.unusedVariables false
set_option linter.unusedSimpArgs false
set_option linter.unnecessarySimpa false

/-- the columns of the last m digits -/
def digs (u m : Nat) : List Int := (List.range m).map fun j => bitI ((u / 10 ^ (m - 1 - j) % 10 : Nat) : Int)
theorem digs_zero (u : Nat) : digs u 0 = [] := rfl
theorem digs_length (u m : Nat) : (digs u m).length = m := by simp [digs]
theorem digs_succ (u m : Nat) : digs u (m + 1) = bitI ((u / 10 ^ m % 10 : Nat) : Int) :: digs u m := by
  unfold digs
  rw [List.range_succ_eq_map, List.map_cons, List.map_map]
  congr 1
  apply List.map_congr_left
  intro t _
  simp only [Function.comp]
  rw [show m + 1 - 1 - (t + 1) = m - 1 - t by omega]
/-- the last column with the hole of a negative number -/
def signL (neg : Bool) (l : List Int) : List Int := if neg then l.set (l.length - 1) (bits BinOp.or IntKind.i64 (l.getD (l.length - 1) 0) 2) else l
theorem signL_length (neg : Bool) (l : List Int) : (signL neg l).length = l.length := by unfold signL; split <;> simp
def numL (wd u : Nat) (neg : Bool) : List Int := signL neg (digs u wd)
theorem numL_length (wd u : Nat) (neg : Bool) : (numL wd u neg).length = wd := by unfold numL; rw [signL_length, digs_length]
/-- columns laid over others from a place on -/
def putL (xs : List Int) (f : Nat) (l : List Int) : List Int := xs.take f ++ l ++ xs.drop (f + l.length)
theorem putL_length {xs l : List Int} {f : Nat} (h : f + l.length ≤ xs.length) : (putL xs f l).length = xs.length := by
  unfold putL; simp; omega
theorem putL_nil (xs : List Int) (f : Nat) : putL xs f [] = xs := by unfold putL; simp
theorem putL_all {xs l : List Int} (h : l.length = xs.length) : putL xs 0 l = l := by unfold putL; simp [h]
theorem putL_at {xs l : List Int} {f j : Nat} {x : Int} (hf : f ≤ xs.length) (h : l[j]? = some x) : (putL xs f l)[f + j]? = some x := by
  have hj := (List.getElem?_eq_some_iff.1 h).1
  unfold putL
  rw [List.append_assoc, List.getElem?_append_right (by rw [List.length_take]; omega), List.length_take, show f + j - min f xs.length = j by omega, List.getElem?_append_left hj, h]
theorem putL_front {xs l : List Int} {f : Nat} (h : f + 1 + l.length ≤ xs.length) (v : Int) : (putL xs (f + 1) l).set f v = putL xs f (v :: l) := by
  have hf : f < xs.length := by omega
  unfold putL
  rw [List.take_add_one, List.getElem?_eq_getElem hf]
  simp only [Option.toList_some, List.append_assoc, List.length_cons]
  rw [List.set_append_right _ _ (by rw [List.length_take]; omega), List.length_take, show f - min f xs.length = 0 by omega]
  simp only [List.cons_append, List.nil_append, List.set_cons_zero]
  rw [show f + 1 + l.length = f + (l.length + 1) by omega]
theorem putL_free {xs l : List Int} {f : Nat} (h : f < xs.length) : ∃ x, (putL xs (f + 1) l)[f]? = some x := by
  unfold putL
  rw [List.append_assoc, List.getElem?_append_left (by rw [List.length_take]; omega)]
  exact get_some (by rw [List.length_take]; omega)
theorem putL_back {xs p : List Int} {f : Nat} (h : f + p.length < xs.length) (y : Int) : (putL xs f p).set (f + p.length) y = putL xs f (p ++ [y]) := by
  unfold putL
  rw [List.set_append_right _ _ (by rw [List.length_append, List.length_take]; omega), List.length_append, List.length_take, show f + p.length - (min f xs.length + p.length) = 0 by omega]
  rw [List.drop_eq_getElem_cons h, List.set_cons_zero]
  simp [Nat.add_assoc]
theorem putL_next {xs p : List Int} {f : Nat} (h : f + p.length < xs.length) : ∃ x, (putL xs f p)[f + p.length]? = some x := get_some (by rw [putL_length (by omega)]; exact h)
theorem putL_sign {xs l : List Int} {f v : Nat} (hf : f + l.length ≤ xs.length) (hl : l.length = v + 1) : (putL xs f l).set (f + v) (bits BinOp.or IntKind.i64 (l.getD v 0) 2) = putL xs f (signL true l) := by
  unfold putL
  rw [signL_length, List.append_assoc, List.set_append_right _ _ (by rw [List.length_take]; omega), List.length_take, show f + v - min f xs.length = v by omega, List.set_append_left _ _ (by omega)]
  unfold signL
  rw [if_pos rfl, hl, show v + 1 - 1 = v by omega, List.append_assoc]
theorem last_at {l : List Int} {v : Nat} (hl : l.length = v + 1) : l[v]? = some (l.getD v 0) := by
  rw [List.getD_eq_getElem?_getD, List.getElem?_eq_getElem (by omega)]; rfl
theorem sign_no (l : List Int) : signL false l = l := rfl
theorem fits_digits {u wd : Nat} (h : 1 ≤ wd) : u / 10 ^ wd = 0 ↔ Lib.nDigits u ≤ wd := by
  constructor
  · intro h0
    rcases Nat.lt_or_ge wd (Lib.nDigits u) with h1 | h1
    · exfalso
      have hu : 0 < u := by
        rcases Nat.eq_zero_or_pos u with h2 | h2
        · subst h2; rw [Lib.nDigits_small (by decide)] at h1; omega
        · exact h2
      have h2 := pow_le_digits u hu
      have h3 : 10 ^ wd ≤ 10 ^ (Lib.nDigits u - 1) := Nat.pow_le_pow_right (by decide) (by omega)
      have h4 : u < 10 ^ wd := (Nat.div_eq_zero_iff_lt (Nat.pow_pos (by decide))).1 h0
      omega
    · exact h1
  · intro h1
    have := Lib.lt_pow_nDigits u
    exact Nat.div_eq_of_lt (Nat.lt_of_lt_of_le this (Nat.pow_le_pow_right (by decide) h1))
end Go.Proofs.YtmpfnkheohlmiaaGreatDoor
namespace Go.Proofs.YtmpfnkheohlmiaaGreatDoor
open Go.RowKit
set_option maxRecDepth 100000
set_option linter.unusedVariables false
set_option linter.unusedSimpArgs false
set_option linter.unnecessarySimpa false

set_option maxHeartbeats 4000000 in
theorem spec_l01Dec_pos (n : Nat) (w : World) (hn : n ≤ 9223372036854775807) :
    Calls Tryz.prog 70 #[.int .i64 n] w fun e w' => e = .returned (.string ⟨(Lib.itoa (n : Int)).toArray⟩) ∧ Below w.heap.size w w' := by
  obtain ⟨i0, hi, hz0, hz1, hz2⟩ := info_parts Tryz.info_byte
  have hba := Lib.hid (below_alloc (w := w) (.cells #[] 5))
  have hit := Lib.hid (Lib.itoa_nonneg n)
  have hd20 := Lib.hid (Lib.nDigits_le20 n (by omega))
  go_enter Tryz.func70, Tryz.ntmps70
  go_wp2_with fail
  go_loopw [3, 4] (fun v i wr => ∃ (L q : Nat) (ad : Addr) (c' : Nat), i = .int .i64 q ∧ v = .slice (some ad) L c' ∧ Hid (q = n / 10 ^ L) ∧ Hid (L ≤ Lib.nDigits n) ∧ Hid (L = 0 ∨ 0 < n) ∧ RB wr (some ad) (decUp n L) ∧ Below w.heap.size w wr) (fun _ i _ => (intOf i).toNat)
  case atStart => exact ⟨0, n, _, _, rfl, rfl, Lib.hid (by simp), Lib.hid (Nat.zero_le _), Lib.hid (Or.inl rfl), by rw [decUp_zero]; exact Row.nil _ _, hba.out⟩
  case round =>
    obtain ⟨L, q, ad, c', rfl, rfl, hq, hLn, hL0, hrow, hB⟩ := hrel
    replace hB := Lib.hid hB
    have hqn : q ≤ 9223372036854775807 := by have h1 := hq.out; have h2 := Nat.div_le_self n (10 ^ L); omega
    by_cases hlt : 0 < q
    · have hqd := Lib.hid (show q / 10 = n / 10 ^ (L + 1) by rw [hq.out, Nat.div_div_eq_div_mul, Nat.pow_succ])
      have hLn1 := Lib.hid (more_digits (u := n) (L := L) (by have := hq.out; omega))
      have hn0 := Lib.hid (show L + 1 = 0 ∨ 0 < n by (have h1 := hq.out; have h2 := Nat.div_le_self n (10 ^ L); right; omega))
      have hL20 : L ≤ 20 := by have h1 := hLn.out; have h2 := hd20.out; omega
      have hbyte := Lib.hid (show (.int .u8 (48 + (q : Int) % 10) : Value) = byteV (Lib.dg n L) by unfold byteV; rw [dg_toNat, ← hq.out]; congr 1)
      have hr0 : 0 ≤ (q : Int) % 10 := by omega
      have hr9 : (q : Int) % 10 ≤ 9 := by omega
      have hq0 : ((q : Int) != 0) = true := by simp; omega
      have hlit := Lib.hid (World.ownsRow_lit (base := w.heap.size) (e := 5) (size := 1) wr #[.int .u8 (48 + (q : Int) % 10)] 1 (by have := hB.out.size; omega) (by simp [maxLen]) rfl)
      have hsrc := Lib.hid (Row.add (hrow.kept (below_alloc (.cells #[.int .u8 (48 + (q : Int) % 10)] 5))))
      have hlen := Lib.hid (show ((decUp n L).map byteV).length = L * 1 by rw [List.length_map, decUp_length, Nat.mul_one])
      have hbA := Lib.hid (hB.out.alloc hB.out.size (.cells #[.int .u8 (48 + (q : Int) % 10)] 5))
      have hszr := hB.out.size
      clear hrow
      go_wp2_with (at_builtin; refine wpList_append_own _ rfl _ _ 22 rfl w.heap.size 5 i0 (.int .u8 0) 1 1 Tryz.underlying22 hi hz0 hz1 hz2 rfl (by decide) _ 1 [.int .u8 (48 + (q : Int) % 10)] rfl hlit.out ad L c' ((decUp n L).map byteV) rfl hlen.out hsrc.out (bytes_one _) (by simp only [maxLen]; omega) (by omega) (by simp only [World.size_alloc]; omega) ?_; intro v5 w5 hown5 hg5 _; have hb5 := Lib.hid (hbA.out.grown hg5 (by simp only [World.size_alloc]; omega) (fun k hk => (hlit.out.lt k hk).1)); obtain ⟨a5, c5, hv5, hr5, _⟩ := own_slice hown5; subst hv5; have hne5 := own_some hown5 (by omega); have hr5' := Lib.hid hr5; clear hown5 hg5 hr5)
      obtain ⟨ad5, rfl⟩ : ∃ x, a5 = some x := by cases a5 with | none => exact absurd rfl hne5 | some x => exact ⟨x, rfl⟩
      go_roundw
      case rel => exact ⟨L + 1, q / 10, ad5, c5, by first | go_num | (congr 1; omega), by rw [Nat.add_comm], hqd, hLn1, hn0, by rw [decUp_succ]; unfold RB; rw [List.map_cons, ← hbyte.out]; exact hr5'.out, hb5.out⟩
      case measure => simp [intOf]; omega
    · obtain rfl : q = 0 := by omega
      by_cases hL : L = 0
      · subst hL
        obtain rfl : n = 0 := by have h1 := hq.out; simpa using h1.symm
        go_wp2_with fail
        go_ret
        exact ⟨ret_str (by first | rw [itoa_zero] | (simp [itoa_zero]; done)), hB.out⟩
      · have hn0 : 0 < n := by have := hL0.out; omega
        have hall := Lib.hid (decUp_all hn0 hq.out.symm hLn.out)
        have hcv := run_text (P := Tryz.prog) wr 22 9 5 (some ad) c' (decUp n L) Tryz.underlying22 Tryz.underlying5 Tryz.underlying9 (by simp) hrow
        rw [decUp_length] at hcv
        have hL1 : ((L : Int) == 0) = false := by simp; omega
        have hn1 : ¬ (n : Int) < 0 := by omega
        have hrow' := Lib.hid hrow
        clear hrow
        go_wp2_with fail
        go_ret
        exact ⟨ret_str (by rw [hit.out, ← hall.out]), hB.out⟩
set_option maxHeartbeats 4000000 in
theorem spec_l01Dec_neg (n : Nat) (w : World) (h0n : 0 < n) (hn : n ≤ 9223372036854775808) :
    Calls Tryz.prog 70 #[.int .i64 (-(n : Int))] w fun e w' => e = .returned (.string ⟨(Lib.itoa (-(n : Int))).toArray⟩) ∧ Below w.heap.size w w' := by
  obtain ⟨i0, hi, hz0, hz1, hz2⟩ := info_parts Tryz.info_byte
  have hba := Lib.hid (below_alloc (w := w) (.cells #[] 5))
  have hit := Lib.hid (Lib.itoa_neg n h0n)
  have hd20 := Lib.hid (Lib.nDigits_le20 n (by omega))
  go_enter Tryz.func70, Tryz.ntmps70
  go_wp2_with fail
  go_loopw [3, 4] (fun v i wr => ∃ (L q : Nat) (ad : Addr) (c' : Nat), i = .int .i64 (-(q : Int)) ∧ v = .slice (some ad) L c' ∧ Hid (q = n / 10 ^ L) ∧ Hid (L ≤ Lib.nDigits n) ∧ Hid (L = 0 ∨ 0 < n) ∧ RB wr (some ad) (decUp n L) ∧ Below w.heap.size w wr) (fun _ i _ => (intOf i).natAbs)
  case atStart => exact ⟨0, n, _, _, rfl, rfl, Lib.hid (by simp), Lib.hid (Nat.zero_le _), Lib.hid (Or.inl rfl), by rw [decUp_zero]; exact Row.nil _ _, hba.out⟩
  case round =>
    obtain ⟨L, q, ad, c', rfl, rfl, hq, hLn, hL0, hrow, hB⟩ := hrel
    replace hB := Lib.hid hB
    have hqn : q ≤ 9223372036854775808 := by have h1 := hq.out; have h2 := Nat.div_le_self n (10 ^ L); omega
    by_cases hlt : 0 < q
    · have hqd := Lib.hid (show q / 10 = n / 10 ^ (L + 1) by rw [hq.out, Nat.div_div_eq_div_mul, Nat.pow_succ])
      have hLn1 := Lib.hid (more_digits (u := n) (L := L) (by have := hq.out; omega))
      have hn0 := Lib.hid (show L + 1 = 0 ∨ 0 < n by (have h1 := hq.out; have h2 := Nat.div_le_self n (10 ^ L); right; omega))
      have hL20 : L ≤ 20 := by have h1 := hLn.out; have h2 := hd20.out; omega
      have htd : Int.tdiv (-(q : Int)) 10 = -((q / 10 : Nat) : Int) := by rw [Int.neg_tdiv, Int.tdiv_eq_ediv_of_nonneg (by omega)]; omega
      have hq0 : (-(q : Int) != 0) = true := by simp; omega
      have hq1 : ¬ (q : Int) = 0 := by omega
      obtain ⟨r, hr⟩ : ∃ r : Int, r = (q : Int) % 10 := ⟨_, rfl⟩
      by_cases hz : r = 0
      · have hbyte := Lib.hid (show (.int .u8 48 : Value) = byteV (Lib.dg n L) by unfold byteV; rw [dg_toNat, ← hq.out]; congr 1; omega)
        have htm : Int.tmod (-(q : Int)) 10 = 0 := by rw [Int.neg_tmod, Int.tmod_eq_emod_of_nonneg (by omega)]; omega
        clear hr hz
        have hlit := Lib.hid (World.ownsRow_lit (base := w.heap.size) (e := 5) (size := 1) wr #[.int .u8 48] 1 (by have := hB.out.size; omega) (by simp [maxLen]) rfl)
        have hsrc := Lib.hid (Row.add (hrow.kept (below_alloc (.cells #[.int .u8 48] 5))))
        have hlen := Lib.hid (show ((decUp n L).map byteV).length = L * 1 by rw [List.length_map, decUp_length, Nat.mul_one])
        have hbA := Lib.hid (hB.out.alloc hB.out.size (.cells #[.int .u8 48] 5))
        have hszr := hB.out.size
        clear hrow
        go_wp2_with (at_builtin; refine wpList_append_own _ rfl _ _ 22 rfl w.heap.size 5 i0 (.int .u8 0) 1 1 Tryz.underlying22 hi hz0 hz1 hz2 rfl (by decide) _ 1 [.int .u8 48] rfl hlit.out ad L c' ((decUp n L).map byteV) rfl hlen.out hsrc.out (bytes_one _) (by simp only [maxLen]; omega) (by omega) (by simp only [World.size_alloc]; omega) ?_; intro v5 w5 hown5 hg5 _; have hb5 := Lib.hid (hbA.out.grown hg5 (by simp only [World.size_alloc]; omega) (fun k hk => (hlit.out.lt k hk).1)); obtain ⟨a5, c5, hv5, hr5, _⟩ := own_slice hown5; subst hv5; have hne5 := own_some hown5 (by omega); have hr5' := Lib.hid hr5; clear hown5 hg5 hr5)
        obtain ⟨ad5, rfl⟩ : ∃ x, a5 = some x := by cases a5 with | none => exact absurd rfl hne5 | some x => exact ⟨x, rfl⟩
        go_roundw
        case rel => exact ⟨L + 1, q / 10, ad5, c5, by first | go_num | (congr 1; omega), by rw [Nat.add_comm], hqd, hLn1, hn0, by rw [decUp_succ]; unfold RB; rw [List.map_cons, ← hbyte.out]; exact hr5'.out, hb5.out⟩
        case measure => simp only [intOf]; omega
      · have hbyte := Lib.hid (show (.int .u8 (48 + r) : Value) = byteV (Lib.dg n L) by unfold byteV; rw [dg_toNat, ← hq.out]; congr 1; omega)
        have htm : Int.tmod (-(q : Int)) 10 = -r := by rw [Int.neg_tmod, Int.tmod_eq_emod_of_nonneg (by omega)]; omega
        have hr1 : 0 < r := by omega
        have hr9 : r ≤ 9 := by omega
        clear hr hz
        have hlit := Lib.hid (World.ownsRow_lit (base := w.heap.size) (e := 5) (size := 1) wr #[.int .u8 (48 + r)] 1 (by have := hB.out.size; omega) (by simp [maxLen]) rfl)
        have hsrc := Lib.hid (Row.add (hrow.kept (below_alloc (.cells #[.int .u8 (48 + r)] 5))))
        have hlen := Lib.hid (show ((decUp n L).map byteV).length = L * 1 by rw [List.length_map, decUp_length, Nat.mul_one])
        have hbA := Lib.hid (hB.out.alloc hB.out.size (.cells #[.int .u8 (48 + r)] 5))
        have hszr := hB.out.size
        clear hrow
        go_wp2_with (at_builtin; refine wpList_append_own _ rfl _ _ 22 rfl w.heap.size 5 i0 (.int .u8 0) 1 1 Tryz.underlying22 hi hz0 hz1 hz2 rfl (by decide) _ 1 [.int .u8 (48 + r)] rfl hlit.out ad L c' ((decUp n L).map byteV) rfl hlen.out hsrc.out (bytes_one _) (by simp only [maxLen]; omega) (by omega) (by simp only [World.size_alloc]; omega) ?_; intro v5 w5 hown5 hg5 _; have hb5 := Lib.hid (hbA.out.grown hg5 (by simp only [World.size_alloc]; omega) (fun k hk => (hlit.out.lt k hk).1)); obtain ⟨a5, c5, hv5, hr5, _⟩ := own_slice hown5; subst hv5; have hne5 := own_some hown5 (by omega); have hr5' := Lib.hid hr5; clear hown5 hg5 hr5)
        obtain ⟨ad5, rfl⟩ : ∃ x, a5 = some x := by cases a5 with | none => exact absurd rfl hne5 | some x => exact ⟨x, rfl⟩
        go_roundw
        case rel => exact ⟨L + 1, q / 10, ad5, c5, by first | go_num | (congr 1; omega), by rw [Nat.add_comm], hqd, hLn1, hn0, by rw [decUp_succ]; unfold RB; rw [List.map_cons, ← hbyte.out]; exact hr5'.out, hb5.out⟩
        case measure => simp only [intOf]; omega
    · obtain rfl : q = 0 := by omega
      have hL : ¬ L = 0 := fun h => by subst h; have h1 := hq.out; simp at h1; omega
      have hall := Lib.hid (decUp_all h0n hq.out.symm hLn.out)
      have hcv := run_text (P := Tryz.prog) wr 22 9 5 (some ad) c' (decUp n L) Tryz.underlying22 Tryz.underlying5 Tryz.underlying9 (by simp) hrow
      rw [decUp_length] at hcv
      have hL1 : ((L : Int) == 0) = false := by simp; omega
      have hn1 : -(n : Int) < 0 := by omega
      have hsl : ¬ 9223372036854775807 < 1 + (decUp n L).length := by rw [decUp_length]; have h1 := hLn.out; have h2 := hd20.out; omega
      have hrow' := Lib.hid hrow
      clear hrow
      go_wp2_with fail
      go_ret
      exact ⟨ret_str (by rw [hit.out, ← hall.out]; rfl), hB.out⟩
theorem spec_l01Dec (n : Int) (w : World) (h0 : -9223372036854775808 ≤ n) (h1 : n ≤ 9223372036854775807) :
    Calls Tryz.prog 70 #[.int .i64 n] w fun e w' => e = .returned (.string ⟨(Lib.itoa n).toArray⟩) ∧ Below w.heap.size w w' := by
  by_cases h : 0 ≤ n
  · obtain ⟨m, rfl⟩ := Int.eq_ofNat_of_zero_le h
    exact spec_l01Dec_pos m w (by omega)
  · obtain ⟨m, hm⟩ := Int.eq_ofNat_of_zero_le (show 0 ≤ -n by omega)
    obtain rfl : n = -(m : Int) := by omega
    exact spec_l01Dec_neg m w (by omega) (by omega)
/-- the table of the library's that the decimal form reads -/
def Pow10 (w : World) : Prop := Lib.TabIs Tryz.prog w "internal/strconv.uint64pow10" .u64 Lib.pow10Tab
theorem impl_Decimal (n : Int) (w : World) (h0 : -9223372036854775808 ≤ n) (h1 : n ≤ 9223372036854775807) (ht : Pow10 w) :
    Calls Tryz.prog 44 #[.int .i64 n] w fun e w' => e = .returned (.string ⟨(Lib.itoa n).toArray⟩) ∧ Below w.heap.size w w' := by
  have hf := Lib.hid ((Tryz.strconv_FormatInt_10 n h0 h1 w ht).mono fun (e : Ending) (w' : World) ⟨he, k, os, hw⟩ => (show e = Ending.returned (.string ⟨(Lib.itoa n).toArray⟩) ∧ Below w.heap.size w w' from ⟨he, by rw [hw]; exact Lib.below_grow _ _ (Nat.le_refl _) _ _⟩))
  go_enter Tryz.func44, Tryz.ntmps44
  go_wp2_with (go_at_call 100; ((with_reducible refine hf.out.mono ?_); rintro e w' ⟨rfl, hb⟩))
  go_ret
  exact ⟨rfl, hb⟩
end Go.Proofs.YtmpfnkheohlmiaaGreatDoor
namespace Go.Proofs.YtmpfnkheohlmiaaGreatDoor
open Go.RowKit
set_option maxRecDepth 100000
set_option linter.unusedVariables false
set_option linter.unusedSimpArgs false
set_option linter.unnecessarySimpa false

theorem impl_absOf (n : Int) (w : World) (h0 : -999999999999 ≤ n) (h1 : n ≤ 999999999999) : Calls Tryz.prog 76 #[.int .i64 n] w fun e w' => e = .returned (.int .i64 (n.natAbs : Int)) ∧ w = w' := by
  by_cases h : 0 ≤ n
  · have hv := Lib.hid (show (n.natAbs : Int) = n by omega)
    go_enter Tryz.func76, Tryz.ntmps76
    go_wp2
    go_ret
    exact ⟨ret_int (by rw [hv.out]; omega), rfl⟩
  · have hv := Lib.hid (show (n.natAbs : Int) = -n by omega)
    go_enter Tryz.func76, Tryz.ntmps76
    go_wp2
    go_ret
    exact ⟨ret_int (by rw [hv.out]; omega), rfl⟩
set_option maxHeartbeats 4000000 in
theorem impl_punchNumber (a : Option Addr) (c : Nat) (xs : List Int) (f tt : Nat) (n : Int) (w : World) (hx : RI w a xs) (hn : xs.length ≤ 1048576) (hft : f ≤ tt) (htl : tt + 1 ≤ xs.length) (hn0 : -999999999999 ≤ n) (hn1 : n ≤ 999999999999) :
    Calls Tryz.prog 77 #[.agg #[.slice a xs.length c], .agg #[.int .i64 f, .int .i64 ((tt + 1 : Nat) : Int)], .int .i64 n] w fun e w' => ∃ a' c', e = .returned (.agg #[.slice a' xs.length c']) ∧ w'.ownsRow w.heap.size 2 1 (.slice a' xs.length c') xs.length ((putL xs f (numL (tt + 1 - f) n.natAbs (decide (n < 0)))).map (Value.int .i64)) ∧ Below w.heap.size w w' := by
  have hb3 := Lib.hid (below_alloc3 w (.cells #[.slice a xs.length c] 32) (.cells #[.int .i64 f, .int .i64 ((tt + 1 : Nat) : Int)] 61) (.cells #[.slice none 0 0] 32))
  obtain ⟨t, ht⟩ : ∃ t : Int, t = ((tt + 1 : Nat) : Int) := ⟨_, rfl⟩
  have htt := Lib.hid ht
  rw [← ht] at hb3 ⊢
  have ht1 : t = (tt : Int) + 1 := by omega
  have ht2 := Lib.hid ht1
  have ht3 : t ≤ 1048576 := by omega
  have ht4 : 1 ≤ t := by omega
  clear ht ht1
  obtain ⟨u, hu⟩ : ∃ u, u = n.natAbs := ⟨_, rfl⟩
  have hub : u ≤ 999999999999 := by omega
  have hu' := Lib.hid hu
  rw [← hu]
  clear hu
  have hpn := Lib.hid (fun U (hU : RI U a xs) => impl_newCard a c xs U hU hn)
  have hab := Lib.hid (fun U => (show Calls Tryz.prog 76 #[.int .i64 n] U fun e w' => e = .returned (.int .i64 (u : Int)) ∧ U = w' by rw [hu'.out]; exact impl_absOf n U hn0 hn1))
  go_enter Tryz.func77, Tryz.ntmps77
  go_wp2_with fail
  refine (hpn.out _ (hx.kept hb3.out)).mono ?_
  rintro e w2 ⟨a2, c2, rfl, hown, hb⟩
  (have hc0 := keep (p := ⟨w.heap.size + 1, 0, none⟩) (v := .int .i64 f) hb (by simp [go_sem, *]); have hf0 := keepf (p := ⟨w.heap.size + 1, 0, none⟩) (v := .int .i64 f) hb (by simp [go_sem, *]) (by simp [go_sem, *]); have hl0 := World.block_lt_of_cell? _ _ hc0; have hc1 := keep (p := ⟨w.heap.size + 1, 1, none⟩) (v := .int .i64 t) hb (by simp [go_sem, *]); have hf1 := keepf (p := ⟨w.heap.size + 1, 1, none⟩) (v := .int .i64 t) hb (by simp [go_sem, *]) (by simp [go_sem, *]); have hl1 := World.block_lt_of_cell? _ _ hc1; have hc2 := keep (p := ⟨w.heap.size + 1 + 1, 0, none⟩) (v := .slice none 0 0) hb (by simp [go_sem, *]); have hf2 := keepf (p := ⟨w.heap.size + 1 + 1, 0, none⟩) (v := .slice none 0 0) hb (by simp [go_sem, *]) (by simp [go_sem, *]); have hl2 := World.block_lt_of_cell? _ _ hc2)
  have ho := Lib.hid (OV.of (own_mono (B := w.heap.size + 3) hown (by first | omega | simp)))
  have hB := Lib.hid (bthen hb3.out hb)
  have hlw : w.heap.size + 1 + 1 < w2.heap.size := hl2
  clear hown hb
  have hba := below_alloc (w := w2) (.cells #[.slice a2 xs.length c2] 32)
  have hbx : (w2.alloc (.cells #[.slice a2 xs.length c2] 32)).cell? ⟨w2.heap.size, 0, none⟩ = some (.slice a2 xs.length c2) := by simp [go_sem]
  have hcf := keep hba hc0
  have hct := keep hba hc1
  have hcr := keep hba hc2
  have hfr := keepf hba hc2 hf2
  have hB2 := Lib.hid (bthen hB.out hba)
  have ho0 : OV (w.heap.size + 3) w2.heap.size (w2.alloc (.cells #[.slice a2 xs.length c2] 32)) 2 1 a2 xs.length c2 ((putL xs (tt + 1 - 0) (digs u 0)).map (Value.int .i64)) := by rw [digs_zero, putL_nil]; exact ho.out.kept (below_alloc _)
  clear hba hc0 hc1 hc2 hf0 hf1 hf2 hl0 hl1 hl2
  go_wp2_with (go_at_call 76; ((with_reducible refine (hab.out _).mono ?_); rintro e w' ⟨rfl, rfl⟩))
  generalize hW : (w2.alloc (.cells #[.slice a2 xs.length c2] 32)) = W at *
  clear hW
  go_loopw [8, 9] (fun x q wr => ∃ (m R : Nat) (z : Int), m ≤ tt + 1 - f ∧ x = .int .i64 R ∧ q = .int .i64 z ∧ z + m = tt ∧ Hid (R = u / 10 ^ m) ∧ R ≤ 999999999999 ∧ OV (w.heap.size + 3) w2.heap.size wr 2 1 a2 xs.length c2 ((putL xs (tt + 1 - m) (digs u m)).map (Value.int .i64)) ∧ Within (w.heap.size + 3) w2.heap.size W wr) (fun _ q _ => (intOf q + 1).toNat)
  case atStart => exact ⟨0, u, _, by omega, rfl, rfl, by have := ht2.out; omega, Lib.hid (by simp), hub, ho0, Within.refl _ _ _⟩
  case round =>
    obtain ⟨m, R, z, hm, rfl, rfl, hz, hR, hRb, hov, hw⟩ := hrel
    have hbxr := hw.cell hbx (Or.inr (Nat.le_refl _))
    have hcfr := hw.cell hcf (Or.inl (by dsimp only; omega))
    have hctr := hw.cell hct (Or.inl (by dsimp only; omega))
    have hcrr := hw.cell hcr (Or.inl (by dsimp only; omega))
    have hfrr := hw.frozen hcr hfr (Or.inl (by dsimp only; omega))
    replace hov := Lib.hid hov
    replace hw := Lib.hid hw
    by_cases hlt : m < tt + 1 - f
    · obtain ⟨j, rfl⟩ := Int.eq_ofNat_of_zero_le (show 0 ≤ z by omega)
      have hjf : (f : Int) ≤ (j : Int) := by omega
      have hjn : j < xs.length := by omega
      have hjn' : (j : Int) < (xs.length : Int) := by omega
      obtain ⟨g, rfl, hg1, hg2⟩ := hov.out.addr (by omega)
      obtain ⟨v, hv⟩ := putL_free (l := digs u m) hjn
      have hcg : wr.cell? ⟨g, j, none⟩ = some (.int .i64 v) := by rw [hov.out.1.cellAt j (by omega), show tt + 1 - m = j + 1 by omega]; exact map_at hv
      have hfg := hov.out.1.frozenAt j
      have hg3 : ¬ g = w2.heap.size := by omega
      have hg4 : ¬ w2.heap.size = g := by omega
      have hset := Lib.hid (show ((putL xs (tt + 1 - m) (digs u m)).map (Value.int .i64)).set j (.int .i64 (bitI ((R : Int) % 10))) = (putL xs (tt + 1 - (m + 1)) (digs u (m + 1))).map (Value.int .i64) by
        rw [show tt + 1 - m = j + 1 by omega, show tt + 1 - (m + 1) = j by omega, ← List.map_set, putL_front (by rw [digs_length]; omega), digs_succ, ← hR.out]
        rfl)
      have hR2 := Lib.hid (show R / 10 = u / 10 ^ (m + 1) by rw [hR.out, Nat.div_div_eq_div_mul, Nat.pow_succ])
      have hmod : Int.tmod (R : Int) 10 = (R : Int) % 10 := Int.tmod_eq_emod_of_nonneg (by omega)
      clear hv hR
      go_wp2_with fail
      first | go_region_with (go_at_call 113; refine (impl_bitOf _ _).mono ?_; rintro e w' ⟨rfl, rfl⟩) | fail
      all_goals go_wp2_with fail
      all_goals
        go_roundw
        case rel => exact ⟨m + 1, R / 10, (j : Int) - 1, by omega, by first | go_num | (congr 1; omega), rfl, by omega, hR2, by omega, by rw [← hset.out]; first | exact (hov.out.store j _).kept (below_drewN (Below.refl _ _) 1) | exact hov.out.store j _, by first | exact (hw.out.setCell (p := ⟨g, j, none⟩) hg1 hg2 _).trans (Within.of_below (below_drewN (Below.refl _ _) 1)) | exact (hw.out.setCell (p := ⟨g, j, none⟩) hg1 hg2 _).trans (Within.of_below (Below.refl _ _).drew) | exact hw.out.setCell (p := ⟨g, j, none⟩) hg1 hg2 _⟩
        case measure => simp only [intOf]; omega
    · obtain rfl : m = tt + 1 - f := by omega
      have hlast := Lib.hid (show tt + 1 - (tt + 1 - f) = f by omega)
      obtain ⟨v, hvv⟩ : ∃ v, v + f = tt := ⟨tt - f, by omega⟩
      have hwd := Lib.hid (show tt + 1 - f = v + 1 by omega)
      rw [hlast.out, hwd.out] at hov
      have hzf : ¬ (f : Int) ≤ z := by omega
      clear hR
      cases hneg : decide (n < 0)
      · have hn2 : ¬ n < 0 := by simpa using hneg
        have hfin := Lib.hid (show numL (tt + 1 - f) u false = digs u (v + 1) by rw [hwd.out]; rfl)
        go_wp2_with fail
        refine bodyPost_ret (v := .agg #[.slice a2 xs.length c2]) (by simp [results, Tryz.results77, go_sem, *]) rfl ⟨a2, c2, rfl, ?_, (hw.out.below hB2.out (by omega) hB2.out.size).setCell (by dsimp only; omega) _⟩
        rw [hfin.out]
        exact own_mono (ownsRow_setCell_below hov.out.1 (by dsimp only; omega) _) (by omega)
      · have hn2 : n < 0 := by simpa using hneg
        obtain ⟨g, rfl, hg1, hg2⟩ := hov.out.addr (by omega)
        have hdl := Lib.hid (digs_length u (v + 1))
        have hcg : wr.cell? ⟨g, tt, none⟩ = some (.int .i64 ((digs u (v + 1)).getD v 0)) := by
          rw [hov.out.1.cellAt tt (by omega)]
          refine map_at ?_
          rw [show tt = f + v by omega]
          exact putL_at (by omega) (last_at hdl.out)
        have hfg := hov.out.1.frozenAt tt
        have hg3 : ¬ g = w2.heap.size := by omega
        have hg4 : ¬ w2.heap.size = g := by omega
        have hfin := Lib.hid (show ((putL xs f (digs u (v + 1))).map (Value.int .i64)).set tt (.int .i64 (bits BinOp.or IntKind.i64 ((digs u (v + 1)).getD v 0) 2)) = (putL xs f (numL (tt + 1 - f) u true)).map (Value.int .i64) by
          rw [← List.map_set, show tt = f + v by omega, putL_sign (by rw [hdl.out]; omega) hdl.out, show f + v + 1 - f = v + 1 by omega]
          rfl)
        have hti : t - 1 = (tt : Int) := by rw [ht2.out]; omega
        have htw : IntKind.i64.wrap (tt : Int) = (tt : Int) := IntWalk.i64_in _ (by omega)
        have htn : (tt : Int) < (xs.length : Int) := by omega
        have htn2 : tt < xs.length := by omega
        have hb11 : bitI 11 = 2 := rfl
        generalize (digs u (v + 1)).getD v 0 = dl at *
        go_wp2_with fail
        first | go_region_with (go_at_call 113; refine (impl_bitOf _ _).mono ?_; rintro e w' ⟨rfl, rfl⟩) | fail
        all_goals clear htw hti
        all_goals go_wp2_with fail
        all_goals
          refine bodyPost_ret (v := .agg #[.slice (some ⟨g, 0, none⟩) xs.length c2]) (by simp [results, Tryz.results77, go_sem, *]) rfl ⟨_, c2, rfl, ?_, ?_⟩
          · first | rw [← hfin.out] | rw [hneg, ← hfin.out]
            first
              | exact own_mono (ownsRow_setCell_below ((hov.out.store tt _).kept (below_drewN (Below.refl _ _) 1)).1 (by dsimp only; omega) _) (by omega)
              | exact own_mono (ownsRow_setCell_below (hov.out.store tt _).1 (by dsimp only; omega) _) (by omega)
          · first
              | exact (below_drewN ((hw.out.below hB2.out (by omega) hB2.out.size).setCell (p := ⟨g, tt, none⟩) (by dsimp only; omega) _) 1).setCell (by dsimp only; omega) _
              | exact ((hw.out.below hB2.out (by omega) hB2.out.size).setCell (p := ⟨g, tt, none⟩) (by dsimp only; omega) _).setCell (by dsimp only; omega) _
              | exact (((hw.out.below hB2.out (by omega) hB2.out.size).setCell (p := ⟨g, tt, none⟩) (by first | omega | (dsimp only; omega)) _).setCell (by first | omega | (dsimp only; omega)) _).drew
end Go.Proofs.YtmpfnkheohlmiaaGreatDoor
namespace Go.Proofs.YtmpfnkheohlmiaaGreatDoor
open Go.RowKit
set_option maxRecDepth 100000
set_option linter.unusedVariables false
set_option linter.unusedSimpArgs false
set_option linter.unnecessarySimpa false

set_option maxHeartbeats 4000000 in
theorem spec_l03Put_pos (u wd v : Nat) (w : World) (hwv : wd = v + 1) (hw20 : wd ≤ 1048576) (hub : u ≤ 999999999999) :
    Calls Tryz.prog 85 #[.int .i64 ((u : Int)), .int .i64 wd] w fun e w' => ∃ a' c', e = .returned (.tuple #[.slice a' wd c', .bool (decide (Lib.nDigits u ≤ wd))]) ∧ w'.ownsRow w.heap.size 2 1 (.slice a' wd c') wd ((numL wd u false).map (Value.int .i64)) ∧ Below w.heap.size w w' := by
  obtain ⟨i0, hi, hz0, hz1, hz2⟩ := info_parts Tryz.info_int64
  have hm := Lib.hid (show wd ≤ maxLen by simp [maxLen]; omega)
  have hwv' := Lib.hid hwv
  have hwi : (wd : Int) - 1 = (v : Int) := by omega
  have hwp : 1 ≤ wd := by omega
  have hdl := Lib.hid (digs_length u wd)
  clear hwv
  go_enter Tryz.func85, Tryz.ntmps85
  go_wp2_with (at_make; refine wpList_make_full _ rfl _ _ 30 rfl w.heap.size 2 i0 (.int .i64 0) 1 Tryz.underlying30 hi hz0 hz1 _ _ _ _ wd rfl rfl rfl rfl (by rw [hz2]; omega) hm.out (by exact Nat.le_refl _) ?_; intro w1 hown hgrow)
  have hown0 := Lib.hid (show w1.ownsRow w.heap.size 2 1 (.slice (some ⟨w.heap.size, 0, none⟩) wd wd) wd ((putL (zerosL wd) (wd - 0) (digs u 0)).map (Value.int .i64)) by
    rw [digs_zero, putL_nil, zerosL_vals]
    simpa [Value.cells, toList_madeCells_one] using hown)
  have hb0 := Lib.hid (show Below w.heap.size w w1 from (Below.refl _ _).grown hgrow (Nat.le_refl _) (by simp))
  clear hown hgrow
  go_loopw [7, 8] (fun x q wr => ∃ (m R : Nat) (z : Int), m ≤ wd ∧ x = .int .i64 R ∧ q = .int .i64 z ∧ z + m + 1 = wd ∧ Hid (R = u / 10 ^ m) ∧ R ≤ 999999999999 ∧ wr.ownsRow w.heap.size 2 1 (.slice (some ⟨w.heap.size, 0, none⟩) wd wd) wd ((putL (zerosL wd) (wd - m) (digs u m)).map (Value.int .i64)) ∧ Below w.heap.size w wr) (fun _ q _ => (intOf q + 1).toNat)
  case atStart => exact ⟨0, u, _, by omega, rfl, rfl, by omega, Lib.hid (by simp), hub, hown0.out, hb0.out⟩
  case round =>
    obtain ⟨m, R, z, hmw, rfl, rfl, hz, hR, hRb, hov, hB⟩ := hrel
    replace hov := Lib.hid hov
    replace hB := Lib.hid hB
    by_cases hlt : m < wd
    · obtain ⟨j, rfl⟩ := Int.eq_ofNat_of_zero_le (show 0 ≤ z by omega)
      have hjn : j < wd := by omega
      have hjn' : (j : Int) < (wd : Int) := by omega
      obtain ⟨q, hq⟩ := putL_free (xs := zerosL wd) (l := digs u m) (f := j) (by rw [zerosL_length]; omega)
      have hcg : wr.cell? ⟨w.heap.size, j, none⟩ = some (.int .i64 q) := by rw [hov.out.cellAt j (by omega), show wd - m = j + 1 by omega]; exact map_at hq
      have hfg := hov.out.frozenAt j
      have hset := Lib.hid (show ((putL (zerosL wd) (wd - m) (digs u m)).map (Value.int .i64)).set j (.int .i64 (bitI ((R : Int) % 10))) = (putL (zerosL wd) (wd - (m + 1)) (digs u (m + 1))).map (Value.int .i64) by
        rw [show wd - m = j + 1 by omega, show wd - (m + 1) = j by omega, ← List.map_set, putL_front (by rw [digs_length, zerosL_length]; omega), digs_succ, ← hR.out]
        rfl)
      have hR2 := Lib.hid (show R / 10 = u / 10 ^ (m + 1) by rw [hR.out, Nat.div_div_eq_div_mul, Nat.pow_succ])
      clear hq hR
      go_wp2_with (go_at_call 120; ((with_reducible refine (spec_l02Bit _ _).mono ?_); rintro e w' ⟨rfl, rfl⟩))
      go_roundw
      case rel => exact ⟨m + 1, R / 10, (j : Int) - 1, by omega, by first | go_num | (congr 1; omega), rfl, by omega, hR2, by omega, by rw [← hset.out]; exact (hov.out.stored j _).1, hB.out.setCell (Nat.le_refl _) _⟩
      case measure => simp only [intOf]; omega
    · obtain rfl : m = wd := by omega
      have hzn : ¬ 0 ≤ z := by omega
      have hall := Lib.hid (show putL (zerosL m) (m - m) (digs u m) = digs u m by rw [Nat.sub_self]; exact putL_all (by rw [hdl.out, zerosL_length]))
      have hov2 := hov.out
      rw [hall.out] at hov2
      replace hov := Lib.hid hov2
      have hfit := Lib.hid (show decide (Lib.nDigits u ≤ m) = ((R : Int) == 0) by
        rw [hR.out]
        by_cases h0 : u / 10 ^ m = 0
        · rw [h0, decide_eq_true ((fits_digits hwp).1 h0)]; rfl
        · rw [decide_eq_false (fun h => h0 ((fits_digits hwp).2 h))]
          generalize u / 10 ^ m = Q at h0 ⊢
          symm; simp; omega)
      clear hov2 hR
      go_wp2_with fail
      go_ret2
      exact ⟨_, _, by rw [hfit.out]; rfl, hov.out, hB.out⟩
set_option maxHeartbeats 4000000 in
theorem spec_l03Put_neg (u wd v : Nat) (w : World) (hwv : wd = v + 1) (hw20 : wd ≤ 1048576) (hub : u ≤ 999999999999) (h0 : 0 < u) :
    Calls Tryz.prog 85 #[.int .i64 (-(u : Int)), .int .i64 wd] w fun e w' => ∃ a' c', e = .returned (.tuple #[.slice a' wd c', .bool (decide (Lib.nDigits u ≤ wd))]) ∧ w'.ownsRow w.heap.size 2 1 (.slice a' wd c') wd ((numL wd u true).map (Value.int .i64)) ∧ Below w.heap.size w w' := by
  obtain ⟨i0, hi, hz0, hz1, hz2⟩ := info_parts Tryz.info_int64
  have hm := Lib.hid (show wd ≤ maxLen by simp [maxLen]; omega)
  have hwv' := Lib.hid hwv
  have hwi : (wd : Int) - 1 = (v : Int) := by omega
  have hwp : 1 ≤ wd := by omega
  have hdl := Lib.hid (digs_length u wd)
  clear hwv
  go_enter Tryz.func85, Tryz.ntmps85
  go_wp2_with (at_make; refine wpList_make_full _ rfl _ _ 30 rfl w.heap.size 2 i0 (.int .i64 0) 1 Tryz.underlying30 hi hz0 hz1 _ _ _ _ wd rfl rfl rfl rfl (by rw [hz2]; omega) hm.out (by exact Nat.le_refl _) ?_; intro w1 hown hgrow)
  have hown0 := Lib.hid (show w1.ownsRow w.heap.size 2 1 (.slice (some ⟨w.heap.size, 0, none⟩) wd wd) wd ((putL (zerosL wd) (wd - 0) (digs u 0)).map (Value.int .i64)) by
    rw [digs_zero, putL_nil, zerosL_vals]
    simpa [Value.cells, toList_madeCells_one] using hown)
  have hb0 := Lib.hid (show Below w.heap.size w w1 from (Below.refl _ _).grown hgrow (Nat.le_refl _) (by simp))
  clear hown hgrow
  go_loopw [7, 8] (fun x q wr => ∃ (m R : Nat) (z : Int), m ≤ wd ∧ x = .int .i64 R ∧ q = .int .i64 z ∧ z + m + 1 = wd ∧ Hid (R = u / 10 ^ m) ∧ R ≤ 999999999999 ∧ wr.ownsRow w.heap.size 2 1 (.slice (some ⟨w.heap.size, 0, none⟩) wd wd) wd ((putL (zerosL wd) (wd - m) (digs u m)).map (Value.int .i64)) ∧ Below w.heap.size w wr) (fun _ q _ => (intOf q + 1).toNat)
  case atStart => exact ⟨0, u, _, by omega, rfl, rfl, by omega, Lib.hid (by simp), hub, hown0.out, hb0.out⟩
  case round =>
    obtain ⟨m, R, z, hmw, rfl, rfl, hz, hR, hRb, hov, hB⟩ := hrel
    replace hov := Lib.hid hov
    replace hB := Lib.hid hB
    by_cases hlt : m < wd
    · obtain ⟨j, rfl⟩ := Int.eq_ofNat_of_zero_le (show 0 ≤ z by omega)
      have hjn : j < wd := by omega
      have hjn' : (j : Int) < (wd : Int) := by omega
      obtain ⟨q, hq⟩ := putL_free (xs := zerosL wd) (l := digs u m) (f := j) (by rw [zerosL_length]; omega)
      have hcg : wr.cell? ⟨w.heap.size, j, none⟩ = some (.int .i64 q) := by rw [hov.out.cellAt j (by omega), show wd - m = j + 1 by omega]; exact map_at hq
      have hfg := hov.out.frozenAt j
      have hset := Lib.hid (show ((putL (zerosL wd) (wd - m) (digs u m)).map (Value.int .i64)).set j (.int .i64 (bitI ((R : Int) % 10))) = (putL (zerosL wd) (wd - (m + 1)) (digs u (m + 1))).map (Value.int .i64) by
        rw [show wd - m = j + 1 by omega, show wd - (m + 1) = j by omega, ← List.map_set, putL_front (by rw [digs_length, zerosL_length]; omega), digs_succ, ← hR.out]
        rfl)
      have hR2 := Lib.hid (show R / 10 = u / 10 ^ (m + 1) by rw [hR.out, Nat.div_div_eq_div_mul, Nat.pow_succ])
      clear hq hR
      go_wp2_with (go_at_call 120; ((with_reducible refine (spec_l02Bit _ _).mono ?_); rintro e w' ⟨rfl, rfl⟩))
      go_roundw
      case rel => exact ⟨m + 1, R / 10, (j : Int) - 1, by omega, by first | go_num | (congr 1; omega), rfl, by omega, hR2, by omega, by rw [← hset.out]; exact (hov.out.stored j _).1, hB.out.setCell (Nat.le_refl _) _⟩
      case measure => simp only [intOf]; omega
    · obtain rfl : m = wd := by omega
      have hzn : ¬ 0 ≤ z := by omega
      have hall := Lib.hid (show putL (zerosL m) (m - m) (digs u m) = digs u m by rw [Nat.sub_self]; exact putL_all (by rw [hdl.out, zerosL_length]))
      have hov2 := hov.out
      rw [hall.out] at hov2
      replace hov := Lib.hid hov2
      have hfit := Lib.hid (show decide (Lib.nDigits u ≤ m) = ((R : Int) == 0) by
        rw [hR.out]
        by_cases h0 : u / 10 ^ m = 0
        · rw [h0, decide_eq_true ((fits_digits hwp).1 h0)]; rfl
        · rw [decide_eq_false (fun h => h0 ((fits_digits hwp).2 h))]
          generalize u / 10 ^ m = Q at h0 ⊢
          symm; simp; omega)
      clear hov2 hR
      have hvm : v < m := by have := hwv'.out; omega
      have hvm' : (v : Int) < (m : Int) := by omega
      have hdl2 := Lib.hid (hdl.out.trans hwv'.out)
      have hcg : wr.cell? ⟨w.heap.size, v, none⟩ = some (.int .i64 ((digs u m).getD v 0)) := by rw [hov.out.cellAt v (by omega)]; exact map_at (last_at hdl2.out)
      have hfg := hov.out.frozenAt v
      have hfin := Lib.hid (show ((digs u m).map (Value.int .i64)).set v (.int .i64 (bits BinOp.or IntKind.i64 ((digs u m).getD v 0) 2)) = (numL m u true).map (Value.int .i64) by
        rw [← List.map_set]
        unfold numL signL
        rw [if_pos rfl, hdl2.out, Nat.add_sub_cancel])
      generalize (digs u m).getD v 0 = dl at *
      go_wp2_with fail
      go_ret2
      exact ⟨_, _, by rw [hfit.out]; rfl, by rw [← hfin.out]; exact (hov.out.stored v _).1, hB.out.setCell (Nat.le_refl _) _⟩
theorem spec_l03Put (n : Int) (wd : Nat) (w : World) (h1 : 1 ≤ wd) (h2 : wd ≤ 1048576) (hn0 : -999999999999 ≤ n) (hn1 : n ≤ 999999999999) :
    Calls Tryz.prog 85 #[.int .i64 n, .int .i64 wd] w fun e w' => ∃ a' c', e = .returned (.tuple #[.slice a' wd c', .bool (decide (Lib.nDigits n.natAbs ≤ wd))]) ∧ w'.ownsRow w.heap.size 2 1 (.slice a' wd c') wd ((numL wd n.natAbs (decide (n < 0))).map (Value.int .i64)) ∧ Below w.heap.size w w' := by
  by_cases h : 0 ≤ n
  · obtain ⟨u, rfl⟩ := Int.eq_ofNat_of_zero_le h
    have e : decide ((u : Int) < 0) = false := decide_eq_false (by omega)
    rw [e, Int.natAbs_natCast]
    exact spec_l03Put_pos u wd (wd - 1) w (by omega) h2 (by omega)
  · obtain ⟨u, hu⟩ := Int.eq_ofNat_of_zero_le (show 0 ≤ -n by omega)
    obtain rfl : n = -(u : Int) := by omega
    have e : decide (-(u : Int) < 0) = true := decide_eq_true (by omega)
    rw [e, Int.natAbs_neg, Int.natAbs_natCast]
    exact spec_l03Put_neg u wd (wd - 1) w (by omega) h2 (by omega) (by omega)
end Go.Proofs.YtmpfnkheohlmiaaGreatDoor
namespace Go.Proofs.YtmpfnkheohlmiaaGreatDoor
open Go.RowKit
set_option maxRecDepth 100000
set_option linter.unusedVariables false
set_option linter.unusedSimpArgs false
set_option linter.unnecessarySimpa false

def pnCode (xs : List Int) (f t n : Int) : Int := if fieldI xs f t == 0 then (if inB n (-999999999999) 999999999999 then (if decide (Lib.nDigits n.natAbs ≤ (t - f).toNat) then 0 else 5) else 2) else fieldI xs f t
def pnL (xs : List Int) (f t n : Int) : List Int := if pnCode xs f t n == 0 then putL xs f.toNat (numL (t - f).toNat n.natAbs (decide (n < 0))) else []
theorem pn_not {xs : List Int} {f t n k : Int} (h : pnCode xs f t n = k) (hk : (k == 0) = false) : pnCode xs f t n = k ∧ pnL xs f t n = [] := ⟨h, by unfold pnL; rw [h, hk]; rfl⟩
theorem pn_bad {xs : List Int} {f t : Int} (n : Int) (h : (fieldI xs f t == 0) = false) : pnCode xs f t n = fieldI xs f t ∧ pnL xs f t n = [] := pn_not (by unfold pnCode; rw [h]; rfl) h
theorem pn_range {xs : List Int} {f t n : Int} (h : fieldI xs f t = 0) (h2 : inB n (-999999999999) 999999999999 = false) : pnCode xs f t n = 2 ∧ pnL xs f t n = [] := pn_not (by unfold pnCode; rw [h, h2]; rfl) rfl
theorem pn_full {xs : List Int} {f t n : Int} (h : fieldI xs f t = 0) (h2 : inB n (-999999999999) 999999999999 = true) (h3 : ¬ Lib.nDigits n.natAbs ≤ (t - f).toNat) : pnCode xs f t n = 5 ∧ pnL xs f t n = [] := pn_not (by unfold pnCode; rw [h, h2, decide_eq_false h3]; rfl) rfl
theorem pn_ok {xs : List Int} {f t n : Int} (h : fieldI xs f t = 0) (h2 : inB n (-999999999999) 999999999999 = true) (h3 : Lib.nDigits n.natAbs ≤ (t - f).toNat) : pnCode xs f t n = 0 ∧ pnL xs f t n = putL xs f.toNat (numL (t - f).toNat n.natAbs (decide (n < 0))) := by
  have e : pnCode xs f t n = 0 := by unfold pnCode; rw [h, h2, decide_eq_true h3]; rfl
  exact ⟨e, by unfold pnL; rw [e]; rfl⟩
theorem pn_len {xs : List Int} {f t : Int} (n : Int) (h : fieldI xs f t = 0) : (putL xs f.toNat (numL (t - f).toNat n.natAbs (decide (n < 0)))).length = xs.length := by
  obtain ⟨_, hq⟩ := field_zero h
  obtain ⟨h1, h2, h3⟩ := fieldB_yes hq
  exact putL_length (by rw [numL_length]; omega)
theorem pnL_len (xs : List Int) (f t n : Int) (hn : xs.length ≤ 1048576) : (pnL xs f t n).length ≤ 1048576 := by
  unfold pnL
  split
  · rename_i h
    have h0 : fieldI xs f t = 0 := by
      have hc : pnCode xs f t n = 0 := by simpa using h
      unfold pnCode at hc
      cases hq : (fieldI xs f t == 0)
      · rw [hq] at hc; simpa using hc
      · simpa using hq
    rw [pn_len n h0]; exact hn
  · simp
theorem Pow10.kept {w w' : World} (h : Pow10 w) (hb : Below w.heap.size w w') : Pow10 w' := TabIs.kept h hb
theorem impl_isCardNumber (n : Int) (w : World) : Calls Tryz.prog 74 #[.int .i64 n] w fun e w' => e = .returned (.bool (inB n (-999999999999) 999999999999)) ∧ w = w' := by
  go_enter Tryz.func74, Tryz.ntmps74
  go_wp2_with (go_at_call 62; ((with_reducible refine (impl_inside _ _ _ _).mono ?_); rintro e w' ⟨rfl, rfl⟩))
  go_ret
  exact ⟨rfl, rfl⟩
theorem impl_digitsOf (u : Nat) (w : World) (hu : u ≤ 999999999999) (ht : Pow10 w) : Calls Tryz.prog 75 #[.int .i64 u] w fun e w' => e = .returned (.int .i64 (Lib.nDigits u : Nat)) ∧ Below w.heap.size w w' := by
  have hd := Lib.hid (impl_Decimal (u : Int) w (by omega) (by omega) ht)
  have hl := Lib.hid (show (⟨(Lib.itoa (u : Int)).toArray⟩ : ByteArray).size = Lib.nDigits u by
    rw [Lib.itoa_nonneg]
    show (Lib.decDigits u).toArray.size = _
    rw [List.size_toArray, Lib.decDigits_length])
  have hl20 := Lib.nDigits_le20 u (by omega)
  generalize (⟨(Lib.itoa (u : Int)).toArray⟩ : ByteArray) = s at *
  go_enter Tryz.func75, Tryz.ntmps75
  go_wp2_with (go_at_call 44; ((with_reducible refine hd.out.mono ?_); rintro e w' ⟨rfl, hb⟩))
  go_ret
  exact ⟨ret_int (by rw [← hl.out]), hb⟩
end Go.Proofs.YtmpfnkheohlmiaaGreatDoor
