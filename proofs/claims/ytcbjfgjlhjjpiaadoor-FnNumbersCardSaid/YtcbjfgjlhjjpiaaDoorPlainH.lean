/- Plain facts of cards and one more hole. No program in sight. -/
import Derived.Test.YtcbjfgjlhjjpiaaDoorCount
import Derived.Test.YtcbjfgjlhjjpiaaDoorLay
import Derived.Test.YtcbjfgjlhjjpiaaDoorDraw
namespace Go.Proofs.YtcbjfgjlhjjpiaaDoor
open Go.RowKit
set_option linter.unusedVariables false
set_option linter.unusedSimpArgs false
set_option linter.unnecessarySimpa false

theorem cntN_or : ∀ (f i x : Nat), i < f → x.testBit i = false → cntN f (x ||| 2 ^ i) = cntN f x + 1
  | 0, i, x, h, _ => by omega
  | f + 1, 0, x, _, hb => by
    have h0 : x % 2 = 0 := by
      have := Nat.testBit_zero x; rw [hb] at this; simp at this; omega
    have e1 : (x ||| 2 ^ 0) % 2 = 1 := by
      have h : (x ||| 2 ^ 0).testBit 0 = true := by rw [Nat.testBit_or]; simp
      rw [Nat.testBit_zero] at h
      exact of_decide_eq_true h
    have e2 : (x ||| 2 ^ 0) / 2 = x / 2 := by
      apply Nat.eq_of_testBit_eq; intro j
      rw [Nat.testBit_div_two, Nat.testBit_div_two, Nat.testBit_or, Nat.testBit_two_pow]
      simp
    simp only [cntN]; rw [e1, e2, h0]; omega
  | f + 1, i + 1, x, h, hb => by
    have e1 : (x ||| 2 ^ (i + 1)) % 2 = x % 2 := by
      have h1 : (x ||| 2 ^ (i + 1)).testBit 0 = x.testBit 0 := by rw [Nat.testBit_or, Nat.testBit_two_pow]; simp
      rw [Nat.testBit_zero, Nat.testBit_zero] at h1
      have := decide_eq_decide.1 h1
      omega
    have e2 : (x ||| 2 ^ (i + 1)) / 2 = x / 2 ||| 2 ^ i := by
      apply Nat.eq_of_testBit_eq; intro j
      rw [Nat.testBit_div_two, Nat.testBit_or, Nat.testBit_or, Nat.testBit_div_two, Nat.testBit_two_pow, Nat.testBit_two_pow]
      simp
    have ih := cntN_or f i (x / 2) (by omega) (by rw [Nat.testBit_div_two]; exact hb)
    simp only [cntN]; rw [e1, e2, ih]; omega
theorem bits_and_i64_nat (a b : Nat) (ha : a ≤ 4095) (hb : b ≤ 4095) : bits .and .i64 (a : Int) (b : Int) = ((a &&& b : Nat) : Int) := by
  have hx : a &&& b < 2 ^ 12 := Nat.and_lt_two_pow _ (by omega)
  have h1 : (BitVec.ofInt 64 (a : Int)).toNat = a := by
    rw [BitVec.ofInt_natCast, BitVec.toNat_ofNat]; exact Nat.mod_eq_of_lt (by omega)
  have h2 : (BitVec.ofInt 64 (b : Int)).toNat = b := by
    rw [BitVec.ofInt_natCast, BitVec.toNat_ofNat]; exact Nat.mod_eq_of_lt (by omega)
  show IntKind.i64.wrap ((BitVec.ofInt 64 (a : Int) &&& BitVec.ofInt 64 (b : Int)).toNat : Int) = _
  rw [BitVec.toNat_and, h1, h2]
  exact IntWalk.i64_in _ (by omega)
theorem bits_or_i64_nat (a b : Nat) (ha : a ≤ 4095) (hb : b ≤ 4095) : bits .or .i64 (a : Int) (b : Int) = ((a ||| b : Nat) : Int) := by
  have hx : a ||| b < 2 ^ 12 := Nat.or_lt_two_pow (by omega) (by omega)
  have h1 : (BitVec.ofInt 64 (a : Int)).toNat = a := by
    rw [BitVec.ofInt_natCast, BitVec.toNat_ofNat]; exact Nat.mod_eq_of_lt (by omega)
  have h2 : (BitVec.ofInt 64 (b : Int)).toNat = b := by
    rw [BitVec.ofInt_natCast, BitVec.toNat_ofNat]; exact Nat.mod_eq_of_lt (by omega)
  show IntKind.i64.wrap ((BitVec.ofInt 64 (a : Int) ||| BitVec.ofInt 64 (b : Int)).toNat : Int) = _
  rw [BitVec.toNat_or, h1, h2]
  exact IntWalk.i64_in _ (by omega)
/-- one hole more -/
theorem ones_or {x : Int} {i : Nat} (h0 : 0 ≤ x) (h1 : x ≤ 4095) (hi : i < 12) (h : bits BinOp.and IntKind.i64 x ((2 ^ i : Nat) : Int) = 0) :
    onesI (bits BinOp.or IntKind.i64 x ((2 ^ i : Nat) : Int)) = onesI x + 1 := by
  obtain ⟨m, rfl⟩ := Int.eq_ofNat_of_zero_le h0
  have hp : 2 ^ i ≤ 4095 := by
    have : 2 ^ i ≤ 2 ^ 11 := Nat.pow_le_pow_right (by omega) (by omega)
    omega
  rw [bits_and_i64_nat m _ (by omega) hp] at h
  have hz : m &&& 2 ^ i = 0 := by omega
  have hb : m.testBit i = false := by
    have := congrArg (fun q => q.testBit i) hz
    simpa [Nat.testBit_and, Nat.testBit_two_pow] using this
  rw [bits_or_i64_nat m _ (by omega) hp]
  unfold onesI
  rw [Int.toNat_natCast, Int.toNat_natCast, cntN_or 12 i m hi hb]
  omega
theorem bit_pow {r : Int} (h : bitI r ≠ 0) : ∃ i : Nat, i < 12 ∧ bitI r = ((2 ^ i : Nat) : Int) := by
  by_cases h12 : r = 12
  · subst h12; exact ⟨0, by omega, rfl⟩
  by_cases h11 : r = 11
  · subst h11; exact ⟨1, by omega, rfl⟩
  by_cases h9 : 0 ≤ r ∧ r ≤ 9
  · obtain ⟨n, rfl⟩ := Int.eq_ofNat_of_zero_le h9.1
    refine ⟨n + 2, by omega, ?_⟩
    rw [bitI_row h9, Int.toNat_natCast, Nat.pow_add]
    push_cast; omega
  · exact absurd (bitI_none h12 h11 h9) h
theorem or_zero {x : Int} (h0 : 0 ≤ x) (h1 : x ≤ 4095) : bits BinOp.or IntKind.i64 x 0 = x := by
  obtain ⟨m, rfl⟩ := Int.eq_ofNat_of_zero_le h0
  have := bits_or_i64_nat m 0 (by omega) (by omega)
  simpa using this
theorem or_self' {x : Int} (h0 : 0 ≤ x) (h1 : x ≤ 4095) : bits BinOp.or IntKind.i64 x x = x := by
  obtain ⟨m, rfl⟩ := Int.eq_ofNat_of_zero_le h0
  have := bits_or_i64_nat m m (by omega) (by omega)
  simpa using this
theorem orL_self {xs : List Int} (h : ∀ x ∈ xs, MaskP x) : orL xs xs = xs := by
  apply List.ext_getElem?; intro j
  cases hx : xs[j]? with
  | none =>
    have hl : xs.length ≤ j := List.getElem?_eq_none_iff.1 hx
    rw [List.getElem?_eq_none]; rw [orL_length rfl]; exact hl
  | some x =>
    have hm := h x (List.mem_of_getElem? hx)
    rw [orL_at hx hx, or_self' hm.1 hm.2]
theorem orL_zero {xs : List Int} (h : ∀ x ∈ xs, MaskP x) {ys : List Int} (hl : ys.length = xs.length) (hz : ∀ y ∈ ys, y = 0) : orL xs ys = xs := by
  apply List.ext_getElem?; intro j
  cases hx : xs[j]? with
  | none =>
    have hl2 : xs.length ≤ j := List.getElem?_eq_none_iff.1 hx
    rw [List.getElem?_eq_none]; rw [orL_length hl.symm]; exact hl2
  | some x =>
    have hm := h x (List.mem_of_getElem? hx)
    obtain ⟨y, hy⟩ := get_some (l := ys) (k := j) (by have := (List.getElem?_eq_some_iff.1 hx).1; omega)
    rw [orL_at hx hy, hz y (List.mem_of_getElem? hy), or_zero hm.1 hm.2]
theorem sumUp_set {xs : List Int} {k : Nat} {x y : Int} (hx : xs[k]? = some x) (h : onesI y = onesI x + 1) : sumUp (xs.set k y) (xs.set k y).length = sumUp xs xs.length + 1 := by
  have hlt := (List.getElem?_eq_some_iff.1 hx).1
  have hsum : ∀ (l : List Int) (j : Nat), l[j]? = some x → ((l.set j y).map onesI).sum = (l.map onesI).sum + 1 := by
    intro l
    induction l with
    | nil => intro j hj; simp at hj
    | cons q r ih =>
      intro j hj
      cases j with
      | zero => simp at hj; subst hj; simp [h]; omega
      | succ j =>
        have := ih j (by simpa using hj)
        rw [List.set_cons_succ, List.map_cons, List.map_cons, List.sum_cons, List.sum_cons, this]; omega
  unfold sumUp
  rw [List.take_length, List.take_length]
  exact hsum xs k hx
theorem hole_zero {xs : List Int} {k : Nat} {r : Int} (hv : validCardL xs = true) (hk : k < xs.length) (hr : bitI r ≠ 0) : holeI xs k r = 0 := by
  unfold holeI
  have h1 : inB (k : Int) 0 ((xs.length : Int) - 1) = true := inB_true.2 ⟨by omega, by omega⟩
  have h2 : (bitI r == 0) = false := by simpa using hr
  rw [hv, h1, h2]; rfl
theorem rows_bit {r : Int} (h : r ∈ ([12, 11, 0, 1, 2, 3, 4, 5, 6, 7, 8, 9] : List Int)) : bitI r ≠ 0 := by
  have : ∀ q ∈ ([12, 11, 0, 1, 2, 3, 4, 5, 6, 7, 8, 9] : List Int), bitI q ≠ 0 := by decide +kernel
  exact this r h
/-- all of a card with one hole more -/
theorem punched_all {xs : List Int} {k : Nat} {x r : Int} (hv : validCardL xs = true) (hP : ∀ y ∈ xs, MaskP y) (hx : xs[k]? = some x) (hr : bitI r ≠ 0) (hno : (bits BinOp.and IntKind.i64 x (bitI r) != 0) = false) :
    punchHoleCode xs k r = 0 ∧ punchHoleL xs k r = xs.set k (bits BinOp.or IntKind.i64 x (bitI r)) ∧ validCardL (xs.set k (bits BinOp.or IntKind.i64 x (bitI r))) = true ∧
    countI (xs.set k (bits BinOp.or IntKind.i64 x (bitI r))) = countI xs + 1 ∧ holeI (xs.set k (bits BinOp.or IntKind.i64 x (bitI r))) k r = 0 ∧ hasHoleB (xs.set k (bits BinOp.or IntKind.i64 x (bitI r))) k r = true := by
  have hk := (List.getElem?_eq_some_iff.1 hx).1
  have hh := hole_zero hv hk hr
  obtain ⟨h1, h2⟩ := punchHole_ok hh rfl hx hno
  have hm := hP x (List.mem_of_getElem? hx)
  obtain ⟨i, hi, hb⟩ := bit_pow hr
  have hz : bits BinOp.and IntKind.i64 x (bitI r) = 0 := by simpa using hno
  have hpw : 2 ^ i ≤ 4095 := by
    have : 2 ^ i ≤ 2 ^ 11 := Nat.pow_le_pow_right (by omega) (by omega)
    omega
  have hmb : MaskP (bitI r) := by rw [hb]; exact ⟨Int.natCast_nonneg _, Int.ofNat_le.2 hpw⟩
  have hmo := or_mask hm hmb
  have hl := validCard_len hv
  have hv2 : validCardL (xs.set k (bits BinOp.or IntKind.i64 x (bitI r))) = true := card_valid (by simp; omega) (by simp; omega) (fun y hy => by
    rcases List.mem_or_eq_of_mem_set hy with h | h
    · exact hP y h
    · rw [h]; exact hmo)
  have hk2 : k < (xs.set k (bits BinOp.or IntKind.i64 x (bitI r))).length := by simpa using hk
  have hh2 := hole_zero hv2 hk2 hr
  have hget : (xs.set k (bits BinOp.or IntKind.i64 x (bitI r)))[k]? = some (bits BinOp.or IntKind.i64 x (bitI r)) := by simp [hk]
  refine ⟨h1, h2, hv2, ?_, hh2, ?_⟩
  · rw [(count_ok hv2).1, (count_ok hv).1]
    refine sumUp_set hx ?_
    rw [hb] at hz ⊢
    exact ones_or hm.1 hm.2 hi hz
  · rw [hasHole_yes hh2 rfl hget]
    obtain ⟨m, rfl⟩ := Int.eq_ofNat_of_zero_le hm.1
    have hm2 := hm.2
    have hq : m ||| 2 ^ i < 2 ^ 12 := Nat.or_lt_two_pow (by omega) (by omega)
    rw [hb, bits_or_i64_nat m _ (by omega) hpw, bits_and_i64_nat _ _ (by omega) hpw]
    have : ((m ||| 2 ^ i) &&& 2 ^ i).testBit i = true := by simp [Nat.testBit_and, Nat.testBit_or, Nat.testBit_two_pow]
    have hne : (m ||| 2 ^ i) &&& 2 ^ i ≠ 0 := fun e => by rw [e] at this; simp at this
    simp only [bne_iff_ne, ne_eq]; omega
end Go.Proofs.YtcbjfgjlhjjpiaaDoor
