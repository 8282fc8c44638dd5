/- A number that is punched is read again: plain. No program in sight. -/
import Derived.Test.YtcbjfgjlhjjpiaaDoorPutL
import Derived.Test.YtcbjfgjlhjjpiaaDoorNumIn
import Derived.Test.YtcbjfgjlhjjpiaaDoorDraw
import Derived.Test.YtcbjfgjlhjjpiaaDoorPutN
namespace Go.Proofs.YtcbjfgjlhjjpiaaDoor
open Go.RowKit
set_option maxRecDepth 100000
set_option linter.unusedVariables false
set_option linter.unusedSimpArgs false
set_option linter.unnecessarySimpa false

theorem dig_fin : ∀ d : Fin 10, digI (bitI d.val) = d.val ∧ ¬ bitI d.val = 0 ∧ negB (bitI d.val) = false ∧ negB (bits BinOp.or IntKind.i64 (bitI d.val) 2) = true ∧ clrI (bits BinOp.or IntKind.i64 (bitI d.val) 2) = bitI d.val ∧ 0 ≤ bitI d.val ∧ bitI d.val ≤ 4095 := by decide +kernel
theorem dig_at {d : Nat} (h : d < 10) : digI (bitI (d : Int)) = d ∧ ¬ bitI (d : Int) = 0 ∧ negB (bitI (d : Int)) = false ∧ negB (bits BinOp.or IntKind.i64 (bitI (d : Int)) 2) = true ∧ clrI (bits BinOp.or IntKind.i64 (bitI (d : Int)) 2) = bitI (d : Int) ∧ 0 ≤ bitI (d : Int) ∧ bitI (d : Int) ≤ 4095 := dig_fin ⟨d, h⟩
theorem digs_at {u wd k : Nat} (h : k < wd) : (digs u wd)[k]? = some (bitI ((u / 10 ^ (wd - 1 - k) % 10 : Nat) : Int)) := by
  unfold digs
  rw [List.getElem?_map, List.getElem?_range h]; rfl
theorem digs_mask {u wd : Nat} {x : Int} (h : x ∈ digs u wd) : MaskP x := by
  unfold digs at h
  obtain ⟨j, _, rfl⟩ := List.mem_map.1 h
  obtain ⟨_, _, _, _, _, h1, h2⟩ := dig_at (show u / 10 ^ (wd - 1 - j) % 10 < 10 by omega)
  exact ⟨h1, h2⟩
theorem numL_mask {wd u : Nat} {neg : Bool} {x : Int} (hw : 1 ≤ wd) (h : x ∈ numL wd u neg) : MaskP x := by
  unfold numL signL at h
  split at h
  · rcases List.mem_or_eq_of_mem_set h with h | h
    · exact digs_mask h
    · rw [h]
      refine or_mask ?_ ⟨by omega, by omega⟩
      have hl := digs_length u wd
      rw [hl, List.getD_eq_getElem?_getD, digs_at (by omega)]
      obtain ⟨_, _, _, _, _, h1, h2⟩ := dig_at (show u / 10 ^ (wd - 1 - (wd - 1)) % 10 < 10 by omega)
      exact ⟨h1, h2⟩
  · exact digs_mask h
/-- the first k columns of a number -/
theorem numUp_digs {u wd : Nat} (hu : u < 10 ^ wd) : ∀ k, k ≤ wd → numUp (digs u wd) k = some (decide (0 < k), ((u / 10 ^ (wd - k) : Nat) : Int))
  | 0, _ => by
    rw [numUp_zero, Nat.sub_zero, Nat.div_eq_of_lt hu]; rfl
  | k + 1, hk => by
    have hd : u / 10 ^ (wd - 1 - k) % 10 < 10 := by omega
    obtain ⟨h1, h2, _⟩ := dig_at hd
    have hz : ((bitI ((u / 10 ^ (wd - 1 - k) % 10 : Nat) : Int) == 0) && !(decide (0 < k))) = false := by
      rw [show (bitI ((u / 10 ^ (wd - 1 - k) % 10 : Nat) : Int) == 0) = false from beq_false_of_ne h2]; rfl
    rw [numUp_succ (digs_at (by omega)), numUp_digs hu k (by omega), step_dig hz (by rw [h1]; omega), h1]
    have e : u / 10 ^ (wd - k) = u / 10 ^ (wd - 1 - k) / 10 := by
      have e0 : wd - k = (wd - 1 - k) + 1 := by omega
      rw [e0, Nat.pow_succ, Nat.div_div_eq_div_mul]
    rw [e, show wd - (k + 1) = wd - 1 - k by omega, decide_eq_true (show 0 < k + 1 by omega)]
    generalize u / 10 ^ (wd - 1 - k) = q
    congr 2
    push_cast
    omega
theorem num_back {u wd : Nat} {neg : Bool} (hw : 1 ≤ wd) (hu : Lib.nDigits u ≤ wd) (hn : neg = true → 0 < u) : numRes (numL wd u neg) = (if neg then -(u : Int) else u, true) := by
  have hu10 : u < 10 ^ wd := Nat.lt_of_lt_of_le (Lib.lt_pow_nDigits u) (Nat.pow_le_pow_right (by decide) hu)
  obtain ⟨k, rfl⟩ : ∃ k, wd = k + 1 := ⟨wd - 1, by omega⟩
  have hl := digs_length u (k + 1)
  have hd : u % 10 < 10 := by omega
  obtain ⟨h1, h2, h3, h4, h5, _⟩ := dig_at hd
  have hlast : (digs u (k + 1))[k]? = some (bitI ((u % 10 : Nat) : Int)) := by
    rw [digs_at (by omega), show k + 1 - 1 - k = 0 by omega, Nat.pow_zero, Nat.div_one]
  have hup := numUp_digs hu10 k (by omega)
  rw [show k + 1 - k = 1 by omega, Nat.pow_one] at hup
  have hsum : 10 * ((u / 10 : Nat) : Int) + ((u % 10 : Nat) : Int) = (u : Int) := by push_cast; omega
  cases neg with
  | false =>
    show numRes (digs u (k + 1)) = _
    rw [numRes_of hl hlast, hup]
    simp only [h3, h1, hsum]
    rw [show (bitI ((u % 10 : Nat) : Int) == 0) = false from beq_false_of_ne h2]
    simp only [Bool.false_and, Bool.false_eq_true, if_false]
    rw [if_neg (by omega)]
  | true =>
    have hpos := hn rfl
    have e : numL (k + 1) u true = (digs u (k + 1)).set k (bits BinOp.or IntKind.i64 (bitI ((u % 10 : Nat) : Int)) 2) := by
      show signL true (digs u (k + 1)) = _
      unfold signL
      rw [if_pos rfl, hl, Nat.add_sub_cancel, List.getD_eq_getElem?_getD, hlast]; rfl
    have hl2 : (numL (k + 1) u true).length = k + 1 := numL_length _ _ _
    have hlast2 : (numL (k + 1) u true)[k]? = some (bits BinOp.or IntKind.i64 (bitI ((u % 10 : Nat) : Int)) 2) := by
      rw [e, List.getElem?_set]; simp [hl]
    have hup2 : numUp (numL (k + 1) u true) k = numUp (digs u (k + 1)) k := by
      rw [e]; unfold numUp; rw [List.take_set_of_le (Nat.le_refl _)]
    rw [numRes_of hl2 hlast2, hup2, hup]
    simp only [h4, h5, h1, hsum, if_true]
    rw [if_neg (by omega), if_neg (by omega)]
theorem part_put {xs l : List Int} {f t : Nat} (h1 : f ≤ t) (h2 : t ≤ xs.length) (hl : l.length = t - f) : partL (putL xs f l) (f : Int) (t : Int) = l := by
  unfold partL putL
  rw [Int.toNat_natCast, show ((t : Int) - (f : Int)).toNat = l.length by omega, List.append_assoc]
  rw [List.drop_append_of_le_length (by rw [List.length_take]; omega)]
  rw [show List.drop f (List.take f xs) = [] by rw [List.drop_eq_nil_iff, List.length_take]; omega]
  simp
theorem put_other {xs l : List Int} {f j : Nat} (h2 : f + l.length ≤ xs.length) (h : j < f ∨ f + l.length ≤ j) : (putL xs f l)[j]? = xs[j]? := by
  unfold putL
  rcases h with h | h
  · rw [List.append_assoc, List.getElem?_append_left (by rw [List.length_take]; omega), List.getElem?_take, if_pos h]
  · rw [List.getElem?_append_right (by rw [List.length_append, List.length_take]; omega), List.length_append, List.length_take, List.getElem?_drop]
    congr 1; omega
theorem put_mask {xs l : List Int} {f : Nat} (hx : ∀ x ∈ xs, MaskP x) (hl : ∀ x ∈ l, MaskP x) : ∀ x ∈ putL xs f l, MaskP x := by
  intro x h
  unfold putL at h
  rcases List.mem_append.1 h with h | h
  · rcases List.mem_append.1 h with h | h
    · exact hx x (List.mem_of_mem_take h)
    · exact hl x h
  · exact hx x (List.mem_of_mem_drop h)
/-- all that the law asks of a number that is punched -/
theorem punched_num {xs : List Int} {f t : Nat} {n : Int} (hv : validCardL xs = true) (hP : ∀ x ∈ xs, MaskP x) (h1 : f < t) (h2 : t ≤ xs.length) (hn0 : -999999999999 ≤ n) (hn1 : n ≤ 999999999999) :
    (pnCode xs f t n = 5 ∧ 10 ≤ n.natAbs) ∨ (pnCode xs f t n = 0 ∧ (pnL xs f t n).length = xs.length ∧ (t - f ≤ 12 → numInI (pnL xs f t n) f t = n ∧ numInCode (pnL xs f t n) f t = 0) ∧ validCardL (pnL xs f t n) = true ∧ ∀ j, (j < f ∨ t ≤ j) → (pnL xs f t n)[j]? = xs[j]?) := by
  have hfi : fieldI xs f t = 0 := field_ok hv (fieldB_ok (by omega) (by omega) (by omega))
  have hin : inB n (-999999999999) 999999999999 = true := inB_true.2 ⟨hn0, hn1⟩
  have hwd : ((t : Int) - (f : Int)).toNat = t - f := by omega
  by_cases hfit : Lib.nDigits n.natAbs ≤ t - f
  · obtain ⟨p1, p2⟩ := pn_ok hfi hin (by rw [hwd]; exact hfit)
    rw [hwd, Int.toNat_natCast] at p2
    have hll := numL_length (t - f) n.natAbs (decide (n < 0))
    have hlen : (pnL xs f t n).length = xs.length := by rw [p2]; exact putL_length (by omega)
    have hvd : validCardL (pnL xs f t n) = true := by
      have := validCard_len hv
      refine card_valid (by omega) (by omega) ?_
      rw [p2]
      exact put_mask hP (fun x hx => numL_mask (by omega) hx)
    refine .inr ⟨p1, hlen, fun h12 => ?_, hvd, fun j hj => ?_⟩
    · have hfd : fieldI (pnL xs f t n) f t = 0 := field_ok hvd (fieldB_ok (by omega) (by omega) (by omega))
      have hpp : partL (pnL xs f t n) f t = numL (t - f) n.natAbs (decide (n < 0)) := by rw [p2]; exact part_put (by omega) h2 hll
      have hbk := num_back (u := n.natAbs) (neg := decide (n < 0)) (show 1 ≤ t - f by omega) hfit (fun h => by have := of_decide_eq_true h; omega)
      obtain ⟨q1, q2⟩ := ni_ok hfd (by omega) (by rw [hpp, hbk])
      refine ⟨?_, q2⟩
      rw [q1, hpp, hbk]
      simp only
      by_cases hneg : n < 0
      · rw [decide_eq_true hneg, if_pos rfl]; omega
      · rw [decide_eq_false hneg, if_neg (by decide)]; omega
    · rw [p2]; exact put_other (by omega) (by rcases hj with h | h; exact .inl h; exact .inr (by omega))
  · obtain ⟨p1, _⟩ := pn_full hfi hin (by rw [hwd]; exact hfit)
    refine .inl ⟨p1, ?_⟩
    rcases Nat.lt_or_ge n.natAbs 10 with h | h
    · rw [Lib.nDigits_small h] at hfit; omega
    · exact h
end Go.Proofs.YtcbjfgjlhjjpiaaDoor
