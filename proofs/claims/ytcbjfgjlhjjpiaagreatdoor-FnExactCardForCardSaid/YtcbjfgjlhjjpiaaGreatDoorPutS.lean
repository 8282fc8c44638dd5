/- The walks of the reference's functions that punch numbers. -/
import Derived.Test.YtcbjfgjlhjjpiaaGreatDoorPutL
import Derived.Test.YtcbjfgjlhjjpiaaGreatDoorField
import Derived.Test.YtcbjfgjlhjjpiaaGreatDoorCopy
import Derived.Deep.RegionWith
import Derived.IntWalk
namespace Go.Proofs.YtcbjfgjlhjjpiaaGreatDoor
open Go.RowKit
set_option maxRecDepth 100000
set_option linter.unusedVariables false
set_option linter.unusedSimpArgs false
set_option linter.unnecessarySimpa false

set_option maxHeartbeats 4000000 in
theorem spec_l03Put_pos (u wd v : Nat) (w : World) (hwv : wd = v + 1) (hw20 : wd ≤ 1048576) (hub : u ≤ 999999999999) :
    Calls Tryz.prog 124 #[.int .i64 ((u : Int)), .int .i64 wd] w fun e w' => ∃ a' c', e = .returned (.tuple #[.slice a' wd c', .bool (decide (Lib.nDigits u ≤ wd))]) ∧ w'.ownsRow w.heap.size 2 1 (.slice a' wd c') wd ((numL wd u false).map (Value.int .i64)) ∧ Below w.heap.size w w' := by
  obtain ⟨i0, hi, hz0, hz1, hz2⟩ := info_parts Tryz.info_int64
  have hm := Lib.hid (show wd ≤ maxLen by simp [maxLen]; omega)
  have hwv' := Lib.hid hwv
  have hwi : (wd : Int) - 1 = (v : Int) := by omega
  have hwp : 1 ≤ wd := by omega
  have hdl := Lib.hid (digs_length u wd)
  clear hwv
  go_enter Tryz.func124, Tryz.ntmps124
  go_wp2_with (at_make; refine wpList_make_full _ rfl _ _ 25 rfl w.heap.size 2 i0 (.int .i64 0) 1 Tryz.underlying25 hi hz0 hz1 _ _ _ _ wd rfl rfl rfl rfl (by rw [hz2]; omega) hm.out (by exact Nat.le_refl _) ?_; intro w1 hown hgrow)
  have hown0 := Lib.hid (show w1.ownsRow w.heap.size 2 1 (.slice (some ⟨w.heap.size, 0, none⟩) wd wd) wd ((putL (zerosL wd) (wd - 0) (digs u 0)).map (Value.int .i64)) by
    rw [digs_zero, putL_nil, zerosL_vals]
    simpa [Value.cells, toList_madeCells_one] using hown)
  have hb0 := Lib.hid (show Below w.heap.size w w1 from (Below.refl _ _).grown hgrow (Nat.le_refl _) (by simp))
  clear hown hgrow
  go_loopw [7, 8] (fun x q wr => ∃ (m R : Nat) (z : Int), m ≤ wd ∧ x = .int .i64 R ∧ q = .int .i64 z ∧ z + m + 1 = wd ∧ Hid (R = u / 10 ^ m) ∧ R ≤ 999999999999 ∧ wr.ownsRow w.heap.size 2 1 (.slice (some ⟨w.heap.size, 0, none⟩) wd wd) wd ((putL (zerosL wd) (wd - m) (digs u m)).map (Value.int .i64)) ∧ Below w.heap.size w wr) (fun _ q _ => (intOf q + 1).toNat)
  case atStart => exact ⟨0, u, _, by omega, rfl, rfl, by omega, Lib.hid (by simp), hub, hown0.out, hb0.out⟩
  case round =>
    obtain ⟨m, R, z, hmw, rfl, rfl, hz, hR, hRb, hov, hB⟩ := hrel
    replace hov := Lib.hid hov
    replace hB := Lib.hid hB
    by_cases hlt : m < wd
    · obtain ⟨j, rfl⟩ := Int.eq_ofNat_of_zero_le (show 0 ≤ z by omega)
      have hjn : j < wd := by omega
      have hjn' : (j : Int) < (wd : Int) := by omega
      obtain ⟨q, hq⟩ := putL_free (xs := zerosL wd) (l := digs u m) (f := j) (by rw [zerosL_length]; omega)
      have hcg : wr.cell? ⟨w.heap.size, j, none⟩ = some (.int .i64 q) := by rw [hov.out.cellAt j (by omega), show wd - m = j + 1 by omega]; exact map_at hq
      have hfg := hov.out.frozenAt j
      have hset := Lib.hid (show ((putL (zerosL wd) (wd - m) (digs u m)).map (Value.int .i64)).set j (.int .i64 (bitI ((R : Int) % 10))) = (putL (zerosL wd) (wd - (m + 1)) (digs u (m + 1))).map (Value.int .i64) by
        rw [show wd - m = j + 1 by omega, show wd - (m + 1) = j by omega, ← List.map_set, putL_front (by rw [digs_length, zerosL_length]; omega), digs_succ, ← hR.out]
        rfl)
      have hR2 := Lib.hid (show R / 10 = u / 10 ^ (m + 1) by rw [hR.out, Nat.div_div_eq_div_mul, Nat.pow_succ])
      clear hq hR
      go_wp2_with (go_at_call 171; ((with_reducible refine (spec_l02Bit _ _).mono ?_); rintro e w' ⟨rfl, rfl⟩))
      go_roundw
      case rel => exact ⟨m + 1, R / 10, (j : Int) - 1, by omega, by first | go_num | (congr 1; omega), rfl, by omega, hR2, by omega, by rw [← hset.out]; exact (hov.out.stored j _).1, hB.out.setCell (Nat.le_refl _) _⟩
      case measure => simp only [intOf]; omega
    · obtain rfl : m = wd := by omega
      have hzn : ¬ 0 ≤ z := by omega
      have hall := Lib.hid (show putL (zerosL m) (m - m) (digs u m) = digs u m by rw [Nat.sub_self]; exact putL_all (by rw [hdl.out, zerosL_length]))
      have hov2 := hov.out
      rw [hall.out] at hov2
      replace hov := Lib.hid hov2
      have hfit := Lib.hid (show decide (Lib.nDigits u ≤ m) = ((R : Int) == 0) by
        rw [hR.out]
        by_cases h0 : u / 10 ^ m = 0
        · rw [h0, decide_eq_true ((fits_digits hwp).1 h0)]; rfl
        · rw [decide_eq_false (fun h => h0 ((fits_digits hwp).2 h))]
          generalize u / 10 ^ m = Q at h0 ⊢
          symm; simp; omega)
      clear hov2 hR
      go_wp2_with fail
      go_ret2
      exact ⟨_, _, by rw [hfit.out]; rfl, hov.out, hB.out⟩
set_option maxHeartbeats 4000000 in
theorem spec_l03Put_neg (u wd v : Nat) (w : World) (hwv : wd = v + 1) (hw20 : wd ≤ 1048576) (hub : u ≤ 999999999999) (h0 : 0 < u) :
    Calls Tryz.prog 124 #[.int .i64 (-(u : Int)), .int .i64 wd] w fun e w' => ∃ a' c', e = .returned (.tuple #[.slice a' wd c', .bool (decide (Lib.nDigits u ≤ wd))]) ∧ w'.ownsRow w.heap.size 2 1 (.slice a' wd c') wd ((numL wd u true).map (Value.int .i64)) ∧ Below w.heap.size w w' := by
  obtain ⟨i0, hi, hz0, hz1, hz2⟩ := info_parts Tryz.info_int64
  have hm := Lib.hid (show wd ≤ maxLen by simp [maxLen]; omega)
  have hwv' := Lib.hid hwv
  have hwi : (wd : Int) - 1 = (v : Int) := by omega
  have hwp : 1 ≤ wd := by omega
  have hdl := Lib.hid (digs_length u wd)
  clear hwv
  go_enter Tryz.func124, Tryz.ntmps124
  go_wp2_with (at_make; refine wpList_make_full _ rfl _ _ 25 rfl w.heap.size 2 i0 (.int .i64 0) 1 Tryz.underlying25 hi hz0 hz1 _ _ _ _ wd rfl rfl rfl rfl (by rw [hz2]; omega) hm.out (by exact Nat.le_refl _) ?_; intro w1 hown hgrow)
  have hown0 := Lib.hid (show w1.ownsRow w.heap.size 2 1 (.slice (some ⟨w.heap.size, 0, none⟩) wd wd) wd ((putL (zerosL wd) (wd - 0) (digs u 0)).map (Value.int .i64)) by
    rw [digs_zero, putL_nil, zerosL_vals]
    simpa [Value.cells, toList_madeCells_one] using hown)
  have hb0 := Lib.hid (show Below w.heap.size w w1 from (Below.refl _ _).grown hgrow (Nat.le_refl _) (by simp))
  clear hown hgrow
  go_loopw [7, 8] (fun x q wr => ∃ (m R : Nat) (z : Int), m ≤ wd ∧ x = .int .i64 R ∧ q = .int .i64 z ∧ z + m + 1 = wd ∧ Hid (R = u / 10 ^ m) ∧ R ≤ 999999999999 ∧ wr.ownsRow w.heap.size 2 1 (.slice (some ⟨w.heap.size, 0, none⟩) wd wd) wd ((putL (zerosL wd) (wd - m) (digs u m)).map (Value.int .i64)) ∧ Below w.heap.size w wr) (fun _ q _ => (intOf q + 1).toNat)
  case atStart => exact ⟨0, u, _, by omega, rfl, rfl, by omega, Lib.hid (by simp), hub, hown0.out, hb0.out⟩
  case round =>
    obtain ⟨m, R, z, hmw, rfl, rfl, hz, hR, hRb, hov, hB⟩ := hrel
    replace hov := Lib.hid hov
    replace hB := Lib.hid hB
    by_cases hlt : m < wd
    · obtain ⟨j, rfl⟩ := Int.eq_ofNat_of_zero_le (show 0 ≤ z by omega)
      have hjn : j < wd := by omega
      have hjn' : (j : Int) < (wd : Int) := by omega
      obtain ⟨q, hq⟩ := putL_free (xs := zerosL wd) (l := digs u m) (f := j) (by rw [zerosL_length]; omega)
      have hcg : wr.cell? ⟨w.heap.size, j, none⟩ = some (.int .i64 q) := by rw [hov.out.cellAt j (by omega), show wd - m = j + 1 by omega]; exact map_at hq
      have hfg := hov.out.frozenAt j
      have hset := Lib.hid (show ((putL (zerosL wd) (wd - m) (digs u m)).map (Value.int .i64)).set j (.int .i64 (bitI ((R : Int) % 10))) = (putL (zerosL wd) (wd - (m + 1)) (digs u (m + 1))).map (Value.int .i64) by
        rw [show wd - m = j + 1 by omega, show wd - (m + 1) = j by omega, ← List.map_set, putL_front (by rw [digs_length, zerosL_length]; omega), digs_succ, ← hR.out]
        rfl)
      have hR2 := Lib.hid (show R / 10 = u / 10 ^ (m + 1) by rw [hR.out, Nat.div_div_eq_div_mul, Nat.pow_succ])
      clear hq hR
      go_wp2_with (go_at_call 171; ((with_reducible refine (spec_l02Bit _ _).mono ?_); rintro e w' ⟨rfl, rfl⟩))
      go_roundw
      case rel => exact ⟨m + 1, R / 10, (j : Int) - 1, by omega, by first | go_num | (congr 1; omega), rfl, by omega, hR2, by omega, by rw [← hset.out]; exact (hov.out.stored j _).1, hB.out.setCell (Nat.le_refl _) _⟩
      case measure => simp only [intOf]; omega
    · obtain rfl : m = wd := by omega
      have hzn : ¬ 0 ≤ z := by omega
      have hall := Lib.hid (show putL (zerosL m) (m - m) (digs u m) = digs u m by rw [Nat.sub_self]; exact putL_all (by rw [hdl.out, zerosL_length]))
      have hov2 := hov.out
      rw [hall.out] at hov2
      replace hov := Lib.hid hov2
      have hfit := Lib.hid (show decide (Lib.nDigits u ≤ m) = ((R : Int) == 0) by
        rw [hR.out]
        by_cases h0 : u / 10 ^ m = 0
        · rw [h0, decide_eq_true ((fits_digits hwp).1 h0)]; rfl
        · rw [decide_eq_false (fun h => h0 ((fits_digits hwp).2 h))]
          generalize u / 10 ^ m = Q at h0 ⊢
          symm; simp; omega)
      clear hov2 hR
      have hvm : v < m := by have := hwv'.out; omega
      have hvm' : (v : Int) < (m : Int) := by omega
      have hdl2 := Lib.hid (hdl.out.trans hwv'.out)
      have hcg : wr.cell? ⟨w.heap.size, v, none⟩ = some (.int .i64 ((digs u m).getD v 0)) := by rw [hov.out.cellAt v (by omega)]; exact map_at (last_at hdl2.out)
      have hfg := hov.out.frozenAt v
      have hfin := Lib.hid (show ((digs u m).map (Value.int .i64)).set v (.int .i64 (bits BinOp.or IntKind.i64 ((digs u m).getD v 0) 2)) = (numL m u true).map (Value.int .i64) by
        rw [← List.map_set]
        unfold numL signL
        rw [if_pos rfl, hdl2.out, Nat.add_sub_cancel])
      generalize (digs u m).getD v 0 = dl at *
      go_wp2_with fail
      go_ret2
      exact ⟨_, _, by rw [hfit.out]; rfl, by rw [← hfin.out]; exact (hov.out.stored v _).1, hB.out.setCell (Nat.le_refl _) _⟩
theorem spec_l03Put (n : Int) (wd : Nat) (w : World) (h1 : 1 ≤ wd) (h2 : wd ≤ 1048576) (hn0 : -999999999999 ≤ n) (hn1 : n ≤ 999999999999) :
    Calls Tryz.prog 124 #[.int .i64 n, .int .i64 wd] w fun e w' => ∃ a' c', e = .returned (.tuple #[.slice a' wd c', .bool (decide (Lib.nDigits n.natAbs ≤ wd))]) ∧ w'.ownsRow w.heap.size 2 1 (.slice a' wd c') wd ((numL wd n.natAbs (decide (n < 0))).map (Value.int .i64)) ∧ Below w.heap.size w w' := by
  by_cases h : 0 ≤ n
  · obtain ⟨u, rfl⟩ := Int.eq_ofNat_of_zero_le h
    have e : decide ((u : Int) < 0) = false := decide_eq_false (by omega)
    rw [e, Int.natAbs_natCast]
    exact spec_l03Put_pos u wd (wd - 1) w (by omega) h2 (by omega)
  · obtain ⟨u, hu⟩ := Int.eq_ofNat_of_zero_le (show 0 ≤ -n by omega)
    obtain rfl : n = -(u : Int) := by omega
    have e : decide (-(u : Int) < 0) = true := decide_eq_true (by omega)
    rw [e, Int.natAbs_neg, Int.natAbs_natCast]
    exact spec_l03Put_neg u wd (wd - 1) w (by omega) h2 (by omega) (by omega)
end Go.Proofs.YtcbjfgjlhjjpiaaGreatDoor
