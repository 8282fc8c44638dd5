/- The walks of the functions that mark rows and ask for their marks: what each returns and which rows it writes. -/
import Derived.Test.YtcbjfgjlhjjpiaaGreatDoorSame
namespace Go.Proofs.YtcbjfgjlhjjpiaaGreatDoor
open Go.RowKit
set_option maxRecDepth 100000
set_option linter.unusedVariables false
set_option linter.unusedSimpArgs false
set_option linter.unnecessarySimpa false

set_option maxHeartbeats 400000 in
theorem laws_markInt64S' (lo hi : Nat) (a : Option Addr) (c : Nat) (xs : List Int) (k : Int) (w : World) (h : OI lo hi w 2 a c xs) (h0 : 0 ≤ k) (h1 : k ≤ 16777216) (hn : xs.length ≤ 1048576) :
    Calls Tryz.prog 75 #[.slice a xs.length c, .int .i64 k] w fun e w' => e = .returned (.int .i64 (k + xs.length)) ∧ Within lo hi w w' ∧ OI lo hi w' 2 a c (marksL k xs.length) := by
  generalize hN : xs.length = n at *
  have hN' := Lib.hid hN
  clear hN
  have h' : OV lo hi w 2 1 a n c ((markUp k xs 0).map (Value.int .i64)) := by rw [markUp_zero, ← hN'.out]; exact h
  go_enter Tryz.func75, Tryz.ntmps75
  go_wp2_with fail
  go_loopw [1, 5] (fun q i wr => ∃ j : Nat, j ≤ n ∧ i = .int .i64 j ∧ q = .int .i64 (k + j) ∧ OV lo hi wr 2 1 a n c ((markUp k xs j).map (Value.int .i64)) ∧ Within lo hi w wr) (fun _ i _ => n - (intOf i).toNat)
  case atStart => exact ⟨0, by omega, rfl, by simp, h', Within.refl _ _ _⟩
  case round =>
    obtain ⟨j, hj, rfl, rfl, ho, hw⟩ := hrel
    by_cases hlt : j < n
    · obtain ⟨g, rfl, hg1, hg2⟩ := ho.addr (by omega)
      obtain ⟨x, hx⟩ := markUp_at k xs (j := j) (by rw [hN'.out]; exact hlt)
      have hc2 := (ho.1.cellAt j (by omega)).trans hx
      have hf2 := ho.1.frozenAt j
      have hx' := Lib.hid hx
      clear hx
      go_wp2_with fail
      all_goals
        go_roundw
        case rel => exact ⟨j + 1, by omega, by go_num, by go_num, by rw [← markUp_set _ _ (by rw [hN'.out]; exact hlt)]; exact ho.store j _, hw.setCell hg1 hg2 _⟩
        case measure => simp [intOf]; omega
    · go_wp2_with fail
      go_ret
      have e : j = n := by omega
      subst e
      exact ⟨rfl, hw, by rw [markUp_all _ _ hN'.out.symm, hN'.out] at ho; unfold OI; rw [marksL_length]; exact ho⟩
theorem laws_markInt64S (lo hi : Nat) (a : Option Addr) (c : Nat) (xs : List Int) (k : Int) (w : World) (h : OI lo hi w 2 a c xs) (h0 : 0 ≤ k) (h1 : k ≤ 16777216) (hn : xs.length ≤ 1048576) (hhi : hi ≤ w.heap.size) :
    Calls Tryz.prog 75 #[.slice a xs.length c, .int .i64 k] w fun e w' => e = .returned (.int .i64 (k + xs.length)) ∧ Within lo hi w w' ∧ OI lo hi w' 2 a c (marksL k xs.length) := laws_markInt64S' lo hi a c xs k w h h0 h1 hn
theorem laws_eqInt64S_same (a b : Option Addr) (ca cb : Nat) (xs : List Int) (w : World) (hx : RI w a xs) (hy : RI w b xs) (h1 : xs.length ≤ maxLen) :
    Calls Tryz.prog 72 #[.slice a xs.length ca, .slice b xs.length cb] w fun e w' => e = .returned (.bool true) ∧ Below w.heap.size w w' :=
  (laws_eqInt64S a b ca cb xs xs w hx hy h1 h1).mono fun e w' h => ⟨by rw [h.1, eqB_refl], h.2⟩
set_option maxHeartbeats 400000 in
theorem laws_heldInt64S (a : Option Addr) (c n : Nat) (k : Int) (w : World) (hx : RI w a (marksL k n)) (h0 : 0 ≤ k) (h1 : k ≤ 16777216) (hn : n ≤ 1048576) :
    Calls Tryz.prog 76 #[.slice a n c, .int .i64 k] w fun e w' => e = .returned (.int .i64 (k + n)) ∧ Below w.heap.size w w' := by
  go_enter Tryz.func76, Tryz.ntmps76
  go_wp2_with fail
  go_loopw [1, 5] (fun q i wr => ∃ j : Nat, j ≤ n ∧ i = .int .i64 j ∧ q = .int .i64 (k + j) ∧ Below w.heap.size w wr) (fun _ i _ => n - (intOf i).toNat)
  case atStart => exact ⟨0, by omega, rfl, by simp, Below.refl _ _⟩
  case round =>
    obtain ⟨j, hj, rfl, rfl, hb⟩ := hrel
    by_cases hlt : j < n
    · obtain ⟨b1, o1, rfl, hc1⟩ := (hx.kept hb).at (marksL_at k hlt)
      go_wp2_with fail
      all_goals
        go_roundw
        case rel => exact ⟨j + 1, by omega, by go_num, by go_num, hb⟩
        case measure => simp [intOf]; omega
    · go_wp2_with fail
      go_ret
      have e : j = n := by omega
      subst e
      exact ⟨rfl, hb⟩
theorem laws_markCard (lo hi : Nat) (a : Option Addr) (c : Nat) (xs : List Int) (k : Int) (w : World) (h : OI lo hi w 2 a c xs) (h0 : 0 ≤ k) (h1 : k ≤ 16777216) (hn : xs.length ≤ 1048576) (hhi : hi ≤ w.heap.size) :
    Calls Tryz.prog 16 #[.agg #[.slice a xs.length c], .int .i64 k] w fun e w' => e = .returned (.int .i64 (k + xs.length)) ∧ Within lo hi w w' ∧ OI lo hi w' 2 a c (marksL k xs.length) := by
  have hb1 := Lib.hid (below_alloc (w := w) (.cells #[.slice a xs.length c] 30))
  go_enter Tryz.func16, Tryz.ntmps16
  go_wp2_with (go_at_call 75; ((with_reducible refine (laws_markInt64S' lo hi _ _ _ _ _ (h.kept hb1.out) h0 h1 hn).mono ?_); rintro e w' ⟨rfl, hw, ho⟩))
  go_ret
  exact ⟨rfl, (Within.of_below hb1.out).trans hw, ho⟩
theorem laws_heldCard (a : Option Addr) (c n : Nat) (k : Int) (w : World) (hx : RI w a (marksL k n)) (h0 : 0 ≤ k) (h1 : k ≤ 16777216) (hn : n ≤ 1048576) :
    Calls Tryz.prog 17 #[.agg #[.slice a n c], .int .i64 k] w fun e w' => e = .returned (.int .i64 (k + n)) ∧ Below w.heap.size w w' := by
  have hb1 := Lib.hid (below_alloc (w := w) (.cells #[.slice a n c] 30))
  go_enter Tryz.func17, Tryz.ntmps17
  go_wp2_with (go_at_call 76; ((with_reducible refine (laws_heldInt64S _ _ _ _ _ (hx.kept hb1.out) h0 h1 hn).mono ?_); rintro e w' ⟨rfl, hb⟩))
  go_ret
  exact ⟨rfl, bthen hb1.out hb⟩

end Go.Proofs.YtcbjfgjlhjjpiaaGreatDoor
