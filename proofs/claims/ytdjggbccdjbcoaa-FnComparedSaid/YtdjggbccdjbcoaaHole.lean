/- The walks of the functions on single holes: what each returns, and that memory has at most new blocks. -/
import Derived.Test.YtdjggbccdjbcoaaCopy
import Derived.Test.YtdjggbccdjbcoaaRanks
import Derived.Deep.RegionWith
namespace Go.Proofs.Ytdjggbccdjbcoaa
open Go.RowKit
set_option maxRecDepth 100000
set_option linter.unusedVariables false
set_option linter.unusedSimpArgs false
set_option linter.unnecessarySimpa false

/-- the code of a card, a column and a row -/
def holeI (xs : List Int) (col row : Int) : Int := if validCardL xs then (if inB col 0 ((xs.length : Int) - 1) && !(bitI row == 0) then 0 else 2) else 1
theorem holeI_bad {xs : List Int} {col row : Int} (h : validCardL xs = false) : holeI xs col row = 1 := by unfold holeI; rw [h]; rfl
theorem holeI_range {xs : List Int} {col row : Int} (h : validCardL xs = true) (h2 : inB col 0 ((xs.length : Int) - 1) = false) : holeI xs col row = 2 := by unfold holeI; rw [h, h2]; rfl
theorem holeI_row {xs : List Int} {col row : Int} (h : validCardL xs = true) (h2 : (bitI row == 0) = true) : holeI xs col row = 2 := by unfold holeI; rw [h, h2]; simp
theorem holeI_ok {xs : List Int} {col row : Int} (h : validCardL xs = true) (h2 : inB col 0 ((xs.length : Int) - 1) = true) (h3 : (bitI row == 0) = false) : holeI xs col row = 0 := by unfold holeI; rw [h, h2, h3]; rfl
theorem holeI_zero {xs : List Int} {col row : Int} (h : holeI xs col row = 0) : validCardL xs = true ∧ inB col 0 ((xs.length : Int) - 1) = true ∧ (bitI row == 0) = false := by
  cases h1 : validCardL xs
  · rw [holeI_bad h1] at h; cases h
  · cases h2 : inB col 0 ((xs.length : Int) - 1)
    · rw [holeI_range h1 h2] at h; cases h
    · cases h3 : (bitI row == 0)
      · exact ⟨rfl, rfl, rfl⟩
      · rw [holeI_row h1 h3] at h; cases h

set_option maxHeartbeats 400000 in
theorem impl_holeCode (a : Option Addr) (c : Nat) (xs : List Int) (col row : Int) (w : World) (hx : RI w a xs) (hn : xs.length ≤ maxLen) :
    Calls Try.prog 87 #[.agg #[.slice a xs.length c], .int .i64 col, .int .i64 row] w fun e w' => e = .returned (.int .i64 (holeI xs col row)) ∧ Below w.heap.size w w' := by
  have hb1 := Lib.hid (below_alloc (w := w) (.cells #[.slice a xs.length c] 48))
  have hm : xs.length ≤ 9223372036854775807 := by simpa [maxLen] using hn
  cases hv : validCardL xs
  · have hf := Lib.hid (holeI_bad (col := col) (row := row) hv)
    go_enter Try.func87, Try.ntmps87
    go_wp2_with (go_at_call 81; ((with_reducible refine (impl_ValidCard a c xs _ (hx.kept hb1.out) hn).mono ?_); rintro e w' ⟨rfl, hb⟩))
    go_ret
    exact ⟨ret_int (by rw [hf.out]), bthen hb1.out hb⟩
  · go_enter Try.func87, Try.ntmps87
    go_wp2_with fail
    refine (impl_ValidCard a c xs _ (hx.kept hb1.out) hn).mono ?_
    rintro e w2 ⟨rfl, hb⟩
    (have hc0 := keep (p := ⟨w.heap.size, 0, none⟩) (v := .slice a xs.length c) hb (by simp [go_sem, *]); have hf0 := keepf (p := ⟨w.heap.size, 0, none⟩) (v := .slice a xs.length c) hb (by simp [go_sem, *]) (by simp [go_sem, *]); have hl0 := World.block_lt_of_cell? _ _ hc0)
    have hb2 := Lib.hid (bthen hb1.out hb)
    clear hb
    go_wp2_with (first | (go_at_call 91; ((with_reducible refine (impl_columns _ _ _ _).mono ?_); rintro e w' ⟨rfl, hb⟩)) | (go_at_call 78; ((with_reducible refine (impl_inside _ _ _ _).mono ?_); rintro e w' ⟨rfl, rfl⟩)) | (go_at_call 72; ((with_reducible refine (impl_bitOf _ _).mono ?_); rintro e w' ⟨rfl, rfl⟩)))
    all_goals first
      | (go_ret; exact ⟨ret_int (by rw [holeI_row hv (by assumption)]), bthen hb2.out hb⟩)
      | (go_ret; exact ⟨ret_int (by rw [holeI_ok hv (by assumption) (by assumption)]), bthen hb2.out hb⟩)
      | (go_ret; exact ⟨ret_int (by rw [holeI_range hv (by simp_all)]), bthen hb2.out hb⟩)
/-- is there a hole? -/
def hasI (xs : List Int) (col row : Int) : Bool := andI (xs.getD col.toNat 0) (bitI row) != 0
def hasHoleB (xs : List Int) (col row : Int) : Bool := if holeI xs col row == 0 then hasI xs col row else false
theorem hasHole_no {xs : List Int} {col row : Int} (h : (holeI xs col row == 0) = false) : hasHoleB xs col row = false := by unfold hasHoleB; rw [h]; rfl
theorem hasHole_yes {xs : List Int} {col row : Int} {k : Nat} {x : Int} (h : holeI xs col row = 0) (hc : col = k) (hx : xs[k]? = some x) : hasHoleB xs col row = (bits BinOp.and IntKind.i64 x (bitI row) != 0) := by
  unfold hasHoleB hasI; rw [h, hc]; simp [List.getD_eq_getElem?_getD, hx, andI]
set_option maxHeartbeats 400000 in
theorem impl_HasHole (a : Option Addr) (c : Nat) (xs : List Int) (col row : Int) (w : World) (hx : RI w a xs) (hn : xs.length ≤ maxLen) :
    Calls Try.prog 34 #[.agg #[.slice a xs.length c], .int .i64 col, .int .i64 row] w fun e w' => e = .returned (.tuple #[.bool (hasHoleB xs col row), .int .i64 (holeI xs col row)]) ∧ Below w.heap.size w w' := by
  have hb1 := Lib.hid (below_alloc (w := w) (.cells #[.slice a xs.length c] 48))
  cases hz : (holeI xs col row == 0)
  · have hf := Lib.hid (hasHole_no hz)
    have hz2 : (holeI xs col row != 0) = true := by rw [bne, hz]; rfl
    go_enter Try.func34, Try.ntmps34
    go_wp2_with (go_at_call 87; ((with_reducible refine (impl_holeCode a c xs _ _ _ (hx.kept hb1.out) hn).mono ?_); rintro e w' ⟨rfl, hb⟩))
    go_ret2
    exact ⟨by rw [hf.out]; rfl, bthen hb1.out hb⟩
  · have hz1 : holeI xs col row = 0 := by simpa using hz
    obtain ⟨hv, hi, hr⟩ := holeI_zero hz1
    have hi' := inB_true.1 hi
    obtain ⟨k, hk⟩ := Int.eq_ofNat_of_zero_le hi'.1
    have hlt : k < xs.length := by omega
    obtain ⟨x, hxk⟩ := get_some hlt
    have hf := Lib.hid (hasHole_yes hz1 hk hxk)
    have hz' := Lib.hid hz1
    subst hk
    clear hz hz1 hv hi hr hi'
    go_enter Try.func34, Try.ntmps34
    go_wp2_with fail
    refine (impl_holeCode a c xs _ _ _ (hx.kept hb1.out) hn).mono ?_
    rintro e w2 ⟨rfl, hb⟩
    (have hc0 := keep (p := ⟨w.heap.size, 0, none⟩) (v := .slice a xs.length c) hb (by simp [go_sem, *]); have hf0 := keepf (p := ⟨w.heap.size, 0, none⟩) (v := .slice a xs.length c) hb (by simp [go_sem, *]) (by simp [go_sem, *]); have hl0 := World.block_lt_of_cell? _ _ hc0)
    have hb2 := Lib.hid (bthen hb1.out hb)
    clear hb
    obtain ⟨b1, o1, rfl, hc1⟩ := (hx.kept hb2.out).at hxk
    have hxk' := Lib.hid hxk
    clear hxk
    rw [hz'.out]
    go_wp2_with fail
    go_quiet ((go_at_call 72; exact Calls.quiet_of_same ((impl_bitOf _ _).mono fun _ _ h => ⟨h.1, h.2.symm⟩)))
    go_wp2_with fail
    go_ret2
    exact ⟨by rw [hf.out, hz'.out]; rfl, below_drewN hb2.out _⟩
/-- a card with a hole more -/
def punchI (xs : List Int) (col row : Int) : List Int := xs.set col.toNat (orI (xs.getD col.toNat 0) (bitI row))
def punchHoleCode (xs : List Int) (col row : Int) : Int := if holeI xs col row == 0 then (if hasI xs col row then 4 else 0) else holeI xs col row
def punchHoleL (xs : List Int) (col row : Int) : List Int := if punchHoleCode xs col row == 0 then punchI xs col row else []
theorem punchHole_bad {xs : List Int} {col row : Int} (h : (holeI xs col row == 0) = false) : punchHoleCode xs col row = holeI xs col row ∧ punchHoleL xs col row = [] := by
  have h1 : punchHoleCode xs col row = holeI xs col row := by unfold punchHoleCode; rw [h]; rfl
  exact ⟨h1, by unfold punchHoleL; rw [h1, h]; rfl⟩
theorem punchHole_has {xs : List Int} {col row : Int} {k : Nat} {x : Int} (h : holeI xs col row = 0) (hc : col = k) (hx : xs[k]? = some x) (hh : (bits BinOp.and IntKind.i64 x (bitI row) != 0) = true) : punchHoleCode xs col row = 4 ∧ punchHoleL xs col row = [] := by
  have h0 : hasI xs col row = true := by unfold hasI; rw [hc]; simpa [List.getD_eq_getElem?_getD, hx, andI] using hh
  have h1 : punchHoleCode xs col row = 4 := by unfold punchHoleCode; rw [h, h0]; rfl
  exact ⟨h1, by unfold punchHoleL; rw [h1]; rfl⟩
theorem punchHole_ok {xs : List Int} {col row : Int} {k : Nat} {x : Int} (h : holeI xs col row = 0) (hc : col = k) (hx : xs[k]? = some x) (hh : (bits BinOp.and IntKind.i64 x (bitI row) != 0) = false) : punchHoleCode xs col row = 0 ∧ punchHoleL xs col row = xs.set k (bits BinOp.or IntKind.i64 x (bitI row)) := by
  have h0 : hasI xs col row = false := by unfold hasI; rw [hc]; simpa [List.getD_eq_getElem?_getD, hx, andI] using hh
  have h1 : punchHoleCode xs col row = 0 := by unfold punchHoleCode; rw [h, h0]; rfl
  exact ⟨h1, by unfold punchHoleL punchI; rw [h1, hc]; simp [List.getD_eq_getElem?_getD, hx, orI]⟩
theorem punchHoleL_len (xs : List Int) (col row : Int) (h : xs.length ≤ 1048576) : (punchHoleL xs col row).length ≤ 1048576 := by
  unfold punchHoleL punchI; split
  · simpa using h
  · simp
set_option maxHeartbeats 800000 in
theorem impl_PunchHole (a : Option Addr) (c : Nat) (xs : List Int) (col row : Int) (w : World) (hx : RI w a xs) (hn : xs.length ≤ maxLen) :
    Calls Try.prog 35 #[.agg #[.slice a xs.length c], .int .i64 col, .int .i64 row] w fun e w' => ∃ a' c', e = .returned (.tuple #[.agg #[.slice a' (punchHoleL xs col row).length c'], .int .i64 (punchHoleCode xs col row)]) ∧ w'.ownsRow w.heap.size 2 1 (.slice a' (punchHoleL xs col row).length c') (punchHoleL xs col row).length ((punchHoleL xs col row).map (Value.int .i64)) ∧ Below w.heap.size w w' := by
  have hb1 := Lib.hid (below_alloc2 w (.cells #[.slice a xs.length c] 48) (.cells #[.slice none 0 0] 48))
  cases hz : (holeI xs col row == 0)
  · have hf := Lib.hid (punchHole_bad hz)
    have hz2 : (holeI xs col row != 0) = true := by rw [bne, hz]; rfl
    go_enter Try.func35, Try.ntmps35
    go_wp2_with (go_at_call 87; ((with_reducible refine (impl_holeCode a c xs _ _ _ (hx.kept hb1.out) hn).mono ?_); rintro e w' ⟨rfl, hb⟩; (have hc0 := keep (p := ⟨w.heap.size + 1, 0, none⟩) (v := .slice none 0 0) hb (by simp [go_sem, *]); have hf0 := keepf (p := ⟨w.heap.size + 1, 0, none⟩) (v := .slice none 0 0) hb (by simp [go_sem, *]) (by simp [go_sem, *]); have hl0 := World.block_lt_of_cell? _ _ hc0)))
    refine bodyPost_ret (v := .tuple #[.agg #[.slice none 0 0], .int .i64 (holeI xs col row)]) (by simp [results, Try.results35, go_sem, hc0]) rfl ⟨none, 0, by rw [hf.out.1, hf.out.2]; rfl, by rw [hf.out.2]; exact World.ownsRow_nil _ _ _ _, ?_⟩
    exact (bthen hb1.out hb).setCell (by simp) _
  · have hz1 : holeI xs col row = 0 := by simpa using hz
    obtain ⟨hv, hi, hr⟩ := holeI_zero hz1
    have hs : xs.length ≤ 1048576 := by have := validCard_len hv; omega
    have hi' := inB_true.1 hi
    obtain ⟨k, hk⟩ := Int.eq_ofNat_of_zero_le hi'.1
    have hlt : k < xs.length := by omega
    obtain ⟨x, hxk⟩ := get_some hlt
    have hz' := Lib.hid hz1
    subst hk
    clear hz hz1 hv hi hr hi'
    cases hh : (bits BinOp.and IntKind.i64 x (bitI row) != 0)
    · have hf := Lib.hid (punchHole_ok hz'.out rfl hxk hh)
      go_enter Try.func35, Try.ntmps35
      go_wp2_with fail
      refine (impl_holeCode a c xs _ _ _ (hx.kept hb1.out) hn).mono ?_
      rintro e w2 ⟨rfl, hb⟩
      (have hc0 := keep (p := ⟨w.heap.size, 0, none⟩) (v := .slice a xs.length c) hb (by simp [go_sem, *]); have hf0 := keepf (p := ⟨w.heap.size, 0, none⟩) (v := .slice a xs.length c) hb (by simp [go_sem, *]) (by simp [go_sem, *]); have hl0 := World.block_lt_of_cell? _ _ hc0; have hc1 := keep (p := ⟨w.heap.size + 1, 0, none⟩) (v := .slice none 0 0) hb (by simp [go_sem, *]); have hf1 := keepf (p := ⟨w.heap.size + 1, 0, none⟩) (v := .slice none 0 0) hb (by simp [go_sem, *]) (by simp [go_sem, *]); have hl1 := World.block_lt_of_cell? _ _ hc1)
      have hb2 := Lib.hid (bthen hb1.out hb)
      clear hb
      obtain ⟨b1, o1, rfl, hcx⟩ := (hx.kept hb2.out).at hxk
      have hxk' := Lib.hid hxk
      clear hxk
      rw [hz'.out]
      go_wp2_with fail
      go_quiet ((go_at_call 72; exact Calls.quiet_of_same ((impl_bitOf _ _).mono fun _ _ h => ⟨h.1, h.2.symm⟩)))
      go_wp2_with fail
      refine (impl_newCard _ c xs _ (hx.kept (below_drewN hb2.out nq)) hs).mono ?_
      rintro e w4 ⟨a4, c4, rfl, hown, hb4⟩
      have hr1 : w4.cell? ⟨w.heap.size + 1, 0, none⟩ = some (.slice none 0 0) := keep hb4 (by simpa [go_sem] using hc1)
      have hr2 : w4.frozen? ⟨w.heap.size + 1, 0, none⟩ = false := keepf (v := .slice none 0 0) hb4 (by simpa [go_sem] using hc1) (by simpa [go_sem] using hf1)
      have hr3 := World.block_lt_of_cell? _ _ hr1
      have hb5 := Lib.hid (bthen (below_drewN hb2.out nq) hb4)
      obtain ⟨g, rfl, hg1, hg2⟩ := (OI.of hown).addr (by omega)
      have hcg := (hown.cellAt k (by omega)).trans (map_at hxk'.out)
      have hfg := hown.frozenAt k
      have hg3 : g < w4.heap.size := (hown.lt _ rfl).2
      have hB1 : w.heap.size + 1 < (w2.drewN nq).heap.size := by simpa using World.block_lt_of_cell? _ _ hc1
      have hB2 : w.heap.size ≤ (w2.drewN nq).heap.size := by omega
      have hg1' : w.heap.size + 2 ≤ g := Nat.le_trans hB1 hg1
      have hg4 : ¬ g = w.heap.size + 1 := by omega
      have hg5 : ¬ w.heap.size + 1 = g := by omega
      have hown' := Lib.hid hown
      clear hown hb4
      go_wp2_with fail
      go_region_with (go_at_call 72; refine (impl_bitOf _ _).mono ?_; rintro e w' ⟨rfl, rfl⟩)
      all_goals go_wp2_with fail
      all_goals refine bodyPost_ret (v := .tuple #[.agg #[.slice (some ⟨g, 0, none⟩) xs.length c4], .int .i64 0]) (by simp [results, Try.results35, go_sem, hr1, hr2, hr3, hg4, hg5]) rfl ⟨some ⟨g, 0, none⟩, c4, by rw [hf.out.1, hf.out.2, List.length_set], ?_, below_drewN (bthen ((hb5.out.setCell (Nat.le_trans (Nat.le_add_right _ 2) hg1') _).setCell (by simp) _) (below_alloc _)) _⟩
      all_goals rw [hf.out.2, List.length_set, List.map_set]
      all_goals exact (((OV.of (own_mono (ownsRow_setCell_below (hown'.out.stored k _).1 (by exact hB1) _) hB2)).kept (below_alloc _)).kept (below_drewN (Below.refl _ _) _)).1
    · have hf := Lib.hid (punchHole_has hz'.out rfl hxk hh)
      go_enter Try.func35, Try.ntmps35
      go_wp2_with fail
      refine (impl_holeCode a c xs _ _ _ (hx.kept hb1.out) hn).mono ?_
      rintro e w2 ⟨rfl, hb⟩
      (have hc0 := keep (p := ⟨w.heap.size, 0, none⟩) (v := .slice a xs.length c) hb (by simp [go_sem, *]); have hf0 := keepf (p := ⟨w.heap.size, 0, none⟩) (v := .slice a xs.length c) hb (by simp [go_sem, *]) (by simp [go_sem, *]); have hl0 := World.block_lt_of_cell? _ _ hc0; have hc1 := keep (p := ⟨w.heap.size + 1, 0, none⟩) (v := .slice none 0 0) hb (by simp [go_sem, *]); have hf1 := keepf (p := ⟨w.heap.size + 1, 0, none⟩) (v := .slice none 0 0) hb (by simp [go_sem, *]) (by simp [go_sem, *]); have hl1 := World.block_lt_of_cell? _ _ hc1)
      have hb2 := Lib.hid (bthen hb1.out hb)
      clear hb
      obtain ⟨b1, o1, rfl, hcx⟩ := (hx.kept hb2.out).at hxk
      have hxk' := Lib.hid hxk
      clear hxk
      rw [hz'.out]
      go_wp2_with fail
      go_quiet ((go_at_call 72; exact Calls.quiet_of_same ((impl_bitOf _ _).mono fun _ _ h => ⟨h.1, h.2.symm⟩)))
      go_wp2_with fail
      refine bodyPost_ret (v := .tuple #[.agg #[.slice none 0 0], .int .i64 4]) (by simp [results, Try.results35, go_sem, *]) rfl ⟨none, 0, by rw [hf.out.1, hf.out.2]; rfl, by rw [hf.out.2]; exact World.ownsRow_nil _ _ _ _, ?_⟩
      first | exact below_drewN hb2.out _ | exact (below_drewN hb2.out nq).setCell (by simp) _
end Go.Proofs.Ytdjggbccdjbcoaa
