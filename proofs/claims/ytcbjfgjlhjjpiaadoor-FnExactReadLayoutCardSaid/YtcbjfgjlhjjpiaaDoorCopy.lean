/- The walks of the functions that copy columns and cards into memory of their own. -/
import Derived.Test.YtcbjfgjlhjjpiaaDoorCrd
import Derived.Laws.AppendOwnNone
namespace Go.Proofs.YtcbjfgjlhjjpiaaDoor
open Go.RowKit
set_option maxRecDepth 100000
set_option linter.unusedVariables false
set_option linter.unusedSimpArgs false
set_option linter.unnecessarySimpa false

set_option maxHeartbeats 400000 in
theorem impl_copyInts (a : Option Addr) (c : Nat) (xs : List Int) (w : World) (hx : RI w a xs) (hn : xs.length ≤ 1048576) :
    Calls Tryd.prog 75 #[.slice a xs.length c] w fun e w' => ∃ a' c', e = .returned (.slice a' xs.length c') ∧ w'.ownsRow w.heap.size 2 1 (.slice a' xs.length c') xs.length (xs.map (Value.int .i64)) ∧ Below w.heap.size w w' := by
  obtain ⟨i0, hi, hz0, hz1, hz2⟩ := info_parts Tryd.info_int64
  have hb1 := below_alloc (w := w) (.cells #[] 2)
  have hown0 := World.ownsRow_lit (base := w.heap.size) (e := 2) (size := 1) w #[] 0 (Nat.le_refl _) (by simp [maxLen]) rfl
  cases a with
  | none =>
    obtain rfl := hx.none
    go_enter Tryd.func75, Tryd.ntmps75
    go_wp2_with fail
    go_ret
    exact ⟨_, _, rfl, hown0, hb1⟩
  | some ad =>
    have hnews := Lib.hid (Row.add (hx.kept hb1))
    have hm := Lib.hid (small hn)
    go_enter Tryd.func75, Tryd.ntmps75
    go_wp2_with (at_builtin; refine wpList_append_own _ rfl _ _ 26 rfl w.heap.size 2 i0 (.int .i64 0) 1 8 Tryd.underlying26 hi hz0 hz1 hz2 rfl (by decide) _ 0 [] rfl hown0 ad xs.length c (xs.map (Value.int .i64)) rfl (by simp) hnews.out (ints_one xs) (by rw [Nat.zero_add]; exact hm.out) (by omega) (by simp) ?_; intro v' w2 hown2 hgrow2 _; obtain ⟨a2, c2, hv2, _, _⟩ := own_slice hown2; subst hv2; have hown3 := Lib.hid hown2; have hgrow3 := Lib.hid hgrow2; clear hown2 hgrow2)
    go_ret
    refine ⟨a2, c2, ?_, ?_, ?_⟩
    · simp
    · simpa using hown3.out
    · exact hb1.grown hgrow3.out (by simp) (fun k hk => by cases hk; exact Nat.le_refl _)
set_option maxHeartbeats 400000 in
theorem impl_newCard (a : Option Addr) (c : Nat) (xs : List Int) (w : World) (hx : RI w a xs) (hn : xs.length ≤ 1048576) :
    Calls Tryd.prog 73 #[.agg #[.slice a xs.length c]] w fun e w' => ∃ a' c', e = .returned (.agg #[.slice a' xs.length c']) ∧ w'.ownsRow w.heap.size 2 1 (.slice a' xs.length c') xs.length (xs.map (Value.int .i64)) ∧ Below w.heap.size w w' := by
  have hb2 := Lib.hid (below_alloc2 w (.cells #[.slice a xs.length c] 28) (.cells #[.slice none 0 0] 28))
  go_enter Tryd.func73, Tryd.ntmps73
  go_wp2_with fail
  refine (impl_copyInts a c xs _ (hx.kept hb2.out) hn).mono ?_
  rintro e w1 ⟨a1, c1, rfl, hown, hb1⟩
  (have hc0 := keep (p := ⟨w.heap.size + 1, 0, none⟩) (v := .slice none 0 0) hb1 (by simp [go_sem, *]); have hf0 := keepf (p := ⟨w.heap.size + 1, 0, none⟩) (v := .slice none 0 0) hb1 (by simp [go_sem, *]) (by simp [go_sem, *]); have hl0 := World.block_lt_of_cell? _ _ hc0)
  have hown' := Lib.hid hown
  have hb1' := Lib.hid (bthen hb2.out hb1)
  clear hown hb1
  go_wp2_with fail
  refine bodyPost_ret (v := .agg #[.slice a1 xs.length c1]) (by simp [results, Tryd.results73, go_sem, hc0]) rfl ⟨a1, c1, rfl, ?_, ?_⟩
  · exact own_mono (B' := w.heap.size + 1 + 1) (ownsRow_setCell_below (by simpa using hown'.out) (by simp) _) (by omega)
  · exact hb1'.out.setCell (by simp) _
end Go.Proofs.YtcbjfgjlhjjpiaaDoor
