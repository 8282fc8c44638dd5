/- The walks of the functions that copy columns and cards into memory of their own. -/
import Derived.Test.YtoeohebobmkobaaCards
import Derived.Laws.AppendOwnNone
namespace Go.Proofs.Ytoeohebobmkobaa
open Go.RowKit
set_option maxRecDepth 100000
set_option linter.unusedVariables false
set_option linter.unusedSimpArgs false
set_option linter.unnecessarySimpa false

set_option maxHeartbeats 400000 in
theorem impl_copyInts (a : Option Addr) (c : Nat) (xs : List Int) (w : World) (hx : RI w a xs) (hn : xs.length ≤ 1048576) :
    Calls Try.prog 88 #[.slice a xs.length c] w fun e w' => ∃ a' c', e = .returned (.slice a' xs.length c') ∧ w'.ownsRow w.heap.size 2 1 (.slice a' xs.length c') xs.length (xs.map (Value.int .i64)) ∧ Below w.heap.size w w' := by
  obtain ⟨i0, hi, hz0, hz1, hz2⟩ := info_parts Try.info_int64
  have hb1 := below_alloc (w := w) (.cells #[] 2)
  have hown0 := World.ownsRow_lit (base := w.heap.size) (e := 2) (size := 1) w #[] 0 (Nat.le_refl _) (by simp [maxLen]) rfl
  cases a with
  | none =>
    obtain rfl := hx.none
    go_enter Try.func88, Try.ntmps88
    go_wp2_with fail
    go_ret
    exact ⟨_, _, rfl, hown0, hb1⟩
  | some ad =>
    have hnews := Lib.hid (Row.add (hx.kept hb1))
    have hm := Lib.hid (small hn)
    go_enter Try.func88, Try.ntmps88
    go_wp2_with (at_builtin; refine wpList_append_own _ rfl _ _ 22 rfl w.heap.size 2 i0 (.int .i64 0) 1 8 Try.underlying22 hi hz0 hz1 hz2 rfl (by decide) _ 0 [] rfl hown0 ad xs.length c (xs.map (Value.int .i64)) rfl (by simp) hnews.out (ints_one xs) (by rw [Nat.zero_add]; exact hm.out) (by omega) (by simp) ?_; intro v' w2 hown2 hgrow2 _; obtain ⟨a2, c2, hv2, _, _⟩ := own_slice hown2; subst hv2; have hown3 := Lib.hid hown2; have hgrow3 := Lib.hid hgrow2; clear hown2 hgrow2)
    go_ret
    refine ⟨a2, c2, ?_, ?_, ?_⟩
    · simp
    · simpa using hown3.out
    · exact hb1.grown hgrow3.out (by simp) (fun k hk => by cases hk; exact Nat.le_refl _)
end Go.Proofs.Ytoeohebobmkobaa
