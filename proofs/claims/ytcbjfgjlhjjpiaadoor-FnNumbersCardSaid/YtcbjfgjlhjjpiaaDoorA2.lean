/- The walks of the small functions that the laws share: what each returns. -/
import Derived.Test.YtcbjfgjlhjjpiaaDoorSrc
import Derived.Test.YtcbjfgjlhjjpiaaDoorCrd
import Derived.Test.YtcbjfgjlhjjpiaaDoorApp
import Derived.IntWalk
namespace Go.Proofs.YtcbjfgjlhjjpiaaDoor
open Go.RowKit
set_option maxRecDepth 100000
set_option linter.unusedVariables false
set_option linter.unusedSimpArgs false
set_option linter.unnecessarySimpa false

theorem laws_a2Long_yes (a : Option Addr) (c n : Nat) (b : Option Addr) (d m : Nat) (w : World) (hn : n ≤ maxLen) (hm : m ≤ maxLen) (h : 3000 < n ∨ 3000 < m) :
    Calls Tryd.prog 10 #[.slice a n c, .slice b m d] w fun e w' => e = .returned (.bool true) ∧ w = w' := by
  unfold maxLen at hn hm
  by_cases h1 : 3000 < n
  · go_enter Tryd.func10, Tryd.ntmps10
    go_wp2
    all_goals go_ret
    all_goals exact ⟨ret_bool (by first | (simp; done) | (simp; omega)), rfl⟩
  · have h2 : 3000 < m := by omega
    go_enter Tryd.func10, Tryd.ntmps10
    go_wp2
    all_goals go_ret
    all_goals exact ⟨ret_bool (by first | (simp; done) | (simp; omega)), rfl⟩
theorem laws_a2Long_no (a : Option Addr) (c n : Nat) (b : Option Addr) (d m : Nat) (w : World) (h1 : n ≤ 3000) (h2 : m ≤ 3000) :
    Calls Tryd.prog 10 #[.slice a n c, .slice b m d] w fun e w' => e = .returned (.bool false) ∧ w = w' := by
  have h3 : ¬ 3000 < n := by omega
  have h4 : ¬ 3000 < m := by omega
  go_enter Tryd.func10, Tryd.ntmps10
  go_wp2
  all_goals go_ret
  all_goals exact ⟨ret_bool (by first | (simp; done) | (simp; omega)), rfl⟩
set_option maxHeartbeats 1000000 in
theorem laws_a2At (a : Option Addr) (c : Nat) (l : List UInt8) (i : Nat) (n : Int) (w : World) (hx : RB w a l) (hl : l.length ≤ 1048576) (hi : i ≤ 1048576) (hn0 : -65536 ≤ n) (hn : n ≤ 65536) :
    Calls Tryd.prog 13 #[.slice a l.length c, .int .i64 i, .int .i64 n] w fun e w' => (∃ r : Int, e = .returned (.int .i64 r) ∧ PickP n r) ∧ w = w' := by
  by_cases h1 : l.length ≤ i
  · go_enter Tryd.func13, Tryd.ntmps13
    go_wp2_with fail
    all_goals go_ret
    all_goals exact ⟨⟨0, rfl, Int.le_refl _, fun h => by omega, fun _ => rfl⟩, rfl⟩
  · have h1' : ¬ (l.length : Int) ≤ (i : Int) := by omega
    by_cases h2 : n < 1
    · go_enter Tryd.func13, Tryd.ntmps13
      go_wp2_with fail
      all_goals go_ret
      all_goals exact ⟨⟨0, rfl, Int.le_refl _, fun h => by omega, fun _ => rfl⟩, rfl⟩
    · obtain ⟨u, hu⟩ := get_some (l := l) (k := i) (by omega)
      obtain ⟨b1, o1, rfl, hcu⟩ := hx.at hu
      obtain ⟨hub0, hub1⟩ := byte_bd u
      have hlt' : (i : Int) < (l.length : Int) := by omega
      have hnp : 0 < n := by omega
      clear hu
      go_enter Tryd.func13, Tryd.ntmps13
      go_wp2_with fail
      all_goals go_ret
      all_goals
        have hm1 := Int.emod_nonneg (u.toNat : Int) (show n ≠ 0 by omega)
        have hm2 := Int.emod_lt_of_pos (u.toNat : Int) hnp
        exact ⟨⟨_, rfl, hm1, fun _ => hm2, fun h => by omega⟩, rfl⟩
def widthN (xss : List (List Int)) : Nat := match xss with | [] => 1 | x :: _ => x.length
theorem laws_a2Width (a : Option Addr) (c : Nat) (xss : List (List Int)) (w : World) (hx : RDx w a xss) (hn : xss.length ≤ maxLen) :
    Calls Tryd.prog 36 #[.slice a xss.length c] w fun e w' => e = .returned (.int .i64 (widthN xss)) ∧ w = w' := by
  unfold maxLen at hn
  cases xss with
  | nil =>
    go_enter Tryd.func36, Tryd.ntmps36
    go_wp2
    go_ret
    exact ⟨rfl, rfl⟩
  | cons x r =>
    obtain ⟨b1, o1, a1, c1, rfl, hc1, hr1⟩ := hx.at (k := 0) (x := x) rfl
    rw [Nat.add_zero] at hc1
    have hq := Lib.hid hx
    clear hx
    have hne : (((x :: r).length : Int) == 0) = false := by first | (simp; done) | (simp; omega)
    have hpos : (0 : Int) < ((x :: r).length : Int) := by first | (simp; done) | (simp; omega)
    have hpos' : 0 < (x :: r).length := by simp
    generalize (x :: r).length = q at *
    go_enter Tryd.func36, Tryd.ntmps36
    go_wp2_with fail
    all_goals go_ret
    all_goals exact ⟨rfl, rfl⟩
set_option maxHeartbeats 1000000 in
theorem laws_a2Field (a : Option Addr) (c : Nat) (xss : List (List Int)) (b : Option Addr) (d : Nat) (m : List UInt8) (w : World) (hx : RDx w a xss) (hn : xss.length ≤ maxLen) (hy : RB w b m) (hm : m.length ≤ 1048576) (h1 : 1 ≤ widthN xss) (h2 : widthN xss ≤ 65536) :
    Calls Tryd.prog 12 #[.slice a xss.length c, .slice b m.length d] w fun e w' => ∃ f t : Nat, e = .returned (.agg #[.int .i64 f, .int .i64 t]) ∧ f < t ∧ t ≤ widthN xss ∧ Below w.heap.size w w' := by
  have hb1 := Lib.hid (below_alloc (w := w) (.cells #[.int .i64 0, .int .i64 0] 31))
  have hwd := Lib.hid (fun W (hW : RDx W a xss) => laws_a2Width a c xss W hW hn)
  generalize widthN xss = n at *
  go_enter Tryd.func12, Tryd.ntmps12
  go_wp2_with fail
  refine (hwd.out _ (hx.kept hb1.out)).mono ?_
  rintro e w' ⟨rfl, rfl⟩
  go_wp2_with fail
  refine (laws_a2At b d m 0 n _ (hy.kept hb1.out) hm (by omega) (by omega) (by omega)).mono ?_
  rintro e w' ⟨⟨f, rfl, f0, f1, _⟩, rfl⟩
  replace f1 := f1 (by omega)
  have hw1 : IntKind.i64.wrap (f + 1) = f + 1 := IntWalk.i64_in _ (by omega)
  have hw2 : IntKind.i64.wrap ((n : Int) - f) = (n : Int) - f := IntWalk.i64_in _ (by omega)
  go_wp2_with fail
  refine (laws_a2At b d m 1 ((n : Int) - f) _ (hy.kept hb1.out) hm (by omega) (by omega) (by omega)).mono ?_
  rintro e w' ⟨⟨t, rfl, t0, t1, _⟩, rfl⟩
  replace t1 := t1 (by omega)
  clear hw1 hw2
  obtain ⟨f, rfl⟩ := Int.eq_ofNat_of_zero_le f0
  obtain ⟨t, rfl⟩ := Int.eq_ofNat_of_zero_le t0
  go_wp2_with fail
  refine bodyPost_ret (v := .agg #[.int .i64 f, .int .i64 ((f + 1 + t : Nat) : Int)]) (by simp [results, Tryd.results12, go_sem, *]) rfl ⟨f, f + 1 + t, rfl, by omega, by omega, ?_⟩
  first | exact hb1.out | exact (hb1.out.setCell (by dsimp only; omega) _).setCell (by dsimp only; omega) _ | exact below_alloc _
end Go.Proofs.YtcbjfgjlhjjpiaaDoor
