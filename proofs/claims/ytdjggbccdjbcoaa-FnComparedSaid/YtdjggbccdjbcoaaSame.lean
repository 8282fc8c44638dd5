/- The walks of the functions that compare, measure and copy columns and cards: what each returns, and that memory has at most new blocks. -/
import Derived.Test.YtdjggbccdjbcoaaWords
import Derived.Test.YtdjggbccdjbcoaaMem
import Derived.Deep.QuietTactic
import Derived.BigQuiet
namespace Go.Proofs.Ytdjggbccdjbcoaa
open Go.RowKit
set_option maxRecDepth 100000
set_option linter.unusedVariables false
set_option linter.unusedSimpArgs false
set_option linter.unnecessarySimpa false

set_option maxHeartbeats 400000 in
theorem spec_l00Same (a b : Option Addr) (ca cb : Nat) (xs ys : List Int) (w : World) (hx : RI w a xs) (hy : RI w b ys) (h1 : xs.length ≤ maxLen) (h2 : ys.length ≤ maxLen) :
    Calls Try.prog 86 #[.slice a xs.length ca, .slice b ys.length cb] w fun e w' => e = .returned (.bool (eqB xs ys)) ∧ Below w.heap.size w w' := by
  unfold maxLen at h1 h2
  by_cases hl : xs.length = ys.length
  · generalize hn : xs.length = n at *
    have hl' := Lib.hid hl
    have hn' := Lib.hid hn
    clear hl hn
    rw [← hl'.out] at h2 ⊢
    go_enter Try.func86, Try.ntmps86
    go_wp2_with fail
    go_loopw [5] (fun i wr => ∃ k : Nat, k ≤ n ∧ i = .int .i64 k ∧ Hid (xs.take k = ys.take k) ∧ Below w.heap.size w wr) (fun i _ => n - (intOf i).toNat)
    case atStart => exact ⟨0, by omega, rfl, Lib.hid rfl, Below.refl _ _⟩
    case round =>
      obtain ⟨k, hk, rfl, hall, hb⟩ := hrel
      by_cases hlt : k < n
      · obtain ⟨x, hxk⟩ := get_some (l := xs) (k := k) (by rw [hn'.out]; exact hlt)
        obtain ⟨y, hyk⟩ := get_some (l := ys) (k := k) (by rw [← hl'.out]; exact hlt)
        obtain ⟨b1, o1, rfl, hc1⟩ := (hx.kept hb).at hxk
        obtain ⟨b2, o2, rfl, hc2⟩ := (hy.kept hb).at hyk
        have hxk' := Lib.hid hxk
        have hyk' := Lib.hid hyk
        clear hxk hyk
        go_wp2_with fail
        go_quiet (fail)
        go_wp2_with fail
        · go_ret
          have hne := ‹(x != y) = true›
          exact ⟨ret_bool (eqB_no (ne_of_at hxk'.out hyk'.out (by simpa using hne))).symm, below_drewN hb _⟩
        · go_roundw
          case rel =>
            have he := ‹(x != y) = false›
            exact ⟨k + 1, by omega, by go_num, Lib.hid (take_eq_succ hxk'.out hyk'.out hall.out (by simpa using he)), below_drewN hb _⟩
          case measure => simp [intOf]; omega
      · go_wp2_with fail
        go_ret
        exact ⟨ret_bool (eqB_yes (xs := xs) (ys := ys) (eq_of_take (by rw [hn'.out]; omega) (by rw [← hl'.out]; omega) hall.out)).symm, hb⟩
  · have hne := Lib.hid (eqB_no (xs := xs) (ys := ys) (fun e => hl (by rw [e])))
    have hd : ((xs.length : Int) != (ys.length : Int)) = true := by simp; omega
    go_enter Try.func86, Try.ntmps86
    go_wp2_with fail
    go_ret
    exact ⟨ret_bool (by rw [hne.out]), Below.refl _ _⟩

set_option maxHeartbeats 400000 in
theorem slices_Equal_ints (a b : Option Addr) (ca cb : Nat) (xs ys : List Int) (w : World) (hx : RI w a xs) (hy : RI w b ys) (h1 : xs.length ≤ maxLen) (h2 : ys.length ≤ maxLen) :
    Calls Try.prog 92 #[.slice a xs.length ca, .slice b ys.length cb] w fun e w' => e = .returned (.bool (eqB xs ys)) ∧ Below w.heap.size w w' := by
  unfold maxLen at h1 h2
  by_cases hl : xs.length = ys.length
  · generalize hn : xs.length = n at *
    have hl' := Lib.hid hl
    have hn' := Lib.hid hn
    clear hl hn
    rw [← hl'.out] at h2 ⊢
    go_enter Try.func92, Try.ntmps92
    go_wp2_with fail
    go_loopw [13] (fun i wr => ∃ k : Nat, k ≤ n ∧ i = .int .i64 k ∧ Hid (xs.take k = ys.take k) ∧ Below w.heap.size w wr) (fun i _ => n - (intOf i).toNat)
    case atStart => exact ⟨0, by omega, rfl, Lib.hid rfl, Below.refl _ _⟩
    case round =>
      obtain ⟨k, hk, rfl, hall, hb⟩ := hrel
      by_cases hlt : k < n
      · obtain ⟨x, hxk⟩ := get_some (l := xs) (k := k) (by rw [hn'.out]; exact hlt)
        obtain ⟨y, hyk⟩ := get_some (l := ys) (k := k) (by rw [← hl'.out]; exact hlt)
        obtain ⟨b1, o1, rfl, hc1⟩ := (hx.kept hb).at hxk
        obtain ⟨b2, o2, rfl, hc2⟩ := (hy.kept hb).at hyk
        have hxk' := Lib.hid hxk
        have hyk' := Lib.hid hyk
        clear hxk hyk
        go_wp2_with fail
        go_quiet (fail)
        go_wp2_with fail
        · go_ret
          have hne := ‹(x != y) = true›
          exact ⟨ret_bool (eqB_no (ne_of_at hxk'.out hyk'.out (by simpa using hne))).symm, below_drewN hb _⟩
        · go_roundw
          case rel =>
            have he := ‹(x != y) = false›
            exact ⟨k + 1, by omega, by go_num, Lib.hid (take_eq_succ hxk'.out hyk'.out hall.out (by simpa using he)), below_drewN hb _⟩
          case measure => simp [intOf]; omega
      · go_wp2_with fail
        go_ret
        exact ⟨ret_bool (eqB_yes (xs := xs) (ys := ys) (eq_of_take (by rw [hn'.out]; omega) (by rw [← hl'.out]; omega) hall.out)).symm, hb⟩
  · have hne := Lib.hid (eqB_no (xs := xs) (ys := ys) (fun e => hl (by rw [e])))
    have hd : ((xs.length : Int) != (ys.length : Int)) = true := by simp; omega
    go_enter Try.func92, Try.ntmps92
    go_wp2_with fail
    go_ret
    exact ⟨ret_bool (by rw [hne.out]), Below.refl _ _⟩


theorem spec_SameCard_at (a b : Option Addr) (ca cb : Nat) (xs ys : List Int) (w : World) (hx : RI w a xs) (hy : RI w b ys) (h1 : xs.length ≤ maxLen) (h2 : ys.length ≤ maxLen) :
    Calls Try.prog 33 #[.agg #[.slice a xs.length ca], .agg #[.slice b ys.length cb]] w fun e w' => e = .returned (.bool (eqB xs ys)) ∧ Below w.heap.size w w' := by
  have hb2 := below_alloc2 w (.cells #[.slice a xs.length ca] 48) (.cells #[.slice b ys.length cb] 48)
  have hc := spec_l00Same a b ca cb xs ys _ (hx.kept hb2) (hy.kept hb2) h1 h2
  have HC := Lib.hid hc
  have HB := Lib.hid hb2
  clear hc hb2
  go_enter Try.func33, Try.ntmps33
  go_wp2_with (go_at_call 86; ((with_reducible refine HC.out.mono ?_); rintro e w' ⟨rfl, hb⟩))
  all_goals
    go_ret
    exact ⟨ret_bool (by simp_all), bthen HB.out hb⟩

theorem impl_SameCard_at (a b : Option Addr) (ca cb : Nat) (xs ys : List Int) (w : World) (hx : RI w a xs) (hy : RI w b ys) (h1 : xs.length ≤ maxLen) (h2 : ys.length ≤ maxLen) :
    Calls Try.prog 42 #[.agg #[.slice a xs.length ca], .agg #[.slice b ys.length cb]] w fun e w' => e = .returned (.bool (eqB xs ys)) ∧ Below w.heap.size w w' := by
  have hb2 := below_alloc2 w (.cells #[.slice a xs.length ca] 48) (.cells #[.slice b ys.length cb] 48)
  have hc := slices_Equal_ints a b ca cb xs ys _ (hx.kept hb2) (hy.kept hb2) h1 h2
  have HC := Lib.hid hc
  have HB := Lib.hid hb2
  clear hc hb2
  go_enter Try.func42, Try.ntmps42
  go_wp2_with (go_at_call 92; ((with_reducible refine HC.out.mono ?_); rintro e w' ⟨rfl, hb⟩))
  all_goals
    go_ret
    exact ⟨ret_bool (by simp_all), bthen HB.out hb⟩


theorem spec_SameCard (a : Option Addr) (c : Nat) (x : List Int) (b : Option Addr) (d : Nat) (y : List Int) (w : World) (hx : RI w a x) (hy : RI w b y) (h1 : x.length ≤ maxLen) (h2 : y.length ≤ maxLen) :
    Calls Try.prog 33 #[.agg #[.slice a x.length c], .agg #[.slice b y.length d]] w fun e w' => e = .returned (.bool (eqB x y)) ∧ Below w.heap.size w w' := spec_SameCard_at a b c d x y w hx hy h1 h2
theorem impl_SameCard (a : Option Addr) (c : Nat) (x : List Int) (b : Option Addr) (d : Nat) (y : List Int) (w : World) (hx : RI w a x) (hy : RI w b y) (h1 : x.length ≤ maxLen) (h2 : y.length ≤ maxLen) :
    Calls Try.prog 42 #[.agg #[.slice a x.length c], .agg #[.slice b y.length d]] w fun e w' => e = .returned (.bool (eqB x y)) ∧ Below w.heap.size w w' := impl_SameCard_at a b c d x y w hx hy h1 h2
theorem Try.info_int64 : (Try.prog.info? 2).map (fun i => (i.zero, i.size, i.bytes)) = some (some (.int .i64 0), 1, 8) := by kernel_rfl

end Go.Proofs.Ytdjggbccdjbcoaa
