/- The walks of the functions that compare, measure and copy columns and cards: what each returns, and that memory has at most new blocks. -/
import Derived.Test.YtcbjfgjlhjjpiaaGreatDoorWords
import Derived.Test.YtcbjfgjlhjjpiaaGreatDoorMem
import Derived.Deep.QuietTactic
import Derived.BigQuiet
namespace Go.Proofs.YtcbjfgjlhjjpiaaGreatDoor
open Go.RowKit
set_option maxRecDepth 100000
set_option linter.unusedVariables false
set_option linter.unusedSimpArgs false
set_option linter.unnecessarySimpa false

set_option maxHeartbeats 400000 in
theorem spec_l00Same (a b : Option Addr) (ca cb : Nat) (xs ys : List Int) (w : World) (hx : RI w a xs) (hy : RI w b ys) (h1 : xs.length ≤ maxLen) (h2 : ys.length ≤ maxLen) :
    Calls Tryz.prog 119 #[.slice a xs.length ca, .slice b ys.length cb] w fun e w' => e = .returned (.bool (eqB xs ys)) ∧ Below w.heap.size w w' := by
  unfold maxLen at h1 h2
  by_cases hl : xs.length = ys.length
  · generalize hn : xs.length = n at *
    have hl' := Lib.hid hl
    have hn' := Lib.hid hn
    clear hl hn
    rw [← hl'.out] at h2 ⊢
    go_enter Tryz.func119, Tryz.ntmps119
    go_wp2_with fail
    go_loopw [5] (fun i wr => ∃ k : Nat, k ≤ n ∧ i = .int .i64 k ∧ Hid (xs.take k = ys.take k) ∧ Below w.heap.size w wr) (fun i _ => n - (intOf i).toNat)
    case atStart => exact ⟨0, by omega, rfl, Lib.hid rfl, Below.refl _ _⟩
    case round =>
      obtain ⟨k, hk, rfl, hall, hb⟩ := hrel
      by_cases hlt : k < n
      · obtain ⟨x, hxk⟩ := get_some (l := xs) (k := k) (by rw [hn'.out]; exact hlt)
        obtain ⟨y, hyk⟩ := get_some (l := ys) (k := k) (by rw [← hl'.out]; exact hlt)
        obtain ⟨b1, o1, rfl, hc1⟩ := (hx.kept hb).at hxk
        obtain ⟨b2, o2, rfl, hc2⟩ := (hy.kept hb).at hyk
        have hxk' := Lib.hid hxk
        have hyk' := Lib.hid hyk
        clear hxk hyk
        go_wp2_with fail
        go_quiet (fail)
        go_wp2_with fail
        · go_ret
          have hne := ‹(x != y) = true›
          exact ⟨ret_bool (eqB_no (ne_of_at hxk'.out hyk'.out (by simpa using hne))).symm, below_drewN hb _⟩
        · go_roundw
          case rel =>
            have he := ‹(x != y) = false›
            exact ⟨k + 1, by omega, by go_num, Lib.hid (take_eq_succ hxk'.out hyk'.out hall.out (by simpa using he)), below_drewN hb _⟩
          case measure => simp [intOf]; omega
      · go_wp2_with fail
        go_ret
        exact ⟨ret_bool (eqB_yes (xs := xs) (ys := ys) (eq_of_take (by rw [hn'.out]; omega) (by rw [← hl'.out]; omega) hall.out)).symm, hb⟩
  · have hne := Lib.hid (eqB_no (xs := xs) (ys := ys) (fun e => hl (by rw [e])))
    have hd : ((xs.length : Int) != (ys.length : Int)) = true := by simp; omega
    go_enter Tryz.func119, Tryz.ntmps119
    go_wp2_with fail
    go_ret
    exact ⟨ret_bool (by rw [hne.out]), Below.refl _ _⟩


set_option maxHeartbeats 400000 in
theorem laws_eqInt64S (a b : Option Addr) (ca cb : Nat) (xs ys : List Int) (w : World) (hx : RI w a xs) (hy : RI w b ys) (h1 : xs.length ≤ maxLen) (h2 : ys.length ≤ maxLen) :
    Calls Tryz.prog 72 #[.slice a xs.length ca, .slice b ys.length cb] w fun e w' => e = .returned (.bool (eqB xs ys)) ∧ Below w.heap.size w w' := by
  unfold maxLen at h1 h2
  by_cases hl : xs.length = ys.length
  · generalize hn : xs.length = n at *
    have hl' := Lib.hid hl
    have hn' := Lib.hid hn
    clear hl hn
    rw [← hl'.out] at h2 ⊢
    go_enter Tryz.func72, Tryz.ntmps72
    go_wp2_with fail
    go_loopw [5] (fun i wr => ∃ k : Nat, k ≤ n ∧ i = .int .i64 k ∧ Hid (xs.take k = ys.take k) ∧ Below w.heap.size w wr) (fun i _ => n - (intOf i).toNat)
    case atStart => exact ⟨0, by omega, rfl, Lib.hid rfl, Below.refl _ _⟩
    case round =>
      obtain ⟨k, hk, rfl, hall, hb⟩ := hrel
      by_cases hlt : k < n
      · obtain ⟨x, hxk⟩ := get_some (l := xs) (k := k) (by rw [hn'.out]; exact hlt)
        obtain ⟨y, hyk⟩ := get_some (l := ys) (k := k) (by rw [← hl'.out]; exact hlt)
        obtain ⟨b1, o1, rfl, hc1⟩ := (hx.kept hb).at hxk
        obtain ⟨b2, o2, rfl, hc2⟩ := (hy.kept hb).at hyk
        have hxk' := Lib.hid hxk
        have hyk' := Lib.hid hyk
        clear hxk hyk
        go_wp2_with fail
        go_quiet (fail)
        go_wp2_with fail
        · go_ret
          have hne := ‹(x != y) = true›
          exact ⟨ret_bool (eqB_no (ne_of_at hxk'.out hyk'.out (by simpa using hne))).symm, below_drewN hb _⟩
        · go_roundw
          case rel =>
            have he := ‹(x != y) = false›
            exact ⟨k + 1, by omega, by go_num, Lib.hid (take_eq_succ hxk'.out hyk'.out hall.out (by simpa using he)), below_drewN hb _⟩
          case measure => simp [intOf]; omega
      · go_wp2_with fail
        go_ret
        exact ⟨ret_bool (eqB_yes (xs := xs) (ys := ys) (eq_of_take (by rw [hn'.out]; omega) (by rw [← hl'.out]; omega) hall.out)).symm, hb⟩
  · have hne := Lib.hid (eqB_no (xs := xs) (ys := ys) (fun e => hl (by rw [e])))
    have hd : ((xs.length : Int) != (ys.length : Int)) = true := by simp; omega
    go_enter Tryz.func72, Tryz.ntmps72
    go_wp2_with fail
    go_ret
    exact ⟨ret_bool (by rw [hne.out]), Below.refl _ _⟩

theorem spec_SameCard_at (a b : Option Addr) (ca cb : Nat) (xs ys : List Int) (w : World) (hx : RI w a xs) (hy : RI w b ys) (h1 : xs.length ≤ maxLen) (h2 : ys.length ≤ maxLen) :
    Calls Tryz.prog 50 #[.agg #[.slice a xs.length ca], .agg #[.slice b ys.length cb]] w fun e w' => e = .returned (.bool (eqB xs ys)) ∧ Below w.heap.size w w' := by
  have hb2 := below_alloc2 w (.cells #[.slice a xs.length ca] 30) (.cells #[.slice b ys.length cb] 30)
  have hc := spec_l00Same a b ca cb xs ys _ (hx.kept hb2) (hy.kept hb2) h1 h2
  have HC := Lib.hid hc
  have HB := Lib.hid hb2
  clear hc hb2
  go_enter Tryz.func50, Tryz.ntmps50
  go_wp2_with (go_at_call 119; ((with_reducible refine HC.out.mono ?_); rintro e w' ⟨rfl, hb⟩))
  all_goals
    go_ret
    exact ⟨ret_bool (by simp_all), bthen HB.out hb⟩


theorem laws_eqCard (a b : Option Addr) (ca cb : Nat) (xs ys : List Int) (w : World) (hx : RI w a xs) (hy : RI w b ys) (h1 : xs.length ≤ maxLen) (h2 : ys.length ≤ maxLen) :
    Calls Tryz.prog 13 #[.agg #[.slice a xs.length ca], .agg #[.slice b ys.length cb]] w fun e w' => e = .returned (.bool (eqB xs ys)) ∧ Below w.heap.size w w' := by
  have hb2 := below_alloc2 w (.cells #[.slice a xs.length ca] 30) (.cells #[.slice b ys.length cb] 30)
  have hc := laws_eqInt64S a b ca cb xs ys _ (hx.kept hb2) (hy.kept hb2) h1 h2
  have HC := Lib.hid hc
  have HB := Lib.hid hb2
  clear hc hb2
  go_enter Tryz.func13, Tryz.ntmps13
  go_wp2_with (go_at_call 72; ((with_reducible refine HC.out.mono ?_); rintro e w' ⟨rfl, hb⟩))
  all_goals
    go_ret
    exact ⟨ret_bool (by simp_all), bthen HB.out hb⟩

theorem laws_szInt64S (a : Option Addr) (c n : Nat) (left : Int) (h0 : 0 ≤ left) (h1 : left ≤ 1048576) (hn : n ≤ maxLen) (w : World) :
    Calls Tryz.prog 60 #[.slice a n c, .int .i64 left] w fun e w' => e = .returned (.int .i64 (szI left n)) ∧ w = w' := by
  unfold maxLen at hn
  by_cases h : left - n < 0
  · have hs := Lib.hid (show szI left n = -1 by unfold szI; rw [if_pos h])
    go_enter Tryz.func60, Tryz.ntmps60
    go_wp2_with fail
    go_ret
    exact ⟨ret_int (by rw [hs.out]), rfl⟩
  · have hs := Lib.hid (show szI left n = left - n by unfold szI; rw [if_neg h])
    go_enter Tryz.func60, Tryz.ntmps60
    go_wp2_with fail
    go_ret
    exact ⟨ret_int (by rw [hs.out]), rfl⟩
theorem laws_szCard (a : Option Addr) (c n : Nat) (left : Int) (h0 : 0 ≤ left) (h1 : left ≤ 1048576) (hn : n ≤ maxLen) (w : World) :
    Calls Tryz.prog 8 #[.agg #[.slice a n c], .int .i64 left] w fun e w' => e = .returned (.int .i64 (szI left n)) ∧ Below w.heap.size w w' := by
  by_cases h : szI left n < 0
  · have hs := Lib.hid (szI_neg h)
    go_enter Tryz.func8, Tryz.ntmps8
    go_wp2_with (go_at_call 60; ((with_reducible refine (laws_szInt64S _ _ _ _ h0 h1 hn _).mono ?_); rintro e w' ⟨rfl, rfl⟩))
    go_ret
    exact ⟨ret_int (by rw [hs.out]), below_alloc _⟩
  · go_enter Tryz.func8, Tryz.ntmps8
    go_wp2_with (go_at_call 60; ((with_reducible refine (laws_szInt64S _ _ _ _ h0 h1 hn _).mono ?_); rintro e w' ⟨rfl, rfl⟩))
    go_ret
    exact ⟨rfl, below_alloc _⟩
theorem laws_szCard_over (a : Option Addr) (c : Nat) (x : List Int) (left : Int) (w : World) (hx : RI w a x) (h0 : 0 ≤ left) (h1 : left ≤ 1048576) (hn : x.length ≤ maxLen) (h : left < (x.length : Int)) :
    Calls Tryz.prog 8 #[.agg #[.slice a x.length c], .int .i64 left] w fun e w' => e = .returned (.int .i64 (-1)) ∧ Below w.heap.size w w' :=
  (laws_szCard a c x.length left h0 h1 hn w).mono fun e w' h' => ⟨by rw [h'.1]; unfold szI; rw [if_pos (by omega)], h'.2⟩
theorem laws_szCard_ok (a : Option Addr) (c : Nat) (x : List Int) (left : Int) (w : World) (hx : RI w a x) (h0 : 0 ≤ left) (h1 : left ≤ 1048576) (hn : x.length ≤ maxLen) (h : (x.length : Int) ≤ left) :
    Calls Tryz.prog 8 #[.agg #[.slice a x.length c], .int .i64 left] w fun e w' => e = .returned (.int .i64 (left - (x.length : Int))) ∧ Below w.heap.size w w' :=
  (laws_szCard a c x.length left h0 h1 hn w).mono fun e w' h' => ⟨by rw [h'.1]; unfold szI; rw [if_neg (by omega)], h'.2⟩
theorem laws_eqCard_same (a b : Option Addr) (ca cb : Nat) (xs : List Int) (w : World) (hx : RI w a xs) (hy : RI w b xs) (h1 : xs.length ≤ maxLen) :
    Calls Tryz.prog 13 #[.agg #[.slice a xs.length ca], .agg #[.slice b xs.length cb]] w fun e w' => e = .returned (.bool true) ∧ Below w.heap.size w w' :=
  (laws_eqCard a b ca cb xs xs w hx hy h1 h1).mono fun e w' h => ⟨by rw [h.1, eqB_refl], h.2⟩
theorem spec_SameCard (a : Option Addr) (c : Nat) (x : List Int) (b : Option Addr) (d : Nat) (y : List Int) (w : World) (hx : RI w a x) (hy : RI w b y) (h1 : x.length ≤ maxLen) (h2 : y.length ≤ maxLen) :
    Calls Tryz.prog 50 #[.agg #[.slice a x.length c], .agg #[.slice b y.length d]] w fun e w' => e = .returned (.bool (eqB x y)) ∧ Below w.heap.size w w' := spec_SameCard_at a b c d x y w hx hy h1 h2
theorem Tryz.info_int64 : (Tryz.prog.info? 2).map (fun i => (i.zero, i.size, i.bytes)) = some (some (.int .i64 0), 1, 8) := by kernel_rfl
set_option maxHeartbeats 400000 in
theorem laws_toInt64S (a : Option Addr) (c : Nat) (xs : List Int) (w : World) (hx : RI w a xs) (hn : xs.length ≤ 1048576) :
    Calls Tryz.prog 67 #[.slice a xs.length c] w fun e w' => ∃ a' c', e = .returned (.slice a' xs.length c') ∧ w'.ownsRow w.heap.size 2 1 (.slice a' xs.length c') xs.length (xs.map (Value.int .i64)) ∧ Below w.heap.size w w' := by
  obtain ⟨i0, hi, hz0, hz1, hz2⟩ := info_parts Tryz.info_int64
  generalize hN : xs.length = n at *
  have hN' := Lib.hid hN
  clear hN
  have hm := Lib.hid (show n ≤ maxLen by simp [maxLen]; omega)
  go_enter Tryz.func67, Tryz.ntmps67
  go_wp2_with (at_make; refine wpList_make_full _ rfl _ _ 25 rfl w.heap.size 2 i0 (.int .i64 0) 1 Tryz.underlying25 hi hz0 hz1 _ _ _ _ n rfl rfl rfl rfl (by rw [hz2]; omega) hm.out (by exact Nat.le_refl _) ?_; intro w1 hown hgrow)
  have hown0 : w1.ownsRow w.heap.size 2 1 (.slice (some ⟨w.heap.size, 0, none⟩) n n) n (fillV (.int .i64 0) (xs.map (Value.int .i64)) 0) := by
    rw [fillV_zero, List.length_map, hN'.out]
    simpa [Value.cells, toList_madeCells_one] using hown
  have hb0 : Below w.heap.size w w1 := (Below.refl _ _).grown hgrow (Nat.le_refl _) (by simp)
  clear hown hgrow
  go_loopw [4] (fun i wr => ∃ k : Nat, k ≤ n ∧ i = .int .i64 k ∧ wr.ownsRow w.heap.size 2 1 (.slice (some ⟨w.heap.size, 0, none⟩) n n) n (fillV (.int .i64 0) (xs.map (Value.int .i64)) k) ∧ Below w.heap.size w wr) (fun i _ => n - (intOf i).toNat)
  case atStart => exact ⟨0, by omega, rfl, hown0, hb0⟩
  case round =>
    obtain ⟨k, hk, rfl, hown, hb⟩ := hrel
    by_cases hlt : k < n
    · obtain ⟨x, hxk⟩ := get_some (l := xs) (k := k) (by rw [hN'.out]; exact hlt)
      obtain ⟨b1, o1, rfl, hc1⟩ := (hx.kept hb).at hxk
      have hc2 := (hown.cellAt k (by omega)).trans (fillV_at _ _ (by rw [List.length_map, hN'.out]; exact hlt))
      have hf2 := hown.frozenAt k
      have hxk' := Lib.hid hxk
      clear hxk
      go_wp2_with fail
      go_roundw
      case rel => exact ⟨k + 1, by omega, by go_num, by rw [← fillV_set _ _ (map_at hxk'.out)]; exact (hown.stored k _).1, hb.setCell (Nat.le_refl _) _⟩
      case measure => simp [intOf]; omega
    · go_wp2_with fail
      go_ret
      exact ⟨_, _, rfl, by rw [fillV_all _ _ (by rw [List.length_map, hN'.out]; omega)] at hown; exact hown, hb⟩
set_option maxHeartbeats 400000 in
theorem laws_toCard (a : Option Addr) (c : Nat) (xs : List Int) (w : World) (hx : RI w a xs) (hn : xs.length ≤ 1048576) :
    Calls Tryz.prog 11 #[.agg #[.slice a xs.length c]] w fun e w' => ∃ a' c', e = .returned (.agg #[.slice a' xs.length c']) ∧ w'.ownsRow w.heap.size 2 1 (.slice a' xs.length c') xs.length (xs.map (Value.int .i64)) ∧ Below w.heap.size w w' := by
  have hb3 := Lib.hid (below_alloc3 w (.cells #[.slice a xs.length c] 27) (.cells #[.slice none 0 0] 30) (.cells #[.slice none 0 0] 30))
  go_enter Tryz.func11, Tryz.ntmps11
  go_wp2_with fail
  refine (laws_toInt64S a c xs _ (hx.kept hb3.out) hn).mono ?_
  rintro e w4 ⟨a4, c4, rfl, hown, hb4⟩
  obtain ⟨hc, hf⟩ := bcell hb4
  have hs := hb4.size
  simp only [World.size_alloc] at hs
  have hown' := Lib.hid hown
  have hb4' := Lib.hid hb4
  clear hown hb4
  go_wp2_with fail
  have hlt : w.heap.size + 1 < w4.heap.size := by omega
  refine bodyPost_ret (v := .agg #[.slice a4 xs.length c4]) (by simp [results, Tryz.results11, go_sem, hc]) rfl ⟨_, _, rfl, ?_, ?_⟩
  · exact own_mono (ownsRow_setCell_below (ownsRow_setCell_below hown'.out (by simp) _) (by simp) _) (by simp; omega)
  · exact ((bthen hb3.out hb4'.out).setCell (by simp; omega) _).setCell (by simp) _

end Go.Proofs.YtcbjfgjlhjjpiaaGreatDoor
