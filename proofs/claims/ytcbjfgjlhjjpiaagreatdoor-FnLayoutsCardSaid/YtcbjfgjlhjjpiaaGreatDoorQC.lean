/- The walks of the functions on names and program cards: each returns what the plain function on the text's bytes says; memory is as it was. The walks of the functions that compare, measure and copy columns and cards: what each returns, and that memory has at most new blocks. The walks of the laws' own functions on lists of texts: what each returns, and which rows it writes. The walks of the laws' own functions on lists of texts that come in: their size, their copy. The walks of the helpers of the laws over layouts and records: what each returns. -/
import Derived.Test.YtcbjfgjlhjjpiaaGreatDoorProg
import Derived.Test.YtcbjfgjlhjjpiaaGreatDoorQA
import Derived.Deep.QuietTactic
import Derived.BigQuiet
import Derived.Deep.RegionHeld3
import Derived.Laws.IdiomStrings
namespace Go.Proofs.YtcbjfgjlhjjpiaaGreatDoor
open Go.RowKit
set_option maxRecDepth 100000

theorem impl_isSmall (c : Int) (w : World) : Calls Tryz.prog 179 #[.int .u8 c] w fun e w' => e = .returned (.bool (smallB c)) ∧ w = w' := by
  go_enter Tryz.func179, Tryz.ntmps179
  go_wp2
  all_goals go_ret
  all_goals exact ⟨ret_bool (by unfold smallB; simp [*]; try omega), rfl⟩
theorem impl_isDigit (c : Int) (w : World) : Calls Tryz.prog 180 #[.int .u8 c] w fun e w' => e = .returned (.bool (digitB c)) ∧ w = w' := by
  go_enter Tryz.func180, Tryz.ntmps180
  go_wp2
  all_goals go_ret
  all_goals exact ⟨ret_bool (by unfold digitB; simp [*]; try omega), rfl⟩
theorem spec_l01Small (c : Int) (w : World) : Calls Tryz.prog 181 #[.int .u8 c] w fun e w' => e = .returned (.bool (smallB c)) ∧ w = w' := by
  go_enter Tryz.func181, Tryz.ntmps181
  go_wp2
  all_goals go_ret
  all_goals exact ⟨ret_bool (by unfold smallB; simp [*]; try omega), rfl⟩
theorem spec_l01Digit (c : Int) (w : World) : Calls Tryz.prog 170 #[.int .u8 c] w fun e w' => e = .returned (.bool (digitB c)) ∧ w = w' := by
  go_enter Tryz.func170, Tryz.ntmps170
  go_wp2
  all_goals go_ret
  all_goals exact ⟨ret_bool (by unfold digitB; simp [*]; try omega), rfl⟩

set_option maxHeartbeats 400000 in
theorem impl_IsName (s : ByteArray) (hs : s.size ≤ maxLen) (w : World) :
    Calls Tryz.prog 145 #[.string s] w fun e w' => e = .returned (.bool (isNameL s.data.toList)) ∧ w = w' := by
  unfold maxLen at hs
  have hl := Lib.hid (len_bytes s)
  by_cases h0 : s.size < 1 ∨ 12 < s.size
  · have hf := Lib.hid (isName_len (l := s.data.toList) (by rw [hl.out]; exact h0))
    rcases h0 with h0 | h0
    all_goals
      go_enter Tryz.func145, Tryz.ntmps145
      go_wp2_with fail
      go_ret
      exact ⟨ret_bool (by rw [hf.out]), rfl⟩
  obtain ⟨h1, h2⟩ := not_or.1 h0
  clear h0
  have g0 := Lib.hid (get_bytes s 0 (by omega))
  cases h3 : smallB (s[0].toNat : Int)
  · have hf := Lib.hid (isName_first g0.out h3)
    go_enter Tryz.func145, Tryz.ntmps145
    go_wp2_with (go_at_call 179; ((with_reducible refine (impl_isSmall _ _).mono ?_); rintro e w' ⟨rfl, rfl⟩))
    go_ret
    exact ⟨ret_bool (by rw [hf.out]), rfl⟩
  · go_enter Tryz.func145, Tryz.ntmps145
    go_wp2_with (go_at_call 179; ((with_reducible refine (impl_isSmall _ _).mono ?_); rintro e w' ⟨rfl, rfl⟩))
    go_loop [3] (fun i => ∃ k : Nat, k ≤ s.size ∧ i = .int .i64 k ∧ Hid ((s.data.toList.take k).all (fun c => nameB c.toNat) = true)) (fun i => s.size - (intOf i).toNat)
    case atStart => exact ⟨0, by omega, rfl, by simp [Hid]⟩
    case round =>
      obtain ⟨k, hk, rfl, hall⟩ := hrel
      by_cases hlt : k < s.size
      · have hget := Lib.hid (get_bytes s k hlt)
        go_wp2_with (first | (go_at_call 179; ((with_reducible refine (impl_isSmall _ _).mono ?_); rintro e w' ⟨rfl, rfl⟩)) | (go_at_call 180; ((with_reducible refine (impl_isDigit _ _).mono ?_); rintro e w' ⟨rfl, rfl⟩)))
        all_goals first
          | (go_round
             case rel => exact ⟨k + 1, by omega, by go_num, all_succ hget.out hall.out (by simp_all [nameB])⟩
             case measure => simp [intOf]; omega)
          | (go_ret; exact ⟨ret_bool (by rw [isName_not hget.out (by simp_all [nameB])]), rfl⟩)
      · go_wp2_with fail
        go_ret
        exact ⟨ret_bool (by rw [isName_yes (by rw [hl.out]; exact h1) (by rw [hl.out]; exact h2) g0.out h3 (by rw [hl.out]; omega) hall.out]), rfl⟩

set_option maxHeartbeats 400000 in
theorem spec_IsName (s : ByteArray) (hs : s.size ≤ maxLen) (w : World) :
    Calls Tryz.prog 147 #[.string s] w fun e w' => e = .returned (.bool (isNameL s.data.toList)) ∧ w = w' := by
  unfold maxLen at hs
  have hl := Lib.hid (len_bytes s)
  by_cases hE : s.size = 0
  · have hf := Lib.hid (isName_len (l := s.data.toList) (by rw [hl.out]; omega))
    obtain ⟨e1, e2⟩ := empty_text hE
    go_enter Tryz.func147, Tryz.ntmps147
    go_wp2_with fail
    go_ret
    exact ⟨ret_bool (by rw [hf.out]), rfl⟩
  obtain ⟨e1, e2⟩ := full_text hE
  by_cases h2 : 12 < s.size
  · have hf := Lib.hid (isName_len (l := s.data.toList) (by rw [hl.out]; omega))
    go_enter Tryz.func147, Tryz.ntmps147
    go_wp2_with fail
    go_ret
    exact ⟨ret_bool (by rw [hf.out]), rfl⟩
  have g0 := Lib.hid (get_bytes s 0 (by omega))
  cases h3 : smallB (s[0].toNat : Int)
  · have hf := Lib.hid (isName_first g0.out h3)
    go_enter Tryz.func147, Tryz.ntmps147
    go_wp2_with (go_at_call 181; ((with_reducible refine (spec_l01Small _ _).mono ?_); rintro e w' ⟨rfl, rfl⟩))
    go_ret
    exact ⟨ret_bool (by rw [hf.out]), rfl⟩
  · go_enter Tryz.func147, Tryz.ntmps147
    go_wp2_with (go_at_call 181; ((with_reducible refine (spec_l01Small _ _).mono ?_); rintro e w' ⟨rfl, rfl⟩))
    go_loop [3] (fun i => ∃ k : Nat, k ≤ s.size ∧ i = .int .i64 k ∧ Hid ((s.data.toList.take k).all (fun c => nameB c.toNat) = true)) (fun i => s.size - (intOf i).toNat)
    case atStart => exact ⟨0, by omega, rfl, by simp [Hid]⟩
    case round =>
      obtain ⟨k, hk, rfl, hall⟩ := hrel
      by_cases hlt : k < s.size
      · have hget := Lib.hid (get_bytes s k hlt)
        go_wp2_with (first | (go_at_call 181; ((with_reducible refine (spec_l01Small _ _).mono ?_); rintro e w' ⟨rfl, rfl⟩)) | (go_at_call 170; ((with_reducible refine (spec_l01Digit _ _).mono ?_); rintro e w' ⟨rfl, rfl⟩)))
        all_goals first
          | (go_round
             case rel => exact ⟨k + 1, by omega, by go_num, all_succ hget.out hall.out (by simp_all [nameB])⟩
             case measure => simp [intOf]; omega)
          | (go_ret; exact ⟨ret_bool (by rw [isName_not hget.out (by simp_all [nameB])]), rfl⟩)
      · go_wp2_with fail
        go_ret
        exact ⟨ret_bool (by rw [isName_yes (by rw [hl.out]; omega) (by rw [hl.out]; exact h2) g0.out h3 (by rw [hl.out]; omega) hall.out]), rfl⟩

theorem impl_inside (n low high : Int) (w : World) : Calls Tryz.prog 90 #[.int .i64 n, .int .i64 low, .int .i64 high] w fun e w' => e = .returned (.bool (inB n low high)) ∧ w = w' := by
  go_enter Tryz.func90, Tryz.ntmps90
  go_wp2
  all_goals go_ret
  all_goals exact ⟨ret_bool (by unfold inB; simp [*]; try omega), rfl⟩
theorem spec_l00In (n low high : Int) (w : World) : Calls Tryz.prog 91 #[.int .i64 n, .int .i64 low, .int .i64 high] w fun e w' => e = .returned (.bool (inB n low high)) ∧ w = w' := by
  go_enter Tryz.func91, Tryz.ntmps91
  go_wp2
  all_goals go_ret
  all_goals exact ⟨ret_bool (by unfold inB; simp [*]; try omega), rfl⟩


end Go.Proofs.YtcbjfgjlhjjpiaaGreatDoor
namespace Go.Proofs.YtcbjfgjlhjjpiaaGreatDoor
open Go.RowKit
set_option maxRecDepth 100000
set_option linter.unusedVariables false
set_option linter.unusedSimpArgs false
set_option linter.unnecessarySimpa false

set_option maxHeartbeats 400000 in
theorem spec_l00Same (a b : Option Addr) (ca cb : Nat) (xs ys : List Int) (w : World) (hx : RI w a xs) (hy : RI w b ys) (h1 : xs.length ≤ maxLen) (h2 : ys.length ≤ maxLen) :
    Calls Tryz.prog 119 #[.slice a xs.length ca, .slice b ys.length cb] w fun e w' => e = .returned (.bool (eqB xs ys)) ∧ Below w.heap.size w w' := by
  unfold maxLen at h1 h2
  by_cases hl : xs.length = ys.length
  · generalize hn : xs.length = n at *
    have hl' := Lib.hid hl
    have hn' := Lib.hid hn
    clear hl hn
    rw [← hl'.out] at h2 ⊢
    go_enter Tryz.func119, Tryz.ntmps119
    go_wp2_with fail
    go_loopw [5] (fun i wr => ∃ k : Nat, k ≤ n ∧ i = .int .i64 k ∧ Hid (xs.take k = ys.take k) ∧ Below w.heap.size w wr) (fun i _ => n - (intOf i).toNat)
    case atStart => exact ⟨0, by omega, rfl, Lib.hid rfl, Below.refl _ _⟩
    case round =>
      obtain ⟨k, hk, rfl, hall, hb⟩ := hrel
      by_cases hlt : k < n
      · obtain ⟨x, hxk⟩ := get_some (l := xs) (k := k) (by rw [hn'.out]; exact hlt)
        obtain ⟨y, hyk⟩ := get_some (l := ys) (k := k) (by rw [← hl'.out]; exact hlt)
        obtain ⟨b1, o1, rfl, hc1⟩ := (hx.kept hb).at hxk
        obtain ⟨b2, o2, rfl, hc2⟩ := (hy.kept hb).at hyk
        have hxk' := Lib.hid hxk
        have hyk' := Lib.hid hyk
        clear hxk hyk
        go_wp2_with fail
        go_quiet (fail)
        go_wp2_with fail
        · go_ret
          have hne := ‹(x != y) = true›
          exact ⟨ret_bool (eqB_no (ne_of_at hxk'.out hyk'.out (by simpa using hne))).symm, below_drewN hb _⟩
        · go_roundw
          case rel =>
            have he := ‹(x != y) = false›
            exact ⟨k + 1, by omega, by go_num, Lib.hid (take_eq_succ hxk'.out hyk'.out hall.out (by simpa using he)), below_drewN hb _⟩
          case measure => simp [intOf]; omega
      · go_wp2_with fail
        go_ret
        exact ⟨ret_bool (eqB_yes (xs := xs) (ys := ys) (eq_of_take (by rw [hn'.out]; omega) (by rw [← hl'.out]; omega) hall.out)).symm, hb⟩
  · have hne := Lib.hid (eqB_no (xs := xs) (ys := ys) (fun e => hl (by rw [e])))
    have hd : ((xs.length : Int) != (ys.length : Int)) = true := by simp; omega
    go_enter Tryz.func119, Tryz.ntmps119
    go_wp2_with fail
    go_ret
    exact ⟨ret_bool (by rw [hne.out]), Below.refl _ _⟩


set_option maxHeartbeats 400000 in
theorem laws_eqInt64S (a b : Option Addr) (ca cb : Nat) (xs ys : List Int) (w : World) (hx : RI w a xs) (hy : RI w b ys) (h1 : xs.length ≤ maxLen) (h2 : ys.length ≤ maxLen) :
    Calls Tryz.prog 72 #[.slice a xs.length ca, .slice b ys.length cb] w fun e w' => e = .returned (.bool (eqB xs ys)) ∧ Below w.heap.size w w' := by
  unfold maxLen at h1 h2
  by_cases hl : xs.length = ys.length
  · generalize hn : xs.length = n at *
    have hl' := Lib.hid hl
    have hn' := Lib.hid hn
    clear hl hn
    rw [← hl'.out] at h2 ⊢
    go_enter Tryz.func72, Tryz.ntmps72
    go_wp2_with fail
    go_loopw [5] (fun i wr => ∃ k : Nat, k ≤ n ∧ i = .int .i64 k ∧ Hid (xs.take k = ys.take k) ∧ Below w.heap.size w wr) (fun i _ => n - (intOf i).toNat)
    case atStart => exact ⟨0, by omega, rfl, Lib.hid rfl, Below.refl _ _⟩
    case round =>
      obtain ⟨k, hk, rfl, hall, hb⟩ := hrel
      by_cases hlt : k < n
      · obtain ⟨x, hxk⟩ := get_some (l := xs) (k := k) (by rw [hn'.out]; exact hlt)
        obtain ⟨y, hyk⟩ := get_some (l := ys) (k := k) (by rw [← hl'.out]; exact hlt)
        obtain ⟨b1, o1, rfl, hc1⟩ := (hx.kept hb).at hxk
        obtain ⟨b2, o2, rfl, hc2⟩ := (hy.kept hb).at hyk
        have hxk' := Lib.hid hxk
        have hyk' := Lib.hid hyk
        clear hxk hyk
        go_wp2_with fail
        go_quiet (fail)
        go_wp2_with fail
        · go_ret
          have hne := ‹(x != y) = true›
          exact ⟨ret_bool (eqB_no (ne_of_at hxk'.out hyk'.out (by simpa using hne))).symm, below_drewN hb _⟩
        · go_roundw
          case rel =>
            have he := ‹(x != y) = false›
            exact ⟨k + 1, by omega, by go_num, Lib.hid (take_eq_succ hxk'.out hyk'.out hall.out (by simpa using he)), below_drewN hb _⟩
          case measure => simp [intOf]; omega
      · go_wp2_with fail
        go_ret
        exact ⟨ret_bool (eqB_yes (xs := xs) (ys := ys) (eq_of_take (by rw [hn'.out]; omega) (by rw [← hl'.out]; omega) hall.out)).symm, hb⟩
  · have hne := Lib.hid (eqB_no (xs := xs) (ys := ys) (fun e => hl (by rw [e])))
    have hd : ((xs.length : Int) != (ys.length : Int)) = true := by simp; omega
    go_enter Tryz.func72, Tryz.ntmps72
    go_wp2_with fail
    go_ret
    exact ⟨ret_bool (by rw [hne.out]), Below.refl _ _⟩

theorem spec_SameCard_at (a b : Option Addr) (ca cb : Nat) (xs ys : List Int) (w : World) (hx : RI w a xs) (hy : RI w b ys) (h1 : xs.length ≤ maxLen) (h2 : ys.length ≤ maxLen) :
    Calls Tryz.prog 50 #[.agg #[.slice a xs.length ca], .agg #[.slice b ys.length cb]] w fun e w' => e = .returned (.bool (eqB xs ys)) ∧ Below w.heap.size w w' := by
  have hb2 := below_alloc2 w (.cells #[.slice a xs.length ca] 30) (.cells #[.slice b ys.length cb] 30)
  have hc := spec_l00Same a b ca cb xs ys _ (hx.kept hb2) (hy.kept hb2) h1 h2
  have HC := Lib.hid hc
  have HB := Lib.hid hb2
  clear hc hb2
  go_enter Tryz.func50, Tryz.ntmps50
  go_wp2_with (go_at_call 119; ((with_reducible refine HC.out.mono ?_); rintro e w' ⟨rfl, hb⟩))
  all_goals
    go_ret
    exact ⟨ret_bool (by simp_all), bthen HB.out hb⟩


theorem laws_eqCard (a b : Option Addr) (ca cb : Nat) (xs ys : List Int) (w : World) (hx : RI w a xs) (hy : RI w b ys) (h1 : xs.length ≤ maxLen) (h2 : ys.length ≤ maxLen) :
    Calls Tryz.prog 13 #[.agg #[.slice a xs.length ca], .agg #[.slice b ys.length cb]] w fun e w' => e = .returned (.bool (eqB xs ys)) ∧ Below w.heap.size w w' := by
  have hb2 := below_alloc2 w (.cells #[.slice a xs.length ca] 30) (.cells #[.slice b ys.length cb] 30)
  have hc := laws_eqInt64S a b ca cb xs ys _ (hx.kept hb2) (hy.kept hb2) h1 h2
  have HC := Lib.hid hc
  have HB := Lib.hid hb2
  clear hc hb2
  go_enter Tryz.func13, Tryz.ntmps13
  go_wp2_with (go_at_call 72; ((with_reducible refine HC.out.mono ?_); rintro e w' ⟨rfl, hb⟩))
  all_goals
    go_ret
    exact ⟨ret_bool (by simp_all), bthen HB.out hb⟩

theorem laws_szInt64S (a : Option Addr) (c n : Nat) (left : Int) (h0 : 0 ≤ left) (h1 : left ≤ 1048576) (hn : n ≤ maxLen) (w : World) :
    Calls Tryz.prog 60 #[.slice a n c, .int .i64 left] w fun e w' => e = .returned (.int .i64 (szI left n)) ∧ w = w' := by
  unfold maxLen at hn
  by_cases h : left - n < 0
  · have hs := Lib.hid (show szI left n = -1 by unfold szI; rw [if_pos h])
    go_enter Tryz.func60, Tryz.ntmps60
    go_wp2_with fail
    go_ret
    exact ⟨ret_int (by rw [hs.out]), rfl⟩
  · have hs := Lib.hid (show szI left n = left - n by unfold szI; rw [if_neg h])
    go_enter Tryz.func60, Tryz.ntmps60
    go_wp2_with fail
    go_ret
    exact ⟨ret_int (by rw [hs.out]), rfl⟩
theorem laws_szCard (a : Option Addr) (c n : Nat) (left : Int) (h0 : 0 ≤ left) (h1 : left ≤ 1048576) (hn : n ≤ maxLen) (w : World) :
    Calls Tryz.prog 8 #[.agg #[.slice a n c], .int .i64 left] w fun e w' => e = .returned (.int .i64 (szI left n)) ∧ Below w.heap.size w w' := by
  by_cases h : szI left n < 0
  · have hs := Lib.hid (szI_neg h)
    go_enter Tryz.func8, Tryz.ntmps8
    go_wp2_with (go_at_call 60; ((with_reducible refine (laws_szInt64S _ _ _ _ h0 h1 hn _).mono ?_); rintro e w' ⟨rfl, rfl⟩))
    go_ret
    exact ⟨ret_int (by rw [hs.out]), below_alloc _⟩
  · go_enter Tryz.func8, Tryz.ntmps8
    go_wp2_with (go_at_call 60; ((with_reducible refine (laws_szInt64S _ _ _ _ h0 h1 hn _).mono ?_); rintro e w' ⟨rfl, rfl⟩))
    go_ret
    exact ⟨rfl, below_alloc _⟩
theorem laws_szCard_over (a : Option Addr) (c : Nat) (x : List Int) (left : Int) (w : World) (hx : RI w a x) (h0 : 0 ≤ left) (h1 : left ≤ 1048576) (hn : x.length ≤ maxLen) (h : left < (x.length : Int)) :
    Calls Tryz.prog 8 #[.agg #[.slice a x.length c], .int .i64 left] w fun e w' => e = .returned (.int .i64 (-1)) ∧ Below w.heap.size w w' :=
  (laws_szCard a c x.length left h0 h1 hn w).mono fun e w' h' => ⟨by rw [h'.1]; unfold szI; rw [if_pos (by omega)], h'.2⟩
theorem laws_szCard_ok (a : Option Addr) (c : Nat) (x : List Int) (left : Int) (w : World) (hx : RI w a x) (h0 : 0 ≤ left) (h1 : left ≤ 1048576) (hn : x.length ≤ maxLen) (h : (x.length : Int) ≤ left) :
    Calls Tryz.prog 8 #[.agg #[.slice a x.length c], .int .i64 left] w fun e w' => e = .returned (.int .i64 (left - (x.length : Int))) ∧ Below w.heap.size w w' :=
  (laws_szCard a c x.length left h0 h1 hn w).mono fun e w' h' => ⟨by rw [h'.1]; unfold szI; rw [if_neg (by omega)], h'.2⟩
theorem laws_eqCard_same (a b : Option Addr) (ca cb : Nat) (xs : List Int) (w : World) (hx : RI w a xs) (hy : RI w b xs) (h1 : xs.length ≤ maxLen) :
    Calls Tryz.prog 13 #[.agg #[.slice a xs.length ca], .agg #[.slice b xs.length cb]] w fun e w' => e = .returned (.bool true) ∧ Below w.heap.size w w' :=
  (laws_eqCard a b ca cb xs xs w hx hy h1 h1).mono fun e w' h => ⟨by rw [h.1, eqB_refl], h.2⟩
theorem spec_SameCard (a : Option Addr) (c : Nat) (x : List Int) (b : Option Addr) (d : Nat) (y : List Int) (w : World) (hx : RI w a x) (hy : RI w b y) (h1 : x.length ≤ maxLen) (h2 : y.length ≤ maxLen) :
    Calls Tryz.prog 50 #[.agg #[.slice a x.length c], .agg #[.slice b y.length d]] w fun e w' => e = .returned (.bool (eqB x y)) ∧ Below w.heap.size w w' := spec_SameCard_at a b c d x y w hx hy h1 h2
theorem Tryz.info_int64 : (Tryz.prog.info? 2).map (fun i => (i.zero, i.size, i.bytes)) = some (some (.int .i64 0), 1, 8) := by kernel_rfl
set_option maxHeartbeats 400000 in
theorem laws_toInt64S (a : Option Addr) (c : Nat) (xs : List Int) (w : World) (hx : RI w a xs) (hn : xs.length ≤ 1048576) :
    Calls Tryz.prog 67 #[.slice a xs.length c] w fun e w' => ∃ a' c', e = .returned (.slice a' xs.length c') ∧ w'.ownsRow w.heap.size 2 1 (.slice a' xs.length c') xs.length (xs.map (Value.int .i64)) ∧ Below w.heap.size w w' := by
  obtain ⟨i0, hi, hz0, hz1, hz2⟩ := info_parts Tryz.info_int64
  generalize hN : xs.length = n at *
  have hN' := Lib.hid hN
  clear hN
  have hm := Lib.hid (show n ≤ maxLen by simp [maxLen]; omega)
  go_enter Tryz.func67, Tryz.ntmps67
  go_wp2_with (at_make; refine wpList_make_full _ rfl _ _ 25 rfl w.heap.size 2 i0 (.int .i64 0) 1 Tryz.underlying25 hi hz0 hz1 _ _ _ _ n rfl rfl rfl rfl (by rw [hz2]; omega) hm.out (by exact Nat.le_refl _) ?_; intro w1 hown hgrow)
  have hown0 : w1.ownsRow w.heap.size 2 1 (.slice (some ⟨w.heap.size, 0, none⟩) n n) n (fillV (.int .i64 0) (xs.map (Value.int .i64)) 0) := by
    rw [fillV_zero, List.length_map, hN'.out]
    simpa [Value.cells, toList_madeCells_one] using hown
  have hb0 : Below w.heap.size w w1 := (Below.refl _ _).grown hgrow (Nat.le_refl _) (by simp)
  clear hown hgrow
  go_loopw [4] (fun i wr => ∃ k : Nat, k ≤ n ∧ i = .int .i64 k ∧ wr.ownsRow w.heap.size 2 1 (.slice (some ⟨w.heap.size, 0, none⟩) n n) n (fillV (.int .i64 0) (xs.map (Value.int .i64)) k) ∧ Below w.heap.size w wr) (fun i _ => n - (intOf i).toNat)
  case atStart => exact ⟨0, by omega, rfl, hown0, hb0⟩
  case round =>
    obtain ⟨k, hk, rfl, hown, hb⟩ := hrel
    by_cases hlt : k < n
    · obtain ⟨x, hxk⟩ := get_some (l := xs) (k := k) (by rw [hN'.out]; exact hlt)
      obtain ⟨b1, o1, rfl, hc1⟩ := (hx.kept hb).at hxk
      have hc2 := (hown.cellAt k (by omega)).trans (fillV_at _ _ (by rw [List.length_map, hN'.out]; exact hlt))
      have hf2 := hown.frozenAt k
      have hxk' := Lib.hid hxk
      clear hxk
      go_wp2_with fail
      go_roundw
      case rel => exact ⟨k + 1, by omega, by go_num, by rw [← fillV_set _ _ (map_at hxk'.out)]; exact (hown.stored k _).1, hb.setCell (Nat.le_refl _) _⟩
      case measure => simp [intOf]; omega
    · go_wp2_with fail
      go_ret
      exact ⟨_, _, rfl, by rw [fillV_all _ _ (by rw [List.length_map, hN'.out]; omega)] at hown; exact hown, hb⟩
set_option maxHeartbeats 400000 in
theorem laws_toCard (a : Option Addr) (c : Nat) (xs : List Int) (w : World) (hx : RI w a xs) (hn : xs.length ≤ 1048576) :
    Calls Tryz.prog 11 #[.agg #[.slice a xs.length c]] w fun e w' => ∃ a' c', e = .returned (.agg #[.slice a' xs.length c']) ∧ w'.ownsRow w.heap.size 2 1 (.slice a' xs.length c') xs.length (xs.map (Value.int .i64)) ∧ Below w.heap.size w w' := by
  have hb3 := Lib.hid (below_alloc3 w (.cells #[.slice a xs.length c] 27) (.cells #[.slice none 0 0] 30) (.cells #[.slice none 0 0] 30))
  go_enter Tryz.func11, Tryz.ntmps11
  go_wp2_with fail
  refine (laws_toInt64S a c xs _ (hx.kept hb3.out) hn).mono ?_
  rintro e w4 ⟨a4, c4, rfl, hown, hb4⟩
  obtain ⟨hc, hf⟩ := bcell hb4
  have hs := hb4.size
  simp only [World.size_alloc] at hs
  have hown' := Lib.hid hown
  have hb4' := Lib.hid hb4
  clear hown hb4
  go_wp2_with fail
  have hlt : w.heap.size + 1 < w4.heap.size := by omega
  refine bodyPost_ret (v := .agg #[.slice a4 xs.length c4]) (by simp [results, Tryz.results11, go_sem, hc]) rfl ⟨_, _, rfl, ?_, ?_⟩
  · exact own_mono (ownsRow_setCell_below (ownsRow_setCell_below hown'.out (by simp) _) (by simp) _) (by simp; omega)
  · exact ((bthen hb3.out hb4'.out).setCell (by simp; omega) _).setCell (by simp) _

end Go.Proofs.YtcbjfgjlhjjpiaaGreatDoor
namespace Go.Proofs.YtcbjfgjlhjjpiaaGreatDoor
open Go.RowKit
set_option maxRecDepth 100000
set_option linter.unusedVariables false
set_option linter.unusedSimpArgs false
set_option linter.unnecessarySimpa false

theorem Tryz.info_byte : (Tryz.prog.info? 5).map (fun i => (i.zero, i.size, i.bytes)) = some (some (.int .u8 0), 1, 1) := by kernel_rfl
theorem Tryz.info_string : (Tryz.prog.info? 9).map (fun i => (i.zero, i.size, i.bytes)) = some (some (.string ⟨#[]⟩), 1, 16) := by kernel_rfl
/-- a letter of a number -/
def digU (k : Nat) : UInt8 := UInt8.ofNat (48 + k % 10)
theorem digU_is (k : Nat) : ((digU k).toNat : Int) = 48 + (k : Int) % 10 := by
  unfold digU; rw [UInt8.toNat_ofNat', Nat.mod_eq_of_lt (by omega)]; omega
/-- the digits of a number ahead of a text -/
def digS (k : Nat) (s : ByteArray) : ByteArray := if h : k = 0 then s else digS (k / 10) (⟨#[digU k]⟩ ++ s)
termination_by k
decreasing_by omega
theorem digS_zero (s : ByteArray) : digS 0 s = s := by rw [digS]; simp
theorem digS_step {k : Nat} (h : 0 < k) (s : ByteArray) : digS k s = digS (k / 10) (⟨#[digU k]⟩ ++ s) := by rw [digS]; simp [Nat.ne_of_gt h]
/-- the mark k as a text -/
def markS (k : Int) : ByteArray := ⟨#[109]⟩ ++ digS k.toNat ⟨#[]⟩
set_option maxHeartbeats 400000 in
theorem laws_markText (k : Int) (w : World) (h0 : 1 ≤ k) (h1 : k ≤ 33554432) :
    Calls Tryz.prog 121 #[.int .i64 k] w fun e w' => e = .returned (.string (markS k)) ∧ Below w.heap.size w w' := by
  obtain ⟨n, rfl⟩ := Int.eq_ofNat_of_zero_le (show 0 ≤ k by omega)
  have hf := Lib.hid (show markS (n : Int) = ⟨#[109]⟩ ++ digS n ⟨#[]⟩ from rfl)
  go_enter Tryz.func121, Tryz.ntmps121
  go_wp2_with fail
  go_loopw [0, 3] (fun p q wr => ∃ (j : Nat) (s : ByteArray), p = .int .i64 j ∧ q = .string s ∧ s.size + j ≤ n ∧ Hid (digS j s = digS n ⟨#[]⟩) ∧ Below w.heap.size w wr) (fun p _ _ => (intOf p).toNat)
  case atStart => exact ⟨n, _, rfl, rfl, by show (0 : Nat) + n ≤ n; omega, Lib.hid rfl, Below.refl _ _⟩
  case round =>
    obtain ⟨j, s, rfl, rfl, hsz, hd, hb⟩ := hrel
    by_cases hj : 0 < j
    · have hst := Lib.hid (digS_step hj s)
      have hrow : RB (wr.alloc (.cells #[.int .u8 (48 + (j : Int) % 10)] 5)) (some ⟨wr.heap.size, 0, none⟩) [digU j] := by
        intro i v hi
        match i with
        | 0 => 
          simp only [List.map_cons, List.getElem?_cons_zero, Option.some.injEq] at hi
          subst hi
          exact ⟨_, _, rfl, by simp [go_sem, byteV, digU_is]⟩
        | i + 1 => simp at hi
      have hcv := run_text (P := Tryz.prog) _ 43 9 5 _ 1 [digU j] Tryz.underlying43 Tryz.underlying5 Tryz.underlying9 (by simp) hrow
      simp only [List.length_singleton] at hcv
      have hs1 : (⟨#[digU j]⟩ : ByteArray).size = 1 := rfl
      clear hrow
      go_wp2_with fail
      go_roundw
      case rel => exact ⟨j / 10, _, by go_num, rfl, by rw [ByteArray.size_append', hs1]; omega, Lib.hid (by rw [← hst.out]; exact hd.out), hb.alloc hb.size _⟩
      case measure => simp [intOf]; omega
    · go_wp2_with fail
      go_ret
      obtain rfl : j = 0 := by omega
      exact ⟨by rw [hf.out, ← hd.out, digS_zero]; rfl, hb⟩
def marksS (k : Int) (n : Nat) : List ByteArray := (List.range n).map fun (j : Nat) => markS (k + (j : Int))
theorem marksS_length (k : Int) (n : Nat) : (marksS k n).length = n := by simp [marksS]
theorem marksS_at (k : Int) {n j : Nat} (h : j < n) : (marksS k n)[j]? = some (markS (k + j)) := by simp [marksS, h]
def markUpS (k : Int) (ss : List ByteArray) (j : Nat) : List ByteArray := marksS k j ++ ss.drop j
theorem markUpS_zero (k : Int) (ss : List ByteArray) : markUpS k ss 0 = ss := by simp [markUpS, marksS]
theorem markUpS_all (k : Int) (ss : List ByteArray) {j : Nat} (h : j = ss.length) : markUpS k ss j = marksS k ss.length := by subst h; simp [markUpS]
theorem markUpS_set (k : Int) (ss : List ByteArray) {j : Nat} (h : j < ss.length) : ((markUpS k ss j).map Value.string).set j (.string (markS (k + j))) = (markUpS k ss (j + 1)).map Value.string := by
  have h1 : (marksS k j).length = j := marksS_length k j
  rw [markUpS, markUpS, List.map_append, List.set_append_right _ _ (by simp [h1]), List.length_map, h1, Nat.sub_self, List.drop_eq_getElem_cons h, List.map_cons, List.set_cons_zero]
  simp [marksS, List.range_succ]
theorem markUpS_at (k : Int) (ss : List ByteArray) {j : Nat} (h : j < ss.length) : ∃ v, ((markUpS k ss j).map Value.string)[j]? = some v := by
  have h1 : (marksS k j).length = j := marksS_length k j
  exact get_some (by simp [markUpS, h1]; omega)
set_option maxHeartbeats 400000 in
theorem laws_markStringS (lo hi : Nat) (a : Option Addr) (c : Nat) (ss : List ByteArray) (k : Int) (w : World) (h : OS lo hi w 9 a c ss) (h0 : 1 ≤ k) (h1 : k ≤ 16777216) (hn : ss.length ≤ 1048576) (hhi : hi ≤ w.heap.size) :
    Calls Tryz.prog 58 #[.slice a ss.length c, .int .i64 k] w fun e w' => e = .returned (.int .i64 (k + (ss.length : Int))) ∧ Within lo hi w w' ∧ OS lo hi w' 9 a c (marksS k ss.length) := by
  generalize hN : ss.length = n at *
  have hN' := Lib.hid hN
  clear hN
  have h' : OV lo hi w 9 1 a n c ((markUpS k ss 0).map Value.string) := by rw [markUpS_zero, ← hN'.out]; exact h
  go_enter Tryz.func58, Tryz.ntmps58
  go_wp2_with fail
  go_loopw [1, 5] (fun q i wr => ∃ j : Nat, j ≤ n ∧ i = .int .i64 j ∧ q = .int .i64 (k + j) ∧ OV lo hi wr 9 1 a n c ((markUpS k ss j).map Value.string) ∧ Within lo hi w wr ∧ hi ≤ wr.heap.size) (fun _ i _ => n - (intOf i).toNat)
  case atStart => exact ⟨0, by omega, rfl, by simp, h', Within.refl _ _ _, hhi⟩
  case round =>
    obtain ⟨j, hj, rfl, rfl, ho, hw, hh⟩ := hrel
    by_cases hlt : j < n
    · obtain ⟨g, rfl, hg1, hg2⟩ := ho.addr (by omega)
      obtain ⟨x, hx⟩ := markUpS_at k ss (j := j) (by rw [hN'.out]; exact hlt)
      have hm := Lib.hid (laws_markText (k + j) wr (by omega) (by omega))
      go_wp2_with fail
      refine hm.out.mono ?_
      rintro e w2 ⟨rfl, hb2⟩
      have ho2 := ho.kept hb2
      have hc2 := (ho2.1.cellAt j (by omega)).trans hx
      have hf2 := ho2.1.frozenAt j
      have hx' := Lib.hid hx
      have hw2 := Lib.hid (hw.trans (Within.of_below hb2))
      have hh2 := hb2.size
      have ho3 := Lib.hid ho2
      clear hx hb2 ho2 ho
      go_wp2_with fail
      all_goals
        go_roundw
        case rel => exact ⟨j + 1, by omega, by go_num, by go_num, by rw [← markUpS_set _ _ (by rw [hN'.out]; exact hlt)]; exact ho3.out.store j _, hw2.out.setCell hg1 hg2 _, by simp only [World.size_setCell]; omega⟩
        case measure => simp [intOf]; omega
    · go_wp2_with fail
      go_ret
      have e : j = n := by omega
      subst e
      exact ⟨rfl, hw, by rw [markUpS_all _ _ hN'.out.symm, hN'.out] at ho; unfold OS; rw [marksS_length]; exact ho⟩
set_option maxHeartbeats 400000 in
theorem laws_eqStringS_same (a b : Option Addr) (ca cb : Nat) (ss : List ByteArray) (w : World) (hx : RS w a ss) (hy : RS w b ss) (h1 : ss.length ≤ maxLen) :
    Calls Tryz.prog 57 #[.slice a ss.length ca, .slice b ss.length cb] w fun e w' => e = .returned (.bool true) ∧ Below w.heap.size w w' := by
  unfold maxLen at h1
  generalize hN : ss.length = n at *
  have hN' := Lib.hid hN
  clear hN
  go_enter Tryz.func57, Tryz.ntmps57
  go_wp2_with fail
  go_loopw [5] (fun i wr => ∃ k : Nat, k ≤ n ∧ i = .int .i64 k ∧ Below w.heap.size w wr) (fun i _ => n - (intOf i).toNat)
  case atStart => exact ⟨0, by omega, rfl, Below.refl _ _⟩
  case round =>
    obtain ⟨k, hk, rfl, hb⟩ := hrel
    by_cases hlt : k < n
    · obtain ⟨x, hxk⟩ := get_some (l := ss) (k := k) (by rw [hN'.out]; exact hlt)
      obtain ⟨b1, o1, rfl, hc1⟩ := (hx.kept hb).at hxk
      obtain ⟨b2, o2, rfl, hc2⟩ := (hy.kept hb).at hxk
      clear hxk
      go_wp2_with fail
      first | go_quiet (fail) | fail
      go_wp2_with fail
      all_goals
        go_roundw
        case rel => exact ⟨k + 1, by omega, by go_num, below_drewN hb _⟩
        case measure => simp [intOf]; omega
    · go_wp2_with fail
      go_ret
      exact ⟨rfl, hb⟩
end Go.Proofs.YtcbjfgjlhjjpiaaGreatDoor
namespace Go.Proofs.YtcbjfgjlhjjpiaaGreatDoor
open Go.RowKit
set_option maxRecDepth 100000
set_option linter.unusedVariables false
set_option linter.unusedSimpArgs false
set_option linter.unnecessarySimpa false

/-- how many things a list of texts holds: the texts, and their letters -/
def textsSz (ss : List ByteArray) : Nat := ss.length + (ss.map ByteArray.size).sum
def textsUp (ss : List ByteArray) (k : Nat) : Nat := ((ss.take k).map ByteArray.size).sum
theorem textsUp_succ {ss : List ByteArray} {k : Nat} {x : ByteArray} (h : ss[k]? = some x) : textsUp ss (k + 1) = textsUp ss k + x.size := by
  unfold textsUp; rw [List.take_add_one, h]; simp
theorem textsUp_le (ss : List ByteArray) (k : Nat) : textsUp ss k ≤ (ss.map ByteArray.size).sum := by
  have h : (ss.map ByteArray.size).sum = ((ss.take k).map ByteArray.size).sum + ((ss.drop k).map ByteArray.size).sum := by rw [← List.sum_append, ← List.map_append, List.take_append_drop]
  unfold textsUp
  omega
theorem textsUp_all {ss : List ByteArray} {k : Nat} (h : ss.length ≤ k) : textsUp ss k = (ss.map ByteArray.size).sum := by unfold textsUp; rw [List.take_of_length_le h]
theorem textsSz_at {ss : List ByteArray} {k : Nat} {x : ByteArray} (h : ss[k]? = some x) : x.size + ss.length ≤ textsSz ss := by
  have h1 := textsUp_le ss (k + 1)
  rw [textsUp_succ h] at h1
  unfold textsSz; omega
theorem textsSz_len (ss : List ByteArray) : ss.length ≤ textsSz ss := by unfold textsSz; omega
theorem textsSz_mem {us : List ByteArray} {u : ByteArray} (h : u ∈ us) (hm : textsSz us ≤ 1048576) : u.size ≤ 1048576 := by
  obtain ⟨k, hk⟩ := List.getElem?_of_mem h
  have := textsSz_at hk
  omega
set_option maxHeartbeats 1000000 in
theorem laws_szStringS (a : Option Addr) (c : Nat) (ss : List ByteArray) (left : Int) (w : World) (hx : RS w a ss) (h0 : 0 ≤ left) (h1 : left ≤ 1048576) (hn : ss.length ≤ maxLen ∧ ∀ s ∈ ss, s.size ≤ maxLen) :
    Calls Tryz.prog 55 #[.slice a ss.length c, .int .i64 left] w fun e w' => e = .returned (.int .i64 (szI left (textsSz ss))) ∧ Below w.heap.size w w' := by
  obtain ⟨hn, hns⟩ := hn
  unfold maxLen at hn
  have hns' := Lib.hid hns
  clear hns
  have hd := textsSz_len ss
  by_cases hneg : left - (ss.length : Int) < 0
  · have hs := Lib.hid (show szI left (textsSz ss) = -1 by unfold szI; rw [if_pos (by omega)])
    clear hd
    go_enter Tryz.func55, Tryz.ntmps55
    go_wp2_with fail
    go_ret
    exact ⟨ret_int (by rw [hs.out]), Below.refl _ _⟩
  · have hde := Lib.hid (show textsSz ss = ss.length + (ss.map ByteArray.size).sum from rfl)
    generalize hN : ss.length = n at *
    have hN' := Lib.hid hN
    clear hN hd
    go_enter Tryz.func55, Tryz.ntmps55
    go_wp2_with fail
    go_loopw [1, 5] (fun l i wr => ∃ k : Nat, k ≤ n ∧ i = .int .i64 k ∧ Hid ((n : Int) + textsUp ss k ≤ left) ∧ l = .int .i64 (left - n - textsUp ss k) ∧ Below w.heap.size w wr) (fun _ i _ => n - (intOf i).toNat)
    case atStart => exact ⟨0, by omega, rfl, Lib.hid (by simp [textsUp]; omega), by simp [textsUp], Below.refl _ _⟩
    case round =>
      obtain ⟨k, hk, rfl, hle, rfl, hb⟩ := hrel
      by_cases hlt : k < n
      · obtain ⟨x, hxk⟩ := get_some (l := ss) (k := k) (by rw [hN'.out]; exact hlt)
        obtain ⟨b1, o1, rfl, hc1⟩ := (hx.kept hb).at hxk
        have hsucc := Lib.hid (textsUp_succ hxk)
        have hl0 := hle.out
        generalize hL : textsUp ss k = L at *
        have hL' := Lib.hid hL
        have hlm : x.size ≤ maxLen := hns'.out x (List.mem_of_getElem? hxk)
        unfold maxLen at hlm
        clear hxk hL
        by_cases hsm : left - n - L - (x.size : Int) < 0
        · go_wp2_with fail
          first | go_quiet (fail) | skip
          go_wp2_with fail
          go_ret
          have hle2 := textsUp_le ss (k + 1)
          have h3 := hsucc.out
          have h4 := hde.out
          exact ⟨ret_int (by unfold szI; rw [if_pos (by omega)]), by first | exact hb | exact below_drewN hb _⟩
        · have hnn : 0 ≤ left - n - L - (x.size : Int) := by omega
          have hnn2 : left - n - L - (x.size : Int) ≤ 1048576 := by omega
          go_wp2_with fail
          first | go_quiet (fail) | skip
          go_wp2_with fail
          go_roundw
          case rel =>
            have h3 := hsucc.out
            exact ⟨k + 1, by omega, by go_num, Lib.hid (by omega), by rw [h3]; go_num, by first | exact hb | exact below_drewN hb _⟩
          case measure => simp [intOf]; omega
      · go_wp2_with fail
        go_ret
        have h3 := textsUp_all (ss := ss) (k := k) (by rw [hN'.out]; omega)
        have h4 := hde.out
        have h5 := hle.out
        exact ⟨ret_int (by unfold szI; rw [if_neg (by omega)]; omega), hb⟩
theorem laws_szStringS_over (a : Option Addr) (c : Nat) (x : List ByteArray) (left : Int) (w : World) (hx : RS w a x) (h0 : 0 ≤ left) (h1 : left ≤ 1048576) (hn : x.length ≤ maxLen ∧ ∀ s ∈ x, s.size ≤ maxLen) (h : left < (textsSz x : Int)) :
    Calls Tryz.prog 55 #[.slice a x.length c, .int .i64 left] w fun e w' => e = .returned (.int .i64 (-1)) ∧ Below w.heap.size w w' :=
  (laws_szStringS a c x left w hx h0 h1 hn).mono fun e w' h' => ⟨by rw [h'.1]; unfold szI; rw [if_pos (by omega)], h'.2⟩
theorem laws_szStringS_ok (a : Option Addr) (c : Nat) (x : List ByteArray) (left : Int) (w : World) (hx : RS w a x) (h0 : 0 ≤ left) (h1 : left ≤ 1048576) (hn : x.length ≤ maxLen ∧ ∀ s ∈ x, s.size ≤ maxLen) (h : (textsSz x : Int) ≤ left) :
    Calls Tryz.prog 55 #[.slice a x.length c, .int .i64 left] w fun e w' => e = .returned (.int .i64 (left - (textsSz x : Int))) ∧ Below w.heap.size w w' :=
  (laws_szStringS a c x left w hx h0 h1 hn).mono fun e w' h' => ⟨by rw [h'.1]; unfold szI; rw [if_neg (by omega)], h'.2⟩
set_option maxHeartbeats 400000 in
theorem laws_toStringS (a : Option Addr) (c : Nat) (xs : List ByteArray) (w : World) (hx : RS w a xs) (hn : textsSz xs ≤ 1048576) :
    Calls Tryz.prog 56 #[.slice a xs.length c] w fun e w' => ∃ a' c', e = .returned (.slice a' xs.length c') ∧ w'.ownsRow w.heap.size 9 1 (.slice a' xs.length c') xs.length (xs.map Value.string) ∧ Below w.heap.size w w' := by
  obtain ⟨i0, hi, hz0, hz1, hz2⟩ := info_parts Tryz.info_string
  have hdl := textsSz_len xs
  have hn1 : xs.length ≤ 1048576 := by omega
  clear hn hdl
  generalize hN : xs.length = n at *
  have hN' := Lib.hid hN
  clear hN
  have hm := Lib.hid (show n ≤ maxLen by simp [maxLen]; omega)
  go_enter Tryz.func56, Tryz.ntmps56
  go_wp2_with (at_make; refine wpList_make_full _ rfl _ _ 69 rfl w.heap.size 9 i0 (.string ⟨#[]⟩) 1 Tryz.underlying69 hi hz0 hz1 _ _ _ _ n rfl rfl rfl rfl (by rw [hz2]; omega) hm.out (by exact Nat.le_refl _) ?_; intro w1 hown hgrow)
  have hown0 : w1.ownsRow w.heap.size 9 1 (.slice (some ⟨w.heap.size, 0, none⟩) n n) n (fillV (.string ⟨#[]⟩) (xs.map Value.string) 0) := by
    rw [fillV_zero, List.length_map, hN'.out]
    simpa [Value.cells, toList_madeCells_one] using hown
  have hb0 : Below w.heap.size w w1 := (Below.refl _ _).grown hgrow (Nat.le_refl _) (by simp)
  clear hown hgrow
  go_loopw [4] (fun i wr => ∃ k : Nat, k ≤ n ∧ i = .int .i64 k ∧ wr.ownsRow w.heap.size 9 1 (.slice (some ⟨w.heap.size, 0, none⟩) n n) n (fillV (.string ⟨#[]⟩) (xs.map Value.string) k) ∧ Below w.heap.size w wr) (fun i _ => n - (intOf i).toNat)
  case atStart => exact ⟨0, by omega, rfl, hown0, hb0⟩
  case round =>
    obtain ⟨k, hk, rfl, hown, hb⟩ := hrel
    by_cases hlt : k < n
    · obtain ⟨x, hxk⟩ := get_some (l := xs) (k := k) (by rw [hN'.out]; exact hlt)
      obtain ⟨b1, o1, rfl, hc1⟩ := (hx.kept hb).at hxk
      have hc2 := (hown.cellAt k (by omega)).trans (fillV_at _ _ (by rw [List.length_map, hN'.out]; exact hlt))
      have hf2 := hown.frozenAt k
      have hxk' := Lib.hid hxk
      clear hxk
      go_wp2_with fail
      go_roundw
      case rel => exact ⟨k + 1, by omega, by go_num, by rw [← fillV_set _ _ (map_at hxk'.out)]; exact (hown.stored k _).1, hb.setCell (Nat.le_refl _) _⟩
      case measure => simp [intOf]; omega
    · go_wp2_with fail
      go_ret
      exact ⟨_, _, rfl, by rw [fillV_all _ _ (by rw [List.length_map, hN'.out]; omega)] at hown; exact hown, hb⟩
end Go.Proofs.YtcbjfgjlhjjpiaaGreatDoor
namespace Go.Proofs.YtcbjfgjlhjjpiaaGreatDoor
open Go.RowKit
set_option maxRecDepth 100000
set_option linter.unusedVariables false
set_option linter.unusedSimpArgs false
set_option linter.unnecessarySimpa false

theorem laws_f6big (a : Option Addr) (n c : Nat) (w : World) (hn : n ≤ maxLen) :
    Calls Tryz.prog 18 #[.slice a n c] w fun e w' => e = .returned (.bool (decide (4096 < n))) ∧ w' = w := by
  unfold maxLen at hn
  by_cases h : 4096 < n
  · have hd : decide ((4096 : Int) < (n : Int)) = true := decide_eq_true (by omega)
    have hd2 : decide (4096 < n) = true := decide_eq_true h
    go_enter Tryz.func18, Tryz.ntmps18
    go_wp2_with fail
    go_ret
    exact ⟨by first | rfl | exact ret_bool (by simp [*]), rfl⟩
  · have hd : decide ((4096 : Int) < (n : Int)) = false := decide_eq_false (by omega)
    have hd2 : decide (4096 < n) = false := decide_eq_false h
    go_enter Tryz.func18, Tryz.ntmps18
    go_wp2_with fail
    go_ret
    exact ⟨by first | rfl | exact ret_bool (by simp [*]), rfl⟩
set_option maxHeartbeats 400000 in
theorem laws_f6ints (a b : Option Addr) (ca cb : Nat) (xs ys : List Int) (w : World) (hx : RI w a xs) (hy : RI w b ys) (h1 : xs.length ≤ maxLen) (h2 : ys.length ≤ maxLen) :
    Calls Tryz.prog 35 #[.slice a xs.length ca, .slice b ys.length cb] w fun e w' => e = .returned (.bool (eqB xs ys)) ∧ Below w.heap.size w w' := by
  unfold maxLen at h1 h2
  by_cases hl : xs.length = ys.length
  · generalize hn : xs.length = n at *
    have hl' := Lib.hid hl
    have hn' := Lib.hid hn
    clear hl hn
    rw [← hl'.out] at h2 ⊢
    go_enter Tryz.func35, Tryz.ntmps35
    go_wp2_with fail
    go_loopw [5] (fun i wr => ∃ k : Nat, k ≤ n ∧ i = .int .i64 k ∧ Hid (xs.take k = ys.take k) ∧ Below w.heap.size w wr) (fun i _ => n - (intOf i).toNat)
    case atStart => exact ⟨0, by omega, rfl, Lib.hid rfl, Below.refl _ _⟩
    case round =>
      obtain ⟨k, hk, rfl, hall, hb⟩ := hrel
      by_cases hlt : k < n
      · obtain ⟨x, hxk⟩ := get_some (l := xs) (k := k) (by rw [hn'.out]; exact hlt)
        obtain ⟨y, hyk⟩ := get_some (l := ys) (k := k) (by rw [← hl'.out]; exact hlt)
        obtain ⟨b1, o1, rfl, hc1⟩ := (hx.kept hb).at hxk
        obtain ⟨b2, o2, rfl, hc2⟩ := (hy.kept hb).at hyk
        have hxk' := Lib.hid hxk
        have hyk' := Lib.hid hyk
        clear hxk hyk
        go_wp2_with fail
        go_quiet (fail)
        go_wp2_with fail
        · go_ret
          have hne := ‹(x != y) = true›
          exact ⟨ret_bool (eqB_no (ne_of_at hxk'.out hyk'.out (by simpa using hne))).symm, below_drewN hb _⟩
        · go_roundw
          case rel =>
            have he := ‹(x != y) = false›
            exact ⟨k + 1, by omega, by go_num, Lib.hid (take_eq_succ hxk'.out hyk'.out hall.out (by simpa using he)), below_drewN hb _⟩
          case measure => simp [intOf]; omega
      · go_wp2_with fail
        go_ret
        exact ⟨ret_bool (eqB_yes (xs := xs) (ys := ys) (eq_of_take (by rw [hn'.out]; omega) (by rw [← hl'.out]; omega) hall.out)).symm, hb⟩
  · have hne := Lib.hid (eqB_no (xs := xs) (ys := ys) (fun e => hl (by rw [e])))
    have hd : ((xs.length : Int) != (ys.length : Int)) = true := by simp; omega
    go_enter Tryz.func35, Tryz.ntmps35
    go_wp2_with fail
    go_ret
    exact ⟨ret_bool (by rw [hne.out]), Below.refl _ _⟩
set_option maxHeartbeats 400000 in
theorem laws_f6texts (a b : Option Addr) (ca cb : Nat) (xs ys : List ByteArray) (w : World) (hx : RS w a xs) (hy : RS w b ys) (h1 : xs.length ≤ maxLen) (h2 : ys.length ≤ maxLen) :
    Calls Tryz.prog 51 #[.slice a xs.length ca, .slice b ys.length cb] w fun e w' => e = .returned (.bool (eqB xs ys)) ∧ Below w.heap.size w w' := by
  unfold maxLen at h1 h2
  by_cases hl : xs.length = ys.length
  · generalize hn : xs.length = n at *
    have hl' := Lib.hid hl
    have hn' := Lib.hid hn
    clear hl hn
    rw [← hl'.out] at h2 ⊢
    go_enter Tryz.func51, Tryz.ntmps51
    go_wp2_with fail
    go_loopw [5] (fun i wr => ∃ k : Nat, k ≤ n ∧ i = .int .i64 k ∧ Hid (xs.take k = ys.take k) ∧ Below w.heap.size w wr) (fun i _ => n - (intOf i).toNat)
    case atStart => exact ⟨0, by omega, rfl, Lib.hid rfl, Below.refl _ _⟩
    case round =>
      obtain ⟨k, hk, rfl, hall, hb⟩ := hrel
      by_cases hlt : k < n
      · obtain ⟨x, hxk⟩ := get_some (l := xs) (k := k) (by rw [hn'.out]; exact hlt)
        obtain ⟨y, hyk⟩ := get_some (l := ys) (k := k) (by rw [← hl'.out]; exact hlt)
        obtain ⟨b1, o1, rfl, hc1⟩ := (hx.kept hb).at hxk
        obtain ⟨b2, o2, rfl, hc2⟩ := (hy.kept hb).at hyk
        have hxk' := Lib.hid hxk
        have hyk' := Lib.hid hyk
        clear hxk hyk
        go_wp2_with fail
        go_quiet (fail)
        go_wp2_with fail
        · go_ret
          exact ⟨ret_bool (eqB_no (ne_of_at hxk'.out hyk'.out (fun e => by subst e; simp_all))).symm, below_drewN hb _⟩
        · go_roundw
          case rel =>
            have he : x = y := by
              rename_i hh
              have h2 : x.toList = y.toList := by simpa using hh
              rw [toList_eq, toList_eq] at h2
              exact ByteArray.ext (Array.ext' h2)
            exact ⟨k + 1, by omega, by go_num, Lib.hid (take_eq_succ hxk'.out hyk'.out hall.out he), below_drewN hb _⟩
          case measure => simp [intOf]; omega
      · go_wp2_with fail
        go_ret
        exact ⟨ret_bool (eqB_yes (xs := xs) (ys := ys) (eq_of_take (by rw [hn'.out]; omega) (by rw [← hl'.out]; omega) hall.out)).symm, hb⟩
  · have hne := Lib.hid (eqB_no (xs := xs) (ys := ys) (fun e => hl (by rw [e])))
    have hd : ((xs.length : Int) != (ys.length : Int)) = true := by simp; omega
    go_enter Tryz.func51, Tryz.ntmps51
    go_wp2_with fail
    go_ret
    exact ⟨ret_bool (by rw [hne.out]), Below.refl _ _⟩
end Go.Proofs.YtcbjfgjlhjjpiaaGreatDoor
