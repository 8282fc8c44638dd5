/- The walks of the functions on names and program cards: each returns what the plain function on the text's bytes says; memory is as it was. -/
import Derived.Test.YtcbjfgjlhjjpiaaDoorProg
import Derived.Test.YtcbjfgjlhjjpiaaDoorBase
namespace Go.Proofs.YtcbjfgjlhjjpiaaDoor
open Go.RowKit
set_option maxRecDepth 100000

theorem impl_isSmall (c : Int) (w : World) : Calls Tryd.prog 124 #[.int .u8 c] w fun e w' => e = .returned (.bool (smallB c)) ∧ w = w' := by
  go_enter Tryd.func124, Tryd.ntmps124
  go_wp2
  all_goals go_ret
  all_goals exact ⟨ret_bool (by unfold smallB; simp [*]; try omega), rfl⟩
theorem impl_isDigit (c : Int) (w : World) : Calls Tryd.prog 125 #[.int .u8 c] w fun e w' => e = .returned (.bool (digitB c)) ∧ w = w' := by
  go_enter Tryd.func125, Tryd.ntmps125
  go_wp2
  all_goals go_ret
  all_goals exact ⟨ret_bool (by unfold digitB; simp [*]; try omega), rfl⟩
theorem spec_l01Small (c : Int) (w : World) : Calls Tryd.prog 123 #[.int .u8 c] w fun e w' => e = .returned (.bool (smallB c)) ∧ w = w' := by
  go_enter Tryd.func123, Tryd.ntmps123
  go_wp2
  all_goals go_ret
  all_goals exact ⟨ret_bool (by unfold smallB; simp [*]; try omega), rfl⟩
theorem spec_l01Digit (c : Int) (w : World) : Calls Tryd.prog 88 #[.int .u8 c] w fun e w' => e = .returned (.bool (digitB c)) ∧ w = w' := by
  go_enter Tryd.func88, Tryd.ntmps88
  go_wp2
  all_goals go_ret
  all_goals exact ⟨ret_bool (by unfold digitB; simp [*]; try omega), rfl⟩

set_option maxHeartbeats 400000 in
theorem impl_IsName (s : ByteArray) (hs : s.size ≤ maxLen) (w : World) :
    Calls Tryd.prog 104 #[.string s] w fun e w' => e = .returned (.bool (isNameL s.data.toList)) ∧ w = w' := by
  unfold maxLen at hs
  have hl := Lib.hid (len_bytes s)
  by_cases h0 : s.size < 1 ∨ 12 < s.size
  · have hf := Lib.hid (isName_len (l := s.data.toList) (by rw [hl.out]; exact h0))
    rcases h0 with h0 | h0
    all_goals
      go_enter Tryd.func104, Tryd.ntmps104
      go_wp2_with fail
      go_ret
      exact ⟨ret_bool (by rw [hf.out]), rfl⟩
  obtain ⟨h1, h2⟩ := not_or.1 h0
  clear h0
  have g0 := Lib.hid (get_bytes s 0 (by omega))
  cases h3 : smallB (s[0].toNat : Int)
  · have hf := Lib.hid (isName_first g0.out h3)
    go_enter Tryd.func104, Tryd.ntmps104
    go_wp2_with (go_at_call 124; ((with_reducible refine (impl_isSmall _ _).mono ?_); rintro e w' ⟨rfl, rfl⟩))
    go_ret
    exact ⟨ret_bool (by rw [hf.out]), rfl⟩
  · go_enter Tryd.func104, Tryd.ntmps104
    go_wp2_with (go_at_call 124; ((with_reducible refine (impl_isSmall _ _).mono ?_); rintro e w' ⟨rfl, rfl⟩))
    go_loop [3] (fun i => ∃ k : Nat, k ≤ s.size ∧ i = .int .i64 k ∧ Hid ((s.data.toList.take k).all (fun c => nameB c.toNat) = true)) (fun i => s.size - (intOf i).toNat)
    case atStart => exact ⟨0, by omega, rfl, by simp [Hid]⟩
    case round =>
      obtain ⟨k, hk, rfl, hall⟩ := hrel
      by_cases hlt : k < s.size
      · have hget := Lib.hid (get_bytes s k hlt)
        go_wp2_with (first | (go_at_call 124; ((with_reducible refine (impl_isSmall _ _).mono ?_); rintro e w' ⟨rfl, rfl⟩)) | (go_at_call 125; ((with_reducible refine (impl_isDigit _ _).mono ?_); rintro e w' ⟨rfl, rfl⟩)))
        all_goals first
          | (go_round
             case rel => exact ⟨k + 1, by omega, by go_num, all_succ hget.out hall.out (by simp_all [nameB])⟩
             case measure => simp [intOf]; omega)
          | (go_ret; exact ⟨ret_bool (by rw [isName_not hget.out (by simp_all [nameB])]), rfl⟩)
      · go_wp2_with fail
        go_ret
        exact ⟨ret_bool (by rw [isName_yes (by rw [hl.out]; exact h1) (by rw [hl.out]; exact h2) g0.out h3 (by rw [hl.out]; omega) hall.out]), rfl⟩

set_option maxHeartbeats 400000 in
theorem spec_IsName (s : ByteArray) (hs : s.size ≤ maxLen) (w : World) :
    Calls Tryd.prog 101 #[.string s] w fun e w' => e = .returned (.bool (isNameL s.data.toList)) ∧ w = w' := by
  unfold maxLen at hs
  have hl := Lib.hid (len_bytes s)
  by_cases hE : s.size = 0
  · have hf := Lib.hid (isName_len (l := s.data.toList) (by rw [hl.out]; omega))
    obtain ⟨e1, e2⟩ := empty_text hE
    go_enter Tryd.func101, Tryd.ntmps101
    go_wp2_with fail
    go_ret
    exact ⟨ret_bool (by rw [hf.out]), rfl⟩
  obtain ⟨e1, e2⟩ := full_text hE
  by_cases h2 : 12 < s.size
  · have hf := Lib.hid (isName_len (l := s.data.toList) (by rw [hl.out]; omega))
    go_enter Tryd.func101, Tryd.ntmps101
    go_wp2_with fail
    go_ret
    exact ⟨ret_bool (by rw [hf.out]), rfl⟩
  have g0 := Lib.hid (get_bytes s 0 (by omega))
  cases h3 : smallB (s[0].toNat : Int)
  · have hf := Lib.hid (isName_first g0.out h3)
    go_enter Tryd.func101, Tryd.ntmps101
    go_wp2_with (go_at_call 123; ((with_reducible refine (spec_l01Small _ _).mono ?_); rintro e w' ⟨rfl, rfl⟩))
    go_ret
    exact ⟨ret_bool (by rw [hf.out]), rfl⟩
  · go_enter Tryd.func101, Tryd.ntmps101
    go_wp2_with (go_at_call 123; ((with_reducible refine (spec_l01Small _ _).mono ?_); rintro e w' ⟨rfl, rfl⟩))
    go_loop [3] (fun i => ∃ k : Nat, k ≤ s.size ∧ i = .int .i64 k ∧ Hid ((s.data.toList.take k).all (fun c => nameB c.toNat) = true)) (fun i => s.size - (intOf i).toNat)
    case atStart => exact ⟨0, by omega, rfl, by simp [Hid]⟩
    case round =>
      obtain ⟨k, hk, rfl, hall⟩ := hrel
      by_cases hlt : k < s.size
      · have hget := Lib.hid (get_bytes s k hlt)
        go_wp2_with (first | (go_at_call 123; ((with_reducible refine (spec_l01Small _ _).mono ?_); rintro e w' ⟨rfl, rfl⟩)) | (go_at_call 88; ((with_reducible refine (spec_l01Digit _ _).mono ?_); rintro e w' ⟨rfl, rfl⟩)))
        all_goals first
          | (go_round
             case rel => exact ⟨k + 1, by omega, by go_num, all_succ hget.out hall.out (by simp_all [nameB])⟩
             case measure => simp [intOf]; omega)
          | (go_ret; exact ⟨ret_bool (by rw [isName_not hget.out (by simp_all [nameB])]), rfl⟩)
      · go_wp2_with fail
        go_ret
        exact ⟨ret_bool (by rw [isName_yes (by rw [hl.out]; omega) (by rw [hl.out]; exact h2) g0.out h3 (by rw [hl.out]; omega) hall.out]), rfl⟩

theorem impl_isLetter (c : Int) (w : World) : Calls Tryd.prog 63 #[.int .u8 c] w fun e w' => e = .returned (.bool (letterB c)) ∧ w = w' := by
  go_enter Tryd.func63, Tryd.ntmps63
  go_wp2
  all_goals go_ret
  all_goals exact ⟨ret_bool (by unfold letterB; simp [*]), rfl⟩
theorem spec_l05Letter (c : Int) (w : World) : Calls Tryd.prog 60 #[.int .u8 c] w fun e w' => e = .returned (.bool (letterB c)) ∧ w = w' := by
  go_enter Tryd.func60, Tryd.ntmps60
  go_wp2
  all_goals go_ret
  all_goals exact ⟨ret_bool (by unfold letterB; simp [*]), rfl⟩
theorem impl_inside (n low high : Int) (w : World) : Calls Tryd.prog 64 #[.int .i64 n, .int .i64 low, .int .i64 high] w fun e w' => e = .returned (.bool (inB n low high)) ∧ w = w' := by
  go_enter Tryd.func64, Tryd.ntmps64
  go_wp2
  all_goals go_ret
  all_goals exact ⟨ret_bool (by unfold inB; simp [*]; try omega), rfl⟩
theorem spec_l00In (n low high : Int) (w : World) : Calls Tryd.prog 61 #[.int .i64 n, .int .i64 low, .int .i64 high] w fun e w' => e = .returned (.bool (inB n low high)) ∧ w = w' := by
  go_enter Tryd.func61, Tryd.ntmps61
  go_wp2
  all_goals go_ret
  all_goals exact ⟨ret_bool (by unfold inB; simp [*]; try omega), rfl⟩

set_option maxHeartbeats 400000 in
theorem impl_ValidProgram (s : ByteArray) (hs : s.size ≤ maxLen) (w : World) :
    Calls Tryd.prog 30 #[.string s] w fun e w' => e = .returned (.bool (validProgL s.data.toList)) ∧ w = w' := by
  unfold maxLen at hs
  have hl := Lib.hid (len_bytes s)
  go_enter Tryd.func30, Tryd.ntmps30
  go_wp2_with fail
  go_loop [3] (fun i => ∃ k : Nat, k ≤ s.size ∧ i = .int .i64 k ∧ Hid ((s.data.toList.take k).all (fun c => letterB c.toNat) = true)) (fun i => s.size - (intOf i).toNat)
  case atStart => exact ⟨0, by omega, rfl, by simp [Hid]⟩
  case round =>
    obtain ⟨k, hk, rfl, hall⟩ := hrel
    by_cases hlt : k < s.size
    · have hget := Lib.hid (get_bytes s k hlt)
      go_wp2_with (first | (go_at_call 63; ((with_reducible refine (impl_isLetter _ _).mono ?_); rintro e w' ⟨rfl, rfl⟩)))
      all_goals first
        | (go_round
           case rel => exact ⟨k + 1, by omega, by go_num, all_succ hget.out hall.out (by simp_all)⟩
           case measure => simp [intOf]; omega)
        | (go_ret; exact ⟨ret_bool (by rw [validProg_not hget.out (by simp_all)]), rfl⟩)
    · go_wp2_with (first | (go_at_call 64; ((with_reducible refine (impl_inside _ _ _ _).mono ?_); rintro e w' ⟨rfl, rfl⟩)))
      go_ret
      exact ⟨ret_bool (by rw [validProg_end (by rw [hl.out]; omega) hall.out, hl.out]), rfl⟩
set_option maxHeartbeats 400000 in
theorem spec_l05Ok (s : ByteArray) (hs : s.size ≤ maxLen) (w : World) :
    Calls Tryd.prog 28 #[.string s] w fun e w' => e = .returned (.bool (validProgL s.data.toList)) ∧ w = w' := by
  unfold maxLen at hs
  have hl := Lib.hid (len_bytes s)
  go_enter Tryd.func28, Tryd.ntmps28
  go_wp2_with fail
  go_loop [3] (fun i => ∃ k : Nat, k ≤ s.size ∧ i = .int .i64 k ∧ Hid ((s.data.toList.take k).all (fun c => letterB c.toNat) = true)) (fun i => s.size - (intOf i).toNat)
  case atStart => exact ⟨0, by omega, rfl, by simp [Hid]⟩
  case round =>
    obtain ⟨k, hk, rfl, hall⟩ := hrel
    by_cases hlt : k < s.size
    · have hget := Lib.hid (get_bytes s k hlt)
      go_wp2_with (first | (go_at_call 60; ((with_reducible refine (spec_l05Letter _ _).mono ?_); rintro e w' ⟨rfl, rfl⟩)))
      all_goals first
        | (go_round
           case rel => exact ⟨k + 1, by omega, by go_num, all_succ hget.out hall.out (by simp_all)⟩
           case measure => simp [intOf]; omega)
        | (go_ret; exact ⟨ret_bool (by rw [validProg_not hget.out (by simp_all)]), rfl⟩)
    · go_wp2_with (first | (go_at_call 61; ((with_reducible refine (spec_l00In _ _ _ _).mono ?_); rintro e w' ⟨rfl, rfl⟩)))
      go_ret
      exact ⟨ret_bool (by rw [validProg_end (by rw [hl.out]; omega) hall.out, hl.out]), rfl⟩

end Go.Proofs.YtcbjfgjlhjjpiaaDoor
