/- The walks of the functions on names and program cards: each returns what the plain function on the text's bytes says; memory is as it was. -/
import Derived.Test.YtcbjfgjlhjjpiaaGreatDoorProg
import Derived.Test.YtcbjfgjlhjjpiaaGreatDoorBase
namespace Go.Proofs.YtcbjfgjlhjjpiaaGreatDoor
open Go.RowKit
set_option maxRecDepth 100000

theorem impl_isSmall (c : Int) (w : World) : Calls Tryz.prog 179 #[.int .u8 c] w fun e w' => e = .returned (.bool (smallB c)) ∧ w = w' := by
  go_enter Tryz.func179, Tryz.ntmps179
  go_wp2
  all_goals go_ret
  all_goals exact ⟨ret_bool (by unfold smallB; simp [*]; try omega), rfl⟩
theorem impl_isDigit (c : Int) (w : World) : Calls Tryz.prog 180 #[.int .u8 c] w fun e w' => e = .returned (.bool (digitB c)) ∧ w = w' := by
  go_enter Tryz.func180, Tryz.ntmps180
  go_wp2
  all_goals go_ret
  all_goals exact ⟨ret_bool (by unfold digitB; simp [*]; try omega), rfl⟩
theorem spec_l01Small (c : Int) (w : World) : Calls Tryz.prog 181 #[.int .u8 c] w fun e w' => e = .returned (.bool (smallB c)) ∧ w = w' := by
  go_enter Tryz.func181, Tryz.ntmps181
  go_wp2
  all_goals go_ret
  all_goals exact ⟨ret_bool (by unfold smallB; simp [*]; try omega), rfl⟩
theorem spec_l01Digit (c : Int) (w : World) : Calls Tryz.prog 170 #[.int .u8 c] w fun e w' => e = .returned (.bool (digitB c)) ∧ w = w' := by
  go_enter Tryz.func170, Tryz.ntmps170
  go_wp2
  all_goals go_ret
  all_goals exact ⟨ret_bool (by unfold digitB; simp [*]; try omega), rfl⟩

set_option maxHeartbeats 400000 in
theorem impl_IsName (s : ByteArray) (hs : s.size ≤ maxLen) (w : World) :
    Calls Tryz.prog 145 #[.string s] w fun e w' => e = .returned (.bool (isNameL s.data.toList)) ∧ w = w' := by
  unfold maxLen at hs
  have hl := Lib.hid (len_bytes s)
  by_cases h0 : s.size < 1 ∨ 12 < s.size
  · have hf := Lib.hid (isName_len (l := s.data.toList) (by rw [hl.out]; exact h0))
    rcases h0 with h0 | h0
    all_goals
      go_enter Tryz.func145, Tryz.ntmps145
      go_wp2_with fail
      go_ret
      exact ⟨ret_bool (by rw [hf.out]), rfl⟩
  obtain ⟨h1, h2⟩ := not_or.1 h0
  clear h0
  have g0 := Lib.hid (get_bytes s 0 (by omega))
  cases h3 : smallB (s[0].toNat : Int)
  · have hf := Lib.hid (isName_first g0.out h3)
    go_enter Tryz.func145, Tryz.ntmps145
    go_wp2_with (go_at_call 179; ((with_reducible refine (impl_isSmall _ _).mono ?_); rintro e w' ⟨rfl, rfl⟩))
    go_ret
    exact ⟨ret_bool (by rw [hf.out]), rfl⟩
  · go_enter Tryz.func145, Tryz.ntmps145
    go_wp2_with (go_at_call 179; ((with_reducible refine (impl_isSmall _ _).mono ?_); rintro e w' ⟨rfl, rfl⟩))
    go_loop [3] (fun i => ∃ k : Nat, k ≤ s.size ∧ i = .int .i64 k ∧ Hid ((s.data.toList.take k).all (fun c => nameB c.toNat) = true)) (fun i => s.size - (intOf i).toNat)
    case atStart => exact ⟨0, by omega, rfl, by simp [Hid]⟩
    case round =>
      obtain ⟨k, hk, rfl, hall⟩ := hrel
      by_cases hlt : k < s.size
      · have hget := Lib.hid (get_bytes s k hlt)
        go_wp2_with (first | (go_at_call 179; ((with_reducible refine (impl_isSmall _ _).mono ?_); rintro e w' ⟨rfl, rfl⟩)) | (go_at_call 180; ((with_reducible refine (impl_isDigit _ _).mono ?_); rintro e w' ⟨rfl, rfl⟩)))
        all_goals first
          | (go_round
             case rel => exact ⟨k + 1, by omega, by go_num, all_succ hget.out hall.out (by simp_all [nameB])⟩
             case measure => simp [intOf]; omega)
          | (go_ret; exact ⟨ret_bool (by rw [isName_not hget.out (by simp_all [nameB])]), rfl⟩)
      · go_wp2_with fail
        go_ret
        exact ⟨ret_bool (by rw [isName_yes (by rw [hl.out]; exact h1) (by rw [hl.out]; exact h2) g0.out h3 (by rw [hl.out]; omega) hall.out]), rfl⟩

set_option maxHeartbeats 400000 in
theorem spec_IsName (s : ByteArray) (hs : s.size ≤ maxLen) (w : World) :
    Calls Tryz.prog 147 #[.string s] w fun e w' => e = .returned (.bool (isNameL s.data.toList)) ∧ w = w' := by
  unfold maxLen at hs
  have hl := Lib.hid (len_bytes s)
  by_cases hE : s.size = 0
  · have hf := Lib.hid (isName_len (l := s.data.toList) (by rw [hl.out]; omega))
    obtain ⟨e1, e2⟩ := empty_text hE
    go_enter Tryz.func147, Tryz.ntmps147
    go_wp2_with fail
    go_ret
    exact ⟨ret_bool (by rw [hf.out]), rfl⟩
  obtain ⟨e1, e2⟩ := full_text hE
  by_cases h2 : 12 < s.size
  · have hf := Lib.hid (isName_len (l := s.data.toList) (by rw [hl.out]; omega))
    go_enter Tryz.func147, Tryz.ntmps147
    go_wp2_with fail
    go_ret
    exact ⟨ret_bool (by rw [hf.out]), rfl⟩
  have g0 := Lib.hid (get_bytes s 0 (by omega))
  cases h3 : smallB (s[0].toNat : Int)
  · have hf := Lib.hid (isName_first g0.out h3)
    go_enter Tryz.func147, Tryz.ntmps147
    go_wp2_with (go_at_call 181; ((with_reducible refine (spec_l01Small _ _).mono ?_); rintro e w' ⟨rfl, rfl⟩))
    go_ret
    exact ⟨ret_bool (by rw [hf.out]), rfl⟩
  · go_enter Tryz.func147, Tryz.ntmps147
    go_wp2_with (go_at_call 181; ((with_reducible refine (spec_l01Small _ _).mono ?_); rintro e w' ⟨rfl, rfl⟩))
    go_loop [3] (fun i => ∃ k : Nat, k ≤ s.size ∧ i = .int .i64 k ∧ Hid ((s.data.toList.take k).all (fun c => nameB c.toNat) = true)) (fun i => s.size - (intOf i).toNat)
    case atStart => exact ⟨0, by omega, rfl, by simp [Hid]⟩
    case round =>
      obtain ⟨k, hk, rfl, hall⟩ := hrel
      by_cases hlt : k < s.size
      · have hget := Lib.hid (get_bytes s k hlt)
        go_wp2_with (first | (go_at_call 181; ((with_reducible refine (spec_l01Small _ _).mono ?_); rintro e w' ⟨rfl, rfl⟩)) | (go_at_call 170; ((with_reducible refine (spec_l01Digit _ _).mono ?_); rintro e w' ⟨rfl, rfl⟩)))
        all_goals first
          | (go_round
             case rel => exact ⟨k + 1, by omega, by go_num, all_succ hget.out hall.out (by simp_all [nameB])⟩
             case measure => simp [intOf]; omega)
          | (go_ret; exact ⟨ret_bool (by rw [isName_not hget.out (by simp_all [nameB])]), rfl⟩)
      · go_wp2_with fail
        go_ret
        exact ⟨ret_bool (by rw [isName_yes (by rw [hl.out]; omega) (by rw [hl.out]; exact h2) g0.out h3 (by rw [hl.out]; omega) hall.out]), rfl⟩

theorem impl_inside (n low high : Int) (w : World) : Calls Tryz.prog 90 #[.int .i64 n, .int .i64 low, .int .i64 high] w fun e w' => e = .returned (.bool (inB n low high)) ∧ w = w' := by
  go_enter Tryz.func90, Tryz.ntmps90
  go_wp2
  all_goals go_ret
  all_goals exact ⟨ret_bool (by unfold inB; simp [*]; try omega), rfl⟩
theorem spec_l00In (n low high : Int) (w : World) : Calls Tryz.prog 91 #[.int .i64 n, .int .i64 low, .int .i64 high] w fun e w' => e = .returned (.bool (inB n low high)) ∧ w = w' := by
  go_enter Tryz.func91, Tryz.ntmps91
  go_wp2
  all_goals go_ret
  all_goals exact ⟨ret_bool (by unfold inB; simp [*]; try omega), rfl⟩


end Go.Proofs.YtcbjfgjlhjjpiaaGreatDoor
