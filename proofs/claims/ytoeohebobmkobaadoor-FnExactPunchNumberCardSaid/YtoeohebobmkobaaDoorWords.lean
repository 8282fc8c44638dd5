/- The walks of the functions on names and program cards: each returns what the plain function on the text's bytes says; memory is as it was. -/
import Derived.Test.YtoeohebobmkobaaDoorProg
import Derived.Test.YtoeohebobmkobaaDoorBase
namespace Go.Proofs.YtoeohebobmkobaaDoor
open Go.RowKit
set_option maxRecDepth 100000

theorem spec_l01Digit (c : Int) (w : World) : Calls Tryd.prog 50 #[.int .u8 c] w fun e w' => e = .returned (.bool (digitB c)) ∧ w = w' := by
  go_enter Tryd.func50, Tryd.ntmps50
  go_wp2
  all_goals go_ret
  all_goals exact ⟨ret_bool (by unfold digitB; simp [*]; try omega), rfl⟩



theorem impl_isLetter (c : Int) (w : World) : Calls Tryd.prog 57 #[.int .u8 c] w fun e w' => e = .returned (.bool (letterB c)) ∧ w = w' := by
  go_enter Tryd.func57, Tryd.ntmps57
  go_wp2
  all_goals go_ret
  all_goals exact ⟨ret_bool (by unfold letterB; simp [*]), rfl⟩
theorem spec_l05Letter (c : Int) (w : World) : Calls Tryd.prog 56 #[.int .u8 c] w fun e w' => e = .returned (.bool (letterB c)) ∧ w = w' := by
  go_enter Tryd.func56, Tryd.ntmps56
  go_wp2
  all_goals go_ret
  all_goals exact ⟨ret_bool (by unfold letterB; simp [*]), rfl⟩
theorem impl_inside (n low high : Int) (w : World) : Calls Tryd.prog 47 #[.int .i64 n, .int .i64 low, .int .i64 high] w fun e w' => e = .returned (.bool (inB n low high)) ∧ w = w' := by
  go_enter Tryd.func47, Tryd.ntmps47
  go_wp2
  all_goals go_ret
  all_goals exact ⟨ret_bool (by unfold inB; simp [*]; try omega), rfl⟩
theorem spec_l00In (n low high : Int) (w : World) : Calls Tryd.prog 20 #[.int .i64 n, .int .i64 low, .int .i64 high] w fun e w' => e = .returned (.bool (inB n low high)) ∧ w = w' := by
  go_enter Tryd.func20, Tryd.ntmps20
  go_wp2
  all_goals go_ret
  all_goals exact ⟨ret_bool (by unfold inB; simp [*]; try omega), rfl⟩

set_option maxHeartbeats 400000 in
theorem impl_ValidProgram (s : ByteArray) (hs : s.size ≤ maxLen) (w : World) :
    Calls Tryd.prog 38 #[.string s] w fun e w' => e = .returned (.bool (validProgL s.data.toList)) ∧ w = w' := by
  unfold maxLen at hs
  have hl := Lib.hid (len_bytes s)
  go_enter Tryd.func38, Tryd.ntmps38
  go_wp2_with fail
  go_loop [3] (fun i => ∃ k : Nat, k ≤ s.size ∧ i = .int .i64 k ∧ Hid ((s.data.toList.take k).all (fun c => letterB c.toNat) = true)) (fun i => s.size - (intOf i).toNat)
  case atStart => exact ⟨0, by omega, rfl, by simp [Hid]⟩
  case round =>
    obtain ⟨k, hk, rfl, hall⟩ := hrel
    by_cases hlt : k < s.size
    · have hget := Lib.hid (get_bytes s k hlt)
      go_wp2_with (first | (go_at_call 57; ((with_reducible refine (impl_isLetter _ _).mono ?_); rintro e w' ⟨rfl, rfl⟩)))
      all_goals first
        | (go_round
           case rel => exact ⟨k + 1, by omega, by go_num, all_succ hget.out hall.out (by simp_all)⟩
           case measure => simp [intOf]; omega)
        | (go_ret; exact ⟨ret_bool (by rw [validProg_not hget.out (by simp_all)]), rfl⟩)
    · go_wp2_with (first | (go_at_call 47; ((with_reducible refine (impl_inside _ _ _ _).mono ?_); rintro e w' ⟨rfl, rfl⟩)))
      go_ret
      exact ⟨ret_bool (by rw [validProg_end (by rw [hl.out]; omega) hall.out, hl.out]), rfl⟩
set_option maxHeartbeats 400000 in
theorem spec_l05Ok (s : ByteArray) (hs : s.size ≤ maxLen) (w : World) :
    Calls Tryd.prog 36 #[.string s] w fun e w' => e = .returned (.bool (validProgL s.data.toList)) ∧ w = w' := by
  unfold maxLen at hs
  have hl := Lib.hid (len_bytes s)
  go_enter Tryd.func36, Tryd.ntmps36
  go_wp2_with fail
  go_loop [3] (fun i => ∃ k : Nat, k ≤ s.size ∧ i = .int .i64 k ∧ Hid ((s.data.toList.take k).all (fun c => letterB c.toNat) = true)) (fun i => s.size - (intOf i).toNat)
  case atStart => exact ⟨0, by omega, rfl, by simp [Hid]⟩
  case round =>
    obtain ⟨k, hk, rfl, hall⟩ := hrel
    by_cases hlt : k < s.size
    · have hget := Lib.hid (get_bytes s k hlt)
      go_wp2_with (first | (go_at_call 56; ((with_reducible refine (spec_l05Letter _ _).mono ?_); rintro e w' ⟨rfl, rfl⟩)))
      all_goals first
        | (go_round
           case rel => exact ⟨k + 1, by omega, by go_num, all_succ hget.out hall.out (by simp_all)⟩
           case measure => simp [intOf]; omega)
        | (go_ret; exact ⟨ret_bool (by rw [validProg_not hget.out (by simp_all)]), rfl⟩)
    · go_wp2_with (first | (go_at_call 20; ((with_reducible refine (spec_l00In _ _ _ _).mono ?_); rintro e w' ⟨rfl, rfl⟩)))
      go_ret
      exact ⟨ret_bool (by rw [validProg_end (by rw [hl.out]; omega) hall.out, hl.out]), rfl⟩

end Go.Proofs.YtoeohebobmkobaaDoor
