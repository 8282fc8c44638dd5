/- The walks of the functions on ranks of characters. -/
import Derived.Test.YtcbjfgjlhjjpiaaGreatDoorCodes
namespace Go.Proofs.YtcbjfgjlhjjpiaaGreatDoor
open Go.RowKit
set_option maxRecDepth 100000

theorem impl_codeOf (c : UInt8) (w : World) : Calls Tryz.prog 177 #[.int .u8 c.toNat] w fun e w' => e = .returned (.int .i64 (code0 c.toNat)) ∧ w = w' := by
  go_enter Tryz.func177, Tryz.ntmps177
  go_wp2_with (go_at_call 202; ((with_reducible refine (impl_CodeOf _ _).mono ?_); rintro e w' ⟨rfl, rfl⟩))
  go_ret
  exact ⟨rfl, rfl⟩
theorem impl_rankOf (m : Int) (w : World) : Calls Tryz.prog 190 #[.int .i64 m] w fun e w' => e = .returned (.int .i64 (rankM m)) ∧ w = w' := by
  go_enter Tryz.func190, Tryz.ntmps190
  go_wp2_with fail
  go_loop [3] (fun i => ∃ k : Nat, k ≤ 40 ∧ i = .int .i64 k ∧ Hid ((chars.take k).all (fun c => !(codeI c.toNat == m)) = true)) (fun i => 40 - (intOf i).toNat)
  case atStart => exact ⟨0, by omega, rfl, by simp [Hid]⟩
  case round =>
    obtain ⟨k, hk, rfl, hall⟩ := hrel
    by_cases hlt : k < 40
    · have hget := Lib.hid (chars_get hlt)
      have hc := Lib.hid (code0_yes (chars_are _ (List.mem_of_getElem? hget.out)))
      go_wp2_with (go_at_call 177; ((with_reducible refine (impl_codeOf _ _).mono ?_); rintro e w' ⟨rfl, rfl⟩))
      · go_ret
        have h := ‹(code0 _ == m) = true›
        rw [hc.out] at h
        exact ⟨ret_int (by rw [(rankM_hit hget.out hall.out (by simpa using h)).1]), rfl⟩
      · go_round
        case rel =>
          have h := ‹(code0 _ == m) = false›
          rw [hc.out] at h
          exact ⟨k + 1, by omega, by go_num, all_succ hget.out hall.out (by rw [h]; rfl)⟩
        case measure => simp [intOf]; omega
    · go_wp2_with fail
      go_ret
      exact ⟨ret_int (by rw [(rankM_none (by omega) hall.out).1]), rfl⟩
theorem spec_l03Order (w : World) : Calls Tryz.prog 191 #[] w fun e w' => e = .returned (.string ⟨#[32, 38, 65, 66, 67, 68, 69, 70, 71, 72, 73, 45, 74, 75, 76, 77, 78, 79, 80, 81, 82, 47, 83, 84, 85, 86, 87, 88, 89, 90, 48, 49, 50, 51, 52, 53, 54, 55, 56, 57]⟩) ∧ w = w' := by
  go_enter Tryz.func191, Tryz.ntmps191
  go_wp2
  go_ret
  exact ⟨rfl, rfl⟩
theorem spec_l03Char (m : Int) (w : World) : Calls Tryz.prog 184 #[.int .i64 m] w fun e w' => e = .returned (.tuple #[.int .u8 (charM m), .bool (decide (0 ≤ rankM m))]) ∧ w = w' := by
  go_enter Tryz.func184, Tryz.ntmps184
  go_wp2_with (go_at_call 191; ((with_reducible refine (spec_l03Order _).mono ?_); rintro e w' ⟨rfl, rfl⟩))
  go_loop [5] (fun i => ∃ k : Nat, k ≤ 40 ∧ i = .int .i64 k ∧ Hid ((chars.take k).all (fun c => !(codeI c.toNat == m)) = true)) (fun i => 40 - (intOf i).toNat)
  case atStart => exact ⟨0, by omega, rfl, by simp [Hid]⟩
  case round =>
    obtain ⟨k, hk, rfl, hall⟩ := hrel
    by_cases hlt : k < 40
    · have hget := Lib.hid (chars_get hlt)
      go_wp2_with (go_at_call 125; ((with_reducible refine (spec_l03Code _ _).mono ?_); rintro e w' ⟨rfl, rfl⟩))
      · go_ret2
        have h := ‹(codeI _ == m) = true›
        obtain ⟨r1, r2⟩ := rankM_hit hget.out hall.out (by simpa using h)
        exact ⟨ret_ib (by rw [r2]) (by rw [r1]; simp), rfl⟩
      · go_round
        case rel =>
          have h := ‹(codeI _ == m) = false›
          exact ⟨k + 1, by omega, by go_num, all_succ hget.out hall.out (by rw [h]; rfl)⟩
        case measure => simp [intOf]; omega
    · go_wp2_with fail
      go_ret2
      obtain ⟨r1, r2⟩ := rankM_none (by omega) hall.out
      exact ⟨ret_ib (by rw [r2]) (by rw [r1]; rfl), rfl⟩
theorem indexByte_chars (c : Int) (w : World) : Calls Tryz.prog 201 #[.string ⟨#[32, 38, 65, 66, 67, 68, 69, 70, 71, 72, 73, 45, 74, 75, 76, 77, 78, 79, 80, 81, 82, 47, 83, 84, 85, 86, 87, 88, 89, 90, 48, 49, 50, 51, 52, 53, 54, 55, 56, 57]⟩, .int .u8 c] w fun e w' => e = .returned (.int .i64 (rankC c)) ∧ w = w' :=
  (Tryz.strings_IndexByte ⟨#[32, 38, 65, 66, 67, 68, 69, 70, 71, 72, 73, 45, 74, 75, 76, 77, 78, 79, 80, 81, 82, 47, 83, 84, 85, 86, 87, 88, 89, 90, 48, 49, 50, 51, 52, 53, 54, 55, 56, 57]⟩ c w).mono fun _ _ h => ⟨h.1, h.2.symm⟩
theorem impl_isCharacter (c : UInt8) (w : World) : Calls Tryz.prog 175 #[.int .u8 c.toNat] w fun e w' => e = .returned (.bool (charB c.toNat)) ∧ w = w' := by
  have hr := Lib.hid (rankC_is (byte_bd c).1 (byte_bd c).2).1
  go_enter Tryz.func175, Tryz.ntmps175
  go_wp2_with (go_at_call 201; ((with_reducible refine (indexByte_chars _ _).mono ?_); rintro e w' ⟨rfl, rfl⟩))
  go_ret
  exact ⟨ret_bool (by rw [← hr.out]), rfl⟩

end Go.Proofs.YtcbjfgjlhjjpiaaGreatDoor
