/- The walks of the functions on codes and ranks of characters. -/
import Derived.Test.YtcbjfgjlhjjpiaaGreatDoorWords
import Derived.Test.YtcbjfgjlhjjpiaaGreatDoorHoles
import Derived.Test.YtcbjfgjlhjjpiaaGreatDoorShelf
namespace Go.Proofs.YtcbjfgjlhjjpiaaGreatDoor
open Go.RowKit
set_option maxRecDepth 100000

theorem impl_bitOf (r : Int) (w : World) : Calls Tryz.prog 152 #[.int .i64 r] w fun e w' => e = .returned (.int .i64 (bitI r)) ∧ w = w' := by
  by_cases h9 : 0 ≤ r ∧ r ≤ 9
  · have hi := inB_true.2 h9
    have hr := Lib.hid (bitI_row h9)
    have hs := Lib.hid (bitI_shift h9)
    obtain ⟨h1, h2⟩ := h9
    go_enter Tryz.func152, Tryz.ntmps152
    go_wp2_with (go_at_call 90; ((with_reducible refine (impl_inside _ _ _ _).mono ?_); rintro e w' ⟨rfl, rfl⟩))
    go_ret
    exact ⟨ret_int (by rw [hr.out, hs.out]), rfl⟩
  · have hi := inB_false.2 h9
    have h9' := Lib.hid h9
    clear h9
    go_enter Tryz.func152, Tryz.ntmps152
    go_wp2_with (go_at_call 90; ((with_reducible refine (impl_inside _ _ _ _).mono ?_); rintro e w' ⟨rfl, rfl⟩))
    all_goals go_ret
    all_goals refine ⟨ret_int ?_, rfl⟩
    all_goals simp only [beq_iff_eq, beq_eq_false_iff_ne, ne_eq] at *
    · subst_vars; rfl
    · subst_vars; rfl
    · rw [bitI_none (by assumption) (by assumption) h9'.out]
theorem spec_l02Bit (r : Int) (w : World) : Calls Tryz.prog 171 #[.int .i64 r] w fun e w' => e = .returned (.int .i64 (bitI r)) ∧ w = w' := by
  by_cases h9 : 0 ≤ r ∧ r ≤ 9
  · have hi := inB_true.2 h9
    have hr := Lib.hid (bitI_row h9)
    have hs := Lib.hid (bitI_shift h9)
    obtain ⟨h1, h2⟩ := h9
    go_enter Tryz.func171, Tryz.ntmps171
    go_wp2_with (go_at_call 91; ((with_reducible refine (spec_l00In _ _ _ _).mono ?_); rintro e w' ⟨rfl, rfl⟩))
    go_ret
    exact ⟨ret_int (by rw [hr.out, hs.out]), rfl⟩
  · have hi := inB_false.2 h9
    have h9' := Lib.hid h9
    clear h9
    go_enter Tryz.func171, Tryz.ntmps171
    go_wp2_with (go_at_call 91; ((with_reducible refine (spec_l00In _ _ _ _).mono ?_); rintro e w' ⟨rfl, rfl⟩))
    all_goals go_ret
    all_goals refine ⟨ret_int ?_, rfl⟩
    all_goals simp only [beq_iff_eq, beq_eq_false_iff_ne, ne_eq] at *
    · subst_vars; rfl
    · subst_vars; rfl
    · rw [bitI_none (by assumption) (by assumption) h9'.out]
theorem impl_CodeOf (u : UInt8) (w : World) : Calls Tryz.prog 202 #[.int .u8 u.toNat] w fun e w' => e = .returned (.tuple #[.int .i64 (code0 u.toNat), .bool (charB u.toNat)]) ∧ w = w' := by
  have h0 := (byte_bd u).1
  have h1 := (byte_bd u).2
  generalize (u.toNat : Int) = c at *
  by_cases hd : 48 ≤ c ∧ c ≤ 57
  · have hb : digitB c = true := by simp [digitB, hd]
    obtain ⟨hd1, hd2⟩ := hd
    have g := Lib.hid (codeI_digit hd1 hd2)
    go_enter Tryz.func202, Tryz.ntmps202
    go_wp2_with (first | (go_at_call 180; ((with_reducible refine (impl_isDigit _ _).mono ?_); rintro e w' ⟨rfl, rfl⟩)) | (go_at_call 152; ((with_reducible refine (impl_bitOf _ _).mono ?_); rintro e w' ⟨rfl, rfl⟩)))
    go_ret2
    exact ⟨ret_ib (by rw [g.out.1]) (by rw [g.out.2]), rfl⟩
  · have hb : digitB c = false := by simp [digitB]; omega
    go_enter Tryz.func202, Tryz.ntmps202
    go_wp2_with (first | (go_at_call 180; ((with_reducible refine (impl_isDigit _ _).mono ?_); rintro e w' ⟨rfl, rfl⟩)) | (go_at_call 152; ((with_reducible refine (impl_bitOf _ _).mono ?_); rintro e w' ⟨rfl, rfl⟩)))
    all_goals go_ret2
    all_goals simp only [beq_iff_eq, beq_eq_false_iff_ne, ne_eq] at *
    all_goals refine ⟨ret_ib (Eq.symm ?_) (Eq.symm ?_), by trivial⟩
    all_goals first
      | (subst_vars; decide)
      | (rw [code0_AI (by omega)]; rfl) | (rw [code0_JR (by omega)]; rfl) | (rw [code0_SZ (by omega)]; rfl) | (rw [code0_none (by omega)])
      | (rw [charB_AI (by omega)]) | (rw [charB_JR (by omega)]) | (rw [charB_SZ (by omega)]) | (rw [charB_none (by omega)])
theorem spec_l03Code (u : UInt8) (w : World) : Calls Tryz.prog 125 #[.int .u8 u.toNat] w fun e w' => e = .returned (.int .i64 (codeI u.toNat)) ∧ w = w' := by
  have h0 := (byte_bd u).1
  have h1 := (byte_bd u).2
  generalize (u.toNat : Int) = c at *
  by_cases hd : 48 ≤ c ∧ c ≤ 57
  · have hb : digitB c = true := by simp [digitB, hd]
    obtain ⟨hd1, hd2⟩ := hd
    have g := Lib.hid (codeI_dig hd1 hd2)
    go_enter Tryz.func125, Tryz.ntmps125
    go_wp2_with (first | (go_at_call 170; ((with_reducible refine (spec_l01Digit _ _).mono ?_); rintro e w' ⟨rfl, rfl⟩)) | (go_at_call 171; ((with_reducible refine (spec_l02Bit _ _).mono ?_); rintro e w' ⟨rfl, rfl⟩)))
    go_ret
    exact ⟨ret_int (by rw [g.out]), rfl⟩
  · have hb : digitB c = false := by simp [digitB]; omega
    go_enter Tryz.func125, Tryz.ntmps125
    go_wp2_with (first | (go_at_call 170; ((with_reducible refine (spec_l01Digit _ _).mono ?_); rintro e w' ⟨rfl, rfl⟩)) | (go_at_call 171; ((with_reducible refine (spec_l02Bit _ _).mono ?_); rintro e w' ⟨rfl, rfl⟩)))
    all_goals go_ret
    all_goals simp only [beq_iff_eq, beq_eq_false_iff_ne, ne_eq] at *
    all_goals refine ⟨ret_int (Eq.symm ?_), by trivial⟩
    all_goals first
      | (subst_vars; decide)
      | (rw [codeI_AI (by omega)]; rfl) | (rw [codeI_JR (by omega)]; rfl) | (rw [codeI_SZ (by omega)]; rfl) | (rw [codeI_none (by omega)])

end Go.Proofs.YtcbjfgjlhjjpiaaGreatDoor
