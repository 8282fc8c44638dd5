/- The walks of the functions on codes and ranks of characters. -/
import Derived.Test.YtcbjfgjlhjjpiaaDoorWords
import Derived.Test.YtcbjfgjlhjjpiaaDoorHoles
import Derived.Test.YtcbjfgjlhjjpiaaDoorShelf
namespace Go.Proofs.YtcbjfgjlhjjpiaaDoor
open Go.RowKit
set_option maxRecDepth 100000

theorem impl_bitOf (r : Int) (w : World) : Calls Tryd.prog 74 #[.int .i64 r] w fun e w' => e = .returned (.int .i64 (bitI r)) ∧ w = w' := by
  by_cases h9 : 0 ≤ r ∧ r ≤ 9
  · have hi := inB_true.2 h9
    have hr := Lib.hid (bitI_row h9)
    have hs := Lib.hid (bitI_shift h9)
    obtain ⟨h1, h2⟩ := h9
    go_enter Tryd.func74, Tryd.ntmps74
    go_wp2_with (go_at_call 64; ((with_reducible refine (impl_inside _ _ _ _).mono ?_); rintro e w' ⟨rfl, rfl⟩))
    go_ret
    exact ⟨ret_int (by rw [hr.out, hs.out]), rfl⟩
  · have hi := inB_false.2 h9
    have h9' := Lib.hid h9
    clear h9
    go_enter Tryd.func74, Tryd.ntmps74
    go_wp2_with (go_at_call 64; ((with_reducible refine (impl_inside _ _ _ _).mono ?_); rintro e w' ⟨rfl, rfl⟩))
    all_goals go_ret
    all_goals refine ⟨ret_int ?_, rfl⟩
    all_goals simp only [beq_iff_eq, beq_eq_false_iff_ne, ne_eq] at *
    · subst_vars; rfl
    · subst_vars; rfl
    · rw [bitI_none (by assumption) (by assumption) h9'.out]

end Go.Proofs.YtcbjfgjlhjjpiaaDoor
