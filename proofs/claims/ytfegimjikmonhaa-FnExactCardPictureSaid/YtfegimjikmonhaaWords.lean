/- The walks of the functions on names and program cards: each returns what the plain function on the text's bytes says; memory is as it was. -/
import Derived.Test.YtfegimjikmonhaaProg
import Derived.Test.YtfegimjikmonhaaBase
namespace Go.Proofs.Ytfegimjikmonhaa
open Go.RowKit
set_option maxRecDepth 100000

theorem impl_isDigit (c : Int) (w : World) : Calls Try.prog 106 #[.int .u8 c] w fun e w' => e = .returned (.bool (digitB c)) ∧ w = w' := by
  go_enter Try.func106, Try.ntmps106
  go_wp2
  all_goals go_ret
  all_goals exact ⟨ret_bool (by unfold digitB; simp [*]; try omega), rfl⟩
theorem spec_l01Digit (c : Int) (w : World) : Calls Try.prog 97 #[.int .u8 c] w fun e w' => e = .returned (.bool (digitB c)) ∧ w = w' := by
  go_enter Try.func97, Try.ntmps97
  go_wp2
  all_goals go_ret
  all_goals exact ⟨ret_bool (by unfold digitB; simp [*]; try omega), rfl⟩



theorem impl_inside (n low high : Int) (w : World) : Calls Try.prog 81 #[.int .i64 n, .int .i64 low, .int .i64 high] w fun e w' => e = .returned (.bool (inB n low high)) ∧ w = w' := by
  go_enter Try.func81, Try.ntmps81
  go_wp2
  all_goals go_ret
  all_goals exact ⟨ret_bool (by unfold inB; simp [*]; try omega), rfl⟩
theorem spec_l00In (n low high : Int) (w : World) : Calls Try.prog 79 #[.int .i64 n, .int .i64 low, .int .i64 high] w fun e w' => e = .returned (.bool (inB n low high)) ∧ w = w' := by
  go_enter Try.func79, Try.ntmps79
  go_wp2
  all_goals go_ret
  all_goals exact ⟨ret_bool (by unfold inB; simp [*]; try omega), rfl⟩


end Go.Proofs.Ytfegimjikmonhaa
