/- The walks of the functions on names and program cards: each returns what the plain function on the text's bytes says; memory is as it was. -/
import Derived.Test.YtdjggbccdjbcoaaDoorProg
import Derived.Test.YtdjggbccdjbcoaaDoorBase
namespace Go.Proofs.YtdjggbccdjbcoaaDoor
open Go.RowKit
set_option maxRecDepth 100000




theorem impl_inside (n low high : Int) (w : World) : Calls Tryd.prog 16 #[.int .i64 n, .int .i64 low, .int .i64 high] w fun e w' => e = .returned (.bool (inB n low high)) ∧ w = w' := by
  go_enter Tryd.func16, Tryd.ntmps16
  go_wp2
  all_goals go_ret
  all_goals exact ⟨ret_bool (by unfold inB; simp [*]; try omega), rfl⟩
theorem spec_l00In (n low high : Int) (w : World) : Calls Tryd.prog 15 #[.int .i64 n, .int .i64 low, .int .i64 high] w fun e w' => e = .returned (.bool (inB n low high)) ∧ w = w' := by
  go_enter Tryd.func15, Tryd.ntmps15
  go_wp2
  all_goals go_ret
  all_goals exact ⟨ret_bool (by unfold inB; simp [*]; try omega), rfl⟩


end Go.Proofs.YtdjggbccdjbcoaaDoor
