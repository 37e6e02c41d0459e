/-
  WALKS: isMember.
-/
import Derived.Test.YtgbcbmlikmjjkaaDoorBase
namespace Go.Proofs.YtgbcbmlikmjjkaaDoor
open Go.RowKit

set_option maxHeartbeats 400000 in
theorem impl_isMember (x : Int) (w : World) :
    Calls Tryd.prog 134 #[.int .i64 x] w fun e w2 => e = .returned (.bool (inB x 1 399)) ∧ w = w2 := by
  go_enter Tryd.func134, Tryd.ntmps134
  go_wp2_with (go_at_call 78; refine (impl_within _ _ _ _).mono ?_; rintro e w2 ⟨rfl, rfl⟩)
  go_ret
  exact ⟨rfl, rfl⟩

end Go.Proofs.YtgbcbmlikmjjkaaDoor
