/-
  WALKS: isMember.
-/
import Derived.Test.YtbhhbdilaihegaaBase
namespace Go.Proofs.Ytbhhbdilaihegaa
open Go.RowKit

set_option maxHeartbeats 400000 in
theorem impl_isMember (x : Int) (w : World) :
    Calls Try.prog 121 #[.int .i64 x] w fun e w2 => e = .returned (.bool (inB x 1 399)) ∧ w = w2 := by
  go_enter Try.func121, Try.ntmps121
  go_wp2_with (go_at_call 109; refine (impl_within _ _ _ _).mono ?_; rintro e w2 ⟨rfl, rfl⟩)
  go_ret
  exact ⟨rfl, rfl⟩

end Go.Proofs.Ytbhhbdilaihegaa
