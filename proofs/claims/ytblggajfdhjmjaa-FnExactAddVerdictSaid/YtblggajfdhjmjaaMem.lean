/-
  WALKS: isMember.
-/
import Derived.Test.YtblggajfdhjmjaaBase
namespace Go.Proofs.Ytblggajfdhjmjaa
open Go.RowKit

set_option maxHeartbeats 400000 in
theorem impl_isMember (x : Int) (w : World) :
    Calls Try.prog 31 #[.int .i64 x] w fun e w2 => e = .returned (.bool (inB x 1 399)) ∧ w = w2 := by
  go_enter Try.func31, Try.ntmps31
  go_wp2_with (go_at_call 32; refine (impl_within _ _ _ _).mono ?_; rintro e w2 ⟨rfl, rfl⟩)
  go_ret
  exact ⟨rfl, rfl⟩

end Go.Proofs.Ytblggajfdhjmjaa
