/-
  WALKS: isMember.
-/
import Derived.Test.YtfieimmlcopbhaaDoorBase
namespace Go.Proofs.YtfieimmlcopbhaaDoor
open Go.RowKit

set_option maxHeartbeats 400000 in
theorem impl_isMember (x : Int) (w : World) :
    Calls Tryd.prog 96 #[.int .i64 x] w fun e w2 => e = .returned (.bool (inB x 1 399)) ∧ w = w2 := by
  go_enter Tryd.func96, Tryd.ntmps96
  go_wp2_with (go_at_call 32; refine (impl_within _ _ _ _).mono ?_; rintro e w2 ⟨rfl, rfl⟩)
  go_ret
  exact ⟨rfl, rfl⟩

end Go.Proofs.YtfieimmlcopbhaaDoor
