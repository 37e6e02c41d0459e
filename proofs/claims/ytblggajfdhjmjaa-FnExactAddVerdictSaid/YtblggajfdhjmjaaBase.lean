/-
  WALKS: within, l1In.
-/
import Derived.Test.YtblggajfdhjmjaaTypes
namespace Go.Proofs.Ytblggajfdhjmjaa
open Go.RowKit

def inB (x a b : Int) : Bool := decide (a ≤ x ∧ x ≤ b)

set_option maxHeartbeats 400000 in
theorem spec_l1In (x a b : Int) (w : World) :
    Calls Try.prog 29 #[.int .i64 x, .int .i64 a, .int .i64 b] w fun e w2 => e = .returned (.bool (inB x a b)) ∧ w = w2 := by
  go_enter Try.func29, Try.ntmps29
  go_wp2
  all_goals go_ret
  all_goals refine ⟨?_, rfl⟩
  all_goals (simp [inB]; try omega)

set_option maxHeartbeats 400000 in
theorem impl_within (x a b : Int) (w : World) :
    Calls Try.prog 32 #[.int .i64 x, .int .i64 a, .int .i64 b] w fun e w2 => e = .returned (.bool (inB x a b)) ∧ w = w2 := by
  go_enter Try.func32, Try.ntmps32
  go_wp2
  all_goals go_ret
  all_goals refine ⟨?_, rfl⟩
  all_goals (simp [inB]; try omega)

end Go.Proofs.Ytblggajfdhjmjaa
