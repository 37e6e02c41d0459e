/-
  CLOSED FACTS: FnExactIsValidOp.
-/
import Derived.Test.YtbhhbdilaihegaaTypes
namespace Go.Proofs.Ytbhhbdilaihegaa
open Go.RowKit Go.ChangeShapes Go.WideShapes Go.ChangeAt

theorem closed_ExactIsValidOp : joinedFacts Try.pinned.checked.prog 11 Try.f11 Rows.fnExactIsValidOpSpec Rows.fnExactIsValidOpRow = true := by kernel_rfl
end Go.Proofs.Ytbhhbdilaihegaa

