/-
  CLOSED FACTS: FnExactIsValidBatch.
-/
import Derived.Test.YtbhhbdilaihegaaTypes
namespace Go.Proofs.Ytbhhbdilaihegaa
open Go.RowKit Go.ChangeShapes Go.WideShapes Go.ChangeAt

theorem closed_ExactIsValidBatch : joinedFacts Try.pinned.checked.prog 12 Try.f12 Rows.fnExactIsValidBatchSpec Rows.fnExactIsValidBatchRow = true := by kernel_rfl
end Go.Proofs.Ytbhhbdilaihegaa

