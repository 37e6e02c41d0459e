/-
  CLOSED FACTS: FnExactEqualBatches.
-/
import Derived.Test.YtbhhbdilaihegaaTypes
namespace Go.Proofs.Ytbhhbdilaihegaa
open Go.RowKit Go.ChangeShapes Go.WideShapes Go.ChangeAt

theorem closed_ExactEqualBatches : joinedFacts Try.pinned.checked.prog 9 Try.f9 Rows.fnExactEqualBatchesSpec Rows.fnExactEqualBatchesRow = true := by kernel_rfl
end Go.Proofs.Ytbhhbdilaihegaa

