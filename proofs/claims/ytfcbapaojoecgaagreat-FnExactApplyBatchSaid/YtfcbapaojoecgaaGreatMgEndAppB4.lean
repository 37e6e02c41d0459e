/-
  CLOSED FACTS: FnExactApplyBatch.
-/
import Derived.Test.YtfcbapaojoecgaaGreatMgEndAppB0

namespace Go.Proofs.YtfcbapaojoecgaaGreat
open Go.RowKit Go.ChangeShapes Go.WideShapes Go.ChangeAt

theorem closed_ExactApplyBatch : joinedFacts Tryz.pinned.checked.prog 3 Tryz.f3 Rows.fnExactApplyBatchSpec Rows.fnExactApplyBatchRow = true := by kernel_rfl
end Go.Proofs.YtfcbapaojoecgaaGreat

