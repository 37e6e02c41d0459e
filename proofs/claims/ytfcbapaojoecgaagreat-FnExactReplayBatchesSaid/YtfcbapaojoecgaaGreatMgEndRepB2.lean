/-
  CLOSED FACTS: FnExactReplayBatches.
-/
import Derived.Test.YtfcbapaojoecgaaGreatMgEndAppB0

namespace Go.Proofs.YtfcbapaojoecgaaGreat
open Go.RowKit Go.ChangeShapes Go.WideShapes Go.ChangeAt

theorem closed_ExactReplayBatches : joinedFacts Tryz.pinned.checked.prog 4 Tryz.f4 Rows.fnExactReplayBatchesSpec Rows.fnExactReplayBatchesRow = true := by kernel_rfl
end Go.Proofs.YtfcbapaojoecgaaGreat

