/-
  CLOSED FACTS: FnExactGoldenRecord.
-/
import Derived.Test.YtgbcbmlikmjjkaaDoorTypes
namespace Go.Proofs.YtgbcbmlikmjjkaaDoor
open Go.RowKit Go.ChangeShapes Go.WideShapes Go.ChangeAt

theorem closed_ExactGoldenRecord : joinedFacts Tryd.pinned.checked.prog 11 Tryd.f11 Rows.fnExactGoldenRecordSpec Rows.fnExactGoldenRecordRow = true := by kernel_rfl
end Go.Proofs.YtgbcbmlikmjjkaaDoor

