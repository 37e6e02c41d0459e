/-
  CLOSED FACTS: FnExactFormatOp.
-/
import Derived.Test.YtgbcbmlikmjjkaaDoorTypes
namespace Go.Proofs.YtgbcbmlikmjjkaaDoor
open Go.RowKit Go.ChangeShapes Go.WideShapes Go.ChangeAt

theorem closed_ExactFormatOp : joinedFacts Tryd.pinned.checked.prog 4 Tryd.f4 Rows.fnExactFormatOpSpec Rows.fnExactFormatOpRow = true := by kernel_rfl
end Go.Proofs.YtgbcbmlikmjjkaaDoor

