/-
  CLOSED FACTS: FnExactFieldSource.
-/
import Derived.Test.YtgbcbmlikmjjkaaDoorTypes
namespace Go.Proofs.YtgbcbmlikmjjkaaDoor
open Go.RowKit Go.ChangeShapes Go.WideShapes Go.ChangeAt

theorem closed_ExactFieldSource : joinedFacts Tryd.pinned.checked.prog 7 Tryd.f7 Rows.fnExactFieldSourceSpec Rows.fnExactFieldSourceRow = true := by kernel_rfl
end Go.Proofs.YtgbcbmlikmjjkaaDoor

