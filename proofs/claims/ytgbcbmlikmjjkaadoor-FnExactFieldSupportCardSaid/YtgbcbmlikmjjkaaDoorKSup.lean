/-
  CLOSED FACTS: FnExactFieldSupport.
-/
import Derived.Test.YtgbcbmlikmjjkaaDoorTypes
namespace Go.Proofs.YtgbcbmlikmjjkaaDoor
open Go.RowKit Go.ChangeShapes Go.WideShapes Go.ChangeAt

theorem closed_ExactFieldSupport : joinedFacts Tryd.pinned.checked.prog 8 Tryd.f8 Rows.fnExactFieldSupportSpec Rows.fnExactFieldSupportRow = true := by kernel_rfl
end Go.Proofs.YtgbcbmlikmjjkaaDoor

