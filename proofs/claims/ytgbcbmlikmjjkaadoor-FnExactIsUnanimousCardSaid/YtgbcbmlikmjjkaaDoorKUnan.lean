/-
  CLOSED FACTS: FnExactIsUnanimous.
-/
import Derived.Test.YtgbcbmlikmjjkaaDoorTypes
namespace Go.Proofs.YtgbcbmlikmjjkaaDoor
open Go.RowKit Go.ChangeShapes Go.WideShapes Go.ChangeAt

theorem closed_ExactIsUnanimous : joinedFacts Tryd.pinned.checked.prog 9 Tryd.f9 Rows.fnExactIsUnanimousSpec Rows.fnExactIsUnanimousRow = true := by kernel_rfl
end Go.Proofs.YtgbcbmlikmjjkaaDoor

