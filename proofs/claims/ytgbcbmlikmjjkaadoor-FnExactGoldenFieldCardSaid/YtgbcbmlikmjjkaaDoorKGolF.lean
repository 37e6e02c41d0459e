/-
  CLOSED FACTS: FnExactGoldenField.
-/
import Derived.Test.YtgbcbmlikmjjkaaDoorTypes
namespace Go.Proofs.YtgbcbmlikmjjkaaDoor
open Go.RowKit Go.ChangeShapes Go.WideShapes Go.ChangeAt

theorem closed_ExactGoldenField : joinedFacts Tryd.pinned.checked.prog 10 Tryd.f10 Rows.fnExactGoldenFieldSpec Rows.fnExactGoldenFieldRow = true := by kernel_rfl
end Go.Proofs.YtgbcbmlikmjjkaaDoor

