/-
  CLOSED FACTS: FnExactFormatEntities.
-/
import Derived.Test.YtgbcbmlikmjjkaaDoorTypes
namespace Go.Proofs.YtgbcbmlikmjjkaaDoor
open Go.RowKit Go.ChangeShapes Go.WideShapes Go.ChangeAt

theorem closed_ExactFormatEntities : joinedFacts Tryd.pinned.checked.prog 3 Tryd.f3 Rows.fnExactFormatEntitiesSpec Rows.fnExactFormatEntitiesRow = true := by kernel_rfl
end Go.Proofs.YtgbcbmlikmjjkaaDoor

