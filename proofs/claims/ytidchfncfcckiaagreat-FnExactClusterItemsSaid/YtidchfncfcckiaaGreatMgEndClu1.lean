/-
  CLOSED FACTS: FnExactClusterItems.
-/
import Derived.Test.YtidchfncfcckiaaGreatMgEndClu0

namespace Go.Proofs.YtidchfncfcckiaaGreat
open Go.RowKit Go.ChangeShapes Go.WideShapes Go.ChangeAt

theorem closed_ExactClusterItems : joinedFacts Tryz.pinned.checked.prog 4 Tryz.f4 Rows.fnExactClusterItemsSpec Rows.fnExactClusterItemsRow = true := by kernel_rfl
end Go.Proofs.YtidchfncfcckiaaGreat

