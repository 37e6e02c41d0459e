/-
  CLOSED FACTS: FnClustering.
-/
import Derived.Test.YtidchfncfcckiaaGreatMgEndClu0

namespace Go.Proofs.YtidchfncfcckiaaGreat
open Go.RowKit Go.ChangeShapes Go.WideShapes Go.ChangeAt

theorem closed_Clustering : joinedFacts Tryz.pinned.checked.prog 3 Tryz.f3 Rows.fnClusteringSpec Rows.fnClusteringRow = true := by kernel_rfl
end Go.Proofs.YtidchfncfcckiaaGreat

