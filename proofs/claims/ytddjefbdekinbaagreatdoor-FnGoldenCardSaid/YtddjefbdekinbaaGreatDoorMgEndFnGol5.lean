/-
  CLOSED FACTS: FnGolden.
-/
import Derived.Test.YtddjefbdekinbaaGreatDoorMgEndFnGol0

namespace Go.Proofs.YtddjefbdekinbaaGreatDoor
open Go.RowKit Go.ChangeShapes Go.WideShapes Go.ChangeAt

theorem closed_Golden : joinedFacts Tryz.pinned.checked.prog 3 Tryz.f3 Rows.fnGoldenSpec Rows.fnGoldenRow = true := by kernel_rfl
end Go.Proofs.YtddjefbdekinbaaGreatDoor
