/-
  CLOSED FACTS: FnGolden.
-/
import Derived.Test.YthnkcoonfceknaaGreatDoorMgEndFnGol0

namespace Go.Proofs.YthnkcoonfceknaaGreatDoor
open Go.RowKit Go.ChangeShapes Go.WideShapes Go.ChangeAt

theorem closed_Golden : joinedFacts Tryz.pinned.checked.prog 3 Tryz.f3 Rows.fnGoldenSpec Rows.fnGoldenRow = true := by kernel_rfl
end Go.Proofs.YthnkcoonfceknaaGreatDoor
