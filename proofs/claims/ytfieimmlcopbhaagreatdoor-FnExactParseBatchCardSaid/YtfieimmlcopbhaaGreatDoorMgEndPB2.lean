/-
  CLOSED FACTS: FnExactParseBatch.
-/
import Derived.Test.YtfieimmlcopbhaaGreatDoorMgEndPO0

namespace Go.Proofs.YtfieimmlcopbhaaGreatDoor
open Go.RowKit Go.ChangeShapes Go.WideShapes Go.ChangeAt

theorem closed_ExactParseBatch : joinedFacts Tryz.pinned.checked.prog 4 Tryz.f4 Rows.fnExactParseBatchSpec Rows.fnExactParseBatchRow = true := by kernel_rfl
end Go.Proofs.YtfieimmlcopbhaaGreatDoor

