/-
  CLOSED FACTS: FnExactParseOp.
-/
import Derived.Test.YtfieimmlcopbhaaGreatDoorMgEndPO0

namespace Go.Proofs.YtfieimmlcopbhaaGreatDoor
open Go.RowKit Go.ChangeShapes Go.WideShapes Go.ChangeAt

theorem closed_ExactParseOp : joinedFacts Tryz.pinned.checked.prog 3 Tryz.f3 Rows.fnExactParseOpSpec Rows.fnExactParseOpRow = true := by kernel_rfl
end Go.Proofs.YtfieimmlcopbhaaGreatDoor

