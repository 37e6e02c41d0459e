/-
  CLOSED FACTS: FnBatches.
-/
import Derived.Test.YtfieimmlcopbhaaGreatDoorMgEndFnRec0

namespace Go.Proofs.YtfieimmlcopbhaaGreatDoor
open Go.RowKit Go.ChangeShapes Go.WideShapes Go.ChangeAt

theorem closed_Batches : joinedFacts Tryz.pinned.checked.prog 7 Tryz.f7 Rows.fnBatchesSpec Rows.fnBatchesRow = true := by kernel_rfl
end Go.Proofs.YtfieimmlcopbhaaGreatDoor
