/-
  CLOSED FACTS: FnRecords.
-/
import Derived.Test.YtfieimmlcopbhaaGreatDoorMgEndFnRec0

namespace Go.Proofs.YtfieimmlcopbhaaGreatDoor
open Go.RowKit Go.ChangeShapes Go.WideShapes Go.ChangeAt

theorem closed_Records : joinedFacts Tryz.pinned.checked.prog 6 Tryz.f6 Rows.fnRecordsSpec Rows.fnRecordsRow = true := by kernel_rfl
end Go.Proofs.YtfieimmlcopbhaaGreatDoor
