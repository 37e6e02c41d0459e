/-
  CLOSED FACTS: FnExactDecodeEntry.
-/
import Derived.Test.YtfieimmlcopbhaaGreatDoorMgEndPO0

namespace Go.Proofs.YtfieimmlcopbhaaGreatDoor
open Go.RowKit Go.ChangeShapes Go.WideShapes Go.ChangeAt

theorem closed_ExactDecodeEntry : joinedFacts Tryz.pinned.checked.prog 5 Tryz.f5 Rows.fnExactDecodeEntrySpec Rows.fnExactDecodeEntryRow = true := by kernel_rfl
end Go.Proofs.YtfieimmlcopbhaaGreatDoor

