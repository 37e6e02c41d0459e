/-
  CLOSED FACTS: FnExactFormatBatch.
-/
import Derived.Test.YtfieimmlcopbhaaDoorTypes
namespace Go.Proofs.YtfieimmlcopbhaaDoor
open Go.RowKit Go.ChangeShapes Go.WideShapes Go.ChangeAt

theorem closed_ExactFormatBatch : joinedFacts Tryd.pinned.checked.prog 3 Tryd.f3 Rows.fnExactFormatBatchSpec Rows.fnExactFormatBatchRow = true := by kernel_rfl
end Go.Proofs.YtfieimmlcopbhaaDoor

