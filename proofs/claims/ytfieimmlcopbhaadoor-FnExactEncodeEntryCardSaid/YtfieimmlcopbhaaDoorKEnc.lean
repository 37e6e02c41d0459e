/-
  CLOSED FACTS: FnExactEncodeEntry.
-/
import Derived.Test.YtfieimmlcopbhaaDoorTypes
namespace Go.Proofs.YtfieimmlcopbhaaDoor
open Go.RowKit Go.ChangeShapes Go.WideShapes Go.ChangeAt

theorem closed_ExactEncodeEntry : joinedFacts Tryd.pinned.checked.prog 4 Tryd.f4 Rows.fnExactEncodeEntrySpec Rows.fnExactEncodeEntryRow = true := by kernel_rfl
end Go.Proofs.YtfieimmlcopbhaaDoor

