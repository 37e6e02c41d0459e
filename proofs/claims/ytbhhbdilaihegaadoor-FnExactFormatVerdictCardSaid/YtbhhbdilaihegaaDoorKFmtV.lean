/-
  CLOSED FACTS: FnExactFormatVerdict.
-/
import Derived.Test.YtbhhbdilaihegaaDoorTypes
namespace Go.Proofs.YtbhhbdilaihegaaDoor
open Go.RowKit Go.ChangeShapes Go.WideShapes Go.ChangeAt

theorem closed_ExactFormatVerdict : joinedFacts Tryd.pinned.checked.prog 3 Tryd.f3 Rows.fnExactFormatVerdictSpec Rows.fnExactFormatVerdictRow = true := by kernel_rfl
end Go.Proofs.YtbhhbdilaihegaaDoor
