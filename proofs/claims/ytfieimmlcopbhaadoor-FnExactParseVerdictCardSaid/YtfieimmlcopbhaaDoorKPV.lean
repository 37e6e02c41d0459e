/-
  CLOSED FACTS: FnExactParseVerdict.
-/
import Derived.Test.YtfieimmlcopbhaaDoorTypes
namespace Go.Proofs.YtfieimmlcopbhaaDoor
open Go.RowKit Go.ChangeShapes Go.WideShapes Go.ChangeAt

theorem closed_ExactParseVerdict : joinedFacts Tryd.pinned.checked.prog 5 Tryd.f5 Rows.fnExactParseVerdictSpec Rows.fnExactParseVerdictRow = true := by kernel_rfl
end Go.Proofs.YtfieimmlcopbhaaDoor

