/-
  CLOSED FACTS: FnExactParseEntities.
-/
import Derived.Test.YtfieimmlcopbhaaDoorTypes
namespace Go.Proofs.YtfieimmlcopbhaaDoor
open Go.RowKit Go.ChangeShapes Go.WideShapes Go.ChangeAt

theorem closed_ExactParseEntities : joinedFacts Tryd.pinned.checked.prog 6 Tryd.f6 Rows.fnExactParseEntitiesSpec Rows.fnExactParseEntitiesRow = true := by kernel_rfl
end Go.Proofs.YtfieimmlcopbhaaDoor

