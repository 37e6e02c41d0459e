/-
  CLOSED FACTS: FnExactStoreItems.
-/
import Derived.Test.YtbhhbdilaihegaaTypes
namespace Go.Proofs.Ytbhhbdilaihegaa
open Go.RowKit Go.ChangeShapes Go.WideShapes Go.ChangeAt

theorem closed_ExactStoreItems : joinedFacts Try.pinned.checked.prog 14 Try.f14 Rows.fnExactStoreItemsSpec Rows.fnExactStoreItemsRow = true := by kernel_rfl
end Go.Proofs.Ytbhhbdilaihegaa

