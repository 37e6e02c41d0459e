/-
  CLOSED FACTS: FnExactEqualStores.
-/
import Derived.Test.YtbhhbdilaihegaaTypes
namespace Go.Proofs.Ytbhhbdilaihegaa
open Go.RowKit Go.ChangeShapes Go.WideShapes Go.ChangeAt

theorem closed_ExactEqualStores : joinedFacts Try.pinned.checked.prog 10 Try.f10 Rows.fnExactEqualStoresSpec Rows.fnExactEqualStoresRow = true := by kernel_rfl
end Go.Proofs.Ytbhhbdilaihegaa

