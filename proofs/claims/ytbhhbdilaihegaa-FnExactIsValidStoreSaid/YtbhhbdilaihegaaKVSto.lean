/-
  CLOSED FACTS: FnExactIsValidStore.
-/
import Derived.Test.YtbhhbdilaihegaaTypes
namespace Go.Proofs.Ytbhhbdilaihegaa
open Go.RowKit Go.ChangeShapes Go.WideShapes Go.ChangeAt

theorem closed_ExactIsValidStore : joinedFacts Try.pinned.checked.prog 13 Try.f13 Rows.fnExactIsValidStoreSpec Rows.fnExactIsValidStoreRow = true := by kernel_rfl
end Go.Proofs.Ytbhhbdilaihegaa

