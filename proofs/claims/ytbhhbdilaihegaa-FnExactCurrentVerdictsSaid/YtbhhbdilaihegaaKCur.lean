/-
  CLOSED FACTS: FnExactCurrentVerdicts.
-/
import Derived.Test.YtbhhbdilaihegaaTypes
namespace Go.Proofs.Ytbhhbdilaihegaa
open Go.RowKit Go.ChangeShapes Go.WideShapes Go.ChangeAt

theorem closed_ExactCurrentVerdicts : joinedFacts Try.pinned.checked.prog 5 Try.f5 Rows.fnExactCurrentVerdictsSpec Rows.fnExactCurrentVerdictsRow = true := by kernel_rfl
end Go.Proofs.Ytbhhbdilaihegaa

