/-
  CLOSED FACTS: FnExactRemoveVerdict.
-/
import Derived.Test.YtblggajfdhjmjaaTypes
namespace Go.Proofs.Ytblggajfdhjmjaa
open Go.RowKit Go.ChangeShapes Go.WideShapes Go.ChangeAt

theorem closed_ExactRemoveVerdict : joinedFacts Try.pinned.checked.prog 3 Try.f3 Rows.fnExactRemoveVerdictSpec Rows.fnExactRemoveVerdictRow = true := by kernel_rfl
end Go.Proofs.Ytblggajfdhjmjaa

