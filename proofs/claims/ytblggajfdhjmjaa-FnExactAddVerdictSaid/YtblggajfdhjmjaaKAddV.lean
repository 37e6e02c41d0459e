/-
  CLOSED FACTS: FnExactAddVerdict.
-/
import Derived.Test.YtblggajfdhjmjaaTypes
namespace Go.Proofs.Ytblggajfdhjmjaa
open Go.RowKit Go.ChangeShapes Go.WideShapes Go.ChangeAt

theorem closed_ExactAddVerdict : joinedFacts Try.pinned.checked.prog 4 Try.f4 Rows.fnExactAddVerdictSpec Rows.fnExactAddVerdictRow = true := by kernel_rfl
end Go.Proofs.Ytblggajfdhjmjaa

