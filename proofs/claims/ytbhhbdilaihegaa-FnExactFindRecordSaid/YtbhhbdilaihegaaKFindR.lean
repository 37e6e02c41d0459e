/-
  CLOSED FACTS: FnExactFindRecord.
-/
import Derived.Test.YtbhhbdilaihegaaTypes
namespace Go.Proofs.Ytbhhbdilaihegaa
open Go.RowKit Go.ChangeShapes Go.WideShapes Go.ChangeAt

theorem closed_ExactFindRecord : joinedFacts Try.pinned.checked.prog 8 Try.f8 Rows.fnExactFindRecordSpec Rows.fnExactFindRecordRow = true := by kernel_rfl
end Go.Proofs.Ytbhhbdilaihegaa

