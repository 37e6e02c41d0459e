/-
  CLOSED FACTS: FnStore.
-/
import Derived.Test.YtfcbapaojoecgaaGreatMgEndAppB0

namespace Go.Proofs.YtfcbapaojoecgaaGreat
open Go.RowKit Go.ChangeShapes Go.WideShapes Go.ChangeAt

theorem closed_Store : joinedFacts Tryz.pinned.checked.prog 5 Tryz.f5 Rows.fnStoreSpec Rows.fnStoreRow = true := by kernel_rfl
end Go.Proofs.YtfcbapaojoecgaaGreat

