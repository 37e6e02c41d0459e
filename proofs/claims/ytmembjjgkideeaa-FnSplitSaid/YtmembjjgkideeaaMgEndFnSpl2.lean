/-
  CLOSED FACTS: FnSplit.
-/
import Derived.Test.YtmembjjgkideeaaMgEndSpl0

namespace Go.Proofs.Ytmembjjgkideeaa
open Go.RowKit Go.ChangeShapes Go.WideShapes Go.ChangeAt

theorem closed_Split : joinedFacts Try.pinned.checked.prog 3 Try.f3 Rows.fnSplitSpec Rows.fnSplitRow = true := by kernel_rfl
end Go.Proofs.Ytmembjjgkideeaa

