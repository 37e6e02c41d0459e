/-
  CLOSED FACTS: FnExactSplitVerdicts.
-/
import Derived.Test.YtmembjjgkideeaaMgEndSpl0

namespace Go.Proofs.Ytmembjjgkideeaa
open Go.RowKit Go.ChangeShapes Go.WideShapes Go.ChangeAt

theorem closed_ExactSplitVerdicts : joinedFacts Try.pinned.checked.prog 4 Try.f4 Rows.fnExactSplitVerdictsSpec Rows.fnExactSplitVerdictsRow = true := by kernel_rfl
end Go.Proofs.Ytmembjjgkideeaa

