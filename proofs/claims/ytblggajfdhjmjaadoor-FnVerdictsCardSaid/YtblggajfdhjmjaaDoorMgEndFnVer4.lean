/-
  CLOSED FACTS: FnVerdicts.
-/
import Derived.Test.YtblggajfdhjmjaaDoorMgEndFnVer0

namespace Go.Proofs.YtblggajfdhjmjaaDoor
open Go.RowKit Go.ChangeShapes Go.WideShapes Go.ChangeAt

theorem closed_Verdicts : joinedFacts Tryd.pinned.checked.prog 3 Tryd.f3 Rows.fnVerdictsSpec Rows.fnVerdictsRow = true := by kernel_rfl
end Go.Proofs.YtblggajfdhjmjaaDoor
