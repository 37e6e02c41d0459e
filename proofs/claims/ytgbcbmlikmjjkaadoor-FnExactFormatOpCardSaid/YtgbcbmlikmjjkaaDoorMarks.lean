/-
  WALKS: the laws' markIntSS, heldIntSS.
-/
import Derived.Test.YtgbcbmlikmjjkaaDoorMark
import Derived.Test.YtgbcbmlikmjjkaaDoorIntss
namespace Go.Proofs.YtgbcbmlikmjjkaaDoor
open Go.RowKit
end Go.Proofs.YtgbcbmlikmjjkaaDoor
