/-
  WALKS: the laws' markIntSS, heldIntSS.
-/
import Derived.Test.YtfieimmlcopbhaaDoorMark
import Derived.Test.YtfieimmlcopbhaaDoorIntss
namespace Go.Proofs.YtfieimmlcopbhaaDoor
open Go.RowKit
end Go.Proofs.YtfieimmlcopbhaaDoor
