/-
  WALKS: the laws' markIntSS, heldIntSS.
-/
import Derived.Test.YtbhhbdilaihegaaMark
import Derived.Test.YtbhhbdilaihegaaIntss
namespace Go.Proofs.Ytbhhbdilaihegaa
open Go.RowKit
end Go.Proofs.Ytbhhbdilaihegaa
