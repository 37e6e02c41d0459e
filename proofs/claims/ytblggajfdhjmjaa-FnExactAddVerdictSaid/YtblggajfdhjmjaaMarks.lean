/-
  WALKS: the laws' markIntSS, heldIntSS.
-/
import Derived.Test.YtblggajfdhjmjaaMark
import Derived.Test.YtblggajfdhjmjaaIntss
namespace Go.Proofs.Ytblggajfdhjmjaa
open Go.RowKit
end Go.Proofs.Ytblggajfdhjmjaa
