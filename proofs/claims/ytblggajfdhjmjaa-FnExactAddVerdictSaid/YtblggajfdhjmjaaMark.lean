/-
  WALKS: the laws' markIntS, heldIntS.
-/
import Derived.Test.YtblggajfdhjmjaaChg
import Derived.Test.YtblggajfdhjmjaaInts
namespace Go.Proofs.Ytblggajfdhjmjaa
open Go.RowKit
end Go.Proofs.Ytblggajfdhjmjaa
