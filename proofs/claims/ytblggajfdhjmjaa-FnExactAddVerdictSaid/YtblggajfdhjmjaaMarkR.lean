/-
  WALKS: the laws' markStore.
-/
import Derived.Test.YtblggajfdhjmjaaMarkRS
import Derived.Test.YtblggajfdhjmjaaSto
namespace Go.Proofs.Ytblggajfdhjmjaa
open Go.RowKit
end Go.Proofs.Ytblggajfdhjmjaa
