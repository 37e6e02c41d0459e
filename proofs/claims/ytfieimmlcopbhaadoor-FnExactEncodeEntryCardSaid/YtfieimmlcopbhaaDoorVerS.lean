/-
  WALKS: the laws' szVerdictS, toVerdictS.
-/
import Derived.Test.YtfieimmlcopbhaaDoorVer
namespace Go.Proofs.YtfieimmlcopbhaaDoor
open Go.RowKit
theorem infoVer : (Tryd.prog.info? 36).map (fun i => (i.zero, i.size, i.bytes)) = some (some (.agg #[.int .i64 0, .int .i64 0, .bool false, .int .i64 0]), 4, 32) := by kernel_rfl
def verZ : List Value := [.int .i64 0, .int .i64 0, .bool false, .int .i64 0]
end Go.Proofs.YtfieimmlcopbhaaDoor
