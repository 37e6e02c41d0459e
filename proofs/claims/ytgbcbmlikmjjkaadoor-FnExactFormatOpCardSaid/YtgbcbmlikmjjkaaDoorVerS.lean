/-
  WALKS: the laws' szVerdictS, toVerdictS.
-/
import Derived.Test.YtgbcbmlikmjjkaaDoorVer
namespace Go.Proofs.YtgbcbmlikmjjkaaDoor
open Go.RowKit
theorem infoVer : (Tryd.prog.info? 39).map (fun i => (i.zero, i.size, i.bytes)) = some (some (.agg #[.int .i64 0, .int .i64 0, .bool false, .int .i64 0]), 4, 32) := by kernel_rfl
def verZ : List Value := [.int .i64 0, .int .i64 0, .bool false, .int .i64 0]
end Go.Proofs.YtgbcbmlikmjjkaaDoor
