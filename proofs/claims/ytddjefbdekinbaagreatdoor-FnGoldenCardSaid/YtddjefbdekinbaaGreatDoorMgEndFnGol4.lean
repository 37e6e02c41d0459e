/-
  WALKS: within, l1In, isMember, IsValidVerdict (both), toVerdict.
-/
import Derived.Test.YtddjefbdekinbaaGreatDoorMgEndFnGol0

namespace Go.Proofs.YtddjefbdekinbaaGreatDoor
open Go.RowKit

def okV (v : Verdict) : Bool := inB v.a 1 399 && inB v.b 1 399 && decide (v.a < v.b) && inB v.time 1 999

end Go.Proofs.YtddjefbdekinbaaGreatDoor
