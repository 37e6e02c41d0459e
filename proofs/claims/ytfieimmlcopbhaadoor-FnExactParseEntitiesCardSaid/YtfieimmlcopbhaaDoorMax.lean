/-
  PLAIN LAW: the library's variable bytealg.MaxLen holds some int.
-/
import Derived.Test.YtfieimmlcopbhaaDoorTypes
import Derived.HandedShaped
import Derived.ShapedOpen
namespace Go.Proofs.YtfieimmlcopbhaaDoor
open Go.RowKit

def ML (w : World) : Prop := ∃ m, w.cell? ⟨0, 0, none⟩ = some (.int .i64 m)
theorem ML.mono {w w2 : World} (e : Ext w w2) (h : ML w) : ML w2 := let ⟨m, hm⟩ := h; ⟨m, e.cell hm⟩
end Go.Proofs.YtfieimmlcopbhaaDoor
