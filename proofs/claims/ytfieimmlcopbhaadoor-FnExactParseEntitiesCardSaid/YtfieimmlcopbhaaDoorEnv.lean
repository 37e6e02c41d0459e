/-
  PLAIN LAWS: what the library's variables hold (the laws that read numbers ask for it).
-/
import Derived.Test.YtfieimmlcopbhaaDoorFmtI
import Derived.Test.YtfieimmlcopbhaaDoorMax
namespace Go.Proofs.YtfieimmlcopbhaaDoor
open Go.RowKit

/-- the two errors of strconv hold interface values -/
def EV (w : World) : Prop := (∃ tp p, w.cell? ⟨1, 0, none⟩ = some (.iface tp p)) ∧ ∃ tp p, w.cell? ⟨2, 0, none⟩ = some (.iface tp p)
theorem EV.mono {w w2 : World} (e : Ext w w2) (h : EV w) : EV w2 := by
  obtain ⟨⟨a, b, h1⟩, c, d, h2⟩ := h
  exact ⟨⟨a, b, e.cell h1⟩, c, d, e.cell h2⟩
structure Env (w : World) : Prop where
  T : Tab w
  M : ML w
  V : EV w
theorem Env.mono {w w2 : World} (e : Ext w w2) (h : Env w) : Env w2 := ⟨h.T.mono e, h.M.mono e, h.V.mono e⟩
end Go.Proofs.YtfieimmlcopbhaaDoor
