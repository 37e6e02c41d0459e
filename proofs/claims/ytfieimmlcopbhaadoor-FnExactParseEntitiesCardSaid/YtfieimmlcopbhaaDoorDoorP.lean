/-
  THE DOOR SEATS' WRAP FOR PARSERS: laid variables (the table of powers, the two errors) AND the world's shape.
-/
import Derived.Test.YtfieimmlcopbhaaDoorDoor
import Derived.Test.YtfieimmlcopbhaaDoorDoorM
import Derived.Test.YtfieimmlcopbhaaDoorEnv
import Derived.Stop.LaidErr
namespace Go.Proofs.YtfieimmlcopbhaaDoor
open Go.RowKit

theorem star_err : "*" ++ "errors.errorString" = "*errors.errorString" := by decide
theorem row_err (u : TypeId) (h : Tryd.prog.typeName? 3 u = some "*errors.errorString") : u = 169 :=
  typeName_ptr_named (nm := "errors.errorString") (by rw [star_err]; kernel_rfl) (by kernel_rfl) (by decide) u (by rw [star_err]; exact h)
theorem ev_sent {n : String} {g : Nat} {text : List UInt8} {r : List (String × DataW Unit)} {W : World}
    (h : laidMet Tryd.prog ((n, .iface "*errors.errorString" (.ptr (.agg [.lit (.string text)]))) :: r) W) (hg : Tryd.prog.globalNamed n = some g) (ht : (Tryd.prog.globals[g]?).map (·.type) = some 98) :
    ∃ tp p, W.cell? ⟨g, 0, none⟩ = some (.iface tp p) := by
  obtain ⟨a, s, hv, _⟩ := laid_sentinel h hg ht Tryd.underlying98 row_err Tryd.underlying169 Tryd.underlying171 rfl rfl Tryd.underlying9 (by kernel_rfl) (by kernel_rfl)
  exact ⟨_, _, by simpa using World.var?_cell hg hv 0⟩
end Go.Proofs.YtfieimmlcopbhaaDoor
