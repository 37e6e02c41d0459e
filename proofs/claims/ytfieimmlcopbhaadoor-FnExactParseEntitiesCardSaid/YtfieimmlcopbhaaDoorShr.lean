/-
  PLAIN LAWS, OF NO PROGRAM: data in an older world, named by new data.
-/
import Derived.Test.YtfieimmlcopbhaaDoorApp
namespace Go.Proofs.YtfieimmlcopbhaaDoor
open Go.RowKit

/-- data of w0: they own nothing here -/
def atO {α : Type} (R : Rep α) (w0 : World) : RepO α :=
  { n := R.n
    rd := fun _ cs x => R.rd w0 cs x
    len := R.len
    mono := fun _ h => h
    own := fun _ cs x F => R.rd w0 cs x ∧ F = []
    own_rd := fun h => h.1
    own_lt := fun h b hb => by rw [h.2] at hb; cases hb
    own_keep := fun _ h => h }
theorem Sl.of_at {α : Type} {R : Rep α} {w0 w : World} {v : Value} {xs : List α} (h : Sl (atO R w0).toRep w v xs) (e : Ext w0 w) : Sl R w v xs := by
  obtain ⟨A, cap, rfl, hm, hi⟩ := h
  refine ⟨A, cap, rfl, hm, fun i h => ?_⟩
  obtain ⟨b, off, cs, rfl, hr, hc⟩ := hi i h
  exact ⟨b, off, cs, rfl, R.mono e hr, hc⟩
end Go.Proofs.YtfieimmlcopbhaaDoor
