/-
  WALKS: IsOverlapMatrix (both).
-/
import Derived.Test.YtfieimmlcopbhaaDoorFn
import Derived.Test.YtfieimmlcopbhaaDoorIntss
import Derived.Test.YtfieimmlcopbhaaDoorBase
namespace Go.Proofs.YtfieimmlcopbhaaDoor
open Go.RowKit

def okRow (n : Nat) (r : List Int) : Bool := r.length == n && decide (r.length ≤ 8) && r.all fun x => inB x 0 100
def width (m : List (List Int)) : Nat := (m.headD []).length
def okMat (m : List (List Int)) : Bool := m.all (okRow (width m)) && decide (m.length ≤ 8)
theorem width_eq (m : List (List Int)) (h : 0 < m.length) : width m = m[0].length := by
  cases m with
  | nil => simp at h
  | cons r m => rfl

theorem all_take {α : Type} (p : α → Bool) (xs : List α) (k : Nat) (hk : ¬ k < xs.length) (hz : ∀ x ∈ xs.take k, p x = true) : xs.all p = true := by
  rw [List.take_of_length_le (by omega)] at hz
  exact List.all_eq_true.2 hz
theorem all_not {α : Type} (p : α → Bool) (xs : List α) (k : Nat) (hk : k < xs.length) (h : ¬ p xs[k] = true) : xs.all p = false :=
  List.all_eq_false.2 ⟨_, List.getElem_mem hk, h⟩

end Go.Proofs.YtfieimmlcopbhaaDoor
