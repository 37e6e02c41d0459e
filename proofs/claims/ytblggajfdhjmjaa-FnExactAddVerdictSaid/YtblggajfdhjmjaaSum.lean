/-
  PLAIN LAWS, OF NO PROGRAM: sums over a list.
-/
import Derived.Test.YtblggajfdhjmjaaLib
namespace Go.Proofs.Ytblggajfdhjmjaa
def sumBy {α : Type} (f : α → Nat) (xs : List α) : Nat := (xs.map f).sum
theorem sumBy_take {α : Type} (f : α → Nat) (xs : List α) (k : Nat) (h : k < xs.length) : sumBy f (xs.take (k + 1)) = sumBy f (xs.take k) + f xs[k] := by
  rw [List.take_succ_eq_append_getElem h]; unfold sumBy; rw [List.map_append, List.sum_append]; simp
theorem sumBy_le {α : Type} (f : α → Nat) (xs : List α) (k : Nat) : sumBy f (xs.take k) ≤ sumBy f xs := by
  have h := List.take_append_drop k xs
  have : sumBy f xs = sumBy f (xs.take k) + sumBy f (xs.drop k) := by
    unfold sumBy; rw [← List.sum_append, ← List.map_append, h]
  omega
theorem sumBy_at {α : Type} (f : α → Nat) (xs : List α) (k : Nat) (h : k < xs.length) : sumBy f (xs.take k) + f xs[k] ≤ sumBy f xs := by
  rw [← sumBy_take f xs k h]; exact sumBy_le _ _ _
end Go.Proofs.Ytblggajfdhjmjaa
