/-
  PLAIN LAWS, OF NO PROGRAM: a list built by appending, element by element, at most one each.
-/
import Derived.Test.YtbhhbdilaihegaaApp
namespace Go.Proofs.Ytbhhbdilaihegaa
open Go.RowKit
theorem flat_len {α β : Type} (f : α → List β) (hf : ∀ x, (f x).length ≤ 1) (xs : List α) : (xs.flatMap f).length ≤ xs.length := by
  induction xs with
  | nil => simp
  | cons x xs ih => rw [List.flatMap_cons, List.length_append, List.length_cons]; have := hf x; omega
theorem flat_step {α β : Type} (f : α → List β) (xs : List α) (k : Nat) (h : k < xs.length) : (xs.take (k + 1)).flatMap f = (xs.take k).flatMap f ++ f xs[k] := by
  rw [List.take_succ_eq_append_getElem h, List.flatMap_append]; simp
theorem flat_take_len {α β : Type} (f : α → List β) (hf : ∀ x, (f x).length ≤ 1) (xs : List α) (k : Nat) : ((xs.take k).flatMap f).length ≤ xs.length := by
  have := flat_len f hf (xs.take k)
  rw [List.length_take] at this; omega
end Go.Proofs.Ytbhhbdilaihegaa
