/-
  HOW MANY NUMBERS THE ARGUMENTS TAKE.
-/
import Derived.Test.YtbhhbdilaihegaaMarks
namespace Go.Proofs.Ytbhhbdilaihegaa
open Go.RowKit
theorem cntIntS_le (xs : List Int) : (lstMk intMk).cnt xs ≤ xs.length := Nat.le_of_eq (intMk_sum xs)
theorem cntIntSS_le (xs : List (List Int)) : (lstMk (lstMk intMk)).cnt xs ≤ xs.length + sumLen xs := by
  have e : (lstMk (lstMk intMk)).cnt xs = sumLen xs := by
    show ((xs.map (lstMk intMk).cnt).sum) = (xs.map List.length).sum
    congr 1
    refine List.map_congr_left fun x _ => intMk_sum x
  omega
theorem sum_bd {α : Type} (M : Mk α) (xs : List α) (b : Nat) (h : ∀ x ∈ xs, M.cnt x ≤ b) : M.sum xs ≤ xs.length * b := by
  induction xs with
  | nil => simp [Mk.sum]
  | cons x xs ih =>
    have h1 := h x (List.mem_cons_self ..)
    have h2 := ih fun y hy => h y (List.mem_cons_of_mem _ hy)
    unfold Mk.sum at h2 ⊢
    simp only [List.map_cons, List.sum_cons, List.length_cons, Nat.add_mul]
    omega
end Go.Proofs.Ytbhhbdilaihegaa
