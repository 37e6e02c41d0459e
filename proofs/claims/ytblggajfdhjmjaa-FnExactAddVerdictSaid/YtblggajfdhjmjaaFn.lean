/-
  WALKS: slices.IndexFunc, slices.ContainsFunc at []int.
-/
import Derived.Test.YtblggajfdhjmjaaInts
namespace Go.Proofs.Ytblggajfdhjmjaa
open Go.RowKit

/-- the index of the first that meets p, from k on, else -1 -/
def idxF {α : Type} (p : α → Bool) : Nat → List α → Int
  | _, [] => -1
  | k, x :: xs => if p x then (k : Int) else idxF p (k + 1) xs
theorem idxF_skip {α : Type} (p : α → Bool) (l r : List α) (k : Nat) (h : ∀ x ∈ l, p x = false) : idxF p k (l ++ r) = idxF p (k + l.length) r := by
  induction l generalizing k with
  | nil => simp
  | cons x l ih =>
    simp only [List.cons_append, idxF, h x (List.mem_cons_self ..), Bool.false_eq_true, if_false, List.length_cons]
    rw [ih (k + 1) (fun y hy => h y (List.mem_cons_of_mem _ hy)), show k + 1 + l.length = k + (l.length + 1) by omega]
theorem idxF_at {α : Type} (p : α → Bool) (xs : List α) (k : Nat) (hlt : k < xs.length) (hz : ∀ x ∈ xs.take k, p x = false) (h0 : p xs[k] = true) : idxF p 0 xs = k := by
  have e : xs.take k ++ (xs[k] :: xs.drop (k + 1)) = xs := by simp
  have e2 := idxF_skip p (xs.take k) (xs[k] :: xs.drop (k + 1)) 0 hz
  rw [e] at e2
  rw [e2]
  simp [idxF, h0]; omega
theorem idxF_all {α : Type} (p : α → Bool) (xs : List α) (k : Nat) (hk : ¬ k < xs.length) (hz : ∀ x ∈ xs.take k, p x = false) : idxF p 0 xs = -1 := by
  rw [List.take_of_length_le (by omega)] at hz
  have := idxF_skip p xs [] 0 hz
  rw [List.append_nil] at this
  rw [this]; rfl
theorem idxF_any {α : Type} (p : α → Bool) (xs : List α) (k : Nat) : decide (0 ≤ idxF p k xs) = xs.any p := by
  induction xs generalizing k with
  | nil => simp [idxF]
  | cons x xs ih =>
    simp only [idxF, List.any_cons]
    by_cases hp : p x = true
    · simp [hp]
    · simp [hp, ih (k + 1)]
theorem take_snoc_all {α : Type} (p : α → Prop) (xs : List α) (k : Nat) (hlt : k < xs.length) (hz : ∀ x ∈ xs.take k, p x) (h0 : p xs[k]) : ∀ x ∈ xs.take (k + 1), p x := by
  intro x hx
  rw [List.take_succ_eq_append_getElem hlt] at hx
  rcases List.mem_append.1 hx with hx | hx
  · exact hz x hx
  · simp only [List.mem_singleton] at hx; rw [hx]; exact h0

end Go.Proofs.Ytblggajfdhjmjaa
