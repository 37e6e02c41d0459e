/-
  WALKS: the laws' szIntS, szIntSS, toIntSS, eqIntSS.
-/
import Derived.Test.YtblggajfdhjmjaaInts
namespace Go.Proofs.Ytblggajfdhjmjaa
open Go.RowKit

/-- what is left of a measure: -1 where it does not fit -/
def szv (n left : Int) : Int := if left < n then -1 else left - n
def Small (x : Int) : Prop := -1 ≤ x ∧ x ≤ 1048576
theorem szv_neg {n left : Int} (h : left < n) : szv n left = -1 := by unfold szv; rw [if_pos h]
theorem szv_nn {n left : Int} (h : ¬ left < n) : 0 ≤ szv n left := by unfold szv; rw [if_neg h]; omega
theorem szv_le {n left : Int} (h : 0 ≤ n) (h0 : 0 ≤ left) : szv n left ≤ left := by unfold szv; split <;> omega
theorem szv_small {n left : Int} (h : 0 ≤ n) (hl : Small left) : Small (szv n left) := by unfold Small szv at *; split <;> omega

def sumLen {α : Type} (xs : List (List α)) : Nat := (xs.map List.length).sum
theorem sumLen_take {α : Type} (xs : List (List α)) (k : Nat) (h : k < xs.length) : sumLen (xs.take (k + 1)) = sumLen (xs.take k) + xs[k].length := by
  rw [List.take_succ_eq_append_getElem h]; unfold sumLen; rw [List.map_append, List.sum_append]; simp
theorem sumLen_le {α : Type} (xs : List (List α)) (k : Nat) : sumLen (xs.take k) ≤ sumLen xs := by
  have h := List.take_append_drop k xs
  have : sumLen xs = sumLen (xs.take k) + sumLen (xs.drop k) := by
    unfold sumLen; rw [← List.sum_append, ← List.map_append, h]
  omega
theorem sumLen_at {α : Type} (xs : List (List α)) (k : Nat) (h : k < xs.length) : sumLen (xs.take k) + xs[k].length ≤ sumLen xs := by
  rw [← sumLen_take xs k h]; exact sumLen_le _ _

theorem infoInts : (Try.prog.info? 52).map (fun i => (i.zero, i.size, i.bytes)) = some (some (.slice none 0 0), 1, 24) := by kernel_rfl

theorem sumLen_mem {α : Type} {xs : List (List α)} {x : List α} (h : x ∈ xs) : x.length ≤ sumLen xs := by
  obtain ⟨i, hi, rfl⟩ := List.getElem_of_mem h
  have := sumLen_at xs i hi
  omega
end Go.Proofs.Ytblggajfdhjmjaa
