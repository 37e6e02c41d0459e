/-
  WALKS: the laws' szStringS, toStringS, eqStringS.
-/
import Derived.Test.YtblggajfdhjmjaaIntss
namespace Go.Proofs.Ytblggajfdhjmjaa
open Go.RowKit

def sumSize (xs : List ByteArray) : Nat := (xs.map ByteArray.size).sum
theorem sumSize_take (xs : List ByteArray) (k : Nat) (h : k < xs.length) : sumSize (xs.take (k + 1)) = sumSize (xs.take k) + xs[k].size := by
  rw [List.take_succ_eq_append_getElem h]; unfold sumSize; rw [List.map_append, List.sum_append]; simp
theorem sumSize_le (xs : List ByteArray) (k : Nat) : sumSize (xs.take k) ≤ sumSize xs := by
  have h := List.take_append_drop k xs
  have : sumSize xs = sumSize (xs.take k) + sumSize (xs.drop k) := by
    unfold sumSize; rw [← List.sum_append, ← List.map_append, h]
  omega
theorem sumSize_at (xs : List ByteArray) (k : Nat) (h : k < xs.length) : sumSize (xs.take k) + xs[k].size ≤ sumSize xs := by
  rw [← sumSize_take xs k h]; exact sumSize_le _ _
theorem sumSize_mem {xs : List ByteArray} {x : ByteArray} (h : x ∈ xs) : x.size ≤ sumSize xs := by
  obtain ⟨i, hi, rfl⟩ := List.getElem_of_mem h
  have := sumSize_at xs i hi
  omega

theorem infoStr : (Try.prog.info? 9).map (fun i => (i.zero, i.size, i.bytes)) = some (some (.string ByteArray.empty), 1, 16) := by kernel_rfl

theorem strs_cells (w : World) (xs : List ByteArray) (h : ∀ x ∈ xs, x.size ≤ maxLen) : OwnCells strO w (xs.map Value.string) xs [] := by
  induction xs with
  | nil => exact .nil
  | cons x xs ih => exact ⟨[.string x], xs.map Value.string, [], [], rfl, rfl, ⟨⟨rfl, h x (List.mem_cons_self ..)⟩, rfl⟩, ih fun y hy => h y (List.mem_cons_of_mem _ hy)⟩
theorem Sl.strlen {w : World} {v : Value} {xs : List ByteArray} (h : Sl strR w v xs) : ∀ x ∈ xs, x.size ≤ maxLen := by
  intro x hx
  obtain ⟨A, cap, rfl, _⟩ := h.form
  obtain ⟨i, hi, rfl⟩ := List.getElem_of_mem hx
  obtain ⟨_, _, _, hb, _⟩ := h.str hi
  exact hb

end Go.Proofs.Ytblggajfdhjmjaa
