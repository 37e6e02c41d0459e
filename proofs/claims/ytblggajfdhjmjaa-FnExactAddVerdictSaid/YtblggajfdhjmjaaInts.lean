/-
  WALKS: the laws' toIntS, eqIntS.
-/
import Derived.Test.YtblggajfdhjmjaaTypes
import Derived.Test.YtblggajfdhjmjaaOwn
namespace Go.Proofs.Ytblggajfdhjmjaa
open Go.RowKit

theorem infoInt : (Try.prog.info? 3).map (fun i => (i.zero, i.size, i.bytes)) = some (some (.int .i64 0), 1, 8) := by kernel_rfl

theorem ints_cells (w : World) (xs : List Int) (h : ∀ x ∈ xs, I64 x) : OwnCells intO w (xs.map (Value.int .i64)) xs [] := by
  induction xs with
  | nil => exact .nil
  | cons x xs ih => exact ⟨[.int .i64 x], xs.map (Value.int .i64), [], [], rfl, rfl, ⟨⟨rfl, h x (List.mem_cons_self ..)⟩, rfl⟩, ih fun y hy => h y (List.mem_cons_of_mem _ hy)⟩
theorem Sl.i64 {w : World} {v : Value} {xs : List Int} (h : Sl intR w v xs) : ∀ x ∈ xs, I64 x := by
  intro x hx
  obtain ⟨A, cap, rfl, _⟩ := h.form
  obtain ⟨i, hi, rfl⟩ := List.getElem_of_mem hx
  obtain ⟨_, _, _, hb, _⟩ := h.int hi
  exact hb
theorem flat_rep (n : Nat) (z : Value) : (List.replicate n [z]).flatten = List.replicate n z := by
  induction n with
  | zero => rfl
  | succ n ih => simp [List.replicate_succ, ih]

end Go.Proofs.Ytblggajfdhjmjaa
