/-
  PLAIN LAWS, OF NO PROGRAM: a row of the call's own, cell by cell: many stores; 'clear'; elements taken out.
-/
import Derived.Test.YtblggajfdhjmjaaApp
import Derived.Lib.SliceRun
namespace Go.Proofs.Ytblggajfdhjmjaa
open Go.RowKit

/-- many stores into a block that is known whole -/
theorem Blk.setCells {g : Nat} {e : TypeId} : ∀ (vs b a c : List Value) (o : Nat) (w : World), Blk w g e (a ++ (b ++ c)) → a.length = o → b.length = vs.length → Blk (w.setCells g o vs) g e (a ++ (vs ++ c))
  | [], b, a, c, o, w, h, _, hb => by
    have : b = [] := List.eq_nil_of_length_eq_zero hb
    subst this
    exact h
  | v :: vs, [], a, c, o, w, h, _, hb => by simp at hb
  | v :: vs, x :: b, a, c, o, w, h, ha, hb => by
    have h1 : Blk (w.setCell ⟨g, o, none⟩ v) g e ((a ++ [v]) ++ (b ++ c)) := Blk.store (done := a) (z := x) (rest := b ++ c) h ha v
    have h2 := Blk.setCells vs b (a ++ [v]) c (o + 1) _ h1 (by rw [List.length_append, ha]; rfl) (by simpa using hb)
    rw [World.setCells]
    rwa [List.append_assoc, List.singleton_append, ← List.cons_append] at h2
theorem heap_setCells {g : Nat} {e : TypeId} (vs : List Value) (o : Nat) (w : World) (cur : Array Value) (h : w.heap[g]? = some (.cells cur e (0, 0))) (hl : o + vs.length ≤ cur.size) :
    (w.setCells g o vs).heap[g]? = some (.cells (cur.toList.take o ++ (vs ++ cur.toList.drop (o + vs.length))).toArray e (0, 0)) := by
  have e1 : cur.toList = cur.toList.take o ++ ((cur.toList.drop o).take vs.length ++ cur.toList.drop (o + vs.length)) := by
    rw [← List.drop_drop, List.take_append_drop, List.take_append_drop]
  have h0 : Blk w g e (cur.toList.take o ++ ((cur.toList.drop o).take vs.length ++ cur.toList.drop (o + vs.length))) := by
    rw [← e1]; unfold Blk; simpa using h
  exact Blk.setCells vs _ _ _ o w h0 (by simp; omega) (by simp; omega)
theorem setCells_keep {g b : Nat} (hb : b ≠ g) : ∀ (vs : List Value) (o : Nat) (w : World), (w.setCells g o vs).heap[b]? = w.heap[b]?
  | [], _, _ => rfl
  | v :: vs, o, w => by rw [World.setCells, setCells_keep hb vs, keep_setCell hb]
theorem setCells_size {g : Nat} : ∀ (vs : List Value) (o : Nat) (w : World), (w.setCells g o vs).heap.size = w.heap.size
  | [], _, _ => rfl
  | v :: vs, o, w => by rw [World.setCells, setCells_size vs]; exact World.size_setCell _ _ _
theorem Ext.setCells {a : World} {g : Nat} (hg : a.heap.size ≤ g) : ∀ (vs : List Value) (o : Nat) {b : World}, Ext a b → Ext a (b.setCells g o vs)
  | [], _, _, h => h
  | v :: vs, o, _, h => by rw [World.setCells]; exact Ext.setCells hg vs (o + 1) (h.setCell hg v)
/-- 'clear(s)', s a slice of n > 0 elements of several cells -/
theorem run_clear_many {P : Program} (w : World) (t e ty : TypeId) (z : Value) (zs : List Value) (ht : P.underlying t = some (.slice e)) (hv : ∀ w, (zeroValue e).run P w = .ok z w) (hz : z.cells = zs.toArray) (h1 : ∀ u ∈ zs, u.oneCell' = true)
    (b o n c : Nat) (hn : 0 < n) (hc : ∀ j, j < n * zs.length → (w.cell? ⟨b, o + j, none⟩).isSome = true) (hf : ∀ j, j < n * zs.length → w.frozen? ⟨b, o + j, none⟩ = false) :
    (Builtin.clear_ #[t] ty #[.slice (some ⟨b, o, none⟩) n c]).run P w = .ok (.tuple #[]) (w.setCells b o (List.replicate n zs).flatten) := by
  have hzc : (Builtin.zeroCells z.cells n).toList = (List.replicate n zs).flatten := by
    rw [hz, ← madeCells_flat]
    simp [Builtin.zeroCells, madeCells]
  have hl : (List.replicate n zs).flatten.length = n * zs.length := by simp
  have hst := run_storeCells_cells (P := P) b o (List.replicate n zs).flatten 0 w (by simpa [hl] using hc) (by simpa [hl] using hf) (by
    intro v hv'
    obtain ⟨l, hl, hv'⟩ := List.mem_flatten.1 hv'
    rw [List.eq_of_mem_replicate hl] at hv'
    exact h1 v hv')
  simp only [Nat.add_zero] at hst
  obtain ⟨m, rfl⟩ : ∃ m, n = m + 1 := ⟨n - 1, by omega⟩
  simp [Builtin.clear_, run_underlying ht, hv, hzc, hst]

section
variable {α : Type} {R : RepO α} {w w2 : World} {base : Nat} {e : TypeId} {v : Value} {xs : List α} {F : List Nat}
/-- a row that grows, and is not nil: its parts -/
theorem Bld.parts (h : Bld R w base e v xs F) (hne : 0 < xs.length) : ∃ g cap cur, v = .slice (some ⟨g, 0, none⟩) xs.length cap ∧ base ≤ g ∧ g < w.heap.size ∧ w.heap[g]? = some (.cells cur e (0, 0)) ∧ xs.length ≤ cap ∧ cap ≤ maxLen ∧ cur.size = cap * R.n ∧
    OwnCells R w (cur.toList.take (xs.length * R.n)) xs F ∧ g ∉ F ∧ F.Nodup ∧ ∀ b ∈ F, base ≤ b := by
  obtain ⟨cs, h1, h2, h3, h4, h5⟩ := h
  rcases h1.2 with ⟨rfl, hn⟩ | ⟨g, cap, cur, rfl, hb, hh, hnc, hcm, hcs, htake⟩
  · omega
  · exact ⟨g, cap, cur, rfl, hb, block_lt hh, hh, hnc, hcm, hcs, by rw [htake]; exact h2, h3 g rfl, h4, h5⟩
theorem Bld.of_parts {g cap n : Nat} {cur : Array Value} (hn : n = xs.length) (hb : base ≤ g) (hh : w.heap[g]? = some (.cells cur e (0, 0))) (hnc : xs.length ≤ cap) (hcm : cap ≤ maxLen) (hcs : cur.size = cap * R.n)
    (ho : OwnCells R w (cur.toList.take (xs.length * R.n)) xs F) (hg : g ∉ F) (hF : F.Nodup) (h5 : ∀ b ∈ F, base ≤ b) : Bld R w base e (.slice (some ⟨g, 0, none⟩) n cap) xs F := by
  subst hn
  refine ⟨_, ⟨ho.length, .inr ⟨g, cap, cur, rfl, hb, hh, hnc, hcm, hcs, rfl⟩⟩, ho, fun g2 hg2 => ?_, hF, h5⟩
  injection hg2 with hg2
  subst hg2
  exact hg
end
end Go.Proofs.Ytblggajfdhjmjaa
