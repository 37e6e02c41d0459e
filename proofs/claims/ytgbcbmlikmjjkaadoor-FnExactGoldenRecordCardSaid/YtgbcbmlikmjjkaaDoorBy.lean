/-
  PLAIN LAWS: slices of bytes, as they grow; '[]byte(s)', 'string(b)'.
-/
import Derived.Test.YtgbcbmlikmjjkaaDoorApp
import Derived.Test.YtgbcbmlikmjjkaaDoorTypes
import Derived.Laws.IdiomStrings
import Derived.Laws.Concat
namespace Go.Proofs.YtgbcbmlikmjjkaaDoor
open Go.RowKit

def u8B : Rep UInt8 := ⟨1, fun _ cs b => cs = [.int .u8 b.toNat], fun h => by rw [h]; rfl, fun _ h => h⟩
def u8O : RepO UInt8 := flatO u8B fun _ _ _ _ h => h
theorem infoU8 : (Tryd.prog.info? 5).map (fun i => (i.zero, i.size, i.bytes)) = some (some (.int .u8 0), 1, 1) := by kernel_rfl
theorem elemU8 : ElemT Tryd.prog 93 5 u8O.n 1 := by
  obtain ⟨i, h1, h2, h3, h4⟩ := info_parts infoU8
  exact ⟨Tryd.underlying93, i, _, h1, h2, h3, h4, rfl⟩
theorem one_u8 (n : Int) : ∀ u ∈ (#[Value.int .u8 n] : Array Value).toList, u.oneCell' = true := by simp [Value.oneCell']
theorem own_u8 (W : World) (b : UInt8) {n : Int} (h : n = b.toNat) : u8O.own W (#[Value.int .u8 n] : Array Value).toList b [] := ⟨by rw [h]; rfl, rfl⟩
theorem u8_cells {w : World} : ∀ {l : List UInt8} {cs : List Value} {F : List Nat}, OwnCells u8O w cs l F → cs = l.map fun b => Value.int .u8 (b.toNat : Int)
  | [], _, _, h => by rw [h.1]; rfl
  | b :: l, _, _, ⟨c, d, F1, F2, h1, _, h2, h3⟩ => by
    rw [h1, h2.1, u8_cells h3]; rfl
/-- 'string(b)', b a row that grew -/
theorem conv_bld {w : World} {base : Nat} {v : Value} {l : List UInt8} (h : Bld u8O w base 5 v l []) :
    (convert 93 9 v).run Tryd.prog w = .ok (.string ⟨l.toArray⟩) w := by
  obtain ⟨cs, h1, h2, _⟩ := h
  rcases h1.2 with ⟨rfl, hn⟩ | ⟨g, cap, cur, rfl, hb, hh, hnc, hcm, hcs, htake⟩
  · have : l = [] := List.eq_nil_of_length_eq_zero hn
    subst this
    rw [run_convert_bytes_string w 93 9 5 none 0 0 Tryd.underlying93 Tryd.underlying5 Tryd.underlying9]
    simp [Conv.bytesToString]
    rfl
  · refine run_convert_bytes_back (P := Tryd.prog) w 93 9 5 ⟨g, 0, none⟩ cap l Tryd.underlying93 Tryd.underlying5 Tryd.underlying9 fun j hj => ?_
    rw [add_eq, Nat.zero_add, cell_of_row w g j cur _ (0, 0) hh]
    have e : (cur.toList.take (l.length * u8O.n))[j]? = some (.int .u8 (l[j].toNat : Int)) := by rw [htake, u8_cells h2]; simp [hj]
    have hn : u8O.n = 1 := rfl
    rw [hn, Nat.mul_one, List.getElem?_take, if_pos hj] at e
    simpa using e
theorem Bld.u8_at {w : World} {base : Nat} {A : Option Addr} {n cap : Nat} {l : List UInt8} (h : Bld u8O w base 5 (.slice A n cap) l []) {i : Nat} (hi : i < l.length) :
    ∃ g, A = some ⟨g, 0, none⟩ ∧ w.cell? ⟨g, i, none⟩ = some (.int .u8 (l[i].toNat : Int)) := by
  obtain ⟨cs, h1, h2, _⟩ := h
  rcases h1.2 with ⟨_, hn⟩ | ⟨g, cap', cur, e, hb, hh, hnc, hcm, hcs, htake⟩
  · omega
  · injection e with e1 e2 e3
    refine ⟨g, e1, ?_⟩
    rw [cell_of_row w g i cur _ (0, 0) hh]
    have e : (cur.toList.take (l.length * u8O.n))[i]? = some (.int .u8 (l[i].toNat : Int)) := by rw [htake, u8_cells h2]; simp [hi]
    have hn : u8O.n = 1 := rfl
    rw [hn, Nat.mul_one, List.getElem?_take, if_pos hi] at e
    simpa using e
theorem Bld.form {α : Type} {R : RepO α} {w : World} {base : Nat} {e : TypeId} {v : Value} {xs : List α} {F : List Nat} (h : Bld R w base e v xs F) : ∃ A cap, v = .slice A xs.length cap := by
  obtain ⟨A, cap, e, _⟩ := h.sl.form
  exact ⟨A, cap, e⟩

/-- block g holds the bytes l from its beginning on; they may be written -/
def ByteRow (w : World) (g : Nat) (l : List UInt8) : Prop := ∀ (j : Nat) (h : j < l.length), w.cell? ⟨g, j, none⟩ = some (.int .u8 (l[j].toNat : Int)) ∧ w.frozen? ⟨g, j, none⟩ = false
theorem ByteRow.ext {w w2 : World} {g : Nat} {l : List UInt8} (h : ByteRow w g l) (e : Ext w w2) : ByteRow w2 g l := fun j hj => by
  have h1 := (h j hj).1
  have hlt := World.block_lt_of_cell? w ⟨g, j, none⟩ h1
  exact ⟨e.cell h1, (e.cells.2 g j hlt).trans (h j hj).2⟩
theorem ByteRow.store {w : World} {g : Nat} {l : List UInt8} (h : ByteRow w g l) {i : Nat} (hi : i < l.length) (b : UInt8) : ByteRow (w.setCell ⟨g, i, none⟩ (.int .u8 b.toNat)) g (l.set i b) := fun j hj => by
  have hj' : j < l.length := by simpa using hj
  refine ⟨?_, (World.frozen?_setCell w _ _ _).trans (h j hj').2⟩
  rw [List.getElem_set]
  by_cases e : i = j
  · subst e
    simp only [if_true]
    exact World.cell?_setCell_same w ⟨g, i, none⟩ _ (h i hi).1
  · rw [if_neg e]
    refine (World.cell?_setCell_other (w := w) (v := .int .u8 b.toNat) (a := ⟨g, i, none⟩) (b := ⟨g, j, none⟩) ?_).trans (h j hj').1
    intro h9
    injection h9 with h10 h11 h12
    first | exact e h11 | exact e h11.symm
theorem conv_row {w : World} {g cap n : Nat} {l : List UInt8} (hn : n = l.length) (h : ByteRow w g l) : (convert 93 9 (.slice (some ⟨g, 0, none⟩) n cap)).run Tryd.prog w = .ok (.string ⟨l.toArray⟩) w := by
  subst hn
  exact run_convert_bytes_back (P := Tryd.prog) w 93 9 5 ⟨g, 0, none⟩ cap l Tryd.underlying93 Tryd.underlying5 Tryd.underlying9 fun j hj => by
    rw [add_eq, Nat.zero_add]; exact (h j hj).1
/-- '[]byte(s)' -/
theorem conv_str (w : World) (s : ByteArray) : ∃ cap W, (convert 9 93 (.string s)).run Tryd.prog w = .ok (.slice (some ⟨w.heap.size, 0, none⟩) s.size cap) W ∧ ByteRow W w.heap.size s.data.toList ∧ Ext w W := by
  refine ⟨_, _, run_bytes_of_string (P := Tryd.prog) w 9 93 5 s Tryd.underlying9 Tryd.underlying93 Tryd.underlying5, fun j hj => ?_, (Ext.refl w).drew.alloc _⟩
  have hj2 : j < s.data.size := by simpa using hj
  refine ⟨?_, ?_⟩
  · rw [show w.heap.size = w.drew.heap.size from rfl, World.cell?_alloc_mark, bytesRow_at s _ j hj2]
    simp
  · rw [show w.heap.size = w.drew.heap.size from rfl, World.frozen?_alloc_mark]
    have : s.data.size ≤ (bytesRow s (grownCap w s.size 0 5)).size := by
      rcases Nat.lt_or_ge j (bytesRow s (grownCap w s.size 0 5)).size with h | h
      · rcases Nat.lt_or_ge (s.data.size - 1) (bytesRow s (grownCap w s.size 0 5)).size with h2 | h2
        · omega
        · have := bytesRow_at s (grownCap w s.size 0 5) (s.data.size - 1) (by omega)
          rw [Array.getElem?_eq_none h2] at this
          cases this
      · have := bytesRow_at s (grownCap w s.size 0 5) j hj2
        rw [Array.getElem?_eq_none h] at this
        cases this
    simp
    omega
end Go.Proofs.YtgbcbmlikmjjkaaDoor
