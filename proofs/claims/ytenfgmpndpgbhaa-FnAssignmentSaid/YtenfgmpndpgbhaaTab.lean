/-
  PLAIN LAWS: the greatest value of the rows from one on, for each set of columns that are taken. A table of ints in memory.
-/
import Derived.Test.YtenfgmpndpgbhaaAsgV
import Derived.Test.YtenfgmpndpgbhaaApp
namespace Go.Proofs.Ytenfgmpndpgbhaa
open Go.RowKit

/-- one row's columns from k on -/
def bvRow (next : Nat → Int) (t : Nat) : Nat → List Int → Int → Int
  | _, [], acc => acc
  | k, x :: xs, acc => bvRow next t (k + 1) xs (if 0 < x ∧ t.testBit k = false then max acc (x + next (t ||| 1 <<< k)) else acc)
def bv : List (List Int) → Nat → Int
  | [], _ => 0
  | r :: rs, t => bvRow (bv rs) t 0 r (bv rs t)

theorem bvRow_bd {next : Nat → Int} {B : Int} (hn : ∀ t, 0 ≤ next t ∧ next t ≤ B) (t : Nat) : ∀ (xs : List Int) (k : Nat) (acc : Int), (∀ x ∈ xs, 0 ≤ x ∧ x ≤ 100) → 0 ≤ acc → acc ≤ B + 100 →
    0 ≤ bvRow next t k xs acc ∧ bvRow next t k xs acc ≤ B + 100
  | [], k, acc, _, h1, h2 => ⟨h1, h2⟩
  | x :: xs, k, acc, hx, h1, h2 => by
    have hx0 := hx x (List.mem_cons_self ..)
    have hnt := hn (t ||| 1 <<< k)
    unfold bvRow
    refine bvRow_bd hn t xs (k + 1) _ (fun y hy => hx y (List.mem_cons_of_mem _ hy)) ?_ ?_
    · split <;> omega
    · split <;> omega
theorem bv_bd : ∀ (m : List (List Int)) (t : Nat), (∀ r ∈ m, ∀ x ∈ r, 0 ≤ x ∧ x ≤ 100) → 0 ≤ bv m t ∧ bv m t ≤ 100 * m.length
  | [], t, _ => by simp [bv]
  | r :: rs, t, h => by
    have ih : ∀ t, 0 ≤ bv rs t ∧ bv rs t ≤ 100 * rs.length := fun t => bv_bd rs t fun r' hr => h r' (List.mem_cons_of_mem _ hr)
    have h0 := ih t
    have := bvRow_bd ih t r 0 (bv rs t) (h r (List.mem_cons_self ..)) h0.1 (by omega)
    unfold bv
    simp only [List.length_cons]
    omega
theorem bvRow_snoc (next : Nat → Int) (t : Nat) : ∀ (xs : List Int) (k : Nat) (acc : Int) (x : Int), bvRow next t k (xs ++ [x]) acc =
    (if 0 < x ∧ t.testBit (k + xs.length) = false then max (bvRow next t k xs acc) (x + next (t ||| 1 <<< (k + xs.length))) else bvRow next t k xs acc)
  | [], k, acc, x => by simp [bvRow]
  | y :: ys, k, acc, x => by
    simp only [List.cons_append, bvRow, List.length_cons]
    rw [bvRow_snoc next t ys (k + 1) _ x, show k + 1 + ys.length = k + (ys.length + 1) by omega]

theorem bv_step (m : List (List Int)) (k : Nat) (h : k < m.length) (t : Nat) : bv (m.drop k) t = bvRow (bv (m.drop (k + 1))) t 0 m[k] (bv (m.drop (k + 1)) t) := by
  rw [List.drop_eq_getElem_cons h, bv]
theorem bv_end (m : List (List Int)) (t : Nat) : bv (m.drop m.length) t = 0 := by rw [List.drop_length, bv]

theorem okMat_mem {m : List (List Int)} (h : okMat m = true) {r : List Int} (hr : r ∈ m) : ∀ x ∈ r, 0 ≤ x ∧ x ≤ 100 := by
  obtain ⟨i, hi, rfl⟩ := List.getElem_of_mem hr
  exact (okMat_at h hi).2.2
/-- a table of n rows of N ints -/
def tab (n N : Nat) (f : Nat → Nat → Int) : List (List Int) := (List.range n).map fun j => (List.range N).map (f j)
def upd (f : Nat → Nat → Int) (i s : Nat) (x : Int) : Nat → Nat → Int := fun j t => if j = i ∧ t = s then x else f j t
theorem upd_same (f : Nat → Nat → Int) (i s : Nat) (x : Int) : upd f i s x i s = x := by simp [upd]
theorem upd_other (f : Nat → Nat → Int) {i s j t : Nat} (x : Int) (h : ¬ (j = i ∧ t = s)) : upd f i s x j t = f j t := by simp only [upd]; rw [if_neg h]
theorem tab_len (n N : Nat) (f : Nat → Nat → Int) : (tab n N f).length = n := by simp [tab]
theorem tab_row {n N : Nat} {f : Nat → Nat → Int} {i : Nat} (h : i < (tab n N f).length) : (tab n N f)[i] = (List.range N).map (f i) := by simp [tab]
theorem tab_set {n N : Nat} {f : Nat → Nat → Int} {i s : Nat} (h : i < (tab n N f).length) (x : Int) : (tab n N f).set i ((tab n N f)[i].set s x) = tab n N (upd f i s x) := by
  rw [tab_row h]
  have hl : (((tab n N f).set i (((List.range N).map (f i)).set s x))).length = (tab n N (upd f i s x)).length := by rw [List.length_set, tab_len, tab_len]
  refine List.ext_getElem hl fun j h1 h2 => ?_
  rw [tab_row h2, List.getElem_set]
  by_cases e : i = j
  · subst e
    rw [if_pos rfl]
    refine List.ext_getElem (by simp) fun t h3 h4 => ?_
    rw [List.getElem_set]
    by_cases e : s = t
    · subst e; simp [upd]
    · rw [if_neg e]
      simp only [List.getElem_map, List.getElem_range]
      rw [upd_other f x (fun h => e h.2.symm)]
  · rw [if_neg e, tab_row (by simpa using h1)]
    refine List.map_congr_left fun t _ => ?_
    rw [upd_other f x (fun h => e h.1.symm)]
theorem tab_zero (n N : Nat) : List.replicate n (List.replicate N (0 : Int)) = tab n N fun _ _ => 0 := by
  refine List.ext_getElem (by simp [tab]) fun j h1 h2 => ?_
  rw [tab_row h2, List.getElem_replicate]
  refine List.ext_getElem (by simp) fun t h3 h4 => ?_
  simp
/-- a cell of the table, and what stands behind a store -/
theorem tab_at {w : World} {g off n N cap : Nat} {f : Nat → Nat → Int} {F : List Nat} (h : OwnSl (slO intO) w (.slice (some ⟨g, off, none⟩) n cap) (tab n N f) F) (hN : F.Nodup) {i s : Nat} (hi : i < n) (hs : s < N) :
    ∃ b o2 cap2, w.cell? ⟨g, off + i, none⟩ = some (.slice (some ⟨b, o2, none⟩) N cap2) ∧ b ∈ F ∧ g ≠ b ∧ w.cell? ⟨b, o2 + s, none⟩ = some (.int .i64 (f i s)) ∧ w.frozen? ⟨b, o2 + s, none⟩ = false ∧
      ∀ x, I64 x → OwnSl (slO intO) (w.setCell ⟨b, o2 + s, none⟩ (.int .i64 x)) (.slice (some ⟨g, off, none⟩) n cap) (tab n N (upd f i s x)) F := by
  have hi2 : i < (tab n N f).length := by rw [tab_len]; exact hi
  have hs2 : s < (tab n N f)[i].length := by rw [tab_row]; simpa using hs
  obtain ⟨g', off', cap', b, o2, cap2, e, h1, h2, h3, h4, h5, h6⟩ := h.ints_store hN hi2 hs2
  injection e with e1 e2 e3
  injection e1 with e1
  injection e1 with e4 e5
  subst e4; subst e5; subst e3
  refine ⟨b, o2, cap2, ?_, h2, h3, ?_, h5, fun x hx => ?_⟩
  · rw [h1, tab_row]; simp
  · rw [h4]; simp [tab_row]
  · have := h6 x hx
    rwa [tab_set] at this
end Go.Proofs.Ytenfgmpndpgbhaa
