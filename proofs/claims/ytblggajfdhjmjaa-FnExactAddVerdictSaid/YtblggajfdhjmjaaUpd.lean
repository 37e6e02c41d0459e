/-
  PLAIN LAWS, OF NO PROGRAM: a store into data that a call made.
-/
import Derived.Test.YtblggajfdhjmjaaOwn
namespace Go.Proofs.Ytblggajfdhjmjaa
open Go.RowKit

theorem take_split {α : Type} {l c0 c c1 : List α} {off n : Nat} (h : (l.drop off).take n = c0 ++ (c ++ c1)) (hn : off + n ≤ l.length) :
    l = l.take off ++ (c0 ++ (c ++ c1)) ++ l.drop (off + n) ∧ c0.length + c.length + c1.length = n := by
  have h2 : l = l.take off ++ ((l.drop off).take n ++ (l.drop off).drop n) := by rw [List.take_append_drop, List.take_append_drop]
  have h3 := congrArg List.length h
  simp only [List.length_take, List.length_drop, List.length_append] at h3
  refine ⟨?_, by omega⟩
  rw [h, List.drop_drop] at h2
  rw [List.append_assoc]
  exact h2
theorem set_split {α : Type} {l a c0 c c1 d : List α} (h : l = a ++ (c0 ++ (c ++ c1)) ++ d) (j : Nat) (hj : j < c.length) (u : α) :
    l.set (a.length + c0.length + j) u = a ++ (c0 ++ (c.set j u ++ c1)) ++ d := by
  subst h
  rw [List.append_assoc, List.set_append_right _ _ (by omega)]
  rw [show a.length + c0.length + j - a.length = c0.length + j by omega]
  rw [List.append_assoc, List.set_append_right _ _ (by omega), show c0.length + j - c0.length = j by omega]
  rw [List.append_assoc, List.set_append_left _ _ (by omega)]
  simp

section
variable {α : Type} {R : RepO α} {w w2 : World} {cs : List Value} {xs : List α} {F G : List Nat}
theorem OwnCells.join {c0 c c1 : List Value} {i : Nat} {x : α} (hi : i < xs.length) {F0 F1 F2 : List Nat} (h0 : OwnCells R w c0 (xs.take i) F0) (h1 : R.own w c x F1) (h2 : OwnCells R w c1 (xs.drop (i + 1)) F2) :
    OwnCells R w (c0 ++ (c ++ c1)) (xs.set i x) (F0 ++ (F1 ++ F2)) := by
  have e : xs.set i x = xs.take i ++ ([x] ++ xs.drop (i + 1)) := by
    apply List.ext_getElem?
    intro j
    rw [List.getElem?_set]
    by_cases h : i = j
    · subst h
      simp [hi, List.getElem?_append_right, Nat.min_eq_left (Nat.le_of_lt hi)]
    · rw [if_neg h]
      by_cases h2 : j < i
      · rw [List.getElem?_append_left (by simp; omega)]
        simp [List.getElem?_take, h2]
      · rw [List.getElem?_append_right (by simp; omega), List.getElem?_append_right (by simp; omega)]
        simp only [List.length_take, List.length_singleton, List.getElem?_drop]
        congr 1
        omega
  rw [e]
  exact h0.append ((OwnCells.one h1).append h2)
end

section
variable {α : Type} {R : RepO α} {w : World} {v : Value} {xs : List α} {F : List Nat}
/-- element i: where it lies; what it owns; what stands behind a change inside it, and behind a store of one of its cells -/
theorem OwnSl.elem (h : OwnSl R w v xs F) (hN : F.Nodup) {i : Nat} (hi : i < xs.length) : ∃ g off cap c F1, v = .slice (some ⟨g, off, none⟩) xs.length cap ∧ g ∈ F ∧ (∀ b ∈ F1, b ∈ F) ∧ g ∉ F1 ∧ F1.Nodup ∧
    R.own w c xs[i] F1 ∧ c.length = R.n ∧ (∀ j, j < R.n → w.cell? ⟨g, off + i * R.n + j, none⟩ = c[j]?) ∧ (∀ o, w.frozen? ⟨g, o, none⟩ = false) ∧
    (∀ w2 x', (∀ b ∈ F, b ∉ F1 → w2.heap[b]? = w.heap[b]?) → R.own w2 c x' F1 → OwnSl R w2 v (xs.set i x') F) ∧
    (∀ j u x', j < R.n → R.own (w.setCell ⟨g, off + i * R.n + j, none⟩ u) (c.set j u) x' F1 → OwnSl R (w.setCell ⟨g, off + i * R.n + j, none⟩ u) v (xs.set i x') F) := by
  rcases h with ⟨rfl, _⟩ | ⟨g, off, cap, cur, e, F2, rfl, hm, hg, rfl, hs, hc⟩
  · simp at hi
  · obtain ⟨c0, c, c1, G0, G1, G2, e0, rfl, l0, l1, k0, k1, k2⟩ := hc.split i hi
    have hd := List.nodup_cons.1 hN
    have hgm : ∀ b, b ∈ G0 ++ (G1 ++ G2) → b ≠ g := fun b hb e => hd.1 (e ▸ hb)
    have hn2 := List.nodup_append.1 hd.2
    have hn3 := List.nodup_append.1 hn2.2.1
    have hlt : i * R.n + R.n ≤ xs.length * R.n := by rw [← Nat.succ_mul]; exact Nat.mul_le_mul_right _ hi
    have hs' : off + xs.length * R.n ≤ cur.toList.length := by simpa using hs
    obtain ⟨hcur, hlen⟩ := take_split e0 hs'
    have hoff : (cur.toList.take off).length = off := by rw [List.length_take]; omega
    refine ⟨g, off, cap, c, G1, rfl, List.mem_cons_self .., fun b hb => List.mem_cons_of_mem _ (List.mem_append_right _ (List.mem_append_left _ hb)), fun hb => hgm g (List.mem_append_right _ (List.mem_append_left _ hb)) rfl, hn3.1, k1, l1,
      fun j hj => ?_, fun o => frozen_of_row w g o cur e hg, fun w2 x' hk ho => ?_, fun j u x' hj ho => ?_⟩
    · rw [cell_of_row w g _ cur e (0, 0) hg, ← Array.getElem?_toList, hcur, List.append_assoc, List.getElem?_append_right (by omega), List.append_assoc, List.getElem?_append_right (by omega), List.append_assoc,
        List.getElem?_append_left (by omega)]
      congr 1
      omega
    · refine .inr ⟨g, off, cap, cur, e, G0 ++ (G1 ++ G2), by rw [List.length_set], by rw [List.length_set]; exact hm, ?_, rfl, by rw [List.length_set]; exact hs, ?_⟩
      · exact (hk g (List.mem_cons_self ..) fun hb => hgm g (List.mem_append_right _ (List.mem_append_left _ hb)) rfl).trans hg
      · rw [List.length_set, e0]
        refine OwnCells.join hi (k0.keep fun b hb => ?_) ho (k2.keep fun b hb => ?_)
        · exact hk b (List.mem_cons_of_mem _ (List.mem_append_left _ hb)) fun hb2 => hn2.2.2 b hb b (List.mem_append_left _ hb2) rfl
        · exact hk b (List.mem_cons_of_mem _ (List.mem_append_right _ (List.mem_append_right _ hb))) fun hb2 => hn3.2.2 b hb2 b hb rfl
    · have hset := set_split hcur j (by omega) u
      rw [hoff, l0] at hset
      have hh : (w.setCell ⟨g, off + i * R.n + j, none⟩ u).heap[g]? = some (.cells (cur.toList.set (off + i * R.n + j) u).toArray e (0, 0)) := by
        rw [heap_setCell_same w g _ cur e u hg]
        congr 2
        apply Array.ext'
        simp
      refine .inr ⟨g, off, cap, _, e, G0 ++ (G1 ++ G2), by rw [List.length_set], by rw [List.length_set]; exact hm, hh, rfl, by rw [List.length_set]; simpa using hs, ?_⟩
      have hk : ∀ b, b ≠ g → (w.setCell ⟨g, off + i * R.n + j, none⟩ u).heap[b]? = w.heap[b]? := fun b hb => keep_setCell hb
      have e1 : ((cur.toList.set (off + i * R.n + j) u).toArray.toList.drop off).take ((xs.set i x').length * R.n) = c0 ++ (c.set j u ++ c1) := by
        rw [List.length_set, hset, List.append_assoc, List.drop_append_of_le_length (by omega)]
        rw [List.drop_of_length_le (by omega), List.nil_append]
        rw [List.take_append_of_le_length (by simp; omega), List.take_of_length_le (by simp; omega)]
      rw [e1]
      refine OwnCells.join hi (k0.keep fun b hb => hk b (hgm b (List.mem_append_left _ hb))) ho (k2.keep fun b hb => hk b (hgm b (List.mem_append_right _ (List.mem_append_right _ hb))))
end

/-- a store of an int -/
theorem OwnSl.int_store {w : World} {v : Value} {xs : List Int} {F : List Nat} (h : OwnSl intO w v xs F) (hN : F.Nodup) {i : Nat} (hi : i < xs.length) : ∃ g off cap, v = .slice (some ⟨g, off, none⟩) xs.length cap ∧ g ∈ F ∧
    w.cell? ⟨g, off + i, none⟩ = some (.int .i64 xs[i]) ∧ w.frozen? ⟨g, off + i, none⟩ = false ∧ ∀ x, I64 x → OwnSl intO (w.setCell ⟨g, off + i, none⟩ (.int .i64 x)) v (xs.set i x) F := by
  obtain ⟨g, off, cap, c, F1, rfl, hg, _, _, _, ⟨⟨rfl, _⟩, rfl⟩, _, hc, hf, _, hst⟩ := h.elem hN hi
  have h1 : intO.n = 1 := rfl
  refine ⟨g, off, cap, rfl, hg, ?_, hf _, fun x hx => ?_⟩
  · simpa [h1] using hc 0 (by omega)
  · have := hst 0 (.int .i64 x) x (by omega) ⟨⟨rfl, hx⟩, rfl⟩
    simpa [h1] using this
/-- a table of ints: a store -/
theorem OwnSl.ints_store {w : World} {v : Value} {rows : List (List Int)} {F : List Nat} (h : OwnSl (slO intO) w v rows F) (hN : F.Nodup) {i s : Nat} (hi : i < rows.length) (hs : s < rows[i].length) :
    ∃ g off cap b o2 cap2, v = .slice (some ⟨g, off, none⟩) rows.length cap ∧ w.cell? ⟨g, off + i, none⟩ = some (.slice (some ⟨b, o2, none⟩) rows[i].length cap2) ∧ b ∈ F ∧ g ≠ b ∧
      w.cell? ⟨b, o2 + s, none⟩ = some (.int .i64 rows[i][s]) ∧ w.frozen? ⟨b, o2 + s, none⟩ = false ∧
      ∀ x, I64 x → OwnSl (slO intO) (w.setCell ⟨b, o2 + s, none⟩ (.int .i64 x)) v (rows.set i (rows[i].set s x)) F := by
  obtain ⟨g, off, cap, c, F1, rfl, hg, hsub, hng, hN1, ⟨u, rfl, ho⟩, _, hc, hf, hin, _⟩ := h.elem hN hi
  obtain ⟨b, o2, cap2, rfl, hb, hcell, hfr, hst⟩ := ho.int_store hN1 hs
  have h1 : (slO intO).n = 1 := rfl
  refine ⟨g, off, cap, b, o2, cap2, rfl, ?_, hsub b hb, fun e => hng (e ▸ hb), hcell, hfr, fun x hx => ?_⟩
  · simpa [h1] using hc 0 (by omega)
  · refine hin _ _ (fun k _ hk => keep_setCell fun e => hk (e ▸ hb)) ⟨_, rfl, hst x hx⟩
end Go.Proofs.Ytblggajfdhjmjaa
