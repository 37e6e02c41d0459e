/-
  PLAIN LAWS, OF NO PROGRAM: a row that is sorted in place, and what it owns; lexicographic order of lists of ints.
-/
import Derived.Test.YtmembjjgkideeaaMgEndSpl0
import Derived.Test.YtmembjjgkideeaaMgEndSpl1
import Derived.Lib.RowBridge
import Derived.Shelf.SlSortCmp.NoneTotal

namespace Go.Proofs.Ytmembjjgkideeaa
open Go.RowKit

/-- draws and new blocks, nothing else -/
def Grn (w w2 : World) : Prop := ∃ (q : Nat) (os : Array Obj), w2 = Go.Sort.grow (w.drewN q) os
theorem Grn.refl (w : World) : Grn w w := ⟨0, #[], by rw [Go.Sort.grow_empty]; rfl⟩
theorem Grn.drew {w w2 : World} (h : Grn w w2) : Grn w w2.drew := by obtain ⟨q, os, rfl⟩ := h; exact ⟨q + 1, os, rfl⟩
theorem Grn.alloc {w w2 : World} (h : Grn w w2) (o : Obj) : Grn w (w2.alloc o) := by obtain ⟨q, os, rfl⟩ := h; exact ⟨q, _, by rw [Go.Sort.alloc_eq_grow, Go.Sort.grow_grow]⟩
theorem grow_extn (w : World) (q : Nat) (os : Array Obj) : Ext w (Go.Sort.grow (w.drewN q) os) := by
  refine ⟨rfl, rfl, rfl, ?_, fun k hk => ?_⟩
  · show w.heap.size ≤ (w.heap ++ os).size
    rw [Array.size_append]; omega
  · show (w.heap ++ os)[k]? = w.heap[k]?
    rw [Array.getElem?_append_left hk]
/-- the world behind a sort -/
def sortedW (w : World) (g q : Nat) (cs : List Value) (os : Array Obj) : World := Go.Sort.grow ((w.drewN q).setCells g 0 cs) os
theorem sortedW_ext {w0 w : World} {g : Nat} (hg : w0.heap.size ≤ g) (h : Ext w0 w) (q : Nat) (cs : List Value) (os : Array Obj) : Ext w0 (sortedW w g q cs os) :=
  (Ext.setCells hg cs 0 (h.drewN q)).trans (grow_extn _ 0 os)
theorem sortedW_keep (w : World) (g q : Nat) (cs : List Value) (os : Array Obj) {b : Nat} (hb : b < w.heap.size) (hne : b ≠ g) : (sortedW w g q cs os).heap[b]? = w.heap[b]? := by
  have e1 : (sortedW w g q cs os).heap[b]? = ((w.drewN q).setCells g 0 cs).heap[b]? := (grow_extn _ 0 os).block (by rw [setCells_size]; exact hb)
  rw [e1, setCells_keep hne]; rfl
theorem ownsRow_set {w : World} {base : Nat} {T : TypeId} {k g n cap : Nat} {cs cs' : List Value} (h : w.ownsRow base T k (.slice (some ⟨g, 0, none⟩) n cap) n cs) (hl : cs'.length = cs.length) (q : Nat) (os : Array Obj) :
    (sortedW w g q cs' os).ownsRow base T k (.slice (some ⟨g, 0, none⟩) n cap) n cs' := by
  obtain ⟨h1, ⟨h2, _⟩ | ⟨g', cap', cur, e, hb, hh, hnc, hcm, hcs, htk⟩⟩ := h
  · cases h2
  · injection e with e1 e2 e3
    injection e1 with e1
    injection e1 with e1 _ _
    subst e1; subst e3
    have hcl : cs'.length ≤ cur.size := by
      rw [hl, h1, hcs]; exact Nat.mul_le_mul_right _ hnc
    refine ⟨by rw [hl, h1], .inr ⟨g, cap, (cur.toList.take 0 ++ (cs' ++ cur.toList.drop (0 + cs'.length))).toArray, rfl, hb, ?_, hnc, hcm, ?_, ?_⟩⟩
    · have e1 : (sortedW w g q cs' os).heap[g]? = ((w.drewN q).setCells g 0 cs').heap[g]? := (grow_extn _ 0 os).block (by rw [setCells_size]; exact block_lt hh)
      rw [e1]
      exact heap_setCells (g := g) (e := T) cs' 0 (w.drewN q) cur hh (by omega)
    · simp only [List.take_zero, List.nil_append, Nat.zero_add, List.size_toArray, List.length_append, List.length_drop, Array.length_toList]
      omega
    · simp only [List.take_zero, List.nil_append, Nat.zero_add]
      rw [show n * k = cs'.length by rw [hl, h1], List.take_left]
/-- the elements of owned cells, each with its cells and blocks -/
theorem OwnCells.items {α : Type} {R : RepO α} {w : World} : ∀ {xs : List α} {cs : List Value} {F : List Nat}, OwnCells R w cs xs F → ∃ its : List {t : List Value × α × List Nat // R.own w t.1 t.2.1 t.2.2}, its.flatMap (fun t => t.1.1) = cs ∧ its.map (fun t => t.1.2.1) = xs ∧ its.flatMap (fun t => t.1.2.2) = F
  | [], _, _, h => ⟨[], by rw [h.1]; rfl, rfl, by rw [h.2]; rfl⟩
  | x :: xs, _, _, ⟨c, d, F1, F2, h1, h2, h3, h4⟩ => by
    obtain ⟨its, k1, k2, k3⟩ := OwnCells.items h4
    refine ⟨⟨(c, x, F1), h3⟩ :: its, ?_, ?_, ?_⟩
    · rw [List.flatMap_cons, k1, h1]
    · rw [List.map_cons, k2]
    · rw [List.flatMap_cons, k3, h2]
theorem OwnCells.of_items {α : Type} {R : RepO α} {w w2 : World} : ∀ (its : List {t : List Value × α × List Nat // R.own w t.1 t.2.1 t.2.2}), (∀ b ∈ its.flatMap (fun t => t.1.2.2), w2.heap[b]? = w.heap[b]?) →
    OwnCells R w2 (its.flatMap fun t => t.1.1) (its.map fun t => t.1.2.1) (its.flatMap fun t => t.1.2.2)
  | [], _ => ⟨rfl, rfl⟩
  | t :: its, h => ⟨t.1.1, its.flatMap (fun t => t.1.1), t.1.2.2, its.flatMap (fun t => t.1.2.2), by rw [List.flatMap_cons], by rw [List.flatMap_cons],
    R.own_keep (fun b hb => h b (by rw [List.flatMap_cons]; exact List.mem_append_left _ hb)) t.2,
    OwnCells.of_items its fun b hb => h b (by rw [List.flatMap_cons]; exact List.mem_append_right _ hb)⟩
theorem flatMap_len {α β : Type} {f : α → List β} {k : Nat} (hk : ∀ x, (f x).length = k) : ∀ l : List α, (l.flatMap f).length = l.length * k
  | [] => by simp
  | x :: l => by rw [List.flatMap_cons, List.length_append, hk, flatMap_len hk l, List.length_cons, Nat.add_mul]; omega
theorem flatMap_at {α β : Type} {f : α → List β} {k : Nat} (hk : ∀ x, (f x).length = k) : ∀ (l : List α) (i j : Nat) (hi : i < l.length), j < k → (l.flatMap f)[i * k + j]? = (f l[i])[j]?
  | [], _, _, hi, _ => by simp at hi
  | x :: l, 0, j, _, hj => by rw [List.flatMap_cons, Nat.zero_mul, Nat.zero_add, List.getElem?_append_left (by rw [hk]; exact hj)]; rfl
  | x :: l, i + 1, j, hi, hj => by
    rw [List.flatMap_cons, List.getElem?_append_right (by rw [hk, Nat.add_mul]; omega), hk, show (i + 1) * k + j - k = i * k + j by rw [Nat.add_mul]; omega, flatMap_at hk l i j (by simpa using hi) hj]
    rfl
theorem flatMap_permF {α β : Type} {f : α → List β} {xs ys : List α} (h : xs.Perm ys) : (xs.flatMap f).Perm (ys.flatMap f) := by
  induction h with
  | nil => exact List.Perm.refl _
  | cons x _ ih => rw [List.flatMap_cons, List.flatMap_cons]; exact ih.append_left _
  | swap x y l =>
    simp only [List.flatMap_cons, ← List.append_assoc]
    exact List.perm_append_comm.append_right _
  | trans _ _ h1 h2 => exact h1.trans h2
theorem flatK_flat {α : Type} [Inhabited α] (f : α → List Value) (k : Nat) (hk0 : 0 < k) (hk : ∀ x, (f x).length = k) (d : Array α) : Go.Sort.flatK f k d = (d.toList.flatMap f).toArray := by
  have hl : (d.toList.flatMap f).length = d.size * k := by rw [flatMap_len hk, Array.length_toList]
  have hs : (d.toList.flatMap f).toArray.size = d.size * k := Eq.trans (List.size_toArray) hl
  apply Go.Sort.ext_get!
  · rw [Go.Sort.size_flatK]; exact hs.symm
  · intro t ht
    rw [Go.Sort.size_flatK] at ht
    have hi : t / k < d.size := Nat.div_lt_of_lt_mul (by rw [Nat.mul_comm]; exact ht)
    have hj : t % k < k := Nat.mod_lt _ hk0
    rw [Go.Sort.get_flatK _ _ _ _ ht, getElem!_pos (d.toList.flatMap f).toArray t (by rw [hs]; exact ht)]
    have e2 := flatMap_at hk d.toList (t / k) (t % k) (by rw [Array.length_toList]; exact hi) hj
    rw [Nat.div_add_mod' t k] at e2
    have e3 : (d.toList.flatMap f).toArray[t]'(by rw [hs]; exact ht) = (d.toList.flatMap f)[t]'(by rw [hl]; exact ht) := by simp
    rw [e3]
    rw [List.getElem?_eq_getElem (by rw [hl]; exact ht), List.getElem?_eq_getElem (by rw [hk]; exact hj)] at e2
    rw [Option.some.inj e2, getElem!_pos d _ hi, getElem!_pos _ _ (by rw [hk]; exact hj)]
    simp
theorem cmpI_lt {a b : Int} : cmpI a b < 0 ↔ a < b := by unfold cmpI; split <;> (try split) <;> omega
theorem swo_key {α : Type} (f : α → Int) : Go.Sort.SWO (Go.Proofs.ltOf fun x y : α => cmpI (f x) (f y)) where
  irrefl x := by unfold ltOf; rw [decide_eq_false_iff_not, cmpI_lt]; omega
  trans x y z h1 h2 := by unfold ltOf at *; rw [decide_eq_true_eq, cmpI_lt] at *; omega
  ntrans x y z h1 h2 := by unfold ltOf at *; rw [decide_eq_false_iff_not, cmpI_lt] at *; omega
theorem cmpL_lt : ∀ {xs ys : List Int}, cmpL xs ys < 0 ↔ xs < ys
  | [], [] => by simp [cmpL]
  | [], _ :: _ => by simp [cmpL]
  | _ :: _, [] => by simp [cmpL]
  | x :: xs, y :: ys => by
    rw [cmpL, List.cons_lt_cons_iff]
    split
    · rename_i h
      rw [cmpL_lt]
      constructor
      · exact fun h2 => .inr ⟨h, h2⟩
      · rintro (h2 | h2)
        · omega
        · exact h2.2
    · rename_i h
      rw [cmpI_lt]
      constructor
      · exact fun h2 => .inl h2
      · rintro (h2 | h2)
        · exact h2
        · exact absurd h2.1 h
theorem swo_list {α : Type} (f : α → List Int) : Go.Sort.SWO (Go.Proofs.ltOf fun x y : α => cmpL (f x) (f y)) where
  irrefl x := by unfold ltOf; rw [decide_eq_false_iff_not, cmpL_lt]; exact List.lt_irrefl _
  trans x y z h1 h2 := by unfold ltOf at *; rw [decide_eq_true_eq, cmpL_lt] at *; exact List.lt_trans h1 h2
  ntrans x y z h1 h2 := by
    unfold ltOf at *
    rw [decide_eq_false_iff_not, cmpL_lt] at *
    exact List.not_lt.2 (List.le_trans (List.not_lt.1 h2) (List.not_lt.1 h1))
end Go.Proofs.Ytmembjjgkideeaa
