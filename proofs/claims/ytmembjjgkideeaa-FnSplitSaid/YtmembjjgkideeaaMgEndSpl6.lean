/-
  PLAIN LAWS: Go's insertion sort over an array, by a key, is inserting one by one (stable).
-/
import Derived.Test.YtmembjjgkideeaaMgEndSpl1
import Derived.Sort.Defs
import Derived.Shelf.SlSortCmp.Insertion

namespace Go.Proofs.Ytmembjjgkideeaa
open Go.RowKit

section
variable {α : Type} (f : α → Int)
theorem insK_snoc_lt {q : List α} {x v : α} (h : f v < f x) : insK f (q ++ [x]) v = insK f q v ++ [x] := by
  have hc : cntK f (q ++ [x]) v = cntK f q v := by
    unfold cntK
    rw [List.reverse_append]
    simp only [List.reverse_cons, List.reverse_nil, List.nil_append, List.cons_append, List.length_append, List.length_cons, List.length_nil]
    rw [List.takeWhile_cons_of_pos (by rw [decide_eq_true_eq]; exact h), List.length_cons]
    omega
  have hl := cntK_le f q v
  unfold insK
  rw [hc, List.take_append_of_le_length hl, List.drop_append_of_le_length hl]
  simp
theorem insK_snoc_ge {q : List α} {x v : α} (h : ¬ f v < f x) : insK f (q ++ [x]) v = q ++ [x] ++ [v] := by
  have hc : cntK f (q ++ [x]) v = (q ++ [x]).length := by
    unfold cntK
    rw [List.reverse_append]
    simp only [List.reverse_cons, List.reverse_nil, List.nil_append, List.cons_append]
    rw [List.takeWhile_cons_of_neg (by rw [decide_eq_true_eq]; exact h)]
    rfl
  unfold insK
  rw [hc, List.take_of_length_le (Nat.le_refl _), List.drop_of_length_le (Nat.le_refl _)]
variable [Inhabited α]
theorem swp_app (q s : List α) (x v : α) : Go.Sort.swp (q ++ x :: v :: s).toArray (q.length + 1) q.length = (q ++ v :: x :: s).toArray := by
  unfold Go.Sort.swp
  have e1 : (q ++ x :: v :: s).toArray[q.length]! = x := by rw [getElem!_pos _ _ (by simp)]; simp
  have e2 : (q ++ x :: v :: s).toArray[q.length + 1]! = v := by rw [getElem!_pos _ _ (by simp)]; simp
  rw [e1, e2]
  simp only [List.setIfInBounds_toArray]
  congr 1
  apply List.ext_getElem?
  intro i
  simp only [List.getElem?_set, List.length_set]
  by_cases h1 : i = q.length
  · subst h1; simp
  · by_cases h2 : i = q.length + 1
    · subst h2; simp
    · rw [if_neg (by omega), if_neg (by omega)]
      by_cases h3 : i < q.length
      · rw [List.getElem?_append_left h3, List.getElem?_append_left h3]
      · rw [List.getElem?_append_right (by omega), List.getElem?_append_right (by omega)]
        obtain ⟨j, hj⟩ : ∃ j, i - q.length = j + 2 := ⟨i - q.length - 2, by omega⟩
        rw [hj]; rfl
theorem insInner_list (lt : α → α → Bool) (hlt : ∀ x y, lt x y = decide (f x < f y)) : ∀ (n : Nat) (p s : List α) (v : α), p.length = n → Go.Sort.insInner lt 0 n (p ++ v :: s).toArray = (insK f p v ++ s).toArray
  | 0, p, s, v, h => by
    have : p = [] := List.eq_nil_of_length_eq_zero h
    subst this
    rw [Go.Sort.insInner]
    rfl
  | n + 1, p, s, v, h => by
    rcases List.eq_nil_or_concat p with rfl | ⟨q, x, rfl⟩
    · simp at h
    · rw [List.concat_eq_append] at h ⊢
      have hn : q.length = n := by simpa using h
      subst hn
      rw [Go.Sort.insInner]
      have e0 : (q ++ [x] ++ v :: s) = q ++ x :: v :: s := by simp
      rw [e0]
      have e1 : (q ++ x :: v :: s).toArray[q.length]! = x := by rw [getElem!_pos _ _ (by simp)]; simp
      have e2 : (q ++ x :: v :: s).toArray[q.length + 1]! = v := by rw [getElem!_pos _ _ (by simp)]; simp
      rw [e1, e2, hlt, swp_app]
      by_cases hv : f v < f x
      · rw [if_pos (by simp [hv]), insInner_list lt hlt q.length q (x :: s) v rfl, insK_snoc_lt f hv]
        simp
      · rw [if_neg (by simp [hv]), insK_snoc_ge f hv]
        simp
theorem insOuter_list (lt : α → α → Bool) (hlt : ∀ x y, lt x y = decide (f x < f y)) (l : List α) : ∀ (m i : Nat), l.length - i = m → i ≤ l.length → Go.Sort.insOuter lt 0 l.length i (sortK f (l.take i) ++ l.drop i).toArray = (sortK f l).toArray
  | 0, i, h, hi => by
    rw [Go.Sort.insOuter, if_neg (by omega), List.take_of_length_le (by omega), List.drop_of_length_le (by omega), List.append_nil]
  | m + 1, i, h, hi => by
    have hil : i < l.length := by omega
    rw [Go.Sort.insOuter, if_pos hil, List.drop_eq_getElem_cons hil]
    have hs : (sortK f (l.take i)).length = i := by
      rw [(sortK_perm f _).length_eq, List.length_take]; omega
    have := insInner_list f lt hlt i (sortK f (l.take i)) (l.drop (i + 1)) l[i] hs
    rw [this]
    have e : insK f (sortK f (l.take i)) l[i] = sortK f (l.take (i + 1)) := by
      rw [List.take_succ_eq_append_getElem hil]
      unfold sortK
      rw [List.foldl_append]
      rfl
    rw [e]
    exact insOuter_list lt hlt l m (i + 1) (by omega) (by omega)
theorem insertionSort_key (lt : α → α → Bool) (hlt : ∀ x y, lt x y = decide (f x < f y)) (l : List α) : Go.Sort.insertionSort lt l.toArray 0 l.length = (sortK f l).toArray := by
  unfold Go.Sort.insertionSort
  cases l with
  | nil =>
    rw [Go.Sort.insOuter, if_neg (by simp)]
    rfl
  | cons x l =>
    have := insOuter_list f lt hlt (x :: l) _ 1 rfl (by simp)
    exact this
end
end Go.Proofs.Ytmembjjgkideeaa
