/-
  PLAIN LAWS, OF NO PROGRAM: sorting by a key: inserting from the end, inserting from the front; sorted rows of distinct keys are determined by their members.
-/
import Derived.Test.YtmembjjgkideeaaMgEndSpl0

namespace Go.Proofs.Ytmembjjgkideeaa
open Go.RowKit

section
variable {α : Type} (f : α → Int)
def SortedK (xs : List α) : Prop := xs.Pairwise fun x y => f x ≤ f y
/-- how many stay ahead of v, looked for from the end -/
def cntK (xs : List α) (v : α) : Nat := xs.length - (xs.reverse.takeWhile fun x => decide (f v < f x)).length
def insK (xs : List α) (v : α) : List α := xs.take (cntK f xs v) ++ v :: xs.drop (cntK f xs v)
def sortK (xs : List α) : List α := xs.foldl (insK f) []
theorem cntK_le (xs : List α) (v : α) : cntK f xs v ≤ xs.length := Nat.sub_le _ _
theorem insK_len (xs : List α) (v : α) : (insK f xs v).length = xs.length + 1 := by
  have := cntK_le f xs v
  unfold insK
  simp only [List.length_append, List.length_take, List.length_cons, List.length_drop]
  omega
theorem cntK_eq {xs : List α} {v : α} {k : Nat} (hk : k ≤ xs.length) (h1 : ∀ x ∈ xs.drop k, f v < f x) (h2 : ∀ h : 0 < k, ¬ f v < f (xs[k - 1]'(by omega))) : cntK f xs v = k := by
  unfold cntK
  have e : xs.reverse = (xs.drop k).reverse ++ (xs.take k).reverse := by rw [← List.reverse_append, List.take_append_drop]
  rw [e, List.takeWhile_append_of_pos (fun a ha => by rw [decide_eq_true_eq]; exact h1 a (List.mem_reverse.1 ha))]
  have e2 : (xs.take k).reverse.takeWhile (fun x => decide (f v < f x)) = [] := by
    cases k with
    | zero => rfl
    | succ k =>
      have h3 : ¬ f v < f (xs[k]'(by omega)) := h2 (by omega)
      rw [List.take_succ_eq_append_getElem (by omega), List.reverse_append]
      simp [h3]
  rw [e2]
  simp only [List.append_nil, List.length_reverse, List.length_drop]
  omega
theorem insK_perm (xs : List α) (v : α) : (insK f xs v).Perm (v :: xs) := by
  unfold insK
  have := @List.perm_middle _ v (xs.take (cntK f xs v)) (xs.drop (cntK f xs v))
  rwa [List.take_append_drop] at this
theorem insK_sorted {xs : List α} {v : α} (h : SortedK f xs) : SortedK f (insK f xs v) := by
  have e0 := List.takeWhile_append_dropWhile (p := fun x => decide (f v < f x)) (l := xs.reverse)
  obtain ⟨tw, htw⟩ : ∃ t, t = xs.reverse.takeWhile (fun x => decide (f v < f x)) := ⟨_, rfl⟩
  obtain ⟨dw, hdw⟩ : ∃ t, t = xs.reverse.dropWhile (fun x => decide (f v < f x)) := ⟨_, rfl⟩
  rw [← htw, ← hdw] at e0
  have e1 : xs = dw.reverse ++ tw.reverse := by rw [← List.reverse_append, e0, List.reverse_reverse]
  have hc : cntK f xs v = dw.reverse.length := by
    unfold cntK
    rw [← htw]
    have := congrArg List.length e1
    simp only [List.length_append, List.length_reverse] at this ⊢
    omega
  have hi : insK f xs v = dw.reverse ++ v :: tw.reverse := by
    unfold insK
    rw [hc]
    conv => lhs; rw [e1]
    rw [List.take_left, List.drop_left]
  have hhi : ∀ x ∈ tw.reverse, f v < f x := fun x hx => by
    have hx := List.mem_reverse.1 hx
    rw [htw] at hx
    have := List.all_eq_true.1 (List.all_takeWhile (p := fun x => decide (f v < f x)) (l := xs.reverse)) x hx
    rwa [decide_eq_true_eq] at this
  rw [e1] at h
  have hp := List.pairwise_append.1 h
  have hlo : ∀ x ∈ dw.reverse, f x ≤ f v := fun x hx => by
    cases hd : dw with
    | nil => rw [hd] at hx; cases hx
    | cons a l =>
      have ha : ¬ f v < f a := fun e => by
        have hne : xs.reverse.dropWhile (fun x => decide (f v < f x)) = a :: l := by rw [← hdw, hd]
        have := List.head_dropWhile_not (fun x => decide (f v < f x)) (l := xs.reverse) (by rw [hne]; simp)
        simp only [hne, List.head_cons] at this
        rw [decide_eq_false_iff_not] at this
        exact this e
      rw [hd, List.reverse_cons] at hx
      rcases List.mem_append.1 hx with hx | hx
      · have hq := hp.1
        rw [hd, List.reverse_cons] at hq
        have := (List.pairwise_append.1 hq).2.2 x hx a (List.mem_singleton.2 rfl)
        omega
      · rw [List.mem_singleton] at hx; subst hx; omega
  rw [hi]
  refine List.pairwise_append.2 ⟨hp.1, List.pairwise_cons.2 ⟨fun b hb => by have := hhi b hb; omega, hp.2.1⟩, fun a ha b hb => ?_⟩
  rcases List.mem_cons.1 hb with rfl | hb
  · exact hlo a ha
  · exact hp.2.2 a ha b hb
theorem sortK_all : ∀ (xs acc : List α), SortedK f acc → SortedK f (xs.foldl (insK f) acc) ∧ (xs.foldl (insK f) acc).Perm (xs ++ acc)
  | [], acc, h => ⟨h, List.Perm.refl _⟩
  | x :: xs, acc, h => by
    obtain ⟨h1, h2⟩ := sortK_all xs (insK f acc x) (insK_sorted f h)
    refine ⟨h1, h2.trans ?_⟩
    refine ((insK_perm f acc x).append_left xs).trans ?_
    exact List.perm_middle
theorem sortK_sorted (xs : List α) : SortedK f (sortK f xs) := (sortK_all f xs [] List.Pairwise.nil).1
theorem sortK_perm (xs : List α) : (sortK f xs).Perm xs := by
  have := (sortK_all f xs [] List.Pairwise.nil).2
  rwa [List.append_nil] at this
theorem sortK_len (xs : List α) : (sortK f xs).length = xs.length := (sortK_perm f xs).length_eq
theorem sortK_step (xs : List α) (k : Nat) (h : k < xs.length) : sortK f (xs.take (k + 1)) = insK f (sortK f (xs.take k)) xs[k] := by
  unfold sortK
  rw [List.take_succ_eq_append_getElem h, List.foldl_append]; rfl
/-- from the front: ahead of the first that is not less -/
def cntFr (xs : List α) (v : α) : Nat := (xs.takeWhile fun x => decide (f x < f v)).length
def insFr (xs : List α) (v : α) : List α := xs.take (cntFr f xs v) ++ v :: xs.drop (cntFr f xs v)
theorem cntFr_le (xs : List α) (v : α) : cntFr f xs v ≤ xs.length := (List.takeWhile_prefix _).length_le
theorem insFr_perm (xs : List α) (v : α) : (insFr f xs v).Perm (v :: xs) := by
  unfold insFr
  have := @List.perm_middle _ v (xs.take (cntFr f xs v)) (xs.drop (cntFr f xs v))
  rwa [List.take_append_drop] at this
theorem cntFr_lt {xs : List α} {v : α} {k : Nat} (hk : k < cntFr f xs v) (h : k < xs.length) : f xs[k] < f v := by
  unfold cntFr at hk
  have e : (xs.takeWhile fun x => decide (f x < f v))[k] = xs[k] := (List.takeWhile_prefix _).getElem hk
  have := List.all_eq_true.1 (List.all_takeWhile (p := fun x => decide (f x < f v)) (l := xs)) _ (List.getElem_mem hk)
  rw [decide_eq_true_eq, e] at this
  exact this
theorem cntFr_at : ∀ {xs : List α} {v : α} (h : cntFr f xs v < xs.length), ¬ f xs[cntFr f xs v] < f v
  | x :: xs, v, h => by
    by_cases hx : f x < f v
    · have e : cntFr f (x :: xs) v = cntFr f xs v + 1 := by unfold cntFr; simp [hx]
      have h2 : cntFr f xs v < xs.length := by rw [e] at h; simpa using h
      have := cntFr_at h2
      simp only [e, List.getElem_cons_succ]
      exact this
    · have e : cntFr f (x :: xs) v = 0 := by unfold cntFr; simp [hx]
      simp only [e, List.getElem_cons_zero]
      exact hx
theorem insFr_sorted {xs : List α} {v : α} (h : SortedK f xs) : SortedK f (insFr f xs v) := by
  have hlo : ∀ x ∈ xs.take (cntFr f xs v), f x < f v := fun x hx => by
    obtain ⟨i, hi, rfl⟩ := List.getElem_of_mem hx
    rw [List.length_take] at hi
    rw [List.getElem_take]
    exact cntFr_lt f (by omega) (by omega)
  have hhi : ∀ x ∈ xs.drop (cntFr f xs v), f v ≤ f x := fun x hx => by
    obtain ⟨i, hi, rfl⟩ := List.getElem_of_mem hx
    rw [List.length_drop] at hi
    rw [List.getElem_drop]
    have h1 := cntFr_at f (xs := xs) (v := v) (by omega)
    by_cases h0 : i = 0
    · subst h0; simp only [Nat.add_zero]; omega
    · have := List.pairwise_iff_getElem.1 h (cntFr f xs v) (cntFr f xs v + i) (by omega) (by omega) (by omega)
      omega
  have hp := h
  unfold SortedK at hp
  rw [← List.take_append_drop (cntFr f xs v) xs] at hp
  obtain ⟨p1, p2, p3⟩ := List.pairwise_append.1 hp
  unfold insFr
  refine List.pairwise_append.2 ⟨p1, List.pairwise_cons.2 ⟨hhi, p2⟩, fun a ha b hb => ?_⟩
  rcases List.mem_cons.1 hb with rfl | hb
  · exact Int.le_of_lt (hlo a ha)
  · exact p3 a ha b hb
theorem insFr_all : ∀ (xs acc : List α), SortedK f acc → SortedK f (xs.foldl (insFr f) acc) ∧ (xs.foldl (insFr f) acc).Perm (xs ++ acc)
  | [], acc, h => ⟨h, List.Perm.refl _⟩
  | x :: xs, acc, h => by
    obtain ⟨h1, h2⟩ := insFr_all xs (insFr f acc x) (insFr_sorted f h)
    refine ⟨h1, h2.trans ?_⟩
    refine ((insFr_perm f acc x).append_left xs).trans ?_
    exact List.perm_middle
/-- rows sorted by keys that are distinct -/
theorem sortedK_eq {xs ys : List α} (h : SortedK f xs) (k : SortedK f ys) (p : xs.Perm ys) (hd : ∀ x ∈ xs, ∀ y ∈ xs, f x = f y → x = y) : xs = ys :=
  List.Perm.eq_of_pairwise (le := fun x y => f x ≤ f y) (fun a b ha hb h1 h2 => hd a ha b (p.mem_iff.2 hb) (by omega)) h k p
end
end Go.Proofs.Ytmembjjgkideeaa
