/-
  PLAIN LAWS AND WALKS: FoldCase, StripMarks, CollapseSpaces, Normalize (both).
-/
import Derived.Test.YtgbcbmlikmjjkaaDoorBy
import Derived.Test.YtgbcbmlikmjjkaaDoorTxt
import Derived.Test.YtgbcbmlikmjjkaaDoorShRepl
import Derived.Test.YtgbcbmlikmjjkaaDoorShTrimS
namespace Go.Proofs.YtgbcbmlikmjjkaaDoor
open Go.RowKit

/-! ### The plain law -/
def foldB (b : UInt8) : UInt8 := if 65 ≤ b.toNat ∧ b.toNat ≤ 90 then b + 32 else b
def wordB (b : UInt8) : Bool := decide (97 ≤ b.toNat ∧ b.toNat ≤ 122) || decide (65 ≤ b.toNat ∧ b.toNat ≤ 90) || decide (48 ≤ b.toNat ∧ b.toNat ≤ 57)
def markB (b : UInt8) : UInt8 := if wordB b = true then b else 32
def stripL (l : List UInt8) : List UInt8 := (l.filter fun b => !(b == 39)).map markB
/-- what is written; did a space come last? -/
def colStep (st : List UInt8 × Bool) (b : UInt8) : List UInt8 × Bool := if b = 32 then (st.1, true) else ((if st.1 ≠ [] ∧ st.2 = true then st.1 ++ [32] else st.1) ++ [b], false)
def colP (l : List UInt8) : List UInt8 × Bool := l.foldl colStep ([], false)
def normL (l : List UInt8) : List UInt8 := (colP (stripL (l.map foldB))).1
def normS (s : ByteArray) : ByteArray := ⟨(normL s.data.toList).toArray⟩
theorem colP_step (l : List UInt8) (b : UInt8) : colP (l ++ [b]) = colStep (colP l) b := by unfold colP; rw [List.foldl_append]; rfl
theorem colP_take (s : ByteArray) (k : Nat) (h : k < s.size) : colP (s.data.toList.take (k + 1)) = colStep (colP (s.data.toList.take k)) s[k] := by rw [bytes_take s k h, colP_step]
theorem col_space (l : List UInt8) : (colP l).2 = decide (l.getLast? = some 32) := by
  rcases List.eq_nil_or_concat l with rfl | ⟨l, b, rfl⟩
  · rfl
  · rw [List.concat_eq_append, colP_step]
    unfold colStep
    by_cases h : b = 32
    · simp [h]
    · simp [h]
theorem col_last (l : List UInt8) : (colP l).1.getLast? ≠ some 32 := by
  rcases List.eq_nil_or_concat l with rfl | ⟨l, b, rfl⟩
  · simp [colP]
  · rw [List.concat_eq_append, colP_step]
    unfold colStep
    by_cases h : b = 32
    · rw [if_pos h]; exact col_last l
    · rw [if_neg h]; simp [h]
termination_by l.length
decreasing_by simp_all
theorem col_len (l : List UInt8) : (colP l).1.length + (if (colP l).2 = true then 1 else 0) ≤ l.length := by
  rcases List.eq_nil_or_concat l with rfl | ⟨l, b, rfl⟩
  · simp [colP]
  · have ih := col_len l
    rw [List.concat_eq_append, colP_step]
    unfold colStep
    by_cases h : b = 32
    · rw [if_pos h]; simp only [if_true, List.length_append, List.length_singleton]; split at ih <;> omega
    · rw [if_neg h]
      simp only [List.length_append, List.length_singleton, Bool.false_eq_true, if_false]
      split
      · rename_i hc
        rw [if_pos hc.2] at ih
        simp only [List.length_append, List.length_singleton]; omega
      · split at ih <;> omega
termination_by l.length
decreasing_by simp_all
/-- what the program has written -/
def colI (l : List UInt8) : List UInt8 := (colP l).1 ++ (if (colP l).1 ≠ [] ∧ (colP l).2 = true then [32] else [])
theorem colI_len (l : List UInt8) : (colI l).length ≤ l.length := by
  have := col_len l
  unfold colI
  split
  · rename_i h
    rw [if_pos h.2] at this
    simp; omega
  · split at this <;> simp <;> omega
theorem colI_word {l : List UInt8} {b : UInt8} (h : ¬ b = 32) : colI (l ++ [b]) = colI l ++ [b] := by
  unfold colI
  rw [colP_step]
  unfold colStep
  rw [if_neg h]
  split <;> simp
theorem colI_skip {l : List UInt8} (h : colI l = [] ∨ (colI l).getLast? = some 32) : colI (l ++ [32]) = colI l := by
  unfold colI at *
  rw [colP_step]
  unfold colStep
  rw [if_pos rfl]
  by_cases h1 : (colP l).1 = []
  · simp [h1]
  · by_cases h2 : (colP l).2 = true
    · simp [h1, h2]
    · exfalso
      rw [if_neg (fun h9 => h2 h9.2), List.append_nil] at h
      rcases h with h | h
      · exact h1 h
      · exact col_last l h
theorem colI_space {l : List UInt8} (h : ¬ colI l = []) (h2 : ¬ (colI l).getLast? = some 32) : colI (l ++ [32]) = colI l ++ [32] := by
  unfold colI at *
  rw [colP_step]
  unfold colStep
  rw [if_pos rfl]
  by_cases h1 : (colP l).1 = []
  · exact absurd (by simp [h1]) h
  · by_cases h3 : (colP l).2 = true
    · rw [if_pos ⟨h1, h3⟩] at h2
      simp at h2
    · simp [h1, h3]
theorem colI_trim (l : List UInt8) : Go.Lib.trimSuffix (colI l) [32] = (colP l).1 := by
  have h0 := col_last l
  unfold colI Go.Lib.trimSuffix Go.Lib.hasSuffix
  split
  · simp
  · rw [List.append_nil]
    rw [if_neg]
    intro h
    have h2 := List.isSuffixOf_iff_suffix.1 h
    obtain ⟨t, ht⟩ := h2
    rw [← ht] at h0
    simp at h0
/-- 'strings.ReplaceAll(s, "'", "")' -/
theorem index_one (c : UInt8) : ∀ l : List UInt8, Go.Lib.index l [c] = Go.Lib.indexByte l c
  | [] => rfl
  | b :: l => by
    unfold Go.Lib.index Go.Lib.indexByte
    rw [index_one c l]
    by_cases h : b = c
    · subst h; simp
    · have h' : ¬ c = b := fun e => h e.symm
      simp [h, h']
theorem indexByte_split (c : UInt8) : ∀ (l : List UInt8) (i : Nat), Go.Lib.indexByte l c = i → l.filter (fun b => !(b == c)) = l.take i ++ (l.drop (i + 1)).filter (fun b => !(b == c)) ∧ i < l.length
  | [], i, h => by unfold Go.Lib.indexByte at h; omega
  | b :: l, i, h => by
    unfold Go.Lib.indexByte at h
    by_cases hb : b = c
    · subst hb
      simp only [beq_self_eq_true, if_true] at h
      have hi : i = 0 := by omega
      subst hi
      simp
    · have hge := Go.Lib.indexByte_ge l c
      simp only [beq_iff_eq, hb, if_false] at h
      by_cases hm : Go.Lib.indexByte l c = -1
      · simp only [hm, beq_self_eq_true, if_true] at h; omega
      · simp only [hm, if_false] at h
        obtain ⟨j, rfl⟩ : ∃ j, i = j + 1 := ⟨i - 1, by omega⟩
        obtain ⟨h1, h2⟩ := indexByte_split c l j (by omega)
        refine ⟨?_, by simp; omega⟩
        simp [hb, h1]
theorem indexByte_miss (c : UInt8) : ∀ l : List UInt8, Go.Lib.indexByte l c = -1 → l.filter (fun b => !(b == c)) = l
  | [], _ => rfl
  | b :: l, h => by
    unfold Go.Lib.indexByte at h
    have hge := Go.Lib.indexByte_ge l c
    by_cases hb : b = c
    · simp [hb] at h
    · simp only [beq_iff_eq, hb, if_false] at h
      by_cases hm : Go.Lib.indexByte l c = -1
      · simp [hb, indexByte_miss c l hm]
      · simp [hm] at h; omega
theorem replaceK_one (c : UInt8) : ∀ (k : Nat) (l : List UInt8), (l.filter fun b => b == c).length ≤ k → Go.Lib.replaceK [c] [] k l = l.filter fun b => !(b == c)
  | 0, l, h => by
    unfold Go.Lib.replaceK
    symm
    rw [List.filter_eq_self]
    intro b hb
    cases hbc : b == c with
    | false => rfl
    | true =>
      have : b ∈ l.filter fun b => b == c := List.mem_filter.2 ⟨hb, hbc⟩
      rw [List.length_eq_zero_iff.1 (Nat.le_zero.1 h)] at this
      cases this
  | k + 1, l, h => by
    unfold Go.Lib.replaceK
    rw [index_one]
    by_cases hm : Go.Lib.indexByte l c = -1
    · rw [if_pos (by simp [hm]), indexByte_miss c l hm]
    · have hge := Go.Lib.indexByte_ge l c
      obtain ⟨i, hi⟩ : ∃ i : Nat, Go.Lib.indexByte l c = i := ⟨(Go.Lib.indexByte l c).toNat, by omega⟩
      rw [if_neg (by simp [hm]), hi]
      obtain ⟨h1, h2⟩ := indexByte_split c l i hi
      have h3 := (Go.Lib.indexByte_some hi).1
      have hc : l[i] = c := by rw [List.getElem?_eq_getElem h2] at h3; exact Option.some.inj h3
      have hf : (l.drop (i + 1)).filter (fun b => b == c) = ((l.drop (i + 1)).filter fun b => b == c) := rfl
      have hlen : ((l.drop (i + 1)).filter fun b => b == c).length + 1 ≤ (l.filter fun b => b == c).length := by
        have e : l = l.take i ++ (l[i] :: l.drop (i + 1)) := by simp
        have e2 : (l.filter fun b => b == c) = (l.take i).filter (fun b => b == c) ++ ((l[i] :: l.drop (i + 1)).filter fun b => b == c) := by rw [← List.filter_append, ← e]
        rw [e2, List.length_append, List.filter_cons_of_pos (by simp [hc]), List.length_cons]
        omega
      rw [Int.toNat_natCast, List.append_nil, List.length_singleton, replaceK_one c k _ (by omega), h1]
theorem count_filter (c : UInt8) : ∀ (f : Nat) (l : List UInt8), l.length < f → Go.Lib.countFrom [c] f l = (l.filter fun b => b == c).length
  | 0, l, h => by omega
  | f + 1, l, h => by
    unfold Go.Lib.countFrom
    rw [index_one]
    by_cases hm : Go.Lib.indexByte l c = -1
    · rw [if_pos (by simp [hm])]
      have h1 := indexByte_miss c l hm
      symm
      rw [List.length_eq_zero_iff, List.filter_eq_nil_iff]
      intro b hb hbc
      rw [← h1] at hb
      have := (List.mem_filter.1 hb).2
      simp [hbc] at this
    · have hge := Go.Lib.indexByte_ge l c
      obtain ⟨i, hi⟩ : ∃ i : Nat, Go.Lib.indexByte l c = i := ⟨(Go.Lib.indexByte l c).toNat, by omega⟩
      rw [if_neg (by simp [hm]), hi, Int.toNat_natCast, List.length_singleton]
      obtain ⟨_, h2⟩ := indexByte_split c l i hi
      obtain ⟨h3, h4⟩ := Go.Lib.indexByte_some hi
      have hc : l[i] = c := by rw [List.getElem?_eq_getElem h2] at h3; exact Option.some.inj h3
      rw [count_filter c f _ (by simp; omega)]
      have e : l = l.take i ++ (l[i] :: l.drop (i + 1)) := by simp
      have e2 : (l.filter fun b => b == c) = (l.take i).filter (fun b => b == c) ++ ((l[i] :: l.drop (i + 1)).filter fun b => b == c) := by rw [← List.filter_append, ← e]
      have e3 : (l.take i).filter (fun b => b == c) = [] := by
        rw [List.filter_eq_nil_iff]
        intro b hb hbc
        obtain ⟨j, hj, rfl⟩ := List.getElem_of_mem hb
        have hj2 : j < i := by simp at hj; omega
        refine h4 j hj2 ?_
        rw [List.getElem?_eq_getElem (by omega)]
        simp at hbc
        simp [hbc]
      rw [e2, e3, List.nil_append, List.filter_cons_of_pos (by simp [hc]), List.length_cons]
      omega
theorem replaceAll_one (l : List UInt8) (c : UInt8) : Go.Lib.replaceAll l [c] [] = l.filter fun b => !(b == c) := by
  unfold Go.Lib.replaceAll Go.Lib.replace
  rw [if_neg (by simp)]
  unfold Go.Lib.replaceNum
  rw [if_pos (.inl (by decide))]
  unfold Go.Lib.count
  rw [replaceK_one]
  rw [count_filter c _ _ (Nat.lt_succ_self _)]
  exact Nat.le_refl _
end Go.Proofs.YtgbcbmlikmjjkaaDoor
