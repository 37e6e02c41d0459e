/-
  PLAIN LAWS: what DecodeEntry answers.
-/
import Derived.Test.YtfieimmlcopbhaaGreatDoorMgEndPB4
import Derived.Test.YtfieimmlcopbhaaGreatDoorMgEndPD1
import Derived.Lib.LastIndexByte

namespace Go.Proofs.YtfieimmlcopbhaaGreatDoor
open Go.RowKit

noncomputable def okE (x : Int × Batch) : Bool := inB x.1 1 999 && okBat x.2
noncomputable def fmtEn (x : Int × Batch) : ByteArray := encE x.1 x.2
noncomputable def pD (s : ByteArray) : (Int × Batch) × Bool := ans okE fmtEn (0, ⟨[]⟩) s
theorem okE_out {x : Int × Batch} (h : okE x = true) : (1 ≤ x.1 ∧ x.1 ≤ 999) ∧ okBat x.2 = true := by
  unfold okE at h
  rw [Bool.and_eq_true] at h
  exact ⟨of_decide_eq_true h.1, h.2⟩
theorem itoaNo (c : UInt8) (h : isDg c = false) (h2 : c ≠ 45) (n : Int) : c ∉ Go.Lib.itoa n := itoa_no c h h2 n
theorem D_data {x : Int × Batch} (h : okE x = true) : ∃ C, (fmtEn x).data.toList = Go.Lib.itoa x.1 ++ 91 :: ((bIn x.2).data.toList ++ 93 :: C) ∧ (93 : UInt8) ∉ C := by
  have h1 := h
  unfold okE at h1
  rw [Bool.and_eq_true] at h1
  refine ⟨Go.Lib.itoa (ck (encS x.1 x.2).data.toList) ++ [10], ?_, ?_⟩
  · unfold fmtEn
    rw [encE_yes h1.1 h1.2, app_data, app_data, itoaS_data]
    have e : (encS x.1 x.2).data.toList = Go.Lib.itoa x.1 ++ 91 :: ((bIn x.2).data.toList ++ [93]) := by
      unfold encS
      rw [app_data, itoaS_data, batT_data]
    generalize Go.Lib.itoa (ck (encS x.1 x.2).data.toList) = c
    rw [e]
    simp
  · rw [List.mem_append]
    rintro (k | k)
    · exact itoaNo 93 (by decide) (by decide) _ k
    · revert k; decide
/-- where the brackets stand -/
theorem D_pos {x : Int × Batch} {s : ByteArray} (h : okE x = true) (e : fmtEn x = s) : ∃ a z : Nat, s.data.toList[a]? = some 91 ∧ s.data.toList[z]? = some 93 ∧ a < z ∧ (91 : UInt8) ∉ s.data.toList.take a ∧ (∀ j, z < j → s.data.toList[j]? ≠ some 93) ∧
    s.data.toList.take a = Go.Lib.itoa x.1 ∧ (s.data.toList.drop a).take (z + 1 - a) = (batT x.2.ops).data.toList := by
  obtain ⟨C, h1, h2⟩ := D_data h
  rw [e] at h1
  obtain ⟨A, hA⟩ : ∃ A, A = Go.Lib.itoa x.1 := ⟨_, rfl⟩
  obtain ⟨J, hJ⟩ : ∃ J, J = (bIn x.2).data.toList := ⟨_, rfl⟩
  have h3 : (91 : UInt8) ∉ A := by rw [hA]; exact itoaNo 91 (by decide) (by decide) _
  have h4 := batT_data x.2
  rw [← hJ] at h1 h4
  rw [← hA] at h1 ⊢
  refine ⟨A.length, A.length + (J.length + 1), ?_, ?_, by omega, ?_, ?_, ?_, ?_⟩
  · rw [h1]; simp
  · rw [h1, List.getElem?_append_right (by omega), show A.length + (J.length + 1) - A.length = J.length + 1 by omega]
    simp
  · rw [h1]; simpa using h3
  · intro j hj hh
    rw [h1, List.getElem?_append_right (by omega)] at hh
    obtain ⟨q, hq⟩ : ∃ q, j - A.length = (J.length + (q + 1)) + 1 := ⟨j - A.length - J.length - 2, by omega⟩
    rw [hq, List.getElem?_cons_succ, List.getElem?_append_right (by omega), show J.length + (q + 1) - J.length = q + 1 by omega, List.getElem?_cons_succ] at hh
    exact h2 (List.mem_of_getElem? hh)
  · rw [h1]; simp
  · rw [h1, h4, List.drop_left, show A.length + (J.length + 1) + 1 - A.length = J.length + 1 + 1 by omega, List.take_succ_cons]
    congr 1
    rw [show J ++ 93 :: C = (J ++ [93]) ++ C by simp, List.take_left' (by simp)]
theorem first_uniq {l : List UInt8} {c : UInt8} {a b : Nat} (h1 : l[a]? = some c) (h2 : c ∉ l.take a) (k1 : l[b]? = some c) (k2 : c ∉ l.take b) : a = b := by
  rcases Nat.lt_trichotomy a b with h | h | h
  · exact absurd (List.mem_of_getElem? (by rw [List.getElem?_take_of_lt h]; exact h1)) k2
  · exact h
  · exact absurd (List.mem_of_getElem? (by rw [List.getElem?_take_of_lt h]; exact k1)) h2
theorem last_uniq {l : List UInt8} {c : UInt8} {a b : Nat} (h1 : l[a]? = some c) (h2 : ∀ j, a < j → l[j]? ≠ some c) (k1 : l[b]? = some c) (k2 : ∀ j, b < j → l[j]? ≠ some c) : a = b := by
  rcases Nat.lt_trichotomy a b with h | h | h
  · exact absurd k1 (h2 b h)
  · exact h
  · exact absurd h1 (k2 a h)
/-- what both decoders lay open -/
theorem D_A {s : ByteArray} {a z : Nat} (h1 : s.data.toList[a]? = some 91) (h2 : (91 : UInt8) ∉ s.data.toList.take a) (h3 : s.data.toList[z]? = some 93) (h4 : ∀ j, z < j → s.data.toList[j]? ≠ some 93) :
    ∀ x, okE x = true → fmtEn x = s → x = ((pI (s.extract 0 a)).1, (pB (s.extract a (z + 1))).1) ∧ (pI (s.extract 0 a)).2 = true ∧ (pB (s.extract a (z + 1))).2 = true := fun x q1 q2 => by
  obtain ⟨a2, z2, k1, k2, _, k4, k5, k6, k7⟩ := D_pos q1 q2
  have ea := first_uniq k1 k4 h1 h2
  have ez := last_uniq k2 k5 h3 h4
  subst ea; subst ez
  obtain ⟨b1, b2⟩ := okE_out q1
  have e1 : pI (s.extract 0 a2) = (x.1, true) := by
    rw [Go.Lib.extract_eq, List.drop_zero, Nat.sub_zero, k6]
    exact pI_itoa (by omega)
  have e2 : pB (s.extract a2 (z2 + 1)) = (x.2, true) := by
    have h9 := pB_hit b2
    rw [← bs_mk (batT x.2.ops), ← k7] at h9
    rw [Go.Lib.extract_eq]
    exact h9
  rw [e1, e2]
  exact ⟨rfl, rfl, rfl⟩
theorem D_no91 {s : ByteArray} (h : (91 : UInt8) ∉ s.data.toList) : pD s = ((0, ⟨[]⟩), false) := ans_no fun x q1 q2 => by
  obtain ⟨a, z, k1, _⟩ := D_pos q1 q2
  exact h (List.mem_of_getElem? k1)
theorem D_no93 {s : ByteArray} (h : (93 : UInt8) ∉ s.data.toList) : pD s = ((0, ⟨[]⟩), false) := ans_no fun x q1 q2 => by
  obtain ⟨a, z, _, k2, _⟩ := D_pos q1 q2
  exact h (List.mem_of_getElem? k2)
/-- nothing behind the first bracket closes -/
theorem D_noLt {s : ByteArray} {a z : Nat} (h2 : (91 : UInt8) ∉ s.data.toList.take a) (h4 : ∀ j, z < j → s.data.toList[j]? ≠ some 93) (h : z ≤ a) : pD s = ((0, ⟨[]⟩), false) := ans_no fun x q1 q2 => by
  obtain ⟨a2, z2, k1, k2, k3, k4, k5, _⟩ := D_pos q1 q2
  have h5 : a ≤ a2 := by
    rcases Nat.lt_or_ge a2 a with h9 | h9
    · exact absurd (List.mem_of_getElem? (by rw [List.getElem?_take_of_lt h9]; exact k1)) h2
    · exact h9
  exact h4 z2 (by omega) k2
theorem fmtEn_ok {x : Int × Batch} {s : ByteArray} (h : fmtEn x = s) (hs : s ≠ ⟨#[]⟩) : okE x = true := by
  cases hv : okE x with
  | true => rfl
  | false => exact absurd (by rw [← h]; unfold fmtEn encE; unfold okE at hv; rw [if_neg (by rw [hv]; simp)]) hs
theorem idx_cases (l : List UInt8) (c : UInt8) : (Go.Lib.indexByte l c = -1 ∧ c ∉ l) ∨ ∃ a : Nat, Go.Lib.indexByte l c = a ∧ l[a]? = some c ∧ c ∉ l.take a := by
  rcases cut_of c l with ⟨a, r, ha, he⟩ | h
  · refine .inr ⟨a.length, by rw [he]; exact indexByte_at ha r, by rw [he]; simp, by rw [he]; simpa using ha⟩
  · exact .inl ⟨indexByte_none h, h⟩
theorem last_cases (s : ByteArray) : (Go.Lib.lastIndexByte s 93 = -1 ∧ (93 : UInt8) ∉ s.data.toList) ∨ ∃ z : Nat, Go.Lib.lastIndexByte s 93 = z ∧ z < s.size ∧ s.data.toList[z]? = some 93 ∧ ∀ j, z < j → s.data.toList[j]? ≠ some 93 := by
  have hne : ∀ j, (j < s.size → ((s.data[j]!).toNat : Int) ≠ 93) → s.data.toList[j]? ≠ some 93 := fun j h e => by
    obtain ⟨hj, e⟩ := List.getElem?_eq_some_iff.1 e
    have hj2 : j < s.size := by rw [Array.length_toList] at hj; exact hj
    have hj3 : j < s.data.size := hj2
    refine h hj2 ?_
    rw [getElem!_pos s.data j hj3, ← Array.getElem_toList hj3, e]; rfl
  rcases Go.Lib.lastIndexByte_spec s 93 with ⟨e, h⟩ | ⟨z, hz, e, hc, h⟩
  · refine .inl ⟨e, fun hm => ?_⟩
    obtain ⟨j, hj, e⟩ := List.mem_iff_getElem.1 hm
    exact hne j (h j) (by rw [List.getElem?_eq_getElem hj, e])
  · have hz3 : z < s.data.size := hz
    refine .inr ⟨z, e, hz, ?_, fun j hj => hne j (h j hj)⟩
    rw [getElem!_pos s.data z hz3, ← Array.getElem_toList hz3] at hc
    rw [List.getElem?_eq_getElem (by rw [Array.length_toList]; exact hz)]
    congr 1
    exact UInt8.toNat_inj.1 (by show _ = 93; omega)
end Go.Proofs.YtfieimmlcopbhaaGreatDoor
