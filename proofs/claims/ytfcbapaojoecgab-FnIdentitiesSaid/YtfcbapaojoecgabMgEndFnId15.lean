/-
  PLAIN LAWS: no assignment has a greater value than the best one; the best one is valid.
-/
import Derived.Test.YtfcbapaojoecgabMgEndFnId12
import Derived.Test.YtfcbapaojoecgabMgEndFnId6

namespace Go.Proofs.Ytfcbapaojoecgab
open Go.RowKit

def valR (r : List Int) (x : Int) : Int := if 0 ≤ x then r.getD x.toNat 0 else 0
def tot : List (List Int) → List Int → Int
  | r :: rs, x :: ys => valR r x + tot rs ys
  | _, _ => 0
theorem tot_take (m : List (List Int)) (a : List Int) (hl : a.length = m.length) : ∀ k, k ≤ a.length → sumTo m a k + tot (m.drop k) (a.drop k) = tot m a
  | 0, _ => by simp [sumTo]
  | k + 1, h => by
    have ih := tot_take m a hl k (by omega)
    have hk : k < a.length := by omega
    have hm : k < m.length := by omega
    rw [List.drop_eq_getElem_cons hm, List.drop_eq_getElem_cons hk] at ih
    simp only [tot] at ih
    have hv : valAt m a k = valR m[k] a[k] := by unfold valAt valR; rw [getD_at hm, getD_at hk]
    simp only [sumTo]; rw [hv]; omega
def okL : List Int → List (List Int) → List Int → Prop
  | _, [], [] => True
  | prev, r :: rs, x :: ys => pickOk r prev x = true ∧ okL (prev ++ [x]) rs ys
  | _, _, _ => False
theorem okL_of (m : List (List Int)) (a : List Int) (hl : a.length = m.length) (h : ∀ j, j < a.length → pickAt m a j = true) : ∀ n k, k + n = a.length → okL (a.take k) (m.drop k) (a.drop k)
  | 0, k, e => by
    rw [List.drop_of_length_le (by omega), List.drop_of_length_le (by omega)]; simp [okL]
  | n + 1, k, e => by
    have hk : k < a.length := by omega
    have hm : k < m.length := by omega
    have h2 := okL_of m a hl h n (k + 1) (by omega)
    rw [List.drop_eq_getElem_cons hm, List.drop_eq_getElem_cons hk]
    simp only [okL]
    refine ⟨?_, ?_⟩
    · have := h k hk; rwa [pickAt_eq hm hk] at this
    · rwa [List.take_succ_eq_append_getElem hk] at h2
theorem okL_len : ∀ (m : List (List Int)) (a prev : List Int), okL prev m a → a.length = m.length
  | [], [], _, _ => rfl
  | r :: rs, x :: ys, prev, h => by
    simp only [okL] at h
    simp [okL_len rs ys _ h.2]
  | [], _ :: _, _, h => by simp [okL] at h
  | _ :: _, [], _, h => by simp [okL] at h
theorem okL_pick : ∀ (m : List (List Int)) (a prev : List Int), okL prev m a → ∀ j, j < a.length → pickOk (m.getD j []) (prev ++ a.take j) (a.getD j 0) = true
  | [], [], _, _, j, hj => by simp at hj
  | r :: rs, x :: ys, prev, h, 0, _ => by
    simp only [okL] at h
    simpa using h.1
  | r :: rs, x :: ys, prev, h, j + 1, hj => by
    simp only [okL] at h
    have := okL_pick rs ys (prev ++ [x]) h.2 j (by simpa using hj)
    simpa [List.append_assoc] using this
  | [], _ :: _, _, h, _, _ => by simp [okL] at h
  | _ :: _, [], _, h, _, _ => by simp [okL] at h
theorem pick_parts {r prev : List Int} {x : Int} (h : pickOk r prev x = true) : x = -1 ∨ (0 ≤ x ∧ x.toNat < r.length ∧ r.getD x.toNat 0 ≠ 0 ∧ x ∉ prev) := by
  unfold pickOk at h
  simp only [Bool.or_eq_true, beq_iff_eq, Bool.and_eq_true, Bool.not_eq_true'] at h
  rcases h with h | ⟨⟨h1, h2⟩, h3⟩
  · exact .inl h
  · have := inB_iff.1 h1
    exact .inr ⟨this.1, by omega, by simpa using h2, fun hm => by rw [(hasI_iff x prev).2 hm] at h3; cases h3⟩
theorem pick_mk {r prev : List Int} {x : Int} (h0 : 0 ≤ x) (h1 : x.toNat < r.length) (h2 : r.getD x.toNat 0 ≠ 0) (h3 : x ∉ prev) : pickOk r prev x = true := by
  unfold pickOk
  have e1 : inB x 0 ((r.length : Int) - 1) = true := inB_iff.2 ⟨h0, by omega⟩
  have e2 : hasI x prev = false := by
    cases h : hasI x prev with
    | false => rfl
    | true => exact absurd ((hasI_iff x prev).1 h) h3
  have e3 : (r.getD x.toNat 0 == 0) = false := beq_eq_false_iff_ne.2 h2
  rw [e1, e2, e3]; simp
def Inv (t : Nat) (prev : List Int) : Prop := ∀ c : Nat, t.testBit c = true ↔ (c : Int) ∈ prev
theorem Inv.step {t : Nat} {prev : List Int} {x : Int} (h : Inv t prev) (hx : -1 ≤ x) : Inv (takeBit t x) (prev ++ [x]) := by
  intro c
  unfold takeBit
  split
  · rename_i h0
    rw [Nat.testBit_or, Nat.one_shiftLeft, Nat.testBit_two_pow, Bool.or_eq_true, h c, List.mem_append, List.mem_singleton, decide_eq_true_eq]
    constructor
    · rintro (h1 | h1)
      · exact .inl h1
      · exact .inr (by omega)
    · rintro (h1 | h1)
      · exact .inl h1
      · exact .inr (by omega)
  · rw [h c, List.mem_append, List.mem_singleton]
    exact ⟨.inl, fun h1 => h1.elim id (fun h2 => by omega)⟩
theorem bvRow_ge (next : Nat → Int) (t : Nat) : ∀ (xs : List Int) (k : Nat) (acc : Int), acc ≤ bvRow next t k xs acc
  | [], _, _ => Int.le_refl _
  | x :: xs, k, acc => by
    simp only [bvRow]
    refine Int.le_trans ?_ (bvRow_ge next t xs (k + 1) _)
    split <;> omega
theorem bvRow_at (next : Nat → Int) (t : Nat) : ∀ (xs : List Int) (k : Nat) (acc : Int) (i : Nat) (hi : i < xs.length), 0 < xs[i] → t.testBit (k + i) = false → xs[i] + next (t ||| 1 <<< (k + i)) ≤ bvRow next t k xs acc
  | x :: xs, k, acc, 0, _, h1, h2 => by
    simp only [bvRow]
    refine Int.le_trans ?_ (bvRow_ge next t xs (k + 1) _)
    have h1 : 0 < x := h1
    have h2 : t.testBit k = false := h2
    rw [if_pos ⟨h1, h2⟩]
    show x + next (t ||| 1 <<< k) ≤ _
    omega
  | x :: xs, k, acc, i + 1, hi, h1, h2 => by
    simp only [bvRow]
    have := bvRow_at next t xs (k + 1) (if 0 < x ∧ t.testBit k = false then max acc (x + next (t ||| 1 <<< k)) else acc) i (by simpa using hi) h1 (by rw [show k + 1 + i = k + (i + 1) by omega]; exact h2)
    rw [show k + 1 + i = k + (i + 1) by omega] at this
    exact this
theorem bvRow_from (next : Nat → Int) (t : Nat) : ∀ (xs : List Int) (k : Nat) (acc : Int), bvRow next t k xs acc = acc ∨ ∃ i, ∃ hi : i < xs.length, 0 < xs[i] ∧ t.testBit (k + i) = false ∧ bvRow next t k xs acc = xs[i] + next (t ||| 1 <<< (k + i))
  | [], _, _ => .inl rfl
  | x :: xs, k, acc => by
    simp only [bvRow]
    by_cases hc : 0 < x ∧ t.testBit k = false
    · rw [if_pos hc]
      rcases bvRow_from next t xs (k + 1) (max acc (x + next (t ||| 1 <<< k))) with h | ⟨i, hi, h1, h2, h3⟩
      · rw [h]
        by_cases hm : acc ≤ x + next (t ||| 1 <<< k)
        · exact .inr ⟨0, by simp, hc.1, hc.2, by rw [Int.max_eq_right hm]; rfl⟩
        · exact .inl (by omega)
      · refine .inr ⟨i + 1, by simpa using hi, h1, ?_, ?_⟩
        · rw [show k + (i + 1) = k + 1 + i by omega]; exact h2
        · rw [show k + (i + 1) = k + 1 + i by omega]; exact h3
    · rw [if_neg hc]
      rcases bvRow_from next t xs (k + 1) acc with h | ⟨i, hi, h1, h2, h3⟩
      · exact .inl h
      · refine .inr ⟨i + 1, by simpa using hi, h1, ?_, ?_⟩
        · rw [show k + (i + 1) = k + 1 + i by omega]; exact h2
        · rw [show k + (i + 1) = k + 1 + i by omega]; exact h3
theorem opt : ∀ (m : List (List Int)) (a : List Int) (t : Nat) (prev : List Int), okL prev m a → Inv t prev → (∀ r ∈ m, ∀ x ∈ r, 0 ≤ x ∧ x ≤ 100) → tot m a ≤ bv m t
  | [], [], _, _, _, _, _ => Int.le_refl _
  | r :: rs, x :: ys, t, prev, h, hI, hm => by
    simp only [okL] at h
    have hpp := pick_parts h.1
    have ih := opt rs ys (takeBit t x) (prev ++ [x]) h.2 (hI.step (by omega)) (fun r' hr => hm r' (List.mem_cons_of_mem _ hr))
    simp only [tot, bv]
    rcases hpp with h0 | ⟨h0, hp, hnz, hfree⟩
    · subst h0
      have e : takeBit t (-1) = t := by simp [takeBit]
      rw [e] at ih
      have := bvRow_ge (bv rs) t r 0 (bv rs t)
      have hv : valR r (-1) = 0 := by simp [valR]
      rw [hv]; omega
    · have e : takeBit t x = t ||| 1 <<< x.toNat := by unfold takeBit; rw [if_pos h0]
      rw [e] at ih
      rw [getD_at hp] at hnz
      have hr := hm r (List.mem_cons_self ..) _ (List.getElem_mem hp)
      have hb : t.testBit (0 + x.toNat) = false := by
        rw [Nat.zero_add]
        cases hb : t.testBit x.toNat with
        | false => rfl
        | true => exact absurd (by have := (hI x.toNat).1 hb; rwa [Int.toNat_of_nonneg h0] at this) hfree
      have := bvRow_at (bv rs) t r 0 (bv rs t) x.toNat hp (by omega) hb
      rw [Nat.zero_add] at this
      have hv : valR r x = r[x.toNat] := by unfold valR; rw [if_pos h0, getD_at hp]
      rw [hv]; omega
  | [], _ :: _, _, _, h, _, _ => by simp [okL] at h
  | _ :: _, [], _, _, h, _, _ => by simp [okL] at h
theorem ff_spec (p : Nat → Bool) : ∀ c j, (ff p j c = -1 ∧ ∀ i, j ≤ i → i < j + c → p i = false) ∨ ∃ i, j ≤ i ∧ i < j + c ∧ ff p j c = (i : Int) ∧ p i = true
  | 0, j => .inl ⟨rfl, fun i h1 h2 => by omega⟩
  | c + 1, j => by
    simp only [ff]
    cases hp : p j with
    | true => exact .inr ⟨j, Nat.le_refl _, by omega, by simp, hp⟩
    | false =>
      rcases ff_spec p c (j + 1) with ⟨h1, h2⟩ | ⟨i, h1, h2, h3, h4⟩
      · exact .inl ⟨by simpa using h1, fun i h5 h6 => by
          by_cases e : i = j
          · subst e; exact hp
          · exact h2 i (by omega) (by omega)⟩
      · exact .inr ⟨i, by omega, by omega, by simpa using h3, h4⟩
theorem best_ok : ∀ (m : List (List Int)) (t : Nat) (prev : List Int), Inv t prev → okL prev m (asgFrom m t) ∧ tot m (asgFrom m t) = bv m t
  | [], t, prev, _ => ⟨by simp [okL, asgFrom], rfl⟩
  | r :: rs, t, prev, hI => by
    have hs := ff_spec (pickP r (bv rs) (bv (r :: rs) t) t) r.length 0
    simp only [asgFrom, okL, tot]
    rcases hs with ⟨h1, h2⟩ | ⟨i, _, hi, h1, h2⟩
    · have hp : pickOf r rs t = -1 := h1
      rw [hp]
      have e : takeBit t (-1) = t := by simp [takeBit]
      rw [e]
      have ih := best_ok rs t (prev ++ [-1]) (by have := hI.step (x := -1) (by omega); rwa [e] at this)
      refine ⟨⟨pick_m1 rfl, ih.1⟩, ?_⟩
      rw [ih.2]
      have hv : valR r (-1) = 0 := by simp [valR]
      rw [hv, Int.zero_add]
      rcases bvRow_from (bv rs) t r 0 (bv rs t) with h | ⟨i, hi, h3, h4, h5⟩
      · rw [bv, h]
      · exfalso
        have h6 := h2 i (Nat.zero_le _) (by omega)
        rw [Nat.zero_add] at h4 h5
        have h7 : bv (r :: rs) t = r[i] + bv rs (t ||| 1 <<< i) := by rw [bv, h5]
        unfold pickP at h6
        rw [getD_at hi, h4, h7] at h6
        simp [h3] at h6
    · have hp : pickOf r rs t = (i : Int) := h1
      have hi' : i < r.length := by omega
      rw [hp]
      unfold pickP at h2
      rw [getD_at hi'] at h2
      simp only [Bool.and_eq_true, decide_eq_true_eq, Bool.not_eq_true'] at h2
      obtain ⟨⟨h3, h4⟩, h5⟩ := h2
      have e : takeBit t (i : Int) = t ||| 1 <<< i := by simp [takeBit]
      have ih := best_ok rs (t ||| 1 <<< i) (prev ++ [(i : Int)]) (by have := hI.step (x := (i : Int)) (by omega); rwa [e] at this)
      rw [e]
      refine ⟨⟨pick_mk (by omega) (by simpa using hi') ?_ (fun hm => ?_), ih.1⟩, ?_⟩
      · rw [Int.toNat_natCast, getD_at hi']; omega
      · rw [(hI i).2 hm] at h4; cases h4
      · rw [ih.2]; unfold valR; rw [if_pos (by omega), Int.toNat_natCast, getD_at hi']; exact h5
theorem asg_tot {m : List (List Int)} {a : List Int} (ok : okAsg m a = true) : asgVal m a = tot m a := by
  obtain ⟨hom, hl, hp⟩ := okAsg_parts ok
  unfold asgVal; rw [if_pos ok]
  have h1 := tot_take m a hl a.length (Nat.le_refl _)
  rw [List.drop_of_length_le (by omega), List.drop_of_length_le (by omega)] at h1
  simp only [tot] at h1
  omega
theorem asg_le (m : List (List Int)) (a : List Int) : asgVal m a ≤ bestVal m := by
  by_cases ok : okAsg m a = true
  · rw [asg_tot ok]
    obtain ⟨hom, hl, hp⟩ := okAsg_parts ok
    unfold bestVal; rw [if_pos hom]
    exact opt m a 0 [] (by have := okL_of m a hl hp a.length 0 (by omega); simpa using this) (fun c => by simp) (fun r hr => okMat_mem hom hr)
  · unfold asgVal; rw [if_neg ok]
    unfold bestVal
    split
    · rename_i hom
      have := (bv_bd m 0 fun r hr => okMat_mem hom hr).1
      omega
    · exact Int.le_refl _
theorem best_asg {m : List (List Int)} (h : okMat m = true) : okAsg m (bestAsg m) = true ∧ asgVal m (bestAsg m) = bestVal m := by
  have hb : bestAsg m = asgFrom m 0 := by unfold bestAsg; rw [if_pos h]
  rw [hb]
  have k := best_ok m 0 [] (fun c => by simp)
  have ok : okAsg m (asgFrom m 0) = true := okAsg_true h (asgFrom_len m 0) fun j hj => by
    have := okL_pick m _ [] k.1 j hj
    unfold pickAt
    simpa using this
  exact ⟨ok, by rw [asg_tot ok, k.2]; unfold bestVal; rw [if_pos h]⟩
end Go.Proofs.Ytfcbapaojoecgab
