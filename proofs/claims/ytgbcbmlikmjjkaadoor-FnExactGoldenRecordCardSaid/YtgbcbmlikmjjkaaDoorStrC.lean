/-
  PLAIN LAWS AND WALKS: the order of strings; cmp.Compare at string, slices.Compare at []string.
-/
import Derived.Test.YtgbcbmlikmjjkaaDoorStrs
import Derived.Test.YtgbcbmlikmjjkaaDoorCmp0
namespace Go.Proofs.YtgbcbmlikmjjkaaDoor
open Go.RowKit

theorem bless_irr (l : List UInt8) : Op.bytesLess l l = false := by
  induction l with
  | nil => rfl
  | cons a l ih => simp [Op.bytesLess, ih]
def cmpS (a b : ByteArray) : Int := if Op.bytesLess a.toList b.toList then -1 else if a.toList == b.toList then 0 else 1
theorem toList_inj {a b : ByteArray} (h : (a.toList == b.toList) = true) : a = b := by
  cases Classical.em (a = b) with
  | inl e => exact e
  | inr e => rw [str_ne e] at h; cases h
theorem cmpS_lt {a b : ByteArray} (h : Op.bytesLess a.toList b.toList = true) : cmpS a b = -1 := by unfold cmpS; rw [h]; rfl
theorem cmpS_gt {a b : ByteArray} (h : Op.bytesLess a.toList b.toList = false) (h2 : (a.toList == b.toList) = false) : cmpS a b = 1 := by unfold cmpS; rw [h, h2]; rfl
theorem cmpS_eq {a b : ByteArray} (h : (a.toList == b.toList) = true) : cmpS a b = 0 := by
  have e := toList_inj h
  subst e
  unfold cmpS; rw [bless_irr, h]; rfl
theorem cmpS_zero {a b : ByteArray} : cmpS a b = 0 ↔ a = b := by
  refine ⟨fun h => ?_, fun h => cmpS_eq (str_eq h)⟩
  unfold cmpS at h
  split at h
  · omega
  · split at h
    · rename_i e; exact toList_inj e
    · omega
theorem cmpS_64 (a b : ByteArray) : I64 (cmpS a b) := by unfold I64 cmpS; split <;> (try split) <;> omega
def cmpSL : List ByteArray → List ByteArray → Int
  | [], [] => 0
  | [], _ :: _ => -1
  | _ :: _, [] => 1
  | x :: xs, y :: ys => if cmpS x y = 0 then cmpSL xs ys else cmpS x y
theorem cmpSL_skip : ∀ {xs ys : List ByteArray} {k : Nat}, xs.take k = ys.take k → k ≤ xs.length → k ≤ ys.length → cmpSL xs ys = cmpSL (xs.drop k) (ys.drop k)
  | _, _, 0, _, _, _ => rfl
  | [], _, k + 1, _, h, _ => by simp at h
  | _ :: _, [], k + 1, _, _, h => by simp at h
  | x :: xs, y :: ys, k + 1, h, h1, h2 => by
    simp only [List.take_succ_cons, List.cons.injEq] at h
    rw [cmpSL, if_pos (cmpS_zero.2 h.1), List.drop_succ_cons, List.drop_succ_cons]
    exact cmpSL_skip h.2 (by simpa using h1) (by simpa using h2)
theorem cmpSL_at {xs ys : List ByteArray} {k : Nat} (h1 : k < xs.length) (h2 : k < ys.length) (h : xs.take k = ys.take k) (hne : ¬ cmpS xs[k] ys[k] = 0) : cmpSL xs ys = cmpS xs[k] ys[k] := by
  rw [cmpSL_skip h (by omega) (by omega), List.drop_eq_getElem_cons h1, List.drop_eq_getElem_cons h2, cmpSL, if_neg hne]
theorem cmpSL_end {xs ys : List ByteArray} {k : Nat} (hk1 : k ≤ xs.length) (hk2 : k ≤ ys.length) (h : xs.take k = ys.take k) (he : ¬ (k < xs.length ∧ k < ys.length)) : cmpSL xs ys = cmpI xs.length ys.length := by
  rw [cmpSL_skip h hk1 hk2]
  by_cases h1 : k < xs.length
  · have h2 : k = ys.length := by omega
    rw [List.drop_eq_getElem_cons h1, show ys.drop k = [] from List.drop_of_length_le (by omega), cmpSL]
    unfold cmpI; rw [if_neg (by omega), if_pos (by omega)]
  · rw [show xs.drop k = [] from List.drop_of_length_le (by omega)]
    by_cases h2 : k < ys.length
    · rw [List.drop_eq_getElem_cons h2, cmpSL]
      unfold cmpI; rw [if_pos (by omega)]
    · rw [show ys.drop k = [] from List.drop_of_length_le (by omega), cmpSL]
      unfold cmpI; rw [if_neg (by omega), if_neg (by omega)]
theorem cmpSL_zero : ∀ {xs ys : List ByteArray}, cmpSL xs ys = 0 ↔ xs = ys
  | [], [] => by simp [cmpSL]
  | [], _ :: _ => by simp [cmpSL]
  | _ :: _, [] => by simp [cmpSL]
  | x :: xs, y :: ys => by
    rw [cmpSL]
    split
    · rename_i h; rw [cmpSL_zero]; simp [cmpS_zero.1 h]
    · rename_i h
      refine ⟨fun e => absurd e h, fun e => ?_⟩
      injection e with e1 e2
      exact absurd (cmpS_zero.2 e1) h
theorem cmpSL_64 : ∀ (xs ys : List ByteArray), I64 (cmpSL xs ys)
  | [], [] => by simp [cmpSL, I64]
  | [], _ :: _ => by simp [cmpSL, I64]
  | _ :: _, [] => by simp [cmpSL, I64]
  | x :: xs, y :: ys => by
    rw [cmpSL]
    split
    · exact cmpSL_64 xs ys
    · exact cmpS_64 _ _

set_option maxHeartbeats 400000 in
theorem cmp_isNaN_s (a : ByteArray) (w : World) :
    Calls Tryd.prog 163 #[.string a] w fun e w2 => e = .returned (.bool false) ∧ w = w2 := by
  go_enter Tryd.func163, Tryd.ntmps163
  go_wp2
  go_ret
  exact ⟨rfl, rfl⟩
set_option maxHeartbeats 400000 in
theorem cmp_Compare_s (a b : ByteArray) (w : World) :
    Calls Tryd.prog 145 #[.string a, .string b] w fun e w2 => e = .returned (.int .i64 (cmpS a b)) ∧ w = w2 := by
  cases hl : Op.bytesLess a.toList b.toList with
  | true =>
    have H := hid (cmpS_lt hl)
    go_enter Tryd.func145, Tryd.ntmps145
    go_wp2_with (go_at_call 163; refine (cmp_isNaN_s _ _).mono ?_; rintro e w2 ⟨rfl, rfl⟩)
    go_ret
    exact ⟨ret_int H.out.symm, rfl⟩
  | false =>
    cases he : (a.toList == b.toList) with
    | true =>
      have H := hid (cmpS_eq he)
      go_enter Tryd.func145, Tryd.ntmps145
      go_wp2_with (go_at_call 163; refine (cmp_isNaN_s _ _).mono ?_; rintro e w2 ⟨rfl, rfl⟩)
      go_ret
      exact ⟨ret_int H.out.symm, rfl⟩
    | false =>
      have H := hid (cmpS_gt hl he)
      go_enter Tryd.func145, Tryd.ntmps145
      go_wp2_with (go_at_call 163; refine (cmp_isNaN_s _ _).mono ?_; rintro e w2 ⟨rfl, rfl⟩)
      go_ret
      exact ⟨ret_int H.out.symm, rfl⟩

set_option maxHeartbeats 400000 in
theorem slices_Compare_s (v u : Value) (xs ys : List ByteArray) (w : World) (h : Sl strR w v xs) (k : Sl strR w u ys) :
    Calls Tryd.prog 122 #[v, u] w fun e w2 => e = .returned (.int .i64 (cmpSL xs ys)) ∧ w = w2 := by
  obtain ⟨A, cap, rfl, hm⟩ := h.form
  obtain ⟨B, cap2, rfl, hm2⟩ := k.form
  go_enter Tryd.func122, Tryd.ntmps122
  go_wp2
  go_loop [11] (fun i => ∃ j : Nat, j ≤ xs.length ∧ j ≤ ys.length ∧ i = .int .i64 j ∧ xs.take j = ys.take j) (fun i => xs.length - (intOf i).toNat)
  case atStart => exact ⟨0, Nat.zero_le _, Nat.zero_le _, rfl, by simp⟩
  case round =>
    obtain ⟨j, hj1, hj2, rfl, he⟩ := hrel
    have HE := hid he
    clear he
    by_cases hlt : j < xs.length
    · obtain ⟨b, off, rfl, hI, hc⟩ := h.str hlt
      by_cases hlt2 : j < ys.length
      · obtain ⟨b2, off2, rfl, hI2, hc2⟩ := k.str hlt2
        have h64 := (cmpS_64 xs[j] ys[j]).out
        by_cases h0 : cmpS xs[j] ys[j] = 0
        · have H0 := hid h0
          have h0' : (cmpS xs[j] ys[j] != 0) = false := by simp [h0]
          clear h0
          go_wp2_with (go_at_call 145; refine (cmp_Compare_s _ _ _).mono ?_; rintro e w2 ⟨rfl, rfl⟩)
          go_round
          case rel => exact ⟨j + 1, by omega, by omega, by go_num, take_snoc_eq hlt hlt2 (cmpS_zero.1 H0.out) HE.out⟩
          case measure => simp [intOf]; omega
        · have H0 := hid h0
          have h0' : (cmpS xs[j] ys[j] != 0) = true := by simp [h0]
          clear h0
          go_wp2_with (go_at_call 145; refine (cmp_Compare_s _ _ _).mono ?_; rintro e w2 ⟨rfl, rfl⟩)
          go_ret
          exact ⟨ret_int (cmpSL_at hlt hlt2 HE.out H0.out).symm, rfl⟩
      · have HX := hid (cmpSL_end hj1 hj2 HE.out (by omega))
        go_wp2_with fail
        go_ret
        exact ⟨ret_int (by rw [HX.out]; unfold cmpI; rw [if_neg (by omega), if_pos (by omega)]), rfl⟩
    · have HX := hid (cmpSL_end hj1 hj2 HE.out (by omega))
      by_cases hll : xs.length < ys.length
      · go_wp2_with fail
        go_ret
        exact ⟨ret_int (by rw [HX.out]; unfold cmpI; rw [if_pos (by omega)]), rfl⟩
      · go_wp2_with fail
        go_ret
        exact ⟨ret_int (by rw [HX.out]; unfold cmpI; rw [if_neg (by omega), if_neg (by omega)]), rfl⟩
end Go.Proofs.YtgbcbmlikmjjkaaDoor
