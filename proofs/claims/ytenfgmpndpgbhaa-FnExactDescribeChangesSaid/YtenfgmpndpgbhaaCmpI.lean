/-
  PLAIN LAWS AND WALKS: l8Int, l8Ints, slices.Equal at []int.
-/
import Derived.Test.YtenfgmpndpgbhaaIntss
namespace Go.Proofs.Ytenfgmpndpgbhaa
open Go.RowKit

def cmpI (a b : Int) : Int := if a < b then -1 else if b < a then 1 else 0
theorem cmpI_64 (a b : Int) : I64 (cmpI a b) := by unfold I64 cmpI; split <;> (try split) <;> omega
theorem cmpI_zero {a b : Int} : cmpI a b = 0 ↔ a = b := by unfold cmpI; split <;> (try split) <;> omega
def cmpL : List Int → List Int → Int
  | [], [] => 0
  | [], _ :: _ => -1
  | _ :: _, [] => 1
  | x :: xs, y :: ys => if x = y then cmpL xs ys else cmpI x y
theorem cmpL_skip : ∀ {xs ys : List Int} {k : Nat}, xs.take k = ys.take k → k ≤ xs.length → k ≤ ys.length → cmpL xs ys = cmpL (xs.drop k) (ys.drop k)
  | _, _, 0, _, _, _ => rfl
  | [], _, k + 1, _, h, _ => by simp at h
  | _ :: _, [], k + 1, _, _, h => by simp at h
  | x :: xs, y :: ys, k + 1, h, h1, h2 => by
    simp only [List.take_succ_cons, List.cons.injEq] at h
    rw [cmpL, if_pos h.1, List.drop_succ_cons, List.drop_succ_cons]
    exact cmpL_skip h.2 (by simpa using h1) (by simpa using h2)
theorem cmpL_at {xs ys : List Int} {k : Nat} (h1 : k < xs.length) (h2 : k < ys.length) (h : xs.take k = ys.take k) (hne : ¬ xs[k] = ys[k]) : cmpL xs ys = cmpI xs[k] ys[k] := by
  rw [cmpL_skip h (by omega) (by omega), List.drop_eq_getElem_cons h1, List.drop_eq_getElem_cons h2, cmpL, if_neg hne]
theorem cmpL_end {xs ys : List Int} {k : Nat} (hk1 : k ≤ xs.length) (hk2 : k ≤ ys.length) (h : xs.take k = ys.take k) (he : ¬ (k < xs.length ∧ k < ys.length)) : cmpL xs ys = cmpI xs.length ys.length := by
  rw [cmpL_skip h hk1 hk2]
  by_cases h1 : k < xs.length
  · have h2 : k = ys.length := by omega
    rw [List.drop_eq_getElem_cons h1, show ys.drop k = [] from List.drop_of_length_le (by omega), cmpL]
    unfold cmpI; rw [if_neg (by omega), if_pos (by omega)]
  · rw [show xs.drop k = [] from List.drop_of_length_le (by omega)]
    by_cases h2 : k < ys.length
    · rw [List.drop_eq_getElem_cons h2, cmpL]
      unfold cmpI; rw [if_pos (by omega)]
    · rw [show ys.drop k = [] from List.drop_of_length_le (by omega), cmpL]
      unfold cmpI; rw [if_neg (by omega), if_neg (by omega)]
theorem cmpL_zero : ∀ {xs ys : List Int}, cmpL xs ys = 0 ↔ xs = ys
  | [], [] => by simp [cmpL]
  | [], _ :: _ => by simp [cmpL]
  | _ :: _, [] => by simp [cmpL]
  | x :: xs, y :: ys => by
    rw [cmpL]
    split
    · rename_i h; rw [cmpL_zero]; simp [h]
    · rename_i h; rw [cmpI_zero]; simp [h]
theorem cmpL_64 : ∀ (xs ys : List Int), I64 (cmpL xs ys)
  | [], [] => by simp [cmpL, I64]
  | [], _ :: _ => by simp [cmpL, I64]
  | _ :: _, [] => by simp [cmpL, I64]
  | x :: xs, y :: ys => by
    rw [cmpL]
    split
    · exact cmpL_64 xs ys
    · exact cmpI_64 _ _

set_option maxHeartbeats 400000 in
theorem spec_l8Int (a b : Int) (w : World) :
    Calls Try.prog 109 #[.int .i64 a, .int .i64 b] w fun e w2 => e = .returned (.int .i64 (cmpI a b)) ∧ w = w2 := by
  go_enter Try.func109, Try.ntmps109
  go_wp2
  all_goals go_ret
  all_goals refine ⟨?_, rfl⟩
  all_goals (simp_all [cmpI]; try omega)

set_option maxHeartbeats 400000 in
theorem spec_l8Ints (v u : Value) (xs ys : List Int) (w : World) (h : Sl intR w v xs) (k : Sl intR w u ys) :
    Calls Try.prog 79 #[v, u] w fun e w2 => e = .returned (.int .i64 (cmpL xs ys)) ∧ Ext w w2 := by
  obtain ⟨A, cap, rfl, hm⟩ := h.form
  obtain ⟨B, cap2, rfl, hm2⟩ := k.form
  go_enter Try.func79, Try.ntmps79
  go_wp2
  go_loopw [5] (fun i wr => ∃ j : Nat, j ≤ xs.length ∧ j ≤ ys.length ∧ i = .int .i64 j ∧ xs.take j = ys.take j ∧ Ext w wr) (fun i _ => xs.length - (intOf i).toNat)
  case atStart => exact ⟨0, Nat.zero_le _, Nat.zero_le _, rfl, by simp, Ext.refl _⟩
  case round =>
    obtain ⟨j, hj1, hj2, rfl, he, hx⟩ := hrel
    have HE := hid he
    clear he
    by_cases hlt : j < xs.length
    · by_cases hlt2 : j < ys.length
      · obtain ⟨b, off, rfl, hI, hc⟩ := (h.mono hx).int hlt
        obtain ⟨b2, off2, rfl, hI2, hc2⟩ := (k.mono hx).int hlt2
        have hcz : ∀ z : ExtOf wr, z.1.cell? ⟨b, off + j, none⟩ = _ := fun z => z.2.cell hc
        have hcz2 : ∀ z : ExtOf wr, z.1.cell? ⟨b2, off2 + j, none⟩ = _ := fun z => z.2.cell hc2
        by_cases h0 : xs[j] = ys[j]
        · have h0' : (xs[j] != ys[j]) = false := by simp [h0]
          have H0 := hid h0
          clear h0
          go_wp2_with fail
          refine wp_region_ext (by kernel_rfl) (by kernel_rfl) ?_
          repeat (go_big_quiet_step ((fail)))
          refine wpQuiet_nil ?_
          rintro w1 ⟨⟨_, x1⟩, rfl⟩
          go_wp2
          go_roundw
          case rel => exact ⟨j + 1, by omega, by omega, by go_num, take_snoc_eq hlt hlt2 H0.out HE.out, hx.trans x1⟩
          case measure => simp [intOf]; omega
        · have h0' : (xs[j] != ys[j]) = true := by simp [h0]
          have H0 := hid h0
          clear h0
          go_wp2_with fail
          refine wp_region_ext (by kernel_rfl) (by kernel_rfl) ?_
          repeat (go_big_quiet_step ((fail)))
          refine wpQuiet_nil ?_
          rintro w1 ⟨⟨_, x1⟩, rfl⟩
          have hcy : ∀ z : ExtOf w1, z.1.cell? ⟨b, off + j, none⟩ = _ := fun z => (x1.trans z.2).cell hc
          have hcy2 : ∀ z : ExtOf w1, z.1.cell? ⟨b2, off2 + j, none⟩ = _ := fun z => (x1.trans z.2).cell hc2
          go_wp2_with fail
          refine wp_region_ext (by kernel_rfl) (by kernel_rfl) ?_
          repeat (go_big_quiet_step ((first | (go_at_call 109; exact quiet_same (spec_l8Int _ _ _)))))
          refine wpQuiet_nil ?_
          rintro w2 ⟨⟨_, x2⟩, rfl⟩
          go_wp2
          go_ret
          exact ⟨ret_int (cmpL_at hlt hlt2 HE.out H0.out).symm, (by repeat (first | with_reducible exact Ext.refl _ | with_reducible assumption | with_reducible refine Ext.drew ?_ | with_reducible refine Ext.alloc ?_ _ | with_reducible refine Ext.trans ?_ (by with_reducible assumption)))⟩
      · go_wp2_with (go_at_call 109; refine (spec_l8Int _ _ _).mono ?_; rintro e w2 ⟨rfl, rfl⟩)
        go_ret
        exact ⟨ret_int (cmpL_end hj1 hj2 HE.out (by omega)).symm, hx⟩
    · go_wp2_with (go_at_call 109; refine (spec_l8Int _ _ _).mono ?_; rintro e w2 ⟨rfl, rfl⟩)
      go_ret
      exact ⟨ret_int (cmpL_end hj1 hj2 HE.out (by omega)).symm, hx⟩

set_option maxHeartbeats 400000 in
theorem slices_Equal (v u : Value) (xs ys : List Int) (w : World) (h : Sl intR w v xs) (k : Sl intR w u ys) :
    Calls Try.prog 82 #[v, u] w fun e w2 => e = .returned (.bool (eqB xs ys)) ∧ Ext w w2 := by
  obtain ⟨A, cap, rfl, hm⟩ := h.form
  obtain ⟨B, cap2, rfl, hm2⟩ := k.form
  by_cases hl : xs.length = ys.length
  · have hl' : ((xs.length : Int) != (ys.length : Int)) = false := by simp [hl]
    have HL := hid hl
    clear hl
    go_enter Try.func82, Try.ntmps82
    go_wp2
    go_loopw [13] (fun i wr => ∃ k2 : Nat, k2 ≤ xs.length ∧ i = .int .i64 k2 ∧ xs.take k2 = ys.take k2 ∧ Ext w wr) (fun i _ => xs.length - (intOf i).toNat)
    case atStart => exact ⟨0, Nat.zero_le _, rfl, by simp, Ext.refl _⟩
    case round =>
      obtain ⟨k2, hk, rfl, he, hx⟩ := hrel
      have HE := hid he
      clear he
      by_cases hlt : k2 < xs.length
      · have hlt2 : k2 < ys.length := by have := HL.out; omega
        obtain ⟨b, off, rfl, hi, hc⟩ := (h.mono hx).int hlt
        obtain ⟨b2, off2, rfl, hi2, hc2⟩ := (k.mono hx).int hlt2
        have hcz : ∀ z : ExtOf wr, z.1.cell? ⟨b, off + k2, none⟩ = _ := fun z => z.2.cell hc
        have hcz2 : ∀ z : ExtOf wr, z.1.cell? ⟨b2, off2 + k2, none⟩ = _ := fun z => z.2.cell hc2
        by_cases h0 : xs[k2] = ys[k2]
        · have h0' : (xs[k2] != ys[k2]) = false := by simp [h0]
          have H0 := hid h0
          clear h0
          go_wp2_with fail
          refine wp_region_ext (by kernel_rfl) (by kernel_rfl) ?_
          repeat (go_big_quiet_step ((fail)))
          refine wpQuiet_nil ?_
          rintro w1 ⟨⟨_, x1⟩, rfl⟩
          go_wp2
          go_roundw
          case rel => exact ⟨k2 + 1, by omega, by go_num, take_snoc_eq hlt hlt2 H0.out HE.out, hx.trans x1⟩
          case measure => simp [intOf]; omega
        · have h0' : (xs[k2] != ys[k2]) = true := by simp [h0]
          go_wp2_with fail
          refine wp_region_ext (by kernel_rfl) (by kernel_rfl) ?_
          repeat (go_big_quiet_step ((fail)))
          refine wpQuiet_nil ?_
          rintro w1 ⟨⟨_, x1⟩, rfl⟩
          go_wp2
          go_ret
          exact ⟨ret_bool (eqB_false (ne_of_at hlt hlt2 h0)).symm, hx.trans x1⟩
      · go_wp2
        go_ret
        exact ⟨ret_bool (eqB_true (eq_of_take hlt HL.out HE.out)).symm, hx⟩
  · have hl' : ((xs.length : Int) != (ys.length : Int)) = true := by simp; omega
    go_enter Try.func82, Try.ntmps82
    go_wp2
    go_ret
    exact ⟨ret_bool (eqB_false fun e => hl (by rw [e])).symm, Ext.refl _⟩
end Go.Proofs.Ytenfgmpndpgbhaa
