/-
  WALKS: l25Pair, DrawAssignmentValue; the laws' sameInts, big.
-/
import Derived.Test.YtfcbapaojoecgabMgEndFnId6
import Derived.Test.YtfcbapaojoecgabMgEndFnId0
import Derived.Test.YtfcbapaojoecgabMgEndFnId15

namespace Go.Proofs.Ytfcbapaojoecgab
open Go.RowKit

theorem best_len (m : List (List Int)) : (bestAsg m).length ≤ 8 := by
  unfold bestAsg; split
  · rename_i h; rw [asgFrom_len]; exact okMat_len h
  · simp

set_option maxHeartbeats 400000 in
theorem laws_sameInts (v u : Value) (xs ys : List Int) (w : World) (h : Sl intR w v xs) (k : Sl intR w u ys) :
    Calls Try.prog 21 #[v, u] w fun e w2 => e = .returned (.bool (eqB xs ys)) ∧ Ext w w2 := by
  obtain ⟨A, cap, rfl, hm⟩ := h.form
  obtain ⟨B, cap2, rfl, hm2⟩ := k.form
  by_cases hl : xs.length = ys.length
  · have hl' : ((xs.length : Int) != (ys.length : Int)) = false := by simp [hl]
    have HL := hid hl
    clear hl
    go_enter Try.func21, Try.ntmps21
    go_wp2
    go_loopw [5] (fun i wr => ∃ k2 : Nat, k2 ≤ xs.length ∧ i = .int .i64 k2 ∧ xs.take k2 = ys.take k2 ∧ Ext w wr) (fun i _ => xs.length - (intOf i).toNat)
    case atStart => exact ⟨0, Nat.zero_le _, rfl, by simp, Ext.refl _⟩
    case round =>
      obtain ⟨k2, hk, rfl, he, hx⟩ := hrel
      have HE := hid he
      clear he
      by_cases hlt : k2 < xs.length
      · have hlt2 : k2 < ys.length := by have := HL.out; omega
        obtain ⟨b, off, rfl, hi, hc⟩ := (h.mono hx).int hlt
        obtain ⟨b2, off2, rfl, hi2, hc2⟩ := (k.mono hx).int hlt2
        have hcz : ∀ z : ExtOf wr, z.1.cell? ⟨b, off + k2, none⟩ = _ := fun z => z.2.cell hc
        have hcz2 : ∀ z : ExtOf wr, z.1.cell? ⟨b2, off2 + k2, none⟩ = _ := fun z => z.2.cell hc2
        by_cases h0 : xs[k2] = ys[k2]
        · have h0' : (xs[k2] != ys[k2]) = false := by simp [h0]
          have H0 := hid h0
          clear h0
          go_wp2_with fail
          refine wp_region_ext (by kernel_rfl) (by kernel_rfl) ?_
          repeat (go_big_quiet_step ((fail)))
          refine wpQuiet_nil ?_
          rintro w1 ⟨⟨_, x1⟩, rfl⟩
          go_wp2
          go_roundw
          case rel => exact ⟨k2 + 1, by omega, by go_num, take_snoc_eq hlt hlt2 H0.out HE.out, hx.trans x1⟩
          case measure => simp [intOf]; omega
        · have h0' : (xs[k2] != ys[k2]) = true := by simp [h0]
          have H0 := hid h0
          clear h0
          go_wp2_with fail
          refine wp_region_ext (by kernel_rfl) (by kernel_rfl) ?_
          repeat (go_big_quiet_step ((fail)))
          refine wpQuiet_nil ?_
          rintro w1 ⟨⟨_, x1⟩, rfl⟩
          go_wp2
          go_ret
          exact ⟨ret_bool (eqB_false (ne_of_at hlt hlt2 H0.out)).symm, hx.trans x1⟩
      · go_wp2
        go_ret
        exact ⟨ret_bool (eqB_true (eq_of_take hlt HL.out HE.out)).symm, hx⟩
  · have hl' : ((xs.length : Int) != (ys.length : Int)) = true := by simp; omega
    go_enter Try.func21, Try.ntmps21
    go_wp2
    go_ret
    exact ⟨ret_bool (eqB_false fun e => hl (by rw [e])).symm, Ext.refl _⟩
end Go.Proofs.Ytfcbapaojoecgab
