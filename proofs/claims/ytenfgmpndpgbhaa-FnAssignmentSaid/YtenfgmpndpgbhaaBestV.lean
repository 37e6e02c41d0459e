/-
  WALKS: BestValue (both).
-/
import Derived.Test.YtenfgmpndpgbhaaTabS
namespace Go.Proofs.Ytenfgmpndpgbhaa
open Go.RowKit

noncomputable def bestVal (m : List (List Int)) : Int := if okMat m then bv m 0 else -1

set_option maxHeartbeats 400000 in
theorem spec_BestValue (v : Value) (m : List (List Int)) (w : World) (h : Sl (slR intR) w v m) :
    Calls Try.prog 24 #[v] w fun e w2 => e = .returned (.int .i64 (bestVal m)) ∧ Ext w w2 := by
  obtain ⟨A, cap, rfl, hm⟩ := h.form
  go_enter Try.func24, Try.ntmps24
  go_wp2_with fail
  refine (spec_IsOverlapMatrix _ m _ h).mono ?_
  rintro e w1 ⟨rfl, x1⟩
  by_cases hok : okMat m = true
  · rw [hok]
    go_wp2_with fail
    refine (spec_l25Table _ m _ (h.mono x1) hok).mono ?_
    rintro e w2 ⟨g, off, cap2, f, F, rfl, hT, hf, hNF, x2⟩
    obtain ⟨b, o2, c2, hc1, _, _, hc2, _, _⟩ := tab_at hT hNF.1 (Nat.succ_pos m.length) (s := 0) (Nat.pow_pos (by decide))
    have hv := hf 0 (Nat.zero_le _) 0 (Nat.pow_pos (by decide))
    rw [List.drop_zero] at hv
    rw [hv] at hc2
    rw [Nat.add_zero] at hc1 hc2
    obtain ⟨N, hN⟩ : ∃ N, N = (2 ^ width m) := ⟨_, rfl⟩
    have hN0 : 0 < N := by rw [hN]; exact Nat.pow_pos (by decide)
    rw [← hN] at hc1
    have HO := hid hok
    clear hT hf hv hN hok
    go_wp2
    go_ret
    exact ⟨ret_int (by unfold bestVal; rw [if_pos HO.out]), (by repeat (first | with_reducible exact Ext.refl _ | with_reducible assumption | with_reducible refine Ext.drew ?_ | with_reducible refine Ext.alloc ?_ _ | with_reducible refine Ext.trans ?_ (by with_reducible assumption)))⟩
  · have hok' : okMat m = false := by simpa using hok
    rw [hok']
    have HO := hid hok'
    clear hok hok'
    go_wp2
    go_ret
    exact ⟨ret_int (by unfold bestVal; rw [HO.out]; rfl), x1⟩

set_option maxHeartbeats 400000 in
theorem impl_BestValue (v : Value) (m : List (List Int)) (w : World) (h : Sl (slR intR) w v m) :
    Calls Try.prog 25 #[v] w fun e w2 => e = .returned (.int .i64 (bestVal m)) ∧ Ext w w2 := by
  obtain ⟨A, cap, rfl, hm⟩ := h.form
  go_enter Try.func25, Try.ntmps25
  go_wp2_with fail
  refine (impl_IsOverlapMatrix _ m _ h).mono ?_
  rintro e w1 ⟨rfl, x1⟩
  by_cases hok : okMat m = true
  · rw [hok]
    go_wp2_with fail
    refine (impl_bestValues _ m _ (h.mono x1) hok).mono ?_
    rintro e w2 ⟨g, off, cap2, f, F, rfl, hT, hf, hNF, x2⟩
    obtain ⟨b, o2, c2, hc1, _, _, hc2, _, _⟩ := tab_at hT hNF.1 (Nat.succ_pos m.length) (s := 0) (by decide)
    have hv := hf 0 (Nat.zero_le _) 0 (by decide)
    rw [List.drop_zero] at hv
    rw [hv] at hc2
    rw [Nat.add_zero] at hc1 hc2
    obtain ⟨N, hN⟩ : ∃ N, N = 256 := ⟨_, rfl⟩
    have hN0 : 0 < N := by rw [hN]; exact by decide
    rw [← hN] at hc1
    have HO := hid hok
    clear hT hf hv hN hok
    go_wp2
    go_ret
    exact ⟨ret_int (by unfold bestVal; rw [if_pos HO.out]), (by repeat (first | with_reducible exact Ext.refl _ | with_reducible assumption | with_reducible refine Ext.drew ?_ | with_reducible refine Ext.alloc ?_ _ | with_reducible refine Ext.trans ?_ (by with_reducible assumption)))⟩
  · have hok' : okMat m = false := by simpa using hok
    rw [hok']
    have HO := hid hok'
    clear hok hok'
    go_wp2
    go_ret
    exact ⟨ret_int (by unfold bestVal; rw [HO.out]; rfl), x1⟩


end Go.Proofs.Ytenfgmpndpgbhaa
