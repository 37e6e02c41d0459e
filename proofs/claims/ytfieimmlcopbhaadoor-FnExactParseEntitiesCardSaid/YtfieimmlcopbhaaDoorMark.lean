/-
  WALKS: the laws' markIntS, heldIntS.
-/
import Derived.Test.YtfieimmlcopbhaaDoorChg
import Derived.Test.YtfieimmlcopbhaaDoorInts
namespace Go.Proofs.YtfieimmlcopbhaaDoor
open Go.RowKit

set_option maxHeartbeats 400000 in
theorem markIntS_c (v : Value) (xs : List Int) (F : List Nat) (k : Int) (w : World) (h : OwnSl intO w v xs F) (hN : F.Nodup) (h0 : 0 ≤ k) (hb : k + (lstMk intMk).cnt xs ≤ 1152921504606846976) :
    Calls Tryd.prog 47 #[v, .int .i64 k] w fun e w2 => ∃ ys, e = .returned (.int .i64 (k + ((lstMk intMk).cnt xs : Nat))) ∧ OwnSl intO w2 v ys F ∧ (lstMk intMk).is k xs ys ∧ Chg F w w2 := by
  have hcn : (lstMk intMk).cnt xs = xs.length := intMk_sum xs
  rw [hcn] at hb ⊢
  obtain ⟨A, cap, rfl, hm⟩ := h.form
  go_enter Tryd.func47, Tryd.ntmps47
  go_wp2
  go_loopw [1, 5] (fun l i wr => ∃ (j : Nat) (ys : List Int), j ≤ xs.length ∧ i = .int .i64 j ∧ l = .int .i64 (k + j) ∧ OwnSl intO wr (.slice A xs.length cap) ys F ∧ Part intMk k xs ys j ∧ Chg F w wr) (fun _ i _ => xs.length - (intOf i).toNat)
  case atStart => exact ⟨0, xs, Nat.zero_le _, rfl, by simp, h, .zero _ _ _, .refl _ _⟩
  case round =>
    obtain ⟨j, ys, hj, rfl, rfl, ho, hp, hc⟩ := hrel
    by_cases hlt : j < xs.length
    · obtain ⟨hy, _⟩ := hp.at_ hlt
      obtain ⟨g, off, cap2, e, hg, hcell, hfr, hst⟩ := ho.int_store hN hy
      injection e with e1 e2 e3
      subst e1
      have hst2 := hst (k + j) (by unfold I64; omega)
      have HS := hid hst2
      clear hst hst2
      go_wp2
      go_roundw
      case rel =>
        refine ⟨j + 1, _, by omega, by go_num, by go_num, HS.out, hp.step hlt ?_, hc.setCell hg _⟩
        show _ = k + (intMk.sum (xs.take j) : Nat)
        rw [intMk_sum, List.length_take, Nat.min_eq_left (by omega)]
      case measure => simp [intOf]; omega
    · go_wp2
      go_ret
      exact ⟨ys, ret_int (by omega), ho, hp.all hlt, hc⟩

set_option maxHeartbeats 400000 in
theorem heldIntS_c (v : Value) (xs ys : List Int) (k : Int) (w : World) (h : Sl intR w v ys) (hi : (lstMk intMk).is k xs ys) (h0 : 0 ≤ k) (hb : k + (lstMk intMk).cnt xs ≤ 1152921504606846976) :
    Calls Tryd.prog 48 #[v, .int .i64 k] w fun e w2 => e = .returned (.int .i64 (k + ((lstMk intMk).cnt xs : Nat))) ∧ w = w2 := by
  have hcn : (lstMk intMk).cnt xs = xs.length := intMk_sum xs
  rw [hcn] at hb ⊢
  have hl := hi.1
  obtain ⟨A, cap, rfl, hm⟩ := h.form
  go_enter Tryd.func48, Tryd.ntmps48
  go_wp2
  go_loop [1, 5] (fun l i => ∃ j : Nat, j ≤ ys.length ∧ i = .int .i64 j ∧ l = .int .i64 (k + j)) (fun _ i => ys.length - (intOf i).toNat)
  case atStart => exact ⟨0, Nat.zero_le _, rfl, by simp⟩
  case round =>
    obtain ⟨j, hj, rfl, rfl⟩ := hrel
    by_cases hlt : j < ys.length
    · obtain ⟨b, off, rfl, hb1, hc⟩ := h.int hlt
      have hv := hi.2 j (by omega) hlt
      have hv2 : ys[j] = k + j := by
        have e : ys[j] = k + (intMk.sum (xs.take j) : Nat) := hv
        rw [e, intMk_sum, List.length_take, Nat.min_eq_left (by omega)]
      rw [hv2] at hc
      clear hv2 hv
      go_wp2
      go_round
      case rel => exact ⟨j + 1, by omega, by go_num, by go_num⟩
      case measure => simp [intOf]; omega
    · go_wp2
      go_ret
      exact ⟨ret_int (by omega), rfl⟩
end Go.Proofs.YtfieimmlcopbhaaDoor
