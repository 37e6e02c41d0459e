/-
  WALKS: the laws' markIntS, heldIntS.
-/
import Derived.Test.YtgbcbmlikmjjkaaDoorChg
import Derived.Test.YtgbcbmlikmjjkaaDoorInts
namespace Go.Proofs.YtgbcbmlikmjjkaaDoor
open Go.RowKit

set_option maxHeartbeats 400000 in
theorem markIntS_c (v : Value) (xs : List Int) (F : List Nat) (k : Int) (w : World) (h : OwnSl intO w v xs F) (hN : F.Nodup) (h0 : 0 ≤ k) (hb : k + (lstMk intMk).cnt xs ≤ 1152921504606846976) :
    Calls Tryd.prog 46 #[v, .int .i64 k] w fun e w2 => ∃ ys, e = .returned (.int .i64 (k + ((lstMk intMk).cnt xs : Nat))) ∧ OwnSl intO w2 v ys F ∧ (lstMk intMk).is k xs ys ∧ Chg F w w2 := by
  have hcn : (lstMk intMk).cnt xs = xs.length := intMk_sum xs
  rw [hcn] at hb ⊢
  obtain ⟨A, cap, rfl, hm⟩ := h.form
  go_enter Tryd.func46, Tryd.ntmps46
  go_wp2
  go_loopw [1, 5] (fun l i wr => ∃ (j : Nat) (ys : List Int), j ≤ xs.length ∧ i = .int .i64 j ∧ l = .int .i64 (k + j) ∧ OwnSl intO wr (.slice A xs.length cap) ys F ∧ Part intMk k xs ys j ∧ Chg F w wr) (fun _ i _ => xs.length - (intOf i).toNat)
  case atStart => exact ⟨0, xs, Nat.zero_le _, rfl, by simp, h, .zero _ _ _, .refl _ _⟩
  case round =>
    obtain ⟨j, ys, hj, rfl, rfl, ho, hp, hc⟩ := hrel
    by_cases hlt : j < xs.length
    · obtain ⟨hy, _⟩ := hp.at_ hlt
      obtain ⟨g, off, cap2, e, hg, hcell, hfr, hst⟩ := ho.int_store hN hy
      injection e with e1 e2 e3
      subst e1
      have hst2 := hst (k + j) (by unfold I64; omega)
      have HS := hid hst2
      clear hst hst2
      go_wp2
      go_roundw
      case rel =>
        refine ⟨j + 1, _, by omega, by go_num, by go_num, HS.out, hp.step hlt ?_, hc.setCell hg _⟩
        show _ = k + (intMk.sum (xs.take j) : Nat)
        rw [intMk_sum, List.length_take, Nat.min_eq_left (by omega)]
      case measure => simp [intOf]; omega
    · go_wp2
      go_ret
      exact ⟨ys, ret_int (by omega), ho, hp.all hlt, hc⟩

end Go.Proofs.YtgbcbmlikmjjkaaDoor
