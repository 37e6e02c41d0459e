/-
  WALKS: the laws' markIntSS, heldIntSS.
-/
import Derived.Test.YtenfgmpndpgbhaaMark
import Derived.Test.YtenfgmpndpgbhaaIntss
namespace Go.Proofs.Ytenfgmpndpgbhaa
open Go.RowKit

set_option maxHeartbeats 400000 in
theorem markIntSS_c (v : Value) (xs : List (List Int)) (F : List Nat) (k : Int) (w : World) (h : OwnSl (slO intO) w v xs F) (hN : F.Nodup) (h0 : 0 ≤ k) (hb : k + (lstMk (lstMk intMk)).cnt xs ≤ 1152921504606846976) :
    Calls Try.prog 28 #[v, .int .i64 k] w fun e w2 => ∃ ys, e = .returned (.int .i64 (k + ((lstMk (lstMk intMk)).cnt xs : Nat))) ∧ OwnSl (slO intO) w2 v ys F ∧ (lstMk (lstMk intMk)).is k xs ys ∧ Chg F w w2 := by
  have hcn : (lstMk (lstMk intMk)).cnt xs = (lstMk intMk).sum xs := rfl
  rw [hcn] at hb ⊢
  obtain ⟨A, cap, rfl, hm⟩ := h.form
  go_enter Try.func28, Try.ntmps28
  go_wp2
  go_loopw [1, 5] (fun l i wr => ∃ (j : Nat) (ys : List (List Int)), j ≤ xs.length ∧ i = .int .i64 j ∧ l = .int .i64 (k + ((lstMk intMk).sum (xs.take j) : Nat)) ∧ OwnSl (slO intO) wr (.slice A xs.length cap) ys F ∧ Part (lstMk intMk) k xs ys j ∧ Chg F w wr) (fun _ i _ => xs.length - (intOf i).toNat)
  case atStart => exact ⟨0, xs, Nat.zero_le _, rfl, by simp [Mk.sum], h, .zero _ _ _, .refl _ _⟩
  case round =>
    obtain ⟨j, ys, hj, rfl, rfl, ho, hp, hc⟩ := hrel
    by_cases hlt : j < xs.length
    · obtain ⟨hy, hyx⟩ := hp.at_ hlt
      obtain ⟨g, off, cap2, c, F1, e, hg, hsub, hng, hN1, ⟨u, rfl, hu⟩, _, hcell, hfr, hin, _⟩ := ho.elem hN hy
      injection e with e1 e2 e3
      subst e1
      clear e2 e3
      have h1 : (slO intO).n = 1 := rfl
      have hc0 : wr.cell? ⟨g, off + j, none⟩ = some u := by simpa [h1] using hcell 0 (by omega)
      rw [hyx] at hu
      obtain ⟨A3, cap3, e3, _⟩ := hu.form
      subst e3
      have hst := (lstMk intMk).sum_step xs j hlt
      have hsa := (lstMk intMk).sum_at xs j hlt
      have HI := hid hin
      clear hin hcell hyx
      go_wp2_with fail
      refine (markIntS_c _ xs[j] F1 _ _ hu hN1 (by omega) (by omega)).mono ?_
      rintro e w2 ⟨zs, rfl, hz, hzi, hzc⟩
      have hst2 : k + (((lstMk intMk).sum (xs.take j) : Nat) : Int) + (((lstMk intMk).cnt xs[j] : Nat) : Int) = k + (((lstMk intMk).sum (xs.take (j + 1)) : Nat) : Int) := by omega
      rw [hst2]
      clear hst hst2 hsa
      go_wp2
      go_roundw
      case rel => exact ⟨j + 1, _, by omega, by go_num, rfl, HI.out w2 zs (fun b hb hn => hzc.block b (ho.lt b hb) hn) ⟨_, rfl, hz⟩, hp.step hlt hzi, hc.trans (hzc.mono hsub)⟩
      case measure => simp [intOf]; omega
    · go_wp2
      go_ret
      exact ⟨ys, ret_int (by rw [Mk.sum_all _ _ _ hlt]), ho, hp.all hlt, hc⟩

set_option maxHeartbeats 400000 in
theorem heldIntSS_c (v : Value) (xs ys : List (List Int)) (k : Int) (w : World) (h : Sl (slR intR) w v ys) (hi : (lstMk (lstMk intMk)).is k xs ys) (h0 : 0 ≤ k) (hb : k + (lstMk (lstMk intMk)).cnt xs ≤ 1152921504606846976) :
    Calls Try.prog 29 #[v, .int .i64 k] w fun e w2 => e = .returned (.int .i64 (k + ((lstMk (lstMk intMk)).cnt xs : Nat))) ∧ w = w2 := by
  have hcn : (lstMk (lstMk intMk)).cnt xs = (lstMk intMk).sum xs := rfl
  rw [hcn] at hb ⊢
  have HL := hid hi.1
  obtain ⟨A, cap, rfl, hm⟩ := h.form
  go_enter Try.func29, Try.ntmps29
  go_wp2
  go_loop [1, 5] (fun l i => ∃ j : Nat, j ≤ ys.length ∧ i = .int .i64 j ∧ l = .int .i64 (k + ((lstMk intMk).sum (xs.take j) : Nat))) (fun _ i => ys.length - (intOf i).toNat)
  case atStart => exact ⟨0, Nat.zero_le _, rfl, by simp [Mk.sum]⟩
  case round =>
    obtain ⟨j, hj, rfl, rfl⟩ := hrel
    by_cases hlt : j < ys.length
    · obtain ⟨b, off, A2, cap2, rfl, hsl, hc⟩ := h.sl hlt
      have hlx : j < xs.length := by have := HL.out; omega
      have hst := (lstMk intMk).sum_step xs j hlx
      have hsa := (lstMk intMk).sum_at xs j hlx
      go_wp2_with fail
      refine (heldIntS_c _ xs[j] ys[j] _ _ hsl (hi.2 j hlx hlt) (by omega) (by omega)).mono ?_
      rintro e w2 ⟨rfl, rfl⟩
      have hst2 : k + (((lstMk intMk).sum (xs.take j) : Nat) : Int) + (((lstMk intMk).cnt xs[j] : Nat) : Int) = k + (((lstMk intMk).sum (xs.take (j + 1)) : Nat) : Int) := by omega
      rw [hst2]
      have hnn : 0 ≤ k + (((lstMk intMk).sum (xs.take (j + 1)) : Nat) : Int) := by omega
      clear hst hst2 hsa
      go_wp2
      go_round
      case rel => exact ⟨j + 1, by omega, by go_num, rfl⟩
      case measure => simp [intOf]; omega
    · go_wp2
      go_ret
      exact ⟨ret_int (by rw [Mk.sum_all _ _ _ (by have := HL.out; omega)]), rfl⟩
end Go.Proofs.Ytenfgmpndpgbhaa
