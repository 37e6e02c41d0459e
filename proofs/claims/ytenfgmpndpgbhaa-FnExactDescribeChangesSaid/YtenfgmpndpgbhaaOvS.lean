/-
  WALKS: the reference's OverlapMatrix.
-/
import Derived.Test.YtenfgmpndpgbhaaCount
import Derived.Test.YtenfgmpndpgbhaaAppI
import Derived.Deep.RegionHeld3
namespace Go.Proofs.Ytenfgmpndpgbhaa
open Go.RowKit

theorem ovRow_mem (b : List (List Int)) (x : List Int) : (ovRow b x).length = b.length := by simp [ovRow]

set_option maxHeartbeats 400000 in
set_option maxRecDepth 20000 in
theorem spec_OverlapMatrix (v u : Value) (a b : List (List Int)) (w : World) (h : Sl (slR intR) w v a) (h2 : Sl (slR intR) w u b) :
    Calls Try.prog 26 #[v, u] w fun e w2 => ∃ v2 F, e = .returned v2 ∧ OwnSl (slO intO) w2 v2 (ovMat a b) F ∧ NewF w F ∧ Ext w w2 := by
  obtain ⟨A, cap, rfl, hm⟩ := h.form
  obtain ⟨B, cap2, rfl, hm2⟩ := h2.form
  by_cases hbig : 8 < a.length ∨ 8 < b.length
  · have hov : ovMat a b = [] := by unfold ovMat; rw [if_pos hbig]
    rw [hov]
    clear hov
    have hdone := (Bld.lit (R := slO intO) w (Nat.le_refl _) 23).done
    obtain ⟨F', d1, d2, d3⟩ := hdone
    have HD := hid d1
    clear d1
    by_cases ha : 8 < a.length
    · go_enter Try.func26, Try.ntmps26
      go_wp2
      go_ret
      first | exact ⟨_, F', rfl, HD.out, ⟨d2, d3⟩, (by repeat (first | with_reducible exact Ext.refl _ | with_reducible assumption | with_reducible refine Ext.drew ?_ | with_reducible refine Ext.alloc ?_ _ | with_reducible refine Ext.trans ?_ (by with_reducible assumption)))⟩ | exact ⟨_, rfl, F', HD.out, ⟨d2, d3⟩, (by repeat (first | with_reducible exact Ext.refl _ | with_reducible assumption | with_reducible refine Ext.drew ?_ | with_reducible refine Ext.alloc ?_ _ | with_reducible refine Ext.trans ?_ (by with_reducible assumption)))⟩
    · have hb : 8 < b.length := by omega
      go_enter Try.func26, Try.ntmps26
      go_wp2
      go_ret
      exact ⟨_, F', rfl, HD.out, ⟨d2, d3⟩, (by repeat (first | with_reducible exact Ext.refl _ | with_reducible assumption | with_reducible refine Ext.drew ?_ | with_reducible refine Ext.alloc ?_ _ | with_reducible refine Ext.trans ?_ (by with_reducible assumption)))⟩
  · have hov : ovMat a b = a.map (ovRow b) := by unfold ovMat; rw [if_neg hbig]
    rw [hov]
    clear hov
    have ha : ¬ 8 < a.length := by omega
    have hb : ¬ 8 < b.length := by omega
    clear hbig
    go_enter Try.func26, Try.ntmps26
    go_wp2
    go_loopw [5, 6] (fun t i wr => ∃ (k : Nat) (F : List Nat), k ≤ a.length ∧ i = .int .i64 k ∧ Bld (slO intO) wr w.heap.size 23 t ((a.take k).map (ovRow b)) F ∧ Ext w wr) (fun _ i _ => a.length - (intOf i).toNat)
    case atStart => exact ⟨0, [], Nat.zero_le _, rfl, by simpa using Bld.lit w (Nat.le_refl _) _, (Ext.refl _).alloc _⟩
    case round =>
      obtain ⟨k, F, hk, rfl, hB, hx⟩ := hrel
      by_cases hlt : k < a.length
      · obtain ⟨b1, off1, A1, cap1, rfl, hs1, hc1⟩ := h.sl hlt
        go_wp2
        obtain ⟨wo, hwo⟩ : ∃ wo : World, wo = wr := ⟨_, rfl⟩
        go_loopw [7, 8] (fun t i w3 => ∃ (j : Nat), j ≤ b.length ∧ i = .int .i64 j ∧ Bld intO w3 wo.heap.size 3 t (ovRow (b.take j) a[k]) [] ∧ Ext wo w3) (fun _ i _ => b.length - (intOf i).toNat)
        case atStart => exact ⟨0, Nat.zero_le _, rfl, by rw [hwo]; simpa [ovRow] using Bld.lit wr (Nat.le_refl _) _, by rw [hwo]; exact (Ext.refl _).alloc _⟩
        case round =>
          obtain ⟨j, hj, rfl, hB2, hx2⟩ := hrel
          rw [← hwo] at hB hx
          by_cases hltb : j < b.length
          · obtain ⟨b2, off2, A2, cap2', rfl, hs2, hc2⟩ := h2.sl hltb
            have hS : ∀ W, Ext w W → W.cell? ⟨b1, off1 + k, none⟩ = some (.slice A1 a[k].length cap1) ∧ W.cell? ⟨b2, off2 + j, none⟩ = some (.slice A2 b[j].length cap2') := fun W x => ⟨x.cell hc1, x.cell hc2⟩
            have HK := hid hS
            clear hS hc1 hc2
            have hst := ovRow_step b a[k] j hltb
            have HS := hid hst
            clear hst
            have hrl : (ovRow (b.take j) a[k]).length ≤ 8 := by rw [ovRow_len, List.length_take]; omega
            go_wp2_with fail
            go_region_held3 (fun w' => w'.cell? ⟨b1, off1 + k, none⟩ = some (.slice A1 a[k].length cap1) ∧ w'.cell? ⟨b2, off2 + j, none⟩ = some (.slice A2 b[j].length cap2'))
              (exact HK.out _ (by repeat (first | with_reducible exact Ext.refl _ | with_reducible assumption | with_reducible refine Ext.drew ?_ | with_reducible refine Ext.alloc ?_ _ | with_reducible refine Ext.trans ?_ (by with_reducible assumption))))
              (first | (go_at_call 70; refine (spec_l25Count _ _ a[k] b[j] _ ?ha ?hb).mono ?_; (case ha => exact hs1.mono (by repeat (first | with_reducible exact Ext.refl _ | with_reducible assumption | with_reducible refine Ext.drew ?_ | with_reducible refine Ext.alloc ?_ _ | with_reducible refine Ext.trans ?_ (by with_reducible assumption)))); (case hb => exact hs2.mono (by repeat (first | with_reducible exact Ext.refl _ | with_reducible assumption | with_reducible refine Ext.drew ?_ | with_reducible refine Ext.alloc ?_ _ | with_reducible refine Ext.trans ?_ (by with_reducible assumption)))); rintro e w5 ⟨rfl, rfl⟩) | (refine step_app1 elemInt (by decide) rfl _ _ rfl (hB2.ext (by repeat (first | with_reducible exact Ext.refl _ | with_reducible assumption | with_reducible refine Ext.drew ?_ | with_reducible refine Ext.alloc ?_ _ | with_reducible refine Ext.trans ?_ (by with_reducible assumption)))) rfl wr.heap.size 1 rfl (heap_alloc_new wr _) (one_int _) (own_int _ _ (by unfold I64; split <;> omega)) fresh_nil (by omega) (by decide) (Nat.le_trans hx2.size (Ext.size (by repeat (first | with_reducible exact Ext.refl _ | with_reducible assumption | with_reducible refine Ext.drew ?_ | with_reducible refine Ext.alloc ?_ _ | with_reducible refine Ext.trans ?_ (by with_reducible assumption))))) (w0 := wo) (Nat.le_refl _) (by repeat (first | with_reducible exact Ext.refl _ | with_reducible assumption | with_reducible refine Ext.drew ?_ | with_reducible refine Ext.alloc ?_ _ | with_reducible refine Ext.trans ?_ (by with_reducible assumption))) ?_; intro v2 w2 hB3 x9))
            go_wp2
            go_roundw
            case rel =>
              refine ⟨j + 1, by omega, by go_num, ?_, x9⟩
              rw [HS.out, show min (100 : Int) (cntIn a[k] b[j]) = if ((cntIn a[k] b[j] : Nat) : Int) < 100 then ((cntIn a[k] b[j] : Nat) : Int) else 100 by split <;> omega]
              exact hB3
            case measure => simp [intOf]; omega
          · rw [List.take_of_length_le (by omega)] at hB2
            obtain ⟨F1, ho, hn1, hn2⟩ := hB2.done
            have hn : NewF wo F1 := ⟨hn1, hn2⟩
            obtain ⟨A3, cap3, e3, _⟩ := ho.form
            rw [e3] at ho
            subst e3
            have hBx := hB.ext hx2
            have hG := hB.fresh hn hx.size
            have hlen : ((a.take k).map (ovRow b)).length ≤ 8 := by rw [List.length_map, List.length_take]; omega
            go_wp2_with (at_builtin; refine wpList_app1 elemInts (by decide) rfl _ _ rfl hBx rfl wr.heap.size 1 rfl rfl (one_slice _ _ _) (y := ovRow b a[k]) ⟨_, rfl, ho⟩ hG (by omega) (by decide) (Nat.le_trans hx.size hx2.size) ?_; intro v2 w2 hB3 hE3)
            go_roundw
            case rel => exact ⟨k + 1, _, by omega, by go_num, by rw [List.take_succ_eq_append_getElem hlt, List.map_append]; exact hB3, hE3 w (Nat.le_refl _) (hx.trans hx2)⟩
            case measure => simp [intOf]; omega
      · go_wp2
        go_ret
        rw [List.take_of_length_le (by omega)] at hB
        obtain ⟨F', d1, d2, d3⟩ := hB.done
        exact ⟨_, F', rfl, d1, ⟨d2, d3⟩, hx⟩
end Go.Proofs.Ytenfgmpndpgbhaa
