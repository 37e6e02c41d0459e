/-
  THE LAW'S WALK: FnExactEqualBatches.
-/
import Derived.Test.YtbhhbdilaihegaaEqBat
import Derived.Deep.RegionHeld3
namespace Go.Proofs.Ytbhhbdilaihegaa
open Go.RowKit

set_option maxHeartbeats 400000 in
set_option maxRecDepth 20000 in
theorem law_EqualBatches (v0 : Value) (s : Batch) (v1 : Value) (t : Batch) (w : World) (h0 : BatAt w v0 s) (h1 : BatAt w v1 t) :
    Calls Try.prog 9 #[v0, v1] w fun e w2 => e = .returned (.bool true) ∧ Ext w w2 := by
  obtain ⟨s0_0, rfl, hI0, g0_0⟩ := h0
  obtain ⟨s1_0, rfl, hI1, g1_0⟩ := h1
  go_enter Try.func9, Try.ntmps9
  go_wp2_with fail
  have xw : Ext w ((w.alloc (.cells #[s0_0] 60)).alloc (.cells #[s1_0] 60)) := (by repeat (first | with_reducible exact Ext.refl _ | with_reducible assumption | with_reducible refine Ext.drew ?_ | with_reducible refine Ext.alloc ?_ _ | (refine Ext.setCell ?_ (by simp) _) | with_reducible refine Ext.trans ?_ (by with_reducible assumption)))
  have z0 : BatAt ((w.alloc (.cells #[s0_0] 60)).alloc (.cells #[s1_0] 60)) (.agg #[s0_0]) s := ⟨_, rfl, hI0, g0_0.mono xw⟩
  have z1 : BatAt ((w.alloc (.cells #[s0_0] 60)).alloc (.cells #[s1_0] 60)) (.agg #[s1_0]) t := ⟨_, rfl, hI1, g1_0.mono xw⟩
  have HB0 := hid (show ∀ W, Ext ((w.alloc (.cells #[s0_0] 60)).alloc (.cells #[s1_0] 60)) W → W.cell? ⟨w.heap.size, 0, none⟩ = some (s0_0) from fun W y => (((Ext.refl _).alloc _).trans y).box.1 0)
  have HB1 := hid (show ∀ W, Ext ((w.alloc (.cells #[s0_0] 60)).alloc (.cells #[s1_0] 60)) W → W.cell? ⟨w.heap.size + 1, 0, none⟩ = some (s1_0) from fun W y => y.box1.1 0)
  have hW := Ext.refl ((w.alloc (.cells #[s0_0] 60)).alloc (.cells #[s1_0] 60))
  refine (szBatch_c _ s _ _ (z0.mono hW) (by omega) (by omega)).mono ?_
  rintro e w1 ⟨rfl, x1⟩
  replace hW := hW.trans x1
  clear x1
  by_cases hs0 : 1048576 < (((msBat s) : Nat) : Int)
  · rw [szv_neg hs0]
    go_wp2
    go_ret
    exact ⟨rfl, xw.trans hW⟩
  · have hl0 := szv_nn hs0
    have hu0 := szv_le (n := (((msBat s) : Nat) : Int)) (left := 1048576) (by omega) (by omega)
    generalize szv (((msBat s) : Nat) : Int) 1048576 = L0 at hl0 hu0 ⊢
    have HS0 : msBat s ≤ 1048576 := by omega
    clear hs0
    have c1_0 := HB1.out _ hW
    go_wp2_with fail
    refine (szBatch_c _ t _ _ (z1.mono hW) (by omega) (by omega)).mono ?_
    rintro e w2 ⟨rfl, x2⟩
    replace hW := hW.trans x2
    clear x2
    by_cases hs1 : L0 < (((msBat t) : Nat) : Int)
    · rw [szv_neg hs1]
      go_wp2
      go_ret
      exact ⟨rfl, xw.trans hW⟩
    · have hl1 := szv_nn hs1
      have hu1 := szv_le (n := (((msBat t) : Nat) : Int)) (left := L0) (by omega) (by omega)
      generalize szv (((msBat t) : Nat) : Int) L0 = L1 at hl1 hu1 ⊢
      have HS1 : msBat t ≤ 1048576 := by omega
      clear hs1
      clear c1_0
      have HK := hid (show ∀ W, Ext w2 W → (W.cell? ⟨w.heap.size, 0, none⟩ = some (s0_0)) ∧ (W.cell? ⟨w.heap.size + 1, 0, none⟩ = some (s1_0)) from fun W y => ⟨HB0.out _ (hW.trans y), HB1.out _ (hW.trans y)⟩)
      go_wp2_with fail
      go_region_held3 (fun w' => (w'.cell? ⟨w.heap.size, 0, none⟩ = some (s0_0)) ∧ (w'.cell? ⟨w.heap.size + 1, 0, none⟩ = some (s1_0)))
        (exact HK.out _ (by repeat (first | with_reducible exact Ext.refl _ | with_reducible assumption | with_reducible refine Ext.drew ?_ | with_reducible refine Ext.alloc ?_ _ | with_reducible refine Ext.trans ?_ (by with_reducible assumption))))
        (first | (go_at_call 45; with_reducible refine (toBatch_c (.agg #[s0_0]) s _ ?hr HS0).mono ?_; (case hr => exact (z0.mono hW).mono (by repeat (first | with_reducible exact Ext.refl _ | with_reducible assumption | with_reducible refine Ext.drew ?_ | with_reducible refine Ext.alloc ?_ _ | with_reducible refine Ext.trans ?_ (by with_reducible assumption)))); rintro e wa ⟨va, Fa, rfl, oa, na, xa⟩) | (go_at_call 45; with_reducible refine (toBatch_c (.agg #[s1_0]) t _ ?hr HS1).mono ?_; (case hr => exact (z1.mono hW).mono (by repeat (first | with_reducible exact Ext.refl _ | with_reducible assumption | with_reducible refine Ext.drew ?_ | with_reducible refine Ext.alloc ?_ _ | with_reducible refine Ext.trans ?_ (by with_reducible assumption)))); rintro e wb ⟨vb, Fb, rfl, ob, nb, xb⟩) | (go_at_call 44; refine (spec_EqualBatches _ _ s t _ ?ha ?hb).mono ?_; (case ha => exact oa.at_.mono (by repeat (first | with_reducible exact Ext.refl _ | with_reducible assumption | with_reducible refine Ext.drew ?_ | with_reducible refine Ext.alloc ?_ _ | with_reducible refine Ext.trans ?_ (by with_reducible assumption)))); (case hb => exact ob.at_.mono (by repeat (first | with_reducible exact Ext.refl _ | with_reducible assumption | with_reducible refine Ext.drew ?_ | with_reducible refine Ext.alloc ?_ _ | with_reducible refine Ext.trans ?_ (by with_reducible assumption)))); rintro e w3 ⟨rfl, xc⟩))
      have x3 : Ext w2 w3 := (by repeat (first | with_reducible exact Ext.refl _ | with_reducible assumption | with_reducible refine Ext.drew ?_ | with_reducible refine Ext.alloc ?_ _ | with_reducible refine Ext.trans ?_ (by with_reducible assumption)))
      clear xa xb xc oa ob na nb HK
      replace hW := hW.trans x3
      clear x3
      have c2_0 := HB0.out _ hW
      go_wp2_with fail
      refine (toBatch_c _ s _ (z0.mono hW) HS0).mono ?_
      rintro e w4 ⟨v4, F4, rfl, o4, n4, x4⟩
      replace hW := hW.trans x4
      clear x4
      obtain ⟨a4_0, rfl, _, u4_0⟩ := o4
      obtain ⟨A4_0, cap4_0, e4_0, _⟩ := u4_0.form
      subst e4_0
      have HX0 := hid (show ∀ W, Ext (w4.alloc (.cells #[.slice A4_0 s.ops.length cap4_0] 65)) W → W.cell? ⟨w4.heap.size, 0, none⟩ = some (.slice A4_0 s.ops.length cap4_0) from fun W y => y.box.1 0)
      have hb0 := Ext.refl (w4.alloc (.cells #[.slice A4_0 s.ops.length cap4_0] 65))
      have x5 : Ext w4 (w4.alloc (.cells #[.slice A4_0 s.ops.length cap4_0] 65)) := (Ext.refl _).alloc _
      replace hW := hW.trans x5
      replace u4_0 := u4_0.ext x5
      clear x5
      clear c2_0
      have c3_0 := HB1.out _ hW
      go_wp2_with fail
      refine (toBatch_c _ t _ (z1.mono hW) HS1).mono ?_
      rintro e w6 ⟨v6, F6, rfl, o6, n6, x6⟩
      replace hW := hW.trans x6
      replace u4_0 := u4_0.ext x6
      replace hb0 := hb0.trans x6
      clear x6
      obtain ⟨a6_0, rfl, _, u6_0⟩ := o6
      obtain ⟨A6_0, cap6_0, e6_0, _⟩ := u6_0.form
      subst e6_0
      have HX1 := hid (show ∀ W, Ext (w6.alloc (.cells #[.slice A6_0 t.ops.length cap6_0] 65)) W → W.cell? ⟨w6.heap.size, 0, none⟩ = some (.slice A6_0 t.ops.length cap6_0) from fun W y => y.box.1 0)
      have hb1 := Ext.refl (w6.alloc (.cells #[.slice A6_0 t.ops.length cap6_0] 65))
      have x7 : Ext w6 (w6.alloc (.cells #[.slice A6_0 t.ops.length cap6_0] 65)) := (Ext.refl _).alloc _
      replace hW := hW.trans x7
      replace u4_0 := u4_0.ext x7
      replace u6_0 := u6_0.ext x7
      replace hb0 := hb0.trans x7
      clear x7
      clear c3_0
      have c4_0 := HX0.out _ hb0
      have c5_0 := HX1.out _ hb1
      go_wp2_with fail
      refine (impl_EqualBatches _ _ s t  _ ⟨_, rfl, hI0, u4_0.sl⟩ ⟨_, rfl, hI1, u6_0.sl⟩).mono ?_
      rintro e w8 ⟨rfl, x8⟩
      replace hW := hW.trans x8
      replace u4_0 := u4_0.ext x8
      replace u6_0 := u6_0.ext x8
      replace hb0 := hb0.trans x8
      replace hb1 := hb1.trans x8
      clear x8
      clear c4_0 c5_0
      have HK := hid (show ∀ W, Ext w8 W → (W.cell? ⟨w4.heap.size, 0, none⟩ = some (.slice A4_0 s.ops.length cap4_0)) ∧ (W.cell? ⟨w.heap.size, 0, none⟩ = some (s0_0)) from fun W y => ⟨HX0.out _ (hb0.trans y), HB0.out _ (hW.trans y)⟩)
      go_wp2_with fail
      go_region_held3 (fun w' => (w'.cell? ⟨w4.heap.size, 0, none⟩ = some (.slice A4_0 s.ops.length cap4_0)) ∧ (w'.cell? ⟨w.heap.size, 0, none⟩ = some (s0_0)))
        (exact HK.out _ (by repeat (first | with_reducible exact Ext.refl _ | with_reducible assumption | with_reducible refine Ext.drew ?_ | with_reducible refine Ext.alloc ?_ _ | with_reducible refine Ext.trans ?_ (by with_reducible assumption))))
        (first | (go_at_call 45; refine (toBatch_c _ s _ ?hr HS0).mono ?_; (case hr => exact (z0.mono hW).mono (by repeat (first | with_reducible exact Ext.refl _ | with_reducible assumption | with_reducible refine Ext.drew ?_ | with_reducible refine Ext.alloc ?_ _ | with_reducible refine Ext.trans ?_ (by with_reducible assumption)))); rintro e wa ⟨va, Fa, rfl, oa, na, xa⟩) | (go_at_call 47; refine (eqBatch_c _ _ s s _ ?ha ?hb).mono ?_; (case ha => exact ⟨_, rfl, hI0, (u4_0.ext (by repeat (first | with_reducible exact Ext.refl _ | with_reducible assumption | with_reducible refine Ext.drew ?_ | with_reducible refine Ext.alloc ?_ _ | with_reducible refine Ext.trans ?_ (by with_reducible assumption)))).sl⟩); (case hb => exact oa.at_); rintro e w9 ⟨rfl, xb⟩; rw [eqB_self]))
      have x9 : Ext w8 w9 := (by repeat (first | with_reducible exact Ext.refl _ | with_reducible assumption | with_reducible refine Ext.drew ?_ | with_reducible refine Ext.alloc ?_ _ | with_reducible refine Ext.trans ?_ (by with_reducible assumption)))
      clear xa xb oa na HK
      replace hW := hW.trans x9
      replace u4_0 := u4_0.ext x9
      replace u6_0 := u6_0.ext x9
      replace hb0 := hb0.trans x9
      replace hb1 := hb1.trans x9
      clear x9
      have HK := hid (show ∀ W, Ext w9 W → (W.cell? ⟨w6.heap.size, 0, none⟩ = some (.slice A6_0 t.ops.length cap6_0)) ∧ (W.cell? ⟨w.heap.size + 1, 0, none⟩ = some (s1_0)) from fun W y => ⟨HX1.out _ (hb1.trans y), HB1.out _ (hW.trans y)⟩)
      go_wp2_with fail
      go_region_held3 (fun w' => (w'.cell? ⟨w6.heap.size, 0, none⟩ = some (.slice A6_0 t.ops.length cap6_0)) ∧ (w'.cell? ⟨w.heap.size + 1, 0, none⟩ = some (s1_0)))
        (exact HK.out _ (by repeat (first | with_reducible exact Ext.refl _ | with_reducible assumption | with_reducible refine Ext.drew ?_ | with_reducible refine Ext.alloc ?_ _ | with_reducible refine Ext.trans ?_ (by with_reducible assumption))))
        (first | (go_at_call 45; refine (toBatch_c _ t _ ?hr HS1).mono ?_; (case hr => exact (z1.mono hW).mono (by repeat (first | with_reducible exact Ext.refl _ | with_reducible assumption | with_reducible refine Ext.drew ?_ | with_reducible refine Ext.alloc ?_ _ | with_reducible refine Ext.trans ?_ (by with_reducible assumption)))); rintro e wa ⟨va, Fa, rfl, oa, na, xa⟩) | (go_at_call 47; refine (eqBatch_c _ _ t t _ ?ha ?hb).mono ?_; (case ha => exact ⟨_, rfl, hI1, (u6_0.ext (by repeat (first | with_reducible exact Ext.refl _ | with_reducible assumption | with_reducible refine Ext.drew ?_ | with_reducible refine Ext.alloc ?_ _ | with_reducible refine Ext.trans ?_ (by with_reducible assumption)))).sl⟩); (case hb => exact oa.at_); rintro e w10 ⟨rfl, xb⟩; rw [eqB_self]))
      have x10 : Ext w9 w10 := (by repeat (first | with_reducible exact Ext.refl _ | with_reducible assumption | with_reducible refine Ext.drew ?_ | with_reducible refine Ext.alloc ?_ _ | with_reducible refine Ext.trans ?_ (by with_reducible assumption)))
      clear xa xb oa na HK
      replace hW := hW.trans x10
      replace u4_0 := u4_0.ext x10
      replace u6_0 := u6_0.ext x10
      replace hb0 := hb0.trans x10
      replace hb1 := hb1.trans x10
      clear x10
      go_wp2
      go_ret
      exact ⟨rfl, xw.trans hW⟩
end Go.Proofs.Ytbhhbdilaihegaa

