/-
  THE LAW'S WALK: FnExactEncodeEntry.
-/
import Derived.Test.YtfieimmlcopbhaaDoorEnc
import Derived.Deep.RegionHeld3
namespace Go.Proofs.YtfieimmlcopbhaaDoor
open Go.RowKit

set_option maxHeartbeats 400000 in
set_option maxRecDepth 20000 in
theorem law_EncodeEntry (n : Int) (v1 : Value) (b : Batch) (w : World) (h0 : I64 n) (h1 : BatAt w v1 b) (T : Tab w) :
    Calls Tryd.prog 4 #[.int .i64 n, v1] w fun e w2 => e = .returned (.bool true) ∧ Ext w w2 := by
  have hne : ((encE n b).toList != (encE n b).toList) = false := by simp
  obtain ⟨s1_0, rfl, hI1, g1_0⟩ := h1
  go_enter Tryd.func4, Tryd.ntmps4
  go_wp2_with fail
  have xw : Ext w (w.alloc (.cells #[s1_0] 24)) := (by repeat (first | with_reducible exact Ext.refl _ | with_reducible assumption | with_reducible refine Ext.drew ?_ | with_reducible refine Ext.alloc ?_ _ | (refine Ext.setCell ?_ (by simp) _) | with_reducible refine Ext.trans ?_ (by with_reducible assumption)))
  have z1 : BatAt (w.alloc (.cells #[s1_0] 24)) (.agg #[s1_0]) b := ⟨_, rfl, hI1, g1_0.mono xw⟩
  have HB1 := hid (show ∀ W, Ext (w.alloc (.cells #[s1_0] 24)) W → W.cell? ⟨w.heap.size, 0, none⟩ = some (s1_0) from fun W y => y.box.1 0)
  have hW := Ext.refl (w.alloc (.cells #[s1_0] 24))
  refine (szBatch_c _ b _ _ (z1.mono hW) (by omega) (by omega)).mono ?_
  rintro e w1 ⟨rfl, x1⟩
  replace hW := hW.trans x1
  clear x1
  by_cases hs1 : 1048576 < (((msBat b) : Nat) : Int)
  · rw [szv_neg hs1]
    go_wp2
    go_ret
    exact ⟨rfl, xw.trans hW⟩
  · have hl1 := szv_nn hs1
    have hu1 := szv_le (n := (((msBat b) : Nat) : Int)) (left := 1048576) (by omega) (by omega)
    generalize szv (((msBat b) : Nat) : Int) 1048576 = L1 at hl1 hu1 ⊢
    have HS1 : msBat b ≤ 1048576 := by omega
    clear hs1
    have c1_0 := HB1.out _ hW
    go_wp2_with fail
    refine (toBatch_c _ b _ (z1.mono hW) HS1).mono ?_
    rintro e w2 ⟨v2, F2, rfl, o2, n2, x2⟩
    replace hW := hW.trans x2
    clear x2
    go_wp2_with fail
    refine (spec_EncodeEntryL _ b n _ h0 o2.at_).mono ?_
    rintro e w3 ⟨rfl, x3⟩
    clear o2 n2
    replace hW := hW.trans x3
    clear x3
    clear c1_0
    have c2_0 := HB1.out _ hW
    go_wp2_with fail
    refine (toBatch_c _ b _ (z1.mono hW) HS1).mono ?_
    rintro e w4 ⟨v4, F4, rfl, o4, n4, x4⟩
    replace hW := hW.trans x4
    clear x4
    obtain ⟨a4_0, rfl, _, u4_0⟩ := o4
    obtain ⟨A4_0, cap4_0, e4_0, _⟩ := u4_0.form
    subst e4_0
    have HX1 := hid (show ∀ W, Ext (w4.alloc (.cells #[.slice A4_0 b.ops.length cap4_0] 29)) W → W.cell? ⟨w4.heap.size, 0, none⟩ = some (.slice A4_0 b.ops.length cap4_0) from fun W y => y.box.1 0)
    have hb1 := Ext.refl (w4.alloc (.cells #[.slice A4_0 b.ops.length cap4_0] 29))
    have x5 : Ext w4 (w4.alloc (.cells #[.slice A4_0 b.ops.length cap4_0] 29)) := (Ext.refl _).alloc _
    replace hW := hW.trans x5
    replace u4_0 := u4_0.ext x5
    clear x5
    clear c2_0
    have c3_0 := HX1.out _ hb1
    go_wp2_with fail
    refine (impl_EncodeEntryL _ b n _ h0 ⟨_, rfl, hI1, u4_0.sl⟩ (T.mono (xw.trans hW))).mono ?_
    rintro e w6 ⟨rfl, x6⟩
    replace hW := hW.trans x6
    replace u4_0 := u4_0.ext x6
    replace hb1 := hb1.trans x6
    clear x6
    clear c3_0
    have HK := hid (show ∀ W, Ext w6 W → (W.cell? ⟨w4.heap.size, 0, none⟩ = some (.slice A4_0 b.ops.length cap4_0)) ∧ (W.cell? ⟨w.heap.size, 0, none⟩ = some (s1_0)) from fun W y => ⟨HX1.out _ (hb1.trans y), HB1.out _ (hW.trans y)⟩)
    go_wp2_with fail
    go_region_held3 (fun w' => (w'.cell? ⟨w4.heap.size, 0, none⟩ = some (.slice A4_0 b.ops.length cap4_0)) ∧ (w'.cell? ⟨w.heap.size, 0, none⟩ = some (s1_0)))
      (exact HK.out _ (by repeat (first | with_reducible exact Ext.refl _ | with_reducible assumption | with_reducible refine Ext.drew ?_ | with_reducible refine Ext.alloc ?_ _ | with_reducible refine Ext.trans ?_ (by with_reducible assumption))))
      (first | (go_at_call 9; refine (toBatch_c _ b _ ?hr HS1).mono ?_; (case hr => exact (z1.mono hW).mono (by repeat (first | with_reducible exact Ext.refl _ | with_reducible assumption | with_reducible refine Ext.drew ?_ | with_reducible refine Ext.alloc ?_ _ | with_reducible refine Ext.trans ?_ (by with_reducible assumption)))); rintro e wa ⟨va, Fa, rfl, oa, na, xa⟩) | (go_at_call 11; refine (eqBatch_c _ _ b b _ ?ha ?hb).mono ?_; (case ha => exact ⟨_, rfl, hI1, (u4_0.ext (by repeat (first | with_reducible exact Ext.refl _ | with_reducible assumption | with_reducible refine Ext.drew ?_ | with_reducible refine Ext.alloc ?_ _ | with_reducible refine Ext.trans ?_ (by with_reducible assumption)))).sl⟩); (case hb => exact oa.at_); rintro e w7 ⟨rfl, xb⟩; rw [eqB_self]))
    have x7 : Ext w6 w7 := (by repeat (first | with_reducible exact Ext.refl _ | with_reducible assumption | with_reducible refine Ext.drew ?_ | with_reducible refine Ext.alloc ?_ _ | with_reducible refine Ext.trans ?_ (by with_reducible assumption)))
    clear xa xb oa na HK
    replace hW := hW.trans x7
    replace u4_0 := u4_0.ext x7
    replace hb1 := hb1.trans x7
    clear x7
    go_wp2
    go_ret
    exact ⟨rfl, xw.trans hW⟩
end Go.Proofs.YtfieimmlcopbhaaDoor

