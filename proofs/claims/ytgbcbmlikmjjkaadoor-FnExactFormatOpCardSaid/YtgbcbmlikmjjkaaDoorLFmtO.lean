/-
  THE LAW'S WALK: FnExactFormatOp.
-/
import Derived.Test.YtgbcbmlikmjjkaaDoorFmtOS
import Derived.Deep.RegionHeld3
namespace Go.Proofs.YtgbcbmlikmjjkaaDoor
open Go.RowKit

set_option maxHeartbeats 400000 in
set_option maxRecDepth 20000 in
theorem law_FormatOp (v0 : Value) (o : Op) (w : World) (h0 : OpAt w v0 o) (T : Tab w) :
    Calls Tryd.prog 4 #[v0] w fun e w2 => e = .returned (.bool true) ∧ Ext w w2 := by
  have hne : ((fmtO o).toList != (fmtO o).toList) = false := by simp
  obtain ⟨s0_0, rfl, hI0, g0_0⟩ := h0
  go_enter Tryd.func4, Tryd.ntmps4
  go_wp2_with fail
  have xw : Ext w (w.alloc (.cells #[.int .i64 o.kind, .int .i64 o.record.source, .int .i64 o.record.key, .int .i64 o.record.version, s0_0, .int .i64 o.verdict.a, .int .i64 o.verdict.b, .bool o.verdict.same, .int .i64 o.verdict.time] 35)) := (by repeat (first | with_reducible exact Ext.refl _ | with_reducible assumption | with_reducible refine Ext.drew ?_ | with_reducible refine Ext.alloc ?_ _ | (refine Ext.setCell ?_ (by simp) _) | with_reducible refine Ext.trans ?_ (by with_reducible assumption)))
  have z0 : OpAt (w.alloc (.cells #[.int .i64 o.kind, .int .i64 o.record.source, .int .i64 o.record.key, .int .i64 o.record.version, s0_0, .int .i64 o.verdict.a, .int .i64 o.verdict.b, .bool o.verdict.same, .int .i64 o.verdict.time] 35)) (.agg #[.int .i64 o.kind, .int .i64 o.record.source, .int .i64 o.record.key, .int .i64 o.record.version, s0_0, .int .i64 o.verdict.a, .int .i64 o.verdict.b, .bool o.verdict.same, .int .i64 o.verdict.time]) o := ⟨_, rfl, hI0, g0_0.mono xw⟩
  have HB0 := hid (show ∀ W, Ext (w.alloc (.cells #[.int .i64 o.kind, .int .i64 o.record.source, .int .i64 o.record.key, .int .i64 o.record.version, s0_0, .int .i64 o.verdict.a, .int .i64 o.verdict.b, .bool o.verdict.same, .int .i64 o.verdict.time] 35)) W → W.cell? ⟨w.heap.size, 0, none⟩ = some (.int .i64 o.kind) ∧ W.cell? ⟨w.heap.size, 1, none⟩ = some (.int .i64 o.record.source) ∧ W.cell? ⟨w.heap.size, 2, none⟩ = some (.int .i64 o.record.key) ∧ W.cell? ⟨w.heap.size, 3, none⟩ = some (.int .i64 o.record.version) ∧ W.cell? ⟨w.heap.size, 4, none⟩ = some (s0_0) ∧ W.cell? ⟨w.heap.size, 5, none⟩ = some (.int .i64 o.verdict.a) ∧ W.cell? ⟨w.heap.size, 6, none⟩ = some (.int .i64 o.verdict.b) ∧ W.cell? ⟨w.heap.size, 7, none⟩ = some (.bool o.verdict.same) ∧ W.cell? ⟨w.heap.size, 8, none⟩ = some (.int .i64 o.verdict.time) from fun W y => ⟨y.box.1 0, y.box.1 1, y.box.1 2, y.box.1 3, y.box.1 4, y.box.1 5, y.box.1 6, y.box.1 7, y.box.1 8⟩)
  have hW := Ext.refl (w.alloc (.cells #[.int .i64 o.kind, .int .i64 o.record.source, .int .i64 o.record.key, .int .i64 o.record.version, s0_0, .int .i64 o.verdict.a, .int .i64 o.verdict.b, .bool o.verdict.same, .int .i64 o.verdict.time] 35))
  refine (szOp_c _ o _ _ (z0.mono hW) (by omega) (by omega)).mono ?_
  rintro e w1 ⟨rfl, x1⟩
  replace hW := hW.trans x1
  clear x1
  by_cases hs0 : 1048576 < (((msOp o) : Nat) : Int)
  · rw [szv_neg hs0]
    go_wp2
    go_ret
    exact ⟨rfl, xw.trans hW⟩
  · have hl0 := szv_nn hs0
    have hu0 := szv_le (n := (((msOp o) : Nat) : Int)) (left := 1048576) (by omega) (by omega)
    generalize szv (((msOp o) : Nat) : Int) 1048576 = L0 at hl0 hu0 ⊢
    have HS0 : msOp o ≤ 1048576 := by omega
    clear hs0
    replace HS0 : o.record.fields.length ≤ 1048576 := by unfold msOp at HS0; omega
    obtain ⟨c1_0, c1_1, c1_2, c1_3, c1_4, c1_5, c1_6, c1_7, c1_8⟩ := HB0.out _ hW
    go_wp2_with fail
    refine (toOp_c _ o _ (z0.mono hW) HS0).mono ?_
    rintro e w2 ⟨v2, F2, rfl, o2, n2, x2⟩
    replace hW := hW.trans x2
    clear x2
    go_wp2_with fail
    refine (spec_FormatOp _ o  _ o2.at_).mono ?_
    rintro e w3 ⟨rfl, x3⟩
    clear o2 n2
    replace hW := hW.trans x3
    clear x3
    clear c1_0 c1_1 c1_2 c1_3 c1_4 c1_5 c1_6 c1_7 c1_8
    obtain ⟨c2_0, c2_1, c2_2, c2_3, c2_4, c2_5, c2_6, c2_7, c2_8⟩ := HB0.out _ hW
    go_wp2_with fail
    refine (toOp_c _ o _ (z0.mono hW) HS0).mono ?_
    rintro e w4 ⟨v4, F4, rfl, o4, n4, x4⟩
    replace hW := hW.trans x4
    clear x4
    obtain ⟨a4_0, rfl, _, u4_0⟩ := o4
    obtain ⟨A4_0, cap4_0, e4_0, _⟩ := u4_0.form
    subst e4_0
    have HX0 := hid (show ∀ W, Ext (w4.alloc (.cells #[.int .i64 o.kind, .int .i64 o.record.source, .int .i64 o.record.key, .int .i64 o.record.version, .slice A4_0 o.record.fields.length cap4_0, .int .i64 o.verdict.a, .int .i64 o.verdict.b, .bool o.verdict.same, .int .i64 o.verdict.time] 41)) W → W.cell? ⟨w4.heap.size, 0, none⟩ = some (.int .i64 o.kind) ∧ W.cell? ⟨w4.heap.size, 1, none⟩ = some (.int .i64 o.record.source) ∧ W.cell? ⟨w4.heap.size, 2, none⟩ = some (.int .i64 o.record.key) ∧ W.cell? ⟨w4.heap.size, 3, none⟩ = some (.int .i64 o.record.version) ∧ W.cell? ⟨w4.heap.size, 4, none⟩ = some (.slice A4_0 o.record.fields.length cap4_0) ∧ W.cell? ⟨w4.heap.size, 5, none⟩ = some (.int .i64 o.verdict.a) ∧ W.cell? ⟨w4.heap.size, 6, none⟩ = some (.int .i64 o.verdict.b) ∧ W.cell? ⟨w4.heap.size, 7, none⟩ = some (.bool o.verdict.same) ∧ W.cell? ⟨w4.heap.size, 8, none⟩ = some (.int .i64 o.verdict.time) from fun W y => ⟨y.box.1 0, y.box.1 1, y.box.1 2, y.box.1 3, y.box.1 4, y.box.1 5, y.box.1 6, y.box.1 7, y.box.1 8⟩)
    have hb0 := Ext.refl (w4.alloc (.cells #[.int .i64 o.kind, .int .i64 o.record.source, .int .i64 o.record.key, .int .i64 o.record.version, .slice A4_0 o.record.fields.length cap4_0, .int .i64 o.verdict.a, .int .i64 o.verdict.b, .bool o.verdict.same, .int .i64 o.verdict.time] 41))
    have x5 : Ext w4 (w4.alloc (.cells #[.int .i64 o.kind, .int .i64 o.record.source, .int .i64 o.record.key, .int .i64 o.record.version, .slice A4_0 o.record.fields.length cap4_0, .int .i64 o.verdict.a, .int .i64 o.verdict.b, .bool o.verdict.same, .int .i64 o.verdict.time] 41)) := (Ext.refl _).alloc _
    replace hW := hW.trans x5
    replace u4_0 := u4_0.ext x5
    clear x5
    clear c2_0 c2_1 c2_2 c2_3 c2_4 c2_5 c2_6 c2_7 c2_8
    obtain ⟨c3_0, c3_1, c3_2, c3_3, c3_4, c3_5, c3_6, c3_7, c3_8⟩ := HX0.out _ hb0
    go_wp2_with fail
    refine (impl_FormatOp _ o  _ ⟨_, rfl, hI0, u4_0.sl⟩ (T.mono (xw.trans hW))).mono ?_
    rintro e w6 ⟨rfl, x6⟩
    replace hW := hW.trans x6
    replace u4_0 := u4_0.ext x6
    replace hb0 := hb0.trans x6
    clear x6
    clear c3_0 c3_1 c3_2 c3_3 c3_4 c3_5 c3_6 c3_7 c3_8
    have HK := hid (show ∀ W, Ext w6 W → (W.cell? ⟨w4.heap.size, 0, none⟩ = some (.int .i64 o.kind) ∧ W.cell? ⟨w4.heap.size, 1, none⟩ = some (.int .i64 o.record.source) ∧ W.cell? ⟨w4.heap.size, 2, none⟩ = some (.int .i64 o.record.key) ∧ W.cell? ⟨w4.heap.size, 3, none⟩ = some (.int .i64 o.record.version) ∧ W.cell? ⟨w4.heap.size, 4, none⟩ = some (.slice A4_0 o.record.fields.length cap4_0) ∧ W.cell? ⟨w4.heap.size, 5, none⟩ = some (.int .i64 o.verdict.a) ∧ W.cell? ⟨w4.heap.size, 6, none⟩ = some (.int .i64 o.verdict.b) ∧ W.cell? ⟨w4.heap.size, 7, none⟩ = some (.bool o.verdict.same) ∧ W.cell? ⟨w4.heap.size, 8, none⟩ = some (.int .i64 o.verdict.time)) ∧ (W.cell? ⟨w.heap.size, 0, none⟩ = some (.int .i64 o.kind) ∧ W.cell? ⟨w.heap.size, 1, none⟩ = some (.int .i64 o.record.source) ∧ W.cell? ⟨w.heap.size, 2, none⟩ = some (.int .i64 o.record.key) ∧ W.cell? ⟨w.heap.size, 3, none⟩ = some (.int .i64 o.record.version) ∧ W.cell? ⟨w.heap.size, 4, none⟩ = some (s0_0) ∧ W.cell? ⟨w.heap.size, 5, none⟩ = some (.int .i64 o.verdict.a) ∧ W.cell? ⟨w.heap.size, 6, none⟩ = some (.int .i64 o.verdict.b) ∧ W.cell? ⟨w.heap.size, 7, none⟩ = some (.bool o.verdict.same) ∧ W.cell? ⟨w.heap.size, 8, none⟩ = some (.int .i64 o.verdict.time)) from fun W y => ⟨HX0.out _ (hb0.trans y), HB0.out _ (hW.trans y)⟩)
    go_wp2_with fail
    go_region_held3 (fun w' => (w'.cell? ⟨w4.heap.size, 0, none⟩ = some (.int .i64 o.kind) ∧ w'.cell? ⟨w4.heap.size, 1, none⟩ = some (.int .i64 o.record.source) ∧ w'.cell? ⟨w4.heap.size, 2, none⟩ = some (.int .i64 o.record.key) ∧ w'.cell? ⟨w4.heap.size, 3, none⟩ = some (.int .i64 o.record.version) ∧ w'.cell? ⟨w4.heap.size, 4, none⟩ = some (.slice A4_0 o.record.fields.length cap4_0) ∧ w'.cell? ⟨w4.heap.size, 5, none⟩ = some (.int .i64 o.verdict.a) ∧ w'.cell? ⟨w4.heap.size, 6, none⟩ = some (.int .i64 o.verdict.b) ∧ w'.cell? ⟨w4.heap.size, 7, none⟩ = some (.bool o.verdict.same) ∧ w'.cell? ⟨w4.heap.size, 8, none⟩ = some (.int .i64 o.verdict.time)) ∧ (w'.cell? ⟨w.heap.size, 0, none⟩ = some (.int .i64 o.kind) ∧ w'.cell? ⟨w.heap.size, 1, none⟩ = some (.int .i64 o.record.source) ∧ w'.cell? ⟨w.heap.size, 2, none⟩ = some (.int .i64 o.record.key) ∧ w'.cell? ⟨w.heap.size, 3, none⟩ = some (.int .i64 o.record.version) ∧ w'.cell? ⟨w.heap.size, 4, none⟩ = some (s0_0) ∧ w'.cell? ⟨w.heap.size, 5, none⟩ = some (.int .i64 o.verdict.a) ∧ w'.cell? ⟨w.heap.size, 6, none⟩ = some (.int .i64 o.verdict.b) ∧ w'.cell? ⟨w.heap.size, 7, none⟩ = some (.bool o.verdict.same) ∧ w'.cell? ⟨w.heap.size, 8, none⟩ = some (.int .i64 o.verdict.time)))
      (exact HK.out _ (by repeat (first | with_reducible exact Ext.refl _ | with_reducible assumption | with_reducible refine Ext.drew ?_ | with_reducible refine Ext.alloc ?_ _ | with_reducible refine Ext.trans ?_ (by with_reducible assumption))))
      (first | (go_at_call 19; refine (toOp_c _ o _ ?hr HS0).mono ?_; (case hr => exact (z0.mono hW).mono (by repeat (first | with_reducible exact Ext.refl _ | with_reducible assumption | with_reducible refine Ext.drew ?_ | with_reducible refine Ext.alloc ?_ _ | with_reducible refine Ext.trans ?_ (by with_reducible assumption)))); rintro e wa ⟨va, Fa, rfl, oa, na, xa⟩) | (go_at_call 21; refine (eqOp_c _ _ o o _ ?ha ?hb).mono ?_; (case ha => exact ⟨_, rfl, hI0, (u4_0.ext (by repeat (first | with_reducible exact Ext.refl _ | with_reducible assumption | with_reducible refine Ext.drew ?_ | with_reducible refine Ext.alloc ?_ _ | with_reducible refine Ext.trans ?_ (by with_reducible assumption)))).sl⟩); (case hb => exact oa.at_); rintro e w7 ⟨rfl, xb⟩; rw [eqB_self]))
    have x7 : Ext w6 w7 := (by repeat (first | with_reducible exact Ext.refl _ | with_reducible assumption | with_reducible refine Ext.drew ?_ | with_reducible refine Ext.alloc ?_ _ | with_reducible refine Ext.trans ?_ (by with_reducible assumption)))
    clear xa xb oa na HK
    replace hW := hW.trans x7
    replace u4_0 := u4_0.ext x7
    replace hb0 := hb0.trans x7
    clear x7
    go_wp2
    go_ret
    exact ⟨rfl, xw.trans hW⟩
end Go.Proofs.YtgbcbmlikmjjkaaDoor

