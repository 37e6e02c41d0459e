/-
  THE LAW'S WALK: FnExactIsValidStore.
-/
import Derived.Test.YtbhhbdilaihegaaVSto
import Derived.Deep.RegionHeld3
namespace Go.Proofs.Ytbhhbdilaihegaa
open Go.RowKit

set_option maxHeartbeats 400000 in
set_option maxRecDepth 20000 in
theorem law_IsValidStore (v0 : Value) (s : Store) (w : World) (h0 : StoAt w v0 s) :
    Calls Try.prog 13 #[v0] w fun e w2 => e = .returned (.bool true) ∧ Ext w w2 := by
  obtain ⟨s0_0, s0_1, rfl, hI0, g0_0, g0_1⟩ := h0
  go_enter Try.func13, Try.ntmps13
  go_wp2_with fail
  have xw : Ext w (w.alloc (.cells #[.int .i64 s.version, s0_0, s0_1] 49)) := (by repeat (first | with_reducible exact Ext.refl _ | with_reducible assumption | with_reducible refine Ext.drew ?_ | with_reducible refine Ext.alloc ?_ _ | (refine Ext.setCell ?_ (by simp) _) | with_reducible refine Ext.trans ?_ (by with_reducible assumption)))
  have z0 : StoAt (w.alloc (.cells #[.int .i64 s.version, s0_0, s0_1] 49)) (.agg #[.int .i64 s.version, s0_0, s0_1]) s := ⟨_, _, rfl, hI0, g0_0.mono xw, g0_1.mono xw⟩
  have HB0 := hid (show ∀ W, Ext (w.alloc (.cells #[.int .i64 s.version, s0_0, s0_1] 49)) W → W.cell? ⟨w.heap.size, 0, none⟩ = some (.int .i64 s.version) ∧ W.cell? ⟨w.heap.size, 1, none⟩ = some (s0_0) ∧ W.cell? ⟨w.heap.size, 2, none⟩ = some (s0_1) from fun W y => ⟨y.box.1 0, y.box.1 1, y.box.1 2⟩)
  have hW := Ext.refl (w.alloc (.cells #[.int .i64 s.version, s0_0, s0_1] 49))
  refine (szStore_c _ s _ _ (z0.mono hW) (by omega) (by omega)).mono ?_
  rintro e w1 ⟨rfl, x1⟩
  replace hW := hW.trans x1
  clear x1
  by_cases hs0 : 1048576 < (((msSto s) : Nat) : Int)
  · rw [szv_neg hs0]
    go_wp2
    go_ret
    exact ⟨rfl, xw.trans hW⟩
  · have hl0 := szv_nn hs0
    have hu0 := szv_le (n := (((msSto s) : Nat) : Int)) (left := 1048576) (by omega) (by omega)
    generalize szv (((msSto s) : Nat) : Int) 1048576 = L0 at hl0 hu0 ⊢
    have HS0 : msSto s ≤ 1048576 := by omega
    clear hs0
    obtain ⟨c1_0, c1_1, c1_2⟩ := HB0.out _ hW
    go_wp2_with fail
    refine (toStore_c _ s _ (z0.mono hW) HS0).mono ?_
    rintro e w2 ⟨v2, F2, rfl, o2, n2, x2⟩
    replace hW := hW.trans x2
    clear x2
    go_wp2_with fail
    refine (spec_IsValidStore _ s  _ o2.at_).mono ?_
    rintro e w3 ⟨rfl, x3⟩
    clear o2 n2
    replace hW := hW.trans x3
    clear x3
    clear c1_0 c1_1 c1_2
    obtain ⟨c2_0, c2_1, c2_2⟩ := HB0.out _ hW
    go_wp2_with fail
    refine (toStore_c _ s _ (z0.mono hW) HS0).mono ?_
    rintro e w4 ⟨v4, F4, rfl, o4, n4, x4⟩
    replace hW := hW.trans x4
    clear x4
    obtain ⟨a4_0, a4_1, P4_0, P4_1, rfl, _, u4_0, u4_1, _⟩ := o4
    obtain ⟨A4_0, cap4_0, e4_0, _⟩ := u4_0.form
    subst e4_0
    obtain ⟨A4_1, cap4_1, e4_1, _⟩ := u4_1.form
    subst e4_1
    have HX0 := hid (show ∀ W, Ext (w4.alloc (.cells #[.int .i64 s.version, .slice A4_0 s.records.length cap4_0, .slice A4_1 s.verdicts.length cap4_1] 54)) W → W.cell? ⟨w4.heap.size, 0, none⟩ = some (.int .i64 s.version) ∧ W.cell? ⟨w4.heap.size, 1, none⟩ = some (.slice A4_0 s.records.length cap4_0) ∧ W.cell? ⟨w4.heap.size, 2, none⟩ = some (.slice A4_1 s.verdicts.length cap4_1) from fun W y => ⟨y.box.1 0, y.box.1 1, y.box.1 2⟩)
    have hb0 := Ext.refl (w4.alloc (.cells #[.int .i64 s.version, .slice A4_0 s.records.length cap4_0, .slice A4_1 s.verdicts.length cap4_1] 54))
    have x5 : Ext w4 (w4.alloc (.cells #[.int .i64 s.version, .slice A4_0 s.records.length cap4_0, .slice A4_1 s.verdicts.length cap4_1] 54)) := (Ext.refl _).alloc _
    replace hW := hW.trans x5
    replace u4_0 := u4_0.ext x5
    replace u4_1 := u4_1.ext x5
    clear x5
    clear c2_0 c2_1 c2_2
    obtain ⟨c3_0, c3_1, c3_2⟩ := HX0.out _ hb0
    go_wp2_with fail
    refine (impl_IsValidStore _ s  _ ⟨_, _, rfl, hI0, u4_0.sl, u4_1.sl⟩).mono ?_
    rintro e w6 ⟨rfl, x6⟩
    replace hW := hW.trans x6
    replace u4_0 := u4_0.ext x6
    replace u4_1 := u4_1.ext x6
    replace hb0 := hb0.trans x6
    clear x6
    clear c3_0 c3_1 c3_2
    have HK := hid (show ∀ W, Ext w6 W → (W.cell? ⟨w4.heap.size, 0, none⟩ = some (.int .i64 s.version) ∧ W.cell? ⟨w4.heap.size, 1, none⟩ = some (.slice A4_0 s.records.length cap4_0) ∧ W.cell? ⟨w4.heap.size, 2, none⟩ = some (.slice A4_1 s.verdicts.length cap4_1)) ∧ (W.cell? ⟨w.heap.size, 0, none⟩ = some (.int .i64 s.version) ∧ W.cell? ⟨w.heap.size, 1, none⟩ = some (s0_0) ∧ W.cell? ⟨w.heap.size, 2, none⟩ = some (s0_1)) from fun W y => ⟨HX0.out _ (hb0.trans y), HB0.out _ (hW.trans y)⟩)
    go_wp2_with fail
    go_region_held3 (fun w' => (w'.cell? ⟨w4.heap.size, 0, none⟩ = some (.int .i64 s.version) ∧ w'.cell? ⟨w4.heap.size, 1, none⟩ = some (.slice A4_0 s.records.length cap4_0) ∧ w'.cell? ⟨w4.heap.size, 2, none⟩ = some (.slice A4_1 s.verdicts.length cap4_1)) ∧ (w'.cell? ⟨w.heap.size, 0, none⟩ = some (.int .i64 s.version) ∧ w'.cell? ⟨w.heap.size, 1, none⟩ = some (s0_0) ∧ w'.cell? ⟨w.heap.size, 2, none⟩ = some (s0_1)))
      (exact HK.out _ (by repeat (first | with_reducible exact Ext.refl _ | with_reducible assumption | with_reducible refine Ext.drew ?_ | with_reducible refine Ext.alloc ?_ _ | with_reducible refine Ext.trans ?_ (by with_reducible assumption))))
      (first | (go_at_call 40; refine (toStore_c _ s _ ?hr HS0).mono ?_; (case hr => exact (z0.mono hW).mono (by repeat (first | with_reducible exact Ext.refl _ | with_reducible assumption | with_reducible refine Ext.drew ?_ | with_reducible refine Ext.alloc ?_ _ | with_reducible refine Ext.trans ?_ (by with_reducible assumption)))); rintro e wa ⟨va, Fa, rfl, oa, na, xa⟩) | (go_at_call 42; refine (eqStore_c _ _ s s _ ?ha ?hb).mono ?_; (case ha => exact ⟨_, _, rfl, hI0, (u4_0.ext (by repeat (first | with_reducible exact Ext.refl _ | with_reducible assumption | with_reducible refine Ext.drew ?_ | with_reducible refine Ext.alloc ?_ _ | with_reducible refine Ext.trans ?_ (by with_reducible assumption)))).sl, (u4_1.ext (by repeat (first | with_reducible exact Ext.refl _ | with_reducible assumption | with_reducible refine Ext.drew ?_ | with_reducible refine Ext.alloc ?_ _ | with_reducible refine Ext.trans ?_ (by with_reducible assumption)))).sl⟩); (case hb => exact oa.at_); rintro e w7 ⟨rfl, xb⟩; rw [eqB_self]))
    have x7 : Ext w6 w7 := (by repeat (first | with_reducible exact Ext.refl _ | with_reducible assumption | with_reducible refine Ext.drew ?_ | with_reducible refine Ext.alloc ?_ _ | with_reducible refine Ext.trans ?_ (by with_reducible assumption)))
    clear xa xb oa na HK
    replace hW := hW.trans x7
    replace u4_0 := u4_0.ext x7
    replace u4_1 := u4_1.ext x7
    replace hb0 := hb0.trans x7
    clear x7
    go_wp2
    go_ret
    exact ⟨rfl, xw.trans hW⟩
end Go.Proofs.Ytbhhbdilaihegaa

