/-
  THE LAW'S WALK: FnExactGoldenField.
-/
import Derived.Test.YtgbcbmlikmjjkaaDoorGolG
namespace Go.Proofs.YtgbcbmlikmjjkaaDoor
open Go.RowKit


set_option maxHeartbeats 400000 in
theorem law_GoldenField (v0 : Value) (x : List Record) (f : Int) (r : Int) (w : World) (h0 : Sl recordR w v0 x) (h1 : I64 f) (h2 : I64 r) (M : ML w) :
    Calls Tryd.prog 10 #[v0, .int .i64 f, .int .i64 r] w fun e w2 => e = .returned (.bool true) ∧ Ext w w2 := by
  go_enter Tryd.func10, Tryd.ntmps10
  go_wp2_with fail
  refine (szRecordS_c _ x _ _ (h0.mono (by repeat (first | with_reducible exact Ext.refl _ | with_reducible assumption | with_reducible refine Ext.drew ?_ | with_reducible refine Ext.alloc ?_ _ | with_reducible refine Ext.trans ?_ (by with_reducible assumption)))) (by omega) (by omega)).mono ?_
  rintro e w1 ⟨rfl, x1⟩
  by_cases hs0 : 1048576 < (((x.length + sumBy msRec x) : Nat) : Int)
  · rw [szv_neg hs0]
    go_wp2
    go_ret
    exact ⟨rfl, (by repeat (first | with_reducible exact Ext.refl _ | with_reducible assumption | with_reducible refine Ext.drew ?_ | with_reducible refine Ext.alloc ?_ _ | with_reducible refine Ext.trans ?_ (by with_reducible assumption)))⟩
  · have hl0 := szv_nn hs0
    have hu0 := szv_le (n := (((x.length + sumBy msRec x) : Nat) : Int)) (left := 1048576) (by omega) (by omega)
    generalize szv (((x.length + sumBy msRec x) : Nat) : Int) 1048576 = L0 at hl0 hu0 ⊢
    have HS0 : (x.length + sumBy msRec x) ≤ 1048576 := by omega
    clear hs0
    go_wp2_with fail
    refine (toRecordS_c _ x _ (h0.mono (by repeat (first | with_reducible exact Ext.refl _ | with_reducible assumption | with_reducible refine Ext.drew ?_ | with_reducible refine Ext.alloc ?_ _ | with_reducible refine Ext.trans ?_ (by with_reducible assumption)))) HS0).mono ?_
    rintro e w2 ⟨s0, F2, rfl, o2, n2, x2⟩
    go_wp2_with fail
    refine (spec_GoldenField _ x f r _ (o2.ext (by repeat (first | with_reducible exact Ext.refl _ | with_reducible assumption | with_reducible refine Ext.drew ?_ | with_reducible refine Ext.alloc ?_ _ | with_reducible refine Ext.trans ?_ (by with_reducible assumption)))).sl h1 h2).mono ?_
    rintro e w3 ⟨rfl, x3⟩
    go_wp2_with fail
    refine (toRecordS_c _ x _ (h0.mono (by repeat (first | with_reducible exact Ext.refl _ | with_reducible assumption | with_reducible refine Ext.drew ?_ | with_reducible refine Ext.alloc ?_ _ | with_reducible refine Ext.trans ?_ (by with_reducible assumption)))) HS0).mono ?_
    rintro e w4 ⟨g0, F4, rfl, o4, n4, x4⟩
    go_wp2_with fail
    refine (impl_GoldenField _ x f r _ (o4.ext (by repeat (first | with_reducible exact Ext.refl _ | with_reducible assumption | with_reducible refine Ext.drew ?_ | with_reducible refine Ext.alloc ?_ _ | with_reducible refine Ext.trans ?_ (by with_reducible assumption)))).sl h1 h2 (M.mono (by repeat (first | with_reducible exact Ext.refl _ | with_reducible assumption | with_reducible refine Ext.drew ?_ | with_reducible refine Ext.alloc ?_ _ | with_reducible refine Ext.trans ?_ (by with_reducible assumption))))).mono ?_
    rintro e w5 ⟨rfl, x5⟩
    have hne : ((gfN x f r).toList != (gfN x f r).toList) = false := by simp
    go_wp2_with fail
    refine (toRecordS_c _ x _ (h0.mono (by repeat (first | with_reducible exact Ext.refl _ | with_reducible assumption | with_reducible refine Ext.drew ?_ | with_reducible refine Ext.alloc ?_ _ | with_reducible refine Ext.trans ?_ (by with_reducible assumption)))) HS0).mono ?_
    rintro e w6 ⟨t0, F6, rfl, o6, n6, x6⟩
    go_wp2_with fail
    refine (eqRecordS_c _ _ x x _ (o4.ext (by repeat (first | with_reducible exact Ext.refl _ | with_reducible assumption | with_reducible refine Ext.drew ?_ | with_reducible refine Ext.alloc ?_ _ | with_reducible refine Ext.trans ?_ (by with_reducible assumption)))).sl o6.sl).mono ?_
    rintro e w7 ⟨rfl, x7⟩
    rw [eqB_self]
    go_wp2
    go_ret
    exact ⟨rfl, (by repeat (first | with_reducible exact Ext.refl _ | with_reducible assumption | with_reducible refine Ext.drew ?_ | with_reducible refine Ext.alloc ?_ _ | with_reducible refine Ext.trans ?_ (by with_reducible assumption)))⟩
end Go.Proofs.YtgbcbmlikmjjkaaDoor

