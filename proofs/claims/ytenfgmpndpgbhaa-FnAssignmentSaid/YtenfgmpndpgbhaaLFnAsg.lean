/-
  THE LAW'S WALK: FnAssignment.
-/
import Derived.Test.YtenfgmpndpgbhaaDrawA
import Derived.Test.YtenfgmpndpgbhaaBestJ
namespace Go.Proofs.Ytenfgmpndpgbhaa
open Go.RowKit

set_option maxHeartbeats 400000 in
set_option maxRecDepth 20000 in
theorem law_FnAssignment (v : Value) (bs : List Int) (w : World) (h : Sl u8R w v bs) :
    Calls Try.prog 14 #[v] w fun e w2 => e = .returned (.bool true) ∧ Ext w w2 := by
  by_cases hbig : 1048576 < bs.length
  · go_enter Try.func14, Try.ntmps14
    go_wp2_with fail
    refine (laws_big _ bs w h).mono ?_
    rintro e w2 ⟨rfl, rfl⟩
    rw [decide_eq_true hbig]
    go_wp2
    go_ret
    exact ⟨rfl, Ext.refl _⟩
  · go_enter Try.func14, Try.ntmps14
    go_wp2_with fail
    refine (laws_big _ bs w h).mono ?_
    rintro e w2 ⟨rfl, rfl⟩
    rw [decide_eq_false hbig]
    go_wp2_with fail
    refine (spec_DrawAssignmentValue w _ bs h).mono ?_
    rintro e w2 ⟨v1, v2, m, a, rfl, hM, hA, x2⟩
    have hle := hid (asg_le m a)
    go_wp2_with fail
    refine (impl_BestAssignment v1 m _ hM).mono ?_
    rintro e w3 ⟨v3, F3, rfl, o3, n3, x3⟩
    go_wp2_with fail
    refine (impl_BestValue v1 m _ (hM.mono x3)).mono ?_
    rintro e w4 ⟨rfl, x4⟩
    go_wp2_with fail
    refine (spec_BestAssignment v1 m _ (hM.mono (x3.trans x4))).mono ?_
    rintro e w5 ⟨v5, F5, rfl, o5, n5, x5⟩
    go_wp2_with fail
    refine (laws_sameInts _ _ (bestAsg m) (bestAsg m) _ (o3.sl.mono (x4.trans x5)) o5.sl).mono ?_
    rintro e w6 ⟨rfl, x6⟩
    rw [eqB_self]
    have y6 := ((x3.trans x4).trans x5).trans x6
    have s6 := (o3.sl.mono (x4.trans x5)).mono x6
    clear o3 o5 n3 n5 x3 x4 x5 x6
    go_wp2_with fail
    refine (spec_BestValue v1 m _ (hM.mono y6)).mono ?_
    rintro e w7 ⟨rfl, x7⟩
    have e1 : (bestVal m != bestVal m) = false := by simp
    have y7 := y6.trans x7
    have s7 := s6.mono x7
    clear y6 s6 x7
    go_wp2_with fail
    refine (impl_IsAssignment _ _ m a _ (hM.mono y7) (hA.mono y7)).mono ?_
    rintro e w8 ⟨rfl, x8⟩
    go_wp2_with fail
    refine (spec_IsAssignment _ _ m a _ (hM.mono (y7.trans x8)) (hA.mono (y7.trans x8))).mono ?_
    rintro e w9 ⟨rfl, x9⟩
    have e2 : (okAsg m a != okAsg m a) = false := by simp
    have y9 := (y7.trans x8).trans x9
    have s9 := (s7.mono x8).mono x9
    clear y7 s7 x8 x9
    go_wp2_with fail
    refine (impl_AssignmentValue _ _ m a _ (hM.mono y9) (hA.mono y9)).mono ?_
    rintro e w10 ⟨rfl, x10⟩
    go_wp2_with fail
    refine (spec_AssignmentValue _ _ m a _ (hM.mono (y9.trans x10)) (hA.mono (y9.trans x10))).mono ?_
    rintro e w11 ⟨rfl, x11⟩
    have e3 : (asgVal m a != asgVal m a) = false := by simp
    have hle2 := hle.out
    have y11 := (y9.trans x10).trans x11
    have s11 := (s9.mono x10).mono x11
    clear y9 s9 x10 x11
    go_wp2_with fail
    refine (spec_IsOverlapMatrix _ m _ (hM.mono y11)).mono ?_
    rintro e w12 ⟨rfl, x12⟩
    by_cases hok : okMat m = true
    · obtain ⟨b1, b2⟩ := best_asg hok
      rw [hok]
      clear hok
      have B2 := hid b2
      clear b2
      go_wp2_with fail
      refine (impl_IsAssignment _ _ m (bestAsg m) _ (hM.mono (y11.trans x12)) (s11.mono x12)).mono ?_
      rintro e w13 ⟨rfl, x13⟩
      rw [b1]
      clear b1
      go_wp2_with fail
      refine (impl_AssignmentValue _ _ m (bestAsg m) _ (hM.mono ((y11.trans x12).trans x13)) ((s11.mono x12).mono x13)).mono ?_
      rintro e w14 ⟨rfl, x14⟩
      rw [B2.out]
      go_wp2
      go_ret
      exact ⟨ret_bool (by simp), (((x2.trans y11).trans x12).trans x13).trans x14⟩
    · rw [show okMat m = false by simpa using hok]
      clear hok
      go_wp2
      go_ret
      exact ⟨rfl, (x2.trans y11).trans x12⟩
end Go.Proofs.Ytenfgmpndpgbhaa
