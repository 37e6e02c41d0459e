/-
  FnExactAssignmentValue: for every matrix and every list the program and the reference answer the same. No condition.
-/
import Derived.Test.YtenfgmpndpgbhaaAsgV
namespace Go.Proofs.Ytenfgmpndpgbhaa
open Go.RowKit Go.ChangeShapes Go.WideShapes Go.ChangeAt

set_option maxHeartbeats 400000 in
theorem law_AssignmentValue (v0 : Value) (m : List (List Int)) (v1 : Value) (a : List Int) (w : World) (h0 : Sl (slR intR) w v0 m) (h1 : Sl intR w v1 a) :
    Calls Try.prog 6 #[v0, v1] w fun e w2 => e = .returned (.bool true) ∧ Ext w w2 := by
  obtain ⟨A1, cap1, rfl, hm1⟩ := h1.form
  by_cases hs1 : a.length ≤ 1048576
  · go_enter Try.func6, Try.ntmps6
    go_wp2_with fail
    refine (szIntSS_c _ m _ _ (h0.mono (by repeat (first | with_reducible exact Ext.refl _ | with_reducible assumption | with_reducible refine Ext.drew ?_ | with_reducible refine Ext.alloc ?_ _ | with_reducible refine Ext.trans ?_ (by with_reducible assumption)))) (by omega) (by omega)).mono ?_
    rintro e w1 ⟨rfl, x1⟩
    by_cases hs0 : 1048576 < (((m.length + sumLen m) : Nat) : Int)
    · rw [szv_neg hs0]
      go_wp2
      go_ret
      exact ⟨rfl, (by repeat (first | with_reducible exact Ext.refl _ | with_reducible assumption | with_reducible refine Ext.drew ?_ | with_reducible refine Ext.alloc ?_ _ | with_reducible refine Ext.trans ?_ (by with_reducible assumption)))⟩
    · have hl0 := szv_nn hs0
      have hu0 := szv_le (n := (((m.length + sumLen m) : Nat) : Int)) (left := 1048576) (by omega) (by omega)
      generalize szv (((m.length + sumLen m) : Nat) : Int) 1048576 = L0 at hl0 hu0 ⊢
      have HS0 : (m.length + sumLen m) ≤ 1048576 := by omega
      clear hs0
      go_wp2_with fail
      refine (toIntSS_c _ m _ (h0.mono (by repeat (first | with_reducible exact Ext.refl _ | with_reducible assumption | with_reducible refine Ext.drew ?_ | with_reducible refine Ext.alloc ?_ _ | with_reducible refine Ext.trans ?_ (by with_reducible assumption)))) HS0).mono ?_
      rintro e w2 ⟨s0, F2, rfl, o2, n2, x2⟩
      go_wp2_with fail
      refine (toIntS_c _ a _ (h1.mono (by repeat (first | with_reducible exact Ext.refl _ | with_reducible assumption | with_reducible refine Ext.drew ?_ | with_reducible refine Ext.alloc ?_ _ | with_reducible refine Ext.trans ?_ (by with_reducible assumption)))) hs1).mono ?_
      rintro e w3 ⟨s1, F3, rfl, o3, n3, x3⟩
      go_wp2_with fail
      refine (spec_AssignmentValue _ _ m a  _ (o2.ext (by repeat (first | with_reducible exact Ext.refl _ | with_reducible assumption | with_reducible refine Ext.drew ?_ | with_reducible refine Ext.alloc ?_ _ | with_reducible refine Ext.trans ?_ (by with_reducible assumption)))).sl (o3.ext (by repeat (first | with_reducible exact Ext.refl _ | with_reducible assumption | with_reducible refine Ext.drew ?_ | with_reducible refine Ext.alloc ?_ _ | with_reducible refine Ext.trans ?_ (by with_reducible assumption)))).sl).mono ?_
      rintro e w4 ⟨rfl, x4⟩
      go_wp2_with fail
      refine (toIntSS_c _ m _ (h0.mono (by repeat (first | with_reducible exact Ext.refl _ | with_reducible assumption | with_reducible refine Ext.drew ?_ | with_reducible refine Ext.alloc ?_ _ | with_reducible refine Ext.trans ?_ (by with_reducible assumption)))) HS0).mono ?_
      rintro e w5 ⟨g0, F5, rfl, o5, n5, x5⟩
      go_wp2_with fail
      refine (toIntS_c _ a _ (h1.mono (by repeat (first | with_reducible exact Ext.refl _ | with_reducible assumption | with_reducible refine Ext.drew ?_ | with_reducible refine Ext.alloc ?_ _ | with_reducible refine Ext.trans ?_ (by with_reducible assumption)))) hs1).mono ?_
      rintro e w6 ⟨g1, F6, rfl, o6, n6, x6⟩
      go_wp2_with fail
      refine (impl_AssignmentValue _ _ m a  _ (o5.ext (by repeat (first | with_reducible exact Ext.refl _ | with_reducible assumption | with_reducible refine Ext.drew ?_ | with_reducible refine Ext.alloc ?_ _ | with_reducible refine Ext.trans ?_ (by with_reducible assumption)))).sl (o6.ext (by repeat (first | with_reducible exact Ext.refl _ | with_reducible assumption | with_reducible refine Ext.drew ?_ | with_reducible refine Ext.alloc ?_ _ | with_reducible refine Ext.trans ?_ (by with_reducible assumption)))).sl).mono ?_
      rintro e w7 ⟨rfl, x7⟩
      go_wp2_with fail
      refine (toIntSS_c _ m _ (h0.mono (by repeat (first | with_reducible exact Ext.refl _ | with_reducible assumption | with_reducible refine Ext.drew ?_ | with_reducible refine Ext.alloc ?_ _ | with_reducible refine Ext.trans ?_ (by with_reducible assumption)))) HS0).mono ?_
      rintro e w8 ⟨t0, F8, rfl, o8, n8, x8⟩
      go_wp2_with fail
      refine (eqIntSS_c _ _ m m _ (o5.ext (by repeat (first | with_reducible exact Ext.refl _ | with_reducible assumption | with_reducible refine Ext.drew ?_ | with_reducible refine Ext.alloc ?_ _ | with_reducible refine Ext.trans ?_ (by with_reducible assumption)))).sl o8.sl).mono ?_
      rintro e w9 ⟨rfl, x9⟩
      rw [eqB_self]
      go_wp2_with fail
      refine (toIntS_c _ a _ (h1.mono (by repeat (first | with_reducible exact Ext.refl _ | with_reducible assumption | with_reducible refine Ext.drew ?_ | with_reducible refine Ext.alloc ?_ _ | with_reducible refine Ext.trans ?_ (by with_reducible assumption)))) hs1).mono ?_
      rintro e w10 ⟨t1, F10, rfl, o10, n10, x10⟩
      go_wp2_with fail
      refine (eqIntS_c _ _ a a _ (o6.ext (by repeat (first | with_reducible exact Ext.refl _ | with_reducible assumption | with_reducible refine Ext.drew ?_ | with_reducible refine Ext.alloc ?_ _ | with_reducible refine Ext.trans ?_ (by with_reducible assumption)))).sl o10.sl).mono ?_
      rintro e w11 ⟨rfl, x11⟩
      rw [eqB_self]
      go_wp2
      go_ret
      exact ⟨rfl, (by repeat (first | with_reducible exact Ext.refl _ | with_reducible assumption | with_reducible refine Ext.drew ?_ | with_reducible refine Ext.alloc ?_ _ | with_reducible refine Ext.trans ?_ (by with_reducible assumption)))⟩
  · go_enter Try.func6, Try.ntmps6
    go_wp2
    go_ret
    exact ⟨rfl, (by repeat (first | with_reducible exact Ext.refl _ | with_reducible assumption | with_reducible refine Ext.drew ?_ | with_reducible refine Ext.alloc ?_ _ | with_reducible refine Ext.trans ?_ (by with_reducible assumption)))⟩

set_option maxHeartbeats 400000 in
set_option maxRecDepth 100000 in
theorem lifted_ExactAssignmentValue (os : Os) (started : os.Started) (H : Type) (enc : TypeId × Value → H) :
    ReturnsInHanded {} Try.checked os 6 .any (Rows.fnExactAssignmentValueSpec.pre6 enc Try.prog Try.f6 Rows.fnExactAssignmentValueRow.domain false) (Rows.fnExactAssignmentValueSpec.post enc Try.prog Try.f6 false true false false) := by
  refine returnsInHanded_of_change (C := Try.checked) own started (by kernel_rfl) Try.func6
    (ChangeSpec.witness6 (enc := enc) (C := Try.checked) false ⟨#[], #[.slice none 0 0, .slice none 0 0], []⟩ 8 (by kernel_rfl) (by kernel_rfl) (by kernel_rfl) (by kernel_rfl)) ?_
  intro W base args ds gs before hval0 hW _ _
  have hval : ∀ (j : Nat) t v, Try.f6.params[j]? = some t → args[j]? = some v → Value.okWide Try.prog W .any base t v := hval0
  have hW2 := hW
  obtain ⟨p, q, hA0, hV, rfl, hfz, hnd⟩ := hW
  have hA : DataW.TrodAll enc Try.prog W 0 (fun _ => true) true Try.f6.params.toList args.toList ds p := hA0
  rw [Try.params6] at hA hval
  obtain ⟨v0, v1, d0, d1, p0, p1, rfl, rfl, rfl, h0, h1⟩ := trodAll_two hA
  obtain ⟨x0, h0x⟩ := arg_slice Try.underlying22 rIntss (hval 0 _ v0 rfl rfl) h0
  obtain ⟨x1, h1x⟩ := arg_slice Try.underlying23 rInts (hval 1 _ v1 rfl rfl) h1
  refine law_post laidOut (by rw [Try.params6]; intro t ht; simp at ht; first | (subst ht; exact ⟨by kernel_rfl, of_decide_eq_true (by kernel_rfl)⟩) | (rcases ht with rfl | rfl <;> exact ⟨by kernel_rfl, of_decide_eq_true (by kernel_rfl)⟩)) (tb := 4) rfl Try.underlying4 rfl rfl hW2 ?_
  exact law_AssignmentValue _ x0 _ x1 W h0x h1x

theorem ExactAssignmentValue_holds : Rows.FnExactAssignmentValueSaid :=
  OpenClaim.holds_of_wide 6 Try.f6 rfl rfl rfl rfl rfl rfl rfl ⟨rfl, rfl, rfl, rfl, rfl⟩ rfl rfl rfl rfl rfl (by kernel_rfl) Try.func6 (by kernel_rfl)
    (of_decide_eq_true (by kernel_rfl)) (by unfold Func.isWrapper; first | (rw [if_pos (by decide +kernel)]; kernel_rfl) | (rw [if_neg (by decide +kernel)]; exact ⟨rfl, rfl⟩))
    (fun os started H enc _ => lifted_ExactAssignmentValue os started H enc)
end Go.Proofs.Ytenfgmpndpgbhaa

