/-
  FnExactAreVerdicts: for every list of verdicts the program's AreVerdicts and the reference's answer the same. No condition.
-/
import Derived.Test.YtbhhbdilaihegaaVers
namespace Go.Proofs.Ytbhhbdilaihegaa
open Go.RowKit Go.ChangeShapes Go.WideShapes Go.ChangeAt

set_option maxHeartbeats 400000 in
theorem law_AreVerdicts (v0 : Value) (x : List Verdict) (w : World) (h0 : Sl verdictR w v0 x) :
    Calls Try.prog 3 #[v0] w fun e w2 => e = .returned (.bool true) ∧ Ext w w2 := by
  go_enter Try.func3, Try.ntmps3
  go_wp2_with fail
  refine (szVerdictS_c _ x _ _ (h0.mono (by repeat (first | with_reducible exact Ext.refl _ | with_reducible assumption | with_reducible refine Ext.drew ?_ | with_reducible refine Ext.alloc ?_ _ | with_reducible refine Ext.trans ?_ (by with_reducible assumption)))) (by omega) (by omega)).mono ?_
  rintro e w1 ⟨rfl, x1⟩
  by_cases hs0 : 1048576 < ((x.length : Nat) : Int)
  · rw [szv_neg hs0]
    go_wp2
    go_ret
    exact ⟨rfl, (by repeat (first | with_reducible exact Ext.refl _ | with_reducible assumption | with_reducible refine Ext.drew ?_ | with_reducible refine Ext.alloc ?_ _ | with_reducible refine Ext.trans ?_ (by with_reducible assumption)))⟩
  · have hl0 := szv_nn hs0
    have hu0 := szv_le (n := ((x.length : Nat) : Int)) (left := 1048576) (by omega) (by omega)
    generalize szv ((x.length : Nat) : Int) 1048576 = L0 at hl0 hu0 ⊢
    have HS0 : x.length ≤ 1048576 := by omega
    clear hs0
    go_wp2_with fail
    refine (toVerdictS_c _ x _ (h0.mono (by repeat (first | with_reducible exact Ext.refl _ | with_reducible assumption | with_reducible refine Ext.drew ?_ | with_reducible refine Ext.alloc ?_ _ | with_reducible refine Ext.trans ?_ (by with_reducible assumption)))) HS0).mono ?_
    rintro e w2 ⟨s0, F2, rfl, o2, n2, x2⟩
    go_wp2_with fail
    refine (spec_AreVerdicts _ x  _ (o2.ext (by repeat (first | with_reducible exact Ext.refl _ | with_reducible assumption | with_reducible refine Ext.drew ?_ | with_reducible refine Ext.alloc ?_ _ | with_reducible refine Ext.trans ?_ (by with_reducible assumption)))).sl).mono ?_
    rintro e w3 ⟨rfl, x3⟩
    go_wp2_with fail
    refine (toVerdictS_c _ x _ (h0.mono (by repeat (first | with_reducible exact Ext.refl _ | with_reducible assumption | with_reducible refine Ext.drew ?_ | with_reducible refine Ext.alloc ?_ _ | with_reducible refine Ext.trans ?_ (by with_reducible assumption)))) HS0).mono ?_
    rintro e w4 ⟨g0, F4, rfl, o4, n4, x4⟩
    go_wp2_with fail
    refine (impl_AreVerdicts _ x  _ (o4.ext (by repeat (first | with_reducible exact Ext.refl _ | with_reducible assumption | with_reducible refine Ext.drew ?_ | with_reducible refine Ext.alloc ?_ _ | with_reducible refine Ext.trans ?_ (by with_reducible assumption)))).sl).mono ?_
    rintro e w5 ⟨rfl, x5⟩
    go_wp2_with fail
    refine (toVerdictS_c _ x _ (h0.mono (by repeat (first | with_reducible exact Ext.refl _ | with_reducible assumption | with_reducible refine Ext.drew ?_ | with_reducible refine Ext.alloc ?_ _ | with_reducible refine Ext.trans ?_ (by with_reducible assumption)))) HS0).mono ?_
    rintro e w6 ⟨t0, F6, rfl, o6, n6, x6⟩
    go_wp2_with fail
    refine (eqVerdictS_c _ _ x x _ (o4.ext (by repeat (first | with_reducible exact Ext.refl _ | with_reducible assumption | with_reducible refine Ext.drew ?_ | with_reducible refine Ext.alloc ?_ _ | with_reducible refine Ext.trans ?_ (by with_reducible assumption)))).sl o6.sl).mono ?_
    rintro e w7 ⟨rfl, x7⟩
    rw [eqB_self]
    go_wp2
    go_ret
    exact ⟨rfl, (by repeat (first | with_reducible exact Ext.refl _ | with_reducible assumption | with_reducible refine Ext.drew ?_ | with_reducible refine Ext.alloc ?_ _ | with_reducible refine Ext.trans ?_ (by with_reducible assumption)))⟩

set_option maxHeartbeats 400000 in
set_option maxRecDepth 100000 in
theorem lifted_ExactAreVerdicts (os : Os) (started : os.Started) (H : Type) (enc : TypeId × Value → H) :
    ReturnsInHanded {} Try.checked os 3 .any (Rows.fnExactAreVerdictsSpec.pre6 enc Try.prog Try.f3 Rows.fnExactAreVerdictsRow.domain false) (Rows.fnExactAreVerdictsSpec.post enc Try.prog Try.f3 false true false false) := by
  refine returnsInHanded_of_change (C := Try.checked) own started (by kernel_rfl) Try.func3
    (ChangeSpec.witness6 (enc := enc) (C := Try.checked) false ⟨#[], #[.slice none 0 0], []⟩ 8 (by kernel_rfl) (by kernel_rfl) (by kernel_rfl) (by kernel_rfl)) ?_
  intro W base args ds gs before hval0 hW _ _
  have hval : ∀ (j : Nat) t v, Try.f3.params[j]? = some t → args[j]? = some v → Value.okWide Try.prog W .any base t v := hval0
  have hW2 := hW
  obtain ⟨p, q, hA0, hV, rfl, hfz, hnd⟩ := hW
  have hA : DataW.TrodAll enc Try.prog W 0 (fun _ => true) true Try.f3.params.toList args.toList ds p := hA0
  rw [Try.params3] at hA hval
  obtain ⟨v0, d0, rfl, rfl, h0⟩ := trodAll_one hA
  obtain ⟨x0, h0x⟩ := arg_slice Try.underlying22 rLawVerdicts (hval 0 _ v0 rfl rfl) h0
  refine law_post laidOut (by rw [Try.params3]; intro t ht; simp at ht; first | (subst ht; exact ⟨by kernel_rfl, of_decide_eq_true (by kernel_rfl)⟩) | (rcases ht with rfl | rfl <;> exact ⟨by kernel_rfl, of_decide_eq_true (by kernel_rfl)⟩)) (tb := 4) rfl Try.underlying4 rfl rfl hW2 ?_
  exact law_AreVerdicts _ x0 W h0x

theorem ExactAreVerdicts_holds : Rows.FnExactAreVerdictsSaid :=
  OpenClaim.holds_of_wide 3 Try.f3 rfl rfl rfl rfl rfl rfl rfl ⟨rfl, rfl, rfl, rfl, rfl⟩ rfl rfl rfl rfl rfl (by kernel_rfl) Try.func3 (by kernel_rfl)
    (of_decide_eq_true (by kernel_rfl)) (by unfold Func.isWrapper; first | (rw [if_pos (by decide +kernel)]; kernel_rfl) | (rw [if_neg (by decide +kernel)]; exact ⟨rfl, rfl⟩))
    (fun os started H enc _ => lifted_ExactAreVerdicts os started H enc)
end Go.Proofs.Ytbhhbdilaihegaa

