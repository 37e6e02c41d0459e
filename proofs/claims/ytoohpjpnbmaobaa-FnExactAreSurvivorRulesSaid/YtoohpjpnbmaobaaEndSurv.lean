/-
  FnExactAreSurvivorRules: for every list the program's AreSurvivorRules and the reference's answer the same. No condition.
-/
import Derived.Test.YtoohpjpnbmaobaaSurv
namespace Go.Proofs.Ytoohpjpnbmaobaa
open Go.RowKit Go.ChangeShapes Go.WideShapes Go.ChangeAt

set_option maxHeartbeats 400000 in
theorem law_AreSurvivorRules (v : Value) (xs : List Int) (w : World) (h : Sl intR w v xs) :
    Calls Try.prog 5 #[v] w fun e w2 => e = .returned (.bool true) ∧ Ext w w2 := by
  obtain ⟨A, cap, rfl, hm⟩ := h.form
  by_cases hs : xs.length ≤ 1048576
  · go_enter Try.func5, Try.ntmps5
    go_wp2_with fail
    refine (toIntS_c _ xs _ h hs).mono ?_
    rintro e w1 ⟨v1, F1, rfl, o1, n1, x1⟩
    go_wp2_with fail
    refine (spec_AreSurvivorRules _ xs _ o1.sl).mono ?_
    rintro e w2 ⟨rfl, x2⟩
    go_wp2_with fail
    refine (toIntS_c _ xs _ (h.mono (x1.trans x2)) hs).mono ?_
    rintro e w3 ⟨v3, F3, rfl, o3, n3, x3⟩
    go_wp2_with fail
    refine (impl_AreSurvivorRules _ xs _ o3.sl).mono ?_
    rintro e w4 ⟨rfl, x4⟩
    go_wp2_with fail
    refine (toIntS_c _ xs _ (h.mono (((x1.trans x2).trans x3).trans x4)) hs).mono ?_
    rintro e w5 ⟨v5, F5, rfl, o5, n5, x5⟩
    go_wp2_with fail
    refine (eqIntS_c _ _ xs xs _ (o3.ext (x4.trans x5)).sl o5.sl).mono ?_
    rintro e w6 ⟨rfl, x6⟩
    rw [show (xs == xs) = true from by simp]
    go_wp2
    go_ret
    exact ⟨rfl, (by repeat (first | exact Ext.refl _ | assumption | refine Ext.drew ?_ | refine Ext.alloc ?_ _ | refine Ext.trans ?_ (by assumption)))⟩
  · go_enter Try.func5, Try.ntmps5
    go_wp2
    go_ret
    exact ⟨rfl, Ext.refl _⟩

set_option maxHeartbeats 400000 in
set_option maxRecDepth 100000 in
theorem lifted_ExactAreSurvivorRules (os : Os) (started : os.Started) (H : Type) (enc : TypeId × Value → H) :
    ReturnsInHanded {} Try.checked os 5 .any (Rows.fnExactAreSurvivorRulesSpec.pre6 enc Try.prog Try.f5 Rows.fnExactAreSurvivorRulesRow.domain false) (Rows.fnExactAreSurvivorRulesSpec.post enc Try.prog Try.f5 false true false false) := by
  refine returnsInHanded_of_change (C := Try.checked) own started (by kernel_rfl) Try.func5
    (ChangeSpec.witness6 (enc := enc) (C := Try.checked) false ⟨#[], #[.slice none 0 0], []⟩ 8 (by kernel_rfl) (by kernel_rfl) (by kernel_rfl) (by kernel_rfl)) ?_
  intro W base args ds gs before hval0 hW _ _
  have hval : ∀ (j : Nat) t v, Try.f5.params[j]? = some t → args[j]? = some v → Value.okWide Try.prog W .any base t v := hval0
  have hW2 := hW
  obtain ⟨p, q, hA0, hV, rfl, hfz, hnd⟩ := hW
  have hA : DataW.TrodAll enc Try.prog W 0 (fun _ => true) true Try.f5.params.toList args.toList ds p := hA0
  rw [Try.params5] at hA hval
  obtain ⟨v0, d0, rfl, rfl, h0⟩ := trodAll_one hA
  obtain ⟨xs, h⟩ := arg_slice Try.underlying30 rInts (hval 0 _ v0 rfl rfl) h0
  refine law_post laidOut (by rw [Try.params5]; intro t ht; simp at ht; first | (subst ht; exact ⟨by kernel_rfl, of_decide_eq_true (by kernel_rfl)⟩) | (rcases ht with rfl | rfl <;> exact ⟨by kernel_rfl, of_decide_eq_true (by kernel_rfl)⟩)) (tb := 4) rfl Try.underlying4 rfl rfl hW2 ?_
  exact law_AreSurvivorRules v0 xs W h

theorem ExactAreSurvivorRules_holds : Rows.FnExactAreSurvivorRulesSaid :=
  OpenClaim.holds_of_wide 5 Try.f5 rfl rfl rfl rfl rfl rfl rfl ⟨rfl, rfl, rfl, rfl, rfl⟩ rfl rfl rfl rfl rfl (by kernel_rfl) Try.func5 (by kernel_rfl)
    (of_decide_eq_true (by kernel_rfl)) (by unfold Func.isWrapper; first | (rw [if_pos (by decide +kernel)]; kernel_rfl) | (rw [if_neg (by decide +kernel)]; exact ⟨rfl, rfl⟩))
    (fun os started H enc _ => lifted_ExactAreSurvivorRules os started H enc)
end Go.Proofs.Ytoohpjpnbmaobaa
