/-
  FnExactEqualStores: for every two stores the program's EqualStores and the reference's answer the same. No condition.
-/
import Derived.Test.YtbhhbdilaihegaaLEqSto
import Derived.Test.YtbhhbdilaihegaaKEqSto
namespace Go.Proofs.Ytbhhbdilaihegaa
open Go.RowKit Go.ChangeShapes Go.WideShapes Go.ChangeAt

set_option maxHeartbeats 400000 in
set_option maxRecDepth 100000 in
theorem lifted_ExactEqualStores (os : Os) (started : os.Started) (H : Type) (enc : TypeId × Value → H) :
    ReturnsInHanded {} Try.checked os 10 .any (Rows.fnExactEqualStoresSpec.pre6 enc Try.prog Try.f10 Rows.fnExactEqualStoresRow.domain false) (Rows.fnExactEqualStoresSpec.post enc Try.prog Try.f10 false true false false) := by
  refine returnsInHanded_of_change (C := Try.checked) own started (by kernel_rfl) Try.func10
    (ChangeSpec.witness6 (enc := enc) (C := Try.checked) false ⟨#[], #[.agg #[.int .i64 0, .slice none 0 0, .slice none 0 0], .agg #[.int .i64 0, .slice none 0 0, .slice none 0 0]], []⟩ 8 (by kernel_rfl) (by kernel_rfl) (by kernel_rfl) (by kernel_rfl)) ?_
  intro W base args ds gs before hval0 hW _ _
  have hval : ∀ (j : Nat) t v, Try.f10.params[j]? = some t → args[j]? = some v → Value.okWide Try.prog W .any base t v := hval0
  have hW2 := hW
  obtain ⟨p, q, hA0, hV, rfl, hfz, hnd⟩ := hW
  have hA : DataW.TrodAll enc Try.prog W 0 (fun _ => true) true Try.f10.params.toList args.toList ds p := hA0
  rw [Try.params10] at hA hval
  obtain ⟨v0, v1, d0, d1, p0, p1, rfl, rfl, rfl, h0, h1⟩ := trodAll_two hA
  obtain ⟨cs0, x0, rfl, q0_0, q0_1, rfl, ok0, r0_0, r0_1⟩ := arg_struct Try.underlying49 rLawStore (hval 0 _ v0 rfl rfl) h0
  have h0x : StoAt W (.agg #[.int .i64 x0.version, q0_0, q0_1]) x0 := ⟨_, _, rfl, ok0, r0_0, r0_1⟩
  obtain ⟨cs1, x1, rfl, q1_0, q1_1, rfl, ok1, r1_0, r1_1⟩ := arg_struct Try.underlying49 rLawStore (hval 1 _ v1 rfl rfl) h1
  have h1x : StoAt W (.agg #[.int .i64 x1.version, q1_0, q1_1]) x1 := ⟨_, _, rfl, ok1, r1_0, r1_1⟩
  refine law_post laidOut (by rw [Try.params10]; intro t ht; simp at ht; first | (subst ht; exact ⟨by kernel_rfl, of_decide_eq_true (by kernel_rfl)⟩) | (rcases ht with rfl | rfl <;> exact ⟨by kernel_rfl, of_decide_eq_true (by kernel_rfl)⟩)) (tb := 4) rfl Try.underlying4 rfl rfl hW2 ?_
  exact law_EqualStores _ x0 _ x1 W h0x h1x

theorem ExactEqualStores_holds : Rows.FnExactEqualStoresSaid :=
  OpenClaim.holds_of_wide 10 Try.f10 rfl rfl rfl rfl rfl rfl rfl ⟨rfl, rfl, rfl, rfl, rfl⟩ rfl rfl rfl rfl rfl (by kernel_rfl) Try.func10 closed_ExactEqualStores
    (of_decide_eq_true (by kernel_rfl)) (by unfold Func.isWrapper; first | (rw [if_pos (by decide +kernel)]; kernel_rfl) | (rw [if_neg (by decide +kernel)]; exact ⟨rfl, rfl⟩))
    (fun os started H enc _ => lifted_ExactEqualStores os started H enc)
end Go.Proofs.Ytbhhbdilaihegaa

