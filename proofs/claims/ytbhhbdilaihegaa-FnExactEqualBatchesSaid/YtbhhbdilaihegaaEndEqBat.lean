/-
  FnExactEqualBatches: for every two batches the program's EqualBatches and the reference's answer the same. No condition.
-/
import Derived.Test.YtbhhbdilaihegaaLEqBat
import Derived.Test.YtbhhbdilaihegaaKEqBat
namespace Go.Proofs.Ytbhhbdilaihegaa
open Go.RowKit Go.ChangeShapes Go.WideShapes Go.ChangeAt

set_option maxHeartbeats 400000 in
set_option maxRecDepth 100000 in
theorem lifted_ExactEqualBatches (os : Os) (started : os.Started) (H : Type) (enc : TypeId × Value → H) :
    ReturnsInHanded {} Try.checked os 9 .any (Rows.fnExactEqualBatchesSpec.pre6 enc Try.prog Try.f9 Rows.fnExactEqualBatchesRow.domain false) (Rows.fnExactEqualBatchesSpec.post enc Try.prog Try.f9 false true false false) := by
  refine returnsInHanded_of_change (C := Try.checked) own started (by kernel_rfl) Try.func9
    (ChangeSpec.witness6 (enc := enc) (C := Try.checked) false ⟨#[], #[.agg #[.slice none 0 0], .agg #[.slice none 0 0]], []⟩ 8 (by kernel_rfl) (by kernel_rfl) (by kernel_rfl) (by kernel_rfl)) ?_
  intro W base args ds gs before hval0 hW _ _
  have hval : ∀ (j : Nat) t v, Try.f9.params[j]? = some t → args[j]? = some v → Value.okWide Try.prog W .any base t v := hval0
  have hW2 := hW
  obtain ⟨p, q, hA0, hV, rfl, hfz, hnd⟩ := hW
  have hA : DataW.TrodAll enc Try.prog W 0 (fun _ => true) true Try.f9.params.toList args.toList ds p := hA0
  rw [Try.params9] at hA hval
  obtain ⟨v0, v1, d0, d1, p0, p1, rfl, rfl, rfl, h0, h1⟩ := trodAll_two hA
  obtain ⟨cs0, x0, rfl, q0_0, rfl, ok0, r0_0⟩ := arg_struct Try.underlying60 rLawBatch (hval 0 _ v0 rfl rfl) h0
  have h0x : BatAt W (.agg #[q0_0]) x0 := ⟨_, rfl, ok0, r0_0⟩
  obtain ⟨cs1, x1, rfl, q1_0, rfl, ok1, r1_0⟩ := arg_struct Try.underlying60 rLawBatch (hval 1 _ v1 rfl rfl) h1
  have h1x : BatAt W (.agg #[q1_0]) x1 := ⟨_, rfl, ok1, r1_0⟩
  refine law_post laidOut (by rw [Try.params9]; intro t ht; simp at ht; first | (subst ht; exact ⟨by kernel_rfl, of_decide_eq_true (by kernel_rfl)⟩) | (rcases ht with rfl | rfl <;> exact ⟨by kernel_rfl, of_decide_eq_true (by kernel_rfl)⟩)) (tb := 4) rfl Try.underlying4 rfl rfl hW2 ?_
  exact law_EqualBatches _ x0 _ x1 W h0x h1x

theorem ExactEqualBatches_holds : Rows.FnExactEqualBatchesSaid :=
  OpenClaim.holds_of_wide 9 Try.f9 rfl rfl rfl rfl rfl rfl rfl ⟨rfl, rfl, rfl, rfl, rfl⟩ rfl rfl rfl rfl rfl (by kernel_rfl) Try.func9 closed_ExactEqualBatches
    (of_decide_eq_true (by kernel_rfl)) (by unfold Func.isWrapper; first | (rw [if_pos (by decide +kernel)]; kernel_rfl) | (rw [if_neg (by decide +kernel)]; exact ⟨rfl, rfl⟩))
    (fun os started H enc _ => lifted_ExactEqualBatches os started H enc)
end Go.Proofs.Ytbhhbdilaihegaa

