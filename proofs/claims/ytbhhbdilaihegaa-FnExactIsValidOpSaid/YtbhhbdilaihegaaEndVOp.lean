/-
  FnExactIsValidOp: for every operation the program's IsValidOp and the reference's answer the same. No condition.
-/
import Derived.Test.YtbhhbdilaihegaaLVOp
import Derived.Test.YtbhhbdilaihegaaKVOp
import Derived.Test.YtbhhbdilaihegaaBat
namespace Go.Proofs.Ytbhhbdilaihegaa
open Go.RowKit Go.ChangeShapes Go.WideShapes Go.ChangeAt

set_option maxHeartbeats 400000 in
set_option maxRecDepth 100000 in
theorem lifted_ExactIsValidOp (os : Os) (started : os.Started) (H : Type) (enc : TypeId × Value → H) :
    ReturnsInHanded {} Try.checked os 11 .any (Rows.fnExactIsValidOpSpec.pre6 enc Try.prog Try.f11 Rows.fnExactIsValidOpRow.domain false) (Rows.fnExactIsValidOpSpec.post enc Try.prog Try.f11 false true false false) := by
  refine returnsInHanded_of_change (C := Try.checked) own started (by kernel_rfl) Try.func11
    (ChangeSpec.witness6 (enc := enc) (C := Try.checked) false ⟨#[], #[.agg #[.int .i64 0, .int .i64 0, .int .i64 0, .int .i64 0, .slice none 0 0, .int .i64 0, .int .i64 0, .bool false, .int .i64 0]], []⟩ 8 (by kernel_rfl) (by kernel_rfl) (by kernel_rfl) (by kernel_rfl)) ?_
  intro W base args ds gs before hval0 hW _ _
  have hval : ∀ (j : Nat) t v, Try.f11.params[j]? = some t → args[j]? = some v → Value.okWide Try.prog W .any base t v := hval0
  have hW2 := hW
  obtain ⟨p, q, hA0, hV, rfl, hfz, hnd⟩ := hW
  have hA : DataW.TrodAll enc Try.prog W 0 (fun _ => true) true Try.f11.params.toList args.toList ds p := hA0
  rw [Try.params11] at hA hval
  obtain ⟨v0, d0, rfl, rfl, h0⟩ := trodAll_one hA
  obtain ⟨cs0, x0, rfl, q0_0, rfl, ok0, r0_0⟩ := arg_struct Try.underlying73 rLawOp (hval 0 _ v0 rfl rfl) h0
  have h0x : OpAt W (.agg #[.int .i64 x0.kind, .int .i64 x0.record.source, .int .i64 x0.record.key, .int .i64 x0.record.version, q0_0, .int .i64 x0.verdict.a, .int .i64 x0.verdict.b, .bool x0.verdict.same, .int .i64 x0.verdict.time]) x0 := ⟨_, rfl, ok0, r0_0⟩
  refine law_post laidOut (by rw [Try.params11]; intro t ht; simp at ht; first | (subst ht; exact ⟨by kernel_rfl, of_decide_eq_true (by kernel_rfl)⟩) | (rcases ht with rfl | rfl <;> exact ⟨by kernel_rfl, of_decide_eq_true (by kernel_rfl)⟩)) (tb := 4) rfl Try.underlying4 rfl rfl hW2 ?_
  exact law_IsValidOp _ x0 W h0x

theorem ExactIsValidOp_holds : Rows.FnExactIsValidOpSaid :=
  OpenClaim.holds_of_wide 11 Try.f11 rfl rfl rfl rfl rfl rfl rfl ⟨rfl, rfl, rfl, rfl, rfl⟩ rfl rfl rfl rfl rfl (by kernel_rfl) Try.func11 closed_ExactIsValidOp
    (of_decide_eq_true (by kernel_rfl)) (by unfold Func.isWrapper; first | (rw [if_pos (by decide +kernel)]; kernel_rfl) | (rw [if_neg (by decide +kernel)]; exact ⟨rfl, rfl⟩))
    (fun os started H enc _ => lifted_ExactIsValidOp os started H enc)
end Go.Proofs.Ytbhhbdilaihegaa

