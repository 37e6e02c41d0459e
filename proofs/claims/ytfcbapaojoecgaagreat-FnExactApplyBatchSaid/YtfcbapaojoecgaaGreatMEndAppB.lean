/-
  FnExactApplyBatch: for every store and every batch the program's ApplyBatch and the reference's answer the same store and the same word; the result is new memory. No condition.
-/
import Derived.Test.YtfcbapaojoecgaaGreatMgEndAppB16
import Derived.Test.YtfcbapaojoecgaaGreatMgEndAppB4

namespace Go.Proofs.YtfcbapaojoecgaaGreat
open Go.RowKit Go.ChangeShapes Go.WideShapes Go.ChangeAt

set_option maxHeartbeats 400000 in
set_option maxRecDepth 100000 in
theorem lifted_ExactApplyBatch (os : Os) (started : os.Started) (H : Type) (enc : TypeId × Value → H) :
    ReturnsInHanded {} Tryz.checked os 3 .any (Rows.fnExactApplyBatchSpec.pre6 enc Tryz.prog Tryz.f3 Rows.fnExactApplyBatchRow.domain false) (Rows.fnExactApplyBatchSpec.post enc Tryz.prog Tryz.f3 false true false false) := by
  refine returnsInHanded_of_change (C := Tryz.checked) own started (by kernel_rfl) Tryz.func3
    (ChangeSpec.witness6 (enc := enc) (C := Tryz.checked) false ⟨#[], #[.agg #[.int .i64 0, .slice none 0 0, .slice none 0 0], .agg #[.slice none 0 0]], []⟩ 8 (by kernel_rfl) (by kernel_rfl) (by kernel_rfl) (by kernel_rfl)) ?_
  intro W base args ds gs before hval0 hW _ _
  have hval : ∀ (j : Nat) t v, Tryz.f3.params[j]? = some t → args[j]? = some v → Value.okWide Tryz.prog W .any base t v := hval0
  have hW2 := hW
  obtain ⟨p, q, hA0, hV, rfl, hfz, hnd⟩ := hW
  have hA : DataW.TrodAll enc Tryz.prog W 0 (fun _ => true) true Tryz.f3.params.toList args.toList ds p := hA0
  rw [Tryz.params3] at hA hval
  obtain ⟨v0, v1, d0, d1, p0, p1, rfl, rfl, rfl, h0, h1⟩ := trodAll_two hA
  obtain ⟨cs0, x0, rfl, q0_0, q0_1, rfl, ok0, r0_0, r0_1⟩ := arg_struct Tryz.underlying25 rLawStore (hval 0 _ v0 rfl rfl) h0
  have h0x : StoAt W (.agg #[.int .i64 x0.version, q0_0, q0_1]) x0 := ⟨_, _, rfl, ok0, r0_0, r0_1⟩
  obtain ⟨cs1, x1, rfl, q1_0, rfl, ok1, r1_0⟩ := arg_struct Tryz.underlying28 rLawBatch (hval 1 _ v1 rfl rfl) h1
  have h1x : BatAt W (.agg #[q1_0]) x1 := ⟨_, rfl, ok1, r1_0⟩
  refine law_post laidOut (by rw [Tryz.params3]; intro t ht; simp at ht; first | (subst ht; exact ⟨by kernel_rfl, of_decide_eq_true (by kernel_rfl)⟩) | (rcases ht with rfl | rfl <;> exact ⟨by kernel_rfl, of_decide_eq_true (by kernel_rfl)⟩) | (rcases ht with rfl | rfl | rfl <;> exact ⟨by kernel_rfl, of_decide_eq_true (by kernel_rfl)⟩)) (tb := 4) rfl Tryz.underlying4 rfl rfl hW2 ?_
  exact law_ApplyBatch _ x0 _ x1 W h0x h1x

theorem ExactApplyBatch_holds : Rows.FnExactApplyBatchSaid :=
  OpenClaim.holds_of_wide 3 Tryz.f3 rfl rfl rfl rfl rfl rfl rfl ⟨rfl, rfl, rfl, rfl, rfl⟩ rfl rfl rfl rfl rfl (by kernel_rfl) Tryz.func3 closed_ExactApplyBatch
    (of_decide_eq_true (by kernel_rfl)) (by unfold Func.isWrapper; first | (rw [if_pos (by decide +kernel)]; kernel_rfl) | (rw [if_neg (by decide +kernel)]; exact ⟨rfl, rfl⟩))
    (fun os started H enc _ => lifted_ExactApplyBatch os started H enc)
end Go.Proofs.YtfcbapaojoecgaaGreat

