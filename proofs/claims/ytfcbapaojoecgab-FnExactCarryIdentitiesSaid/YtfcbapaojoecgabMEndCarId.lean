/-
  FnExactCarryIdentities: for every list of entities, every list of groups and every number the program and the reference answer the same entities, the same next number and the same bool; the arguments stay as they are and the result is new memory. No condition.
-/
import Derived.Test.YtfcbapaojoecgabMgEndCarId21

namespace Go.Proofs.Ytfcbapaojoecgab
open Go.RowKit Go.ChangeShapes Go.WideShapes Go.ChangeAt

set_option maxHeartbeats 400000 in
set_option maxRecDepth 100000 in
theorem lifted_ExactCarryIdentities (os : Os) (started : os.Started) (H : Type) (enc : TypeId × Value → H) :
    ReturnsInHanded {} Try.checked os 3 .any (Rows.fnExactCarryIdentitiesSpec.pre6 enc Try.prog Try.f3 Rows.fnExactCarryIdentitiesRow.domain false) (Rows.fnExactCarryIdentitiesSpec.post enc Try.prog Try.f3 false true false false) := by
  refine returnsInHanded_of_change (C := Try.checked) own started (by kernel_rfl) Try.func3
    (ChangeSpec.witness6 (enc := enc) (C := Try.checked) false ⟨#[], #[.slice none 0 0, .slice none 0 0, .int .i64 0], []⟩ 8 (by kernel_rfl) (by kernel_rfl) (by kernel_rfl) (by kernel_rfl)) ?_
  intro W base args ds gs before hval0 hW _ _
  have hval : ∀ (j : Nat) t v, Try.f3.params[j]? = some t → args[j]? = some v → Value.okWide Try.prog W .any base t v := hval0
  have hW2 := hW
  obtain ⟨p, q, hA0, hV, rfl, hfz, hnd⟩ := hW
  have hA : DataW.TrodAll enc Try.prog W 0 (fun _ => true) true Try.f3.params.toList args.toList ds p := hA0
  rw [Try.params3] at hA hval
  obtain ⟨v0, v1, v2, d0, d1, d2, p0, p1, p2, rfl, rfl, rfl, h0, h1, h2⟩ := trodAll_three hA
  obtain ⟨x0, h0x⟩ := arg_slice Try.underlying22 rLawEntities (hval 0 _ v0 rfl rfl) h0
  obtain ⟨x1, h1x⟩ := arg_slice Try.underlying23 rIntss (hval 1 _ v1 rfl rfl) h1
  obtain ⟨x2, rfl, rfl, rfl, h2w⟩ := open_int Try.underlying3 (hval 2 _ v2 rfl rfl) h2
  have h2x := wf_i64 h2w
  refine law_post laidOut (by rw [Try.params3]; intro t ht; simp at ht; first | (subst ht; exact ⟨by kernel_rfl, of_decide_eq_true (by kernel_rfl)⟩) | (rcases ht with rfl | rfl <;> exact ⟨by kernel_rfl, of_decide_eq_true (by kernel_rfl)⟩) | (rcases ht with rfl | rfl | rfl <;> exact ⟨by kernel_rfl, of_decide_eq_true (by kernel_rfl)⟩)) (tb := 4) rfl Try.underlying4 rfl rfl hW2 ?_
  exact law_CarryIdentities _ x0 _ x1 x2 W h0x h1x h2x

theorem ExactCarryIdentities_holds : Rows.FnExactCarryIdentitiesSaid :=
  OpenClaim.holds_of_wide 3 Try.f3 rfl rfl rfl rfl rfl rfl rfl ⟨rfl, rfl, rfl, rfl, rfl⟩ rfl rfl rfl rfl rfl (by kernel_rfl) Try.func3 (by kernel_rfl)
    (of_decide_eq_true (by kernel_rfl)) (by unfold Func.isWrapper; first | (rw [if_pos (by decide +kernel)]; kernel_rfl) | (rw [if_neg (by decide +kernel)]; exact ⟨rfl, rfl⟩))
    (fun os started H enc _ => lifted_ExactCarryIdentities os started H enc)
end Go.Proofs.Ytfcbapaojoecgab

