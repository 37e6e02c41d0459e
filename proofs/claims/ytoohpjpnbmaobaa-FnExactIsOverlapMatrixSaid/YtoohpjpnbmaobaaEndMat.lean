/-
  FnExactIsOverlapMatrix: for every matrix the program's IsOverlapMatrix and the reference's answer the same. No condition.
-/
import Derived.Test.YtoohpjpnbmaobaaMat
namespace Go.Proofs.Ytoohpjpnbmaobaa
open Go.RowKit Go.ChangeShapes Go.WideShapes Go.ChangeAt

set_option maxHeartbeats 400000 in
theorem law_IsOverlapMatrix (v : Value) (xs : List (List Int)) (w : World) (h : Sl (slR intR) w v xs) :
    Calls Try.prog 8 #[v] w fun e w2 => e = .returned (.bool true) ∧ Ext w w2 := by
  go_enter Try.func8, Try.ntmps8
  go_wp2_with fail
  refine (szIntSS_c _ _ _ _ h (by omega) (by omega)).mono ?_
  rintro e w0 ⟨rfl, x0⟩
  by_cases hs : (1048576 : Int) < ((xs.length + sumLen xs : Nat) : Int)
  · rw [szv_neg hs]
    go_wp2
    go_ret
    exact ⟨rfl, x0⟩
  · have hs0 := szv_nn hs
    have hs1 := szv_le (n := ((xs.length + sumLen xs : Nat) : Int)) (left := 1048576) (by omega) (by omega)
    generalize szv ((xs.length + sumLen xs : Nat) : Int) 1048576 = L at hs0 hs1 ⊢
    go_wp2_with fail
    refine (toIntSS_c _ _ _ (h.mono x0) (by omega) (fun x hx => by have := sumLen_mem hx; omega)).mono ?_
    rintro e w1 ⟨v1, F1, rfl, o1, n1, x1⟩
    go_wp2_with fail
    refine (spec_IsOverlapMatrix _ _ _ o1.sl).mono ?_
    rintro e w2 ⟨rfl, x2⟩
    go_wp2_with fail
    refine (toIntSS_c _ _ _ (h.mono ((x0.trans x1).trans x2)) (by omega) (fun x hx => by have := sumLen_mem hx; omega)).mono ?_
    rintro e w3 ⟨v3, F3, rfl, o3, n3, x3⟩
    go_wp2_with fail
    refine (impl_IsOverlapMatrix _ _ _ o3.sl).mono ?_
    rintro e w4 ⟨rfl, x4⟩
    go_wp2_with fail
    refine (toIntSS_c _ _ _ (h.mono ((((x0.trans x1).trans x2).trans x3).trans x4)) (by omega) (fun x hx => by have := sumLen_mem hx; omega)).mono ?_
    rintro e w5 ⟨v5, F5, rfl, o5, n5, x5⟩
    go_wp2_with fail
    refine (eqIntSS_c _ _ _ _ _ (o3.ext (x4.trans x5)).sl o5.sl).mono ?_
    rintro e w6 ⟨rfl, x6⟩
    rw [eqB_self]
    go_wp2
    go_ret
    exact ⟨rfl, (by repeat (first | exact Ext.refl _ | assumption | refine Ext.drew ?_ | refine Ext.alloc ?_ _ | refine Ext.trans ?_ (by assumption)))⟩

set_option maxHeartbeats 400000 in
set_option maxRecDepth 100000 in
theorem lifted_ExactIsOverlapMatrix (os : Os) (started : os.Started) (H : Type) (enc : TypeId × Value → H) :
    ReturnsInHanded {} Try.checked os 8 .any (Rows.fnExactIsOverlapMatrixSpec.pre6 enc Try.prog Try.f8 Rows.fnExactIsOverlapMatrixRow.domain false) (Rows.fnExactIsOverlapMatrixSpec.post enc Try.prog Try.f8 false true false false) := by
  refine returnsInHanded_of_change (C := Try.checked) own started (by kernel_rfl) Try.func8
    (ChangeSpec.witness6 (enc := enc) (C := Try.checked) false ⟨#[], #[.slice none 0 0], []⟩ 8 (by kernel_rfl) (by kernel_rfl) (by kernel_rfl) (by kernel_rfl)) ?_
  intro W base args ds gs before hval0 hW _ _
  have hval : ∀ (j : Nat) t v, Try.f8.params[j]? = some t → args[j]? = some v → Value.okWide Try.prog W .any base t v := hval0
  have hW2 := hW
  obtain ⟨p, q, hA0, hV, rfl, hfz, hnd⟩ := hW
  have hA : DataW.TrodAll enc Try.prog W 0 (fun _ => true) true Try.f8.params.toList args.toList ds p := hA0
  rw [Try.params8] at hA hval
  obtain ⟨v0, d0, rfl, rfl, h0⟩ := trodAll_one hA
  obtain ⟨xs, h⟩ := arg_slice Try.underlying45 rIntss (hval 0 _ v0 rfl rfl) h0
  refine law_post laidOut (by rw [Try.params8]; intro t ht; simp at ht; first | (subst ht; exact ⟨by kernel_rfl, of_decide_eq_true (by kernel_rfl)⟩) | (rcases ht with rfl | rfl <;> exact ⟨by kernel_rfl, of_decide_eq_true (by kernel_rfl)⟩)) (tb := 4) rfl Try.underlying4 rfl rfl hW2 ?_
  exact law_IsOverlapMatrix v0 xs W h

theorem ExactIsOverlapMatrix_holds : Rows.FnExactIsOverlapMatrixSaid :=
  OpenClaim.holds_of_wide 8 Try.f8 rfl rfl rfl rfl rfl rfl rfl ⟨rfl, rfl, rfl, rfl, rfl⟩ rfl rfl rfl rfl rfl (by kernel_rfl) Try.func8 (by kernel_rfl)
    (of_decide_eq_true (by kernel_rfl)) (by unfold Func.isWrapper; first | (rw [if_pos (by decide +kernel)]; kernel_rfl) | (rw [if_neg (by decide +kernel)]; exact ⟨rfl, rfl⟩))
    (fun os started H enc _ => lifted_ExactIsOverlapMatrix os started H enc)
end Go.Proofs.Ytoohpjpnbmaobaa
