/-
  FnExactEqualEntities: for every two lists of entities the program's EqualEntities and the reference's answer the same. No condition.
-/
import Derived.Test.YtenfgmpndpgbhaaEqEnt
namespace Go.Proofs.Ytenfgmpndpgbhaa
open Go.RowKit Go.ChangeShapes Go.WideShapes Go.ChangeAt

set_option maxHeartbeats 400000 in
theorem law_EqualEntities (v0 : Value) (x : List Entity) (v1 : Value) (y : List Entity) (w : World) (h0 : Sl entityR w v0 x) (h1 : Sl entityR w v1 y) :
    Calls Try.prog 10 #[v0, v1] w fun e w2 => e = .returned (.bool true) ∧ Ext w w2 := by
  go_enter Try.func10, Try.ntmps10
  go_wp2_with fail
  refine (szEntityS_c _ x _ _ (h0.mono (by repeat (first | with_reducible exact Ext.refl _ | with_reducible assumption | with_reducible refine Ext.drew ?_ | with_reducible refine Ext.alloc ?_ _ | with_reducible refine Ext.trans ?_ (by with_reducible assumption)))) (by omega) (by omega)).mono ?_
  rintro e w1 ⟨rfl, x1⟩
  by_cases hs0 : 1048576 < ((msEnts x : Nat) : Int)
  · rw [szv_neg hs0]
    go_wp2
    go_ret
    exact ⟨rfl, (by repeat (first | with_reducible exact Ext.refl _ | with_reducible assumption | with_reducible refine Ext.drew ?_ | with_reducible refine Ext.alloc ?_ _ | with_reducible refine Ext.trans ?_ (by with_reducible assumption)))⟩
  · have hl0 := szv_nn hs0
    have hu0 := szv_le (n := ((msEnts x : Nat) : Int)) (left := 1048576) (by omega) (by omega)
    generalize szv ((msEnts x : Nat) : Int) 1048576 = L0 at hl0 hu0 ⊢
    have HS0 : msEnts x ≤ 1048576 := by omega
    clear hs0
    go_wp2_with fail
    refine (szEntityS_c _ y _ _ (h1.mono (by repeat (first | with_reducible exact Ext.refl _ | with_reducible assumption | with_reducible refine Ext.drew ?_ | with_reducible refine Ext.alloc ?_ _ | with_reducible refine Ext.trans ?_ (by with_reducible assumption)))) (by omega) (by omega)).mono ?_
    rintro e w2 ⟨rfl, x2⟩
    by_cases hs1 : L0 < ((msEnts y : Nat) : Int)
    · rw [szv_neg hs1]
      go_wp2
      go_ret
      exact ⟨rfl, (by repeat (first | with_reducible exact Ext.refl _ | with_reducible assumption | with_reducible refine Ext.drew ?_ | with_reducible refine Ext.alloc ?_ _ | with_reducible refine Ext.trans ?_ (by with_reducible assumption)))⟩
    · have hl1 := szv_nn hs1
      have hu1 := szv_le (n := ((msEnts y : Nat) : Int)) (left := L0) (by omega) (by omega)
      generalize szv ((msEnts y : Nat) : Int) L0 = L1 at hl1 hu1 ⊢
      have HS1 : msEnts y ≤ 1048576 := by omega
      clear hs1
      go_wp2_with fail
      refine (toEntityS_c _ x _ (h0.mono (by repeat (first | with_reducible exact Ext.refl _ | with_reducible assumption | with_reducible refine Ext.drew ?_ | with_reducible refine Ext.alloc ?_ _ | with_reducible refine Ext.trans ?_ (by with_reducible assumption)))) HS0).mono ?_
      rintro e w3 ⟨s0, F3, rfl, o3, n3, x3⟩
      go_wp2_with fail
      refine (toEntityS_c _ y _ (h1.mono (by repeat (first | with_reducible exact Ext.refl _ | with_reducible assumption | with_reducible refine Ext.drew ?_ | with_reducible refine Ext.alloc ?_ _ | with_reducible refine Ext.trans ?_ (by with_reducible assumption)))) HS1).mono ?_
      rintro e w4 ⟨s1, F4, rfl, o4, n4, x4⟩
      go_wp2_with fail
      refine (spec_EqualEntities _ _ x y  _ (o3.ext (by repeat (first | with_reducible exact Ext.refl _ | with_reducible assumption | with_reducible refine Ext.drew ?_ | with_reducible refine Ext.alloc ?_ _ | with_reducible refine Ext.trans ?_ (by with_reducible assumption)))).sl (o4.ext (by repeat (first | with_reducible exact Ext.refl _ | with_reducible assumption | with_reducible refine Ext.drew ?_ | with_reducible refine Ext.alloc ?_ _ | with_reducible refine Ext.trans ?_ (by with_reducible assumption)))).sl).mono ?_
      rintro e w5 ⟨rfl, x5⟩
      go_wp2_with fail
      refine (toEntityS_c _ x _ (h0.mono (by repeat (first | with_reducible exact Ext.refl _ | with_reducible assumption | with_reducible refine Ext.drew ?_ | with_reducible refine Ext.alloc ?_ _ | with_reducible refine Ext.trans ?_ (by with_reducible assumption)))) HS0).mono ?_
      rintro e w6 ⟨g0, F6, rfl, o6, n6, x6⟩
      go_wp2_with fail
      refine (toEntityS_c _ y _ (h1.mono (by repeat (first | with_reducible exact Ext.refl _ | with_reducible assumption | with_reducible refine Ext.drew ?_ | with_reducible refine Ext.alloc ?_ _ | with_reducible refine Ext.trans ?_ (by with_reducible assumption)))) HS1).mono ?_
      rintro e w7 ⟨g1, F7, rfl, o7, n7, x7⟩
      go_wp2_with fail
      refine (impl_EqualEntities _ _ x y  _ (o6.ext (by repeat (first | with_reducible exact Ext.refl _ | with_reducible assumption | with_reducible refine Ext.drew ?_ | with_reducible refine Ext.alloc ?_ _ | with_reducible refine Ext.trans ?_ (by with_reducible assumption)))).sl (o7.ext (by repeat (first | with_reducible exact Ext.refl _ | with_reducible assumption | with_reducible refine Ext.drew ?_ | with_reducible refine Ext.alloc ?_ _ | with_reducible refine Ext.trans ?_ (by with_reducible assumption)))).sl).mono ?_
      rintro e w8 ⟨rfl, x8⟩
      go_wp2_with fail
      refine (toEntityS_c _ x _ (h0.mono (by repeat (first | with_reducible exact Ext.refl _ | with_reducible assumption | with_reducible refine Ext.drew ?_ | with_reducible refine Ext.alloc ?_ _ | with_reducible refine Ext.trans ?_ (by with_reducible assumption)))) HS0).mono ?_
      rintro e w9 ⟨t0, F9, rfl, o9, n9, x9⟩
      go_wp2_with fail
      refine (eqEntityS_c _ _ x x _ (o6.ext (by repeat (first | with_reducible exact Ext.refl _ | with_reducible assumption | with_reducible refine Ext.drew ?_ | with_reducible refine Ext.alloc ?_ _ | with_reducible refine Ext.trans ?_ (by with_reducible assumption)))).sl o9.sl).mono ?_
      rintro e w10 ⟨rfl, x10⟩
      rw [eqB_self]
      go_wp2_with fail
      refine (toEntityS_c _ y _ (h1.mono (by repeat (first | with_reducible exact Ext.refl _ | with_reducible assumption | with_reducible refine Ext.drew ?_ | with_reducible refine Ext.alloc ?_ _ | with_reducible refine Ext.trans ?_ (by with_reducible assumption)))) HS1).mono ?_
      rintro e w11 ⟨t1, F11, rfl, o11, n11, x11⟩
      go_wp2_with fail
      refine (eqEntityS_c _ _ y y _ (o7.ext (by repeat (first | with_reducible exact Ext.refl _ | with_reducible assumption | with_reducible refine Ext.drew ?_ | with_reducible refine Ext.alloc ?_ _ | with_reducible refine Ext.trans ?_ (by with_reducible assumption)))).sl o11.sl).mono ?_
      rintro e w12 ⟨rfl, x12⟩
      rw [eqB_self]
      go_wp2
      go_ret
      exact ⟨rfl, (by repeat (first | with_reducible exact Ext.refl _ | with_reducible assumption | with_reducible refine Ext.drew ?_ | with_reducible refine Ext.alloc ?_ _ | with_reducible refine Ext.trans ?_ (by with_reducible assumption)))⟩

set_option maxHeartbeats 400000 in
set_option maxRecDepth 100000 in
theorem lifted_ExactEqualEntities (os : Os) (started : os.Started) (H : Type) (enc : TypeId × Value → H) :
    ReturnsInHanded {} Try.checked os 10 .any (Rows.fnExactEqualEntitiesSpec.pre6 enc Try.prog Try.f10 Rows.fnExactEqualEntitiesRow.domain false) (Rows.fnExactEqualEntitiesSpec.post enc Try.prog Try.f10 false true false false) := by
  refine returnsInHanded_of_change (C := Try.checked) own started (by kernel_rfl) Try.func10
    (ChangeSpec.witness6 (enc := enc) (C := Try.checked) false ⟨#[], #[.slice none 0 0, .slice none 0 0], []⟩ 8 (by kernel_rfl) (by kernel_rfl) (by kernel_rfl) (by kernel_rfl)) ?_
  intro W base args ds gs before hval0 hW _ _
  have hval : ∀ (j : Nat) t v, Try.f10.params[j]? = some t → args[j]? = some v → Value.okWide Try.prog W .any base t v := hval0
  have hW2 := hW
  obtain ⟨p, q, hA0, hV, rfl, hfz, hnd⟩ := hW
  have hA : DataW.TrodAll enc Try.prog W 0 (fun _ => true) true Try.f10.params.toList args.toList ds p := hA0
  rw [Try.params10] at hA hval
  obtain ⟨v0, v1, d0, d1, p0, p1, rfl, rfl, rfl, h0, h1⟩ := trodAll_two hA
  obtain ⟨x0, h0x⟩ := arg_slice Try.underlying36 rLawEntities (hval 0 _ v0 rfl rfl) h0
  obtain ⟨x1, h1x⟩ := arg_slice Try.underlying36 rLawEntities (hval 1 _ v1 rfl rfl) h1
  refine law_post laidOut (by rw [Try.params10]; intro t ht; simp at ht; first | (subst ht; exact ⟨by kernel_rfl, of_decide_eq_true (by kernel_rfl)⟩) | (rcases ht with rfl | rfl <;> exact ⟨by kernel_rfl, of_decide_eq_true (by kernel_rfl)⟩)) (tb := 4) rfl Try.underlying4 rfl rfl hW2 ?_
  exact law_EqualEntities _ x0 _ x1 W h0x h1x

theorem ExactEqualEntities_holds : Rows.FnExactEqualEntitiesSaid :=
  OpenClaim.holds_of_wide 10 Try.f10 rfl rfl rfl rfl rfl rfl rfl ⟨rfl, rfl, rfl, rfl, rfl⟩ rfl rfl rfl rfl rfl (by kernel_rfl) Try.func10 (by kernel_rfl)
    (of_decide_eq_true (by kernel_rfl)) (by unfold Func.isWrapper; first | (rw [if_pos (by decide +kernel)]; kernel_rfl) | (rw [if_neg (by decide +kernel)]; exact ⟨rfl, rfl⟩))
    (fun os started H enc _ => lifted_ExactEqualEntities os started H enc)
end Go.Proofs.Ytenfgmpndpgbhaa

