/-
  FnExactBestAssignment: for every matrix the program and the reference answer the same list; the result is new memory. No condition.
-/
import Derived.Test.YtenfgmpndpgbhaaBestJ
import Derived.Test.YtenfgmpndpgbhaaCnt
namespace Go.Proofs.Ytenfgmpndpgbhaa
open Go.RowKit Go.ChangeShapes Go.WideShapes Go.ChangeAt

theorem bestAsg_cnt (m : List (List Int)) : (lstMk intMk).cnt (bestAsg m) ≤ 1048576 := by
  show intMk.sum (bestAsg m) ≤ _
  rw [intMk_sum]
  unfold bestAsg
  split
  · rename_i h
    rw [asgFrom_len]
    have := okMat_len h
    omega
  · simp

set_option maxHeartbeats 400000 in
theorem law_BestAssignment (v0 : Value) (m : List (List Int)) (w : World) (h0 : Sl (slR intR) w v0 m) :
    Calls Try.prog 7 #[v0] w fun e w2 => e = .returned (.bool true) ∧ Ext w w2 := by
  have hW : Ext w w := Ext.refl w
  have hbd : (lstMk intMk).cnt (bestAsg m) ≤ 1048576 := bestAsg_cnt m
  have HBD := hid hbd
  clear hbd
  go_enter Try.func7, Try.ntmps7
  go_wp2_with fail
  refine (szIntSS_c _ m _ _ (h0.mono hW) (by omega) (by omega)).mono ?_
  rintro e w1 ⟨rfl, x1⟩
  replace hW := hW.trans x1
  clear x1
  by_cases hs0 : 1048576 < (((m.length + sumLen m) : Nat) : Int)
  · rw [szv_neg hs0]
    go_wp2
    go_ret
    exact ⟨rfl, hW⟩
  · have hl0 := szv_nn hs0
    have hu0 := szv_le (n := (((m.length + sumLen m) : Nat) : Int)) (left := 1048576) (by omega) (by omega)
    generalize szv (((m.length + sumLen m) : Nat) : Int) 1048576 = L0 at hl0 hu0 ⊢
    have HS0 : (m.length + sumLen m) ≤ 1048576 := by omega
    clear hs0
    go_wp2_with fail
    refine (toIntSS_c _ m _ (h0.mono hW) HS0).mono ?_
    rintro e w2 ⟨v2m, F2, rfl, o2, n2, x2⟩
    have b2 : ∀ x ∈ F2, w.heap.size ≤ x := fun x hx => Nat.le_trans hW.size (n2.2 x hx)
    replace n2 := n2.1
    replace hW := hW.trans x2
    clear x2
    go_wp2_with fail
    refine (spec_BestAssignment _ m  _ o2.sl).mono ?_
    rintro e w3 ⟨v3m, F3, rfl, o3, n3, x3⟩
    have d2_3 : Dis F2 F3 := Dis.new o2.lt n3
    have b3 : ∀ x ∈ F3, w.heap.size ≤ x := fun x hx => Nat.le_trans hW.size (n3.2 x hx)
    replace n3 := n3.1
    replace hW := hW.trans x3
    replace o2 := o2.ext x3
    clear x3
    go_wp2_with fail
    refine (toIntSS_c _ m _ (h0.mono hW) HS0).mono ?_
    rintro e w4 ⟨v4m, F4, rfl, o4, n4, x4⟩
    have d3_4 : Dis F3 F4 := Dis.new o3.lt n4
    have b4 : ∀ x ∈ F4, w.heap.size ≤ x := fun x hx => Nat.le_trans hW.size (n4.2 x hx)
    replace n4 := n4.1
    replace hW := hW.trans x4
    replace o3 := o3.ext x4
    clear x4
    go_wp2_with fail
    refine (impl_BestAssignment _ m  _ o4.sl).mono ?_
    rintro e w5 ⟨v5m, F5, rfl, o5, n5, x5⟩
    have d3_5 : Dis F3 F5 := Dis.new o3.lt n5
    have d4_5 : Dis F4 F5 := Dis.new o4.lt n5
    have b5 : ∀ x ∈ F5, w.heap.size ≤ x := fun x hx => Nat.le_trans hW.size (n5.2 x hx)
    replace n5 := n5.1
    replace hW := hW.trans x5
    replace o3 := o3.ext x5
    replace o4 := o4.ext x5
    clear x5
    go_wp2_with fail
    refine (eqIntS_c _ _ (bestAsg m) (bestAsg m) _ o5.sl o3.sl).mono ?_
    rintro e w6 ⟨rfl, x6⟩
    rw [eqB_self]
    replace hW := hW.trans x6
    replace o3 := o3.ext x6
    replace o4 := o4.ext x6
    replace o5 := o5.ext x6
    clear x6
    go_wp2_with fail
    refine (toIntSS_c _ m _ (h0.mono hW) HS0).mono ?_
    rintro e w7 ⟨v7m, F7, rfl, o7, n7, x7⟩
    have d3_7 : Dis F3 F7 := Dis.new o3.lt n7
    have d4_7 : Dis F4 F7 := Dis.new o4.lt n7
    have d5_7 : Dis F5 F7 := Dis.new o5.lt n7
    have b7 : ∀ x ∈ F7, w.heap.size ≤ x := fun x hx => Nat.le_trans hW.size (n7.2 x hx)
    replace n7 := n7.1
    replace hW := hW.trans x7
    replace o3 := o3.ext x7
    replace o4 := o4.ext x7
    replace o5 := o5.ext x7
    clear x7
    go_wp2_with fail
    refine (eqIntSS_c _ _ m m _ o4.sl o7.sl).mono ?_
    rintro e w8 ⟨rfl, x8⟩
    rw [eqB_self]
    replace hW := hW.trans x8
    replace o3 := o3.ext x8
    replace o4 := o4.ext x8
    replace o5 := o5.ext x8
    replace o7 := o7.ext x8
    clear x8
    have hc0 := cntIntSS_le m
    go_wp2_with fail
    refine (markIntSS_c _ m F4 1 _ o4 n4 (by omega) (by have := HS0; omega)).mono ?_
    rintro e w9 ⟨ys4, rfl, p9, mk4, ch9⟩
    replace o3 := ch9.keepSl d3_4 o3
    replace o5 := ch9.keepSl d4_5.symm o5
    replace hW := ch9.ext b4 hW
    clear o4 ch9
    have o4 := p9
    clear p9
    obtain ⟨K9, hK9⟩ : ∃ K, K = 1 + (((lstMk (lstMk intMk)).cnt m : Nat) : Int) := ⟨_, rfl⟩
    rw [← hK9]
    have hk9 : 0 ≤ K9 ∧ K9 ≤ 1048577 := by have := HS0; omega
    clear hK9 hc0 mk4
    go_wp2_with fail
    refine (eqIntS_c _ _ (bestAsg m) (bestAsg m) _ o5.sl o3.sl).mono ?_
    rintro e w10 ⟨rfl, x10⟩
    rw [eqB_self]
    replace hW := hW.trans x10
    replace o3 := o3.ext x10
    replace o5 := o5.ext x10
    clear x10
    go_wp2_with fail
    refine (markIntS_c _ (bestAsg m) F5 1 _ o5 n5 (by omega) (by have := HBD.out; omega)).mono ?_
    rintro e w11 ⟨ys5, rfl, p11, mk5, ch11⟩
    replace o3 := ch11.keepSl d3_5 o3
    replace hW := ch11.ext b5 hW
    clear o5 ch11
    have o5 := p11
    clear p11
    obtain ⟨K11, hK11⟩ : ∃ K, K = 1 + (((lstMk intMk).cnt (bestAsg m) : Nat) : Int) := ⟨_, rfl⟩
    rw [← hK11]
    have hk11 : 0 ≤ K11 := by omega
    have HK11 := hid hK11
    clear hK11
    go_wp2_with fail
    refine (heldIntS_c _ (bestAsg m) ys5 1 _ o5.sl mk5 (by omega) (by have := HBD.out; omega)).mono ?_
    rintro e w12 ⟨rfl, rfl⟩
    rw [← HK11.out]
    go_wp2_with fail
    refine (toIntSS_c _ m _ (h0.mono hW) HS0).mono ?_
    rintro e w13 ⟨v13m, F13, rfl, o13, n13, x13⟩
    have d3_13 : Dis F3 F13 := Dis.new o3.lt n13
    have d5_13 : Dis F5 F13 := Dis.new o5.lt n13
    have b13 : ∀ x ∈ F13, w.heap.size ≤ x := fun x hx => Nat.le_trans hW.size (n13.2 x hx)
    replace n13 := n13.1
    replace hW := hW.trans x13
    replace o3 := o3.ext x13
    replace o5 := o5.ext x13
    clear x13
    go_wp2_with fail
    refine (impl_BestAssignment _ m  _ o13.sl).mono ?_
    rintro e w14 ⟨v14m, F14, rfl, o14, n14, x14⟩
    have d3_14 : Dis F3 F14 := Dis.new o3.lt n14
    have d5_14 : Dis F5 F14 := Dis.new o5.lt n14
    have d13_14 : Dis F13 F14 := Dis.new o13.lt n14
    have b14 : ∀ x ∈ F14, w.heap.size ≤ x := fun x hx => Nat.le_trans hW.size (n14.2 x hx)
    replace n14 := n14.1
    replace hW := hW.trans x14
    replace o3 := o3.ext x14
    replace o5 := o5.ext x14
    replace o13 := o13.ext x14
    clear x14
    go_wp2_with fail
    refine (eqIntS_c _ _ (bestAsg m) (bestAsg m) _ o14.sl o3.sl).mono ?_
    rintro e w15 ⟨rfl, x15⟩
    rw [eqB_self]
    replace hW := hW.trans x15
    replace o3 := o3.ext x15
    replace o5 := o5.ext x15
    replace o13 := o13.ext x15
    replace o14 := o14.ext x15
    clear x15
    go_wp2_with fail
    refine (heldIntS_c _ (bestAsg m) ys5 1 _ o5.sl mk5 (by omega) (by have := HBD.out; omega)).mono ?_
    rintro e w16 ⟨rfl, rfl⟩
    rw [← HK11.out]
    go_wp2
    go_ret
    exact ⟨rfl, hW⟩

set_option maxHeartbeats 400000 in
set_option maxRecDepth 100000 in
theorem lifted_ExactBestAssignment (os : Os) (started : os.Started) (H : Type) (enc : TypeId × Value → H) :
    ReturnsInHanded {} Try.checked os 7 .any (Rows.fnExactBestAssignmentSpec.pre6 enc Try.prog Try.f7 Rows.fnExactBestAssignmentRow.domain false) (Rows.fnExactBestAssignmentSpec.post enc Try.prog Try.f7 false true false false) := by
  refine returnsInHanded_of_change (C := Try.checked) own started (by kernel_rfl) Try.func7
    (ChangeSpec.witness6 (enc := enc) (C := Try.checked) false ⟨#[], #[.slice none 0 0], []⟩ 8 (by kernel_rfl) (by kernel_rfl) (by kernel_rfl) (by kernel_rfl)) ?_
  intro W base args ds gs before hval0 hW _ _
  have hval : ∀ (j : Nat) t v, Try.f7.params[j]? = some t → args[j]? = some v → Value.okWide Try.prog W .any base t v := hval0
  have hW2 := hW
  obtain ⟨p, q, hA0, hV, rfl, hfz, hnd⟩ := hW
  have hA : DataW.TrodAll enc Try.prog W 0 (fun _ => true) true Try.f7.params.toList args.toList ds p := hA0
  rw [Try.params7] at hA hval
  obtain ⟨v0, d0, rfl, rfl, h0⟩ := trodAll_one hA
  obtain ⟨x0, h0x⟩ := arg_slice Try.underlying22 rIntss (hval 0 _ v0 rfl rfl) h0
  refine law_post laidOut (by rw [Try.params7]; intro t ht; simp at ht; first | (subst ht; exact ⟨by kernel_rfl, of_decide_eq_true (by kernel_rfl)⟩) | (rcases ht with rfl | rfl <;> exact ⟨by kernel_rfl, of_decide_eq_true (by kernel_rfl)⟩)) (tb := 4) rfl Try.underlying4 rfl rfl hW2 ?_
  exact law_BestAssignment _ x0 W h0x

theorem ExactBestAssignment_holds : Rows.FnExactBestAssignmentSaid :=
  OpenClaim.holds_of_wide 7 Try.f7 rfl rfl rfl rfl rfl rfl rfl ⟨rfl, rfl, rfl, rfl, rfl⟩ rfl rfl rfl rfl rfl (by kernel_rfl) Try.func7 (by kernel_rfl)
    (of_decide_eq_true (by kernel_rfl)) (by unfold Func.isWrapper; first | (rw [if_pos (by decide +kernel)]; kernel_rfl) | (rw [if_neg (by decide +kernel)]; exact ⟨rfl, rfl⟩))
    (fun os started H enc _ => lifted_ExactBestAssignment os started H enc)
end Go.Proofs.Ytenfgmpndpgbhaa

