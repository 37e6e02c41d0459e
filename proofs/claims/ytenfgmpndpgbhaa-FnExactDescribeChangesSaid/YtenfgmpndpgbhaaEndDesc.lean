/-
  FnExactDescribeChanges: for every two lists of entities the program and the reference answer the same list of changes; the result is new memory. No condition.
-/
import Derived.Test.YtenfgmpndpgbhaaDescI
import Derived.Test.YtenfgmpndpgbhaaMarkE
namespace Go.Proofs.Ytenfgmpndpgbhaa
open Go.RowKit Go.ChangeShapes Go.WideShapes Go.ChangeAt

theorem desc_cnt (x y : List Entity) : (lstMk changeMk).cnt (desc x y) ≤ 1048576 := by
  refine Nat.le_trans (cntChangeS_le _) ?_
  by_cases h : areEnts x = true ∧ areEnts y = true
  · have h1 := ents_small h.1
    have h2 := ents_small h.2
    have h3 := bld_len2 h1.2 h2.2 y.length
    rw [List.take_length] at h3
    rw [desc_yes h.1 h.2]; omega
  · rw [desc_no h]; simp

set_option maxHeartbeats 400000 in
theorem law_DescribeChanges (v0 : Value) (x : List Entity) (v1 : Value) (y : List Entity) (w : World) (h0 : Sl entityR w v0 x) (h1 : Sl entityR w v1 y) :
    Calls Try.prog 12 #[v0, v1] w fun e w2 => e = .returned (.bool true) ∧ Ext w w2 := by
  have hW : Ext w w := Ext.refl w
  have hbd : (lstMk changeMk).cnt (desc x y) ≤ 1048576 := desc_cnt x y
  have HBD := hid hbd
  clear hbd
  go_enter Try.func12, Try.ntmps12
  go_wp2_with fail
  refine (szEntityS_c _ x _ _ (h0.mono hW) (by omega) (by omega)).mono ?_
  rintro e w1 ⟨rfl, x1⟩
  replace hW := hW.trans x1
  clear x1
  by_cases hs0 : 1048576 < ((msEnts x : Nat) : Int)
  · rw [szv_neg hs0]
    go_wp2
    go_ret
    exact ⟨rfl, hW⟩
  · have hl0 := szv_nn hs0
    have hu0 := szv_le (n := ((msEnts x : Nat) : Int)) (left := 1048576) (by omega) (by omega)
    generalize szv ((msEnts x : Nat) : Int) 1048576 = L0 at hl0 hu0 ⊢
    have HS0 : msEnts x ≤ 1048576 := by omega
    clear hs0
    go_wp2_with fail
    refine (szEntityS_c _ y _ _ (h1.mono hW) (by omega) (by omega)).mono ?_
    rintro e w2 ⟨rfl, x2⟩
    replace hW := hW.trans x2
    clear x2
    by_cases hs1 : L0 < ((msEnts y : Nat) : Int)
    · rw [szv_neg hs1]
      go_wp2
      go_ret
      exact ⟨rfl, hW⟩
    · have hl1 := szv_nn hs1
      have hu1 := szv_le (n := ((msEnts y : Nat) : Int)) (left := L0) (by omega) (by omega)
      generalize szv ((msEnts y : Nat) : Int) L0 = L1 at hl1 hu1 ⊢
      have HS1 : msEnts y ≤ 1048576 := by omega
      clear hs1
      go_wp2_with fail
      refine (toEntityS_c _ x _ (h0.mono hW) HS0).mono ?_
      rintro e w3 ⟨v3m, F3, rfl, o3, n3, x3⟩
      have b3 : ∀ x ∈ F3, w.heap.size ≤ x := fun x hx => Nat.le_trans hW.size (n3.2 x hx)
      replace n3 := n3.1
      replace hW := hW.trans x3
      clear x3
      go_wp2_with fail
      refine (toEntityS_c _ y _ (h1.mono hW) HS1).mono ?_
      rintro e w4 ⟨v4m, F4, rfl, o4, n4, x4⟩
      have d3_4 : Dis F3 F4 := Dis.new o3.lt n4
      have b4 : ∀ x ∈ F4, w.heap.size ≤ x := fun x hx => Nat.le_trans hW.size (n4.2 x hx)
      replace n4 := n4.1
      replace hW := hW.trans x4
      replace o3 := o3.ext x4
      clear x4
      go_wp2_with fail
      refine (spec_DescribeChanges _ _ x y  _ o3.sl o4.sl HS0 HS1).mono ?_
      rintro e w5 ⟨v5m, F5, rfl, o5, n5, x5⟩
      have d3_5 : Dis F3 F5 := Dis.new o3.lt n5
      have d4_5 : Dis F4 F5 := Dis.new o4.lt n5
      have b5 : ∀ x ∈ F5, w.heap.size ≤ x := fun x hx => Nat.le_trans hW.size (n5.2 x hx)
      replace n5 := n5.1
      replace hW := hW.trans x5
      replace o3 := o3.ext x5
      replace o4 := o4.ext x5
      clear x5
      go_wp2_with fail
      refine (toEntityS_c _ x _ (h0.mono hW) HS0).mono ?_
      rintro e w6 ⟨v6m, F6, rfl, o6, n6, x6⟩
      have d5_6 : Dis F5 F6 := Dis.new o5.lt n6
      have b6 : ∀ x ∈ F6, w.heap.size ≤ x := fun x hx => Nat.le_trans hW.size (n6.2 x hx)
      replace n6 := n6.1
      replace hW := hW.trans x6
      replace o5 := o5.ext x6
      clear x6
      go_wp2_with fail
      refine (toEntityS_c _ y _ (h1.mono hW) HS1).mono ?_
      rintro e w7 ⟨v7m, F7, rfl, o7, n7, x7⟩
      have d5_7 : Dis F5 F7 := Dis.new o5.lt n7
      have d6_7 : Dis F6 F7 := Dis.new o6.lt n7
      have b7 : ∀ x ∈ F7, w.heap.size ≤ x := fun x hx => Nat.le_trans hW.size (n7.2 x hx)
      replace n7 := n7.1
      replace hW := hW.trans x7
      replace o5 := o5.ext x7
      replace o6 := o6.ext x7
      clear x7
      go_wp2_with fail
      refine (impl_DescribeChanges _ _ x y  _ o6.sl o7.sl HS0 HS1).mono ?_
      rintro e w8 ⟨v8m, F8, rfl, o8, n8, x8⟩
      have d5_8 : Dis F5 F8 := Dis.new o5.lt n8
      have d6_8 : Dis F6 F8 := Dis.new o6.lt n8
      have d7_8 : Dis F7 F8 := Dis.new o7.lt n8
      have b8 : ∀ x ∈ F8, w.heap.size ≤ x := fun x hx => Nat.le_trans hW.size (n8.2 x hx)
      replace n8 := n8.1
      replace hW := hW.trans x8
      replace o5 := o5.ext x8
      replace o6 := o6.ext x8
      replace o7 := o7.ext x8
      clear x8
      go_wp2_with fail
      refine (eqChangeS_c _ _ (desc x y) (desc x y) _ o8.sl o5.sl).mono ?_
      rintro e w9 ⟨rfl, x9⟩
      rw [eqB_self]
      replace hW := hW.trans x9
      replace o5 := o5.ext x9
      replace o6 := o6.ext x9
      replace o7 := o7.ext x9
      replace o8 := o8.ext x9
      clear x9
      go_wp2_with fail
      refine (toEntityS_c _ x _ (h0.mono hW) HS0).mono ?_
      rintro e w10 ⟨v10m, F10, rfl, o10, n10, x10⟩
      have d5_10 : Dis F5 F10 := Dis.new o5.lt n10
      have d6_10 : Dis F6 F10 := Dis.new o6.lt n10
      have d7_10 : Dis F7 F10 := Dis.new o7.lt n10
      have d8_10 : Dis F8 F10 := Dis.new o8.lt n10
      have b10 : ∀ x ∈ F10, w.heap.size ≤ x := fun x hx => Nat.le_trans hW.size (n10.2 x hx)
      replace n10 := n10.1
      replace hW := hW.trans x10
      replace o5 := o5.ext x10
      replace o6 := o6.ext x10
      replace o7 := o7.ext x10
      replace o8 := o8.ext x10
      clear x10
      go_wp2_with fail
      refine (eqEntityS_c _ _ x x _ o6.sl o10.sl).mono ?_
      rintro e w11 ⟨rfl, x11⟩
      rw [eqB_self]
      replace hW := hW.trans x11
      replace o5 := o5.ext x11
      replace o6 := o6.ext x11
      replace o7 := o7.ext x11
      replace o8 := o8.ext x11
      replace o10 := o10.ext x11
      clear x11
      go_wp2_with fail
      refine (toEntityS_c _ y _ (h1.mono hW) HS1).mono ?_
      rintro e w12 ⟨v12m, F12, rfl, o12, n12, x12⟩
      have d5_12 : Dis F5 F12 := Dis.new o5.lt n12
      have d6_12 : Dis F6 F12 := Dis.new o6.lt n12
      have d7_12 : Dis F7 F12 := Dis.new o7.lt n12
      have d8_12 : Dis F8 F12 := Dis.new o8.lt n12
      have b12 : ∀ x ∈ F12, w.heap.size ≤ x := fun x hx => Nat.le_trans hW.size (n12.2 x hx)
      replace n12 := n12.1
      replace hW := hW.trans x12
      replace o5 := o5.ext x12
      replace o6 := o6.ext x12
      replace o7 := o7.ext x12
      replace o8 := o8.ext x12
      clear x12
      go_wp2_with fail
      refine (eqEntityS_c _ _ y y _ o7.sl o12.sl).mono ?_
      rintro e w13 ⟨rfl, x13⟩
      rw [eqB_self]
      replace hW := hW.trans x13
      replace o5 := o5.ext x13
      replace o6 := o6.ext x13
      replace o7 := o7.ext x13
      replace o8 := o8.ext x13
      replace o12 := o12.ext x13
      clear x13
      have hc0 := cntEntityS_le x
      go_wp2_with fail
      refine (markEntityS_c _ x F6 1 _ o6 n6 (by omega) (by have := HS0; omega)).mono ?_
      rintro e w14 ⟨ys6, rfl, p14, mk6, ch14⟩
      replace o5 := ch14.keepSl d5_6 o5
      replace o7 := ch14.keepSl d6_7.symm o7
      replace o8 := ch14.keepSl d6_8.symm o8
      replace hW := ch14.ext b6 hW
      clear o6 ch14
      have o6 := p14
      clear p14
      obtain ⟨K14, hK14⟩ : ∃ K, K = 1 + (((lstMk entityMk).cnt x : Nat) : Int) := ⟨_, rfl⟩
      rw [← hK14]
      have hk14 : 0 ≤ K14 ∧ K14 ≤ 1048577 := by have := HS0; omega
      clear hK14 hc0 mk6
      have hc1 := cntEntityS_le y
      go_wp2_with fail
      refine (markEntityS_c _ y F7 K14 _ o7 n7 (by omega) (by have := HS1; omega)).mono ?_
      rintro e w15 ⟨ys7, rfl, p15, mk7, ch15⟩
      replace o5 := ch15.keepSl d5_7 o5
      replace o8 := ch15.keepSl d7_8.symm o8
      replace hW := ch15.ext b7 hW
      clear o7 ch15
      have o7 := p15
      clear p15
      obtain ⟨K15, hK15⟩ : ∃ K, K = K14 + (((lstMk entityMk).cnt y : Nat) : Int) := ⟨_, rfl⟩
      rw [← hK15]
      have hk15 : 0 ≤ K15 ∧ K15 ≤ 2097153 := by have := HS1; omega
      clear hK15 hc1 mk7
      go_wp2_with fail
      refine (eqChangeS_c _ _ (desc x y) (desc x y) _ o8.sl o5.sl).mono ?_
      rintro e w16 ⟨rfl, x16⟩
      rw [eqB_self]
      replace hW := hW.trans x16
      replace o5 := o5.ext x16
      replace o8 := o8.ext x16
      clear x16
      go_wp2_with fail
      refine (markChangeS_c _ (desc x y) F8 1 _ o8 n8 (by omega) (by have := HBD.out; omega)).mono ?_
      rintro e w17 ⟨ys8, rfl, p17, mk8, ch17⟩
      replace o5 := ch17.keepSl d5_8 o5
      replace hW := ch17.ext b8 hW
      clear o8 ch17
      have o8 := p17
      clear p17
      obtain ⟨K17, hK17⟩ : ∃ K, K = 1 + (((lstMk changeMk).cnt (desc x y) : Nat) : Int) := ⟨_, rfl⟩
      rw [← hK17]
      have hk17 : 0 ≤ K17 := by omega
      have HK17 := hid hK17
      clear hK17
      go_wp2_with fail
      refine (heldChangeS_c _ (desc x y) ys8 1 _ o8.sl mk8 (by omega) (by have := HBD.out; omega)).mono ?_
      rintro e w18 ⟨rfl, rfl⟩
      rw [← HK17.out]
      go_wp2_with fail
      refine (toEntityS_c _ x _ (h0.mono hW) HS0).mono ?_
      rintro e w19 ⟨v19m, F19, rfl, o19, n19, x19⟩
      have d5_19 : Dis F5 F19 := Dis.new o5.lt n19
      have d8_19 : Dis F8 F19 := Dis.new o8.lt n19
      have b19 : ∀ x ∈ F19, w.heap.size ≤ x := fun x hx => Nat.le_trans hW.size (n19.2 x hx)
      replace n19 := n19.1
      replace hW := hW.trans x19
      replace o5 := o5.ext x19
      replace o8 := o8.ext x19
      clear x19
      go_wp2_with fail
      refine (toEntityS_c _ y _ (h1.mono hW) HS1).mono ?_
      rintro e w20 ⟨v20m, F20, rfl, o20, n20, x20⟩
      have d5_20 : Dis F5 F20 := Dis.new o5.lt n20
      have d8_20 : Dis F8 F20 := Dis.new o8.lt n20
      have d19_20 : Dis F19 F20 := Dis.new o19.lt n20
      have b20 : ∀ x ∈ F20, w.heap.size ≤ x := fun x hx => Nat.le_trans hW.size (n20.2 x hx)
      replace n20 := n20.1
      replace hW := hW.trans x20
      replace o5 := o5.ext x20
      replace o8 := o8.ext x20
      replace o19 := o19.ext x20
      clear x20
      go_wp2_with fail
      refine (impl_DescribeChanges _ _ x y  _ o19.sl o20.sl HS0 HS1).mono ?_
      rintro e w21 ⟨v21m, F21, rfl, o21, n21, x21⟩
      have d5_21 : Dis F5 F21 := Dis.new o5.lt n21
      have d8_21 : Dis F8 F21 := Dis.new o8.lt n21
      have d19_21 : Dis F19 F21 := Dis.new o19.lt n21
      have d20_21 : Dis F20 F21 := Dis.new o20.lt n21
      have b21 : ∀ x ∈ F21, w.heap.size ≤ x := fun x hx => Nat.le_trans hW.size (n21.2 x hx)
      replace n21 := n21.1
      replace hW := hW.trans x21
      replace o5 := o5.ext x21
      replace o8 := o8.ext x21
      replace o19 := o19.ext x21
      replace o20 := o20.ext x21
      clear x21
      go_wp2_with fail
      refine (eqChangeS_c _ _ (desc x y) (desc x y) _ o21.sl o5.sl).mono ?_
      rintro e w22 ⟨rfl, x22⟩
      rw [eqB_self]
      replace hW := hW.trans x22
      replace o5 := o5.ext x22
      replace o8 := o8.ext x22
      replace o19 := o19.ext x22
      replace o20 := o20.ext x22
      replace o21 := o21.ext x22
      clear x22
      go_wp2_with fail
      refine (heldChangeS_c _ (desc x y) ys8 1 _ o8.sl mk8 (by omega) (by have := HBD.out; omega)).mono ?_
      rintro e w23 ⟨rfl, rfl⟩
      rw [← HK17.out]
      go_wp2
      go_ret
      exact ⟨rfl, hW⟩

set_option maxHeartbeats 400000 in
set_option maxRecDepth 100000 in
theorem lifted_ExactDescribeChanges (os : Os) (started : os.Started) (H : Type) (enc : TypeId × Value → H) :
    ReturnsInHanded {} Try.checked os 12 .any (Rows.fnExactDescribeChangesSpec.pre6 enc Try.prog Try.f12 Rows.fnExactDescribeChangesRow.domain false) (Rows.fnExactDescribeChangesSpec.post enc Try.prog Try.f12 false true false false) := by
  refine returnsInHanded_of_change (C := Try.checked) own started (by kernel_rfl) Try.func12
    (ChangeSpec.witness6 (enc := enc) (C := Try.checked) false ⟨#[], #[.slice none 0 0, .slice none 0 0], []⟩ 8 (by kernel_rfl) (by kernel_rfl) (by kernel_rfl) (by kernel_rfl)) ?_
  intro W base args ds gs before hval0 hW _ _
  have hval : ∀ (j : Nat) t v, Try.f12.params[j]? = some t → args[j]? = some v → Value.okWide Try.prog W .any base t v := hval0
  have hW2 := hW
  obtain ⟨p, q, hA0, hV, rfl, hfz, hnd⟩ := hW
  have hA : DataW.TrodAll enc Try.prog W 0 (fun _ => true) true Try.f12.params.toList args.toList ds p := hA0
  rw [Try.params12] at hA hval
  obtain ⟨v0, v1, d0, d1, p0, p1, rfl, rfl, rfl, h0, h1⟩ := trodAll_two hA
  obtain ⟨x0, h0x⟩ := arg_slice Try.underlying36 rLawEntities (hval 0 _ v0 rfl rfl) h0
  obtain ⟨x1, h1x⟩ := arg_slice Try.underlying36 rLawEntities (hval 1 _ v1 rfl rfl) h1
  refine law_post laidOut (by rw [Try.params12]; intro t ht; simp at ht; first | (subst ht; exact ⟨by kernel_rfl, of_decide_eq_true (by kernel_rfl)⟩) | (rcases ht with rfl | rfl <;> exact ⟨by kernel_rfl, of_decide_eq_true (by kernel_rfl)⟩)) (tb := 4) rfl Try.underlying4 rfl rfl hW2 ?_
  exact law_DescribeChanges _ x0 _ x1 W h0x h1x

theorem ExactDescribeChanges_holds : Rows.FnExactDescribeChangesSaid :=
  OpenClaim.holds_of_wide 12 Try.f12 rfl rfl rfl rfl rfl rfl rfl ⟨rfl, rfl, rfl, rfl, rfl⟩ rfl rfl rfl rfl rfl (by kernel_rfl) Try.func12 (by kernel_rfl)
    (of_decide_eq_true (by kernel_rfl)) (by unfold Func.isWrapper; first | (rw [if_pos (by decide +kernel)]; kernel_rfl) | (rw [if_neg (by decide +kernel)]; exact ⟨rfl, rfl⟩))
    (fun os started H enc _ => lifted_ExactDescribeChanges os started H enc)
end Go.Proofs.Ytenfgmpndpgbhaa

