/-
  THE LAW'S WALK: FnExactVerdictConstraints.
-/
import Derived.Test.YtbhhbdilaihegaaVCons
import Derived.Test.YtbhhbdilaihegaaCnt
namespace Go.Proofs.Ytbhhbdilaihegaa
open Go.RowKit

theorem vcons_cnt (y : List Int) (x : List Verdict) (h : x.length ≤ 1048576) : (lstMk constraintMk).cnt (vcons y x) ≤ 3145728 := by
  refine Nat.le_trans (cntConstraintS_le _) ?_
  have := flat_len (vcon y) (vcon_len y) x
  unfold vcons; omega

set_option maxHeartbeats 400000 in
theorem law_VerdictConstraints (v0 : Value) (x : List Verdict) (v1 : Value) (y : List Int) (w : World) (h0 : Sl verdictR w v0 x) (h1 : Sl intR w v1 y) :
    Calls Try.prog 4 #[v0, v1] w fun e w2 => e = .returned (.bool true) ∧ Ext w w2 := by
  obtain ⟨A1, cap1, rfl, hm1⟩ := h1.form
  by_cases hs1 : y.length ≤ 1048576
  · have hW : Ext w w := Ext.refl w
    go_enter Try.func4, Try.ntmps4
    go_wp2_with fail
    refine (szVerdictS_c _ x _ _ (h0.mono hW) (by omega) (by omega)).mono ?_
    rintro e w1 ⟨rfl, x1⟩
    replace hW := hW.trans x1
    clear x1
    by_cases hs0 : 1048576 < ((x.length : Nat) : Int)
    · rw [szv_neg hs0]
      go_wp2
      go_ret
      exact ⟨rfl, hW⟩
    · have hl0 := szv_nn hs0
      have hu0 := szv_le (n := ((x.length : Nat) : Int)) (left := 1048576) (by omega) (by omega)
      generalize szv ((x.length : Nat) : Int) 1048576 = L0 at hl0 hu0 ⊢
      have HS0 : x.length ≤ 1048576 := by omega
      clear hs0
      have hbd : (lstMk constraintMk).cnt (vcons y x) ≤ 3145728 := vcons_cnt y x HS0
      have HBD := hid hbd
      clear hbd
      go_wp2_with fail
      refine (toVerdictS_c _ x _ (h0.mono hW) HS0).mono ?_
      rintro e w2 ⟨v2m, F2, rfl, o2, n2, x2⟩
      have b2 : ∀ x ∈ F2, w.heap.size ≤ x := fun x hx => Nat.le_trans hW.size (n2.2 x hx)
      replace n2 := n2.1
      replace hW := hW.trans x2
      clear x2
      go_wp2_with fail
      refine (toIntS_c _ y _ (h1.mono hW) hs1).mono ?_
      rintro e w3 ⟨v3m, F3, rfl, o3, n3, x3⟩
      have d2_3 : Dis F2 F3 := Dis.new o2.lt n3
      have b3 : ∀ x ∈ F3, w.heap.size ≤ x := fun x hx => Nat.le_trans hW.size (n3.2 x hx)
      replace n3 := n3.1
      replace hW := hW.trans x3
      replace o2 := o2.ext x3
      clear x3
      go_wp2_with fail
      refine (spec_VerdictConstraints _ _ x y  _ o2.sl o3.sl HS0).mono ?_
      rintro e w4 ⟨v4m, F4, rfl, o4, n4, x4⟩
      have d2_4 : Dis F2 F4 := Dis.new o2.lt n4
      have d3_4 : Dis F3 F4 := Dis.new o3.lt n4
      have b4 : ∀ x ∈ F4, w.heap.size ≤ x := fun x hx => Nat.le_trans hW.size (n4.2 x hx)
      replace n4 := n4.1
      replace hW := hW.trans x4
      replace o2 := o2.ext x4
      replace o3 := o3.ext x4
      clear x4
      go_wp2_with fail
      refine (toVerdictS_c _ x _ (h0.mono hW) HS0).mono ?_
      rintro e w5 ⟨v5m, F5, rfl, o5, n5, x5⟩
      have d4_5 : Dis F4 F5 := Dis.new o4.lt n5
      have b5 : ∀ x ∈ F5, w.heap.size ≤ x := fun x hx => Nat.le_trans hW.size (n5.2 x hx)
      replace n5 := n5.1
      replace hW := hW.trans x5
      replace o4 := o4.ext x5
      clear x5
      go_wp2_with fail
      refine (toIntS_c _ y _ (h1.mono hW) hs1).mono ?_
      rintro e w6 ⟨v6m, F6, rfl, o6, n6, x6⟩
      have d4_6 : Dis F4 F6 := Dis.new o4.lt n6
      have d5_6 : Dis F5 F6 := Dis.new o5.lt n6
      have b6 : ∀ x ∈ F6, w.heap.size ≤ x := fun x hx => Nat.le_trans hW.size (n6.2 x hx)
      replace n6 := n6.1
      replace hW := hW.trans x6
      replace o4 := o4.ext x6
      replace o5 := o5.ext x6
      clear x6
      go_wp2_with fail
      refine (impl_VerdictConstraints _ _ x y  _ o5.sl o6.sl HS0).mono ?_
      rintro e w7 ⟨v7m, F7, rfl, o7, n7, x7⟩
      have d4_7 : Dis F4 F7 := Dis.new o4.lt n7
      have d5_7 : Dis F5 F7 := Dis.new o5.lt n7
      have d6_7 : Dis F6 F7 := Dis.new o6.lt n7
      have b7 : ∀ x ∈ F7, w.heap.size ≤ x := fun x hx => Nat.le_trans hW.size (n7.2 x hx)
      replace n7 := n7.1
      replace hW := hW.trans x7
      replace o4 := o4.ext x7
      replace o5 := o5.ext x7
      replace o6 := o6.ext x7
      clear x7
      go_wp2_with fail
      refine (eqConstraintS_c _ _ (vcons y x) (vcons y x) _ o7.sl o4.sl).mono ?_
      rintro e w8 ⟨rfl, x8⟩
      rw [eqB_self]
      replace hW := hW.trans x8
      replace o4 := o4.ext x8
      replace o5 := o5.ext x8
      replace o6 := o6.ext x8
      replace o7 := o7.ext x8
      clear x8
      go_wp2_with fail
      refine (toVerdictS_c _ x _ (h0.mono hW) HS0).mono ?_
      rintro e w9 ⟨v9m, F9, rfl, o9, n9, x9⟩
      have d4_9 : Dis F4 F9 := Dis.new o4.lt n9
      have d5_9 : Dis F5 F9 := Dis.new o5.lt n9
      have d6_9 : Dis F6 F9 := Dis.new o6.lt n9
      have d7_9 : Dis F7 F9 := Dis.new o7.lt n9
      have b9 : ∀ x ∈ F9, w.heap.size ≤ x := fun x hx => Nat.le_trans hW.size (n9.2 x hx)
      replace n9 := n9.1
      replace hW := hW.trans x9
      replace o4 := o4.ext x9
      replace o5 := o5.ext x9
      replace o6 := o6.ext x9
      replace o7 := o7.ext x9
      clear x9
      go_wp2_with fail
      refine (eqVerdictS_c _ _ x x _ o5.sl o9.sl).mono ?_
      rintro e w10 ⟨rfl, x10⟩
      rw [eqB_self]
      replace hW := hW.trans x10
      replace o4 := o4.ext x10
      replace o5 := o5.ext x10
      replace o6 := o6.ext x10
      replace o7 := o7.ext x10
      replace o9 := o9.ext x10
      clear x10
      go_wp2_with fail
      refine (toIntS_c _ y _ (h1.mono hW) hs1).mono ?_
      rintro e w11 ⟨v11m, F11, rfl, o11, n11, x11⟩
      have d4_11 : Dis F4 F11 := Dis.new o4.lt n11
      have d5_11 : Dis F5 F11 := Dis.new o5.lt n11
      have d6_11 : Dis F6 F11 := Dis.new o6.lt n11
      have d7_11 : Dis F7 F11 := Dis.new o7.lt n11
      have b11 : ∀ x ∈ F11, w.heap.size ≤ x := fun x hx => Nat.le_trans hW.size (n11.2 x hx)
      replace n11 := n11.1
      replace hW := hW.trans x11
      replace o4 := o4.ext x11
      replace o5 := o5.ext x11
      replace o6 := o6.ext x11
      replace o7 := o7.ext x11
      clear x11
      go_wp2_with fail
      refine (eqIntS_c _ _ y y _ o6.sl o11.sl).mono ?_
      rintro e w12 ⟨rfl, x12⟩
      rw [eqB_self]
      replace hW := hW.trans x12
      replace o4 := o4.ext x12
      replace o5 := o5.ext x12
      replace o6 := o6.ext x12
      replace o7 := o7.ext x12
      replace o11 := o11.ext x12
      clear x12
      have hc0 := cntVerdictS_le x
      go_wp2_with fail
      refine (markVerdictS_c _ x F5 1 _ o5 n5 (by omega) (by have := HS0; omega)).mono ?_
      rintro e w13 ⟨ys5, rfl, p13, mk5, ch13⟩
      replace o4 := ch13.keepSl d4_5 o4
      replace o6 := ch13.keepSl d5_6.symm o6
      replace o7 := ch13.keepSl d5_7.symm o7
      replace hW := ch13.ext b5 hW
      clear o5 ch13
      have o5 := p13
      clear p13
      obtain ⟨K13, hK13⟩ : ∃ K, K = 1 + (((lstMk verdictMk).cnt x : Nat) : Int) := ⟨_, rfl⟩
      rw [← hK13]
      have hk13 : 0 ≤ K13 ∧ K13 ≤ 4194305 := by have := HS0; omega
      clear hK13 hc0 mk5
      have hc1 := cntIntS_le y
      go_wp2_with fail
      refine (markIntS_c _ y F6 K13 _ o6 n6 (by omega) (by have := hs1; omega)).mono ?_
      rintro e w14 ⟨ys6, rfl, p14, mk6, ch14⟩
      replace o4 := ch14.keepSl d4_6 o4
      replace o7 := ch14.keepSl d6_7.symm o7
      replace hW := ch14.ext b6 hW
      clear o6 ch14
      have o6 := p14
      clear p14
      obtain ⟨K14, hK14⟩ : ∃ K, K = K13 + (((lstMk intMk).cnt y : Nat) : Int) := ⟨_, rfl⟩
      rw [← hK14]
      have hk14 : 0 ≤ K14 ∧ K14 ≤ 5242881 := by have := hs1; omega
      clear hK14 hc1 mk6
      go_wp2_with fail
      refine (eqConstraintS_c _ _ (vcons y x) (vcons y x) _ o7.sl o4.sl).mono ?_
      rintro e w15 ⟨rfl, x15⟩
      rw [eqB_self]
      replace hW := hW.trans x15
      replace o4 := o4.ext x15
      replace o7 := o7.ext x15
      clear x15
      go_wp2_with fail
      refine (markConstraintS_c _ (vcons y x) F7 1 _ o7 n7 (by omega) (by have := HBD.out; omega)).mono ?_
      rintro e w16 ⟨ys7, rfl, p16, mk7, ch16⟩
      replace o4 := ch16.keepSl d4_7 o4
      replace hW := ch16.ext b7 hW
      clear o7 ch16
      have o7 := p16
      clear p16
      obtain ⟨K16, hK16⟩ : ∃ K, K = 1 + (((lstMk constraintMk).cnt (vcons y x) : Nat) : Int) := ⟨_, rfl⟩
      rw [← hK16]
      have hk16 : 0 ≤ K16 := by omega
      have HK16 := hid hK16
      clear hK16
      go_wp2_with fail
      refine (heldConstraintS_c _ (vcons y x) ys7 1 _ o7.sl mk7 (by omega) (by have := HBD.out; omega)).mono ?_
      rintro e w17 ⟨rfl, rfl⟩
      rw [← HK16.out]
      go_wp2_with fail
      refine (toVerdictS_c _ x _ (h0.mono hW) HS0).mono ?_
      rintro e w18 ⟨v18m, F18, rfl, o18, n18, x18⟩
      have d4_18 : Dis F4 F18 := Dis.new o4.lt n18
      have d7_18 : Dis F7 F18 := Dis.new o7.lt n18
      have b18 : ∀ x ∈ F18, w.heap.size ≤ x := fun x hx => Nat.le_trans hW.size (n18.2 x hx)
      replace n18 := n18.1
      replace hW := hW.trans x18
      replace o4 := o4.ext x18
      replace o7 := o7.ext x18
      clear x18
      go_wp2_with fail
      refine (toIntS_c _ y _ (h1.mono hW) hs1).mono ?_
      rintro e w19 ⟨v19m, F19, rfl, o19, n19, x19⟩
      have d4_19 : Dis F4 F19 := Dis.new o4.lt n19
      have d7_19 : Dis F7 F19 := Dis.new o7.lt n19
      have d18_19 : Dis F18 F19 := Dis.new o18.lt n19
      have b19 : ∀ x ∈ F19, w.heap.size ≤ x := fun x hx => Nat.le_trans hW.size (n19.2 x hx)
      replace n19 := n19.1
      replace hW := hW.trans x19
      replace o4 := o4.ext x19
      replace o7 := o7.ext x19
      replace o18 := o18.ext x19
      clear x19
      go_wp2_with fail
      refine (impl_VerdictConstraints _ _ x y  _ o18.sl o19.sl HS0).mono ?_
      rintro e w20 ⟨v20m, F20, rfl, o20, n20, x20⟩
      have d4_20 : Dis F4 F20 := Dis.new o4.lt n20
      have d7_20 : Dis F7 F20 := Dis.new o7.lt n20
      have d18_20 : Dis F18 F20 := Dis.new o18.lt n20
      have d19_20 : Dis F19 F20 := Dis.new o19.lt n20
      have b20 : ∀ x ∈ F20, w.heap.size ≤ x := fun x hx => Nat.le_trans hW.size (n20.2 x hx)
      replace n20 := n20.1
      replace hW := hW.trans x20
      replace o4 := o4.ext x20
      replace o7 := o7.ext x20
      replace o18 := o18.ext x20
      replace o19 := o19.ext x20
      clear x20
      go_wp2_with fail
      refine (eqConstraintS_c _ _ (vcons y x) (vcons y x) _ o20.sl o4.sl).mono ?_
      rintro e w21 ⟨rfl, x21⟩
      rw [eqB_self]
      replace hW := hW.trans x21
      replace o4 := o4.ext x21
      replace o7 := o7.ext x21
      replace o18 := o18.ext x21
      replace o19 := o19.ext x21
      replace o20 := o20.ext x21
      clear x21
      go_wp2_with fail
      refine (heldConstraintS_c _ (vcons y x) ys7 1 _ o7.sl mk7 (by omega) (by have := HBD.out; omega)).mono ?_
      rintro e w22 ⟨rfl, rfl⟩
      rw [← HK16.out]
      go_wp2
      go_ret
      exact ⟨rfl, hW⟩
  · go_enter Try.func4, Try.ntmps4
    go_wp2
    go_ret
    exact ⟨rfl, (by repeat (first | with_reducible exact Ext.refl _ | with_reducible assumption | with_reducible refine Ext.drew ?_ | with_reducible refine Ext.alloc ?_ _ | with_reducible refine Ext.trans ?_ (by with_reducible assumption)))⟩
end Go.Proofs.Ytbhhbdilaihegaa

