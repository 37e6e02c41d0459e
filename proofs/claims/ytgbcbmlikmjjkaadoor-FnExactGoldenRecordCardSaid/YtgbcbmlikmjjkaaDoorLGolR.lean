/-
  THE LAW'S WALK: FnExactGoldenRecord.
-/
import Derived.Test.YtgbcbmlikmjjkaaDoorGolR
import Derived.Test.YtgbcbmlikmjjkaaDoorMarkRS
import Derived.Test.YtgbcbmlikmjjkaaDoorMark
namespace Go.Proofs.YtgbcbmlikmjjkaaDoor
open Go.RowKit

set_option maxHeartbeats 400000 in
set_option maxRecDepth 20000 in
theorem law_GoldenRecord (v0 : Value) (x : List Record) (v1 : Value) (r : List Int) (w : World) (h0 : Sl recordR w v0 x) (h1 : Sl intR w v1 r) (M : ML w) :
    Calls Tryd.prog 11 #[v0, v1] w fun e w2 => e = .returned (.bool true) ∧ Ext w w2 := by
  have HBD := hid (grN_len x r)
  have HRC := hid (show (lstMk intMk).cnt r = r.length from intMk_sum r)
  have HRS := hid (recSum_ms x)
  have hne : (grOk x r != grOk x r) = false := by simp
  obtain ⟨A1, cap1, rfl, hm1⟩ := h1.form
  by_cases hs1 : r.length ≤ 1048576
  · go_enter Tryd.func11, Tryd.ntmps11
    go_wp2_with fail
    refine (szRecordS_c _ x _ _ h0 (by omega) (by omega)).mono ?_
    rintro e w1 ⟨rfl, hW⟩
    by_cases hs0 : 1048576 < (((x.length + sumBy msRec x) : Nat) : Int)
    · rw [szv_neg hs0]
      go_wp2
      go_ret
      exact ⟨rfl, hW⟩
    · have hl0 := szv_nn hs0
      have hu0 := szv_le (n := (((x.length + sumBy msRec x) : Nat) : Int)) (left := 1048576) (by omega) (by omega)
      generalize szv (((x.length + sumBy msRec x) : Nat) : Int) 1048576 = L0 at hl0 hu0 ⊢
      have HS0 : (x.length + sumBy msRec x) ≤ 1048576 := by omega
      have HRB := hid (show recSum x ≤ 3145728 by have := HRS.out; omega)
      clear hs0
      go_wp2_with fail
      refine (toRecordS_c _ x _ (h0.mono hW) HS0).mono ?_
      rintro e w2 ⟨v2, F2, rfl, o2, n2, x2⟩
      clear n2
      replace hW := hW.trans x2
      clear x2
      go_wp2_with fail
      refine (toIntS_c _ r _ (h1.mono hW) hs1).mono ?_
      rintro e w3 ⟨v3, F3, rfl, o3, n3, x3⟩
      clear n3
      replace hW := hW.trans x3
      replace o2 := o2.ext x3
      clear x3
      go_wp2_with fail
      refine (spec_GoldenRecord _ _ x r _ o2.sl o3.sl).mono ?_
      rintro e w4 ⟨v4, F4, rfl, o4, n4, x4⟩
      clear n4 o2 o3
      replace hW := hW.trans x4
      clear x4
      go_wp2_with fail
      refine (toRecordS_c _ x _ (h0.mono hW) HS0).mono ?_
      rintro e w5 ⟨v5, F5, rfl, o5, n5, x5⟩
      have d45 : Dis F4 F5 := Dis.new o4.lt n5
      have b5 := fun x (hx : x ∈ F5) => Nat.le_trans hW.size (n5.2 x hx)
      have N5 := n5.1
      clear n5
      replace hW := hW.trans x5
      replace o4 := o4.ext x5
      clear x5
      go_wp2_with fail
      refine (toIntS_c _ r _ (h1.mono hW) hs1).mono ?_
      rintro e w6 ⟨v6, F6, rfl, o6, n6, x6⟩
      have d46 : Dis F4 F6 := Dis.new o4.lt n6
      have d56 : Dis F5 F6 := Dis.new o5.lt n6
      have b6 := fun x (hx : x ∈ F6) => Nat.le_trans hW.size (n6.2 x hx)
      have N6 := n6.1
      clear n6
      replace hW := hW.trans x6
      replace o4 := o4.ext x6
      replace o5 := o5.ext x6
      clear x6
      go_wp2_with fail
      refine (impl_GoldenRecord _ _ x r _ o5.sl o6.sl (M.mono hW)).mono ?_
      rintro e w7 ⟨v7, F7, rfl, o7, n7, x7⟩
      have d47 : Dis F4 F7 := Dis.new o4.lt n7
      have d57 : Dis F5 F7 := Dis.new o5.lt n7
      have d67 : Dis F6 F7 := Dis.new o6.lt n7
      have b7 := fun x (hx : x ∈ F7) => Nat.le_trans hW.size (n7.2 x hx)
      have N7 := n7.1
      clear n7
      replace hW := hW.trans x7
      replace o4 := o4.ext x7
      replace o5 := o5.ext x7
      replace o6 := o6.ext x7
      clear x7
      go_wp2_with fail
      refine (eqStringS_c _ _ (grN x r) (grN x r) _ o7.sl o4.sl).mono ?_
      rintro e w8 ⟨rfl, x8⟩
      rw [eqB_self]
      replace hW := hW.trans x8
      replace o4 := o4.ext x8
      replace o5 := o5.ext x8
      replace o6 := o6.ext x8
      replace o7 := o7.ext x8
      clear x8
      go_wp2_with fail
      refine (toRecordS_c _ x _ (h0.mono hW) HS0).mono ?_
      rintro e w9 ⟨v9, F9, rfl, o9, n9, x9⟩
      clear n9
      replace hW := hW.trans x9
      replace o4 := o4.ext x9
      replace o5 := o5.ext x9
      replace o6 := o6.ext x9
      replace o7 := o7.ext x9
      clear x9
      go_wp2_with fail
      refine (eqRecordS_c _ _ x x _ o5.sl o9.sl).mono ?_
      rintro e w10 ⟨rfl, x10⟩
      rw [eqB_self]
      clear o9
      replace hW := hW.trans x10
      replace o4 := o4.ext x10
      replace o5 := o5.ext x10
      replace o6 := o6.ext x10
      replace o7 := o7.ext x10
      clear x10
      go_wp2_with fail
      refine (toIntS_c _ r _ (h1.mono hW) hs1).mono ?_
      rintro e w11 ⟨v11, F11, rfl, o11, n11, x11⟩
      clear n11
      replace hW := hW.trans x11
      replace o4 := o4.ext x11
      replace o5 := o5.ext x11
      replace o6 := o6.ext x11
      replace o7 := o7.ext x11
      clear x11
      go_wp2_with fail
      refine (eqIntS_c _ _ r r _ o6.sl o11.sl).mono ?_
      rintro e w12 ⟨rfl, x12⟩
      rw [eqB_self]
      clear o11
      replace hW := hW.trans x12
      replace o4 := o4.ext x12
      replace o5 := o5.ext x12
      replace o6 := o6.ext x12
      replace o7 := o7.ext x12
      clear x12
      go_wp2_with fail
      refine (markRecordS_c _ x F5 1 _ o5 N5 (by omega) (by have := HRB.out; omega)).mono ?_
      rintro e w13 ⟨K, rfl, hK, ch⟩
      replace o4 := ch.keepSl d45 o4
      replace o6 := ch.keepSl d56.symm o6
      replace o7 := ch.keepSl d57.symm o7
      replace hW := ch.ext b5 hW
      clear ch o5
      have hK2 : 0 ≤ K ∧ K ≤ 3145729 := by have := HRB.out; omega
      clear hK
      go_wp2_with fail
      refine (markIntS_c _ r F6 K _ o6 N6 (by omega) (by have := HRC.out; omega)).mono ?_
      rintro e w14 ⟨ys6, rfl, p6, mk6, ch⟩
      replace o4 := ch.keepSl d46 o4
      replace o7 := ch.keepSl d67.symm o7
      replace hW := ch.ext b6 hW
      clear ch o6 p6 mk6
      obtain ⟨K2, hKK⟩ : ∃ K2, K2 = K + (((lstMk intMk).cnt r : Nat) : Int) := ⟨_, rfl⟩
      rw [← hKK]
      have hK3 : 0 ≤ K2 := by omega
      clear hKK
      go_wp2_with fail
      refine (eqStringS_c _ _ (grN x r) (grN x r) _ o7.sl o4.sl).mono ?_
      rintro e w15 ⟨rfl, x15⟩
      rw [eqB_self]
      replace hW := hW.trans x15
      replace o4 := o4.ext x15
      replace o7 := o7.ext x15
      clear x15
      go_wp2_with fail
      refine (markStringS_t _ (grN x r) F7 1 _ o7 N7 (by omega) (by have := HBD.out; omega)).mono ?_
      rintro e w16 ⟨ys, rfl, p7, hyl, mk7, ch⟩
      replace o4 := ch.keepSl d47 o4
      replace hW := ch.ext b7 hW
      clear o7 ch
      have HYL := hid hyl
      clear hyl
      obtain ⟨K4, hK4⟩ : ∃ K4, K4 = 1 + ((((grN x r).length : Nat)) : Int) := ⟨_, rfl⟩
      rw [← hK4]
      have hk4 : 0 ≤ K4 := by omega
      have HK4 := hid (show 1 + ((ys.length : Nat) : Int) = K4 by rw [HYL.out]; exact hK4.symm)
      clear hK4
      have HYB : ys.length ≤ 4 := by rw [HYL.out]; exact HBD.out
      go_wp2_with fail
      refine (heldStringS_c _ ys 1 _ p7.sl mk7 (by omega) (by omega)).mono ?_
      rintro e w17 ⟨rfl, x17⟩
      rw [HK4.out]
      replace hW := hW.trans x17
      replace o4 := o4.ext x17
      replace p7 := p7.ext x17
      clear x17
      go_wp2_with fail
      refine (toRecordS_c _ x _ (h0.mono hW) HS0).mono ?_
      rintro e w18 ⟨v18, F18, rfl, o18, n18, x18⟩
      clear n18
      replace hW := hW.trans x18
      replace o4 := o4.ext x18
      replace p7 := p7.ext x18
      clear x18
      go_wp2_with fail
      refine (toIntS_c _ r _ (h1.mono hW) hs1).mono ?_
      rintro e w19 ⟨v19, F19, rfl, o19, n19, x19⟩
      clear n19
      replace hW := hW.trans x19
      replace o4 := o4.ext x19
      replace p7 := p7.ext x19
      replace o18 := o18.ext x19
      clear x19
      go_wp2_with fail
      refine (impl_GoldenRecord _ _ x r _ o18.sl o19.sl (M.mono hW)).mono ?_
      rintro e w20 ⟨v20, F20, rfl, o20, n20, x20⟩
      clear n20 o18 o19
      replace hW := hW.trans x20
      replace o4 := o4.ext x20
      replace p7 := p7.ext x20
      clear x20
      go_wp2_with fail
      refine (eqStringS_c _ _ (grN x r) (grN x r) _ o20.sl o4.sl).mono ?_
      rintro e w21 ⟨rfl, x21⟩
      rw [eqB_self]
      clear o20
      replace hW := hW.trans x21
      replace p7 := p7.ext x21
      clear x21 o4
      go_wp2_with fail
      refine (heldStringS_c _ ys 1 _ p7.sl mk7 (by omega) (by omega)).mono ?_
      rintro e w22 ⟨rfl, x22⟩
      rw [HK4.out]
      go_wp2
      go_ret
      exact ⟨rfl, hW.trans x22⟩
  · go_enter Tryd.func11, Tryd.ntmps11
    go_wp2
    go_ret
    exact ⟨rfl, Ext.refl _⟩
end Go.Proofs.YtgbcbmlikmjjkaaDoor
