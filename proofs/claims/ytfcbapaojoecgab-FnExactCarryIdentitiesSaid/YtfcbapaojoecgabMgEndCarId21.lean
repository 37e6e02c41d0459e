/-
  THE LAW'S WALK: FnExactCarryIdentities.
-/
import Derived.Test.YtfcbapaojoecgabMgEndCarId19
import Derived.Test.YtfcbapaojoecgabMgEndCarId20
import Derived.Test.YtfcbapaojoecgabMgEndCarId12
import Derived.Test.YtfcbapaojoecgabMgEndCarId0

namespace Go.Proofs.Ytfcbapaojoecgab
open Go.RowKit

theorem carry_cnt (x : List Entity) (y : List (List Int)) (n : Int) : (lstMk entityMk).cnt (carry x y n).1 ≤ 4194304 := by
  refine Nat.le_trans (cntEntityS_le _) ?_
  cases h : okC x y n with
  | false => rw [carry_no h]; decide
  | true =>
    have h1 := ents_small (carry_facts h).1
    unfold msEnts
    omega
set_option maxHeartbeats 4000000 in
set_option maxRecDepth 20000 in
theorem law_CarryIdentities (v0 : Value) (x : List Entity) (v1 : Value) (y : List (List Int)) (n : Int) (w : World) (h0 : Sl entityR w v0 x) (h1 : Sl (slR intR) w v1 y) (h2 : I64 n) :
    Calls Try.prog 3 #[v0, v1, .int .i64 n] w fun e w2 => e = .returned (.bool true) ∧ Ext w w2 := by
  have hW : Ext w w := Ext.refl w
  go_enter Try.func3, Try.ntmps3
  go_wp2_with fail
  refine (szEntityS_c _ x _ _ (h0.mono hW) (by omega) (by omega)).mono ?_
  rintro e w1 ⟨rfl, x1⟩
  replace hW := hW.trans x1
  clear x1
  by_cases hs0 : 1048576 < ((msEnts x : Nat) : Int)
  · rw [szv_neg hs0]
    go_wp2
    go_ret
    exact ⟨rfl, hW⟩
  · have hl0 := szv_nn hs0
    have hu0 := szv_le (n := ((msEnts x : Nat) : Int)) (left := 1048576) (by omega) (by omega)
    generalize szv ((msEnts x : Nat) : Int) 1048576 = L0 at hl0 hu0 ⊢
    have HS0 : msEnts x ≤ 1048576 := by omega
    clear hs0
    go_wp2_with fail
    refine (szIntSS_c _ y _ _ (h1.mono hW) (by omega) (by omega)).mono ?_
    rintro e w2 ⟨rfl, x2⟩
    replace hW := hW.trans x2
    clear x2
    by_cases hs1 : L0 < (((y.length + sumLen y) : Nat) : Int)
    · rw [szv_neg hs1]
      go_wp2
      go_ret
      exact ⟨rfl, hW⟩
    · have hl1 := szv_nn hs1
      have hu1 := szv_le (n := (((y.length + sumLen y) : Nat) : Int)) (left := L0) (by omega) (by omega)
      generalize szv (((y.length + sumLen y) : Nat) : Int) L0 = L1 at hl1 hu1 ⊢
      have HS1 : (y.length + sumLen y) ≤ 1048576 := by omega
      clear hs1
      have hbd : (lstMk entityMk).cnt (carry x y n).1 ≤ 4194304 := carry_cnt x y n
      have HBD := hid hbd
      clear hbd
      go_wp2_with fail
      refine (toEntityS_c _ x _ (h0.mono hW) HS0).mono ?_
      rintro e w3 ⟨v3m, F3, rfl, o3, n3, x3⟩
      have b3 : ∀ x ∈ F3, w.heap.size ≤ x := fun x hx => Nat.le_trans hW.size (n3.2 x hx)
      replace n3 := n3.1
      replace hW := hW.trans x3
      clear x3
      go_wp2_with fail
      refine (toIntSS_c _ y _ (h1.mono hW) HS1).mono ?_
      rintro e w4 ⟨v4m, F4, rfl, o4, n4, x4⟩
      have d3_4 : Dis F3 F4 := Dis.new o3.lt n4
      have b4 : ∀ x ∈ F4, w.heap.size ≤ x := fun x hx => Nat.le_trans hW.size (n4.2 x hx)
      replace n4 := n4.1
      replace hW := hW.trans x4
      replace o3 := o3.ext x4
      clear x4
      go_wp2_with fail
      refine (spec_CarryIdentities _ _ x y n _ o3.sl o4.sl HS0 (by omega)).mono ?_
      rintro e w5 ⟨v5m, rfl, s5, x5⟩
      have xw5 := hW.trans x5
      clear x5 o3 o4 n3 n4 b3 b4 d3_4 hW
      replace h0 := h0.mono xw5
      replace h1 := h1.mono xw5
      have hW := Ext.refl w5
      obtain ⟨A5, c5, e5, _⟩ := s5.form
      subst e5
      have hni : ((carry x y n).2.1 != (carry x y n).2.1) = false := by simp
      have hnb : ((carry x y n).2.2 != (carry x y n).2.2) = false := by simp
      go_wp2_with fail
      refine (toEntityS_c _ x _ (h0.mono hW) HS0).mono ?_
      rintro e w6 ⟨v6m, F6, rfl, o6, n6, x6⟩
      have b6 : ∀ x ∈ F6, w5.heap.size ≤ x := fun x hx => Nat.le_trans hW.size (n6.2 x hx)
      replace n6 := n6.1
      replace hW := hW.trans x6
      clear x6
      go_wp2_with fail
      refine (toIntSS_c _ y _ (h1.mono hW) HS1).mono ?_
      rintro e w7 ⟨v7m, F7, rfl, o7, n7, x7⟩
      have d6_7 : Dis F6 F7 := Dis.new o6.lt n7
      have b7 : ∀ x ∈ F7, w5.heap.size ≤ x := fun x hx => Nat.le_trans hW.size (n7.2 x hx)
      replace n7 := n7.1
      replace hW := hW.trans x7
      replace o6 := o6.ext x7
      clear x7
      go_wp2_with fail
      refine (impl_CarryIdentities _ _ x y n _ o6.sl o7.sl HS0 (by omega)).mono ?_
      rintro e w8 ⟨v8m, F8, rfl, o8, n8, x8⟩
      have d6_8 : Dis F6 F8 := Dis.new o6.lt n8
      have d7_8 : Dis F7 F8 := Dis.new o7.lt n8
      have b8 : ∀ x ∈ F8, w5.heap.size ≤ x := fun x hx => Nat.le_trans hW.size (n8.2 x hx)
      replace n8 := n8.1
      replace hW := hW.trans x8
      replace o6 := o6.ext x8
      replace o7 := o7.ext x8
      clear x8
      go_wp2_with fail
      refine (eqEntityS_c _ _ (carry x y n).1 (carry x y n).1 _ o8.sl (s5.mono hW)).mono ?_
      rintro e w9 ⟨rfl, x9⟩
      rw [eqB_self]
      replace hW := hW.trans x9
      replace o6 := o6.ext x9
      replace o7 := o7.ext x9
      replace o8 := o8.ext x9
      clear x9
      go_wp2_with fail
      refine (toEntityS_c _ x _ (h0.mono hW) HS0).mono ?_
      rintro e w10 ⟨v10m, F10, rfl, o10, n10, x10⟩
      have d6_10 : Dis F6 F10 := Dis.new o6.lt n10
      have d7_10 : Dis F7 F10 := Dis.new o7.lt n10
      have d8_10 : Dis F8 F10 := Dis.new o8.lt n10
      have b10 : ∀ x ∈ F10, w5.heap.size ≤ x := fun x hx => Nat.le_trans hW.size (n10.2 x hx)
      replace n10 := n10.1
      replace hW := hW.trans x10
      replace o6 := o6.ext x10
      replace o7 := o7.ext x10
      replace o8 := o8.ext x10
      clear x10
      go_wp2_with fail
      refine (eqEntityS_c _ _ x x _ o6.sl o10.sl).mono ?_
      rintro e w11 ⟨rfl, x11⟩
      rw [eqB_self]
      replace hW := hW.trans x11
      replace o6 := o6.ext x11
      replace o7 := o7.ext x11
      replace o8 := o8.ext x11
      replace o10 := o10.ext x11
      clear x11
      go_wp2_with fail
      refine (toIntSS_c _ y _ (h1.mono hW) HS1).mono ?_
      rintro e w12 ⟨v12m, F12, rfl, o12, n12, x12⟩
      have d6_12 : Dis F6 F12 := Dis.new o6.lt n12
      have d7_12 : Dis F7 F12 := Dis.new o7.lt n12
      have d8_12 : Dis F8 F12 := Dis.new o8.lt n12
      have b12 : ∀ x ∈ F12, w5.heap.size ≤ x := fun x hx => Nat.le_trans hW.size (n12.2 x hx)
      replace n12 := n12.1
      replace hW := hW.trans x12
      replace o6 := o6.ext x12
      replace o7 := o7.ext x12
      replace o8 := o8.ext x12
      clear x12
      go_wp2_with fail
      refine (eqIntSS_c _ _ y y _ o7.sl o12.sl).mono ?_
      rintro e w13 ⟨rfl, x13⟩
      rw [eqB_self]
      replace hW := hW.trans x13
      replace o6 := o6.ext x13
      replace o7 := o7.ext x13
      replace o8 := o8.ext x13
      replace o12 := o12.ext x13
      clear x13
      have hc0 := cntEntityS_le x
      go_wp2_with fail
      refine (markEntityS_c _ x F6 1 _ o6 n6 (by omega) (by have := HS0; omega)).mono ?_
      rintro e w14 ⟨ys6, rfl, p14, mk6, ch14⟩
      replace o7 := ch14.keepSl d6_7.symm o7
      replace o8 := ch14.keepSl d6_8.symm o8
      replace hW := ch14.ext b6 hW
      clear o6 ch14
      have o6 := p14
      clear p14
      obtain ⟨K14, hK14⟩ : ∃ K, K = 1 + (((lstMk entityMk).cnt x : Nat) : Int) := ⟨_, rfl⟩
      rw [← hK14]
      have hk14 : 0 ≤ K14 ∧ K14 ≤ 1048577 := by have := HS0; omega
      clear hK14 hc0 mk6
      have hc1 := cntIntSS_le y
      go_wp2_with fail
      refine (markIntSS_c _ y F7 K14 _ o7 n7 (by omega) (by have := HS1; omega)).mono ?_
      rintro e w15 ⟨ys7, rfl, p15, mk7, ch15⟩
      replace o8 := ch15.keepSl d7_8.symm o8
      replace hW := ch15.ext b7 hW
      clear o7 ch15
      have o7 := p15
      clear p15
      obtain ⟨K15, hK15⟩ : ∃ K, K = K14 + (((lstMk (lstMk intMk)).cnt y : Nat) : Int) := ⟨_, rfl⟩
      rw [← hK15]
      have hk15 : 0 ≤ K15 ∧ K15 ≤ 2097153 := by have := HS1; omega
      clear hK15 hc1 mk7
      go_wp2_with fail
      refine (eqEntityS_c _ _ (carry x y n).1 (carry x y n).1 _ o8.sl (s5.mono hW)).mono ?_
      rintro e w16 ⟨rfl, x16⟩
      rw [eqB_self]
      replace hW := hW.trans x16
      replace o8 := o8.ext x16
      clear x16
      go_wp2_with fail
      refine (markEntityS_c _ (carry x y n).1 F8 1 _ o8 n8 (by omega) (by have := HBD.out; omega)).mono ?_
      rintro e w17 ⟨ys8, rfl, p17, mk8, ch17⟩
      replace hW := ch17.ext b8 hW
      clear o8 ch17
      have o8 := p17
      clear p17
      obtain ⟨K17, hK17⟩ : ∃ K, K = 1 + (((lstMk entityMk).cnt (carry x y n).1 : Nat) : Int) := ⟨_, rfl⟩
      rw [← hK17]
      have hk17 : 0 ≤ K17 := by omega
      have HK17 := hid hK17
      clear hK17
      go_wp2_with fail
      refine (heldEntityS_c _ (carry x y n).1 ys8 1 _ o8.sl mk8 (by omega) (by have := HBD.out; omega)).mono ?_
      rintro e w18 ⟨rfl, rfl⟩
      rw [← HK17.out]
      go_wp2_with fail
      refine (toEntityS_c _ x _ (h0.mono hW) HS0).mono ?_
      rintro e w19 ⟨v19m, F19, rfl, o19, n19, x19⟩
      have d8_19 : Dis F8 F19 := Dis.new o8.lt n19
      have b19 : ∀ x ∈ F19, w5.heap.size ≤ x := fun x hx => Nat.le_trans hW.size (n19.2 x hx)
      replace n19 := n19.1
      replace hW := hW.trans x19
      replace o8 := o8.ext x19
      clear x19
      go_wp2_with fail
      refine (toIntSS_c _ y _ (h1.mono hW) HS1).mono ?_
      rintro e w20 ⟨v20m, F20, rfl, o20, n20, x20⟩
      have d8_20 : Dis F8 F20 := Dis.new o8.lt n20
      have d19_20 : Dis F19 F20 := Dis.new o19.lt n20
      have b20 : ∀ x ∈ F20, w5.heap.size ≤ x := fun x hx => Nat.le_trans hW.size (n20.2 x hx)
      replace n20 := n20.1
      replace hW := hW.trans x20
      replace o8 := o8.ext x20
      replace o19 := o19.ext x20
      clear x20
      go_wp2_with fail
      refine (impl_CarryIdentities _ _ x y n _ o19.sl o20.sl HS0 (by omega)).mono ?_
      rintro e w21 ⟨v21m, F21, rfl, o21, n21, x21⟩
      have d8_21 : Dis F8 F21 := Dis.new o8.lt n21
      have d19_21 : Dis F19 F21 := Dis.new o19.lt n21
      have d20_21 : Dis F20 F21 := Dis.new o20.lt n21
      have b21 : ∀ x ∈ F21, w5.heap.size ≤ x := fun x hx => Nat.le_trans hW.size (n21.2 x hx)
      replace n21 := n21.1
      replace hW := hW.trans x21
      replace o8 := o8.ext x21
      replace o19 := o19.ext x21
      replace o20 := o20.ext x21
      clear x21
      go_wp2_with fail
      refine (eqEntityS_c _ _ (carry x y n).1 (carry x y n).1 _ o21.sl (s5.mono hW)).mono ?_
      rintro e w22 ⟨rfl, x22⟩
      rw [eqB_self]
      replace hW := hW.trans x22
      replace o8 := o8.ext x22
      replace o19 := o19.ext x22
      replace o20 := o20.ext x22
      replace o21 := o21.ext x22
      clear x22
      go_wp2_with fail
      refine (heldEntityS_c _ (carry x y n).1 ys8 1 _ o8.sl mk8 (by omega) (by have := HBD.out; omega)).mono ?_
      rintro e w23 ⟨rfl, rfl⟩
      rw [← HK17.out]
      go_wp2
      go_ret
      exact ⟨rfl, xw5.trans hW⟩
end Go.Proofs.Ytfcbapaojoecgab
