/-
  THE LAW'S WALK: FnExactSplitVerdicts.
-/
import Derived.Test.YtmembjjgkideeaaMgEndSpl20
import Derived.Test.YtmembjjgkideeaaMgEndSpl19
import Derived.Test.YtmembjjgkideeaaMgEndSpl14

namespace Go.Proofs.Ytmembjjgkideeaa
open Go.RowKit

theorem split_len (x : List Verdict) : (splitV x).1.length + (splitV x).2.length ≤ 8 := by
  have h := (split_facts x).2.2.1.length_eq
  rw [List.length_append] at h
  have := (curV_facts x).2.2
  omega
theorem split_cnt (x : List Verdict) : (lstMk verdictMk).cnt (splitV x).1 ≤ 1048576 ∧ (lstMk verdictMk).cnt (splitV x).2 ≤ 1048576 := by
  have := split_len x
  exact ⟨Nat.le_trans (cntVerdictS_le _) (by omega), Nat.le_trans (cntVerdictS_le _) (by omega)⟩

set_option maxHeartbeats 1000000 in
theorem law_SplitVerdicts (v0 : Value) (x : List Verdict) (w : World) (h0 : Sl verdictR w v0 x) :
    Calls Try.prog 4 #[v0] w fun e w2 => e = .returned (.bool true) ∧ Ext w w2 := by
  have hW : Ext w w := Ext.refl w
  have HBD := hid (split_cnt x)
  go_enter Try.func4, Try.ntmps4
  go_wp2_with fail
  refine (szVerdictS_c _ x _ _ (h0.mono hW) (by omega) (by omega)).mono ?_
  rintro e w0 ⟨rfl, x0⟩
  replace hW := hW.trans x0
  clear x0
  by_cases hs0 : 1048576 < ((x.length : Nat) : Int)
  · rw [szv_neg hs0]
    go_wp2
    go_ret
    exact ⟨rfl, hW⟩
  · have hl0 := szv_nn hs0
    have hu0 := szv_le (n := ((x.length : Nat) : Int)) (left := 1048576) (by omega) (by omega)
    generalize szv ((x.length : Nat) : Int) 1048576 = L0 at hl0 hu0 ⊢
    have HS0 : x.length ≤ 1048576 := by omega
    clear hs0
    go_wp2_with fail
    refine (toVerdictS_c _ x _ (h0.mono hW) HS0).mono ?_
    rintro e w1 ⟨v1m, F1, rfl, o1, n1, x1⟩
    have b1 : ∀ x ∈ F1, w.heap.size ≤ x := fun x hx => Nat.le_trans hW.size (n1.2 x hx)
    replace n1 := n1.1
    replace hW := hW.trans x1
    clear x1
    go_wp2_with fail
    refine (spec_SplitVerdicts _ x _ o1.sl HS0).mono ?_
    rintro e w2 ⟨v2am, v2bm, F2a, F2b, rfl, o2a, o2b, n2, x2⟩
    rw [splitR_eq] at o2a o2b
    have n2a : NewF w1 F2a := ⟨(List.nodup_append.1 n2.1).1, fun b hb => n2.2 b (List.mem_append_left _ hb)⟩
    have n2b : NewF w1 F2b := ⟨(List.nodup_append.1 n2.1).2.1, fun b hb => n2.2 b (List.mem_append_right _ hb)⟩
    have d1_2a : Dis F1 F2a := Dis.new o1.lt n2a
    have d1_2b : Dis F1 F2b := Dis.new o1.lt n2b
    have d2a_2b : Dis F2a F2b := fun b h1 h2 => (List.nodup_append.1 n2.1).2.2 b h1 b h2 rfl
    have b2a : ∀ x ∈ F2a, w.heap.size ≤ x := fun x hx => Nat.le_trans hW.size (n2a.2 x hx)
    replace n2a := n2a.1
    have b2b : ∀ x ∈ F2b, w.heap.size ≤ x := fun x hx => Nat.le_trans hW.size (n2b.2 x hx)
    replace n2b := n2b.1
    replace hW := hW.trans x2
    replace o1 := o1.ext x2
    clear x2
    go_wp2_with fail
    refine (toVerdictS_c _ x _ (h0.mono hW) HS0).mono ?_
    rintro e w3 ⟨v3m, F3, rfl, o3, n3, x3⟩
    have d2a_3 : Dis F2a F3 := Dis.new o2a.lt n3
    have d2b_3 : Dis F2b F3 := Dis.new o2b.lt n3
    have b3 : ∀ x ∈ F3, w.heap.size ≤ x := fun x hx => Nat.le_trans hW.size (n3.2 x hx)
    replace n3 := n3.1
    replace hW := hW.trans x3
    replace o2a := o2a.ext x3
    replace o2b := o2b.ext x3
    clear x3
    go_wp2_with fail
    refine (impl_SplitVerdicts _ x _ o3.sl HS0).mono ?_
    rintro e w4 ⟨v4am, v4bm, F4a, F4b, rfl, o4a, o4b, n4, x4⟩
    have n4a : NewF w3 F4a := ⟨(List.nodup_append.1 n4.1).1, fun b hb => n4.2 b (List.mem_append_left _ hb)⟩
    have n4b : NewF w3 F4b := ⟨(List.nodup_append.1 n4.1).2.1, fun b hb => n4.2 b (List.mem_append_right _ hb)⟩
    have d2a_4a : Dis F2a F4a := Dis.new o2a.lt n4a
    have d2a_4b : Dis F2a F4b := Dis.new o2a.lt n4b
    have d2b_4a : Dis F2b F4a := Dis.new o2b.lt n4a
    have d2b_4b : Dis F2b F4b := Dis.new o2b.lt n4b
    have d3_4a : Dis F3 F4a := Dis.new o3.lt n4a
    have d3_4b : Dis F3 F4b := Dis.new o3.lt n4b
    have d4a_4b : Dis F4a F4b := fun b h1 h2 => (List.nodup_append.1 n4.1).2.2 b h1 b h2 rfl
    have b4a : ∀ x ∈ F4a, w.heap.size ≤ x := fun x hx => Nat.le_trans hW.size (n4a.2 x hx)
    replace n4a := n4a.1
    have b4b : ∀ x ∈ F4b, w.heap.size ≤ x := fun x hx => Nat.le_trans hW.size (n4b.2 x hx)
    replace n4b := n4b.1
    replace hW := hW.trans x4
    replace o2a := o2a.ext x4
    replace o2b := o2b.ext x4
    replace o3 := o3.ext x4
    clear x4
    go_wp2_with fail
    refine (eqVerdictS_c _ _ (splitV x).1 (splitV x).1 _ o4a.sl o2a.sl).mono ?_
    rintro e w5 ⟨rfl, x5⟩
    rw [eqB_self]
    replace hW := hW.trans x5
    replace o2a := o2a.ext x5
    replace o2b := o2b.ext x5
    replace o3 := o3.ext x5
    replace o4a := o4a.ext x5
    replace o4b := o4b.ext x5
    clear x5
    go_wp2_with fail
    refine (eqVerdictS_c _ _ (splitV x).2 (splitV x).2 _ o4b.sl o2b.sl).mono ?_
    rintro e w6 ⟨rfl, x6⟩
    rw [eqB_self]
    replace hW := hW.trans x6
    replace o2a := o2a.ext x6
    replace o2b := o2b.ext x6
    replace o3 := o3.ext x6
    replace o4a := o4a.ext x6
    replace o4b := o4b.ext x6
    clear x6
    go_wp2_with fail
    refine (toVerdictS_c _ x _ (h0.mono hW) HS0).mono ?_
    rintro e w7 ⟨v7m, F7, rfl, o7, n7, x7⟩
    have d2a_7 : Dis F2a F7 := Dis.new o2a.lt n7
    have d2b_7 : Dis F2b F7 := Dis.new o2b.lt n7
    have d3_7 : Dis F3 F7 := Dis.new o3.lt n7
    have d4a_7 : Dis F4a F7 := Dis.new o4a.lt n7
    have d4b_7 : Dis F4b F7 := Dis.new o4b.lt n7
    have b7 : ∀ x ∈ F7, w.heap.size ≤ x := fun x hx => Nat.le_trans hW.size (n7.2 x hx)
    replace n7 := n7.1
    replace hW := hW.trans x7
    replace o2a := o2a.ext x7
    replace o2b := o2b.ext x7
    replace o3 := o3.ext x7
    replace o4a := o4a.ext x7
    replace o4b := o4b.ext x7
    clear x7
    go_wp2_with fail
    refine (eqVerdictS_c _ _ x x _ o3.sl o7.sl).mono ?_
    rintro e w8 ⟨rfl, x8⟩
    rw [eqB_self]
    replace hW := hW.trans x8
    replace o2a := o2a.ext x8
    replace o2b := o2b.ext x8
    replace o3 := o3.ext x8
    replace o4a := o4a.ext x8
    replace o4b := o4b.ext x8
    replace o7 := o7.ext x8
    clear x8
    have hc0 := cntVerdictS_le x
    go_wp2_with fail
    refine (markVerdictS_c _ x F3 1 _ o3 n3 (by omega) (by have := HS0; omega)).mono ?_
    rintro e w9 ⟨ys3, rfl, p9, mk3, ch9⟩
    replace o2a := ch9.keepSl d2a_3 o2a
    replace o2b := ch9.keepSl d2b_3 o2b
    replace o4a := ch9.keepSl d3_4a.symm o4a
    replace o4b := ch9.keepSl d3_4b.symm o4b
    replace hW := ch9.ext b3 hW
    clear o3 ch9
    have o3 := p9
    clear p9
    obtain ⟨K9, hK9⟩ : ∃ K, K = 1 + (((lstMk verdictMk).cnt x : Nat) : Int) := ⟨_, rfl⟩
    rw [← hK9]
    have hk9 : 0 ≤ K9 ∧ K9 ≤ 4194305 := by have := HS0; omega
    clear hK9 hc0 mk3
    go_wp2_with fail
    refine (eqVerdictS_c _ _ (splitV x).1 (splitV x).1 _ o4a.sl o2a.sl).mono ?_
    rintro e w10 ⟨rfl, x10⟩
    rw [eqB_self]
    replace hW := hW.trans x10
    replace o2a := o2a.ext x10
    replace o2b := o2b.ext x10
    replace o4a := o4a.ext x10
    replace o4b := o4b.ext x10
    clear x10
    go_wp2_with fail
    refine (eqVerdictS_c _ _ (splitV x).2 (splitV x).2 _ o4b.sl o2b.sl).mono ?_
    rintro e w11 ⟨rfl, x11⟩
    rw [eqB_self]
    replace hW := hW.trans x11
    replace o2a := o2a.ext x11
    replace o2b := o2b.ext x11
    replace o4a := o4a.ext x11
    replace o4b := o4b.ext x11
    clear x11
    go_wp2_with fail
    refine (markVerdictS_c _ (splitV x).1 F4a 1 _ o4a n4a (by omega) (by have := HBD.out.1; omega)).mono ?_
    rintro e w12 ⟨ys4a, rfl, p12, mk4a, ch12⟩
    replace o2a := ch12.keepSl d2a_4a o2a
    replace o2b := ch12.keepSl d2b_4a o2b
    replace o4b := ch12.keepSl d4a_4b.symm o4b
    replace hW := ch12.ext b4a hW
    clear o4a ch12
    have o4a := p12
    clear p12
    obtain ⟨K12, hK12⟩ : ∃ K, K = 1 + (((lstMk verdictMk).cnt (splitV x).1 : Nat) : Int) := ⟨_, rfl⟩
    rw [← hK12]
    have hk12 : 0 ≤ K12 ∧ K12 ≤ 4194305 := by have := HBD.out.1; omega
    have HK12 := hid hK12
    clear hK12
    go_wp2_with fail
    refine (markVerdictS_c _ (splitV x).2 F4b K12 _ o4b n4b (by omega) (by have := HBD.out.2; omega)).mono ?_
    rintro e w13 ⟨ys4b, rfl, p13, mk4b, ch13⟩
    replace o2a := ch13.keepSl d2a_4b o2a
    replace o2b := ch13.keepSl d2b_4b o2b
    replace o4a := ch13.keepSl d4a_4b o4a
    replace hW := ch13.ext b4b hW
    clear o4b ch13
    have o4b := p13
    clear p13
    obtain ⟨K13, hK13⟩ : ∃ K, K = K12 + (((lstMk verdictMk).cnt (splitV x).2 : Nat) : Int) := ⟨_, rfl⟩
    rw [← hK13]
    have hk13 : 0 ≤ K13 := by omega
    have HK13 := hid hK13
    clear hK13
    go_wp2_with fail
    refine (heldVerdictS_c _ (splitV x).1 ys4a 1 _ o4a.sl mk4a (by omega) (by have := HBD.out.1; omega)).mono ?_
    rintro e w14 ⟨rfl, rfl⟩
    rw [← HK12.out]
    go_wp2_with fail
    refine (heldVerdictS_c _ (splitV x).2 ys4b K12 _ o4b.sl mk4b (by omega) (by have := HBD.out.2; omega)).mono ?_
    rintro e w15 ⟨rfl, rfl⟩
    rw [← HK13.out]
    go_wp2_with fail
    refine (toVerdictS_c _ x _ (h0.mono hW) HS0).mono ?_
    rintro e w16 ⟨v16m, F16, rfl, o16, n16, x16⟩
    have d2a_16 : Dis F2a F16 := Dis.new o2a.lt n16
    have d2b_16 : Dis F2b F16 := Dis.new o2b.lt n16
    have d4a_16 : Dis F4a F16 := Dis.new o4a.lt n16
    have d4b_16 : Dis F4b F16 := Dis.new o4b.lt n16
    have b16 : ∀ x ∈ F16, w.heap.size ≤ x := fun x hx => Nat.le_trans hW.size (n16.2 x hx)
    replace n16 := n16.1
    replace hW := hW.trans x16
    replace o2a := o2a.ext x16
    replace o2b := o2b.ext x16
    replace o4a := o4a.ext x16
    replace o4b := o4b.ext x16
    clear x16
    go_wp2_with fail
    refine (impl_SplitVerdicts _ x _ o16.sl HS0).mono ?_
    rintro e w17 ⟨v17am, v17bm, F17a, F17b, rfl, o17a, o17b, n17, x17⟩
    have n17a : NewF w16 F17a := ⟨(List.nodup_append.1 n17.1).1, fun b hb => n17.2 b (List.mem_append_left _ hb)⟩
    have n17b : NewF w16 F17b := ⟨(List.nodup_append.1 n17.1).2.1, fun b hb => n17.2 b (List.mem_append_right _ hb)⟩
    have d2a_17a : Dis F2a F17a := Dis.new o2a.lt n17a
    have d2a_17b : Dis F2a F17b := Dis.new o2a.lt n17b
    have d2b_17a : Dis F2b F17a := Dis.new o2b.lt n17a
    have d2b_17b : Dis F2b F17b := Dis.new o2b.lt n17b
    have d4a_17a : Dis F4a F17a := Dis.new o4a.lt n17a
    have d4a_17b : Dis F4a F17b := Dis.new o4a.lt n17b
    have d4b_17a : Dis F4b F17a := Dis.new o4b.lt n17a
    have d4b_17b : Dis F4b F17b := Dis.new o4b.lt n17b
    have d16_17a : Dis F16 F17a := Dis.new o16.lt n17a
    have d16_17b : Dis F16 F17b := Dis.new o16.lt n17b
    have d17a_17b : Dis F17a F17b := fun b h1 h2 => (List.nodup_append.1 n17.1).2.2 b h1 b h2 rfl
    have b17a : ∀ x ∈ F17a, w.heap.size ≤ x := fun x hx => Nat.le_trans hW.size (n17a.2 x hx)
    replace n17a := n17a.1
    have b17b : ∀ x ∈ F17b, w.heap.size ≤ x := fun x hx => Nat.le_trans hW.size (n17b.2 x hx)
    replace n17b := n17b.1
    replace hW := hW.trans x17
    replace o2a := o2a.ext x17
    replace o2b := o2b.ext x17
    replace o4a := o4a.ext x17
    replace o4b := o4b.ext x17
    replace o16 := o16.ext x17
    clear x17
    go_wp2_with fail
    refine (eqVerdictS_c _ _ (splitV x).1 (splitV x).1 _ o17a.sl o2a.sl).mono ?_
    rintro e w18 ⟨rfl, x18⟩
    rw [eqB_self]
    replace hW := hW.trans x18
    replace o2a := o2a.ext x18
    replace o2b := o2b.ext x18
    replace o4a := o4a.ext x18
    replace o4b := o4b.ext x18
    replace o16 := o16.ext x18
    replace o17a := o17a.ext x18
    replace o17b := o17b.ext x18
    clear x18
    go_wp2_with fail
    refine (eqVerdictS_c _ _ (splitV x).2 (splitV x).2 _ o17b.sl o2b.sl).mono ?_
    rintro e w19 ⟨rfl, x19⟩
    rw [eqB_self]
    replace hW := hW.trans x19
    replace o2a := o2a.ext x19
    replace o2b := o2b.ext x19
    replace o4a := o4a.ext x19
    replace o4b := o4b.ext x19
    replace o16 := o16.ext x19
    replace o17a := o17a.ext x19
    replace o17b := o17b.ext x19
    clear x19
    go_wp2_with fail
    refine (heldVerdictS_c _ (splitV x).1 ys4a 1 _ o4a.sl mk4a (by omega) (by have := HBD.out.1; omega)).mono ?_
    rintro e w20 ⟨rfl, rfl⟩
    rw [← HK12.out]
    go_wp2_with fail
    refine (heldVerdictS_c _ (splitV x).2 ys4b K12 _ o4b.sl mk4b (by omega) (by have := HBD.out.2; omega)).mono ?_
    rintro e w21 ⟨rfl, rfl⟩
    rw [← HK13.out]
    go_wp2
    go_ret
    exact ⟨rfl, hW⟩
end Go.Proofs.Ytmembjjgkideeaa
