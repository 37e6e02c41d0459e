/-
  THE LAW'S WALK: FnExactClusterItems.
-/
import Derived.Test.YtidchfncfcckiaaGreatMgEndClu11
import Derived.Test.YtidchfncfcckiaaGreatMgEndClu12
import Derived.Test.YtidchfncfcckiaaGreatMgEndClu2
import Derived.Test.YtidchfncfcckiaaGreatMgEndClu4
import Derived.Test.YtidchfncfcckiaaGreatMgEndClu0

namespace Go.Proofs.YtidchfncfcckiaaGreat
open Go.RowKit

theorem clusterP_len (m : List (List Int)) (l : List Constraint) : (clusterP m l).1.labels.length ≤ 8 := by
  cases h : wmB m && consistB m.length l with
  | false => rw [clusterP_no h]; exact Nat.zero_le _
  | true =>
    rw [clusterP_yes h]
    rw [Bool.and_eq_true] at h
    have hm := wmB_iff.1 h.1
    show (clLab m l).length ≤ 8
    rw [(clLab_part l hm).2]
    exact hm.n8
set_option maxHeartbeats 4000000 in
set_option maxRecDepth 20000 in
theorem law_ClusterItems (v0 : Value) (x : List (List Int)) (v1 : Value) (r : List Constraint) (w : World) (h0 : Sl (slR intR) w v0 x) (h1 : Sl constraintR w v1 r) :
    Calls Tryz.prog 4 #[v0, v1] w fun e w2 => e = .returned (.bool true) ∧ Ext w w2 := by
  have HLB := hid (clusterP_len x r)
  have HTD := hid (show ∀ W v u, Sl (slR intR) W v x → Sl constraintR W u r → _ from fun W v u a b => spec_ClusterItems v u x r W a b)
  have HTI := hid (show ∀ W v u, Sl (slR intR) W v x → Sl constraintR W u r → _ from fun W v u a b => impl_ClusterItems v u x r W a b)
  obtain ⟨D, hD⟩ : ∃ D, D = clusterP x r := ⟨_, rfl⟩
  rw [← hD] at HLB HTD HTI
  clear hD
  obtain ⟨C, told⟩ := D
  obtain ⟨L, cost, ex, gap⟩ := C
  dsimp only at HLB HTD HTI
  have htt : (told == told) = true := by simp
  have htn : (told != told) = false := by simp
  have HC1 := hid (show (1 : Int) + (lstMk intMk).cnt L ≤ 1152921504606846976 from by have := HLB.out; rw [show (lstMk intMk).cnt L = L.length from intMk_sum L]; omega)
  go_enter Tryz.func4, Tryz.ntmps4
  go_wp2_with fail
  refine (szIntSS_c _ x _ _ h0 (by omega) (by omega)).mono ?_
  rintro e w1 ⟨rfl, hW⟩
  by_cases hs0 : 1048576 < (((x.length + sumLen x) : Nat) : Int)
  · rw [szv_neg hs0]
    go_wp2
    go_ret
    exact ⟨rfl, hW⟩
  · have hl0 := szv_nn hs0
    have hu0 := szv_le (n := (((x.length + sumLen x) : Nat) : Int)) (left := 1048576) (by omega) (by omega)
    generalize szv (((x.length + sumLen x) : Nat) : Int) 1048576 = L0 at hl0 hu0 ⊢
    have HS0 : (x.length + sumLen x) ≤ 1048576 := by omega
    clear hs0
    go_wp2_with fail
    refine (szConstraintS_c _ r _ _ (h1.mono hW) (by omega) (by omega)).mono ?_
    rintro e w2 ⟨rfl, x2⟩
    replace hW := hW.trans x2
    clear x2
    by_cases hs1 : L0 < ((r.length : Nat) : Int)
    · rw [szv_neg hs1]
      go_wp2
      go_ret
      exact ⟨rfl, hW⟩
    · have hl1 := szv_nn hs1
      generalize szv ((r.length : Nat) : Int) L0 = L1 at hl1 ⊢
      have HS1 : r.length ≤ 1048576 := by omega
      clear hs1 hl0 hu0
      go_wp2_with fail
      refine (toIntSS_c _ x _ (h0.mono hW) HS0).mono ?_
      rintro e w3 ⟨v3, F3, rfl, o3, n3, x3⟩
      clear n3
      replace hW := hW.trans x3
      clear x3
      go_wp2_with fail
      refine (toConstraintS_c _ r _ (h1.mono hW) HS1).mono ?_
      rintro e w4 ⟨v4, F4, rfl, o4, n4, x4⟩
      clear n4
      replace hW := hW.trans x4
      replace o3 := o3.ext x4
      clear x4
      go_wp2_with fail
      refine (HTD.out _ _ _ o3.sl o4.sl).mono ?_
      rintro e w5 ⟨v5, F5, rfl, o5, n5, x5⟩
      clear o3 o4
      clear n5
      replace hW := hW.trans x5
      clear x5
      obtain ⟨A5, q5, e9, _⟩ := o5.form
      subst e9
      have bA := Blk.new w5 30 #[.slice A5 L.length q5, .int .i64 cost, .bool ex, .int .i64 gap]
      have y5 : Ext w5 (w5.alloc (.cells #[.slice A5 L.length q5, .int .i64 cost, .bool ex, .int .i64 gap] 30)) := (Ext.refl w5).alloc _
      replace hW := hW.trans y5
      replace o5 := o5.ext y5
      clear y5
      go_wp2_with fail
      refine (toIntSS_c _ x _ (h0.mono hW) HS0).mono ?_
      rintro e w6 ⟨v6, F6, rfl, o6, n6, x6⟩
      have d56 : Dis F5 F6 := Dis.new o5.lt n6
      have bA6 := hid (show w5.heap.size ∉ F6 from fun hm => by have h9 := n6.2 _ hm; have h8 := block_lt bA; omega)
      have b6 := hid (fun b9 (hb9 : b9 ∈ F6) => Nat.le_trans hW.size (n6.2 b9 hb9))
      have N6 := hid n6.1
      clear n6
      replace hW := hW.trans x6
      replace o5 := o5.ext x6
      replace bA := bA.ext x6
      clear x6
      go_wp2_with fail
      refine (toConstraintS_c _ r _ (h1.mono hW) HS1).mono ?_
      rintro e w7 ⟨v7, F7, rfl, o7, n7, x7⟩
      have d57 : Dis F5 F7 := Dis.new o5.lt n7
      have d67 : Dis F6 F7 := Dis.new o6.lt n7
      have bA7 := hid (show w5.heap.size ∉ F7 from fun hm => by have h9 := n7.2 _ hm; have h8 := block_lt bA; omega)
      have b7 := hid (fun b9 (hb9 : b9 ∈ F7) => Nat.le_trans hW.size (n7.2 b9 hb9))
      have N7 := hid n7.1
      clear n7
      replace hW := hW.trans x7
      replace o5 := o5.ext x7
      replace bA := bA.ext x7
      replace o6 := o6.ext x7
      clear x7
      go_wp2_with fail
      refine (HTI.out _ _ _ o6.sl o7.sl).mono ?_
      rintro e w8 ⟨v8, F8, rfl, o8, n8, x8⟩
      have d58 : Dis F5 F8 := Dis.new o5.lt n8
      have d68 : Dis F6 F8 := Dis.new o6.lt n8
      have d78 : Dis F7 F8 := Dis.new o7.lt n8
      have bA8 := hid (show w5.heap.size ∉ F8 from fun hm => by have h9 := n8.2 _ hm; have h8 := block_lt bA; omega)
      have b8 := hid (fun b9 (hb9 : b9 ∈ F8) => Nat.le_trans hW.size (n8.2 b9 hb9))
      have N8 := hid n8.1
      clear n8
      replace hW := hW.trans x8
      replace o5 := o5.ext x8
      replace bA := bA.ext x8
      replace o6 := o6.ext x8
      replace o7 := o7.ext x8
      clear x8
      obtain ⟨A8, q8, e9, _⟩ := o8.form
      subst e9
      have bG := Blk.new w8 30 #[.slice A8 L.length q8, .int .i64 cost, .bool ex, .int .i64 gap]
      have y8 : Ext w8 (w8.alloc (.cells #[.slice A8 L.length q8, .int .i64 cost, .bool ex, .int .i64 gap] 30)) := (Ext.refl w8).alloc _
      have bG6 := hid (show w8.heap.size ∉ F6 from fun hm => by have h9 := o6.lt _ hm; omega)
      have bG7 := hid (show w8.heap.size ∉ F7 from fun hm => by have h9 := o7.lt _ hm; omega)
      have bG8 := hid (show w8.heap.size ∉ F8 from fun hm => by have h9 := o8.lt _ hm; omega)
      replace hW := hW.trans y8
      replace o5 := o5.ext y8
      replace bA := bA.ext y8
      replace o6 := o6.ext y8
      replace o7 := o7.ext y8
      replace o8 := o8.ext y8
      clear y8
      obtain ⟨p0, p1, p2, p3⟩ := bG.c4.1
      obtain ⟨q0, q1, q2, q3⟩ := bA.c4.1
      go_wp2_with fail
      refine (eqClustering_c _ _ ⟨L, cost, ex, gap⟩ _ o8.sl o5.sl).mono ?_
      rintro e w9 ⟨rfl, x9⟩
      clear p0 p1 p2 p3
      clear q0 q1 q2 q3
      replace hW := hW.trans x9
      replace o5 := o5.ext x9
      replace bA := bA.ext x9
      replace o6 := o6.ext x9
      replace o7 := o7.ext x9
      replace o8 := o8.ext x9
      replace bG := bG.ext x9
      clear x9
      go_wp2_with fail
      refine (toIntSS_c _ x _ (h0.mono hW) HS0).mono ?_
      rintro e w10 ⟨v10, F10, rfl, o10, n10, x10⟩
      clear n10
      replace hW := hW.trans x10
      replace o5 := o5.ext x10
      replace bA := bA.ext x10
      replace o6 := o6.ext x10
      replace o7 := o7.ext x10
      replace o8 := o8.ext x10
      replace bG := bG.ext x10
      clear x10
      go_wp2_with fail
      refine (eqIntSS_c _ _ x x _ o6.sl o10.sl).mono ?_
      rintro e w11 ⟨rfl, x11⟩
      rw [eqB_self]
      clear o10
      replace hW := hW.trans x11
      replace o5 := o5.ext x11
      replace bA := bA.ext x11
      replace o6 := o6.ext x11
      replace o7 := o7.ext x11
      replace o8 := o8.ext x11
      replace bG := bG.ext x11
      clear x11
      go_wp2_with fail
      refine (toConstraintS_c _ r _ (h1.mono hW) HS1).mono ?_
      rintro e w12 ⟨v12, F12, rfl, o12, n12, x12⟩
      clear n12
      replace hW := hW.trans x12
      replace o5 := o5.ext x12
      replace bA := bA.ext x12
      replace o6 := o6.ext x12
      replace o7 := o7.ext x12
      replace o8 := o8.ext x12
      replace bG := bG.ext x12
      clear x12
      go_wp2_with fail
      refine (eqConstraintS_c _ _ r r _ o7.sl o12.sl).mono ?_
      rintro e w13 ⟨rfl, x13⟩
      rw [eqB_self]
      clear o12
      replace hW := hW.trans x13
      replace o5 := o5.ext x13
      replace bA := bA.ext x13
      replace o6 := o6.ext x13
      replace o7 := o7.ext x13
      replace o8 := o8.ext x13
      replace bG := bG.ext x13
      clear x13
      have hc0 := cntIntSS_le x
      have hc1 := cntConstraintS_le r
      go_wp2_with fail
      refine (markIntSS_c _ x F6 1 _ o6 N6.out (by omega) (by omega)).mono ?_
      rintro e w14 ⟨ys6, rfl, _, _, ch⟩
      replace o5 := ch.keepSl d56 o5
      replace o7 := ch.keepSl d67.symm o7
      replace o8 := ch.keepSl d68.symm o8
      replace bA := bA.keep (ch.block _ (block_lt bA) bA6.out)
      replace bG := bG.keep (ch.block _ (block_lt bG) bG6.out)
      replace hW := ch.ext b6.out hW
      clear ch o6
      obtain ⟨K0, hK0⟩ : ∃ K, K = (1 : Int) + (((lstMk (lstMk intMk)).cnt x : Nat) : Int) := ⟨_, rfl⟩
      rw [← hK0]
      have hk0 : 0 ≤ K0 ∧ K0 ≤ 2097153 := by omega
      clear hK0 hc0
      go_wp2_with fail
      refine (markConstraintS_c _ r F7 K0 _ o7 N7.out (by omega) (by omega)).mono ?_
      rintro e w15 ⟨ys7, rfl, _, _, ch⟩
      replace o5 := ch.keepSl d57 o5
      replace o8 := ch.keepSl d78.symm o8
      replace bA := bA.keep (ch.block _ (block_lt bA) bA7.out)
      replace bG := bG.keep (ch.block _ (block_lt bG) bG7.out)
      replace hW := ch.ext b7.out hW
      clear ch o7
      obtain ⟨K1, hK1⟩ : ∃ K, K = K0 + (((lstMk constraintMk).cnt r : Nat) : Int) := ⟨_, rfl⟩
      rw [← hK1]
      have hk1 : 0 ≤ K1 := by omega
      clear hK1 hc1
      obtain ⟨p0, p1, p2, p3⟩ := bG.c4.1
      obtain ⟨q0, q1, q2, q3⟩ := bA.c4.1
      go_wp2_with fail
      refine (eqClustering_c _ _ ⟨L, cost, ex, gap⟩ _ o8.sl o5.sl).mono ?_
      rintro e w16 ⟨rfl, x16⟩
      clear p0 p1 p2 p3
      clear q0 q1 q2 q3
      replace hW := hW.trans x16
      replace o5 := o5.ext x16
      replace bA := bA.ext x16
      replace o8 := o8.ext x16
      replace bG := bG.ext x16
      clear x16
      obtain ⟨p0, p1, p2, p3⟩ := bG.c4.1
      go_wp2_with fail
      refine (markClustering_c _ ⟨L, cost, ex, gap⟩ F8 1 _ o8 N8.out (by omega) HC1.out).mono ?_
      rintro e w17 ⟨ys, rfl, p8, his, ch⟩
      have HIS := hid his
      clear p0 p1 p2 p3
      replace o5 := ch.keepSl d58 o5
      replace bA := bA.keep (ch.block _ (block_lt bA) bA8.out)
      replace bG := bG.keep (ch.block _ (block_lt bG) bG8.out)
      replace hW := ch.ext b8.out hW
      clear ch o8 his
      have o7 := p8
      clear p8
      obtain ⟨K2, hK2⟩ : ∃ K, K = (1 : Int) + (((lstMk intMk).cnt L : Nat) : Int) := ⟨_, rfl⟩
      rw [← hK2]
      have HK := hid hK2
      have hk2 : 0 ≤ K2 := by omega
      have hkk : (K2 != K2) = false := by simp
      clear hK2
      obtain ⟨p0, p1, p2, p3⟩ := bG.c4.1
      go_wp2_with fail
      refine (heldClustering_c _ ⟨L, cost, ex, gap⟩ ys 1 _ o7.sl HIS.out (by omega) HC1.out).mono ?_
      rintro e w18 ⟨rfl, x18⟩
      rw [← HK.out]
      clear p0 p1 p2 p3
      replace hW := hW.trans x18
      replace o5 := o5.ext x18
      replace bA := bA.ext x18
      replace bG := bG.ext x18
      replace o7 := o7.ext x18
      clear x18
      go_wp2_with fail
      refine (toIntSS_c _ x _ (h0.mono hW) HS0).mono ?_
      rintro e w20 ⟨v20, F20, rfl, o20, n20, x20⟩
      clear n20
      replace hW := hW.trans x20
      replace o5 := o5.ext x20
      replace bA := bA.ext x20
      replace bG := bG.ext x20
      replace o7 := o7.ext x20
      clear x20
      go_wp2_with fail
      refine (toConstraintS_c _ r _ (h1.mono hW) HS1).mono ?_
      rintro e w21 ⟨v21, F21, rfl, o21, n21, x21⟩
      clear n21
      replace hW := hW.trans x21
      replace o5 := o5.ext x21
      replace bA := bA.ext x21
      replace bG := bG.ext x21
      replace o7 := o7.ext x21
      replace o20 := o20.ext x21
      clear x21
      go_wp2_with fail
      refine (HTI.out _ _ _ o20.sl o21.sl).mono ?_
      rintro e w22 ⟨v22, F22, rfl, o22, n22, x22⟩
      clear o20 o21
      clear n22
      replace hW := hW.trans x22
      replace o5 := o5.ext x22
      replace bA := bA.ext x22
      replace bG := bG.ext x22
      replace o7 := o7.ext x22
      clear x22
      obtain ⟨A22, q22, e9, _⟩ := o22.form
      subst e9
      have bH := Blk.new w22 30 #[.slice A22 L.length q22, .int .i64 cost, .bool ex, .int .i64 gap]
      have y22 : Ext w22 (w22.alloc (.cells #[.slice A22 L.length q22, .int .i64 cost, .bool ex, .int .i64 gap] 30)) := (Ext.refl w22).alloc _
      replace hW := hW.trans y22
      replace o5 := o5.ext y22
      replace bA := bA.ext y22
      replace bG := bG.ext y22
      replace o7 := o7.ext y22
      replace o22 := o22.ext y22
      clear y22
      obtain ⟨p0, p1, p2, p3⟩ := bH.c4.1
      obtain ⟨q0, q1, q2, q3⟩ := bA.c4.1
      go_wp2_with fail
      refine (eqClustering_c _ _ ⟨L, cost, ex, gap⟩ _ o22.sl o5.sl).mono ?_
      rintro e w23 ⟨rfl, x23⟩
      clear p0 p1 p2 p3
      clear q0 q1 q2 q3
      replace hW := hW.trans x23
      replace o5 := o5.ext x23
      replace bA := bA.ext x23
      replace bG := bG.ext x23
      replace o7 := o7.ext x23
      replace o22 := o22.ext x23
      replace bH := bH.ext x23
      clear x23
      obtain ⟨p0, p1, p2, p3⟩ := bG.c4.1
      go_wp2_with fail
      refine (heldClustering_c _ ⟨L, cost, ex, gap⟩ ys 1 _ o7.sl HIS.out (by omega) HC1.out).mono ?_
      rintro e w24 ⟨rfl, x24⟩
      rw [← HK.out]
      clear p0 p1 p2 p3
      replace hW := hW.trans x24
      replace o5 := o5.ext x24
      replace bA := bA.ext x24
      replace bG := bG.ext x24
      replace o7 := o7.ext x24
      replace o22 := o22.ext x24
      replace bH := bH.ext x24
      clear x24
      go_wp2
      go_ret
      exact ⟨rfl, hW⟩
end Go.Proofs.YtidchfncfcckiaaGreat
