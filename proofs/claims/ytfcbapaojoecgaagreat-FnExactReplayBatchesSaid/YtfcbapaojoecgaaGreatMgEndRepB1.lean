/-
  THE LAW'S WALK: FnExactReplayBatches.
-/
import Derived.Test.YtfcbapaojoecgaaGreatMgEndRepB0
import Derived.Test.YtfcbapaojoecgaaGreatMgEndAppB16

namespace Go.Proofs.YtfcbapaojoecgaaGreat
open Go.RowKit

theorem rLawBatches : Reads Tryz.prog 47 (slR batchR) := reads_slice Tryz.underlying47 (by kernel_rfl) (by decide) rLawBatch
theorem batSum_ms (xs : List Batch) : batSum xs ≤ 8 * (xs.length + sumBy msBat xs) := by
  unfold batSum sumBy
  induction xs with
  | nil => simp
  | cons x xs ih =>
    simp only [List.map_cons, List.sum_cons, List.length_cons] at ih ⊢
    have h1 := opCnt_ms x.ops
    have h2 : msBat x = x.ops.length + sumBy msOp x.ops := rfl
    omega
set_option maxHeartbeats 8000000 in
set_option maxRecDepth 20000 in
theorem law_ReplayBatches (v : Value) (xs : List Batch) (w : World) (h : Sl batchR w v xs) :
    Calls Tryz.prog 4 #[v] w fun e w2 => e = .returned (.bool true) ∧ Ext w w2 := by
  obtain ⟨A, cap, rfl, hm⟩ := h.form
  go_enter Tryz.func4, Tryz.ntmps4
  go_wp2_with fail
  refine (szBatchS_c _ xs _ _ h (by omega) (by omega)).mono ?_
  rintro e w1 ⟨rfl, hW⟩
  by_cases hs0 : 1048576 < (((xs.length + sumBy msBat xs) : Nat) : Int)
  · rw [szv_neg hs0]
    go_wp2
    go_ret
    exact ⟨rfl, hW⟩
  · have hl0 := szv_nn hs0
    have hu0 := szv_le (n := (((xs.length + sumBy msBat xs) : Nat) : Int)) (left := 1048576) (by omega) (by omega)
    generalize szv (((xs.length + sumBy msBat xs) : Nat) : Int) 1048576 = L0 at hl0 hu0 ⊢
    have HS0 : xs.length + sumBy msBat xs ≤ 1048576 := by omega
    have HLN := hid (show xs.length ≤ 1048576 by omega)
    have HC2 := hid (show (1 : Int) + (batSum xs : Nat) ≤ 1152921504606846976 by have := batSum_ms xs; omega)
    clear hs0
    go_wp2_with fail
    refine (toBatchS_c _ xs _ (h.mono hW) HS0).mono ?_
    rintro e w5 ⟨v5, F0, rfl, o0, n0, x5⟩
    replace hW := hW.trans x5
    clear n0
    obtain ⟨r, hr⟩ : ∃ r, r = repB xs := ⟨_, rfl⟩
    have HR := hid hr
    have hok := (repB_ok xs).1
    rw [← hr] at hok
    clear hr
    obtain ⟨rs, rn⟩ := r
    dsimp only at hok
    have hrb : ((rn : Int) != (rn : Int)) = false := by simp
    have HC4 := hid (show (1 : Int) + (stoCnt rs : Nat) ≤ 1152921504606846976 by have := stoCnt_small hok; omega)
    clear hok x5
    go_wp2_with fail
    refine (spec_ReplayBatches _ xs _ o0.sl HLN.out).mono ?_
    rintro e w6 ⟨r1, d1, F8, rfl, R, hI1, x6⟩
    rw [← HR.out] at R hI1 ⊢
    dsimp only at R hI1 ⊢
    obtain ⟨F1, o1, n1a, n1b⟩ := R.own hI1
    have n1 := (⟨n1a, n1b⟩ : NewF _ F1)
    obtain ⟨A1, q1, B1, p1, e9⟩ := o1.form
    injection e9 with e9
    injection e9 with e9
    simp only [List.cons.injEq, and_true, true_and] at e9
    obtain ⟨e9a, e9b⟩ := e9
    subst e9a
    subst e9b
    clear R n1a n1b
    clear o0
    have hF1 := hid (fun b9 (hb9 : b9 ∈ F1) => Nat.le_trans hW.size (n1.2 b9 hb9))
    have N1 := hid n1.1
    replace hW := hW.trans x6
    clear x6
    have bA := Blk.new w6 34 #[.int .i64 rs.version, .slice A1 rs.records.length q1, .slice B1 rs.verdicts.length p1]
    have y6 : Ext w6 (w6.alloc (.cells #[.int .i64 rs.version, .slice A1 rs.records.length q1, .slice B1 rs.verdicts.length p1] 34)) := (Ext.refl w6).alloc _
    have ap_bA_1 := hid (show w6.heap.size ∉ F1 from fun hm => by have h9 := o1.lt _ hm; omega)
    replace hW := hW.trans y6
    replace o1 := o1.ext y6
    clear y6
    go_wp2_with fail
    refine (toBatchS_c _ xs _ (h.mono hW) HS0).mono ?_
    rintro e w7 ⟨v7, F2, rfl, o2, n2, x7⟩
    have ap_o1_2 := hid (Dis.new o1.lt n2)
    have ap_bA_2 := hid (show w6.heap.size ∉ F2 from fun hm => by have h9 := n2.2 _ hm; have h8 := block_lt bA; omega)
    have hF2 := hid (fun b9 (hb9 : b9 ∈ F2) => Nat.le_trans hW.size (n2.2 b9 hb9))
    have N2 := hid n2.1
    replace hW := hW.trans x7
    replace o1 := o1.ext x7
    replace bA := bA.ext x7
    clear x7
    have ap_o2_1 := hid ap_o1_2.out.symm
    go_wp2_with fail
    refine (impl_ReplayBatches _ xs _ o2.sl HLN.out).mono ?_
    rintro e w8 ⟨r4, d4, F8, rfl, R, hI4, x8⟩
    rw [← HR.out] at R hI4 ⊢
    dsimp only at R hI4 ⊢
    obtain ⟨F4, o4, n4a, n4b⟩ := R.own hI4
    have n4 := (⟨n4a, n4b⟩ : NewF _ F4)
    obtain ⟨A4, q4, B4, p4, e9⟩ := o4.form
    injection e9 with e9
    injection e9 with e9
    simp only [List.cons.injEq, and_true, true_and] at e9
    obtain ⟨e9a, e9b⟩ := e9
    subst e9a
    subst e9b
    clear R n4a n4b
    have ap_o1_4 := hid (Dis.new o1.lt n4)
    have ap_bA_4 := hid (show w6.heap.size ∉ F4 from fun hm => by have h9 := n4.2 _ hm; have h8 := block_lt bA; omega)
    have ap_o2_4 := hid (Dis.new o2.lt n4)
    have hF4 := hid (fun b9 (hb9 : b9 ∈ F4) => Nat.le_trans hW.size (n4.2 b9 hb9))
    have N4 := hid n4.1
    replace hW := hW.trans x8
    replace o1 := o1.ext x8
    replace bA := bA.ext x8
    replace o2 := o2.ext x8
    clear x8
    have bG := Blk.new w8 34 #[.int .i64 rs.version, .slice A4 rs.records.length q4, .slice B4 rs.verdicts.length p4]
    have y8 : Ext w8 (w8.alloc (.cells #[.int .i64 rs.version, .slice A4 rs.records.length q4, .slice B4 rs.verdicts.length p4] 34)) := (Ext.refl w8).alloc _
    have ap_bG_1 := hid (show w8.heap.size ∉ F1 from fun hm => by have h9 := o1.lt _ hm; omega)
    have ap_bG_2 := hid (show w8.heap.size ∉ F2 from fun hm => by have h9 := o2.lt _ hm; omega)
    have ap_bG_4 := hid (show w8.heap.size ∉ F4 from fun hm => by have h9 := o4.lt _ hm; omega)
    replace hW := hW.trans y8
    replace o1 := o1.ext y8
    replace bA := bA.ext y8
    replace o2 := o2.ext y8
    replace o4 := o4.ext y8
    clear y8
    have ap_o4_1 := hid ap_o1_4.out.symm
    have ap_o4_2 := hid ap_o2_4.out.symm
    obtain ⟨bGc0, bGc1, bGc2⟩ := (⟨bG.cells.1 0, bG.cells.1 1, bG.cells.1 2⟩ : _ ∧ _ ∧ _)
    obtain ⟨bAc0, bAc1, bAc2⟩ := (⟨bA.cells.1 0, bA.cells.1 1, bA.cells.1 2⟩ : _ ∧ _ ∧ _)
    go_wp2_with fail
    refine (eqStore_c _ _ rs rs _ o4.at_ o1.at_).mono ?_
    rintro e w9 ⟨rfl, x9⟩
    rw [eqB_self]
    clear bGc0 bGc1 bGc2
    clear bAc0 bAc1 bAc2
    replace hW := hW.trans x9
    replace o1 := o1.ext x9
    replace bA := bA.ext x9
    replace o2 := o2.ext x9
    replace o4 := o4.ext x9
    replace bG := bG.ext x9
    clear x9
    go_wp2_with fail
    refine (toBatchS_c _ xs _ (h.mono hW) HS0).mono ?_
    rintro e w10 ⟨v10, F3, rfl, o3, n3, x10⟩
    clear n3
    replace hW := hW.trans x10
    replace o1 := o1.ext x10
    replace bA := bA.ext x10
    replace o2 := o2.ext x10
    replace o4 := o4.ext x10
    replace bG := bG.ext x10
    clear x10
    go_wp2_with fail
    refine (eqBatchS_c _ _ xs xs _ o2.sl o3.sl).mono ?_
    rintro e w11 ⟨rfl, x11⟩
    rw [eqB_self]
    clear o3
    replace hW := hW.trans x11
    replace o1 := o1.ext x11
    replace bA := bA.ext x11
    replace o2 := o2.ext x11
    replace o4 := o4.ext x11
    replace bG := bG.ext x11
    clear x11
    go_wp2_with fail
    refine (markBatchS_c _ xs F2 1 _ o2 N2.out (by omega) HC2.out).mono ?_
    rintro e w12 ⟨k2, rfl, hk2n, hc⟩
    clear o2
    replace o1 := o1.keep fun b9 hb9 => hc.block b9 (o1.lt b9 hb9) (ap_o1_2.out b9 hb9)
    replace bA := bA.keep (hc.block _ (block_lt bA) ap_bA_2.out)
    replace o4 := o4.keep fun b9 hb9 => hc.block b9 (o4.lt b9 hb9) (ap_o4_2.out b9 hb9)
    replace bG := bG.keep (hc.block _ (block_lt bG) ap_bG_2.out)
    replace hW := hc.ext hF2.out hW
    clear hc
    obtain ⟨bGc0, bGc1, bGc2⟩ := (⟨bG.cells.1 0, bG.cells.1 1, bG.cells.1 2⟩ : _ ∧ _ ∧ _)
    obtain ⟨bAc0, bAc1, bAc2⟩ := (⟨bA.cells.1 0, bA.cells.1 1, bA.cells.1 2⟩ : _ ∧ _ ∧ _)
    go_wp2_with fail
    refine (eqStore_c _ _ rs rs _ o4.at_ o1.at_).mono ?_
    rintro e w13 ⟨rfl, x13⟩
    rw [eqB_self]
    clear bGc0 bGc1 bGc2
    clear bAc0 bAc1 bAc2
    replace hW := hW.trans x13
    replace o1 := o1.ext x13
    replace bA := bA.ext x13
    replace o4 := o4.ext x13
    replace bG := bG.ext x13
    clear x13
    obtain ⟨bGc0, bGc1, bGc2⟩ := (⟨bG.cells.1 0, bG.cells.1 1, bG.cells.1 2⟩ : _ ∧ _ ∧ _)
    go_wp2_with fail
    refine (markStore_t _ rs F4 1 _ o4 N4.out (by omega) HC4.out).mono ?_
    rintro e w15 ⟨s4, rfl, o4b, his, hc⟩
    have HIS := hid his
    clear his
    clear bGc0 bGc1 bGc2
    clear o4
    replace o1 := o1.keep fun b9 hb9 => hc.block b9 (o1.lt b9 hb9) (ap_o1_4.out b9 hb9)
    replace bA := bA.keep (hc.block _ (block_lt bA) ap_bA_4.out)
    replace bG := bG.keep (hc.block _ (block_lt bG) ap_bG_4.out)
    replace hW := hc.ext hF4.out hW
    clear hc
    obtain ⟨k3, hk3⟩ : ∃ k : Int, k = 1 + (stoCnt rs : Nat) := ⟨_, rfl⟩
    have HK3 := hid hk3
    rw [← hk3]
    have hk3n : 0 ≤ k3 := by omega
    have hk3e : (k3 != k3) = false := by simp
    clear hk3 hk2n
    obtain ⟨bGc0, bGc1, bGc2⟩ := (⟨bG.cells.1 0, bG.cells.1 1, bG.cells.1 2⟩ : _ ∧ _ ∧ _)
    go_wp2_with fail
    refine (heldStore_t _ rs s4 1 _ o4b.at_ HIS.out (by omega) HC4.out).mono ?_
    rintro e w16 ⟨rfl, x16⟩
    rw [← HK3.out]
    clear bGc0 bGc1 bGc2
    replace hW := hW.trans x16
    replace o1 := o1.ext x16
    replace bA := bA.ext x16
    replace bG := bG.ext x16
    replace o4b := o4b.ext x16
    clear x16
    go_wp2_with fail
    refine (toBatchS_c _ xs _ (h.mono hW) HS0).mono ?_
    rintro e w17 ⟨v17, F6, rfl, o6, n6, x17⟩
    clear n6
    replace hW := hW.trans x17
    replace o1 := o1.ext x17
    replace bA := bA.ext x17
    replace bG := bG.ext x17
    replace o4b := o4b.ext x17
    clear x17
    go_wp2_with fail
    refine (impl_ReplayBatches _ xs _ o6.sl HLN.out).mono ?_
    rintro e w18 ⟨r5, d5, F8, rfl, R, hI5, x18⟩
    rw [← HR.out] at R hI5 ⊢
    dsimp only at R hI5 ⊢
    obtain ⟨F5, o5, n5a, n5b⟩ := R.own hI5
    have n5 := (⟨n5a, n5b⟩ : NewF _ F5)
    obtain ⟨A5, q5, B5, p5, e9⟩ := o5.form
    injection e9 with e9
    injection e9 with e9
    simp only [List.cons.injEq, and_true, true_and] at e9
    obtain ⟨e9a, e9b⟩ := e9
    subst e9a
    subst e9b
    clear R n5a n5b
    clear n5
    replace hW := hW.trans x18
    replace o1 := o1.ext x18
    replace bA := bA.ext x18
    replace bG := bG.ext x18
    replace o4b := o4b.ext x18
    replace o6 := o6.ext x18
    clear x18
    have bH := Blk.new w18 34 #[.int .i64 rs.version, .slice A5 rs.records.length q5, .slice B5 rs.verdicts.length p5]
    have y18 : Ext w18 (w18.alloc (.cells #[.int .i64 rs.version, .slice A5 rs.records.length q5, .slice B5 rs.verdicts.length p5] 34)) := (Ext.refl w18).alloc _
    replace hW := hW.trans y18
    replace o1 := o1.ext y18
    replace bA := bA.ext y18
    replace bG := bG.ext y18
    replace o4b := o4b.ext y18
    replace o6 := o6.ext y18
    replace o5 := o5.ext y18
    clear y18
    obtain ⟨bHc0, bHc1, bHc2⟩ := (⟨bH.cells.1 0, bH.cells.1 1, bH.cells.1 2⟩ : _ ∧ _ ∧ _)
    obtain ⟨bAc0, bAc1, bAc2⟩ := (⟨bA.cells.1 0, bA.cells.1 1, bA.cells.1 2⟩ : _ ∧ _ ∧ _)
    go_wp2_with fail
    refine (eqStore_c _ _ rs rs _ o5.at_ o1.at_).mono ?_
    rintro e w19 ⟨rfl, x19⟩
    rw [eqB_self]
    clear bHc0 bHc1 bHc2
    clear bAc0 bAc1 bAc2
    replace hW := hW.trans x19
    replace o1 := o1.ext x19
    replace bA := bA.ext x19
    replace bG := bG.ext x19
    replace o4b := o4b.ext x19
    replace o6 := o6.ext x19
    replace o5 := o5.ext x19
    replace bH := bH.ext x19
    clear x19
    obtain ⟨bGc0, bGc1, bGc2⟩ := (⟨bG.cells.1 0, bG.cells.1 1, bG.cells.1 2⟩ : _ ∧ _ ∧ _)
    go_wp2_with fail
    refine (heldStore_t _ rs s4 1 _ o4b.at_ HIS.out (by omega) HC4.out).mono ?_
    rintro e w20 ⟨rfl, x20⟩
    rw [← HK3.out]
    clear bGc0 bGc1 bGc2
    replace hW := hW.trans x20
    replace o1 := o1.ext x20
    replace bA := bA.ext x20
    replace bG := bG.ext x20
    replace o4b := o4b.ext x20
    replace o6 := o6.ext x20
    replace o5 := o5.ext x20
    replace bH := bH.ext x20
    clear x20
    go_wp2
    go_ret
    exact ⟨rfl, hW⟩

end Go.Proofs.YtfcbapaojoecgaaGreat
