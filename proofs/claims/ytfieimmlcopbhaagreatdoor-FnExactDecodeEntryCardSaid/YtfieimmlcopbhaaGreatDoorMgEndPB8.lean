/-
  THE LAW'S WALK: FnExactParseBatch.
-/
import Derived.Test.YtfieimmlcopbhaaGreatDoorMgEndPB7
import Derived.Test.YtfieimmlcopbhaaGreatDoorMgEndPB0
import Derived.Test.YtfieimmlcopbhaaGreatDoorMgEndPO5

namespace Go.Proofs.YtfieimmlcopbhaaGreatDoor
open Go.RowKit

theorem ansOk {α : Type} (ok : α → Bool) (fmt : α → ByteArray) (z : α) (s : ByteArray) : ok (ans ok fmt z s).1 = true ∨ (ans ok fmt z s).1 = z := by
  unfold ans
  split
  · rename_i h; exact .inl h.choose_spec.1
  · exact .inr rfl
theorem opF_len {o : Op} (h1 : okOp o = true) : o.record.fields.length ≤ 4 := by
  rcases O_form h1 with ⟨k, _, _⟩ | ⟨_, e, _⟩ | ⟨_, e, _⟩ | ⟨_, e, _⟩
  · exact Nat.le_of_eq (okRec_len k)
  all_goals (rw [e]; exact Nat.zero_le _)
theorem bat_cnt {b : Batch} (h : okBat b = true) : (lstMk opMk).cnt b.ops ≤ 1048576 := by
  have h1 := okBat_len h
  have h2 := okBat_ops h
  have h3 : ∀ l : List Op, (∀ o ∈ l, okOp o = true) → opMk.sum l ≤ 12 * l.length := fun l => by
    induction l with
    | nil => intro _; simp [Mk.sum]
    | cons o l ih =>
      intro h
      have h4 := ih fun e he => h e (List.mem_cons_of_mem _ he)
      have h5 := opF_len (h o (List.mem_cons_self ..))
      have h6 : opMk.cnt o = 8 + o.record.fields.length := rfl
      unfold Mk.sum at h4 ⊢
      simp only [List.map_cons, List.sum_cons, List.length_cons] at h4 ⊢
      omega
  have h9 := h3 b.ops h2
  show opMk.sum b.ops ≤ _
  omega
theorem pB_cnt (s : ByteArray) : (lstMk opMk).cnt (pB s).1.ops ≤ 1048576 := by
  rcases ansOk okBat fmtB ⟨[]⟩ s with h | h
  · exact bat_cnt h
  · have e : (pB s).1 = ⟨[]⟩ := h
    rw [e]; exact Nat.zero_le _

set_option maxHeartbeats 400000 in
set_option maxRecDepth 20000 in
theorem law_ParseBatch (s : ByteArray) (w : World) (_hs : s.size ≤ maxLen) (N : Env w) :
    Calls Tryz.prog 4 #[.string s] w fun e w2 => e = .returned (.bool true) ∧ Ext w w2 := by
  by_cases hb : 1048576 < s.size
  · go_enter Tryz.func4, Tryz.ntmps4
    go_wp2
    go_ret
    exact ⟨rfl, Ext.refl _⟩
  · have hb2 : s.size ≤ 1048576 := by omega
    have hlen := pB_cnt s
    go_enter Tryz.func4, Tryz.ntmps4
    go_wp2_with fail
    refine (spec_ParseBatch s _ hb2).mono ?_
    rintro e w1 ⟨v1, F1, rfl, ⟨f1, rfl, _, o1⟩, n1, x1⟩
    obtain ⟨r, hr⟩ : ∃ r, r = pB s := ⟨_, rfl⟩
    rw [← hr] at o1 hlen ⊢
    have HR := hid hr
    clear hr n1
    obtain ⟨b, k⟩ := r
    have hk : (k != k) = false := by simp
    dsimp only at o1 hlen ⊢
    have HCB := hid (show (1 : Int) + ((lstMk opMk).cnt b.ops : Nat) ≤ 1152921504606846976 by omega)
    clear hlen
    obtain ⟨A1, c1, rfl, _⟩ := o1.form
    have bA := Blk.new w1 36 #[.slice A1 b.ops.length c1]
    have y1 : Ext w1 (w1.alloc (.cells #[.slice A1 b.ops.length c1] 36)) := (Ext.refl w1).alloc _
    have hW := x1.trans y1
    replace o1 := o1.ext y1
    clear x1 y1
    go_wp2_with fail
    refine (impl_ParseBatch s _ hb2 (N.mono hW)).mono ?_
    rintro e w2 ⟨v2, F2, rfl, ⟨f2, rfl, _, o2⟩, n2, x2⟩
    rw [← HR.out] at o2 ⊢
    dsimp only at o2 ⊢
    obtain ⟨A2, c2, rfl, _⟩ := o2.form
    have d12 : Dis F1 F2 := Dis.new o1.lt n2
    have hA2 : w1.heap.size ∉ F2 := fun hm => by have h9 := n2.2 _ hm; have h8 := block_lt bA; omega
    have hB2 : w2.heap.size ∉ F2 := fun hm => by have h9 := o2.lt _ hm; omega
    have hF2 := fun b (hb : b ∈ F2) => Nat.le_trans hW.size (n2.2 b hb)
    have N2 := n2.1
    have bB := Blk.new w2 36 #[.slice A2 b.ops.length c2]
    have y2 : Ext w2 (w2.alloc (.cells #[.slice A2 b.ops.length c2] 36)) := (Ext.refl w2).alloc _
    replace hW := hW.trans (x2.trans y2)
    replace bA := bA.ext (x2.trans y2)
    replace o1 := o1.ext (x2.trans y2)
    replace o2 := o2.ext y2
    clear x2 y2 n2
    obtain ⟨cA, _⟩ := bA.cells
    obtain ⟨cB, _⟩ := bB.cells
    go_wp2_with fail
    refine (eqBatch_c _ _ b b _ ⟨_, rfl, trivial, o2.sl⟩ ⟨_, rfl, trivial, o1.sl⟩).mono ?_
    rintro e w3 ⟨rfl, x3⟩
    rw [eqB_self]
    clear cA cB
    replace hW := hW.trans x3
    replace bA := bA.ext x3
    replace bB := bB.ext x3
    replace o1 := o1.ext x3
    replace o2 := o2.ext x3
    clear x3
    obtain ⟨cB, _⟩ := bB.cells
    go_wp2_with fail
    refine (markBatch_c _ b.ops F2 1 _ o2 N2 (by omega) HCB.out).mono ?_
    rintro e w4 ⟨ys, rfl, o4, hmk, hc⟩
    clear cB o2
    replace bA := bA.keep (hc.block _ (block_lt bA) hA2)
    replace bB := bB.keep (hc.block _ (block_lt bB) hB2)
    replace o1 := hc.keepSl d12 o1
    replace hW := hc.ext hF2 hW
    clear hc hA2 hB2 d12 N2 hF2
    obtain ⟨cn, hcn⟩ : ∃ n, n = (lstMk opMk).cnt b.ops := ⟨_, rfl⟩
    have HCN := hid hcn
    have HMK := hid hmk
    rw [← hcn]
    clear hcn hmk
    obtain ⟨cB, _⟩ := bB.cells
    go_wp2_with fail
    refine (heldBatch_c _ b.ops ys 1 _ o4.sl HMK.out (by omega) HCB.out).mono ?_
    rintro e w5 ⟨rfl, x5⟩
    rw [← HCN.out]
    clear cB
    replace hW := hW.trans x5
    replace bA := bA.ext x5
    replace bB := bB.ext x5
    replace o1 := o1.ext x5
    replace o4 := o4.ext x5
    clear x5
    have hnn : 0 ≤ (1 : Int) + (cn : Int) := by omega
    go_wp2_with fail
    refine (impl_ParseBatch s _ hb2 (N.mono hW)).mono ?_
    rintro e w6 ⟨v6, F6, rfl, ⟨f6, rfl, _, o6⟩, n6, x6⟩
    rw [← HR.out] at o6 ⊢
    dsimp only at o6 ⊢
    obtain ⟨A6, c6, rfl, _⟩ := o6.form
    have bC := Blk.new w6 36 #[.slice A6 b.ops.length c6]
    have y6 : Ext w6 (w6.alloc (.cells #[.slice A6 b.ops.length c6] 36)) := (Ext.refl w6).alloc _
    replace hW := hW.trans (x6.trans y6)
    replace bA := bA.ext (x6.trans y6)
    replace bB := bB.ext (x6.trans y6)
    replace o1 := o1.ext (x6.trans y6)
    replace o4 := o4.ext (x6.trans y6)
    replace o6 := o6.ext y6
    clear x6 y6 n6
    obtain ⟨cA, _⟩ := bA.cells
    obtain ⟨cC, _⟩ := bC.cells
    go_wp2_with fail
    refine (eqBatch_c _ _ b b _ ⟨_, rfl, trivial, o6.sl⟩ ⟨_, rfl, trivial, o1.sl⟩).mono ?_
    rintro e w7 ⟨rfl, x7⟩
    rw [eqB_self]
    clear cA cC
    replace hW := hW.trans x7
    replace bB := bB.ext x7
    replace o4 := o4.ext x7
    clear x7 bA bC o1 o6
    obtain ⟨cB, _⟩ := bB.cells
    go_wp2_with fail
    refine (heldBatch_c _ b.ops ys 1 _ o4.sl HMK.out (by omega) HCB.out).mono ?_
    rintro e w8 ⟨rfl, x8⟩
    rw [← HCN.out]
    clear cB
    go_wp2
    go_ret
    exact ⟨rfl, hW.trans x8⟩

end Go.Proofs.YtfieimmlcopbhaaGreatDoor
