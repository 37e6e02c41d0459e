/-
  THE LAW'S WALK: FnExactParseOp.
-/
import Derived.Test.YtfieimmlcopbhaaGreatDoorMgEndPO24
import Derived.Test.YtfieimmlcopbhaaGreatDoorMgEndPO15
import Derived.Test.YtfieimmlcopbhaaGreatDoorMgEndPO5

namespace Go.Proofs.YtfieimmlcopbhaaGreatDoor
open Go.RowKit

theorem pO_len (s : ByteArray) : (pO s).1.record.fields.length ≤ 4 := by
  by_cases h : ∃ o, okOp o = true ∧ fmtO o = s
  · obtain ⟨o, h1, h2⟩ := h
    subst h2
    rw [pO_hit h1]
    rcases O_form h1 with ⟨k, _, _⟩ | ⟨_, e, _⟩ | ⟨_, e, _⟩ | ⟨_, e, _⟩
    · exact Nat.le_of_eq (okRec_len k)
    all_goals (rw [e]; exact Nat.zero_le _)
  · have e : pO s = (zop, false) := ans_no fun o h1 h2 => h ⟨o, h1, h2⟩
    rw [e]; exact Nat.zero_le _

set_option maxHeartbeats 400000 in
set_option maxRecDepth 20000 in
theorem law_ParseOp (s : ByteArray) (w : World) (_hs : s.size ≤ maxLen) (N : Env w) :
    Calls Tryz.prog 3 #[.string s] w fun e w2 => e = .returned (.bool true) ∧ Ext w w2 := by
  by_cases hb : 1048576 < s.size
  · go_enter Tryz.func3, Tryz.ntmps3
    go_wp2
    go_ret
    exact ⟨rfl, Ext.refl _⟩
  · have hb2 : s.size ≤ 1048576 := by omega
    have hlen := pO_len s
    go_enter Tryz.func3, Tryz.ntmps3
    go_wp2_with fail
    refine (spec_ParseOp s _ hb2).mono ?_
    rintro e w1 ⟨v1, F1, rfl, ⟨f1, rfl, ok1, o1⟩, n1, x1⟩
    obtain ⟨r, hr⟩ : ∃ r, r = pO s := ⟨_, rfl⟩
    rw [← hr] at ok1 o1 hlen ⊢
    have HR := hid hr
    clear hr n1
    obtain ⟨o, k⟩ := r
    have hk : (k != k) = false := by simp
    dsimp only at ok1 o1 hlen ⊢
    have HOK := hid ok1
    clear ok1
    obtain ⟨A1, c1, rfl, _⟩ := o1.form
    have bA := Blk.new w1 28 #[.int .i64 o.kind, .int .i64 o.record.source, .int .i64 o.record.key, .int .i64 o.record.version, .slice A1 o.record.fields.length c1, .int .i64 o.verdict.a, .int .i64 o.verdict.b, .bool o.verdict.same, .int .i64 o.verdict.time]
    have y1 : Ext w1 (w1.alloc (.cells #[.int .i64 o.kind, .int .i64 o.record.source, .int .i64 o.record.key, .int .i64 o.record.version, .slice A1 o.record.fields.length c1, .int .i64 o.verdict.a, .int .i64 o.verdict.b, .bool o.verdict.same, .int .i64 o.verdict.time] 28)) := (Ext.refl w1).alloc _
    have hW := x1.trans y1
    replace o1 := o1.ext y1
    clear x1 y1
    go_wp2_with fail
    refine (impl_ParseOp s _ hb2 (N.mono hW)).mono ?_
    rintro e w2 ⟨v2, F2, rfl, ⟨f2, rfl, _, o2⟩, n2, x2⟩
    rw [← HR.out] at o2 ⊢
    dsimp only at o2 ⊢
    obtain ⟨A2, c2, rfl, _⟩ := o2.form
    have d12 : Dis F1 F2 := Dis.new o1.lt n2
    have hA2 : w1.heap.size ∉ F2 := fun hm => by have h9 := n2.2 _ hm; have h8 := block_lt bA; omega
    have hB2 : w2.heap.size ∉ F2 := fun hm => by have h9 := o2.lt _ hm; omega
    have hF2 := fun b (hb : b ∈ F2) => Nat.le_trans hW.size (n2.2 b hb)
    have N2 := n2.1
    have bB := Blk.new w2 28 #[.int .i64 o.kind, .int .i64 o.record.source, .int .i64 o.record.key, .int .i64 o.record.version, .slice A2 o.record.fields.length c2, .int .i64 o.verdict.a, .int .i64 o.verdict.b, .bool o.verdict.same, .int .i64 o.verdict.time]
    have y2 : Ext w2 (w2.alloc (.cells #[.int .i64 o.kind, .int .i64 o.record.source, .int .i64 o.record.key, .int .i64 o.record.version, .slice A2 o.record.fields.length c2, .int .i64 o.verdict.a, .int .i64 o.verdict.b, .bool o.verdict.same, .int .i64 o.verdict.time] 28)) := (Ext.refl w2).alloc _
    replace hW := hW.trans (x2.trans y2)
    replace bA := bA.ext (x2.trans y2)
    replace o1 := o1.ext (x2.trans y2)
    replace o2 := o2.ext y2
    clear x2 y2 n2
    obtain ⟨cA, _⟩ := bA.cells
    obtain ⟨cB, _⟩ := bB.cells
    go_wp2_with fail
    refine (eqOp_c _ _ o o _ ⟨_, rfl, HOK.out, o2.sl⟩ ⟨_, rfl, HOK.out, o1.sl⟩).mono ?_
    rintro e w3 ⟨rfl, x3⟩
    rw [eqB_self]
    clear cA cB
    replace hW := hW.trans x3
    replace bA := bA.ext x3
    replace bB := bB.ext x3
    replace o1 := o1.ext x3
    replace o2 := o2.ext x3
    clear x3
    obtain ⟨cB, _⟩ := bB.cells
    go_wp2_with fail
    refine (markOp_t o _ F2 1 _ o2 N2 (by omega) (by omega)).mono ?_
    rintro e w4 ⟨ys, rfl, o4, hy, hmk, hc⟩
    clear cB o2
    replace bA := bA.keep (hc.block _ (block_lt bA) hA2)
    replace bB := bB.keep (hc.block _ (block_lt bB) hB2)
    replace o1 := hc.keepSl d12 o1
    replace hW := hc.ext hF2 hW
    clear hc hA2 hB2 d12 N2 hF2
    have e4 : .slice A2 o.record.fields.length c2 = Value.slice A2 ys.length c2 := by rw [hy]
    rw [e4] at bB o4
    have HY := hid hy
    have hyl : (o.record.fields.length : Int) = ys.length := by rw [hy]
    have hlen2 : ys.length ≤ 4 := by omega
    clear hy e4
    rw [hyl]
    clear hyl
    obtain ⟨cB, _⟩ := bB.cells
    go_wp2_with fail
    refine (heldOp_t o _ ys 1 _ o4.sl hmk (by omega) (by omega)).mono ?_
    rintro e w5 ⟨rfl, x5⟩
    clear cB
    replace hW := hW.trans x5
    replace bA := bA.ext x5
    replace bB := bB.ext x5
    replace o1 := o1.ext x5
    replace o4 := o4.ext x5
    clear x5
    have hnn : 0 ≤ (1 : Int) + (ys.length : Int) := by omega
    go_wp2_with fail
    refine (impl_ParseOp s _ hb2 (N.mono hW)).mono ?_
    rintro e w6 ⟨v6, F6, rfl, ⟨f6, rfl, _, o6⟩, n6, x6⟩
    rw [← HR.out] at o6 ⊢
    dsimp only at o6 ⊢
    obtain ⟨A6, c6, rfl, _⟩ := o6.form
    have bC := Blk.new w6 28 #[.int .i64 o.kind, .int .i64 o.record.source, .int .i64 o.record.key, .int .i64 o.record.version, .slice A6 o.record.fields.length c6, .int .i64 o.verdict.a, .int .i64 o.verdict.b, .bool o.verdict.same, .int .i64 o.verdict.time]
    have y6 : Ext w6 (w6.alloc (.cells #[.int .i64 o.kind, .int .i64 o.record.source, .int .i64 o.record.key, .int .i64 o.record.version, .slice A6 o.record.fields.length c6, .int .i64 o.verdict.a, .int .i64 o.verdict.b, .bool o.verdict.same, .int .i64 o.verdict.time] 28)) := (Ext.refl w6).alloc _
    replace hW := hW.trans (x6.trans y6)
    replace bA := bA.ext (x6.trans y6)
    replace bB := bB.ext (x6.trans y6)
    replace o1 := o1.ext (x6.trans y6)
    replace o4 := o4.ext (x6.trans y6)
    replace o6 := o6.ext y6
    clear x6 y6 n6
    obtain ⟨cA, _⟩ := bA.cells
    obtain ⟨cC, _⟩ := bC.cells
    go_wp2_with fail
    refine (eqOp_c _ _ o o _ ⟨_, rfl, HOK.out, o6.sl⟩ ⟨_, rfl, HOK.out, o1.sl⟩).mono ?_
    rintro e w7 ⟨rfl, x7⟩
    rw [eqB_self]
    clear cA cC
    replace hW := hW.trans x7
    replace bB := bB.ext x7
    replace o4 := o4.ext x7
    clear x7 bA bC o1 o6
    obtain ⟨cB, _⟩ := bB.cells
    go_wp2_with fail
    refine (heldOp_t o _ ys 1 _ o4.sl hmk (by omega) (by omega)).mono ?_
    rintro e w8 ⟨rfl, x8⟩
    clear cB
    go_wp2
    go_ret
    exact ⟨rfl, hW.trans x8⟩

end Go.Proofs.YtfieimmlcopbhaaGreatDoor
