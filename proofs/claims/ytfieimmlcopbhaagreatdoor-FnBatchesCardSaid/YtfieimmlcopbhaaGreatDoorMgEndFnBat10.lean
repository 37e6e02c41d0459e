/-
  THE LAW'S WALK: FnBatches.
-/
import Derived.Test.YtfieimmlcopbhaaGreatDoorMgEndFnBat9

namespace Go.Proofs.YtfieimmlcopbhaaGreatDoor
open Go.RowKit

set_option maxHeartbeats 2000000 in
set_option maxRecDepth 20000 in
theorem law_FnBatches (v : Value) (bs : List Int) (w : World) (h : Sl u8R w v bs) (N : Env w) :
    Calls Tryz.prog 7 #[v] w fun e w2 => e = .returned (.bool true) ∧ Ext w w2 := by
  by_cases hbig : 1048576 < bs.length
  · go_enter Tryz.func7, Tryz.ntmps7
    go_wp2_with fail
    refine (laws_big _ bs w h).mono ?_
    rintro e w2 ⟨rfl, rfl⟩
    rw [decide_eq_true hbig]
    go_wp2
    go_ret
    exact ⟨rfl, Ext.refl _⟩
  · go_enter Tryz.func7, Tryz.ntmps7
    go_wp2_with fail
    refine (laws_big _ bs w h).mono ?_
    rintro e w2 ⟨rfl, rfl⟩
    rw [decide_eq_false hbig]
    go_wp2_with fail
    refine (spec_DrawFormatBatch w _ bs h).mono ?_
    rintro e w2 ⟨v1, b, rfl, hb0, x2⟩
    have hb1 := hb0
    obtain ⟨f1, rfl, _, s1⟩ := hb1
    obtain ⟨A, c, e1, _⟩ := s1.form
    subst e1
    have xb : Ext w2 (w2.alloc (.cells #[.slice A b.ops.length c] 36)) := (Ext.refl w2).alloc _
    have b3 : Blk (w2.alloc (.cells #[.slice A b.ops.length c] 36)) w2.heap.size 36 [.slice A b.ops.length c] := Blk.new w2 36 #[.slice A b.ops.length c]
    have HB := hid (show ∀ W, Ext (w2.alloc (.cells #[.slice A b.ops.length c] 36)) W → BatAt W (.agg #[.slice A b.ops.length c]) b ∧ W.cell? ⟨w2.heap.size, 0, none⟩ = some (.slice A b.ops.length c) from fun W x => ⟨hb0.mono (xb.trans x), (b3.ext x).cells.1 0⟩)
    have HX := hid (x2.trans xb)
    clear hb0 s1 b3
    go_wp2_with fail
    refine (impl_FormatBatch _ b _ (HB.out _ (Ext.refl _)).1 (N.T.mono HX.out)).mono ?_
    rintro e w3 ⟨rfl, x3⟩
    have hsz := fmtB_size b
    go_wp2_with fail
    refine (impl_ParseBatch (fmtB b) _ (by omega) (N.mono (HX.out.trans x3))).mono ?_
    rintro e w4 ⟨v4, F4, rfl, o4, n4, x4⟩
    have HBK := hid (pB_back b)
    have x34 := x3.trans x4
    obtain ⟨f4, rfl, _, o4⟩ := o4
    obtain ⟨A4, c4, e4, _⟩ := o4.form
    subst e4
    have s4 := o4.sl
    obtain ⟨pb, hpb⟩ : ∃ p, p = pB (fmtB b) := ⟨_, rfl⟩
    rw [← hpb] at s4 ⊢
    have HPB := hid hpb
    clear o4 n4 x3 x4 hsz hpb
    have xo : Ext w4 (w4.alloc (.cells #[.slice A4 pb.1.ops.length c4] 36)) := (Ext.refl w4).alloc _
    have l0 : (w4.alloc (.cells #[.slice A4 pb.1.ops.length c4] 36)).cell? ⟨w2.heap.size, 0, none⟩ = some (.slice A b.ops.length c) := (HB.out _ (x34.trans xo)).2
    have b5 : Blk (w4.alloc (.cells #[.slice A4 pb.1.ops.length c4] 36)) w4.heap.size 36 [.slice A4 pb.1.ops.length c4] := Blk.new w4 36 #[.slice A4 pb.1.ops.length c4]
    go_wp2_with fail
    refine (spec_FormatBatch _ b _ (HB.out _ (x34.trans xo)).1).mono ?_
    rintro e w5 ⟨rfl, x5⟩
    have x35 := (x34.trans xo).trans x5
    have b55 := b5.ext x5
    have s5 := (s4.mono xo).mono x5
    have m0 := (HB.out _ x35).2
    have q1 : ((fmtB b).toList != (fmtB b).toList) = false := by simp
    clear l0 b5 s4 xo x34 x5
    go_wp2_with fail
    refine (spec_IsValidBatch _ b _ (HB.out _ x35).1).mono ?_
    rintro e w6 ⟨rfl, x6⟩
    have x36 := x35.trans x6
    have hq := HBK.out
    rw [← HPB.out] at hq
    rw [← hq.1]
    clear m0 x35
    obtain ⟨p0, p2⟩ := pb
    cases p2 with
    | false =>
      dsimp only at hq s5 b55 ⊢
      have HQ := hid hq
      clear hq
      go_wp2_with fail
      refine (spec_DrawFormatOp _ _ bs (h.mono (HX.out.trans x36))).mono ?_
      rintro e w7 ⟨v7, o, rfl, ho0, x7⟩
      have ho1 := ho0
      obtain ⟨f5, rfl, _, s7⟩ := ho1
      obtain ⟨A5, c5, e5, _⟩ := s7.form
      subst e5
      have xb7 : Ext w7 (w7.alloc (.cells #[.int .i64 o.kind, .int .i64 o.record.source, .int .i64 o.record.key, .int .i64 o.record.version, .slice A5 o.record.fields.length c5, .int .i64 o.verdict.a, .int .i64 o.verdict.b, .bool o.verdict.same, .int .i64 o.verdict.time] 28)) := (Ext.refl w7).alloc _
      have b7 : Blk (w7.alloc (.cells #[.int .i64 o.kind, .int .i64 o.record.source, .int .i64 o.record.key, .int .i64 o.record.version, .slice A5 o.record.fields.length c5, .int .i64 o.verdict.a, .int .i64 o.verdict.b, .bool o.verdict.same, .int .i64 o.verdict.time] 28)) w7.heap.size 28 [.int .i64 o.kind, .int .i64 o.record.source, .int .i64 o.record.key, .int .i64 o.record.version, .slice A5 o.record.fields.length c5, .int .i64 o.verdict.a, .int .i64 o.verdict.b, .bool o.verdict.same, .int .i64 o.verdict.time] := Blk.new w7 28 #[.int .i64 o.kind, .int .i64 o.record.source, .int .i64 o.record.key, .int .i64 o.record.version, .slice A5 o.record.fields.length c5, .int .i64 o.verdict.a, .int .i64 o.verdict.b, .bool o.verdict.same, .int .i64 o.verdict.time]
      have HO := hid (show ∀ W, Ext (w7.alloc (.cells #[.int .i64 o.kind, .int .i64 o.record.source, .int .i64 o.record.key, .int .i64 o.record.version, .slice A5 o.record.fields.length c5, .int .i64 o.verdict.a, .int .i64 o.verdict.b, .bool o.verdict.same, .int .i64 o.verdict.time] 28)) W → OpAt W (.agg #[.int .i64 o.kind, .int .i64 o.record.source, .int .i64 o.record.key, .int .i64 o.record.version, .slice A5 o.record.fields.length c5, .int .i64 o.verdict.a, .int .i64 o.verdict.b, .bool o.verdict.same, .int .i64 o.verdict.time]) o ∧ Blk W w7.heap.size 28 [.int .i64 o.kind, .int .i64 o.record.source, .int .i64 o.record.key, .int .i64 o.record.version, .slice A5 o.record.fields.length c5, .int .i64 o.verdict.a, .int .i64 o.verdict.b, .bool o.verdict.same, .int .i64 o.verdict.time] from fun W x => ⟨ho0.mono (xb7.trans x), b7.ext x⟩)
      have HX7 := hid ((HX.out.trans x36).trans (x7.trans xb7))
      clear ho0 s7 b7 HX HB
      go_wp2_with fail
      refine (impl_FormatOp _ o _ (HO.out _ (Ext.refl _)).1 (N.T.mono HX7.out)).mono ?_
      rintro e w8 ⟨rfl, x8⟩
      have hsz := fmtO_size o
      go_wp2_with fail
      refine (impl_ParseOp (fmtO o) _ (by omega) (N.mono (HX7.out.trans x8))).mono ?_
      rintro e w9 ⟨v9, F9, rfl, o9, n9, x9⟩
      have hbk := pO_back o
      have x79 := x8.trans x9
      clear n9 x8 x9 hsz
      cases hok : okOp o with
      | false =>
        have HOK := hid hok
        have hp : pO (fmtO o) = (⟨0, ⟨0, 0, 0, []⟩, ⟨0, 0, false, 0⟩⟩, false) := by rw [fmtO_no (by simp [hok]), pO_nil]; rfl
        rw [hp] at o9 ⊢
        obtain ⟨f9, rfl, ok9, o9⟩ := o9
        obtain ⟨A9, c9, e9, _⟩ := o9.form
        subst e9
        dsimp only [List.length_nil] at o9 ⊢
        have s9 := o9.sl
        clear o9 hbk hp hok ok9
        have xo9 : Ext w9 (w9.alloc (.cells #[.int .i64 0, .int .i64 0, .int .i64 0, .int .i64 0, .slice A9 0 c9, .int .i64 0, .int .i64 0, .bool false, .int .i64 0] 28)) := (Ext.refl w9).alloc _
        have bY : Blk (w9.alloc (.cells #[.int .i64 0, .int .i64 0, .int .i64 0, .int .i64 0, .slice A9 0 c9, .int .i64 0, .int .i64 0, .bool false, .int .i64 0] 28)) w9.heap.size 28 [.int .i64 0, .int .i64 0, .int .i64 0, .int .i64 0, .slice A9 0 c9, .int .i64 0, .int .i64 0, .bool false, .int .i64 0] := Blk.new w9 28 #[.int .i64 0, .int .i64 0, .int .i64 0, .int .i64 0, .slice A9 0 c9, .int .i64 0, .int .i64 0, .bool false, .int .i64 0]
        have j0 : (w9.alloc (.cells #[.int .i64 0, .int .i64 0, .int .i64 0, .int .i64 0, .slice A9 0 c9, .int .i64 0, .int .i64 0, .bool false, .int .i64 0] 28)).cell? ⟨w7.heap.size, 0, none⟩ = some (.int .i64 o.kind) := (HO.out _ (x79.trans xo9)).2.cells.1 0
        have j1 : (w9.alloc (.cells #[.int .i64 0, .int .i64 0, .int .i64 0, .int .i64 0, .slice A9 0 c9, .int .i64 0, .int .i64 0, .bool false, .int .i64 0] 28)).cell? ⟨w7.heap.size, 1, none⟩ = some (.int .i64 o.record.source) := (HO.out _ (x79.trans xo9)).2.cells.1 1
        have j2 : (w9.alloc (.cells #[.int .i64 0, .int .i64 0, .int .i64 0, .int .i64 0, .slice A9 0 c9, .int .i64 0, .int .i64 0, .bool false, .int .i64 0] 28)).cell? ⟨w7.heap.size, 2, none⟩ = some (.int .i64 o.record.key) := (HO.out _ (x79.trans xo9)).2.cells.1 2
        have j3 : (w9.alloc (.cells #[.int .i64 0, .int .i64 0, .int .i64 0, .int .i64 0, .slice A9 0 c9, .int .i64 0, .int .i64 0, .bool false, .int .i64 0] 28)).cell? ⟨w7.heap.size, 3, none⟩ = some (.int .i64 o.record.version) := (HO.out _ (x79.trans xo9)).2.cells.1 3
        have j4 : (w9.alloc (.cells #[.int .i64 0, .int .i64 0, .int .i64 0, .int .i64 0, .slice A9 0 c9, .int .i64 0, .int .i64 0, .bool false, .int .i64 0] 28)).cell? ⟨w7.heap.size, 4, none⟩ = some (.slice A5 o.record.fields.length c5) := (HO.out _ (x79.trans xo9)).2.cells.1 4
        have j5 : (w9.alloc (.cells #[.int .i64 0, .int .i64 0, .int .i64 0, .int .i64 0, .slice A9 0 c9, .int .i64 0, .int .i64 0, .bool false, .int .i64 0] 28)).cell? ⟨w7.heap.size, 5, none⟩ = some (.int .i64 o.verdict.a) := (HO.out _ (x79.trans xo9)).2.cells.1 5
        have j6 : (w9.alloc (.cells #[.int .i64 0, .int .i64 0, .int .i64 0, .int .i64 0, .slice A9 0 c9, .int .i64 0, .int .i64 0, .bool false, .int .i64 0] 28)).cell? ⟨w7.heap.size, 6, none⟩ = some (.int .i64 o.verdict.b) := (HO.out _ (x79.trans xo9)).2.cells.1 6
        have j7 : (w9.alloc (.cells #[.int .i64 0, .int .i64 0, .int .i64 0, .int .i64 0, .slice A9 0 c9, .int .i64 0, .int .i64 0, .bool false, .int .i64 0] 28)).cell? ⟨w7.heap.size, 7, none⟩ = some (.bool o.verdict.same) := (HO.out _ (x79.trans xo9)).2.cells.1 7
        have j8 : (w9.alloc (.cells #[.int .i64 0, .int .i64 0, .int .i64 0, .int .i64 0, .slice A9 0 c9, .int .i64 0, .int .i64 0, .bool false, .int .i64 0] 28)).cell? ⟨w7.heap.size, 8, none⟩ = some (.int .i64 o.verdict.time) := (HO.out _ (x79.trans xo9)).2.cells.1 8
        go_wp2_with fail
        refine (spec_FormatOp _ o _ (HO.out _ (x79.trans xo9)).1).mono ?_
        rintro e w11 ⟨rfl, x11⟩
        have x711 := (x79.trans xo9).trans x11
        have t1 : ((fmtO o).toList == (fmtO o).toList) = true := by simp
        clear j0 j1 j2 j3 j4 j5 j6 j7 j8
        have i0 : w11.cell? ⟨w7.heap.size, 0, none⟩ = some (.int .i64 o.kind) := (HO.out _ (x711)).2.cells.1 0
        have i1 : w11.cell? ⟨w7.heap.size, 1, none⟩ = some (.int .i64 o.record.source) := (HO.out _ (x711)).2.cells.1 1
        have i2 : w11.cell? ⟨w7.heap.size, 2, none⟩ = some (.int .i64 o.record.key) := (HO.out _ (x711)).2.cells.1 2
        have i3 : w11.cell? ⟨w7.heap.size, 3, none⟩ = some (.int .i64 o.record.version) := (HO.out _ (x711)).2.cells.1 3
        have i4 : w11.cell? ⟨w7.heap.size, 4, none⟩ = some (.slice A5 o.record.fields.length c5) := (HO.out _ (x711)).2.cells.1 4
        have i5 : w11.cell? ⟨w7.heap.size, 5, none⟩ = some (.int .i64 o.verdict.a) := (HO.out _ (x711)).2.cells.1 5
        have i6 : w11.cell? ⟨w7.heap.size, 6, none⟩ = some (.int .i64 o.verdict.b) := (HO.out _ (x711)).2.cells.1 6
        have i7 : w11.cell? ⟨w7.heap.size, 7, none⟩ = some (.bool o.verdict.same) := (HO.out _ (x711)).2.cells.1 7
        have i8 : w11.cell? ⟨w7.heap.size, 8, none⟩ = some (.int .i64 o.verdict.time) := (HO.out _ (x711)).2.cells.1 8
        go_wp2_with fail
        refine (spec_IsValidOp _ o _ (HO.out _ x711).1).mono ?_
        rintro e w12 ⟨rfl, x12⟩
        have x712 := x711.trans x12
        rw [HOK.out]
        clear i0 i1 i2 i3 i4 i5 i6 i7 i8
        have k0 : w12.cell? ⟨w7.heap.size, 0, none⟩ = some (.int .i64 o.kind) := (HO.out _ (x712)).2.cells.1 0
        have k1 : w12.cell? ⟨w7.heap.size, 1, none⟩ = some (.int .i64 o.record.source) := (HO.out _ (x712)).2.cells.1 1
        have k2 : w12.cell? ⟨w7.heap.size, 2, none⟩ = some (.int .i64 o.record.key) := (HO.out _ (x712)).2.cells.1 2
        have k3 : w12.cell? ⟨w7.heap.size, 3, none⟩ = some (.int .i64 o.record.version) := (HO.out _ (x712)).2.cells.1 3
        have k4 : w12.cell? ⟨w7.heap.size, 4, none⟩ = some (.slice A5 o.record.fields.length c5) := (HO.out _ (x712)).2.cells.1 4
        have k5 : w12.cell? ⟨w7.heap.size, 5, none⟩ = some (.int .i64 o.verdict.a) := (HO.out _ (x712)).2.cells.1 5
        have k6 : w12.cell? ⟨w7.heap.size, 6, none⟩ = some (.int .i64 o.verdict.b) := (HO.out _ (x712)).2.cells.1 6
        have k7 : w12.cell? ⟨w7.heap.size, 7, none⟩ = some (.bool o.verdict.same) := (HO.out _ (x712)).2.cells.1 7
        have k8 : w12.cell? ⟨w7.heap.size, 8, none⟩ = some (.int .i64 o.verdict.time) := (HO.out _ (x712)).2.cells.1 8
        clear k0 k1 k2 k3 k4 k5 k6 k7 k8
        have g0 : w12.cell? ⟨w7.heap.size, 0, none⟩ = some (.int .i64 o.kind) := (HO.out _ (x712)).2.cells.1 0
        have g1 : w12.cell? ⟨w7.heap.size, 1, none⟩ = some (.int .i64 o.record.source) := (HO.out _ (x712)).2.cells.1 1
        have g2 : w12.cell? ⟨w7.heap.size, 2, none⟩ = some (.int .i64 o.record.key) := (HO.out _ (x712)).2.cells.1 2
        have g3 : w12.cell? ⟨w7.heap.size, 3, none⟩ = some (.int .i64 o.record.version) := (HO.out _ (x712)).2.cells.1 3
        have g4 : w12.cell? ⟨w7.heap.size, 4, none⟩ = some (.slice A5 o.record.fields.length c5) := (HO.out _ (x712)).2.cells.1 4
        have g5 : w12.cell? ⟨w7.heap.size, 5, none⟩ = some (.int .i64 o.verdict.a) := (HO.out _ (x712)).2.cells.1 5
        have g6 : w12.cell? ⟨w7.heap.size, 6, none⟩ = some (.int .i64 o.verdict.b) := (HO.out _ (x712)).2.cells.1 6
        have g7 : w12.cell? ⟨w7.heap.size, 7, none⟩ = some (.bool o.verdict.same) := (HO.out _ (x712)).2.cells.1 7
        have g8 : w12.cell? ⟨w7.heap.size, 8, none⟩ = some (.int .i64 o.verdict.time) := (HO.out _ (x712)).2.cells.1 8
        go_wp2_with fail
        refine (impl_IsValidOp _ o _ (HO.out _ x712).1).mono ?_
        rintro e w14 ⟨rfl, x14⟩
        rw [HOK.out]
        go_wp2
        go_ret
        exact ⟨rfl, HX7.out.trans (x712.trans x14)⟩
      | true =>
        have HOK := hid hok
        have hp : pO (fmtO o) = (o, true) := pO_hit hok
        rw [hp] at o9 ⊢
        obtain ⟨f9, rfl, ok9, o9⟩ := o9
        obtain ⟨A9, c9, e9, _⟩ := o9.form
        subst e9
        have s9 := o9.sl
        clear o9 hbk hp hok
        have xo9 : Ext w9 (w9.alloc (.cells #[.int .i64 o.kind, .int .i64 o.record.source, .int .i64 o.record.key, .int .i64 o.record.version, .slice A9 o.record.fields.length c9, .int .i64 o.verdict.a, .int .i64 o.verdict.b, .bool o.verdict.same, .int .i64 o.verdict.time] 28)) := (Ext.refl w9).alloc _
        have bY : Blk (w9.alloc (.cells #[.int .i64 o.kind, .int .i64 o.record.source, .int .i64 o.record.key, .int .i64 o.record.version, .slice A9 o.record.fields.length c9, .int .i64 o.verdict.a, .int .i64 o.verdict.b, .bool o.verdict.same, .int .i64 o.verdict.time] 28)) w9.heap.size 28 [.int .i64 o.kind, .int .i64 o.record.source, .int .i64 o.record.key, .int .i64 o.record.version, .slice A9 o.record.fields.length c9, .int .i64 o.verdict.a, .int .i64 o.verdict.b, .bool o.verdict.same, .int .i64 o.verdict.time] := Blk.new w9 28 #[.int .i64 o.kind, .int .i64 o.record.source, .int .i64 o.record.key, .int .i64 o.record.version, .slice A9 o.record.fields.length c9, .int .i64 o.verdict.a, .int .i64 o.verdict.b, .bool o.verdict.same, .int .i64 o.verdict.time]
        have j0 : (w9.alloc (.cells #[.int .i64 o.kind, .int .i64 o.record.source, .int .i64 o.record.key, .int .i64 o.record.version, .slice A9 o.record.fields.length c9, .int .i64 o.verdict.a, .int .i64 o.verdict.b, .bool o.verdict.same, .int .i64 o.verdict.time] 28)).cell? ⟨w7.heap.size, 0, none⟩ = some (.int .i64 o.kind) := (HO.out _ (x79.trans xo9)).2.cells.1 0
        have j1 : (w9.alloc (.cells #[.int .i64 o.kind, .int .i64 o.record.source, .int .i64 o.record.key, .int .i64 o.record.version, .slice A9 o.record.fields.length c9, .int .i64 o.verdict.a, .int .i64 o.verdict.b, .bool o.verdict.same, .int .i64 o.verdict.time] 28)).cell? ⟨w7.heap.size, 1, none⟩ = some (.int .i64 o.record.source) := (HO.out _ (x79.trans xo9)).2.cells.1 1
        have j2 : (w9.alloc (.cells #[.int .i64 o.kind, .int .i64 o.record.source, .int .i64 o.record.key, .int .i64 o.record.version, .slice A9 o.record.fields.length c9, .int .i64 o.verdict.a, .int .i64 o.verdict.b, .bool o.verdict.same, .int .i64 o.verdict.time] 28)).cell? ⟨w7.heap.size, 2, none⟩ = some (.int .i64 o.record.key) := (HO.out _ (x79.trans xo9)).2.cells.1 2
        have j3 : (w9.alloc (.cells #[.int .i64 o.kind, .int .i64 o.record.source, .int .i64 o.record.key, .int .i64 o.record.version, .slice A9 o.record.fields.length c9, .int .i64 o.verdict.a, .int .i64 o.verdict.b, .bool o.verdict.same, .int .i64 o.verdict.time] 28)).cell? ⟨w7.heap.size, 3, none⟩ = some (.int .i64 o.record.version) := (HO.out _ (x79.trans xo9)).2.cells.1 3
        have j4 : (w9.alloc (.cells #[.int .i64 o.kind, .int .i64 o.record.source, .int .i64 o.record.key, .int .i64 o.record.version, .slice A9 o.record.fields.length c9, .int .i64 o.verdict.a, .int .i64 o.verdict.b, .bool o.verdict.same, .int .i64 o.verdict.time] 28)).cell? ⟨w7.heap.size, 4, none⟩ = some (.slice A5 o.record.fields.length c5) := (HO.out _ (x79.trans xo9)).2.cells.1 4
        have j5 : (w9.alloc (.cells #[.int .i64 o.kind, .int .i64 o.record.source, .int .i64 o.record.key, .int .i64 o.record.version, .slice A9 o.record.fields.length c9, .int .i64 o.verdict.a, .int .i64 o.verdict.b, .bool o.verdict.same, .int .i64 o.verdict.time] 28)).cell? ⟨w7.heap.size, 5, none⟩ = some (.int .i64 o.verdict.a) := (HO.out _ (x79.trans xo9)).2.cells.1 5
        have j6 : (w9.alloc (.cells #[.int .i64 o.kind, .int .i64 o.record.source, .int .i64 o.record.key, .int .i64 o.record.version, .slice A9 o.record.fields.length c9, .int .i64 o.verdict.a, .int .i64 o.verdict.b, .bool o.verdict.same, .int .i64 o.verdict.time] 28)).cell? ⟨w7.heap.size, 6, none⟩ = some (.int .i64 o.verdict.b) := (HO.out _ (x79.trans xo9)).2.cells.1 6
        have j7 : (w9.alloc (.cells #[.int .i64 o.kind, .int .i64 o.record.source, .int .i64 o.record.key, .int .i64 o.record.version, .slice A9 o.record.fields.length c9, .int .i64 o.verdict.a, .int .i64 o.verdict.b, .bool o.verdict.same, .int .i64 o.verdict.time] 28)).cell? ⟨w7.heap.size, 7, none⟩ = some (.bool o.verdict.same) := (HO.out _ (x79.trans xo9)).2.cells.1 7
        have j8 : (w9.alloc (.cells #[.int .i64 o.kind, .int .i64 o.record.source, .int .i64 o.record.key, .int .i64 o.record.version, .slice A9 o.record.fields.length c9, .int .i64 o.verdict.a, .int .i64 o.verdict.b, .bool o.verdict.same, .int .i64 o.verdict.time] 28)).cell? ⟨w7.heap.size, 8, none⟩ = some (.int .i64 o.verdict.time) := (HO.out _ (x79.trans xo9)).2.cells.1 8
        go_wp2_with fail
        refine (spec_FormatOp _ o _ (HO.out _ (x79.trans xo9)).1).mono ?_
        rintro e w11 ⟨rfl, x11⟩
        have x711 := (x79.trans xo9).trans x11
        have t1 : ((fmtO o).toList == (fmtO o).toList) = true := by simp
        clear j0 j1 j2 j3 j4 j5 j6 j7 j8
        have i0 : w11.cell? ⟨w7.heap.size, 0, none⟩ = some (.int .i64 o.kind) := (HO.out _ (x711)).2.cells.1 0
        have i1 : w11.cell? ⟨w7.heap.size, 1, none⟩ = some (.int .i64 o.record.source) := (HO.out _ (x711)).2.cells.1 1
        have i2 : w11.cell? ⟨w7.heap.size, 2, none⟩ = some (.int .i64 o.record.key) := (HO.out _ (x711)).2.cells.1 2
        have i3 : w11.cell? ⟨w7.heap.size, 3, none⟩ = some (.int .i64 o.record.version) := (HO.out _ (x711)).2.cells.1 3
        have i4 : w11.cell? ⟨w7.heap.size, 4, none⟩ = some (.slice A5 o.record.fields.length c5) := (HO.out _ (x711)).2.cells.1 4
        have i5 : w11.cell? ⟨w7.heap.size, 5, none⟩ = some (.int .i64 o.verdict.a) := (HO.out _ (x711)).2.cells.1 5
        have i6 : w11.cell? ⟨w7.heap.size, 6, none⟩ = some (.int .i64 o.verdict.b) := (HO.out _ (x711)).2.cells.1 6
        have i7 : w11.cell? ⟨w7.heap.size, 7, none⟩ = some (.bool o.verdict.same) := (HO.out _ (x711)).2.cells.1 7
        have i8 : w11.cell? ⟨w7.heap.size, 8, none⟩ = some (.int .i64 o.verdict.time) := (HO.out _ (x711)).2.cells.1 8
        go_wp2_with fail
        refine (spec_IsValidOp _ o _ (HO.out _ x711).1).mono ?_
        rintro e w12 ⟨rfl, x12⟩
        have x712 := x711.trans x12
        rw [HOK.out]
        clear i0 i1 i2 i3 i4 i5 i6 i7 i8
        have k0 : w12.cell? ⟨w7.heap.size, 0, none⟩ = some (.int .i64 o.kind) := (HO.out _ (x712)).2.cells.1 0
        have k1 : w12.cell? ⟨w7.heap.size, 1, none⟩ = some (.int .i64 o.record.source) := (HO.out _ (x712)).2.cells.1 1
        have k2 : w12.cell? ⟨w7.heap.size, 2, none⟩ = some (.int .i64 o.record.key) := (HO.out _ (x712)).2.cells.1 2
        have k3 : w12.cell? ⟨w7.heap.size, 3, none⟩ = some (.int .i64 o.record.version) := (HO.out _ (x712)).2.cells.1 3
        have k4 : w12.cell? ⟨w7.heap.size, 4, none⟩ = some (.slice A5 o.record.fields.length c5) := (HO.out _ (x712)).2.cells.1 4
        have k5 : w12.cell? ⟨w7.heap.size, 5, none⟩ = some (.int .i64 o.verdict.a) := (HO.out _ (x712)).2.cells.1 5
        have k6 : w12.cell? ⟨w7.heap.size, 6, none⟩ = some (.int .i64 o.verdict.b) := (HO.out _ (x712)).2.cells.1 6
        have k7 : w12.cell? ⟨w7.heap.size, 7, none⟩ = some (.bool o.verdict.same) := (HO.out _ (x712)).2.cells.1 7
        have k8 : w12.cell? ⟨w7.heap.size, 8, none⟩ = some (.int .i64 o.verdict.time) := (HO.out _ (x712)).2.cells.1 8
        have sy := ((s9.mono xo9).mono x11).mono x12
        have y0 : w12.cell? ⟨w9.heap.size, 0, none⟩ = some (.int .i64 o.kind) := ((bY.ext x11).ext x12).cells.1 0
        have y1 : w12.cell? ⟨w9.heap.size, 1, none⟩ = some (.int .i64 o.record.source) := ((bY.ext x11).ext x12).cells.1 1
        have y2 : w12.cell? ⟨w9.heap.size, 2, none⟩ = some (.int .i64 o.record.key) := ((bY.ext x11).ext x12).cells.1 2
        have y3 : w12.cell? ⟨w9.heap.size, 3, none⟩ = some (.int .i64 o.record.version) := ((bY.ext x11).ext x12).cells.1 3
        have y4 : w12.cell? ⟨w9.heap.size, 4, none⟩ = some (.slice A9 o.record.fields.length c9) := ((bY.ext x11).ext x12).cells.1 4
        have y5 : w12.cell? ⟨w9.heap.size, 5, none⟩ = some (.int .i64 o.verdict.a) := ((bY.ext x11).ext x12).cells.1 5
        have y6 : w12.cell? ⟨w9.heap.size, 6, none⟩ = some (.int .i64 o.verdict.b) := ((bY.ext x11).ext x12).cells.1 6
        have y7 : w12.cell? ⟨w9.heap.size, 7, none⟩ = some (.bool o.verdict.same) := ((bY.ext x11).ext x12).cells.1 7
        have y8 : w12.cell? ⟨w9.heap.size, 8, none⟩ = some (.int .i64 o.verdict.time) := ((bY.ext x11).ext x12).cells.1 8
        clear k0 k1 k2 k3 k4 k5 k6 k7 k8
        go_wp2_with fail
        refine (impl_FormatOp _ o _ ⟨_, rfl, ok9, sy⟩ (N.T.mono (HX7.out.trans x712))).mono ?_
        rintro e w13 ⟨rfl, x13⟩
        have x713 := x712.trans x13
        clear y0 y1 y2 y3 y4 y5 y6 y7 y8
        have g0 : w13.cell? ⟨w7.heap.size, 0, none⟩ = some (.int .i64 o.kind) := (HO.out _ (x713)).2.cells.1 0
        have g1 : w13.cell? ⟨w7.heap.size, 1, none⟩ = some (.int .i64 o.record.source) := (HO.out _ (x713)).2.cells.1 1
        have g2 : w13.cell? ⟨w7.heap.size, 2, none⟩ = some (.int .i64 o.record.key) := (HO.out _ (x713)).2.cells.1 2
        have g3 : w13.cell? ⟨w7.heap.size, 3, none⟩ = some (.int .i64 o.record.version) := (HO.out _ (x713)).2.cells.1 3
        have g4 : w13.cell? ⟨w7.heap.size, 4, none⟩ = some (.slice A5 o.record.fields.length c5) := (HO.out _ (x713)).2.cells.1 4
        have g5 : w13.cell? ⟨w7.heap.size, 5, none⟩ = some (.int .i64 o.verdict.a) := (HO.out _ (x713)).2.cells.1 5
        have g6 : w13.cell? ⟨w7.heap.size, 6, none⟩ = some (.int .i64 o.verdict.b) := (HO.out _ (x713)).2.cells.1 6
        have g7 : w13.cell? ⟨w7.heap.size, 7, none⟩ = some (.bool o.verdict.same) := (HO.out _ (x713)).2.cells.1 7
        have g8 : w13.cell? ⟨w7.heap.size, 8, none⟩ = some (.int .i64 o.verdict.time) := (HO.out _ (x713)).2.cells.1 8
        go_wp2_with fail
        refine (impl_IsValidOp _ o _ (HO.out _ x713).1).mono ?_
        rintro e w14 ⟨rfl, x14⟩
        rw [HOK.out]
        go_wp2
        go_ret
        exact ⟨rfl, HX7.out.trans (x713.trans x14)⟩
    | true =>
      dsimp only at hq s5 b55 ⊢
      have hp0 := hq.2 rfl
      subst hp0
      clear hq
      have m0 := (HB.out _ x36).2
      have m1 := (b55.ext x6).cells.1 0
      have m1 : w6.cell? ⟨w4.heap.size, 0, none⟩ = some (.slice A4 p0.ops.length c4) := m1
      go_wp2_with fail
      refine (impl_EqualBatches _ _ p0 p0 _ ⟨_, rfl, trivial, s5.mono x6⟩ (HB.out _ x36).1).mono ?_
      rintro e w66 ⟨rfl, x66⟩
      rw [eqB_self]
      have x366 := x36.trans x66
      clear m0 m1 x36 x66
      go_wp2_with fail
      refine (spec_DrawFormatOp _ _ bs (h.mono (HX.out.trans x366))).mono ?_
      rintro e w7 ⟨v7, o, rfl, ho0, x7⟩
      have ho1 := ho0
      obtain ⟨f5, rfl, _, s7⟩ := ho1
      obtain ⟨A5, c5, e5, _⟩ := s7.form
      subst e5
      have xb7 : Ext w7 (w7.alloc (.cells #[.int .i64 o.kind, .int .i64 o.record.source, .int .i64 o.record.key, .int .i64 o.record.version, .slice A5 o.record.fields.length c5, .int .i64 o.verdict.a, .int .i64 o.verdict.b, .bool o.verdict.same, .int .i64 o.verdict.time] 28)) := (Ext.refl w7).alloc _
      have b7 : Blk (w7.alloc (.cells #[.int .i64 o.kind, .int .i64 o.record.source, .int .i64 o.record.key, .int .i64 o.record.version, .slice A5 o.record.fields.length c5, .int .i64 o.verdict.a, .int .i64 o.verdict.b, .bool o.verdict.same, .int .i64 o.verdict.time] 28)) w7.heap.size 28 [.int .i64 o.kind, .int .i64 o.record.source, .int .i64 o.record.key, .int .i64 o.record.version, .slice A5 o.record.fields.length c5, .int .i64 o.verdict.a, .int .i64 o.verdict.b, .bool o.verdict.same, .int .i64 o.verdict.time] := Blk.new w7 28 #[.int .i64 o.kind, .int .i64 o.record.source, .int .i64 o.record.key, .int .i64 o.record.version, .slice A5 o.record.fields.length c5, .int .i64 o.verdict.a, .int .i64 o.verdict.b, .bool o.verdict.same, .int .i64 o.verdict.time]
      have HO := hid (show ∀ W, Ext (w7.alloc (.cells #[.int .i64 o.kind, .int .i64 o.record.source, .int .i64 o.record.key, .int .i64 o.record.version, .slice A5 o.record.fields.length c5, .int .i64 o.verdict.a, .int .i64 o.verdict.b, .bool o.verdict.same, .int .i64 o.verdict.time] 28)) W → OpAt W (.agg #[.int .i64 o.kind, .int .i64 o.record.source, .int .i64 o.record.key, .int .i64 o.record.version, .slice A5 o.record.fields.length c5, .int .i64 o.verdict.a, .int .i64 o.verdict.b, .bool o.verdict.same, .int .i64 o.verdict.time]) o ∧ Blk W w7.heap.size 28 [.int .i64 o.kind, .int .i64 o.record.source, .int .i64 o.record.key, .int .i64 o.record.version, .slice A5 o.record.fields.length c5, .int .i64 o.verdict.a, .int .i64 o.verdict.b, .bool o.verdict.same, .int .i64 o.verdict.time] from fun W x => ⟨ho0.mono (xb7.trans x), b7.ext x⟩)
      have HX7 := hid ((HX.out.trans x366).trans (x7.trans xb7))
      clear ho0 s7 b7 HX HB
      go_wp2_with fail
      refine (impl_FormatOp _ o _ (HO.out _ (Ext.refl _)).1 (N.T.mono HX7.out)).mono ?_
      rintro e w8 ⟨rfl, x8⟩
      have hsz := fmtO_size o
      go_wp2_with fail
      refine (impl_ParseOp (fmtO o) _ (by omega) (N.mono (HX7.out.trans x8))).mono ?_
      rintro e w9 ⟨v9, F9, rfl, o9, n9, x9⟩
      have hbk := pO_back o
      have x79 := x8.trans x9
      clear n9 x8 x9 hsz
      cases hok : okOp o with
      | false =>
        have HOK := hid hok
        have hp : pO (fmtO o) = (⟨0, ⟨0, 0, 0, []⟩, ⟨0, 0, false, 0⟩⟩, false) := by rw [fmtO_no (by simp [hok]), pO_nil]; rfl
        rw [hp] at o9 ⊢
        obtain ⟨f9, rfl, ok9, o9⟩ := o9
        obtain ⟨A9, c9, e9, _⟩ := o9.form
        subst e9
        dsimp only [List.length_nil] at o9 ⊢
        have s9 := o9.sl
        clear o9 hbk hp hok ok9
        have xo9 : Ext w9 (w9.alloc (.cells #[.int .i64 0, .int .i64 0, .int .i64 0, .int .i64 0, .slice A9 0 c9, .int .i64 0, .int .i64 0, .bool false, .int .i64 0] 28)) := (Ext.refl w9).alloc _
        have bY : Blk (w9.alloc (.cells #[.int .i64 0, .int .i64 0, .int .i64 0, .int .i64 0, .slice A9 0 c9, .int .i64 0, .int .i64 0, .bool false, .int .i64 0] 28)) w9.heap.size 28 [.int .i64 0, .int .i64 0, .int .i64 0, .int .i64 0, .slice A9 0 c9, .int .i64 0, .int .i64 0, .bool false, .int .i64 0] := Blk.new w9 28 #[.int .i64 0, .int .i64 0, .int .i64 0, .int .i64 0, .slice A9 0 c9, .int .i64 0, .int .i64 0, .bool false, .int .i64 0]
        have j0 : (w9.alloc (.cells #[.int .i64 0, .int .i64 0, .int .i64 0, .int .i64 0, .slice A9 0 c9, .int .i64 0, .int .i64 0, .bool false, .int .i64 0] 28)).cell? ⟨w7.heap.size, 0, none⟩ = some (.int .i64 o.kind) := (HO.out _ (x79.trans xo9)).2.cells.1 0
        have j1 : (w9.alloc (.cells #[.int .i64 0, .int .i64 0, .int .i64 0, .int .i64 0, .slice A9 0 c9, .int .i64 0, .int .i64 0, .bool false, .int .i64 0] 28)).cell? ⟨w7.heap.size, 1, none⟩ = some (.int .i64 o.record.source) := (HO.out _ (x79.trans xo9)).2.cells.1 1
        have j2 : (w9.alloc (.cells #[.int .i64 0, .int .i64 0, .int .i64 0, .int .i64 0, .slice A9 0 c9, .int .i64 0, .int .i64 0, .bool false, .int .i64 0] 28)).cell? ⟨w7.heap.size, 2, none⟩ = some (.int .i64 o.record.key) := (HO.out _ (x79.trans xo9)).2.cells.1 2
        have j3 : (w9.alloc (.cells #[.int .i64 0, .int .i64 0, .int .i64 0, .int .i64 0, .slice A9 0 c9, .int .i64 0, .int .i64 0, .bool false, .int .i64 0] 28)).cell? ⟨w7.heap.size, 3, none⟩ = some (.int .i64 o.record.version) := (HO.out _ (x79.trans xo9)).2.cells.1 3
        have j4 : (w9.alloc (.cells #[.int .i64 0, .int .i64 0, .int .i64 0, .int .i64 0, .slice A9 0 c9, .int .i64 0, .int .i64 0, .bool false, .int .i64 0] 28)).cell? ⟨w7.heap.size, 4, none⟩ = some (.slice A5 o.record.fields.length c5) := (HO.out _ (x79.trans xo9)).2.cells.1 4
        have j5 : (w9.alloc (.cells #[.int .i64 0, .int .i64 0, .int .i64 0, .int .i64 0, .slice A9 0 c9, .int .i64 0, .int .i64 0, .bool false, .int .i64 0] 28)).cell? ⟨w7.heap.size, 5, none⟩ = some (.int .i64 o.verdict.a) := (HO.out _ (x79.trans xo9)).2.cells.1 5
        have j6 : (w9.alloc (.cells #[.int .i64 0, .int .i64 0, .int .i64 0, .int .i64 0, .slice A9 0 c9, .int .i64 0, .int .i64 0, .bool false, .int .i64 0] 28)).cell? ⟨w7.heap.size, 6, none⟩ = some (.int .i64 o.verdict.b) := (HO.out _ (x79.trans xo9)).2.cells.1 6
        have j7 : (w9.alloc (.cells #[.int .i64 0, .int .i64 0, .int .i64 0, .int .i64 0, .slice A9 0 c9, .int .i64 0, .int .i64 0, .bool false, .int .i64 0] 28)).cell? ⟨w7.heap.size, 7, none⟩ = some (.bool o.verdict.same) := (HO.out _ (x79.trans xo9)).2.cells.1 7
        have j8 : (w9.alloc (.cells #[.int .i64 0, .int .i64 0, .int .i64 0, .int .i64 0, .slice A9 0 c9, .int .i64 0, .int .i64 0, .bool false, .int .i64 0] 28)).cell? ⟨w7.heap.size, 8, none⟩ = some (.int .i64 o.verdict.time) := (HO.out _ (x79.trans xo9)).2.cells.1 8
        go_wp2_with fail
        refine (spec_FormatOp _ o _ (HO.out _ (x79.trans xo9)).1).mono ?_
        rintro e w11 ⟨rfl, x11⟩
        have x711 := (x79.trans xo9).trans x11
        have t1 : ((fmtO o).toList == (fmtO o).toList) = true := by simp
        clear j0 j1 j2 j3 j4 j5 j6 j7 j8
        have i0 : w11.cell? ⟨w7.heap.size, 0, none⟩ = some (.int .i64 o.kind) := (HO.out _ (x711)).2.cells.1 0
        have i1 : w11.cell? ⟨w7.heap.size, 1, none⟩ = some (.int .i64 o.record.source) := (HO.out _ (x711)).2.cells.1 1
        have i2 : w11.cell? ⟨w7.heap.size, 2, none⟩ = some (.int .i64 o.record.key) := (HO.out _ (x711)).2.cells.1 2
        have i3 : w11.cell? ⟨w7.heap.size, 3, none⟩ = some (.int .i64 o.record.version) := (HO.out _ (x711)).2.cells.1 3
        have i4 : w11.cell? ⟨w7.heap.size, 4, none⟩ = some (.slice A5 o.record.fields.length c5) := (HO.out _ (x711)).2.cells.1 4
        have i5 : w11.cell? ⟨w7.heap.size, 5, none⟩ = some (.int .i64 o.verdict.a) := (HO.out _ (x711)).2.cells.1 5
        have i6 : w11.cell? ⟨w7.heap.size, 6, none⟩ = some (.int .i64 o.verdict.b) := (HO.out _ (x711)).2.cells.1 6
        have i7 : w11.cell? ⟨w7.heap.size, 7, none⟩ = some (.bool o.verdict.same) := (HO.out _ (x711)).2.cells.1 7
        have i8 : w11.cell? ⟨w7.heap.size, 8, none⟩ = some (.int .i64 o.verdict.time) := (HO.out _ (x711)).2.cells.1 8
        go_wp2_with fail
        refine (spec_IsValidOp _ o _ (HO.out _ x711).1).mono ?_
        rintro e w12 ⟨rfl, x12⟩
        have x712 := x711.trans x12
        rw [HOK.out]
        clear i0 i1 i2 i3 i4 i5 i6 i7 i8
        have k0 : w12.cell? ⟨w7.heap.size, 0, none⟩ = some (.int .i64 o.kind) := (HO.out _ (x712)).2.cells.1 0
        have k1 : w12.cell? ⟨w7.heap.size, 1, none⟩ = some (.int .i64 o.record.source) := (HO.out _ (x712)).2.cells.1 1
        have k2 : w12.cell? ⟨w7.heap.size, 2, none⟩ = some (.int .i64 o.record.key) := (HO.out _ (x712)).2.cells.1 2
        have k3 : w12.cell? ⟨w7.heap.size, 3, none⟩ = some (.int .i64 o.record.version) := (HO.out _ (x712)).2.cells.1 3
        have k4 : w12.cell? ⟨w7.heap.size, 4, none⟩ = some (.slice A5 o.record.fields.length c5) := (HO.out _ (x712)).2.cells.1 4
        have k5 : w12.cell? ⟨w7.heap.size, 5, none⟩ = some (.int .i64 o.verdict.a) := (HO.out _ (x712)).2.cells.1 5
        have k6 : w12.cell? ⟨w7.heap.size, 6, none⟩ = some (.int .i64 o.verdict.b) := (HO.out _ (x712)).2.cells.1 6
        have k7 : w12.cell? ⟨w7.heap.size, 7, none⟩ = some (.bool o.verdict.same) := (HO.out _ (x712)).2.cells.1 7
        have k8 : w12.cell? ⟨w7.heap.size, 8, none⟩ = some (.int .i64 o.verdict.time) := (HO.out _ (x712)).2.cells.1 8
        clear k0 k1 k2 k3 k4 k5 k6 k7 k8
        have g0 : w12.cell? ⟨w7.heap.size, 0, none⟩ = some (.int .i64 o.kind) := (HO.out _ (x712)).2.cells.1 0
        have g1 : w12.cell? ⟨w7.heap.size, 1, none⟩ = some (.int .i64 o.record.source) := (HO.out _ (x712)).2.cells.1 1
        have g2 : w12.cell? ⟨w7.heap.size, 2, none⟩ = some (.int .i64 o.record.key) := (HO.out _ (x712)).2.cells.1 2
        have g3 : w12.cell? ⟨w7.heap.size, 3, none⟩ = some (.int .i64 o.record.version) := (HO.out _ (x712)).2.cells.1 3
        have g4 : w12.cell? ⟨w7.heap.size, 4, none⟩ = some (.slice A5 o.record.fields.length c5) := (HO.out _ (x712)).2.cells.1 4
        have g5 : w12.cell? ⟨w7.heap.size, 5, none⟩ = some (.int .i64 o.verdict.a) := (HO.out _ (x712)).2.cells.1 5
        have g6 : w12.cell? ⟨w7.heap.size, 6, none⟩ = some (.int .i64 o.verdict.b) := (HO.out _ (x712)).2.cells.1 6
        have g7 : w12.cell? ⟨w7.heap.size, 7, none⟩ = some (.bool o.verdict.same) := (HO.out _ (x712)).2.cells.1 7
        have g8 : w12.cell? ⟨w7.heap.size, 8, none⟩ = some (.int .i64 o.verdict.time) := (HO.out _ (x712)).2.cells.1 8
        go_wp2_with fail
        refine (impl_IsValidOp _ o _ (HO.out _ x712).1).mono ?_
        rintro e w14 ⟨rfl, x14⟩
        rw [HOK.out]
        go_wp2
        go_ret
        exact ⟨rfl, HX7.out.trans (x712.trans x14)⟩
      | true =>
        have HOK := hid hok
        have hp : pO (fmtO o) = (o, true) := pO_hit hok
        rw [hp] at o9 ⊢
        obtain ⟨f9, rfl, ok9, o9⟩ := o9
        obtain ⟨A9, c9, e9, _⟩ := o9.form
        subst e9
        have s9 := o9.sl
        clear o9 hbk hp hok
        have xo9 : Ext w9 (w9.alloc (.cells #[.int .i64 o.kind, .int .i64 o.record.source, .int .i64 o.record.key, .int .i64 o.record.version, .slice A9 o.record.fields.length c9, .int .i64 o.verdict.a, .int .i64 o.verdict.b, .bool o.verdict.same, .int .i64 o.verdict.time] 28)) := (Ext.refl w9).alloc _
        have bY : Blk (w9.alloc (.cells #[.int .i64 o.kind, .int .i64 o.record.source, .int .i64 o.record.key, .int .i64 o.record.version, .slice A9 o.record.fields.length c9, .int .i64 o.verdict.a, .int .i64 o.verdict.b, .bool o.verdict.same, .int .i64 o.verdict.time] 28)) w9.heap.size 28 [.int .i64 o.kind, .int .i64 o.record.source, .int .i64 o.record.key, .int .i64 o.record.version, .slice A9 o.record.fields.length c9, .int .i64 o.verdict.a, .int .i64 o.verdict.b, .bool o.verdict.same, .int .i64 o.verdict.time] := Blk.new w9 28 #[.int .i64 o.kind, .int .i64 o.record.source, .int .i64 o.record.key, .int .i64 o.record.version, .slice A9 o.record.fields.length c9, .int .i64 o.verdict.a, .int .i64 o.verdict.b, .bool o.verdict.same, .int .i64 o.verdict.time]
        have j0 : (w9.alloc (.cells #[.int .i64 o.kind, .int .i64 o.record.source, .int .i64 o.record.key, .int .i64 o.record.version, .slice A9 o.record.fields.length c9, .int .i64 o.verdict.a, .int .i64 o.verdict.b, .bool o.verdict.same, .int .i64 o.verdict.time] 28)).cell? ⟨w7.heap.size, 0, none⟩ = some (.int .i64 o.kind) := (HO.out _ (x79.trans xo9)).2.cells.1 0
        have j1 : (w9.alloc (.cells #[.int .i64 o.kind, .int .i64 o.record.source, .int .i64 o.record.key, .int .i64 o.record.version, .slice A9 o.record.fields.length c9, .int .i64 o.verdict.a, .int .i64 o.verdict.b, .bool o.verdict.same, .int .i64 o.verdict.time] 28)).cell? ⟨w7.heap.size, 1, none⟩ = some (.int .i64 o.record.source) := (HO.out _ (x79.trans xo9)).2.cells.1 1
        have j2 : (w9.alloc (.cells #[.int .i64 o.kind, .int .i64 o.record.source, .int .i64 o.record.key, .int .i64 o.record.version, .slice A9 o.record.fields.length c9, .int .i64 o.verdict.a, .int .i64 o.verdict.b, .bool o.verdict.same, .int .i64 o.verdict.time] 28)).cell? ⟨w7.heap.size, 2, none⟩ = some (.int .i64 o.record.key) := (HO.out _ (x79.trans xo9)).2.cells.1 2
        have j3 : (w9.alloc (.cells #[.int .i64 o.kind, .int .i64 o.record.source, .int .i64 o.record.key, .int .i64 o.record.version, .slice A9 o.record.fields.length c9, .int .i64 o.verdict.a, .int .i64 o.verdict.b, .bool o.verdict.same, .int .i64 o.verdict.time] 28)).cell? ⟨w7.heap.size, 3, none⟩ = some (.int .i64 o.record.version) := (HO.out _ (x79.trans xo9)).2.cells.1 3
        have j4 : (w9.alloc (.cells #[.int .i64 o.kind, .int .i64 o.record.source, .int .i64 o.record.key, .int .i64 o.record.version, .slice A9 o.record.fields.length c9, .int .i64 o.verdict.a, .int .i64 o.verdict.b, .bool o.verdict.same, .int .i64 o.verdict.time] 28)).cell? ⟨w7.heap.size, 4, none⟩ = some (.slice A5 o.record.fields.length c5) := (HO.out _ (x79.trans xo9)).2.cells.1 4
        have j5 : (w9.alloc (.cells #[.int .i64 o.kind, .int .i64 o.record.source, .int .i64 o.record.key, .int .i64 o.record.version, .slice A9 o.record.fields.length c9, .int .i64 o.verdict.a, .int .i64 o.verdict.b, .bool o.verdict.same, .int .i64 o.verdict.time] 28)).cell? ⟨w7.heap.size, 5, none⟩ = some (.int .i64 o.verdict.a) := (HO.out _ (x79.trans xo9)).2.cells.1 5
        have j6 : (w9.alloc (.cells #[.int .i64 o.kind, .int .i64 o.record.source, .int .i64 o.record.key, .int .i64 o.record.version, .slice A9 o.record.fields.length c9, .int .i64 o.verdict.a, .int .i64 o.verdict.b, .bool o.verdict.same, .int .i64 o.verdict.time] 28)).cell? ⟨w7.heap.size, 6, none⟩ = some (.int .i64 o.verdict.b) := (HO.out _ (x79.trans xo9)).2.cells.1 6
        have j7 : (w9.alloc (.cells #[.int .i64 o.kind, .int .i64 o.record.source, .int .i64 o.record.key, .int .i64 o.record.version, .slice A9 o.record.fields.length c9, .int .i64 o.verdict.a, .int .i64 o.verdict.b, .bool o.verdict.same, .int .i64 o.verdict.time] 28)).cell? ⟨w7.heap.size, 7, none⟩ = some (.bool o.verdict.same) := (HO.out _ (x79.trans xo9)).2.cells.1 7
        have j8 : (w9.alloc (.cells #[.int .i64 o.kind, .int .i64 o.record.source, .int .i64 o.record.key, .int .i64 o.record.version, .slice A9 o.record.fields.length c9, .int .i64 o.verdict.a, .int .i64 o.verdict.b, .bool o.verdict.same, .int .i64 o.verdict.time] 28)).cell? ⟨w7.heap.size, 8, none⟩ = some (.int .i64 o.verdict.time) := (HO.out _ (x79.trans xo9)).2.cells.1 8
        go_wp2_with fail
        refine (spec_FormatOp _ o _ (HO.out _ (x79.trans xo9)).1).mono ?_
        rintro e w11 ⟨rfl, x11⟩
        have x711 := (x79.trans xo9).trans x11
        have t1 : ((fmtO o).toList == (fmtO o).toList) = true := by simp
        clear j0 j1 j2 j3 j4 j5 j6 j7 j8
        have i0 : w11.cell? ⟨w7.heap.size, 0, none⟩ = some (.int .i64 o.kind) := (HO.out _ (x711)).2.cells.1 0
        have i1 : w11.cell? ⟨w7.heap.size, 1, none⟩ = some (.int .i64 o.record.source) := (HO.out _ (x711)).2.cells.1 1
        have i2 : w11.cell? ⟨w7.heap.size, 2, none⟩ = some (.int .i64 o.record.key) := (HO.out _ (x711)).2.cells.1 2
        have i3 : w11.cell? ⟨w7.heap.size, 3, none⟩ = some (.int .i64 o.record.version) := (HO.out _ (x711)).2.cells.1 3
        have i4 : w11.cell? ⟨w7.heap.size, 4, none⟩ = some (.slice A5 o.record.fields.length c5) := (HO.out _ (x711)).2.cells.1 4
        have i5 : w11.cell? ⟨w7.heap.size, 5, none⟩ = some (.int .i64 o.verdict.a) := (HO.out _ (x711)).2.cells.1 5
        have i6 : w11.cell? ⟨w7.heap.size, 6, none⟩ = some (.int .i64 o.verdict.b) := (HO.out _ (x711)).2.cells.1 6
        have i7 : w11.cell? ⟨w7.heap.size, 7, none⟩ = some (.bool o.verdict.same) := (HO.out _ (x711)).2.cells.1 7
        have i8 : w11.cell? ⟨w7.heap.size, 8, none⟩ = some (.int .i64 o.verdict.time) := (HO.out _ (x711)).2.cells.1 8
        go_wp2_with fail
        refine (spec_IsValidOp _ o _ (HO.out _ x711).1).mono ?_
        rintro e w12 ⟨rfl, x12⟩
        have x712 := x711.trans x12
        rw [HOK.out]
        clear i0 i1 i2 i3 i4 i5 i6 i7 i8
        have k0 : w12.cell? ⟨w7.heap.size, 0, none⟩ = some (.int .i64 o.kind) := (HO.out _ (x712)).2.cells.1 0
        have k1 : w12.cell? ⟨w7.heap.size, 1, none⟩ = some (.int .i64 o.record.source) := (HO.out _ (x712)).2.cells.1 1
        have k2 : w12.cell? ⟨w7.heap.size, 2, none⟩ = some (.int .i64 o.record.key) := (HO.out _ (x712)).2.cells.1 2
        have k3 : w12.cell? ⟨w7.heap.size, 3, none⟩ = some (.int .i64 o.record.version) := (HO.out _ (x712)).2.cells.1 3
        have k4 : w12.cell? ⟨w7.heap.size, 4, none⟩ = some (.slice A5 o.record.fields.length c5) := (HO.out _ (x712)).2.cells.1 4
        have k5 : w12.cell? ⟨w7.heap.size, 5, none⟩ = some (.int .i64 o.verdict.a) := (HO.out _ (x712)).2.cells.1 5
        have k6 : w12.cell? ⟨w7.heap.size, 6, none⟩ = some (.int .i64 o.verdict.b) := (HO.out _ (x712)).2.cells.1 6
        have k7 : w12.cell? ⟨w7.heap.size, 7, none⟩ = some (.bool o.verdict.same) := (HO.out _ (x712)).2.cells.1 7
        have k8 : w12.cell? ⟨w7.heap.size, 8, none⟩ = some (.int .i64 o.verdict.time) := (HO.out _ (x712)).2.cells.1 8
        have sy := ((s9.mono xo9).mono x11).mono x12
        have y0 : w12.cell? ⟨w9.heap.size, 0, none⟩ = some (.int .i64 o.kind) := ((bY.ext x11).ext x12).cells.1 0
        have y1 : w12.cell? ⟨w9.heap.size, 1, none⟩ = some (.int .i64 o.record.source) := ((bY.ext x11).ext x12).cells.1 1
        have y2 : w12.cell? ⟨w9.heap.size, 2, none⟩ = some (.int .i64 o.record.key) := ((bY.ext x11).ext x12).cells.1 2
        have y3 : w12.cell? ⟨w9.heap.size, 3, none⟩ = some (.int .i64 o.record.version) := ((bY.ext x11).ext x12).cells.1 3
        have y4 : w12.cell? ⟨w9.heap.size, 4, none⟩ = some (.slice A9 o.record.fields.length c9) := ((bY.ext x11).ext x12).cells.1 4
        have y5 : w12.cell? ⟨w9.heap.size, 5, none⟩ = some (.int .i64 o.verdict.a) := ((bY.ext x11).ext x12).cells.1 5
        have y6 : w12.cell? ⟨w9.heap.size, 6, none⟩ = some (.int .i64 o.verdict.b) := ((bY.ext x11).ext x12).cells.1 6
        have y7 : w12.cell? ⟨w9.heap.size, 7, none⟩ = some (.bool o.verdict.same) := ((bY.ext x11).ext x12).cells.1 7
        have y8 : w12.cell? ⟨w9.heap.size, 8, none⟩ = some (.int .i64 o.verdict.time) := ((bY.ext x11).ext x12).cells.1 8
        clear k0 k1 k2 k3 k4 k5 k6 k7 k8
        go_wp2_with fail
        refine (impl_FormatOp _ o _ ⟨_, rfl, ok9, sy⟩ (N.T.mono (HX7.out.trans x712))).mono ?_
        rintro e w13 ⟨rfl, x13⟩
        have x713 := x712.trans x13
        clear y0 y1 y2 y3 y4 y5 y6 y7 y8
        have g0 : w13.cell? ⟨w7.heap.size, 0, none⟩ = some (.int .i64 o.kind) := (HO.out _ (x713)).2.cells.1 0
        have g1 : w13.cell? ⟨w7.heap.size, 1, none⟩ = some (.int .i64 o.record.source) := (HO.out _ (x713)).2.cells.1 1
        have g2 : w13.cell? ⟨w7.heap.size, 2, none⟩ = some (.int .i64 o.record.key) := (HO.out _ (x713)).2.cells.1 2
        have g3 : w13.cell? ⟨w7.heap.size, 3, none⟩ = some (.int .i64 o.record.version) := (HO.out _ (x713)).2.cells.1 3
        have g4 : w13.cell? ⟨w7.heap.size, 4, none⟩ = some (.slice A5 o.record.fields.length c5) := (HO.out _ (x713)).2.cells.1 4
        have g5 : w13.cell? ⟨w7.heap.size, 5, none⟩ = some (.int .i64 o.verdict.a) := (HO.out _ (x713)).2.cells.1 5
        have g6 : w13.cell? ⟨w7.heap.size, 6, none⟩ = some (.int .i64 o.verdict.b) := (HO.out _ (x713)).2.cells.1 6
        have g7 : w13.cell? ⟨w7.heap.size, 7, none⟩ = some (.bool o.verdict.same) := (HO.out _ (x713)).2.cells.1 7
        have g8 : w13.cell? ⟨w7.heap.size, 8, none⟩ = some (.int .i64 o.verdict.time) := (HO.out _ (x713)).2.cells.1 8
        go_wp2_with fail
        refine (impl_IsValidOp _ o _ (HO.out _ x713).1).mono ?_
        rintro e w14 ⟨rfl, x14⟩
        rw [HOK.out]
        go_wp2
        go_ret
        exact ⟨rfl, HX7.out.trans (x713.trans x14)⟩
end Go.Proofs.YtfieimmlcopbhaaGreatDoor
