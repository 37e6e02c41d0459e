/-
  THE LAW'S WALK: FnBatches.
-/
import Derived.Test.YtfieimmlcopbhaaGreatDoorMgEndFnBat8
import Derived.Test.YtfieimmlcopbhaaGreatDoorMgEndFnRec19
import Derived.Test.YtfieimmlcopbhaaGreatDoorMgEndFnRec5
import Derived.Test.YtfieimmlcopbhaaGreatDoorMgEndFnBat0
import Derived.Test.YtfieimmlcopbhaaGreatDoorMgEndFnBat4
import Derived.Test.YtfieimmlcopbhaaGreatDoorMgEndFnBat2

namespace Go.Proofs.YtfieimmlcopbhaaGreatDoor
open Go.RowKit

theorem fmtB_no {b : Batch} (h : okBat b = false) : fmtB b = ⟨#[]⟩ := by unfold fmtB; rw [if_neg (by simp [h])]
theorem pB_nil : pB ⟨#[]⟩ = (⟨[]⟩, false) := ans_no fun x h1 h2 => by
  have e := batT_data x
  rw [← fmtB_yes h1, h2] at e
  simp at e
theorem pO_nil : pO ⟨#[]⟩ = (zop, false) := ans_no fun x h1 h2 => O_nosp (s := ⟨#[]⟩) (by simp) x h1 h2
theorem pB_back (b : Batch) : (pB (fmtB b)).2 = okBat b ∧ ((pB (fmtB b)).2 = true → (pB (fmtB b)).1 = b) := by
  cases h : okBat b with
  | false => rw [fmtB_no h, pB_nil]; exact ⟨rfl, fun e => by cases e⟩
  | true => rw [fmtB_yes h, pB_hit h]; exact ⟨rfl, fun _ => rfl⟩
theorem pO_back (o : Op) : (pO (fmtO o)).2 = okOp o ∧ ((pO (fmtO o)).2 = true → (pO (fmtO o)).1 = o) := by
  cases h : okOp o with
  | false => rw [fmtO_no (by simp [h]), pO_nil]; exact ⟨rfl, fun e => by cases e⟩
  | true => rw [pO_hit h]; exact ⟨rfl, fun _ => rfl⟩
theorem fmtB_size (b : Batch) : (fmtB b).size ≤ 2000 := by
  cases h : okBat b with
  | false => rw [fmtB_no h]; exact Nat.zero_le _
  | true =>
    have h1 := okBat_len h
    have e : (fmtB b).size = (fmtB b).data.toList.length := Array.length_toList.symm
    rw [e, fmtB_yes h, batT_data]
    have h2 := batJ_size b.ops h1 b.ops.length
    rw [List.take_of_length_le (by rw [List.length_map]; exact Nat.le_refl _)] at h2
    have h3 : (bIn b).data.toList.length = (bIn b).size := Array.length_toList
    have h4 : (bIn b).size ≤ 1806 := h2
    simp only [List.length_cons, List.length_append, List.length_nil]
    omega

set_option maxHeartbeats 400000 in
set_option maxRecDepth 20000 in
theorem spec_DrawFormatBatch (w : World) (v : Value) (bs : List Int) (h : Sl u8R w v bs) :
    Calls Tryz.prog 32 #[v] w fun e w2 => ∃ v1 b, e = .returned v1 ∧ BatAt w2 v1 b ∧ Ext w w2 := by
  have xa : Ext w (w.alloc (.cells #[.slice none 0 0] 36)) := (Ext.refl w).alloc _
  have b0 : Blk (w.alloc (.cells #[.slice none 0 0] 36)) w.heap.size 36 [.slice none 0 0] := Blk.new w 36 #[.slice none 0 0]
  go_enter Tryz.func32, Tryz.ntmps32
  go_wp2_with fail
  refine (spec_l1New _ v bs (h.mono xa)).mono ?_
  rintro e w1 ⟨rfl, hc1, x1⟩
  rw [World.size_alloc] at hc1 ⊢
  go_wp2_with fail
  refine (spec_l29Batches _ w1 (w.heap.size + 1) hc1).mono ?_
  rintro e w2 ⟨v2, ⟨xs⟩, F, rfl, hB, hc2, hk2, _⟩
  dsimp only at hB
  obtain ⟨F1, o1, _, hF⟩ := hB.done
  obtain ⟨A, c, e2, _⟩ := o1.form
  subst e2
  have s1 := block_lt (b0.ext x1)
  have b2 := (b0.ext x1).kept (by omega) hk2
  obtain ⟨cR, fR⟩ := b2.cells
  have hR : w.heap.size ∉ F1 := fun hm => by have := hF _ hm; omega
  have b9 : Blk (w2.setCell ⟨w.heap.size, 0, none⟩ (.slice A xs.length c)) w.heap.size 36 [.slice A xs.length c] := b2.setAt 0 (by show 0 < 1; decide) _
  have r0 : (w2.setCell ⟨w.heap.size, 0, none⟩ (.slice A xs.length c)).cell? ⟨w.heap.size, 0, none⟩ = some (.slice A xs.length c) := b9.cells.1 0
  have o9 := o1.setCell (p := ⟨w.heap.size, 0, none⟩) hR (.slice A xs.length c)
  have x9 : Ext w (w2.setCell ⟨w.heap.size, 0, none⟩ (.slice A xs.length c)) := (xa.trans hc2.base.1).setCell (Nat.le_refl _) _
  clear b9 b0 b2 hB s1
  go_wp2
  refine bodyPost_ret (v := .agg #[.slice A xs.length c]) (by simp [results, Tryz.results32, go_sem, r0]) rfl ?_
  exact ⟨_, ⟨xs⟩, rfl, ⟨_, rfl, trivial, o9.sl⟩, x9⟩

set_option maxHeartbeats 400000 in
set_option maxRecDepth 20000 in
theorem spec_DrawFormatOp (w : World) (v : Value) (bs : List Int) (h : Sl u8R w v bs) :
    Calls Tryz.prog 37 #[v] w fun e w2 => ∃ v1 o, e = .returned v1 ∧ OpAt w2 v1 o ∧ Ext w w2 := by
  have xa : Ext w (w.alloc (.cells #[.int .i64 0, .int .i64 0, .int .i64 0, .int .i64 0, .slice none 0 0, .int .i64 0, .int .i64 0, .bool false, .int .i64 0] 28)) := (Ext.refl w).alloc _
  have b0 : Blk (w.alloc (.cells #[.int .i64 0, .int .i64 0, .int .i64 0, .int .i64 0, .slice none 0 0, .int .i64 0, .int .i64 0, .bool false, .int .i64 0] 28)) w.heap.size 28 [.int .i64 0, .int .i64 0, .int .i64 0, .int .i64 0, .slice none 0 0, .int .i64 0, .int .i64 0, .bool false, .int .i64 0] := Blk.new w 28 #[.int .i64 0, .int .i64 0, .int .i64 0, .int .i64 0, .slice none 0 0, .int .i64 0, .int .i64 0, .bool false, .int .i64 0]
  go_enter Tryz.func37, Tryz.ntmps37
  go_wp2_with fail
  refine (spec_l1New _ v bs (h.mono xa)).mono ?_
  rintro e w1 ⟨rfl, hc1, x1⟩
  rw [World.size_alloc] at hc1 ⊢
  go_wp2_with fail
  refine (spec_l29Any _ w1 (w.heap.size + 1) hc1).mono ?_
  rintro e w2 ⟨v2, o, F1, rfl, ⟨f1, rfl, ok1, o1⟩, n1, hc2, hk2, _⟩
  obtain ⟨A, c, e2, _⟩ := o1.form
  subst e2
  have s1 := block_lt (b0.ext x1)
  have b2 := (b0.ext x1).kept (by omega) hk2
  obtain ⟨cR, fR⟩ := b2.cells
  have hR : w.heap.size ∉ F1 := fun hm => by have := n1.2 _ hm; omega
  have b9 : Blk (((((((((w2.setCell ⟨w.heap.size, 0, none⟩ (.int .i64 o.kind)).setCell ⟨w.heap.size, 1, none⟩ (.int .i64 o.record.source)).setCell ⟨w.heap.size, 2, none⟩ (.int .i64 o.record.key)).setCell ⟨w.heap.size, 3, none⟩ (.int .i64 o.record.version)).setCell ⟨w.heap.size, 4, none⟩ (.slice A o.record.fields.length c)).setCell ⟨w.heap.size, 5, none⟩ (.int .i64 o.verdict.a)).setCell ⟨w.heap.size, 6, none⟩ (.int .i64 o.verdict.b)).setCell ⟨w.heap.size, 7, none⟩ (.bool o.verdict.same)).setCell ⟨w.heap.size, 8, none⟩ (.int .i64 o.verdict.time)) w.heap.size 28 [.int .i64 o.kind, .int .i64 o.record.source, .int .i64 o.record.key, .int .i64 o.record.version, .slice A o.record.fields.length c, .int .i64 o.verdict.a, .int .i64 o.verdict.b, .bool o.verdict.same, .int .i64 o.verdict.time] := (((((((((b2.setAt 0 (by show 0 < 9; decide) (.int .i64 o.kind)).setAt 1 (by show 1 < 9; decide) (.int .i64 o.record.source)).setAt 2 (by show 2 < 9; decide) (.int .i64 o.record.key)).setAt 3 (by show 3 < 9; decide) (.int .i64 o.record.version)).setAt 4 (by show 4 < 9; decide) (.slice A o.record.fields.length c)).setAt 5 (by show 5 < 9; decide) (.int .i64 o.verdict.a)).setAt 6 (by show 6 < 9; decide) (.int .i64 o.verdict.b)).setAt 7 (by show 7 < 9; decide) (.bool o.verdict.same)).setAt 8 (by show 8 < 9; decide) (.int .i64 o.verdict.time))
  have r0 : (((((((((w2.setCell ⟨w.heap.size, 0, none⟩ (.int .i64 o.kind)).setCell ⟨w.heap.size, 1, none⟩ (.int .i64 o.record.source)).setCell ⟨w.heap.size, 2, none⟩ (.int .i64 o.record.key)).setCell ⟨w.heap.size, 3, none⟩ (.int .i64 o.record.version)).setCell ⟨w.heap.size, 4, none⟩ (.slice A o.record.fields.length c)).setCell ⟨w.heap.size, 5, none⟩ (.int .i64 o.verdict.a)).setCell ⟨w.heap.size, 6, none⟩ (.int .i64 o.verdict.b)).setCell ⟨w.heap.size, 7, none⟩ (.bool o.verdict.same)).setCell ⟨w.heap.size, 8, none⟩ (.int .i64 o.verdict.time)).cell? ⟨w.heap.size, 0, none⟩ = some (.int .i64 o.kind) := b9.cells.1 0
  have r1 : (((((((((w2.setCell ⟨w.heap.size, 0, none⟩ (.int .i64 o.kind)).setCell ⟨w.heap.size, 1, none⟩ (.int .i64 o.record.source)).setCell ⟨w.heap.size, 2, none⟩ (.int .i64 o.record.key)).setCell ⟨w.heap.size, 3, none⟩ (.int .i64 o.record.version)).setCell ⟨w.heap.size, 4, none⟩ (.slice A o.record.fields.length c)).setCell ⟨w.heap.size, 5, none⟩ (.int .i64 o.verdict.a)).setCell ⟨w.heap.size, 6, none⟩ (.int .i64 o.verdict.b)).setCell ⟨w.heap.size, 7, none⟩ (.bool o.verdict.same)).setCell ⟨w.heap.size, 8, none⟩ (.int .i64 o.verdict.time)).cell? ⟨w.heap.size, 1, none⟩ = some (.int .i64 o.record.source) := b9.cells.1 1
  have r2 : (((((((((w2.setCell ⟨w.heap.size, 0, none⟩ (.int .i64 o.kind)).setCell ⟨w.heap.size, 1, none⟩ (.int .i64 o.record.source)).setCell ⟨w.heap.size, 2, none⟩ (.int .i64 o.record.key)).setCell ⟨w.heap.size, 3, none⟩ (.int .i64 o.record.version)).setCell ⟨w.heap.size, 4, none⟩ (.slice A o.record.fields.length c)).setCell ⟨w.heap.size, 5, none⟩ (.int .i64 o.verdict.a)).setCell ⟨w.heap.size, 6, none⟩ (.int .i64 o.verdict.b)).setCell ⟨w.heap.size, 7, none⟩ (.bool o.verdict.same)).setCell ⟨w.heap.size, 8, none⟩ (.int .i64 o.verdict.time)).cell? ⟨w.heap.size, 2, none⟩ = some (.int .i64 o.record.key) := b9.cells.1 2
  have r3 : (((((((((w2.setCell ⟨w.heap.size, 0, none⟩ (.int .i64 o.kind)).setCell ⟨w.heap.size, 1, none⟩ (.int .i64 o.record.source)).setCell ⟨w.heap.size, 2, none⟩ (.int .i64 o.record.key)).setCell ⟨w.heap.size, 3, none⟩ (.int .i64 o.record.version)).setCell ⟨w.heap.size, 4, none⟩ (.slice A o.record.fields.length c)).setCell ⟨w.heap.size, 5, none⟩ (.int .i64 o.verdict.a)).setCell ⟨w.heap.size, 6, none⟩ (.int .i64 o.verdict.b)).setCell ⟨w.heap.size, 7, none⟩ (.bool o.verdict.same)).setCell ⟨w.heap.size, 8, none⟩ (.int .i64 o.verdict.time)).cell? ⟨w.heap.size, 3, none⟩ = some (.int .i64 o.record.version) := b9.cells.1 3
  have r4 : (((((((((w2.setCell ⟨w.heap.size, 0, none⟩ (.int .i64 o.kind)).setCell ⟨w.heap.size, 1, none⟩ (.int .i64 o.record.source)).setCell ⟨w.heap.size, 2, none⟩ (.int .i64 o.record.key)).setCell ⟨w.heap.size, 3, none⟩ (.int .i64 o.record.version)).setCell ⟨w.heap.size, 4, none⟩ (.slice A o.record.fields.length c)).setCell ⟨w.heap.size, 5, none⟩ (.int .i64 o.verdict.a)).setCell ⟨w.heap.size, 6, none⟩ (.int .i64 o.verdict.b)).setCell ⟨w.heap.size, 7, none⟩ (.bool o.verdict.same)).setCell ⟨w.heap.size, 8, none⟩ (.int .i64 o.verdict.time)).cell? ⟨w.heap.size, 4, none⟩ = some (.slice A o.record.fields.length c) := b9.cells.1 4
  have r5 : (((((((((w2.setCell ⟨w.heap.size, 0, none⟩ (.int .i64 o.kind)).setCell ⟨w.heap.size, 1, none⟩ (.int .i64 o.record.source)).setCell ⟨w.heap.size, 2, none⟩ (.int .i64 o.record.key)).setCell ⟨w.heap.size, 3, none⟩ (.int .i64 o.record.version)).setCell ⟨w.heap.size, 4, none⟩ (.slice A o.record.fields.length c)).setCell ⟨w.heap.size, 5, none⟩ (.int .i64 o.verdict.a)).setCell ⟨w.heap.size, 6, none⟩ (.int .i64 o.verdict.b)).setCell ⟨w.heap.size, 7, none⟩ (.bool o.verdict.same)).setCell ⟨w.heap.size, 8, none⟩ (.int .i64 o.verdict.time)).cell? ⟨w.heap.size, 5, none⟩ = some (.int .i64 o.verdict.a) := b9.cells.1 5
  have r6 : (((((((((w2.setCell ⟨w.heap.size, 0, none⟩ (.int .i64 o.kind)).setCell ⟨w.heap.size, 1, none⟩ (.int .i64 o.record.source)).setCell ⟨w.heap.size, 2, none⟩ (.int .i64 o.record.key)).setCell ⟨w.heap.size, 3, none⟩ (.int .i64 o.record.version)).setCell ⟨w.heap.size, 4, none⟩ (.slice A o.record.fields.length c)).setCell ⟨w.heap.size, 5, none⟩ (.int .i64 o.verdict.a)).setCell ⟨w.heap.size, 6, none⟩ (.int .i64 o.verdict.b)).setCell ⟨w.heap.size, 7, none⟩ (.bool o.verdict.same)).setCell ⟨w.heap.size, 8, none⟩ (.int .i64 o.verdict.time)).cell? ⟨w.heap.size, 6, none⟩ = some (.int .i64 o.verdict.b) := b9.cells.1 6
  have r7 : (((((((((w2.setCell ⟨w.heap.size, 0, none⟩ (.int .i64 o.kind)).setCell ⟨w.heap.size, 1, none⟩ (.int .i64 o.record.source)).setCell ⟨w.heap.size, 2, none⟩ (.int .i64 o.record.key)).setCell ⟨w.heap.size, 3, none⟩ (.int .i64 o.record.version)).setCell ⟨w.heap.size, 4, none⟩ (.slice A o.record.fields.length c)).setCell ⟨w.heap.size, 5, none⟩ (.int .i64 o.verdict.a)).setCell ⟨w.heap.size, 6, none⟩ (.int .i64 o.verdict.b)).setCell ⟨w.heap.size, 7, none⟩ (.bool o.verdict.same)).setCell ⟨w.heap.size, 8, none⟩ (.int .i64 o.verdict.time)).cell? ⟨w.heap.size, 7, none⟩ = some (.bool o.verdict.same) := b9.cells.1 7
  have r8 : (((((((((w2.setCell ⟨w.heap.size, 0, none⟩ (.int .i64 o.kind)).setCell ⟨w.heap.size, 1, none⟩ (.int .i64 o.record.source)).setCell ⟨w.heap.size, 2, none⟩ (.int .i64 o.record.key)).setCell ⟨w.heap.size, 3, none⟩ (.int .i64 o.record.version)).setCell ⟨w.heap.size, 4, none⟩ (.slice A o.record.fields.length c)).setCell ⟨w.heap.size, 5, none⟩ (.int .i64 o.verdict.a)).setCell ⟨w.heap.size, 6, none⟩ (.int .i64 o.verdict.b)).setCell ⟨w.heap.size, 7, none⟩ (.bool o.verdict.same)).setCell ⟨w.heap.size, 8, none⟩ (.int .i64 o.verdict.time)).cell? ⟨w.heap.size, 8, none⟩ = some (.int .i64 o.verdict.time) := b9.cells.1 8
  have o9 := (((((((((o1.setCell (p := ⟨w.heap.size, 0, none⟩) hR (.int .i64 o.kind)).setCell (p := ⟨w.heap.size, 1, none⟩) hR (.int .i64 o.record.source)).setCell (p := ⟨w.heap.size, 2, none⟩) hR (.int .i64 o.record.key)).setCell (p := ⟨w.heap.size, 3, none⟩) hR (.int .i64 o.record.version)).setCell (p := ⟨w.heap.size, 4, none⟩) hR (.slice A o.record.fields.length c)).setCell (p := ⟨w.heap.size, 5, none⟩) hR (.int .i64 o.verdict.a)).setCell (p := ⟨w.heap.size, 6, none⟩) hR (.int .i64 o.verdict.b)).setCell (p := ⟨w.heap.size, 7, none⟩) hR (.bool o.verdict.same)).setCell (p := ⟨w.heap.size, 8, none⟩) hR (.int .i64 o.verdict.time))
  have x9 : Ext w (((((((((w2.setCell ⟨w.heap.size, 0, none⟩ (.int .i64 o.kind)).setCell ⟨w.heap.size, 1, none⟩ (.int .i64 o.record.source)).setCell ⟨w.heap.size, 2, none⟩ (.int .i64 o.record.key)).setCell ⟨w.heap.size, 3, none⟩ (.int .i64 o.record.version)).setCell ⟨w.heap.size, 4, none⟩ (.slice A o.record.fields.length c)).setCell ⟨w.heap.size, 5, none⟩ (.int .i64 o.verdict.a)).setCell ⟨w.heap.size, 6, none⟩ (.int .i64 o.verdict.b)).setCell ⟨w.heap.size, 7, none⟩ (.bool o.verdict.same)).setCell ⟨w.heap.size, 8, none⟩ (.int .i64 o.verdict.time)) := by
    repeat (refine Ext.setCell ?_ (Nat.le_refl _) _)
    exact xa.trans hc2.base.1
  have HI := hid ok1
  clear b9 b0 b2 s1 ok1
  go_wp2
  refine bodyPost_ret (v := .agg #[.int .i64 o.kind, .int .i64 o.record.source, .int .i64 o.record.key, .int .i64 o.record.version, .slice A o.record.fields.length c, .int .i64 o.verdict.a, .int .i64 o.verdict.b, .bool o.verdict.same, .int .i64 o.verdict.time]) (by simp [results, Tryz.results37, go_sem, r0, r1, r2, r3, r4, r5, r6, r7, r8]) rfl ?_
  exact ⟨_, o, rfl, ⟨_, rfl, HI.out, o9.sl⟩, x9⟩
end Go.Proofs.YtfieimmlcopbhaaGreatDoor
