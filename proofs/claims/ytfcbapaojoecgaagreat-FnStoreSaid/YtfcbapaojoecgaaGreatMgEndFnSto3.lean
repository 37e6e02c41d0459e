/-
  SEVERAL SMALL TEXTS LAID TOGETHER: DrawB, DrawC, DrawD, DrawE.
-/
import Derived.Test.YtfcbapaojoecgaaGreatMgEndFnSto2
import Derived.Test.YtfcbapaojoecgaaGreatMgEndAppB9
import Derived.Deep.RegionHeld3
import Derived.Test.YtfcbapaojoecgaaGreatMgEndFnSto0
import Derived.Test.YtfcbapaojoecgaaGreatMgEndAppB10
import Derived.Test.YtfcbapaojoecgaaGreatMgEndAppB0
import Derived.Deep.LoopGhost

namespace Go.Proofs.YtfcbapaojoecgaaGreat
open Go.RowKit

/-- an operation that was drawn -/
def OpAny (w0 w : World) (g : Nat) (p : Op → Prop) (e : Ending) (w2 : World) : Prop := ∃ v o F, e = .returned v ∧ OpOwn w2 v o F ∧ NewF w F ∧ Cur w0 w2 g ∧ Kept g w w2 ∧ p o
theorem i64_0 : I64 0 := ⟨by decide, by decide⟩
theorem okOpR {k x y z : Int} {fs : List ByteArray} (hk : I64 k) (hx : I64 x) (hy : I64 y) (hz : I64 z) : Op.ok ⟨k, ⟨x, y, z, fs⟩, ⟨0, 0, false, 0⟩⟩ := ⟨hk, ⟨hx, hy, hz⟩, i64_0, i64_0, i64_0⟩
theorem okOpV {k : Int} {v : Verdict} (hk : I64 k) (hv : v.ok) : Op.ok ⟨k, ⟨0, 0, 0, []⟩, v⟩ := ⟨hk, ⟨i64_0, i64_0, i64_0⟩, hv⟩
def putLen (o : Op) : Prop := o.kind = 1 → o.record.fields.length = 4

theorem putNo {o : Op} (h : ¬ o.kind = 1) : putLen o := fun e => absurd e h

set_option maxHeartbeats 2000000 in
set_option maxRecDepth 20000 in
theorem spec_l29Op (w0 w : World) (g : Nat) (hc : Cur w0 w g) :
    Calls Tryz.prog 121 #[.pointer (some ⟨g, 0, none⟩)] w (OpAny w0 w g putLen) := by
  have hg := hc.base.2.2
  have hc0 := hc.ext ((Ext.refl w).alloc (.cells #[.int .i64 0, .int .i64 0, .int .i64 0, .int .i64 0, .slice none 0 0, .int .i64 0, .int .i64 0, .bool false, .int .i64 0] 76))
  have k0 := Ext.kept (g := g) ((Ext.refl w).alloc (.cells #[.int .i64 0, .int .i64 0, .int .i64 0, .int .i64 0, .slice none 0 0, .int .i64 0, .int .i64 0, .bool false, .int .i64 0] 76))
  have b0 : Blk (w.alloc (.cells #[.int .i64 0, .int .i64 0, .int .i64 0, .int .i64 0, .slice none 0 0, .int .i64 0, .int .i64 0, .bool false, .int .i64 0] 76)) w.heap.size 76 [.int .i64 0, .int .i64 0, .int .i64 0, .int .i64 0, .slice none 0 0, .int .i64 0, .int .i64 0, .bool false, .int .i64 0] := Blk.new w 76 #[.int .i64 0, .int .i64 0, .int .i64 0, .int .i64 0, .slice none 0 0, .int .i64 0, .int .i64 0, .bool false, .int .i64 0]
  go_enter Tryz.func121, Tryz.ntmps121
  go_wp2_with fail
  refine (spec_l1Below w0 _ g 6 (by decide) hc0).mono ?_
  rintro e w2 ⟨x, rfl, hx, hc2, hk2⟩
  have hg2 := hc2.base.2.2
  have hk02 := k0.trans hk2
  have bR2 := b0.kept (Nat.ne_of_gt hg) hk2
  clear hc hc0 k0 b0
  by_cases h0 : x = 0
  · subst h0
    go_wp2_with fail
    refine (spec_l8Record w0 _ g hc2).mono ?_
    rintro e w3 ⟨b, r, rfl, rok, ro, rl, rb, hc3, hk3⟩
    have hgL := hc3.base.2.2
    have hk03 := hk02.trans hk3
    have hwL := hk03.1
    have sRL := block_lt (bR2.kept (Nat.ne_of_gt hg) hk3)
    have hw2 := hk02.1
    have sR2 := block_lt bR2
    have lb := ro.lt b (List.mem_singleton.2 rfl)
    have bL : Blk (w3.alloc (.cells #[.int .i64 r.source, .int .i64 r.key, .int .i64 r.version, .slice (some ⟨b, 0, none⟩) 4 4] 72)) w3.heap.size 72 [.int .i64 r.source, .int .i64 r.key, .int .i64 r.version, .slice (some ⟨b, 0, none⟩) 4 4] := Blk.new w3 72 #[.int .i64 r.source, .int .i64 r.key, .int .i64 r.version, .slice (some ⟨b, 0, none⟩) 4 4]
    have bR := (bR2.kept (Nat.ne_of_gt hg) hk3).ext ((Ext.refl w3).alloc (.cells #[.int .i64 r.source, .int .i64 r.key, .int .i64 r.version, .slice (some ⟨b, 0, none⟩) 4 4] 72))
    have o3 := ro.ext ((Ext.refl w3).alloc (.cells #[.int .i64 r.source, .int .i64 r.key, .int .i64 r.version, .slice (some ⟨b, 0, none⟩) 4 4] 72))
    have hc3a := hc3.ext ((Ext.refl w3).alloc (.cells #[.int .i64 r.source, .int .i64 r.key, .int .i64 r.version, .slice (some ⟨b, 0, none⟩) 4 4] 72))
    have hk3a := hk03.alloc (.cells #[.int .i64 r.source, .int .i64 r.key, .int .i64 r.version, .slice (some ⟨b, 0, none⟩) 4 4] 72)
    clear hc2 hk2 hk02 bR2 hk3 hk03 hc3 ro
    have HKL := hid (show ∀ W, Kept g (w3.alloc (.cells #[.int .i64 r.source, .int .i64 r.key, .int .i64 r.version, .slice (some ⟨b, 0, none⟩) 4 4] 72)) W → W.cell? ⟨w3.heap.size, 2, none⟩ = some (.int .i64 r.version) from fun W k => (bL.kept (by omega) k).cells.1 2)
    have HKL2 := hid (show ∀ W, Blk W w3.heap.size 72 [.int .i64 r.source, .int .i64 r.key, .int .i64 r.version, .slice (some ⟨b, 0, none⟩) 4 4] → W.cell? ⟨w3.heap.size, 2, none⟩ = some (.int .i64 r.version) from fun W h => h.cells.1 2)
    have HKR := hid (show ∀ W, Kept g (w3.alloc (.cells #[.int .i64 r.source, .int .i64 r.key, .int .i64 r.version, .slice (some ⟨b, 0, none⟩) 4 4] 72)) W → Blk W w.heap.size 76 [.int .i64 0, .int .i64 0, .int .i64 0, .int .i64 0, .slice none 0 0, .int .i64 0, .int .i64 0, .bool false, .int .i64 0] ∧ Blk W w3.heap.size 72 [.int .i64 r.source, .int .i64 r.key, .int .i64 r.version, .slice (some ⟨b, 0, none⟩) 4 4] from fun W k => ⟨bR.kept (by omega) k, bL.kept (by omega) k⟩)
    clear bL bR o3
    have h31 : (3 : Int) ≤ 256 := by omega
    go_wp2_with fail
    go_region_held3 (fun w' => w'.cell? ⟨w3.heap.size, 2, none⟩ = some (.int .i64 r.version)) (first | (refine HKL.out _ ?_; ((repeat (first | with_reducible exact Kept.refl _ _ | with_reducible assumption | with_reducible refine Kept.drew ?_ | with_reducible refine Kept.alloc ?_ _ | with_reducible refine Kept.trans ?_ (by with_reducible assumption))); done)) | (refine HKL2.out _ ?_; repeat (first | with_reducible assumption | (refine Blk.other ?_ (by omega))))) (first | (have hfirst := hc4; go_at_call 115; refine (spec_l1Below w0 _ g 2 (by decide) ?hcur).mono ?_; (case hcur => exact (by repeat (first | with_reducible assumption | with_reducible refine Cur.drew ?_ | with_reducible refine Cur.alloc ?_ _))); rintro e w5 ⟨x2, rfl, hx2, hc5, hk45⟩; have hk35 : Kept g (w3.alloc (.cells #[.int .i64 r.source, .int .i64 r.key, .int .i64 r.version, .slice (some ⟨b, 0, none⟩) 4 4] 72)) w5 := (by repeat (first | with_reducible exact Kept.refl _ _ | with_reducible assumption | with_reducible refine Kept.drew ?_ | with_reducible refine Kept.alloc ?_ _ | with_reducible refine Kept.trans ?_ (by with_reducible assumption))); have hww : IntKind.i64.wrap (1 + x2) = 1 + x2 := by { rw [IntKind.wrap_i64]; omega }; obtain ⟨bR5, bL5⟩ := HKR.out w5 hk35; obtain ⟨cR, fR⟩ := bR5.cells) | (go_at_call 115; refine (spec_l1Below w0 _ g 3 (by decide) ?hcur).mono ?_; (case hcur => exact (by repeat (first | with_reducible assumption | with_reducible refine Cur.drew ?_ | with_reducible refine Cur.alloc ?_ _))); rintro e w4 ⟨x1, rfl, hx1, hc4, hk4⟩))
    have hk5 := hk3a.trans hk35
    have HI := hid (show Op.ok ⟨2, ⟨x1, 1 + x2, r.version, []⟩, ⟨0, 0, false, 0⟩⟩ from okOpR ⟨by decide, by decide⟩ ⟨by omega, by omega⟩ ⟨by omega, by omega⟩ rok.2.2)
    go_wp2
    have b9 : Blk (((((((((w5.setCell ⟨w.heap.size, 0, none⟩ (.int .i64 2)).setCell ⟨w.heap.size, 1, none⟩ (.int .i64 x1)).setCell ⟨w.heap.size, 2, none⟩ (.int .i64 (1 + x2))).setCell ⟨w.heap.size, 3, none⟩ (.int .i64 r.version)).setCell ⟨w.heap.size, 4, none⟩ (.slice none 0 0)).setCell ⟨w.heap.size, 5, none⟩ (.int .i64 0)).setCell ⟨w.heap.size, 6, none⟩ (.int .i64 0)).setCell ⟨w.heap.size, 7, none⟩ (.bool false)).setCell ⟨w.heap.size, 8, none⟩ (.int .i64 0)) w.heap.size 76 [.int .i64 2, .int .i64 x1, .int .i64 (1 + x2), .int .i64 r.version, .slice none 0 0, .int .i64 0, .int .i64 0, .bool false, .int .i64 0] := (((((((((bR5.setAt 0 (by show 0 < 9; decide) (.int .i64 2)).setAt 1 (by show 1 < 9; decide) (.int .i64 x1)).setAt 2 (by show 2 < 9; decide) (.int .i64 (1 + x2))).setAt 3 (by show 3 < 9; decide) (.int .i64 r.version)).setAt 4 (by show 4 < 9; decide) (.slice none 0 0)).setAt 5 (by show 5 < 9; decide) (.int .i64 0)).setAt 6 (by show 6 < 9; decide) (.int .i64 0)).setAt 7 (by show 7 < 9; decide) (.bool false)).setAt 8 (by show 8 < 9; decide) (.int .i64 0))
    have r0 : (((((((((w5.setCell ⟨w.heap.size, 0, none⟩ (.int .i64 2)).setCell ⟨w.heap.size, 1, none⟩ (.int .i64 x1)).setCell ⟨w.heap.size, 2, none⟩ (.int .i64 (1 + x2))).setCell ⟨w.heap.size, 3, none⟩ (.int .i64 r.version)).setCell ⟨w.heap.size, 4, none⟩ (.slice none 0 0)).setCell ⟨w.heap.size, 5, none⟩ (.int .i64 0)).setCell ⟨w.heap.size, 6, none⟩ (.int .i64 0)).setCell ⟨w.heap.size, 7, none⟩ (.bool false)).setCell ⟨w.heap.size, 8, none⟩ (.int .i64 0)).cell? ⟨w.heap.size, 0, none⟩ = some (.int .i64 2) := b9.cells.1 0
    have r1 : (((((((((w5.setCell ⟨w.heap.size, 0, none⟩ (.int .i64 2)).setCell ⟨w.heap.size, 1, none⟩ (.int .i64 x1)).setCell ⟨w.heap.size, 2, none⟩ (.int .i64 (1 + x2))).setCell ⟨w.heap.size, 3, none⟩ (.int .i64 r.version)).setCell ⟨w.heap.size, 4, none⟩ (.slice none 0 0)).setCell ⟨w.heap.size, 5, none⟩ (.int .i64 0)).setCell ⟨w.heap.size, 6, none⟩ (.int .i64 0)).setCell ⟨w.heap.size, 7, none⟩ (.bool false)).setCell ⟨w.heap.size, 8, none⟩ (.int .i64 0)).cell? ⟨w.heap.size, 1, none⟩ = some (.int .i64 x1) := b9.cells.1 1
    have r2 : (((((((((w5.setCell ⟨w.heap.size, 0, none⟩ (.int .i64 2)).setCell ⟨w.heap.size, 1, none⟩ (.int .i64 x1)).setCell ⟨w.heap.size, 2, none⟩ (.int .i64 (1 + x2))).setCell ⟨w.heap.size, 3, none⟩ (.int .i64 r.version)).setCell ⟨w.heap.size, 4, none⟩ (.slice none 0 0)).setCell ⟨w.heap.size, 5, none⟩ (.int .i64 0)).setCell ⟨w.heap.size, 6, none⟩ (.int .i64 0)).setCell ⟨w.heap.size, 7, none⟩ (.bool false)).setCell ⟨w.heap.size, 8, none⟩ (.int .i64 0)).cell? ⟨w.heap.size, 2, none⟩ = some (.int .i64 (1 + x2)) := b9.cells.1 2
    have r3 : (((((((((w5.setCell ⟨w.heap.size, 0, none⟩ (.int .i64 2)).setCell ⟨w.heap.size, 1, none⟩ (.int .i64 x1)).setCell ⟨w.heap.size, 2, none⟩ (.int .i64 (1 + x2))).setCell ⟨w.heap.size, 3, none⟩ (.int .i64 r.version)).setCell ⟨w.heap.size, 4, none⟩ (.slice none 0 0)).setCell ⟨w.heap.size, 5, none⟩ (.int .i64 0)).setCell ⟨w.heap.size, 6, none⟩ (.int .i64 0)).setCell ⟨w.heap.size, 7, none⟩ (.bool false)).setCell ⟨w.heap.size, 8, none⟩ (.int .i64 0)).cell? ⟨w.heap.size, 3, none⟩ = some (.int .i64 r.version) := b9.cells.1 3
    have r4 : (((((((((w5.setCell ⟨w.heap.size, 0, none⟩ (.int .i64 2)).setCell ⟨w.heap.size, 1, none⟩ (.int .i64 x1)).setCell ⟨w.heap.size, 2, none⟩ (.int .i64 (1 + x2))).setCell ⟨w.heap.size, 3, none⟩ (.int .i64 r.version)).setCell ⟨w.heap.size, 4, none⟩ (.slice none 0 0)).setCell ⟨w.heap.size, 5, none⟩ (.int .i64 0)).setCell ⟨w.heap.size, 6, none⟩ (.int .i64 0)).setCell ⟨w.heap.size, 7, none⟩ (.bool false)).setCell ⟨w.heap.size, 8, none⟩ (.int .i64 0)).cell? ⟨w.heap.size, 4, none⟩ = some (.slice none 0 0) := b9.cells.1 4
    have r5 : (((((((((w5.setCell ⟨w.heap.size, 0, none⟩ (.int .i64 2)).setCell ⟨w.heap.size, 1, none⟩ (.int .i64 x1)).setCell ⟨w.heap.size, 2, none⟩ (.int .i64 (1 + x2))).setCell ⟨w.heap.size, 3, none⟩ (.int .i64 r.version)).setCell ⟨w.heap.size, 4, none⟩ (.slice none 0 0)).setCell ⟨w.heap.size, 5, none⟩ (.int .i64 0)).setCell ⟨w.heap.size, 6, none⟩ (.int .i64 0)).setCell ⟨w.heap.size, 7, none⟩ (.bool false)).setCell ⟨w.heap.size, 8, none⟩ (.int .i64 0)).cell? ⟨w.heap.size, 5, none⟩ = some (.int .i64 0) := b9.cells.1 5
    have r6 : (((((((((w5.setCell ⟨w.heap.size, 0, none⟩ (.int .i64 2)).setCell ⟨w.heap.size, 1, none⟩ (.int .i64 x1)).setCell ⟨w.heap.size, 2, none⟩ (.int .i64 (1 + x2))).setCell ⟨w.heap.size, 3, none⟩ (.int .i64 r.version)).setCell ⟨w.heap.size, 4, none⟩ (.slice none 0 0)).setCell ⟨w.heap.size, 5, none⟩ (.int .i64 0)).setCell ⟨w.heap.size, 6, none⟩ (.int .i64 0)).setCell ⟨w.heap.size, 7, none⟩ (.bool false)).setCell ⟨w.heap.size, 8, none⟩ (.int .i64 0)).cell? ⟨w.heap.size, 6, none⟩ = some (.int .i64 0) := b9.cells.1 6
    have r7 : (((((((((w5.setCell ⟨w.heap.size, 0, none⟩ (.int .i64 2)).setCell ⟨w.heap.size, 1, none⟩ (.int .i64 x1)).setCell ⟨w.heap.size, 2, none⟩ (.int .i64 (1 + x2))).setCell ⟨w.heap.size, 3, none⟩ (.int .i64 r.version)).setCell ⟨w.heap.size, 4, none⟩ (.slice none 0 0)).setCell ⟨w.heap.size, 5, none⟩ (.int .i64 0)).setCell ⟨w.heap.size, 6, none⟩ (.int .i64 0)).setCell ⟨w.heap.size, 7, none⟩ (.bool false)).setCell ⟨w.heap.size, 8, none⟩ (.int .i64 0)).cell? ⟨w.heap.size, 7, none⟩ = some (.bool false) := b9.cells.1 7
    have r8 : (((((((((w5.setCell ⟨w.heap.size, 0, none⟩ (.int .i64 2)).setCell ⟨w.heap.size, 1, none⟩ (.int .i64 x1)).setCell ⟨w.heap.size, 2, none⟩ (.int .i64 (1 + x2))).setCell ⟨w.heap.size, 3, none⟩ (.int .i64 r.version)).setCell ⟨w.heap.size, 4, none⟩ (.slice none 0 0)).setCell ⟨w.heap.size, 5, none⟩ (.int .i64 0)).setCell ⟨w.heap.size, 6, none⟩ (.int .i64 0)).setCell ⟨w.heap.size, 7, none⟩ (.bool false)).setCell ⟨w.heap.size, 8, none⟩ (.int .i64 0)).cell? ⟨w.heap.size, 8, none⟩ = some (.int .i64 0) := b9.cells.1 8
    have k9 : Kept g w (((((((((w5.setCell ⟨w.heap.size, 0, none⟩ (.int .i64 2)).setCell ⟨w.heap.size, 1, none⟩ (.int .i64 x1)).setCell ⟨w.heap.size, 2, none⟩ (.int .i64 (1 + x2))).setCell ⟨w.heap.size, 3, none⟩ (.int .i64 r.version)).setCell ⟨w.heap.size, 4, none⟩ (.slice none 0 0)).setCell ⟨w.heap.size, 5, none⟩ (.int .i64 0)).setCell ⟨w.heap.size, 6, none⟩ (.int .i64 0)).setCell ⟨w.heap.size, 7, none⟩ (.bool false)).setCell ⟨w.heap.size, 8, none⟩ (.int .i64 0)) := (((((((((hk5.setN (Nat.le_refl _) _).setN (Nat.le_refl _) _).setN (Nat.le_refl _) _).setN (Nat.le_refl _) _).setN (Nat.le_refl _) _).setN (Nat.le_refl _) _).setN (Nat.le_refl _) _).setN (Nat.le_refl _) _).setN (Nat.le_refl _) _)
    have c9 : Cur w0 (((((((((w5.setCell ⟨w.heap.size, 0, none⟩ (.int .i64 2)).setCell ⟨w.heap.size, 1, none⟩ (.int .i64 x1)).setCell ⟨w.heap.size, 2, none⟩ (.int .i64 (1 + x2))).setCell ⟨w.heap.size, 3, none⟩ (.int .i64 r.version)).setCell ⟨w.heap.size, 4, none⟩ (.slice none 0 0)).setCell ⟨w.heap.size, 5, none⟩ (.int .i64 0)).setCell ⟨w.heap.size, 6, none⟩ (.int .i64 0)).setCell ⟨w.heap.size, 7, none⟩ (.bool false)).setCell ⟨w.heap.size, 8, none⟩ (.int .i64 0)) g := (((((((((hc5.setN hg _).setN hg _).setN hg _).setN hg _).setN hg _).setN hg _).setN hg _).setN hg _).setN hg _)
    refine bodyPost_ret (v := .agg #[.int .i64 2, .int .i64 x1, .int .i64 (1 + x2), .int .i64 r.version, .slice none 0 0, .int .i64 0, .int .i64 0, .bool false, .int .i64 0]) (by simp [results, Tryz.results121, go_sem, r0, r1, r2, r3, r4, r5, r6, r7, r8]) rfl ?_
    exact ⟨_, ⟨2, ⟨x1, 1 + x2, r.version, []⟩, ⟨0, 0, false, 0⟩⟩, [], rfl, ⟨_, rfl, HI.out, .inl ⟨rfl, rfl, none, 0, rfl, Nat.zero_le _⟩⟩, .nil _, c9, k9, putNo (by show ¬ (2 : Int) = 1; decide)⟩
  · by_cases h1 : x = 1
    · subst h1
      go_wp2_with fail
      refine (spec_l28Verdict w0 _ g hc2).mono ?_
      rintro e w3 ⟨v, rfl, vok, hc3, hk3⟩
      have bR3 := bR2.kept (Nat.ne_of_gt hg) hk3
      have hk03 := hk02.trans hk3
      clear hc2 hk2 hk02 bR2 hk3
      obtain ⟨cR, fR⟩ := bR3.cells
      go_wp2
      have b9 : Blk (((((((((w3.setCell ⟨w.heap.size, 0, none⟩ (.int .i64 3)).setCell ⟨w.heap.size, 1, none⟩ (.int .i64 0)).setCell ⟨w.heap.size, 2, none⟩ (.int .i64 0)).setCell ⟨w.heap.size, 3, none⟩ (.int .i64 0)).setCell ⟨w.heap.size, 4, none⟩ (.slice none 0 0)).setCell ⟨w.heap.size, 5, none⟩ (.int .i64 v.a)).setCell ⟨w.heap.size, 6, none⟩ (.int .i64 v.b)).setCell ⟨w.heap.size, 7, none⟩ (.bool v.same)).setCell ⟨w.heap.size, 8, none⟩ (.int .i64 v.time)) w.heap.size 76 [.int .i64 3, .int .i64 0, .int .i64 0, .int .i64 0, .slice none 0 0, .int .i64 v.a, .int .i64 v.b, .bool v.same, .int .i64 v.time] := (((((((((bR3.setAt 0 (by show 0 < 9; decide) (.int .i64 3)).setAt 1 (by show 1 < 9; decide) (.int .i64 0)).setAt 2 (by show 2 < 9; decide) (.int .i64 0)).setAt 3 (by show 3 < 9; decide) (.int .i64 0)).setAt 4 (by show 4 < 9; decide) (.slice none 0 0)).setAt 5 (by show 5 < 9; decide) (.int .i64 v.a)).setAt 6 (by show 6 < 9; decide) (.int .i64 v.b)).setAt 7 (by show 7 < 9; decide) (.bool v.same)).setAt 8 (by show 8 < 9; decide) (.int .i64 v.time))
      have r0 : (((((((((w3.setCell ⟨w.heap.size, 0, none⟩ (.int .i64 3)).setCell ⟨w.heap.size, 1, none⟩ (.int .i64 0)).setCell ⟨w.heap.size, 2, none⟩ (.int .i64 0)).setCell ⟨w.heap.size, 3, none⟩ (.int .i64 0)).setCell ⟨w.heap.size, 4, none⟩ (.slice none 0 0)).setCell ⟨w.heap.size, 5, none⟩ (.int .i64 v.a)).setCell ⟨w.heap.size, 6, none⟩ (.int .i64 v.b)).setCell ⟨w.heap.size, 7, none⟩ (.bool v.same)).setCell ⟨w.heap.size, 8, none⟩ (.int .i64 v.time)).cell? ⟨w.heap.size, 0, none⟩ = some (.int .i64 3) := b9.cells.1 0
      have r1 : (((((((((w3.setCell ⟨w.heap.size, 0, none⟩ (.int .i64 3)).setCell ⟨w.heap.size, 1, none⟩ (.int .i64 0)).setCell ⟨w.heap.size, 2, none⟩ (.int .i64 0)).setCell ⟨w.heap.size, 3, none⟩ (.int .i64 0)).setCell ⟨w.heap.size, 4, none⟩ (.slice none 0 0)).setCell ⟨w.heap.size, 5, none⟩ (.int .i64 v.a)).setCell ⟨w.heap.size, 6, none⟩ (.int .i64 v.b)).setCell ⟨w.heap.size, 7, none⟩ (.bool v.same)).setCell ⟨w.heap.size, 8, none⟩ (.int .i64 v.time)).cell? ⟨w.heap.size, 1, none⟩ = some (.int .i64 0) := b9.cells.1 1
      have r2 : (((((((((w3.setCell ⟨w.heap.size, 0, none⟩ (.int .i64 3)).setCell ⟨w.heap.size, 1, none⟩ (.int .i64 0)).setCell ⟨w.heap.size, 2, none⟩ (.int .i64 0)).setCell ⟨w.heap.size, 3, none⟩ (.int .i64 0)).setCell ⟨w.heap.size, 4, none⟩ (.slice none 0 0)).setCell ⟨w.heap.size, 5, none⟩ (.int .i64 v.a)).setCell ⟨w.heap.size, 6, none⟩ (.int .i64 v.b)).setCell ⟨w.heap.size, 7, none⟩ (.bool v.same)).setCell ⟨w.heap.size, 8, none⟩ (.int .i64 v.time)).cell? ⟨w.heap.size, 2, none⟩ = some (.int .i64 0) := b9.cells.1 2
      have r3 : (((((((((w3.setCell ⟨w.heap.size, 0, none⟩ (.int .i64 3)).setCell ⟨w.heap.size, 1, none⟩ (.int .i64 0)).setCell ⟨w.heap.size, 2, none⟩ (.int .i64 0)).setCell ⟨w.heap.size, 3, none⟩ (.int .i64 0)).setCell ⟨w.heap.size, 4, none⟩ (.slice none 0 0)).setCell ⟨w.heap.size, 5, none⟩ (.int .i64 v.a)).setCell ⟨w.heap.size, 6, none⟩ (.int .i64 v.b)).setCell ⟨w.heap.size, 7, none⟩ (.bool v.same)).setCell ⟨w.heap.size, 8, none⟩ (.int .i64 v.time)).cell? ⟨w.heap.size, 3, none⟩ = some (.int .i64 0) := b9.cells.1 3
      have r4 : (((((((((w3.setCell ⟨w.heap.size, 0, none⟩ (.int .i64 3)).setCell ⟨w.heap.size, 1, none⟩ (.int .i64 0)).setCell ⟨w.heap.size, 2, none⟩ (.int .i64 0)).setCell ⟨w.heap.size, 3, none⟩ (.int .i64 0)).setCell ⟨w.heap.size, 4, none⟩ (.slice none 0 0)).setCell ⟨w.heap.size, 5, none⟩ (.int .i64 v.a)).setCell ⟨w.heap.size, 6, none⟩ (.int .i64 v.b)).setCell ⟨w.heap.size, 7, none⟩ (.bool v.same)).setCell ⟨w.heap.size, 8, none⟩ (.int .i64 v.time)).cell? ⟨w.heap.size, 4, none⟩ = some (.slice none 0 0) := b9.cells.1 4
      have r5 : (((((((((w3.setCell ⟨w.heap.size, 0, none⟩ (.int .i64 3)).setCell ⟨w.heap.size, 1, none⟩ (.int .i64 0)).setCell ⟨w.heap.size, 2, none⟩ (.int .i64 0)).setCell ⟨w.heap.size, 3, none⟩ (.int .i64 0)).setCell ⟨w.heap.size, 4, none⟩ (.slice none 0 0)).setCell ⟨w.heap.size, 5, none⟩ (.int .i64 v.a)).setCell ⟨w.heap.size, 6, none⟩ (.int .i64 v.b)).setCell ⟨w.heap.size, 7, none⟩ (.bool v.same)).setCell ⟨w.heap.size, 8, none⟩ (.int .i64 v.time)).cell? ⟨w.heap.size, 5, none⟩ = some (.int .i64 v.a) := b9.cells.1 5
      have r6 : (((((((((w3.setCell ⟨w.heap.size, 0, none⟩ (.int .i64 3)).setCell ⟨w.heap.size, 1, none⟩ (.int .i64 0)).setCell ⟨w.heap.size, 2, none⟩ (.int .i64 0)).setCell ⟨w.heap.size, 3, none⟩ (.int .i64 0)).setCell ⟨w.heap.size, 4, none⟩ (.slice none 0 0)).setCell ⟨w.heap.size, 5, none⟩ (.int .i64 v.a)).setCell ⟨w.heap.size, 6, none⟩ (.int .i64 v.b)).setCell ⟨w.heap.size, 7, none⟩ (.bool v.same)).setCell ⟨w.heap.size, 8, none⟩ (.int .i64 v.time)).cell? ⟨w.heap.size, 6, none⟩ = some (.int .i64 v.b) := b9.cells.1 6
      have r7 : (((((((((w3.setCell ⟨w.heap.size, 0, none⟩ (.int .i64 3)).setCell ⟨w.heap.size, 1, none⟩ (.int .i64 0)).setCell ⟨w.heap.size, 2, none⟩ (.int .i64 0)).setCell ⟨w.heap.size, 3, none⟩ (.int .i64 0)).setCell ⟨w.heap.size, 4, none⟩ (.slice none 0 0)).setCell ⟨w.heap.size, 5, none⟩ (.int .i64 v.a)).setCell ⟨w.heap.size, 6, none⟩ (.int .i64 v.b)).setCell ⟨w.heap.size, 7, none⟩ (.bool v.same)).setCell ⟨w.heap.size, 8, none⟩ (.int .i64 v.time)).cell? ⟨w.heap.size, 7, none⟩ = some (.bool v.same) := b9.cells.1 7
      have r8 : (((((((((w3.setCell ⟨w.heap.size, 0, none⟩ (.int .i64 3)).setCell ⟨w.heap.size, 1, none⟩ (.int .i64 0)).setCell ⟨w.heap.size, 2, none⟩ (.int .i64 0)).setCell ⟨w.heap.size, 3, none⟩ (.int .i64 0)).setCell ⟨w.heap.size, 4, none⟩ (.slice none 0 0)).setCell ⟨w.heap.size, 5, none⟩ (.int .i64 v.a)).setCell ⟨w.heap.size, 6, none⟩ (.int .i64 v.b)).setCell ⟨w.heap.size, 7, none⟩ (.bool v.same)).setCell ⟨w.heap.size, 8, none⟩ (.int .i64 v.time)).cell? ⟨w.heap.size, 8, none⟩ = some (.int .i64 v.time) := b9.cells.1 8
      have k9 : Kept g w (((((((((w3.setCell ⟨w.heap.size, 0, none⟩ (.int .i64 3)).setCell ⟨w.heap.size, 1, none⟩ (.int .i64 0)).setCell ⟨w.heap.size, 2, none⟩ (.int .i64 0)).setCell ⟨w.heap.size, 3, none⟩ (.int .i64 0)).setCell ⟨w.heap.size, 4, none⟩ (.slice none 0 0)).setCell ⟨w.heap.size, 5, none⟩ (.int .i64 v.a)).setCell ⟨w.heap.size, 6, none⟩ (.int .i64 v.b)).setCell ⟨w.heap.size, 7, none⟩ (.bool v.same)).setCell ⟨w.heap.size, 8, none⟩ (.int .i64 v.time)) := (((((((((hk03.setN (Nat.le_refl _) _).setN (Nat.le_refl _) _).setN (Nat.le_refl _) _).setN (Nat.le_refl _) _).setN (Nat.le_refl _) _).setN (Nat.le_refl _) _).setN (Nat.le_refl _) _).setN (Nat.le_refl _) _).setN (Nat.le_refl _) _)
      have c9 : Cur w0 (((((((((w3.setCell ⟨w.heap.size, 0, none⟩ (.int .i64 3)).setCell ⟨w.heap.size, 1, none⟩ (.int .i64 0)).setCell ⟨w.heap.size, 2, none⟩ (.int .i64 0)).setCell ⟨w.heap.size, 3, none⟩ (.int .i64 0)).setCell ⟨w.heap.size, 4, none⟩ (.slice none 0 0)).setCell ⟨w.heap.size, 5, none⟩ (.int .i64 v.a)).setCell ⟨w.heap.size, 6, none⟩ (.int .i64 v.b)).setCell ⟨w.heap.size, 7, none⟩ (.bool v.same)).setCell ⟨w.heap.size, 8, none⟩ (.int .i64 v.time)) g := (((((((((hc3.setN hg _).setN hg _).setN hg _).setN hg _).setN hg _).setN hg _).setN hg _).setN hg _).setN hg _)
      refine bodyPost_ret (v := .agg #[.int .i64 3, .int .i64 0, .int .i64 0, .int .i64 0, .slice none 0 0, .int .i64 v.a, .int .i64 v.b, .bool v.same, .int .i64 v.time]) (by simp [results, Tryz.results121, go_sem, r0, r1, r2, r3, r4, r5, r6, r7, r8]) rfl ?_
      exact ⟨_, ⟨3, ⟨0, 0, 0, []⟩, v⟩, [], rfl, ⟨_, rfl, okOpV ⟨by decide, by decide⟩ vok, .inl ⟨rfl, rfl, none, 0, rfl, Nat.zero_le _⟩⟩, .nil _, c9, k9, putNo (by show ¬ (3 : Int) = 1; decide)⟩
    · by_cases h2 : x = 2
      · subst h2
        go_wp2_with fail
        refine (spec_l28Verdict w0 _ g hc2).mono ?_
        rintro e w3 ⟨v, rfl, vok, hc3, hk3⟩
        have bR3 := bR2.kept (Nat.ne_of_gt hg) hk3
        have hk03 := hk02.trans hk3
        clear hc2 hk2 hk02 bR2 hk3
        obtain ⟨cR, fR⟩ := bR3.cells
        go_wp2
        have b9 : Blk (((((((((w3.setCell ⟨w.heap.size, 0, none⟩ (.int .i64 4)).setCell ⟨w.heap.size, 1, none⟩ (.int .i64 0)).setCell ⟨w.heap.size, 2, none⟩ (.int .i64 0)).setCell ⟨w.heap.size, 3, none⟩ (.int .i64 0)).setCell ⟨w.heap.size, 4, none⟩ (.slice none 0 0)).setCell ⟨w.heap.size, 5, none⟩ (.int .i64 v.a)).setCell ⟨w.heap.size, 6, none⟩ (.int .i64 v.b)).setCell ⟨w.heap.size, 7, none⟩ (.bool v.same)).setCell ⟨w.heap.size, 8, none⟩ (.int .i64 v.time)) w.heap.size 76 [.int .i64 4, .int .i64 0, .int .i64 0, .int .i64 0, .slice none 0 0, .int .i64 v.a, .int .i64 v.b, .bool v.same, .int .i64 v.time] := (((((((((bR3.setAt 0 (by show 0 < 9; decide) (.int .i64 4)).setAt 1 (by show 1 < 9; decide) (.int .i64 0)).setAt 2 (by show 2 < 9; decide) (.int .i64 0)).setAt 3 (by show 3 < 9; decide) (.int .i64 0)).setAt 4 (by show 4 < 9; decide) (.slice none 0 0)).setAt 5 (by show 5 < 9; decide) (.int .i64 v.a)).setAt 6 (by show 6 < 9; decide) (.int .i64 v.b)).setAt 7 (by show 7 < 9; decide) (.bool v.same)).setAt 8 (by show 8 < 9; decide) (.int .i64 v.time))
        have r0 : (((((((((w3.setCell ⟨w.heap.size, 0, none⟩ (.int .i64 4)).setCell ⟨w.heap.size, 1, none⟩ (.int .i64 0)).setCell ⟨w.heap.size, 2, none⟩ (.int .i64 0)).setCell ⟨w.heap.size, 3, none⟩ (.int .i64 0)).setCell ⟨w.heap.size, 4, none⟩ (.slice none 0 0)).setCell ⟨w.heap.size, 5, none⟩ (.int .i64 v.a)).setCell ⟨w.heap.size, 6, none⟩ (.int .i64 v.b)).setCell ⟨w.heap.size, 7, none⟩ (.bool v.same)).setCell ⟨w.heap.size, 8, none⟩ (.int .i64 v.time)).cell? ⟨w.heap.size, 0, none⟩ = some (.int .i64 4) := b9.cells.1 0
        have r1 : (((((((((w3.setCell ⟨w.heap.size, 0, none⟩ (.int .i64 4)).setCell ⟨w.heap.size, 1, none⟩ (.int .i64 0)).setCell ⟨w.heap.size, 2, none⟩ (.int .i64 0)).setCell ⟨w.heap.size, 3, none⟩ (.int .i64 0)).setCell ⟨w.heap.size, 4, none⟩ (.slice none 0 0)).setCell ⟨w.heap.size, 5, none⟩ (.int .i64 v.a)).setCell ⟨w.heap.size, 6, none⟩ (.int .i64 v.b)).setCell ⟨w.heap.size, 7, none⟩ (.bool v.same)).setCell ⟨w.heap.size, 8, none⟩ (.int .i64 v.time)).cell? ⟨w.heap.size, 1, none⟩ = some (.int .i64 0) := b9.cells.1 1
        have r2 : (((((((((w3.setCell ⟨w.heap.size, 0, none⟩ (.int .i64 4)).setCell ⟨w.heap.size, 1, none⟩ (.int .i64 0)).setCell ⟨w.heap.size, 2, none⟩ (.int .i64 0)).setCell ⟨w.heap.size, 3, none⟩ (.int .i64 0)).setCell ⟨w.heap.size, 4, none⟩ (.slice none 0 0)).setCell ⟨w.heap.size, 5, none⟩ (.int .i64 v.a)).setCell ⟨w.heap.size, 6, none⟩ (.int .i64 v.b)).setCell ⟨w.heap.size, 7, none⟩ (.bool v.same)).setCell ⟨w.heap.size, 8, none⟩ (.int .i64 v.time)).cell? ⟨w.heap.size, 2, none⟩ = some (.int .i64 0) := b9.cells.1 2
        have r3 : (((((((((w3.setCell ⟨w.heap.size, 0, none⟩ (.int .i64 4)).setCell ⟨w.heap.size, 1, none⟩ (.int .i64 0)).setCell ⟨w.heap.size, 2, none⟩ (.int .i64 0)).setCell ⟨w.heap.size, 3, none⟩ (.int .i64 0)).setCell ⟨w.heap.size, 4, none⟩ (.slice none 0 0)).setCell ⟨w.heap.size, 5, none⟩ (.int .i64 v.a)).setCell ⟨w.heap.size, 6, none⟩ (.int .i64 v.b)).setCell ⟨w.heap.size, 7, none⟩ (.bool v.same)).setCell ⟨w.heap.size, 8, none⟩ (.int .i64 v.time)).cell? ⟨w.heap.size, 3, none⟩ = some (.int .i64 0) := b9.cells.1 3
        have r4 : (((((((((w3.setCell ⟨w.heap.size, 0, none⟩ (.int .i64 4)).setCell ⟨w.heap.size, 1, none⟩ (.int .i64 0)).setCell ⟨w.heap.size, 2, none⟩ (.int .i64 0)).setCell ⟨w.heap.size, 3, none⟩ (.int .i64 0)).setCell ⟨w.heap.size, 4, none⟩ (.slice none 0 0)).setCell ⟨w.heap.size, 5, none⟩ (.int .i64 v.a)).setCell ⟨w.heap.size, 6, none⟩ (.int .i64 v.b)).setCell ⟨w.heap.size, 7, none⟩ (.bool v.same)).setCell ⟨w.heap.size, 8, none⟩ (.int .i64 v.time)).cell? ⟨w.heap.size, 4, none⟩ = some (.slice none 0 0) := b9.cells.1 4
        have r5 : (((((((((w3.setCell ⟨w.heap.size, 0, none⟩ (.int .i64 4)).setCell ⟨w.heap.size, 1, none⟩ (.int .i64 0)).setCell ⟨w.heap.size, 2, none⟩ (.int .i64 0)).setCell ⟨w.heap.size, 3, none⟩ (.int .i64 0)).setCell ⟨w.heap.size, 4, none⟩ (.slice none 0 0)).setCell ⟨w.heap.size, 5, none⟩ (.int .i64 v.a)).setCell ⟨w.heap.size, 6, none⟩ (.int .i64 v.b)).setCell ⟨w.heap.size, 7, none⟩ (.bool v.same)).setCell ⟨w.heap.size, 8, none⟩ (.int .i64 v.time)).cell? ⟨w.heap.size, 5, none⟩ = some (.int .i64 v.a) := b9.cells.1 5
        have r6 : (((((((((w3.setCell ⟨w.heap.size, 0, none⟩ (.int .i64 4)).setCell ⟨w.heap.size, 1, none⟩ (.int .i64 0)).setCell ⟨w.heap.size, 2, none⟩ (.int .i64 0)).setCell ⟨w.heap.size, 3, none⟩ (.int .i64 0)).setCell ⟨w.heap.size, 4, none⟩ (.slice none 0 0)).setCell ⟨w.heap.size, 5, none⟩ (.int .i64 v.a)).setCell ⟨w.heap.size, 6, none⟩ (.int .i64 v.b)).setCell ⟨w.heap.size, 7, none⟩ (.bool v.same)).setCell ⟨w.heap.size, 8, none⟩ (.int .i64 v.time)).cell? ⟨w.heap.size, 6, none⟩ = some (.int .i64 v.b) := b9.cells.1 6
        have r7 : (((((((((w3.setCell ⟨w.heap.size, 0, none⟩ (.int .i64 4)).setCell ⟨w.heap.size, 1, none⟩ (.int .i64 0)).setCell ⟨w.heap.size, 2, none⟩ (.int .i64 0)).setCell ⟨w.heap.size, 3, none⟩ (.int .i64 0)).setCell ⟨w.heap.size, 4, none⟩ (.slice none 0 0)).setCell ⟨w.heap.size, 5, none⟩ (.int .i64 v.a)).setCell ⟨w.heap.size, 6, none⟩ (.int .i64 v.b)).setCell ⟨w.heap.size, 7, none⟩ (.bool v.same)).setCell ⟨w.heap.size, 8, none⟩ (.int .i64 v.time)).cell? ⟨w.heap.size, 7, none⟩ = some (.bool v.same) := b9.cells.1 7
        have r8 : (((((((((w3.setCell ⟨w.heap.size, 0, none⟩ (.int .i64 4)).setCell ⟨w.heap.size, 1, none⟩ (.int .i64 0)).setCell ⟨w.heap.size, 2, none⟩ (.int .i64 0)).setCell ⟨w.heap.size, 3, none⟩ (.int .i64 0)).setCell ⟨w.heap.size, 4, none⟩ (.slice none 0 0)).setCell ⟨w.heap.size, 5, none⟩ (.int .i64 v.a)).setCell ⟨w.heap.size, 6, none⟩ (.int .i64 v.b)).setCell ⟨w.heap.size, 7, none⟩ (.bool v.same)).setCell ⟨w.heap.size, 8, none⟩ (.int .i64 v.time)).cell? ⟨w.heap.size, 8, none⟩ = some (.int .i64 v.time) := b9.cells.1 8
        have k9 : Kept g w (((((((((w3.setCell ⟨w.heap.size, 0, none⟩ (.int .i64 4)).setCell ⟨w.heap.size, 1, none⟩ (.int .i64 0)).setCell ⟨w.heap.size, 2, none⟩ (.int .i64 0)).setCell ⟨w.heap.size, 3, none⟩ (.int .i64 0)).setCell ⟨w.heap.size, 4, none⟩ (.slice none 0 0)).setCell ⟨w.heap.size, 5, none⟩ (.int .i64 v.a)).setCell ⟨w.heap.size, 6, none⟩ (.int .i64 v.b)).setCell ⟨w.heap.size, 7, none⟩ (.bool v.same)).setCell ⟨w.heap.size, 8, none⟩ (.int .i64 v.time)) := (((((((((hk03.setN (Nat.le_refl _) _).setN (Nat.le_refl _) _).setN (Nat.le_refl _) _).setN (Nat.le_refl _) _).setN (Nat.le_refl _) _).setN (Nat.le_refl _) _).setN (Nat.le_refl _) _).setN (Nat.le_refl _) _).setN (Nat.le_refl _) _)
        have c9 : Cur w0 (((((((((w3.setCell ⟨w.heap.size, 0, none⟩ (.int .i64 4)).setCell ⟨w.heap.size, 1, none⟩ (.int .i64 0)).setCell ⟨w.heap.size, 2, none⟩ (.int .i64 0)).setCell ⟨w.heap.size, 3, none⟩ (.int .i64 0)).setCell ⟨w.heap.size, 4, none⟩ (.slice none 0 0)).setCell ⟨w.heap.size, 5, none⟩ (.int .i64 v.a)).setCell ⟨w.heap.size, 6, none⟩ (.int .i64 v.b)).setCell ⟨w.heap.size, 7, none⟩ (.bool v.same)).setCell ⟨w.heap.size, 8, none⟩ (.int .i64 v.time)) g := (((((((((hc3.setN hg _).setN hg _).setN hg _).setN hg _).setN hg _).setN hg _).setN hg _).setN hg _).setN hg _)
        refine bodyPost_ret (v := .agg #[.int .i64 4, .int .i64 0, .int .i64 0, .int .i64 0, .slice none 0 0, .int .i64 v.a, .int .i64 v.b, .bool v.same, .int .i64 v.time]) (by simp [results, Tryz.results121, go_sem, r0, r1, r2, r3, r4, r5, r6, r7, r8]) rfl ?_
        exact ⟨_, ⟨4, ⟨0, 0, 0, []⟩, v⟩, [], rfl, ⟨_, rfl, okOpV ⟨by decide, by decide⟩ vok, .inl ⟨rfl, rfl, none, 0, rfl, Nat.zero_le _⟩⟩, .nil _, c9, k9, putNo (by show ¬ (4 : Int) = 1; decide)⟩
      · skip
        go_wp2_with fail
        refine (spec_l8Record w0 _ g hc2).mono ?_
        rintro e w3 ⟨b, r, rfl, rok, ro, rl, rb, hc3, hk3⟩
        have hgL := hc3.base.2.2
        have hk03 := hk02.trans hk3
        have hwL := hk03.1
        have sRL := block_lt (bR2.kept (Nat.ne_of_gt hg) hk3)
        have hw2 := hk02.1
        have sR2 := block_lt bR2
        have lb := ro.lt b (List.mem_singleton.2 rfl)
        have bL : Blk (w3.alloc (.cells #[.int .i64 r.source, .int .i64 r.key, .int .i64 r.version, .slice (some ⟨b, 0, none⟩) 4 4] 72)) w3.heap.size 72 [.int .i64 r.source, .int .i64 r.key, .int .i64 r.version, .slice (some ⟨b, 0, none⟩) 4 4] := Blk.new w3 72 #[.int .i64 r.source, .int .i64 r.key, .int .i64 r.version, .slice (some ⟨b, 0, none⟩) 4 4]
        have bR := (bR2.kept (Nat.ne_of_gt hg) hk3).ext ((Ext.refl w3).alloc (.cells #[.int .i64 r.source, .int .i64 r.key, .int .i64 r.version, .slice (some ⟨b, 0, none⟩) 4 4] 72))
        have o3 := ro.ext ((Ext.refl w3).alloc (.cells #[.int .i64 r.source, .int .i64 r.key, .int .i64 r.version, .slice (some ⟨b, 0, none⟩) 4 4] 72))
        have hc3a := hc3.ext ((Ext.refl w3).alloc (.cells #[.int .i64 r.source, .int .i64 r.key, .int .i64 r.version, .slice (some ⟨b, 0, none⟩) 4 4] 72))
        have hk3a := hk03.alloc (.cells #[.int .i64 r.source, .int .i64 r.key, .int .i64 r.version, .slice (some ⟨b, 0, none⟩) 4 4] 72)
        clear hc2 hk2 hk02 bR2 hk3 hk03 hc3 ro
        go_wp2_with fail
        refine (spec_l1Below w0 _ g 3 (by decide) hc3a).mono ?_
        rintro e w4 ⟨x1, rfl, hx1, hc4, hk4⟩
        have bL4 := bL.kept (by omega) hk4
        have bR4 := bR.kept (by omega) hk4
        have o4 := o3.kept (fun hm => by rw [List.mem_singleton] at hm; omega) hk4
        have k4 := hk3a.trans hk4
        obtain ⟨cL, fL⟩ := bL4.cells
        have bL5 : Blk (w4.setCell ⟨w3.heap.size, 0, none⟩ (.int .i64 x1)) w3.heap.size 72 [.int .i64 x1, .int .i64 r.key, .int .i64 r.version, .slice (some ⟨b, 0, none⟩) 4 4] := bL4.setAt 0 (by show 0 < 4; decide) (.int .i64 x1)
        have bR5 : Blk (w4.setCell ⟨w3.heap.size, 0, none⟩ (.int .i64 x1)) w.heap.size 76 [.int .i64 0, .int .i64 0, .int .i64 0, .int .i64 0, .slice none 0 0, .int .i64 0, .int .i64 0, .bool false, .int .i64 0] := bR4.other (by omega)
        have o5 : OwnSl strO (w4.setCell ⟨w3.heap.size, 0, none⟩ (.int .i64 x1)) (.slice (some ⟨b, 0, none⟩) 4 4) r.fields [b] := o4.setCell (fun hm => by rw [List.mem_singleton] at hm; simp only at hm; omega) _
        have k5 : Kept g w (w4.setCell ⟨w3.heap.size, 0, none⟩ (.int .i64 x1)) := k4.setN (by show w.heap.size ≤ w3.heap.size; omega) _
        have c5 : Cur w0 (w4.setCell ⟨w3.heap.size, 0, none⟩ (.int .i64 x1)) g := hc4.setN (by show g < w3.heap.size; omega) _
        clear bL bR o3 hc3a hk3a bL4 bR4 o4 k4 hc4 hk4
        go_wp2_with fail
        clear cL fL
        refine (spec_l1Below w0 _ g 2 (by decide) c5).mono ?_
        rintro e w5 ⟨x2, rfl, hx2, hc6, hk6⟩
        have bL6 := bL5.kept (by omega) hk6
        have bR6 := bR5.kept (by omega) hk6
        have o6 := o5.kept (fun hm => by rw [List.mem_singleton] at hm; omega) hk6
        have k6 := k5.trans hk6
        obtain ⟨cL, fL⟩ := bL6.cells
        have bL7 : Blk (w5.setCell ⟨w3.heap.size, 1, none⟩ (.int .i64 (1 + x2))) w3.heap.size 72 [.int .i64 x1, .int .i64 (1 + x2), .int .i64 r.version, .slice (some ⟨b, 0, none⟩) 4 4] := bL6.setAt 1 (by show 1 < 4; decide) (.int .i64 (1 + x2))
        have bR7 : Blk (w5.setCell ⟨w3.heap.size, 1, none⟩ (.int .i64 (1 + x2))) w.heap.size 76 [.int .i64 0, .int .i64 0, .int .i64 0, .int .i64 0, .slice none 0 0, .int .i64 0, .int .i64 0, .bool false, .int .i64 0] := bR6.other (by omega)
        have o7 : OwnSl strO (w5.setCell ⟨w3.heap.size, 1, none⟩ (.int .i64 (1 + x2))) (.slice (some ⟨b, 0, none⟩) 4 4) r.fields [b] := o6.setCell (fun hm => by rw [List.mem_singleton] at hm; simp only at hm; omega) _
        have k7 : Kept g w (w5.setCell ⟨w3.heap.size, 1, none⟩ (.int .i64 (1 + x2))) := k6.setN (by show w.heap.size ≤ w3.heap.size; omega) _
        have c7 : Cur w0 (w5.setCell ⟨w3.heap.size, 1, none⟩ (.int .i64 (1 + x2))) g := hc6.setN (by show g < w3.heap.size; omega) _
        have HI := hid (show Op.ok ⟨1, ⟨x1, 1 + x2, r.version, r.fields⟩, ⟨0, 0, false, 0⟩⟩ from okOpR ⟨by decide, by decide⟩ ⟨by omega, by omega⟩ ⟨by omega, by omega⟩ rok.2.2)
        clear bL5 bR5 o5 k5 c5 bL6 bR6 o6 k6 hc6 hk6
        obtain ⟨⟨l0, l1, l2, l3⟩, _⟩ := bL7.c4
        have nR : w.heap.size ∉ [b] := fun hm => by rw [List.mem_singleton] at hm; omega
        obtain ⟨cR, fR⟩ := bR7.cells
        go_wp2
        have b9 : Blk ((((((((((w5.setCell ⟨w3.heap.size, 1, none⟩ (.int .i64 (1 + x2))).setCell ⟨w.heap.size, 0, none⟩ (.int .i64 1)).setCell ⟨w.heap.size, 1, none⟩ (.int .i64 x1)).setCell ⟨w.heap.size, 2, none⟩ (.int .i64 (1 + x2))).setCell ⟨w.heap.size, 3, none⟩ (.int .i64 r.version)).setCell ⟨w.heap.size, 4, none⟩ (.slice (some ⟨b, 0, none⟩) 4 4)).setCell ⟨w.heap.size, 5, none⟩ (.int .i64 0)).setCell ⟨w.heap.size, 6, none⟩ (.int .i64 0)).setCell ⟨w.heap.size, 7, none⟩ (.bool false)).setCell ⟨w.heap.size, 8, none⟩ (.int .i64 0)) w.heap.size 76 [.int .i64 1, .int .i64 x1, .int .i64 (1 + x2), .int .i64 r.version, .slice (some ⟨b, 0, none⟩) 4 4, .int .i64 0, .int .i64 0, .bool false, .int .i64 0] := (((((((((bR7.setAt 0 (by show 0 < 9; decide) (.int .i64 1)).setAt 1 (by show 1 < 9; decide) (.int .i64 x1)).setAt 2 (by show 2 < 9; decide) (.int .i64 (1 + x2))).setAt 3 (by show 3 < 9; decide) (.int .i64 r.version)).setAt 4 (by show 4 < 9; decide) (.slice (some ⟨b, 0, none⟩) 4 4)).setAt 5 (by show 5 < 9; decide) (.int .i64 0)).setAt 6 (by show 6 < 9; decide) (.int .i64 0)).setAt 7 (by show 7 < 9; decide) (.bool false)).setAt 8 (by show 8 < 9; decide) (.int .i64 0))
        have r0 : ((((((((((w5.setCell ⟨w3.heap.size, 1, none⟩ (.int .i64 (1 + x2))).setCell ⟨w.heap.size, 0, none⟩ (.int .i64 1)).setCell ⟨w.heap.size, 1, none⟩ (.int .i64 x1)).setCell ⟨w.heap.size, 2, none⟩ (.int .i64 (1 + x2))).setCell ⟨w.heap.size, 3, none⟩ (.int .i64 r.version)).setCell ⟨w.heap.size, 4, none⟩ (.slice (some ⟨b, 0, none⟩) 4 4)).setCell ⟨w.heap.size, 5, none⟩ (.int .i64 0)).setCell ⟨w.heap.size, 6, none⟩ (.int .i64 0)).setCell ⟨w.heap.size, 7, none⟩ (.bool false)).setCell ⟨w.heap.size, 8, none⟩ (.int .i64 0)).cell? ⟨w.heap.size, 0, none⟩ = some (.int .i64 1) := b9.cells.1 0
        have r1 : ((((((((((w5.setCell ⟨w3.heap.size, 1, none⟩ (.int .i64 (1 + x2))).setCell ⟨w.heap.size, 0, none⟩ (.int .i64 1)).setCell ⟨w.heap.size, 1, none⟩ (.int .i64 x1)).setCell ⟨w.heap.size, 2, none⟩ (.int .i64 (1 + x2))).setCell ⟨w.heap.size, 3, none⟩ (.int .i64 r.version)).setCell ⟨w.heap.size, 4, none⟩ (.slice (some ⟨b, 0, none⟩) 4 4)).setCell ⟨w.heap.size, 5, none⟩ (.int .i64 0)).setCell ⟨w.heap.size, 6, none⟩ (.int .i64 0)).setCell ⟨w.heap.size, 7, none⟩ (.bool false)).setCell ⟨w.heap.size, 8, none⟩ (.int .i64 0)).cell? ⟨w.heap.size, 1, none⟩ = some (.int .i64 x1) := b9.cells.1 1
        have r2 : ((((((((((w5.setCell ⟨w3.heap.size, 1, none⟩ (.int .i64 (1 + x2))).setCell ⟨w.heap.size, 0, none⟩ (.int .i64 1)).setCell ⟨w.heap.size, 1, none⟩ (.int .i64 x1)).setCell ⟨w.heap.size, 2, none⟩ (.int .i64 (1 + x2))).setCell ⟨w.heap.size, 3, none⟩ (.int .i64 r.version)).setCell ⟨w.heap.size, 4, none⟩ (.slice (some ⟨b, 0, none⟩) 4 4)).setCell ⟨w.heap.size, 5, none⟩ (.int .i64 0)).setCell ⟨w.heap.size, 6, none⟩ (.int .i64 0)).setCell ⟨w.heap.size, 7, none⟩ (.bool false)).setCell ⟨w.heap.size, 8, none⟩ (.int .i64 0)).cell? ⟨w.heap.size, 2, none⟩ = some (.int .i64 (1 + x2)) := b9.cells.1 2
        have r3 : ((((((((((w5.setCell ⟨w3.heap.size, 1, none⟩ (.int .i64 (1 + x2))).setCell ⟨w.heap.size, 0, none⟩ (.int .i64 1)).setCell ⟨w.heap.size, 1, none⟩ (.int .i64 x1)).setCell ⟨w.heap.size, 2, none⟩ (.int .i64 (1 + x2))).setCell ⟨w.heap.size, 3, none⟩ (.int .i64 r.version)).setCell ⟨w.heap.size, 4, none⟩ (.slice (some ⟨b, 0, none⟩) 4 4)).setCell ⟨w.heap.size, 5, none⟩ (.int .i64 0)).setCell ⟨w.heap.size, 6, none⟩ (.int .i64 0)).setCell ⟨w.heap.size, 7, none⟩ (.bool false)).setCell ⟨w.heap.size, 8, none⟩ (.int .i64 0)).cell? ⟨w.heap.size, 3, none⟩ = some (.int .i64 r.version) := b9.cells.1 3
        have r4 : ((((((((((w5.setCell ⟨w3.heap.size, 1, none⟩ (.int .i64 (1 + x2))).setCell ⟨w.heap.size, 0, none⟩ (.int .i64 1)).setCell ⟨w.heap.size, 1, none⟩ (.int .i64 x1)).setCell ⟨w.heap.size, 2, none⟩ (.int .i64 (1 + x2))).setCell ⟨w.heap.size, 3, none⟩ (.int .i64 r.version)).setCell ⟨w.heap.size, 4, none⟩ (.slice (some ⟨b, 0, none⟩) 4 4)).setCell ⟨w.heap.size, 5, none⟩ (.int .i64 0)).setCell ⟨w.heap.size, 6, none⟩ (.int .i64 0)).setCell ⟨w.heap.size, 7, none⟩ (.bool false)).setCell ⟨w.heap.size, 8, none⟩ (.int .i64 0)).cell? ⟨w.heap.size, 4, none⟩ = some (.slice (some ⟨b, 0, none⟩) 4 4) := b9.cells.1 4
        have r5 : ((((((((((w5.setCell ⟨w3.heap.size, 1, none⟩ (.int .i64 (1 + x2))).setCell ⟨w.heap.size, 0, none⟩ (.int .i64 1)).setCell ⟨w.heap.size, 1, none⟩ (.int .i64 x1)).setCell ⟨w.heap.size, 2, none⟩ (.int .i64 (1 + x2))).setCell ⟨w.heap.size, 3, none⟩ (.int .i64 r.version)).setCell ⟨w.heap.size, 4, none⟩ (.slice (some ⟨b, 0, none⟩) 4 4)).setCell ⟨w.heap.size, 5, none⟩ (.int .i64 0)).setCell ⟨w.heap.size, 6, none⟩ (.int .i64 0)).setCell ⟨w.heap.size, 7, none⟩ (.bool false)).setCell ⟨w.heap.size, 8, none⟩ (.int .i64 0)).cell? ⟨w.heap.size, 5, none⟩ = some (.int .i64 0) := b9.cells.1 5
        have r6 : ((((((((((w5.setCell ⟨w3.heap.size, 1, none⟩ (.int .i64 (1 + x2))).setCell ⟨w.heap.size, 0, none⟩ (.int .i64 1)).setCell ⟨w.heap.size, 1, none⟩ (.int .i64 x1)).setCell ⟨w.heap.size, 2, none⟩ (.int .i64 (1 + x2))).setCell ⟨w.heap.size, 3, none⟩ (.int .i64 r.version)).setCell ⟨w.heap.size, 4, none⟩ (.slice (some ⟨b, 0, none⟩) 4 4)).setCell ⟨w.heap.size, 5, none⟩ (.int .i64 0)).setCell ⟨w.heap.size, 6, none⟩ (.int .i64 0)).setCell ⟨w.heap.size, 7, none⟩ (.bool false)).setCell ⟨w.heap.size, 8, none⟩ (.int .i64 0)).cell? ⟨w.heap.size, 6, none⟩ = some (.int .i64 0) := b9.cells.1 6
        have r7 : ((((((((((w5.setCell ⟨w3.heap.size, 1, none⟩ (.int .i64 (1 + x2))).setCell ⟨w.heap.size, 0, none⟩ (.int .i64 1)).setCell ⟨w.heap.size, 1, none⟩ (.int .i64 x1)).setCell ⟨w.heap.size, 2, none⟩ (.int .i64 (1 + x2))).setCell ⟨w.heap.size, 3, none⟩ (.int .i64 r.version)).setCell ⟨w.heap.size, 4, none⟩ (.slice (some ⟨b, 0, none⟩) 4 4)).setCell ⟨w.heap.size, 5, none⟩ (.int .i64 0)).setCell ⟨w.heap.size, 6, none⟩ (.int .i64 0)).setCell ⟨w.heap.size, 7, none⟩ (.bool false)).setCell ⟨w.heap.size, 8, none⟩ (.int .i64 0)).cell? ⟨w.heap.size, 7, none⟩ = some (.bool false) := b9.cells.1 7
        have r8 : ((((((((((w5.setCell ⟨w3.heap.size, 1, none⟩ (.int .i64 (1 + x2))).setCell ⟨w.heap.size, 0, none⟩ (.int .i64 1)).setCell ⟨w.heap.size, 1, none⟩ (.int .i64 x1)).setCell ⟨w.heap.size, 2, none⟩ (.int .i64 (1 + x2))).setCell ⟨w.heap.size, 3, none⟩ (.int .i64 r.version)).setCell ⟨w.heap.size, 4, none⟩ (.slice (some ⟨b, 0, none⟩) 4 4)).setCell ⟨w.heap.size, 5, none⟩ (.int .i64 0)).setCell ⟨w.heap.size, 6, none⟩ (.int .i64 0)).setCell ⟨w.heap.size, 7, none⟩ (.bool false)).setCell ⟨w.heap.size, 8, none⟩ (.int .i64 0)).cell? ⟨w.heap.size, 8, none⟩ = some (.int .i64 0) := b9.cells.1 8
        have k9 : Kept g w ((((((((((w5.setCell ⟨w3.heap.size, 1, none⟩ (.int .i64 (1 + x2))).setCell ⟨w.heap.size, 0, none⟩ (.int .i64 1)).setCell ⟨w.heap.size, 1, none⟩ (.int .i64 x1)).setCell ⟨w.heap.size, 2, none⟩ (.int .i64 (1 + x2))).setCell ⟨w.heap.size, 3, none⟩ (.int .i64 r.version)).setCell ⟨w.heap.size, 4, none⟩ (.slice (some ⟨b, 0, none⟩) 4 4)).setCell ⟨w.heap.size, 5, none⟩ (.int .i64 0)).setCell ⟨w.heap.size, 6, none⟩ (.int .i64 0)).setCell ⟨w.heap.size, 7, none⟩ (.bool false)).setCell ⟨w.heap.size, 8, none⟩ (.int .i64 0)) := (((((((((k7.setN (Nat.le_refl _) _).setN (Nat.le_refl _) _).setN (Nat.le_refl _) _).setN (Nat.le_refl _) _).setN (Nat.le_refl _) _).setN (Nat.le_refl _) _).setN (Nat.le_refl _) _).setN (Nat.le_refl _) _).setN (Nat.le_refl _) _)
        have c9 : Cur w0 ((((((((((w5.setCell ⟨w3.heap.size, 1, none⟩ (.int .i64 (1 + x2))).setCell ⟨w.heap.size, 0, none⟩ (.int .i64 1)).setCell ⟨w.heap.size, 1, none⟩ (.int .i64 x1)).setCell ⟨w.heap.size, 2, none⟩ (.int .i64 (1 + x2))).setCell ⟨w.heap.size, 3, none⟩ (.int .i64 r.version)).setCell ⟨w.heap.size, 4, none⟩ (.slice (some ⟨b, 0, none⟩) 4 4)).setCell ⟨w.heap.size, 5, none⟩ (.int .i64 0)).setCell ⟨w.heap.size, 6, none⟩ (.int .i64 0)).setCell ⟨w.heap.size, 7, none⟩ (.bool false)).setCell ⟨w.heap.size, 8, none⟩ (.int .i64 0)) g := (((((((((c7.setN hg _).setN hg _).setN hg _).setN hg _).setN hg _).setN hg _).setN hg _).setN hg _).setN hg _)
        have o9 := (((((((((o7.setCell (p := ⟨w.heap.size, 0, none⟩) nR (.int .i64 1)).setCell (p := ⟨w.heap.size, 1, none⟩) nR (.int .i64 x1)).setCell (p := ⟨w.heap.size, 2, none⟩) nR (.int .i64 (1 + x2))).setCell (p := ⟨w.heap.size, 3, none⟩) nR (.int .i64 r.version)).setCell (p := ⟨w.heap.size, 4, none⟩) nR (.slice (some ⟨b, 0, none⟩) 4 4)).setCell (p := ⟨w.heap.size, 5, none⟩) nR (.int .i64 0)).setCell (p := ⟨w.heap.size, 6, none⟩) nR (.int .i64 0)).setCell (p := ⟨w.heap.size, 7, none⟩) nR (.bool false)).setCell (p := ⟨w.heap.size, 8, none⟩) nR (.int .i64 0))
        refine bodyPost_ret (v := .agg #[.int .i64 1, .int .i64 x1, .int .i64 (1 + x2), .int .i64 r.version, .slice (some ⟨b, 0, none⟩) 4 4, .int .i64 0, .int .i64 0, .bool false, .int .i64 0]) (by simp [results, Tryz.results121, go_sem, r0, r1, r2, r3, r4, r5, r6, r7, r8]) rfl ?_
        exact ⟨_, ⟨1, ⟨x1, 1 + x2, r.version, r.fields⟩, ⟨0, 0, false, 0⟩⟩, [b], rfl, ⟨_, rfl, HI.out, by show OwnSl strO _ _ r.fields [b]; exact o9⟩, ⟨by simp, fun q hq => by rw [List.mem_singleton] at hq; omega⟩, c9, k9, fun _ => rl⟩

end Go.Proofs.YtfcbapaojoecgaaGreat

namespace Go.Proofs.YtfcbapaojoecgaaGreat
open Go.RowKit

set_option maxHeartbeats 2000000 in
set_option maxRecDepth 20000 in
theorem spec_l29Any (w0 w : World) (g : Nat) (hc : Cur w0 w g) :
    Calls Tryz.prog 120 #[.pointer (some ⟨g, 0, none⟩)] w (OpAny w0 w g fun _ => True) := by
  have hg := hc.base.2.2
  have hc0 := hc.ext ((Ext.refl w).alloc (.cells #[.int .i64 0, .int .i64 0, .int .i64 0, .int .i64 0, .slice none 0 0, .int .i64 0, .int .i64 0, .bool false, .int .i64 0] 76))
  have k0 := Ext.kept (g := g) ((Ext.refl w).alloc (.cells #[.int .i64 0, .int .i64 0, .int .i64 0, .int .i64 0, .slice none 0 0, .int .i64 0, .int .i64 0, .bool false, .int .i64 0] 76))
  have b0 : Blk (w.alloc (.cells #[.int .i64 0, .int .i64 0, .int .i64 0, .int .i64 0, .slice none 0 0, .int .i64 0, .int .i64 0, .bool false, .int .i64 0] 76)) w.heap.size 76 [.int .i64 0, .int .i64 0, .int .i64 0, .int .i64 0, .slice none 0 0, .int .i64 0, .int .i64 0, .bool false, .int .i64 0] := Blk.new w 76 #[.int .i64 0, .int .i64 0, .int .i64 0, .int .i64 0, .slice none 0 0, .int .i64 0, .int .i64 0, .bool false, .int .i64 0]
  go_enter Tryz.func120, Tryz.ntmps120
  go_wp2_with fail
  refine (spec_l29Op w0 _ g hc0).mono ?_
  rintro e w2 ⟨v1, o, F, rfl, ⟨f1, rfl, ok1, o1⟩, n1, hc2, hk2, _⟩
  obtain ⟨A1, c1, e1, _⟩ := o1.form
  subst e1
  have hgL := hc2.base.2.2
  have hk02 := k0.trans hk2
  have hwL := hk02.1
  have bR2 := b0.kept (Nat.ne_of_gt hg) hk2
  have sR2 := block_lt bR2
  have hnRL : ¬ w.heap.size = w2.heap.size := by omega
  have l1 := o1.lt
  have hLF : w2.heap.size ∉ F := fun hm => by have := l1 _ hm; omega
  have hRF : w.heap.size ∉ F := fun hm => by have := n1.2 _ hm; rw [World.size_alloc] at this; omega
  have hgF : g ∉ F := fun hm => by have := n1.2 _ hm; rw [World.size_alloc] at this; omega
  have bL2 : Blk (w2.alloc (.cells #[.int .i64 o.kind, .int .i64 o.record.source, .int .i64 o.record.key, .int .i64 o.record.version, .slice A1 o.record.fields.length c1, .int .i64 o.verdict.a, .int .i64 o.verdict.b, .bool o.verdict.same, .int .i64 o.verdict.time] 76)) w2.heap.size 76 [.int .i64 o.kind, .int .i64 o.record.source, .int .i64 o.record.key, .int .i64 o.record.version, .slice A1 o.record.fields.length c1, .int .i64 o.verdict.a, .int .i64 o.verdict.b, .bool o.verdict.same, .int .i64 o.verdict.time] := Blk.new w2 76 #[.int .i64 o.kind, .int .i64 o.record.source, .int .i64 o.record.key, .int .i64 o.record.version, .slice A1 o.record.fields.length c1, .int .i64 o.verdict.a, .int .i64 o.verdict.b, .bool o.verdict.same, .int .i64 o.verdict.time]
  have bR2b := bR2.ext ((Ext.refl w2).alloc (.cells #[.int .i64 o.kind, .int .i64 o.record.source, .int .i64 o.record.key, .int .i64 o.record.version, .slice A1 o.record.fields.length c1, .int .i64 o.verdict.a, .int .i64 o.verdict.b, .bool o.verdict.same, .int .i64 o.verdict.time] 76))
  have o2 := o1.ext ((Ext.refl w2).alloc (.cells #[.int .i64 o.kind, .int .i64 o.record.source, .int .i64 o.record.key, .int .i64 o.record.version, .slice A1 o.record.fields.length c1, .int .i64 o.verdict.a, .int .i64 o.verdict.b, .bool o.verdict.same, .int .i64 o.verdict.time] 76))
  have hc2a := hc2.ext ((Ext.refl w2).alloc (.cells #[.int .i64 o.kind, .int .i64 o.record.source, .int .i64 o.record.key, .int .i64 o.record.version, .slice A1 o.record.fields.length c1, .int .i64 o.verdict.a, .int .i64 o.verdict.b, .bool o.verdict.same, .int .i64 o.verdict.time] 76))
  have hk2a := hk02.alloc (.cells #[.int .i64 o.kind, .int .i64 o.record.source, .int .i64 o.record.key, .int .i64 o.record.version, .slice A1 o.record.fields.length c1, .int .i64 o.verdict.a, .int .i64 o.verdict.b, .bool o.verdict.same, .int .i64 o.verdict.time] 76)
  clear hc hc0 k0 b0 hc2 hk2 hk02 bR2 o1
  go_wp2_with fail
  refine (spec_l1Below w0 _ g 14 (by decide) hc2a).mono ?_
  rintro e w3 ⟨x, rfl, hx, hc3, hk3⟩
  have hg3 := hc3.base.2.2
  have bL3 := bL2.kept (Nat.ne_of_gt hgL) hk3
  have bR3 := bR2b.kept (Nat.ne_of_gt hg) hk3
  have o3 := o2.kept hgF hk3
  have hk03 := hk2a.trans hk3
  have hw3 := hk3.1
  rw [World.size_alloc] at hw3
  clear bL2 bR2b hc2a hk2a hk3 o2
  by_cases h0 : x = 0
  · subst h0
    go_wp2_with fail
    refine (spec_l1Below w0 _ g 6 (by decide) hc3).mono ?_
    rintro e w4 ⟨y, rfl, hy, hc4, hk4⟩
    have hg4 := hc4.base.2.2
    have bL4 := bL3.kept (Nat.ne_of_gt hgL) hk4
    have bR4 := bR3.kept (Nat.ne_of_gt hg) hk4
    have hk04 := hk03.trans hk4
    have o4 := o3.kept hgF hk4
    clear bL3 bR3 o3 hc3 hk03 hk4
    have bL9 : Blk (w4.setCell ⟨w2.heap.size, 0, none⟩ (.int .i64 y)) w2.heap.size 76 [.int .i64 y, .int .i64 o.record.source, .int .i64 o.record.key, .int .i64 o.record.version, .slice A1 o.record.fields.length c1, .int .i64 o.verdict.a, .int .i64 o.verdict.b, .bool o.verdict.same, .int .i64 o.verdict.time] := (bL4.setAt 0 (by show 0 < 9; decide) (.int .i64 y))
    have bR9 : Blk (w4.setCell ⟨w2.heap.size, 0, none⟩ (.int .i64 y)) w.heap.size 76 [.int .i64 0, .int .i64 0, .int .i64 0, .int .i64 0, .slice none 0 0, .int .i64 0, .int .i64 0, .bool false, .int .i64 0] := (bR4.other (i := 0) (u := .int .i64 y) hnRL)
    have kL9 : Kept g w (w4.setCell ⟨w2.heap.size, 0, none⟩ (.int .i64 y)) := (hk04.setN (by show w.heap.size ≤ w2.heap.size; omega) _)
    have cL9 : Cur w0 (w4.setCell ⟨w2.heap.size, 0, none⟩ (.int .i64 y)) g := (hc4.setN (by show g < w2.heap.size; omega) _)
    have oL9 := (o4.setCell (p := ⟨w2.heap.size, 0, none⟩) hLF (.int .i64 y))
    have HI := hid (show Op.ok ⟨y, o.record, o.verdict⟩ from ⟨⟨by show -9223372036854775808 ≤ y; omega, by show y ≤ 9223372036854775807; omega⟩, ok1.2⟩)
    have HN := hid (show NewF w F from ⟨n1.1, fun q hq => by have := n1.2 q hq; rw [World.size_alloc] at this; omega⟩)
    obtain ⟨cL0, fL0⟩ := bL4.cells
    obtain ⟨cL, fL⟩ := bL9.cells
    obtain ⟨cR, fR⟩ := bR9.cells
    go_wp2
    have b9 : Blk ((((((((((w4.setCell ⟨w2.heap.size, 0, none⟩ (.int .i64 y)).setCell ⟨w.heap.size, 0, none⟩ (.int .i64 y)).setCell ⟨w.heap.size, 1, none⟩ (.int .i64 o.record.source)).setCell ⟨w.heap.size, 2, none⟩ (.int .i64 o.record.key)).setCell ⟨w.heap.size, 3, none⟩ (.int .i64 o.record.version)).setCell ⟨w.heap.size, 4, none⟩ (.slice A1 o.record.fields.length c1)).setCell ⟨w.heap.size, 5, none⟩ (.int .i64 o.verdict.a)).setCell ⟨w.heap.size, 6, none⟩ (.int .i64 o.verdict.b)).setCell ⟨w.heap.size, 7, none⟩ (.bool o.verdict.same)).setCell ⟨w.heap.size, 8, none⟩ (.int .i64 o.verdict.time)) w.heap.size 76 [.int .i64 y, .int .i64 o.record.source, .int .i64 o.record.key, .int .i64 o.record.version, .slice A1 o.record.fields.length c1, .int .i64 o.verdict.a, .int .i64 o.verdict.b, .bool o.verdict.same, .int .i64 o.verdict.time] := (((((((((bR9.setAt 0 (by show 0 < 9; decide) (.int .i64 y)).setAt 1 (by show 1 < 9; decide) (.int .i64 o.record.source)).setAt 2 (by show 2 < 9; decide) (.int .i64 o.record.key)).setAt 3 (by show 3 < 9; decide) (.int .i64 o.record.version)).setAt 4 (by show 4 < 9; decide) (.slice A1 o.record.fields.length c1)).setAt 5 (by show 5 < 9; decide) (.int .i64 o.verdict.a)).setAt 6 (by show 6 < 9; decide) (.int .i64 o.verdict.b)).setAt 7 (by show 7 < 9; decide) (.bool o.verdict.same)).setAt 8 (by show 8 < 9; decide) (.int .i64 o.verdict.time))
    have r0 : ((((((((((w4.setCell ⟨w2.heap.size, 0, none⟩ (.int .i64 y)).setCell ⟨w.heap.size, 0, none⟩ (.int .i64 y)).setCell ⟨w.heap.size, 1, none⟩ (.int .i64 o.record.source)).setCell ⟨w.heap.size, 2, none⟩ (.int .i64 o.record.key)).setCell ⟨w.heap.size, 3, none⟩ (.int .i64 o.record.version)).setCell ⟨w.heap.size, 4, none⟩ (.slice A1 o.record.fields.length c1)).setCell ⟨w.heap.size, 5, none⟩ (.int .i64 o.verdict.a)).setCell ⟨w.heap.size, 6, none⟩ (.int .i64 o.verdict.b)).setCell ⟨w.heap.size, 7, none⟩ (.bool o.verdict.same)).setCell ⟨w.heap.size, 8, none⟩ (.int .i64 o.verdict.time)).cell? ⟨w.heap.size, 0, none⟩ = some (.int .i64 y) := b9.cells.1 0
    have r1 : ((((((((((w4.setCell ⟨w2.heap.size, 0, none⟩ (.int .i64 y)).setCell ⟨w.heap.size, 0, none⟩ (.int .i64 y)).setCell ⟨w.heap.size, 1, none⟩ (.int .i64 o.record.source)).setCell ⟨w.heap.size, 2, none⟩ (.int .i64 o.record.key)).setCell ⟨w.heap.size, 3, none⟩ (.int .i64 o.record.version)).setCell ⟨w.heap.size, 4, none⟩ (.slice A1 o.record.fields.length c1)).setCell ⟨w.heap.size, 5, none⟩ (.int .i64 o.verdict.a)).setCell ⟨w.heap.size, 6, none⟩ (.int .i64 o.verdict.b)).setCell ⟨w.heap.size, 7, none⟩ (.bool o.verdict.same)).setCell ⟨w.heap.size, 8, none⟩ (.int .i64 o.verdict.time)).cell? ⟨w.heap.size, 1, none⟩ = some (.int .i64 o.record.source) := b9.cells.1 1
    have r2 : ((((((((((w4.setCell ⟨w2.heap.size, 0, none⟩ (.int .i64 y)).setCell ⟨w.heap.size, 0, none⟩ (.int .i64 y)).setCell ⟨w.heap.size, 1, none⟩ (.int .i64 o.record.source)).setCell ⟨w.heap.size, 2, none⟩ (.int .i64 o.record.key)).setCell ⟨w.heap.size, 3, none⟩ (.int .i64 o.record.version)).setCell ⟨w.heap.size, 4, none⟩ (.slice A1 o.record.fields.length c1)).setCell ⟨w.heap.size, 5, none⟩ (.int .i64 o.verdict.a)).setCell ⟨w.heap.size, 6, none⟩ (.int .i64 o.verdict.b)).setCell ⟨w.heap.size, 7, none⟩ (.bool o.verdict.same)).setCell ⟨w.heap.size, 8, none⟩ (.int .i64 o.verdict.time)).cell? ⟨w.heap.size, 2, none⟩ = some (.int .i64 o.record.key) := b9.cells.1 2
    have r3 : ((((((((((w4.setCell ⟨w2.heap.size, 0, none⟩ (.int .i64 y)).setCell ⟨w.heap.size, 0, none⟩ (.int .i64 y)).setCell ⟨w.heap.size, 1, none⟩ (.int .i64 o.record.source)).setCell ⟨w.heap.size, 2, none⟩ (.int .i64 o.record.key)).setCell ⟨w.heap.size, 3, none⟩ (.int .i64 o.record.version)).setCell ⟨w.heap.size, 4, none⟩ (.slice A1 o.record.fields.length c1)).setCell ⟨w.heap.size, 5, none⟩ (.int .i64 o.verdict.a)).setCell ⟨w.heap.size, 6, none⟩ (.int .i64 o.verdict.b)).setCell ⟨w.heap.size, 7, none⟩ (.bool o.verdict.same)).setCell ⟨w.heap.size, 8, none⟩ (.int .i64 o.verdict.time)).cell? ⟨w.heap.size, 3, none⟩ = some (.int .i64 o.record.version) := b9.cells.1 3
    have r4 : ((((((((((w4.setCell ⟨w2.heap.size, 0, none⟩ (.int .i64 y)).setCell ⟨w.heap.size, 0, none⟩ (.int .i64 y)).setCell ⟨w.heap.size, 1, none⟩ (.int .i64 o.record.source)).setCell ⟨w.heap.size, 2, none⟩ (.int .i64 o.record.key)).setCell ⟨w.heap.size, 3, none⟩ (.int .i64 o.record.version)).setCell ⟨w.heap.size, 4, none⟩ (.slice A1 o.record.fields.length c1)).setCell ⟨w.heap.size, 5, none⟩ (.int .i64 o.verdict.a)).setCell ⟨w.heap.size, 6, none⟩ (.int .i64 o.verdict.b)).setCell ⟨w.heap.size, 7, none⟩ (.bool o.verdict.same)).setCell ⟨w.heap.size, 8, none⟩ (.int .i64 o.verdict.time)).cell? ⟨w.heap.size, 4, none⟩ = some (.slice A1 o.record.fields.length c1) := b9.cells.1 4
    have r5 : ((((((((((w4.setCell ⟨w2.heap.size, 0, none⟩ (.int .i64 y)).setCell ⟨w.heap.size, 0, none⟩ (.int .i64 y)).setCell ⟨w.heap.size, 1, none⟩ (.int .i64 o.record.source)).setCell ⟨w.heap.size, 2, none⟩ (.int .i64 o.record.key)).setCell ⟨w.heap.size, 3, none⟩ (.int .i64 o.record.version)).setCell ⟨w.heap.size, 4, none⟩ (.slice A1 o.record.fields.length c1)).setCell ⟨w.heap.size, 5, none⟩ (.int .i64 o.verdict.a)).setCell ⟨w.heap.size, 6, none⟩ (.int .i64 o.verdict.b)).setCell ⟨w.heap.size, 7, none⟩ (.bool o.verdict.same)).setCell ⟨w.heap.size, 8, none⟩ (.int .i64 o.verdict.time)).cell? ⟨w.heap.size, 5, none⟩ = some (.int .i64 o.verdict.a) := b9.cells.1 5
    have r6 : ((((((((((w4.setCell ⟨w2.heap.size, 0, none⟩ (.int .i64 y)).setCell ⟨w.heap.size, 0, none⟩ (.int .i64 y)).setCell ⟨w.heap.size, 1, none⟩ (.int .i64 o.record.source)).setCell ⟨w.heap.size, 2, none⟩ (.int .i64 o.record.key)).setCell ⟨w.heap.size, 3, none⟩ (.int .i64 o.record.version)).setCell ⟨w.heap.size, 4, none⟩ (.slice A1 o.record.fields.length c1)).setCell ⟨w.heap.size, 5, none⟩ (.int .i64 o.verdict.a)).setCell ⟨w.heap.size, 6, none⟩ (.int .i64 o.verdict.b)).setCell ⟨w.heap.size, 7, none⟩ (.bool o.verdict.same)).setCell ⟨w.heap.size, 8, none⟩ (.int .i64 o.verdict.time)).cell? ⟨w.heap.size, 6, none⟩ = some (.int .i64 o.verdict.b) := b9.cells.1 6
    have r7 : ((((((((((w4.setCell ⟨w2.heap.size, 0, none⟩ (.int .i64 y)).setCell ⟨w.heap.size, 0, none⟩ (.int .i64 y)).setCell ⟨w.heap.size, 1, none⟩ (.int .i64 o.record.source)).setCell ⟨w.heap.size, 2, none⟩ (.int .i64 o.record.key)).setCell ⟨w.heap.size, 3, none⟩ (.int .i64 o.record.version)).setCell ⟨w.heap.size, 4, none⟩ (.slice A1 o.record.fields.length c1)).setCell ⟨w.heap.size, 5, none⟩ (.int .i64 o.verdict.a)).setCell ⟨w.heap.size, 6, none⟩ (.int .i64 o.verdict.b)).setCell ⟨w.heap.size, 7, none⟩ (.bool o.verdict.same)).setCell ⟨w.heap.size, 8, none⟩ (.int .i64 o.verdict.time)).cell? ⟨w.heap.size, 7, none⟩ = some (.bool o.verdict.same) := b9.cells.1 7
    have r8 : ((((((((((w4.setCell ⟨w2.heap.size, 0, none⟩ (.int .i64 y)).setCell ⟨w.heap.size, 0, none⟩ (.int .i64 y)).setCell ⟨w.heap.size, 1, none⟩ (.int .i64 o.record.source)).setCell ⟨w.heap.size, 2, none⟩ (.int .i64 o.record.key)).setCell ⟨w.heap.size, 3, none⟩ (.int .i64 o.record.version)).setCell ⟨w.heap.size, 4, none⟩ (.slice A1 o.record.fields.length c1)).setCell ⟨w.heap.size, 5, none⟩ (.int .i64 o.verdict.a)).setCell ⟨w.heap.size, 6, none⟩ (.int .i64 o.verdict.b)).setCell ⟨w.heap.size, 7, none⟩ (.bool o.verdict.same)).setCell ⟨w.heap.size, 8, none⟩ (.int .i64 o.verdict.time)).cell? ⟨w.heap.size, 8, none⟩ = some (.int .i64 o.verdict.time) := b9.cells.1 8
    have k9 : Kept g w ((((((((((w4.setCell ⟨w2.heap.size, 0, none⟩ (.int .i64 y)).setCell ⟨w.heap.size, 0, none⟩ (.int .i64 y)).setCell ⟨w.heap.size, 1, none⟩ (.int .i64 o.record.source)).setCell ⟨w.heap.size, 2, none⟩ (.int .i64 o.record.key)).setCell ⟨w.heap.size, 3, none⟩ (.int .i64 o.record.version)).setCell ⟨w.heap.size, 4, none⟩ (.slice A1 o.record.fields.length c1)).setCell ⟨w.heap.size, 5, none⟩ (.int .i64 o.verdict.a)).setCell ⟨w.heap.size, 6, none⟩ (.int .i64 o.verdict.b)).setCell ⟨w.heap.size, 7, none⟩ (.bool o.verdict.same)).setCell ⟨w.heap.size, 8, none⟩ (.int .i64 o.verdict.time)) := (((((((((kL9.setN (Nat.le_refl _) _).setN (Nat.le_refl _) _).setN (Nat.le_refl _) _).setN (Nat.le_refl _) _).setN (Nat.le_refl _) _).setN (Nat.le_refl _) _).setN (Nat.le_refl _) _).setN (Nat.le_refl _) _).setN (Nat.le_refl _) _)
    have c9 : Cur w0 ((((((((((w4.setCell ⟨w2.heap.size, 0, none⟩ (.int .i64 y)).setCell ⟨w.heap.size, 0, none⟩ (.int .i64 y)).setCell ⟨w.heap.size, 1, none⟩ (.int .i64 o.record.source)).setCell ⟨w.heap.size, 2, none⟩ (.int .i64 o.record.key)).setCell ⟨w.heap.size, 3, none⟩ (.int .i64 o.record.version)).setCell ⟨w.heap.size, 4, none⟩ (.slice A1 o.record.fields.length c1)).setCell ⟨w.heap.size, 5, none⟩ (.int .i64 o.verdict.a)).setCell ⟨w.heap.size, 6, none⟩ (.int .i64 o.verdict.b)).setCell ⟨w.heap.size, 7, none⟩ (.bool o.verdict.same)).setCell ⟨w.heap.size, 8, none⟩ (.int .i64 o.verdict.time)) g := (((((((((cL9.setN hg _).setN hg _).setN hg _).setN hg _).setN hg _).setN hg _).setN hg _).setN hg _).setN hg _)
    have o9 := (((((((((oL9.setCell (p := ⟨w.heap.size, 0, none⟩) hRF (.int .i64 y)).setCell (p := ⟨w.heap.size, 1, none⟩) hRF (.int .i64 o.record.source)).setCell (p := ⟨w.heap.size, 2, none⟩) hRF (.int .i64 o.record.key)).setCell (p := ⟨w.heap.size, 3, none⟩) hRF (.int .i64 o.record.version)).setCell (p := ⟨w.heap.size, 4, none⟩) hRF (.slice A1 o.record.fields.length c1)).setCell (p := ⟨w.heap.size, 5, none⟩) hRF (.int .i64 o.verdict.a)).setCell (p := ⟨w.heap.size, 6, none⟩) hRF (.int .i64 o.verdict.b)).setCell (p := ⟨w.heap.size, 7, none⟩) hRF (.bool o.verdict.same)).setCell (p := ⟨w.heap.size, 8, none⟩) hRF (.int .i64 o.verdict.time))
    refine bodyPost_ret (v := .agg #[.int .i64 y, .int .i64 o.record.source, .int .i64 o.record.key, .int .i64 o.record.version, .slice A1 o.record.fields.length c1, .int .i64 o.verdict.a, .int .i64 o.verdict.b, .bool o.verdict.same, .int .i64 o.verdict.time]) (by simp [results, Tryz.results120, go_sem, r0, r1, r2, r3, r4, r5, r6, r7, r8]) rfl ?_
    exact ⟨_, ⟨y, o.record, o.verdict⟩, F, rfl, ⟨_, rfl, HI.out, o9⟩, HN.out, c9, k9, trivial⟩
  · by_cases h1 : x = 1
    · subst h1
      go_wp2_with fail
      refine (spec_l8Any w0 _ g hc3).mono ?_
      rintro e w4 ⟨v2, rc, F2, rfl, ⟨f2, rfl, ok2, o4⟩, n2, hc4, hk4, _⟩
      obtain ⟨A2, c2, e2, _⟩ := o4.form
      subst e2
      have bL4 := bL3.kept (Nat.ne_of_gt hgL) hk4
      have bR4 := bR3.kept (Nat.ne_of_gt hg) hk4
      have hk04 := hk03.trans hk4
      have hLF2 : w2.heap.size ∉ F2 := fun hm => by have := n2.2 _ hm; omega
      have hRF2 : w.heap.size ∉ F2 := fun hm => by have := n2.2 _ hm; omega
      clear bL3 bR3 o3 hc3 hk03 hk4
      have bL9 : Blk ((((w4.setCell ⟨w2.heap.size, 1, none⟩ (.int .i64 rc.source)).setCell ⟨w2.heap.size, 2, none⟩ (.int .i64 rc.key)).setCell ⟨w2.heap.size, 3, none⟩ (.int .i64 rc.version)).setCell ⟨w2.heap.size, 4, none⟩ (.slice A2 rc.fields.length c2)) w2.heap.size 76 [.int .i64 o.kind, .int .i64 rc.source, .int .i64 rc.key, .int .i64 rc.version, .slice A2 rc.fields.length c2, .int .i64 o.verdict.a, .int .i64 o.verdict.b, .bool o.verdict.same, .int .i64 o.verdict.time] := ((((bL4.setAt 1 (by show 1 < 9; decide) (.int .i64 rc.source)).setAt 2 (by show 2 < 9; decide) (.int .i64 rc.key)).setAt 3 (by show 3 < 9; decide) (.int .i64 rc.version)).setAt 4 (by show 4 < 9; decide) (.slice A2 rc.fields.length c2))
      have bR9 : Blk ((((w4.setCell ⟨w2.heap.size, 1, none⟩ (.int .i64 rc.source)).setCell ⟨w2.heap.size, 2, none⟩ (.int .i64 rc.key)).setCell ⟨w2.heap.size, 3, none⟩ (.int .i64 rc.version)).setCell ⟨w2.heap.size, 4, none⟩ (.slice A2 rc.fields.length c2)) w.heap.size 76 [.int .i64 0, .int .i64 0, .int .i64 0, .int .i64 0, .slice none 0 0, .int .i64 0, .int .i64 0, .bool false, .int .i64 0] := ((((bR4.other (i := 1) (u := .int .i64 rc.source) hnRL).other (i := 2) (u := .int .i64 rc.key) hnRL).other (i := 3) (u := .int .i64 rc.version) hnRL).other (i := 4) (u := .slice A2 rc.fields.length c2) hnRL)
      have kL9 : Kept g w ((((w4.setCell ⟨w2.heap.size, 1, none⟩ (.int .i64 rc.source)).setCell ⟨w2.heap.size, 2, none⟩ (.int .i64 rc.key)).setCell ⟨w2.heap.size, 3, none⟩ (.int .i64 rc.version)).setCell ⟨w2.heap.size, 4, none⟩ (.slice A2 rc.fields.length c2)) := ((((hk04.setN (by show w.heap.size ≤ w2.heap.size; omega) _).setN (by show w.heap.size ≤ w2.heap.size; omega) _).setN (by show w.heap.size ≤ w2.heap.size; omega) _).setN (by show w.heap.size ≤ w2.heap.size; omega) _)
      have cL9 : Cur w0 ((((w4.setCell ⟨w2.heap.size, 1, none⟩ (.int .i64 rc.source)).setCell ⟨w2.heap.size, 2, none⟩ (.int .i64 rc.key)).setCell ⟨w2.heap.size, 3, none⟩ (.int .i64 rc.version)).setCell ⟨w2.heap.size, 4, none⟩ (.slice A2 rc.fields.length c2)) g := ((((hc4.setN (by show g < w2.heap.size; omega) _).setN (by show g < w2.heap.size; omega) _).setN (by show g < w2.heap.size; omega) _).setN (by show g < w2.heap.size; omega) _)
      have oL9 := ((((o4.setCell (p := ⟨w2.heap.size, 1, none⟩) hLF2 (.int .i64 rc.source)).setCell (p := ⟨w2.heap.size, 2, none⟩) hLF2 (.int .i64 rc.key)).setCell (p := ⟨w2.heap.size, 3, none⟩) hLF2 (.int .i64 rc.version)).setCell (p := ⟨w2.heap.size, 4, none⟩) hLF2 (.slice A2 rc.fields.length c2))
      have HI := hid (show Op.ok ⟨o.kind, rc, o.verdict⟩ from ⟨ok1.1, ok2, ok1.2.2⟩)
      have HN := hid (show NewF w F2 from ⟨n2.1, fun q hq => by have := n2.2 q hq; omega⟩)
      obtain ⟨cL0, fL0⟩ := bL4.cells
      obtain ⟨cL, fL⟩ := bL9.cells
      obtain ⟨cR, fR⟩ := bR9.cells
      go_wp2
      have b9 : Blk (((((((((((((w4.setCell ⟨w2.heap.size, 1, none⟩ (.int .i64 rc.source)).setCell ⟨w2.heap.size, 2, none⟩ (.int .i64 rc.key)).setCell ⟨w2.heap.size, 3, none⟩ (.int .i64 rc.version)).setCell ⟨w2.heap.size, 4, none⟩ (.slice A2 rc.fields.length c2)).setCell ⟨w.heap.size, 0, none⟩ (.int .i64 o.kind)).setCell ⟨w.heap.size, 1, none⟩ (.int .i64 rc.source)).setCell ⟨w.heap.size, 2, none⟩ (.int .i64 rc.key)).setCell ⟨w.heap.size, 3, none⟩ (.int .i64 rc.version)).setCell ⟨w.heap.size, 4, none⟩ (.slice A2 rc.fields.length c2)).setCell ⟨w.heap.size, 5, none⟩ (.int .i64 o.verdict.a)).setCell ⟨w.heap.size, 6, none⟩ (.int .i64 o.verdict.b)).setCell ⟨w.heap.size, 7, none⟩ (.bool o.verdict.same)).setCell ⟨w.heap.size, 8, none⟩ (.int .i64 o.verdict.time)) w.heap.size 76 [.int .i64 o.kind, .int .i64 rc.source, .int .i64 rc.key, .int .i64 rc.version, .slice A2 rc.fields.length c2, .int .i64 o.verdict.a, .int .i64 o.verdict.b, .bool o.verdict.same, .int .i64 o.verdict.time] := (((((((((bR9.setAt 0 (by show 0 < 9; decide) (.int .i64 o.kind)).setAt 1 (by show 1 < 9; decide) (.int .i64 rc.source)).setAt 2 (by show 2 < 9; decide) (.int .i64 rc.key)).setAt 3 (by show 3 < 9; decide) (.int .i64 rc.version)).setAt 4 (by show 4 < 9; decide) (.slice A2 rc.fields.length c2)).setAt 5 (by show 5 < 9; decide) (.int .i64 o.verdict.a)).setAt 6 (by show 6 < 9; decide) (.int .i64 o.verdict.b)).setAt 7 (by show 7 < 9; decide) (.bool o.verdict.same)).setAt 8 (by show 8 < 9; decide) (.int .i64 o.verdict.time))
      have r0 : (((((((((((((w4.setCell ⟨w2.heap.size, 1, none⟩ (.int .i64 rc.source)).setCell ⟨w2.heap.size, 2, none⟩ (.int .i64 rc.key)).setCell ⟨w2.heap.size, 3, none⟩ (.int .i64 rc.version)).setCell ⟨w2.heap.size, 4, none⟩ (.slice A2 rc.fields.length c2)).setCell ⟨w.heap.size, 0, none⟩ (.int .i64 o.kind)).setCell ⟨w.heap.size, 1, none⟩ (.int .i64 rc.source)).setCell ⟨w.heap.size, 2, none⟩ (.int .i64 rc.key)).setCell ⟨w.heap.size, 3, none⟩ (.int .i64 rc.version)).setCell ⟨w.heap.size, 4, none⟩ (.slice A2 rc.fields.length c2)).setCell ⟨w.heap.size, 5, none⟩ (.int .i64 o.verdict.a)).setCell ⟨w.heap.size, 6, none⟩ (.int .i64 o.verdict.b)).setCell ⟨w.heap.size, 7, none⟩ (.bool o.verdict.same)).setCell ⟨w.heap.size, 8, none⟩ (.int .i64 o.verdict.time)).cell? ⟨w.heap.size, 0, none⟩ = some (.int .i64 o.kind) := b9.cells.1 0
      have r1 : (((((((((((((w4.setCell ⟨w2.heap.size, 1, none⟩ (.int .i64 rc.source)).setCell ⟨w2.heap.size, 2, none⟩ (.int .i64 rc.key)).setCell ⟨w2.heap.size, 3, none⟩ (.int .i64 rc.version)).setCell ⟨w2.heap.size, 4, none⟩ (.slice A2 rc.fields.length c2)).setCell ⟨w.heap.size, 0, none⟩ (.int .i64 o.kind)).setCell ⟨w.heap.size, 1, none⟩ (.int .i64 rc.source)).setCell ⟨w.heap.size, 2, none⟩ (.int .i64 rc.key)).setCell ⟨w.heap.size, 3, none⟩ (.int .i64 rc.version)).setCell ⟨w.heap.size, 4, none⟩ (.slice A2 rc.fields.length c2)).setCell ⟨w.heap.size, 5, none⟩ (.int .i64 o.verdict.a)).setCell ⟨w.heap.size, 6, none⟩ (.int .i64 o.verdict.b)).setCell ⟨w.heap.size, 7, none⟩ (.bool o.verdict.same)).setCell ⟨w.heap.size, 8, none⟩ (.int .i64 o.verdict.time)).cell? ⟨w.heap.size, 1, none⟩ = some (.int .i64 rc.source) := b9.cells.1 1
      have r2 : (((((((((((((w4.setCell ⟨w2.heap.size, 1, none⟩ (.int .i64 rc.source)).setCell ⟨w2.heap.size, 2, none⟩ (.int .i64 rc.key)).setCell ⟨w2.heap.size, 3, none⟩ (.int .i64 rc.version)).setCell ⟨w2.heap.size, 4, none⟩ (.slice A2 rc.fields.length c2)).setCell ⟨w.heap.size, 0, none⟩ (.int .i64 o.kind)).setCell ⟨w.heap.size, 1, none⟩ (.int .i64 rc.source)).setCell ⟨w.heap.size, 2, none⟩ (.int .i64 rc.key)).setCell ⟨w.heap.size, 3, none⟩ (.int .i64 rc.version)).setCell ⟨w.heap.size, 4, none⟩ (.slice A2 rc.fields.length c2)).setCell ⟨w.heap.size, 5, none⟩ (.int .i64 o.verdict.a)).setCell ⟨w.heap.size, 6, none⟩ (.int .i64 o.verdict.b)).setCell ⟨w.heap.size, 7, none⟩ (.bool o.verdict.same)).setCell ⟨w.heap.size, 8, none⟩ (.int .i64 o.verdict.time)).cell? ⟨w.heap.size, 2, none⟩ = some (.int .i64 rc.key) := b9.cells.1 2
      have r3 : (((((((((((((w4.setCell ⟨w2.heap.size, 1, none⟩ (.int .i64 rc.source)).setCell ⟨w2.heap.size, 2, none⟩ (.int .i64 rc.key)).setCell ⟨w2.heap.size, 3, none⟩ (.int .i64 rc.version)).setCell ⟨w2.heap.size, 4, none⟩ (.slice A2 rc.fields.length c2)).setCell ⟨w.heap.size, 0, none⟩ (.int .i64 o.kind)).setCell ⟨w.heap.size, 1, none⟩ (.int .i64 rc.source)).setCell ⟨w.heap.size, 2, none⟩ (.int .i64 rc.key)).setCell ⟨w.heap.size, 3, none⟩ (.int .i64 rc.version)).setCell ⟨w.heap.size, 4, none⟩ (.slice A2 rc.fields.length c2)).setCell ⟨w.heap.size, 5, none⟩ (.int .i64 o.verdict.a)).setCell ⟨w.heap.size, 6, none⟩ (.int .i64 o.verdict.b)).setCell ⟨w.heap.size, 7, none⟩ (.bool o.verdict.same)).setCell ⟨w.heap.size, 8, none⟩ (.int .i64 o.verdict.time)).cell? ⟨w.heap.size, 3, none⟩ = some (.int .i64 rc.version) := b9.cells.1 3
      have r4 : (((((((((((((w4.setCell ⟨w2.heap.size, 1, none⟩ (.int .i64 rc.source)).setCell ⟨w2.heap.size, 2, none⟩ (.int .i64 rc.key)).setCell ⟨w2.heap.size, 3, none⟩ (.int .i64 rc.version)).setCell ⟨w2.heap.size, 4, none⟩ (.slice A2 rc.fields.length c2)).setCell ⟨w.heap.size, 0, none⟩ (.int .i64 o.kind)).setCell ⟨w.heap.size, 1, none⟩ (.int .i64 rc.source)).setCell ⟨w.heap.size, 2, none⟩ (.int .i64 rc.key)).setCell ⟨w.heap.size, 3, none⟩ (.int .i64 rc.version)).setCell ⟨w.heap.size, 4, none⟩ (.slice A2 rc.fields.length c2)).setCell ⟨w.heap.size, 5, none⟩ (.int .i64 o.verdict.a)).setCell ⟨w.heap.size, 6, none⟩ (.int .i64 o.verdict.b)).setCell ⟨w.heap.size, 7, none⟩ (.bool o.verdict.same)).setCell ⟨w.heap.size, 8, none⟩ (.int .i64 o.verdict.time)).cell? ⟨w.heap.size, 4, none⟩ = some (.slice A2 rc.fields.length c2) := b9.cells.1 4
      have r5 : (((((((((((((w4.setCell ⟨w2.heap.size, 1, none⟩ (.int .i64 rc.source)).setCell ⟨w2.heap.size, 2, none⟩ (.int .i64 rc.key)).setCell ⟨w2.heap.size, 3, none⟩ (.int .i64 rc.version)).setCell ⟨w2.heap.size, 4, none⟩ (.slice A2 rc.fields.length c2)).setCell ⟨w.heap.size, 0, none⟩ (.int .i64 o.kind)).setCell ⟨w.heap.size, 1, none⟩ (.int .i64 rc.source)).setCell ⟨w.heap.size, 2, none⟩ (.int .i64 rc.key)).setCell ⟨w.heap.size, 3, none⟩ (.int .i64 rc.version)).setCell ⟨w.heap.size, 4, none⟩ (.slice A2 rc.fields.length c2)).setCell ⟨w.heap.size, 5, none⟩ (.int .i64 o.verdict.a)).setCell ⟨w.heap.size, 6, none⟩ (.int .i64 o.verdict.b)).setCell ⟨w.heap.size, 7, none⟩ (.bool o.verdict.same)).setCell ⟨w.heap.size, 8, none⟩ (.int .i64 o.verdict.time)).cell? ⟨w.heap.size, 5, none⟩ = some (.int .i64 o.verdict.a) := b9.cells.1 5
      have r6 : (((((((((((((w4.setCell ⟨w2.heap.size, 1, none⟩ (.int .i64 rc.source)).setCell ⟨w2.heap.size, 2, none⟩ (.int .i64 rc.key)).setCell ⟨w2.heap.size, 3, none⟩ (.int .i64 rc.version)).setCell ⟨w2.heap.size, 4, none⟩ (.slice A2 rc.fields.length c2)).setCell ⟨w.heap.size, 0, none⟩ (.int .i64 o.kind)).setCell ⟨w.heap.size, 1, none⟩ (.int .i64 rc.source)).setCell ⟨w.heap.size, 2, none⟩ (.int .i64 rc.key)).setCell ⟨w.heap.size, 3, none⟩ (.int .i64 rc.version)).setCell ⟨w.heap.size, 4, none⟩ (.slice A2 rc.fields.length c2)).setCell ⟨w.heap.size, 5, none⟩ (.int .i64 o.verdict.a)).setCell ⟨w.heap.size, 6, none⟩ (.int .i64 o.verdict.b)).setCell ⟨w.heap.size, 7, none⟩ (.bool o.verdict.same)).setCell ⟨w.heap.size, 8, none⟩ (.int .i64 o.verdict.time)).cell? ⟨w.heap.size, 6, none⟩ = some (.int .i64 o.verdict.b) := b9.cells.1 6
      have r7 : (((((((((((((w4.setCell ⟨w2.heap.size, 1, none⟩ (.int .i64 rc.source)).setCell ⟨w2.heap.size, 2, none⟩ (.int .i64 rc.key)).setCell ⟨w2.heap.size, 3, none⟩ (.int .i64 rc.version)).setCell ⟨w2.heap.size, 4, none⟩ (.slice A2 rc.fields.length c2)).setCell ⟨w.heap.size, 0, none⟩ (.int .i64 o.kind)).setCell ⟨w.heap.size, 1, none⟩ (.int .i64 rc.source)).setCell ⟨w.heap.size, 2, none⟩ (.int .i64 rc.key)).setCell ⟨w.heap.size, 3, none⟩ (.int .i64 rc.version)).setCell ⟨w.heap.size, 4, none⟩ (.slice A2 rc.fields.length c2)).setCell ⟨w.heap.size, 5, none⟩ (.int .i64 o.verdict.a)).setCell ⟨w.heap.size, 6, none⟩ (.int .i64 o.verdict.b)).setCell ⟨w.heap.size, 7, none⟩ (.bool o.verdict.same)).setCell ⟨w.heap.size, 8, none⟩ (.int .i64 o.verdict.time)).cell? ⟨w.heap.size, 7, none⟩ = some (.bool o.verdict.same) := b9.cells.1 7
      have r8 : (((((((((((((w4.setCell ⟨w2.heap.size, 1, none⟩ (.int .i64 rc.source)).setCell ⟨w2.heap.size, 2, none⟩ (.int .i64 rc.key)).setCell ⟨w2.heap.size, 3, none⟩ (.int .i64 rc.version)).setCell ⟨w2.heap.size, 4, none⟩ (.slice A2 rc.fields.length c2)).setCell ⟨w.heap.size, 0, none⟩ (.int .i64 o.kind)).setCell ⟨w.heap.size, 1, none⟩ (.int .i64 rc.source)).setCell ⟨w.heap.size, 2, none⟩ (.int .i64 rc.key)).setCell ⟨w.heap.size, 3, none⟩ (.int .i64 rc.version)).setCell ⟨w.heap.size, 4, none⟩ (.slice A2 rc.fields.length c2)).setCell ⟨w.heap.size, 5, none⟩ (.int .i64 o.verdict.a)).setCell ⟨w.heap.size, 6, none⟩ (.int .i64 o.verdict.b)).setCell ⟨w.heap.size, 7, none⟩ (.bool o.verdict.same)).setCell ⟨w.heap.size, 8, none⟩ (.int .i64 o.verdict.time)).cell? ⟨w.heap.size, 8, none⟩ = some (.int .i64 o.verdict.time) := b9.cells.1 8
      have k9 : Kept g w (((((((((((((w4.setCell ⟨w2.heap.size, 1, none⟩ (.int .i64 rc.source)).setCell ⟨w2.heap.size, 2, none⟩ (.int .i64 rc.key)).setCell ⟨w2.heap.size, 3, none⟩ (.int .i64 rc.version)).setCell ⟨w2.heap.size, 4, none⟩ (.slice A2 rc.fields.length c2)).setCell ⟨w.heap.size, 0, none⟩ (.int .i64 o.kind)).setCell ⟨w.heap.size, 1, none⟩ (.int .i64 rc.source)).setCell ⟨w.heap.size, 2, none⟩ (.int .i64 rc.key)).setCell ⟨w.heap.size, 3, none⟩ (.int .i64 rc.version)).setCell ⟨w.heap.size, 4, none⟩ (.slice A2 rc.fields.length c2)).setCell ⟨w.heap.size, 5, none⟩ (.int .i64 o.verdict.a)).setCell ⟨w.heap.size, 6, none⟩ (.int .i64 o.verdict.b)).setCell ⟨w.heap.size, 7, none⟩ (.bool o.verdict.same)).setCell ⟨w.heap.size, 8, none⟩ (.int .i64 o.verdict.time)) := (((((((((kL9.setN (Nat.le_refl _) _).setN (Nat.le_refl _) _).setN (Nat.le_refl _) _).setN (Nat.le_refl _) _).setN (Nat.le_refl _) _).setN (Nat.le_refl _) _).setN (Nat.le_refl _) _).setN (Nat.le_refl _) _).setN (Nat.le_refl _) _)
      have c9 : Cur w0 (((((((((((((w4.setCell ⟨w2.heap.size, 1, none⟩ (.int .i64 rc.source)).setCell ⟨w2.heap.size, 2, none⟩ (.int .i64 rc.key)).setCell ⟨w2.heap.size, 3, none⟩ (.int .i64 rc.version)).setCell ⟨w2.heap.size, 4, none⟩ (.slice A2 rc.fields.length c2)).setCell ⟨w.heap.size, 0, none⟩ (.int .i64 o.kind)).setCell ⟨w.heap.size, 1, none⟩ (.int .i64 rc.source)).setCell ⟨w.heap.size, 2, none⟩ (.int .i64 rc.key)).setCell ⟨w.heap.size, 3, none⟩ (.int .i64 rc.version)).setCell ⟨w.heap.size, 4, none⟩ (.slice A2 rc.fields.length c2)).setCell ⟨w.heap.size, 5, none⟩ (.int .i64 o.verdict.a)).setCell ⟨w.heap.size, 6, none⟩ (.int .i64 o.verdict.b)).setCell ⟨w.heap.size, 7, none⟩ (.bool o.verdict.same)).setCell ⟨w.heap.size, 8, none⟩ (.int .i64 o.verdict.time)) g := (((((((((cL9.setN hg _).setN hg _).setN hg _).setN hg _).setN hg _).setN hg _).setN hg _).setN hg _).setN hg _)
      have o9 := (((((((((oL9.setCell (p := ⟨w.heap.size, 0, none⟩) hRF2 (.int .i64 o.kind)).setCell (p := ⟨w.heap.size, 1, none⟩) hRF2 (.int .i64 rc.source)).setCell (p := ⟨w.heap.size, 2, none⟩) hRF2 (.int .i64 rc.key)).setCell (p := ⟨w.heap.size, 3, none⟩) hRF2 (.int .i64 rc.version)).setCell (p := ⟨w.heap.size, 4, none⟩) hRF2 (.slice A2 rc.fields.length c2)).setCell (p := ⟨w.heap.size, 5, none⟩) hRF2 (.int .i64 o.verdict.a)).setCell (p := ⟨w.heap.size, 6, none⟩) hRF2 (.int .i64 o.verdict.b)).setCell (p := ⟨w.heap.size, 7, none⟩) hRF2 (.bool o.verdict.same)).setCell (p := ⟨w.heap.size, 8, none⟩) hRF2 (.int .i64 o.verdict.time))
      refine bodyPost_ret (v := .agg #[.int .i64 o.kind, .int .i64 rc.source, .int .i64 rc.key, .int .i64 rc.version, .slice A2 rc.fields.length c2, .int .i64 o.verdict.a, .int .i64 o.verdict.b, .bool o.verdict.same, .int .i64 o.verdict.time]) (by simp [results, Tryz.results120, go_sem, r0, r1, r2, r3, r4, r5, r6, r7, r8]) rfl ?_
      exact ⟨_, ⟨o.kind, rc, o.verdict⟩, F2, rfl, ⟨_, rfl, HI.out, o9⟩, HN.out, c9, k9, trivial⟩
    · by_cases h2 : x = 2
      · subst h2
        go_wp2_with fail
        refine (spec_l28Any w0 _ g hc3).mono ?_
        rintro e w4 ⟨vc, rfl, ok2, hc4, hk4⟩
        have bL4 := bL3.kept (Nat.ne_of_gt hgL) hk4
        have bR4 := bR3.kept (Nat.ne_of_gt hg) hk4
        have hk04 := hk03.trans hk4
        have o4 := o3.kept hgF hk4
        clear bL3 bR3 o3 hc3 hk03 hk4
        have bL9 : Blk ((((w4.setCell ⟨w2.heap.size, 5, none⟩ (.int .i64 vc.a)).setCell ⟨w2.heap.size, 6, none⟩ (.int .i64 vc.b)).setCell ⟨w2.heap.size, 7, none⟩ (.bool vc.same)).setCell ⟨w2.heap.size, 8, none⟩ (.int .i64 vc.time)) w2.heap.size 76 [.int .i64 o.kind, .int .i64 o.record.source, .int .i64 o.record.key, .int .i64 o.record.version, .slice A1 o.record.fields.length c1, .int .i64 vc.a, .int .i64 vc.b, .bool vc.same, .int .i64 vc.time] := ((((bL4.setAt 5 (by show 5 < 9; decide) (.int .i64 vc.a)).setAt 6 (by show 6 < 9; decide) (.int .i64 vc.b)).setAt 7 (by show 7 < 9; decide) (.bool vc.same)).setAt 8 (by show 8 < 9; decide) (.int .i64 vc.time))
        have bR9 : Blk ((((w4.setCell ⟨w2.heap.size, 5, none⟩ (.int .i64 vc.a)).setCell ⟨w2.heap.size, 6, none⟩ (.int .i64 vc.b)).setCell ⟨w2.heap.size, 7, none⟩ (.bool vc.same)).setCell ⟨w2.heap.size, 8, none⟩ (.int .i64 vc.time)) w.heap.size 76 [.int .i64 0, .int .i64 0, .int .i64 0, .int .i64 0, .slice none 0 0, .int .i64 0, .int .i64 0, .bool false, .int .i64 0] := ((((bR4.other (i := 5) (u := .int .i64 vc.a) hnRL).other (i := 6) (u := .int .i64 vc.b) hnRL).other (i := 7) (u := .bool vc.same) hnRL).other (i := 8) (u := .int .i64 vc.time) hnRL)
        have kL9 : Kept g w ((((w4.setCell ⟨w2.heap.size, 5, none⟩ (.int .i64 vc.a)).setCell ⟨w2.heap.size, 6, none⟩ (.int .i64 vc.b)).setCell ⟨w2.heap.size, 7, none⟩ (.bool vc.same)).setCell ⟨w2.heap.size, 8, none⟩ (.int .i64 vc.time)) := ((((hk04.setN (by show w.heap.size ≤ w2.heap.size; omega) _).setN (by show w.heap.size ≤ w2.heap.size; omega) _).setN (by show w.heap.size ≤ w2.heap.size; omega) _).setN (by show w.heap.size ≤ w2.heap.size; omega) _)
        have cL9 : Cur w0 ((((w4.setCell ⟨w2.heap.size, 5, none⟩ (.int .i64 vc.a)).setCell ⟨w2.heap.size, 6, none⟩ (.int .i64 vc.b)).setCell ⟨w2.heap.size, 7, none⟩ (.bool vc.same)).setCell ⟨w2.heap.size, 8, none⟩ (.int .i64 vc.time)) g := ((((hc4.setN (by show g < w2.heap.size; omega) _).setN (by show g < w2.heap.size; omega) _).setN (by show g < w2.heap.size; omega) _).setN (by show g < w2.heap.size; omega) _)
        have oL9 := ((((o4.setCell (p := ⟨w2.heap.size, 5, none⟩) hLF (.int .i64 vc.a)).setCell (p := ⟨w2.heap.size, 6, none⟩) hLF (.int .i64 vc.b)).setCell (p := ⟨w2.heap.size, 7, none⟩) hLF (.bool vc.same)).setCell (p := ⟨w2.heap.size, 8, none⟩) hLF (.int .i64 vc.time))
        have HI := hid (show Op.ok ⟨o.kind, o.record, vc⟩ from ⟨ok1.1, ok1.2.1, ok2⟩)
        have HN := hid (show NewF w F from ⟨n1.1, fun q hq => by have := n1.2 q hq; rw [World.size_alloc] at this; omega⟩)
        obtain ⟨cL0, fL0⟩ := bL4.cells
        obtain ⟨cL, fL⟩ := bL9.cells
        obtain ⟨cR, fR⟩ := bR9.cells
        go_wp2
        have b9 : Blk (((((((((((((w4.setCell ⟨w2.heap.size, 5, none⟩ (.int .i64 vc.a)).setCell ⟨w2.heap.size, 6, none⟩ (.int .i64 vc.b)).setCell ⟨w2.heap.size, 7, none⟩ (.bool vc.same)).setCell ⟨w2.heap.size, 8, none⟩ (.int .i64 vc.time)).setCell ⟨w.heap.size, 0, none⟩ (.int .i64 o.kind)).setCell ⟨w.heap.size, 1, none⟩ (.int .i64 o.record.source)).setCell ⟨w.heap.size, 2, none⟩ (.int .i64 o.record.key)).setCell ⟨w.heap.size, 3, none⟩ (.int .i64 o.record.version)).setCell ⟨w.heap.size, 4, none⟩ (.slice A1 o.record.fields.length c1)).setCell ⟨w.heap.size, 5, none⟩ (.int .i64 vc.a)).setCell ⟨w.heap.size, 6, none⟩ (.int .i64 vc.b)).setCell ⟨w.heap.size, 7, none⟩ (.bool vc.same)).setCell ⟨w.heap.size, 8, none⟩ (.int .i64 vc.time)) w.heap.size 76 [.int .i64 o.kind, .int .i64 o.record.source, .int .i64 o.record.key, .int .i64 o.record.version, .slice A1 o.record.fields.length c1, .int .i64 vc.a, .int .i64 vc.b, .bool vc.same, .int .i64 vc.time] := (((((((((bR9.setAt 0 (by show 0 < 9; decide) (.int .i64 o.kind)).setAt 1 (by show 1 < 9; decide) (.int .i64 o.record.source)).setAt 2 (by show 2 < 9; decide) (.int .i64 o.record.key)).setAt 3 (by show 3 < 9; decide) (.int .i64 o.record.version)).setAt 4 (by show 4 < 9; decide) (.slice A1 o.record.fields.length c1)).setAt 5 (by show 5 < 9; decide) (.int .i64 vc.a)).setAt 6 (by show 6 < 9; decide) (.int .i64 vc.b)).setAt 7 (by show 7 < 9; decide) (.bool vc.same)).setAt 8 (by show 8 < 9; decide) (.int .i64 vc.time))
        have r0 : (((((((((((((w4.setCell ⟨w2.heap.size, 5, none⟩ (.int .i64 vc.a)).setCell ⟨w2.heap.size, 6, none⟩ (.int .i64 vc.b)).setCell ⟨w2.heap.size, 7, none⟩ (.bool vc.same)).setCell ⟨w2.heap.size, 8, none⟩ (.int .i64 vc.time)).setCell ⟨w.heap.size, 0, none⟩ (.int .i64 o.kind)).setCell ⟨w.heap.size, 1, none⟩ (.int .i64 o.record.source)).setCell ⟨w.heap.size, 2, none⟩ (.int .i64 o.record.key)).setCell ⟨w.heap.size, 3, none⟩ (.int .i64 o.record.version)).setCell ⟨w.heap.size, 4, none⟩ (.slice A1 o.record.fields.length c1)).setCell ⟨w.heap.size, 5, none⟩ (.int .i64 vc.a)).setCell ⟨w.heap.size, 6, none⟩ (.int .i64 vc.b)).setCell ⟨w.heap.size, 7, none⟩ (.bool vc.same)).setCell ⟨w.heap.size, 8, none⟩ (.int .i64 vc.time)).cell? ⟨w.heap.size, 0, none⟩ = some (.int .i64 o.kind) := b9.cells.1 0
        have r1 : (((((((((((((w4.setCell ⟨w2.heap.size, 5, none⟩ (.int .i64 vc.a)).setCell ⟨w2.heap.size, 6, none⟩ (.int .i64 vc.b)).setCell ⟨w2.heap.size, 7, none⟩ (.bool vc.same)).setCell ⟨w2.heap.size, 8, none⟩ (.int .i64 vc.time)).setCell ⟨w.heap.size, 0, none⟩ (.int .i64 o.kind)).setCell ⟨w.heap.size, 1, none⟩ (.int .i64 o.record.source)).setCell ⟨w.heap.size, 2, none⟩ (.int .i64 o.record.key)).setCell ⟨w.heap.size, 3, none⟩ (.int .i64 o.record.version)).setCell ⟨w.heap.size, 4, none⟩ (.slice A1 o.record.fields.length c1)).setCell ⟨w.heap.size, 5, none⟩ (.int .i64 vc.a)).setCell ⟨w.heap.size, 6, none⟩ (.int .i64 vc.b)).setCell ⟨w.heap.size, 7, none⟩ (.bool vc.same)).setCell ⟨w.heap.size, 8, none⟩ (.int .i64 vc.time)).cell? ⟨w.heap.size, 1, none⟩ = some (.int .i64 o.record.source) := b9.cells.1 1
        have r2 : (((((((((((((w4.setCell ⟨w2.heap.size, 5, none⟩ (.int .i64 vc.a)).setCell ⟨w2.heap.size, 6, none⟩ (.int .i64 vc.b)).setCell ⟨w2.heap.size, 7, none⟩ (.bool vc.same)).setCell ⟨w2.heap.size, 8, none⟩ (.int .i64 vc.time)).setCell ⟨w.heap.size, 0, none⟩ (.int .i64 o.kind)).setCell ⟨w.heap.size, 1, none⟩ (.int .i64 o.record.source)).setCell ⟨w.heap.size, 2, none⟩ (.int .i64 o.record.key)).setCell ⟨w.heap.size, 3, none⟩ (.int .i64 o.record.version)).setCell ⟨w.heap.size, 4, none⟩ (.slice A1 o.record.fields.length c1)).setCell ⟨w.heap.size, 5, none⟩ (.int .i64 vc.a)).setCell ⟨w.heap.size, 6, none⟩ (.int .i64 vc.b)).setCell ⟨w.heap.size, 7, none⟩ (.bool vc.same)).setCell ⟨w.heap.size, 8, none⟩ (.int .i64 vc.time)).cell? ⟨w.heap.size, 2, none⟩ = some (.int .i64 o.record.key) := b9.cells.1 2
        have r3 : (((((((((((((w4.setCell ⟨w2.heap.size, 5, none⟩ (.int .i64 vc.a)).setCell ⟨w2.heap.size, 6, none⟩ (.int .i64 vc.b)).setCell ⟨w2.heap.size, 7, none⟩ (.bool vc.same)).setCell ⟨w2.heap.size, 8, none⟩ (.int .i64 vc.time)).setCell ⟨w.heap.size, 0, none⟩ (.int .i64 o.kind)).setCell ⟨w.heap.size, 1, none⟩ (.int .i64 o.record.source)).setCell ⟨w.heap.size, 2, none⟩ (.int .i64 o.record.key)).setCell ⟨w.heap.size, 3, none⟩ (.int .i64 o.record.version)).setCell ⟨w.heap.size, 4, none⟩ (.slice A1 o.record.fields.length c1)).setCell ⟨w.heap.size, 5, none⟩ (.int .i64 vc.a)).setCell ⟨w.heap.size, 6, none⟩ (.int .i64 vc.b)).setCell ⟨w.heap.size, 7, none⟩ (.bool vc.same)).setCell ⟨w.heap.size, 8, none⟩ (.int .i64 vc.time)).cell? ⟨w.heap.size, 3, none⟩ = some (.int .i64 o.record.version) := b9.cells.1 3
        have r4 : (((((((((((((w4.setCell ⟨w2.heap.size, 5, none⟩ (.int .i64 vc.a)).setCell ⟨w2.heap.size, 6, none⟩ (.int .i64 vc.b)).setCell ⟨w2.heap.size, 7, none⟩ (.bool vc.same)).setCell ⟨w2.heap.size, 8, none⟩ (.int .i64 vc.time)).setCell ⟨w.heap.size, 0, none⟩ (.int .i64 o.kind)).setCell ⟨w.heap.size, 1, none⟩ (.int .i64 o.record.source)).setCell ⟨w.heap.size, 2, none⟩ (.int .i64 o.record.key)).setCell ⟨w.heap.size, 3, none⟩ (.int .i64 o.record.version)).setCell ⟨w.heap.size, 4, none⟩ (.slice A1 o.record.fields.length c1)).setCell ⟨w.heap.size, 5, none⟩ (.int .i64 vc.a)).setCell ⟨w.heap.size, 6, none⟩ (.int .i64 vc.b)).setCell ⟨w.heap.size, 7, none⟩ (.bool vc.same)).setCell ⟨w.heap.size, 8, none⟩ (.int .i64 vc.time)).cell? ⟨w.heap.size, 4, none⟩ = some (.slice A1 o.record.fields.length c1) := b9.cells.1 4
        have r5 : (((((((((((((w4.setCell ⟨w2.heap.size, 5, none⟩ (.int .i64 vc.a)).setCell ⟨w2.heap.size, 6, none⟩ (.int .i64 vc.b)).setCell ⟨w2.heap.size, 7, none⟩ (.bool vc.same)).setCell ⟨w2.heap.size, 8, none⟩ (.int .i64 vc.time)).setCell ⟨w.heap.size, 0, none⟩ (.int .i64 o.kind)).setCell ⟨w.heap.size, 1, none⟩ (.int .i64 o.record.source)).setCell ⟨w.heap.size, 2, none⟩ (.int .i64 o.record.key)).setCell ⟨w.heap.size, 3, none⟩ (.int .i64 o.record.version)).setCell ⟨w.heap.size, 4, none⟩ (.slice A1 o.record.fields.length c1)).setCell ⟨w.heap.size, 5, none⟩ (.int .i64 vc.a)).setCell ⟨w.heap.size, 6, none⟩ (.int .i64 vc.b)).setCell ⟨w.heap.size, 7, none⟩ (.bool vc.same)).setCell ⟨w.heap.size, 8, none⟩ (.int .i64 vc.time)).cell? ⟨w.heap.size, 5, none⟩ = some (.int .i64 vc.a) := b9.cells.1 5
        have r6 : (((((((((((((w4.setCell ⟨w2.heap.size, 5, none⟩ (.int .i64 vc.a)).setCell ⟨w2.heap.size, 6, none⟩ (.int .i64 vc.b)).setCell ⟨w2.heap.size, 7, none⟩ (.bool vc.same)).setCell ⟨w2.heap.size, 8, none⟩ (.int .i64 vc.time)).setCell ⟨w.heap.size, 0, none⟩ (.int .i64 o.kind)).setCell ⟨w.heap.size, 1, none⟩ (.int .i64 o.record.source)).setCell ⟨w.heap.size, 2, none⟩ (.int .i64 o.record.key)).setCell ⟨w.heap.size, 3, none⟩ (.int .i64 o.record.version)).setCell ⟨w.heap.size, 4, none⟩ (.slice A1 o.record.fields.length c1)).setCell ⟨w.heap.size, 5, none⟩ (.int .i64 vc.a)).setCell ⟨w.heap.size, 6, none⟩ (.int .i64 vc.b)).setCell ⟨w.heap.size, 7, none⟩ (.bool vc.same)).setCell ⟨w.heap.size, 8, none⟩ (.int .i64 vc.time)).cell? ⟨w.heap.size, 6, none⟩ = some (.int .i64 vc.b) := b9.cells.1 6
        have r7 : (((((((((((((w4.setCell ⟨w2.heap.size, 5, none⟩ (.int .i64 vc.a)).setCell ⟨w2.heap.size, 6, none⟩ (.int .i64 vc.b)).setCell ⟨w2.heap.size, 7, none⟩ (.bool vc.same)).setCell ⟨w2.heap.size, 8, none⟩ (.int .i64 vc.time)).setCell ⟨w.heap.size, 0, none⟩ (.int .i64 o.kind)).setCell ⟨w.heap.size, 1, none⟩ (.int .i64 o.record.source)).setCell ⟨w.heap.size, 2, none⟩ (.int .i64 o.record.key)).setCell ⟨w.heap.size, 3, none⟩ (.int .i64 o.record.version)).setCell ⟨w.heap.size, 4, none⟩ (.slice A1 o.record.fields.length c1)).setCell ⟨w.heap.size, 5, none⟩ (.int .i64 vc.a)).setCell ⟨w.heap.size, 6, none⟩ (.int .i64 vc.b)).setCell ⟨w.heap.size, 7, none⟩ (.bool vc.same)).setCell ⟨w.heap.size, 8, none⟩ (.int .i64 vc.time)).cell? ⟨w.heap.size, 7, none⟩ = some (.bool vc.same) := b9.cells.1 7
        have r8 : (((((((((((((w4.setCell ⟨w2.heap.size, 5, none⟩ (.int .i64 vc.a)).setCell ⟨w2.heap.size, 6, none⟩ (.int .i64 vc.b)).setCell ⟨w2.heap.size, 7, none⟩ (.bool vc.same)).setCell ⟨w2.heap.size, 8, none⟩ (.int .i64 vc.time)).setCell ⟨w.heap.size, 0, none⟩ (.int .i64 o.kind)).setCell ⟨w.heap.size, 1, none⟩ (.int .i64 o.record.source)).setCell ⟨w.heap.size, 2, none⟩ (.int .i64 o.record.key)).setCell ⟨w.heap.size, 3, none⟩ (.int .i64 o.record.version)).setCell ⟨w.heap.size, 4, none⟩ (.slice A1 o.record.fields.length c1)).setCell ⟨w.heap.size, 5, none⟩ (.int .i64 vc.a)).setCell ⟨w.heap.size, 6, none⟩ (.int .i64 vc.b)).setCell ⟨w.heap.size, 7, none⟩ (.bool vc.same)).setCell ⟨w.heap.size, 8, none⟩ (.int .i64 vc.time)).cell? ⟨w.heap.size, 8, none⟩ = some (.int .i64 vc.time) := b9.cells.1 8
        have k9 : Kept g w (((((((((((((w4.setCell ⟨w2.heap.size, 5, none⟩ (.int .i64 vc.a)).setCell ⟨w2.heap.size, 6, none⟩ (.int .i64 vc.b)).setCell ⟨w2.heap.size, 7, none⟩ (.bool vc.same)).setCell ⟨w2.heap.size, 8, none⟩ (.int .i64 vc.time)).setCell ⟨w.heap.size, 0, none⟩ (.int .i64 o.kind)).setCell ⟨w.heap.size, 1, none⟩ (.int .i64 o.record.source)).setCell ⟨w.heap.size, 2, none⟩ (.int .i64 o.record.key)).setCell ⟨w.heap.size, 3, none⟩ (.int .i64 o.record.version)).setCell ⟨w.heap.size, 4, none⟩ (.slice A1 o.record.fields.length c1)).setCell ⟨w.heap.size, 5, none⟩ (.int .i64 vc.a)).setCell ⟨w.heap.size, 6, none⟩ (.int .i64 vc.b)).setCell ⟨w.heap.size, 7, none⟩ (.bool vc.same)).setCell ⟨w.heap.size, 8, none⟩ (.int .i64 vc.time)) := (((((((((kL9.setN (Nat.le_refl _) _).setN (Nat.le_refl _) _).setN (Nat.le_refl _) _).setN (Nat.le_refl _) _).setN (Nat.le_refl _) _).setN (Nat.le_refl _) _).setN (Nat.le_refl _) _).setN (Nat.le_refl _) _).setN (Nat.le_refl _) _)
        have c9 : Cur w0 (((((((((((((w4.setCell ⟨w2.heap.size, 5, none⟩ (.int .i64 vc.a)).setCell ⟨w2.heap.size, 6, none⟩ (.int .i64 vc.b)).setCell ⟨w2.heap.size, 7, none⟩ (.bool vc.same)).setCell ⟨w2.heap.size, 8, none⟩ (.int .i64 vc.time)).setCell ⟨w.heap.size, 0, none⟩ (.int .i64 o.kind)).setCell ⟨w.heap.size, 1, none⟩ (.int .i64 o.record.source)).setCell ⟨w.heap.size, 2, none⟩ (.int .i64 o.record.key)).setCell ⟨w.heap.size, 3, none⟩ (.int .i64 o.record.version)).setCell ⟨w.heap.size, 4, none⟩ (.slice A1 o.record.fields.length c1)).setCell ⟨w.heap.size, 5, none⟩ (.int .i64 vc.a)).setCell ⟨w.heap.size, 6, none⟩ (.int .i64 vc.b)).setCell ⟨w.heap.size, 7, none⟩ (.bool vc.same)).setCell ⟨w.heap.size, 8, none⟩ (.int .i64 vc.time)) g := (((((((((cL9.setN hg _).setN hg _).setN hg _).setN hg _).setN hg _).setN hg _).setN hg _).setN hg _).setN hg _)
        have o9 := (((((((((oL9.setCell (p := ⟨w.heap.size, 0, none⟩) hRF (.int .i64 o.kind)).setCell (p := ⟨w.heap.size, 1, none⟩) hRF (.int .i64 o.record.source)).setCell (p := ⟨w.heap.size, 2, none⟩) hRF (.int .i64 o.record.key)).setCell (p := ⟨w.heap.size, 3, none⟩) hRF (.int .i64 o.record.version)).setCell (p := ⟨w.heap.size, 4, none⟩) hRF (.slice A1 o.record.fields.length c1)).setCell (p := ⟨w.heap.size, 5, none⟩) hRF (.int .i64 vc.a)).setCell (p := ⟨w.heap.size, 6, none⟩) hRF (.int .i64 vc.b)).setCell (p := ⟨w.heap.size, 7, none⟩) hRF (.bool vc.same)).setCell (p := ⟨w.heap.size, 8, none⟩) hRF (.int .i64 vc.time))
        refine bodyPost_ret (v := .agg #[.int .i64 o.kind, .int .i64 o.record.source, .int .i64 o.record.key, .int .i64 o.record.version, .slice A1 o.record.fields.length c1, .int .i64 vc.a, .int .i64 vc.b, .bool vc.same, .int .i64 vc.time]) (by simp [results, Tryz.results120, go_sem, r0, r1, r2, r3, r4, r5, r6, r7, r8]) rfl ?_
        exact ⟨_, ⟨o.kind, o.record, vc⟩, F, rfl, ⟨_, rfl, HI.out, o9⟩, HN.out, c9, k9, trivial⟩
      · skip
        have bL9 : Blk w3 w2.heap.size 76 [.int .i64 o.kind, .int .i64 o.record.source, .int .i64 o.record.key, .int .i64 o.record.version, .slice A1 o.record.fields.length c1, .int .i64 o.verdict.a, .int .i64 o.verdict.b, .bool o.verdict.same, .int .i64 o.verdict.time] := bL3
        have bR9 : Blk w3 w.heap.size 76 [.int .i64 0, .int .i64 0, .int .i64 0, .int .i64 0, .slice none 0 0, .int .i64 0, .int .i64 0, .bool false, .int .i64 0] := bR3
        have kL9 : Kept g w w3 := hk03
        have cL9 : Cur w0 w3 g := hc3
        have oL9 := o3
        have HI := hid (show Op.ok o from ok1)
        have HN := hid (show NewF w F from ⟨n1.1, fun q hq => by have := n1.2 q hq; rw [World.size_alloc] at this; omega⟩)
        obtain ⟨cL0, fL0⟩ := bL3.cells
        obtain ⟨cL, fL⟩ := bL9.cells
        obtain ⟨cR, fR⟩ := bR9.cells
        go_wp2
        have b9 : Blk (((((((((w3.setCell ⟨w.heap.size, 0, none⟩ (.int .i64 o.kind)).setCell ⟨w.heap.size, 1, none⟩ (.int .i64 o.record.source)).setCell ⟨w.heap.size, 2, none⟩ (.int .i64 o.record.key)).setCell ⟨w.heap.size, 3, none⟩ (.int .i64 o.record.version)).setCell ⟨w.heap.size, 4, none⟩ (.slice A1 o.record.fields.length c1)).setCell ⟨w.heap.size, 5, none⟩ (.int .i64 o.verdict.a)).setCell ⟨w.heap.size, 6, none⟩ (.int .i64 o.verdict.b)).setCell ⟨w.heap.size, 7, none⟩ (.bool o.verdict.same)).setCell ⟨w.heap.size, 8, none⟩ (.int .i64 o.verdict.time)) w.heap.size 76 [.int .i64 o.kind, .int .i64 o.record.source, .int .i64 o.record.key, .int .i64 o.record.version, .slice A1 o.record.fields.length c1, .int .i64 o.verdict.a, .int .i64 o.verdict.b, .bool o.verdict.same, .int .i64 o.verdict.time] := (((((((((bR9.setAt 0 (by show 0 < 9; decide) (.int .i64 o.kind)).setAt 1 (by show 1 < 9; decide) (.int .i64 o.record.source)).setAt 2 (by show 2 < 9; decide) (.int .i64 o.record.key)).setAt 3 (by show 3 < 9; decide) (.int .i64 o.record.version)).setAt 4 (by show 4 < 9; decide) (.slice A1 o.record.fields.length c1)).setAt 5 (by show 5 < 9; decide) (.int .i64 o.verdict.a)).setAt 6 (by show 6 < 9; decide) (.int .i64 o.verdict.b)).setAt 7 (by show 7 < 9; decide) (.bool o.verdict.same)).setAt 8 (by show 8 < 9; decide) (.int .i64 o.verdict.time))
        have r0 : (((((((((w3.setCell ⟨w.heap.size, 0, none⟩ (.int .i64 o.kind)).setCell ⟨w.heap.size, 1, none⟩ (.int .i64 o.record.source)).setCell ⟨w.heap.size, 2, none⟩ (.int .i64 o.record.key)).setCell ⟨w.heap.size, 3, none⟩ (.int .i64 o.record.version)).setCell ⟨w.heap.size, 4, none⟩ (.slice A1 o.record.fields.length c1)).setCell ⟨w.heap.size, 5, none⟩ (.int .i64 o.verdict.a)).setCell ⟨w.heap.size, 6, none⟩ (.int .i64 o.verdict.b)).setCell ⟨w.heap.size, 7, none⟩ (.bool o.verdict.same)).setCell ⟨w.heap.size, 8, none⟩ (.int .i64 o.verdict.time)).cell? ⟨w.heap.size, 0, none⟩ = some (.int .i64 o.kind) := b9.cells.1 0
        have r1 : (((((((((w3.setCell ⟨w.heap.size, 0, none⟩ (.int .i64 o.kind)).setCell ⟨w.heap.size, 1, none⟩ (.int .i64 o.record.source)).setCell ⟨w.heap.size, 2, none⟩ (.int .i64 o.record.key)).setCell ⟨w.heap.size, 3, none⟩ (.int .i64 o.record.version)).setCell ⟨w.heap.size, 4, none⟩ (.slice A1 o.record.fields.length c1)).setCell ⟨w.heap.size, 5, none⟩ (.int .i64 o.verdict.a)).setCell ⟨w.heap.size, 6, none⟩ (.int .i64 o.verdict.b)).setCell ⟨w.heap.size, 7, none⟩ (.bool o.verdict.same)).setCell ⟨w.heap.size, 8, none⟩ (.int .i64 o.verdict.time)).cell? ⟨w.heap.size, 1, none⟩ = some (.int .i64 o.record.source) := b9.cells.1 1
        have r2 : (((((((((w3.setCell ⟨w.heap.size, 0, none⟩ (.int .i64 o.kind)).setCell ⟨w.heap.size, 1, none⟩ (.int .i64 o.record.source)).setCell ⟨w.heap.size, 2, none⟩ (.int .i64 o.record.key)).setCell ⟨w.heap.size, 3, none⟩ (.int .i64 o.record.version)).setCell ⟨w.heap.size, 4, none⟩ (.slice A1 o.record.fields.length c1)).setCell ⟨w.heap.size, 5, none⟩ (.int .i64 o.verdict.a)).setCell ⟨w.heap.size, 6, none⟩ (.int .i64 o.verdict.b)).setCell ⟨w.heap.size, 7, none⟩ (.bool o.verdict.same)).setCell ⟨w.heap.size, 8, none⟩ (.int .i64 o.verdict.time)).cell? ⟨w.heap.size, 2, none⟩ = some (.int .i64 o.record.key) := b9.cells.1 2
        have r3 : (((((((((w3.setCell ⟨w.heap.size, 0, none⟩ (.int .i64 o.kind)).setCell ⟨w.heap.size, 1, none⟩ (.int .i64 o.record.source)).setCell ⟨w.heap.size, 2, none⟩ (.int .i64 o.record.key)).setCell ⟨w.heap.size, 3, none⟩ (.int .i64 o.record.version)).setCell ⟨w.heap.size, 4, none⟩ (.slice A1 o.record.fields.length c1)).setCell ⟨w.heap.size, 5, none⟩ (.int .i64 o.verdict.a)).setCell ⟨w.heap.size, 6, none⟩ (.int .i64 o.verdict.b)).setCell ⟨w.heap.size, 7, none⟩ (.bool o.verdict.same)).setCell ⟨w.heap.size, 8, none⟩ (.int .i64 o.verdict.time)).cell? ⟨w.heap.size, 3, none⟩ = some (.int .i64 o.record.version) := b9.cells.1 3
        have r4 : (((((((((w3.setCell ⟨w.heap.size, 0, none⟩ (.int .i64 o.kind)).setCell ⟨w.heap.size, 1, none⟩ (.int .i64 o.record.source)).setCell ⟨w.heap.size, 2, none⟩ (.int .i64 o.record.key)).setCell ⟨w.heap.size, 3, none⟩ (.int .i64 o.record.version)).setCell ⟨w.heap.size, 4, none⟩ (.slice A1 o.record.fields.length c1)).setCell ⟨w.heap.size, 5, none⟩ (.int .i64 o.verdict.a)).setCell ⟨w.heap.size, 6, none⟩ (.int .i64 o.verdict.b)).setCell ⟨w.heap.size, 7, none⟩ (.bool o.verdict.same)).setCell ⟨w.heap.size, 8, none⟩ (.int .i64 o.verdict.time)).cell? ⟨w.heap.size, 4, none⟩ = some (.slice A1 o.record.fields.length c1) := b9.cells.1 4
        have r5 : (((((((((w3.setCell ⟨w.heap.size, 0, none⟩ (.int .i64 o.kind)).setCell ⟨w.heap.size, 1, none⟩ (.int .i64 o.record.source)).setCell ⟨w.heap.size, 2, none⟩ (.int .i64 o.record.key)).setCell ⟨w.heap.size, 3, none⟩ (.int .i64 o.record.version)).setCell ⟨w.heap.size, 4, none⟩ (.slice A1 o.record.fields.length c1)).setCell ⟨w.heap.size, 5, none⟩ (.int .i64 o.verdict.a)).setCell ⟨w.heap.size, 6, none⟩ (.int .i64 o.verdict.b)).setCell ⟨w.heap.size, 7, none⟩ (.bool o.verdict.same)).setCell ⟨w.heap.size, 8, none⟩ (.int .i64 o.verdict.time)).cell? ⟨w.heap.size, 5, none⟩ = some (.int .i64 o.verdict.a) := b9.cells.1 5
        have r6 : (((((((((w3.setCell ⟨w.heap.size, 0, none⟩ (.int .i64 o.kind)).setCell ⟨w.heap.size, 1, none⟩ (.int .i64 o.record.source)).setCell ⟨w.heap.size, 2, none⟩ (.int .i64 o.record.key)).setCell ⟨w.heap.size, 3, none⟩ (.int .i64 o.record.version)).setCell ⟨w.heap.size, 4, none⟩ (.slice A1 o.record.fields.length c1)).setCell ⟨w.heap.size, 5, none⟩ (.int .i64 o.verdict.a)).setCell ⟨w.heap.size, 6, none⟩ (.int .i64 o.verdict.b)).setCell ⟨w.heap.size, 7, none⟩ (.bool o.verdict.same)).setCell ⟨w.heap.size, 8, none⟩ (.int .i64 o.verdict.time)).cell? ⟨w.heap.size, 6, none⟩ = some (.int .i64 o.verdict.b) := b9.cells.1 6
        have r7 : (((((((((w3.setCell ⟨w.heap.size, 0, none⟩ (.int .i64 o.kind)).setCell ⟨w.heap.size, 1, none⟩ (.int .i64 o.record.source)).setCell ⟨w.heap.size, 2, none⟩ (.int .i64 o.record.key)).setCell ⟨w.heap.size, 3, none⟩ (.int .i64 o.record.version)).setCell ⟨w.heap.size, 4, none⟩ (.slice A1 o.record.fields.length c1)).setCell ⟨w.heap.size, 5, none⟩ (.int .i64 o.verdict.a)).setCell ⟨w.heap.size, 6, none⟩ (.int .i64 o.verdict.b)).setCell ⟨w.heap.size, 7, none⟩ (.bool o.verdict.same)).setCell ⟨w.heap.size, 8, none⟩ (.int .i64 o.verdict.time)).cell? ⟨w.heap.size, 7, none⟩ = some (.bool o.verdict.same) := b9.cells.1 7
        have r8 : (((((((((w3.setCell ⟨w.heap.size, 0, none⟩ (.int .i64 o.kind)).setCell ⟨w.heap.size, 1, none⟩ (.int .i64 o.record.source)).setCell ⟨w.heap.size, 2, none⟩ (.int .i64 o.record.key)).setCell ⟨w.heap.size, 3, none⟩ (.int .i64 o.record.version)).setCell ⟨w.heap.size, 4, none⟩ (.slice A1 o.record.fields.length c1)).setCell ⟨w.heap.size, 5, none⟩ (.int .i64 o.verdict.a)).setCell ⟨w.heap.size, 6, none⟩ (.int .i64 o.verdict.b)).setCell ⟨w.heap.size, 7, none⟩ (.bool o.verdict.same)).setCell ⟨w.heap.size, 8, none⟩ (.int .i64 o.verdict.time)).cell? ⟨w.heap.size, 8, none⟩ = some (.int .i64 o.verdict.time) := b9.cells.1 8
        have k9 : Kept g w (((((((((w3.setCell ⟨w.heap.size, 0, none⟩ (.int .i64 o.kind)).setCell ⟨w.heap.size, 1, none⟩ (.int .i64 o.record.source)).setCell ⟨w.heap.size, 2, none⟩ (.int .i64 o.record.key)).setCell ⟨w.heap.size, 3, none⟩ (.int .i64 o.record.version)).setCell ⟨w.heap.size, 4, none⟩ (.slice A1 o.record.fields.length c1)).setCell ⟨w.heap.size, 5, none⟩ (.int .i64 o.verdict.a)).setCell ⟨w.heap.size, 6, none⟩ (.int .i64 o.verdict.b)).setCell ⟨w.heap.size, 7, none⟩ (.bool o.verdict.same)).setCell ⟨w.heap.size, 8, none⟩ (.int .i64 o.verdict.time)) := (((((((((kL9.setN (Nat.le_refl _) _).setN (Nat.le_refl _) _).setN (Nat.le_refl _) _).setN (Nat.le_refl _) _).setN (Nat.le_refl _) _).setN (Nat.le_refl _) _).setN (Nat.le_refl _) _).setN (Nat.le_refl _) _).setN (Nat.le_refl _) _)
        have c9 : Cur w0 (((((((((w3.setCell ⟨w.heap.size, 0, none⟩ (.int .i64 o.kind)).setCell ⟨w.heap.size, 1, none⟩ (.int .i64 o.record.source)).setCell ⟨w.heap.size, 2, none⟩ (.int .i64 o.record.key)).setCell ⟨w.heap.size, 3, none⟩ (.int .i64 o.record.version)).setCell ⟨w.heap.size, 4, none⟩ (.slice A1 o.record.fields.length c1)).setCell ⟨w.heap.size, 5, none⟩ (.int .i64 o.verdict.a)).setCell ⟨w.heap.size, 6, none⟩ (.int .i64 o.verdict.b)).setCell ⟨w.heap.size, 7, none⟩ (.bool o.verdict.same)).setCell ⟨w.heap.size, 8, none⟩ (.int .i64 o.verdict.time)) g := (((((((((cL9.setN hg _).setN hg _).setN hg _).setN hg _).setN hg _).setN hg _).setN hg _).setN hg _).setN hg _)
        have o9 := (((((((((oL9.setCell (p := ⟨w.heap.size, 0, none⟩) hRF (.int .i64 o.kind)).setCell (p := ⟨w.heap.size, 1, none⟩) hRF (.int .i64 o.record.source)).setCell (p := ⟨w.heap.size, 2, none⟩) hRF (.int .i64 o.record.key)).setCell (p := ⟨w.heap.size, 3, none⟩) hRF (.int .i64 o.record.version)).setCell (p := ⟨w.heap.size, 4, none⟩) hRF (.slice A1 o.record.fields.length c1)).setCell (p := ⟨w.heap.size, 5, none⟩) hRF (.int .i64 o.verdict.a)).setCell (p := ⟨w.heap.size, 6, none⟩) hRF (.int .i64 o.verdict.b)).setCell (p := ⟨w.heap.size, 7, none⟩) hRF (.bool o.verdict.same)).setCell (p := ⟨w.heap.size, 8, none⟩) hRF (.int .i64 o.verdict.time))
        refine bodyPost_ret (v := .agg #[.int .i64 o.kind, .int .i64 o.record.source, .int .i64 o.record.key, .int .i64 o.record.version, .slice A1 o.record.fields.length c1, .int .i64 o.verdict.a, .int .i64 o.verdict.b, .bool o.verdict.same, .int .i64 o.verdict.time]) (by simp [results, Tryz.results120, go_sem, r0, r1, r2, r3, r4, r5, r6, r7, r8]) rfl ?_
        exact ⟨_, o, F, rfl, ⟨_, rfl, HI.out, o9⟩, HN.out, c9, k9, trivial⟩

end Go.Proofs.YtfcbapaojoecgaaGreat

namespace Go.Proofs.YtfcbapaojoecgaaGreat
open Go.RowKit

/-- a batch that was drawn -/
def BatAny (w0 w : World) (g : Nat) (p : Batch → Prop) (e : Ending) (w2 : World) : Prop := ∃ v b F, e = .returned (.agg #[v]) ∧ Bld opO w2 w.heap.size 76 v b.ops F ∧ Cur w0 w2 g ∧ Kept g w w2 ∧ p b
theorem Bld.ne_type {α : Type} {R : RepO α} {w : World} {base g : Nat} {e T : TypeId} {v : Value} {xs : List α} {F : List Nat} {cs9 : List Value} (h : Bld R w base e v xs F) (h8 : Blk w g T cs9) (hT : e ≠ T) : v.ownBlock ≠ some g := fun hg => by
  obtain ⟨cs, h1, _⟩ := h
  rcases h1.2 with ⟨rfl, _⟩ | ⟨g', cap, cur, rfl, _, hh, _⟩
  · cases hg
  · injection hg with hg
    subst hg
    have e9 := hh.symm.trans h8.out
    injection e9 with e9
    injection e9 with _ e9 _
    exact hT e9
theorem Bld.ge {α : Type} {R : RepO α} {w : World} {base : Nat} {e : TypeId} {v : Value} {xs : List α} {F : List Nat} (h : Bld R w base e v xs F) : ∀ b ∈ F, base ≤ b := by
  obtain ⟨_, _, _, _, _, h5⟩ := h
  exact h5
theorem Bld.setOther {α : Type} {R : RepO α} {w : World} {base : Nat} {e : TypeId} {v : Value} {xs : List α} {F : List Nat} (h : Bld R w base e v xs F) {p : Addr} (hF : p.block ∉ F) (hv : v.ownBlock ≠ some p.block) (u : Value) : Bld R (w.setCell p u) base e v xs F := by
  obtain ⟨cs, h1, h2, h3, h4, h5⟩ := h
  refine ⟨cs, ⟨h1.1, ?_⟩, h2.keep fun b hb => keep_setCell (fun e => hF (e ▸ hb)), h3, h4, h5⟩
  rcases h1.2 with h | ⟨g', cap, cur, rfl, hb, hh, hr⟩
  · exact .inl h
  · exact .inr ⟨g', cap, cur, rfl, hb, (keep_setCell (fun e => hv (by rw [← e]; rfl))).trans hh, hr⟩
theorem Bld.low {α : Type} {R : RepO α} {w : World} {base base2 : Nat} {e : TypeId} {v : Value} {xs : List α} {F : List Nat} (h : Bld R w base e v xs F) (hb : base2 ≤ base) : Bld R w base2 e v xs F := by
  obtain ⟨cs, h1, h2, h3, h4, h5⟩ := h
  refine ⟨cs, ⟨h1.1, ?_⟩, h2, h3, h4, fun b hb2 => Nat.le_trans hb (h5 b hb2)⟩
  rcases h1.2 with h | ⟨g', cap, cur, e1, e2, e3⟩
  · exact .inl h
  · exact .inr ⟨g', cap, cur, e1, Nat.le_trans hb e2, e3⟩

set_option maxHeartbeats 2000000 in
set_option maxRecDepth 20000 in
theorem spec_l29Batch (w0 w : World) (g : Nat) (hc : Cur w0 w g) :
    Calls Tryz.prog 119 #[.pointer (some ⟨g, 0, none⟩)] w (BatAny w0 w g fun b => b.ops.length ≤ 4 ∧ ∀ o ∈ b.ops, putLen o) := by
  have hg := hc.base.2.2
  have h0g := hc.base.2.1
  have xa : Ext w ((w.alloc (.cells #[.slice none 0 0] 40)).alloc (.cells #[.slice none 0 0] 40)) := ((Ext.refl w).alloc _).alloc _
  have hc0 := hc.ext xa
  have bR0 : Blk ((w.alloc (.cells #[.slice none 0 0] 40)).alloc (.cells #[.slice none 0 0] 40)) w.heap.size 40 [.slice none 0 0] := (Blk.new w 40 #[.slice none 0 0]).ext ((Ext.refl _).alloc (.cells #[.slice none 0 0] 40))
  have bL0 : Blk ((w.alloc (.cells #[.slice none 0 0] 40)).alloc (.cells #[.slice none 0 0] 40)) (w.heap.size + 1) 40 [.slice none 0 0] := by
    have := Blk.new (w.alloc (.cells #[.slice none 0 0] 40)) 40 #[.slice none 0 0]
    rwa [World.size_alloc] at this
  go_enter Tryz.func119, Tryz.ntmps119
  go_wp2_with fail
  refine (spec_l1Below w0 _ g 5 (by decide) hc0).mono ?_
  rintro e w2 ⟨x, rfl, hx, hc2, hk2⟩
  have hg2 := hc2.base.2.2
  obtain ⟨n0, rfl⟩ : ∃ n : Nat, x = n := ⟨x.toNat, by omega⟩
  have bR2 := bR0.kept (by omega) hk2
  have bL2 := bL0.kept (by omega) hk2
  have k2 := xa.kept.trans hk2
  clear hc hc0 bR0 bL0 hk2 xa
  go_wp2
  go_loopw [4] (fun i wr => ∃ (xs : List Op) (F : List Nat) (n : Nat) (v : Value), i = .int .i64 n ∧ xs.length + n ≤ 4 ∧ Bld opO wr (w.heap.size + 2) 76 v xs F ∧ Blk wr (w.heap.size + 1) 40 [v] ∧ Blk wr w.heap.size 40 [.slice none 0 0] ∧ Cur w0 wr g ∧ Kept g w wr ∧ Hid (∀ o ∈ xs, putLen o)) (fun i _ => (intOf i).toNat)
  case atStart => exact ⟨[], [], n0, _, rfl, by simp; omega, Bld.nil _ _ _, bL2, bR2, hc2, k2, hid fun _ h => by cases h⟩
  case round =>
    clear bL2 bR2 hc2 k2 hg2 hx
    obtain ⟨xs, F, n, v, rfl, hn, hB, bL, bR, hc, hk, hp⟩ := hrel
    obtain ⟨F9, od, _, _⟩ := hB.done
    obtain ⟨A, c, e, _⟩ := od.form
    subst e
    clear od
    have sL := block_lt bL
    have hLF : w.heap.size + 1 ∉ F := fun hm => by have := hB.ge _ hm; omega
    by_cases hn0 : 0 < n
    · skip
      have HL := hid (show ∀ W, Kept g wr W → W.cell? ⟨w.heap.size + 1, 0, none⟩ = some (.slice A xs.length c) ∧ Bld opO W (w.heap.size + 2) 76 (.slice A xs.length c) xs F ∧ Blk W (w.heap.size + 1) 40 [.slice A xs.length c] ∧ Blk W w.heap.size 40 [.slice none 0 0] from fun W k => ⟨(bL.kept (by omega) k).cells.1 0, hB.kept (by omega) k, bL.kept (by omega) k, bR.kept (by omega) k⟩)
      have cw : wr.cell? ⟨w.heap.size + 1, 0, none⟩ = some (.slice A xs.length c) := bL.cells.1 0
      have HBr := hid hB
      have hvL : (Value.slice A xs.length c).ownBlock ≠ some (w.heap.size + 1) := hB.ne_type bL (by decide)
      clear hB bL bR
      go_wp2_with fail
      refine wp_region_J 7 (fun w' => w'.cell? ⟨w.heap.size + 1, 0, none⟩ = some (.slice A xs.length c)) (by kernel_rfl) ?_
      refine wpAnyJ_take (i := 0) (v := ?v0a) (by simp only [List.getElem?_toArray, List.getElem?_cons_succ, List.getElem?_cons_zero, Option.some.injEq]; exact rfl) (by kernel_rfl) (by kernel_rfl) (by kernel_rfl) (by kernel_rfl) (by exact fun _ _ _ h => h) (Or.inl ⟨by rfl, fun w9 hS9 => ?hy0a⟩) (by exact cw) ?rest0a
      case hy0a => (try dsimp only at hS9); go_simp <;> with_reducible rfl
      try simp only [Act.put, List.setIfInBounds_toArray, List.set_cons_zero, List.set_cons_succ]
      refine wpAnyJ_take (i := 1) (v := ?v1a) (by simp only [List.getElem?_toArray, List.getElem?_cons_succ, List.getElem?_cons_zero, Option.some.injEq]; exact rfl) (by kernel_rfl) (by kernel_rfl) (by kernel_rfl) (by kernel_rfl) (by exact fun _ _ _ h => h) (Or.inl ⟨by rfl, fun w9 hS9 => ?hy1a⟩) (by exact cw) ?rest1a
      case hy1a => (try dsimp only at hS9); go_simp <;> with_reducible rfl
      try simp only [Act.put, List.setIfInBounds_toArray, List.set_cons_zero, List.set_cons_succ]
      refine wpAnyJ_take (i := 2) (v := ?v2a) (by simp only [List.getElem?_toArray, List.getElem?_cons_succ, List.getElem?_cons_zero, Option.some.injEq]; exact rfl) (by kernel_rfl) (by kernel_rfl) (by kernel_rfl) (by kernel_rfl) (by exact fun _ _ _ h => h) (Or.inl ⟨by rfl, fun w9 hS9 => ?hy2a⟩) (by exact cw) ?rest2a
      case hy2a => (try dsimp only at hS9); go_simp <;> with_reducible rfl
      try simp only [Act.put, List.setIfInBounds_toArray, List.set_cons_zero, List.set_cons_succ]
      refine wpAnyJ_one (i := 3) (by simp only [List.getElem?_toArray, List.getElem?_cons_succ, List.getElem?_cons_zero, Option.some.injEq]; exact rfl) (by kernel_rfl) (fun K hK => ?_)
      go_simp
      refine (spec_l29Op w0 _ g ?hcur).mono ?_
      case hcur => exact (by repeat (first | with_reducible assumption | with_reducible refine Cur.drew ?_ | with_reducible refine Cur.alloc ?_ _))
      rintro e w4 ⟨v4, o, F4, rfl, ⟨f4, rfl, ok4, o4⟩, n4, hc4, hk4, hp4⟩
      obtain ⟨A4, c4, e4, _⟩ := o4.form
      subst e4
      have hk34 : Kept g wr w4 := (Kept.refl g wr).drew.trans hk4
      obtain ⟨cw4, hB4, bL4, bR4⟩ := HL.out w4 hk34
      refine hK _ _ cw4 ?_
      try simp only [Act.put, List.setIfInBounds_toArray, List.set_cons_zero, List.set_cons_succ]
      clear hK K
      refine wpAnyJ_one (i := 4) (by simp only [List.getElem?_toArray, List.getElem?_cons_succ, List.getElem?_cons_zero, Option.some.injEq]; exact rfl) (by kernel_rfl) (fun K hK => ?_)
      go_simp
      have cw5 := (HL.out _ (hk34.alloc (.cells #[.int .i64 o.kind, .int .i64 o.record.source, .int .i64 o.record.key, .int .i64 o.record.version, .slice A4 o.record.fields.length c4, .int .i64 o.verdict.a, .int .i64 o.verdict.b, .bool o.verdict.same, .int .i64 o.verdict.time] 76))).1
      refine hK _ _ cw5 ?_
      try simp only [Act.put, List.setIfInBounds_toArray, List.set_cons_zero, List.set_cons_succ]
      clear hK K
      have hw4 := hk34.1
      have hLF4 : w.heap.size + 1 ∉ F4 := fun h9 => by have h8 : wr.heap.size ≤ w.heap.size + 1 := n4.2 _ h9; omega
      have hfr := HBr.out.fresh (G := F4) (n4.ext (Ext.refl wr).drew) (by omega)
      refine wpAnyJ_one (i := 5) (by simp only [List.getElem?_toArray, List.getElem?_cons_succ, List.getElem?_cons_zero, Option.some.injEq]; exact rfl) (by kernel_rfl) (fun K hK => ?_)
      refine step_app1k (R := opO) elemOp (by decide) rfl _ _ rfl (hB4.ext ((Ext.refl w4).alloc (.cells #[.int .i64 o.kind, .int .i64 o.record.source, .int .i64 o.record.key, .int .i64 o.record.version, .slice A4 o.record.fields.length c4, .int .i64 o.verdict.a, .int .i64 o.verdict.b, .bool o.verdict.same, .int .i64 o.verdict.time] 76))) rfl w4.heap.size 1 rfl (heap_alloc_new w4 (.cells #[.int .i64 o.kind, .int .i64 o.record.source, .int .i64 o.record.key, .int .i64 o.record.version, .slice A4 o.record.fields.length c4, .int .i64 o.verdict.a, .int .i64 o.verdict.b, .bool o.verdict.same, .int .i64 o.verdict.time] 76)) (one_op _ _ _ _) (y := o) (G := F4) ⟨_, rfl, ok4, o4.ext ((Ext.refl w4).alloc (.cells #[.int .i64 o.kind, .int .i64 o.record.source, .int .i64 o.record.key, .int .i64 o.record.version, .slice A4 o.record.fields.length c4, .int .i64 o.verdict.a, .int .i64 o.verdict.b, .bool o.verdict.same, .int .i64 o.verdict.time] 76))⟩ hfr (by omega) (by decide) (by rw [World.size_alloc]; omega) (w0 := w0) (by omega) (hc4.ext ((Ext.refl w4).alloc (.cells #[.int .i64 o.kind, .int .i64 o.record.source, .int .i64 o.record.key, .int .i64 o.record.version, .slice A4 o.record.fields.length c4, .int .i64 o.verdict.a, .int .i64 o.verdict.b, .bool o.verdict.same, .int .i64 o.verdict.time] 76))).base.1 ?_
      intro v9 w9 hB9 hx9 hk9
      obtain ⟨F88, o88, _, _⟩ := hB9.done
      obtain ⟨A9, c9, e9, _⟩ := o88.form
      rw [List.length_append, List.length_singleton] at e9
      subst e9
      clear o88
      have hne : ∀ b, b < w.heap.size + 2 → (Value.slice A xs.length c).ownBlock ≠ some b := fun b hb e9 => by have h9 := (hB4.lt.2 _ e9).2; omega
      have bL9 := (bL4.ext ((Ext.refl w4).alloc (.cells #[.int .i64 o.kind, .int .i64 o.record.source, .int .i64 o.record.key, .int .i64 o.record.version, .slice A4 o.record.fields.length c4, .int .i64 o.verdict.a, .int .i64 o.verdict.b, .bool o.verdict.same, .int .i64 o.verdict.time] 76))).keep (hk9 (w.heap.size + 1) (by rw [World.size_alloc]; omega) hvL)
      have bR9 := (bR4.ext ((Ext.refl w4).alloc (.cells #[.int .i64 o.kind, .int .i64 o.record.source, .int .i64 o.record.key, .int .i64 o.record.version, .slice A4 o.record.fields.length c4, .int .i64 o.verdict.a, .int .i64 o.verdict.b, .bool o.verdict.same, .int .i64 o.verdict.time] 76))).keep (hk9 w.heap.size (by rw [World.size_alloc]; omega) (hne _ (by omega)))
      refine hK _ _ (bL9.cells.1 0) ?_
      try simp only [Act.put, List.setIfInBounds_toArray, List.set_cons_zero, List.set_cons_succ]
      clear hK K
      refine wpAnyJ_one (i := 6) (by simp only [List.getElem?_toArray, List.getElem?_cons_succ, List.getElem?_cons_zero, Option.some.injEq]; exact rfl) (by kernel_rfl) (fun K hK => ?_)
      go_simp
      refine hK _ _ (bL9.cells.1 0) ?_
      try simp only [Act.put, List.setIfInBounds_toArray, List.set_cons_zero, List.set_cons_succ]
      clear hK K
      have fL9 := bL9.cells.2 0
      have cL9 : w9.cell? ⟨w.heap.size + 1, 0, none⟩ = some (.slice A xs.length c) := bL9.cells.1 0
      refine wpAnyJ_last (by simp only [List.getElem?_toArray, List.getElem?_cons_succ, List.getElem?_cons_zero, Option.some.injEq]; exact rfl) (by kernel_rfl) (by kernel_rfl) (fun K hK => ?_)
      go_simp
      refine hK _ _ ?_
      clear hK K fL9 cL9
      have hB10 : Bld opO (w9.setCell ⟨w.heap.size + 1, 0, none⟩ (.slice A9 (xs.length + 1) c9)) (w.heap.size + 2) 76 (.slice A9 (xs.length + 1) c9) (xs ++ [o]) (F ++ F4) := hB9.setOther (fun hm => (List.mem_append.1 hm).elim hLF hLF4) (hB9.ne_type bL9 (by decide)) _
      have bL10 : Blk (w9.setCell ⟨w.heap.size + 1, 0, none⟩ (.slice A9 (xs.length + 1) c9)) (w.heap.size + 1) 40 [.slice A9 (xs.length + 1) c9] := bL9.setAt 0 (by show 0 < 1; decide) _
      have bR10 : Blk (w9.setCell ⟨w.heap.size + 1, 0, none⟩ (.slice A9 (xs.length + 1) c9)) (w.heap.size) 40 [.slice none 0 0] := bR9.other (by omega)
      have hg9 : w9.heap[g]? = (w4.alloc (.cells #[.int .i64 o.kind, .int .i64 o.record.source, .int .i64 o.record.key, .int .i64 o.record.version, .slice A4 o.record.fields.length c4, .int .i64 o.verdict.a, .int .i64 o.verdict.b, .bool o.verdict.same, .int .i64 o.verdict.time] 76)).heap[g]? := hk9 g (by rw [World.size_alloc]; omega) (hne g (by omega))
      have hc10 : Cur w0 (w9.setCell ⟨w.heap.size + 1, 0, none⟩ (.slice A9 (xs.length + 1) c9)) g := ((hc4.ext ((Ext.refl w4).alloc (.cells #[.int .i64 o.kind, .int .i64 o.record.source, .int .i64 o.record.key, .int .i64 o.record.version, .slice A4 o.record.fields.length c4, .int .i64 o.verdict.a, .int .i64 o.verdict.b, .bool o.verdict.same, .int .i64 o.verdict.time] 76))).keep hx9 hg9).setN (by show g < w.heap.size + 1; omega) _
      have hk10 : Kept g w (w9.setCell ⟨w.heap.size + 1, 0, none⟩ (.slice A9 (xs.length + 1) c9)) := Kept.setN (w2 := w9) ⟨by have := block_lt bL9; omega, fun b hb hn9 => (hk9 b (by rw [World.size_alloc]; omega) (hne b (by omega))).trans (((hk.trans hk34).alloc (.cells #[.int .i64 o.kind, .int .i64 o.record.source, .int .i64 o.record.key, .int .i64 o.record.version, .slice A4 o.record.fields.length c4, .int .i64 o.verdict.a, .int .i64 o.verdict.b, .bool o.verdict.same, .int .i64 o.verdict.time] 76)).2 b hb hn9)⟩ (by show w.heap.size ≤ w.heap.size + 1; omega) _
      obtain ⟨W10, hW10⟩ : ∃ W10, W10 = w9.setCell ⟨w.heap.size + 1, 0, none⟩ (.slice A9 (xs.length + 1) c9) := ⟨_, rfl⟩
      rw [← hW10] at hB10 bL10 bR10 hc10 hk10 ⊢
      clear hW10 hB9 bL9 bR9 hk9 hx9 hc4 hk4 o4 hfr hB4 bL4 bR4 cw cw4 cw5 hg9 hc
      go_wp2
      go_roundw
      case rel => exact ⟨xs ++ [o], F ++ F4, n - 1, _, (by (have e9 : ((n - 1 : Nat) : Int) = (n : Int) - 1 := by omega); rw [e9]), (by rw [List.length_append, List.length_singleton]; omega), hB10, bL10, bR10, hc10, hk10, hid fun q hq => (by
        rcases List.mem_append.1 hq with h | h
        · exact hp.out q h
        · rw [List.mem_singleton] at h; subst h; exact hp4)⟩
      case measure => simp [intOf]; omega
    · obtain rfl : n = 0 := by omega
      obtain ⟨cR, fR⟩ := bR.cells
      have cL : wr.cell? ⟨w.heap.size + 1, 0, none⟩ = some (.slice A xs.length c) := bL.cells.1 0
      have b9 : Blk (wr.setCell ⟨w.heap.size, 0, none⟩ (.slice A xs.length c)) w.heap.size 40 [.slice A xs.length c] := bR.setAt 0 (by show 0 < 1; decide) _
      have r0 : (wr.setCell ⟨w.heap.size, 0, none⟩ (.slice A xs.length c)).cell? ⟨w.heap.size, 0, none⟩ = some (.slice A xs.length c) := b9.cells.1 0
      have o9 : Bld opO (wr.setCell ⟨w.heap.size, 0, none⟩ (.slice A xs.length c)) w.heap.size 76 (.slice A xs.length c) xs F := (hB.keep fun b hb _ => keep_setCell (fun e => by simp only at e; omega)).low (by omega)
      have c9 : Cur w0 (wr.setCell ⟨w.heap.size, 0, none⟩ (.slice A xs.length c)) g := hc.setN hg _
      have k9 : Kept g w (wr.setCell ⟨w.heap.size, 0, none⟩ (.slice A xs.length c)) := hk.setN (Nat.le_refl _) _
      have hlen := hid (show xs.length ≤ 4 by omega)
      clear hB bL b9
      go_wp2
      refine bodyPost_ret (v := .agg #[.slice A xs.length c]) (by simp [results, Tryz.results119, go_sem, r0]) rfl ?_
      exact ⟨_, ⟨xs⟩, F, rfl, o9, c9, k9, hlen.out, hp.out⟩

end Go.Proofs.YtfcbapaojoecgaaGreat

namespace Go.Proofs.YtfcbapaojoecgaaGreat
open Go.RowKit

set_option maxHeartbeats 4000000 in
set_option maxRecDepth 20000 in
theorem spec_l29Batches (w0 w : World) (g : Nat) (hc : Cur w0 w g) :
    Calls Tryz.prog 66 #[.pointer (some ⟨g, 0, none⟩)] w (BatAny w0 w g fun b => b.ops.length ≤ 8) := by
  have hg := hc.base.2.2
  have h0g := hc.base.2.1
  have xa : Ext w (w.alloc (.cells #[.slice none 0 0] 40)) := (Ext.refl w).alloc _
  have hc0 := hc.ext xa
  have bR0 : Blk (w.alloc (.cells #[.slice none 0 0] 40)) w.heap.size 40 [.slice none 0 0] := Blk.new w 40 #[.slice none 0 0]
  go_enter Tryz.func66, Tryz.ntmps66
  go_wp2_with fail
  refine (spec_l29Batch w0 _ g hc0).mono ?_
  rintro e w2 ⟨v, ⟨xs⟩, F, rfl, hB, hc2, hk2, hl, _⟩
  dsimp only at hB hl
  rw [World.size_alloc] at hB
  obtain ⟨F9, od, _, _⟩ := hB.done
  obtain ⟨A, c, e, _⟩ := od.form
  subst e
  clear od
  have hk02 := xa.kept.trans hk2
  have bR2 := bR0.kept (by omega) hk2
  have sR2 := block_lt bR2
  have bL2 : Blk (w2.alloc (.cells #[.slice A xs.length c] 40)) w2.heap.size 40 [.slice A xs.length c] := Blk.new w2 40 #[.slice A xs.length c]
  have bR2b := bR2.ext ((Ext.refl w2).alloc (.cells #[.slice A xs.length c] 40))
  have hB2 := hB.ext ((Ext.refl w2).alloc (.cells #[.slice A xs.length c] 40))
  have hc2b := hc2.ext ((Ext.refl w2).alloc (.cells #[.slice A xs.length c] 40))
  have hk2b := hk02.alloc (.cells #[.slice A xs.length c] 40)
  have hBlt := hB.lt
  clear hc hc0 bR0 hc2 hk2 hk02 bR2 hB xa
  go_wp2_with fail
  refine (spec_l1Below w0 _ g 14 (by decide) hc2b).mono ?_
  rintro e w3 ⟨x, rfl, hx, hc3, hk3⟩
  have hg3 := hc3.base.2.2
  have bL3 := bL2.kept (Nat.ne_of_gt (by omega)) hk3
  have bR3 := bR2b.kept (Nat.ne_of_gt hg) hk3
  have hB3 := hB2.kept (by omega) hk3
  have hk03 := hk2b.trans hk3
  have hLF : w2.heap.size ∉ F := fun hm => by have := hBlt.1 _ hm; omega
  clear bL2 bR2b hc2b hk2b hk3 hB2 hBlt
  by_cases h0 : x = 0
  · subst h0
    obtain ⟨wr, hwr⟩ : ∃ wr, wr = w3 := ⟨_, rfl⟩
    rw [← hwr] at bL3 bR3 hB3 hk03 hc3 hg3 ⊢
    clear hwr
    have bL := bL3
    have bR := bR3
    have hB := hB3
    have hc := hc3
    have hk := hk03
    have sL := block_lt bL
    clear bL3 bR3 hB3 hc3 hk03
    have HL := hid (show ∀ W, Kept g wr W → W.cell? ⟨w2.heap.size, 0, none⟩ = some (.slice A xs.length c) ∧ Bld opO W (w.heap.size + 1) 76 (.slice A xs.length c) xs F ∧ Blk W (w2.heap.size) 40 [.slice A xs.length c] ∧ Blk W w.heap.size 40 [.slice none 0 0] from fun W k => ⟨(bL.kept (by omega) k).cells.1 0, hB.kept (by omega) k, bL.kept (by omega) k, bR.kept (by omega) k⟩)
    have cw : wr.cell? ⟨w2.heap.size, 0, none⟩ = some (.slice A xs.length c) := bL.cells.1 0
    have HBr := hid hB
    have hvL : (Value.slice A xs.length c).ownBlock ≠ some (w2.heap.size) := hB.ne_type bL (by decide)
    clear hB bL bR
    go_wp2_with fail
    refine wp_region_J 7 (fun w' => w'.cell? ⟨w2.heap.size, 0, none⟩ = some (.slice A xs.length c)) (by kernel_rfl) ?_
    refine wpAnyJ_take (i := 0) (v := ?v0a) (by simp only [List.getElem?_toArray, List.getElem?_cons_succ, List.getElem?_cons_zero, Option.some.injEq]; exact rfl) (by kernel_rfl) (by kernel_rfl) (by kernel_rfl) (by kernel_rfl) (by exact fun _ _ _ h => h) (Or.inl ⟨by rfl, fun w9 hS9 => ?hy0a⟩) (by exact cw) ?rest0a
    case hy0a => (try dsimp only at hS9); go_simp <;> with_reducible rfl
    try simp only [Act.put, List.setIfInBounds_toArray, List.set_cons_zero, List.set_cons_succ]
    refine wpAnyJ_take (i := 1) (v := ?v1a) (by simp only [List.getElem?_toArray, List.getElem?_cons_succ, List.getElem?_cons_zero, Option.some.injEq]; exact rfl) (by kernel_rfl) (by kernel_rfl) (by kernel_rfl) (by kernel_rfl) (by exact fun _ _ _ h => h) (Or.inl ⟨by rfl, fun w9 hS9 => ?hy1a⟩) (by exact cw) ?rest1a
    case hy1a => (try dsimp only at hS9); go_simp <;> with_reducible rfl
    try simp only [Act.put, List.setIfInBounds_toArray, List.set_cons_zero, List.set_cons_succ]
    refine wpAnyJ_take (i := 2) (v := ?v2a) (by simp only [List.getElem?_toArray, List.getElem?_cons_succ, List.getElem?_cons_zero, Option.some.injEq]; exact rfl) (by kernel_rfl) (by kernel_rfl) (by kernel_rfl) (by kernel_rfl) (by exact fun _ _ _ h => h) (Or.inl ⟨by rfl, fun w9 hS9 => ?hy2a⟩) (by exact cw) ?rest2a
    case hy2a => (try dsimp only at hS9); go_simp <;> with_reducible rfl
    try simp only [Act.put, List.setIfInBounds_toArray, List.set_cons_zero, List.set_cons_succ]
    refine wpAnyJ_one (i := 3) (by simp only [List.getElem?_toArray, List.getElem?_cons_succ, List.getElem?_cons_zero, Option.some.injEq]; exact rfl) (by kernel_rfl) (fun K hK => ?_)
    go_simp
    refine (spec_l29Any w0 _ g ?hcur).mono ?_
    case hcur => exact (by repeat (first | with_reducible assumption | with_reducible refine Cur.drew ?_ | with_reducible refine Cur.alloc ?_ _))
    rintro e w4 ⟨v4, o, F4, rfl, ⟨f4, rfl, ok4, o4⟩, n4, hc4, hk4, _⟩
    obtain ⟨A4, c4, e4, _⟩ := o4.form
    subst e4
    have hk34 : Kept g wr w4 := (Kept.refl g wr).drew.trans hk4
    obtain ⟨cw4, hB4, bL4, bR4⟩ := HL.out w4 hk34
    refine hK _ _ cw4 ?_
    try simp only [Act.put, List.setIfInBounds_toArray, List.set_cons_zero, List.set_cons_succ]
    clear hK K
    refine wpAnyJ_one (i := 4) (by simp only [List.getElem?_toArray, List.getElem?_cons_succ, List.getElem?_cons_zero, Option.some.injEq]; exact rfl) (by kernel_rfl) (fun K hK => ?_)
    go_simp
    have cw5 := (HL.out _ (hk34.alloc (.cells #[.int .i64 o.kind, .int .i64 o.record.source, .int .i64 o.record.key, .int .i64 o.record.version, .slice A4 o.record.fields.length c4, .int .i64 o.verdict.a, .int .i64 o.verdict.b, .bool o.verdict.same, .int .i64 o.verdict.time] 76))).1
    refine hK _ _ cw5 ?_
    try simp only [Act.put, List.setIfInBounds_toArray, List.set_cons_zero, List.set_cons_succ]
    clear hK K
    have hw4 := hk34.1
    have hLF4 : w2.heap.size ∉ F4 := fun h9 => by have h8 : wr.heap.size ≤ w2.heap.size := n4.2 _ h9; omega
    have hfr := HBr.out.fresh (G := F4) (n4.ext (Ext.refl wr).drew) (by omega)
    refine wpAnyJ_one (i := 5) (by simp only [List.getElem?_toArray, List.getElem?_cons_succ, List.getElem?_cons_zero, Option.some.injEq]; exact rfl) (by kernel_rfl) (fun K hK => ?_)
    refine step_app1k (R := opO) elemOp (by decide) rfl _ _ rfl (hB4.ext ((Ext.refl w4).alloc (.cells #[.int .i64 o.kind, .int .i64 o.record.source, .int .i64 o.record.key, .int .i64 o.record.version, .slice A4 o.record.fields.length c4, .int .i64 o.verdict.a, .int .i64 o.verdict.b, .bool o.verdict.same, .int .i64 o.verdict.time] 76))) rfl w4.heap.size 1 rfl (heap_alloc_new w4 (.cells #[.int .i64 o.kind, .int .i64 o.record.source, .int .i64 o.record.key, .int .i64 o.record.version, .slice A4 o.record.fields.length c4, .int .i64 o.verdict.a, .int .i64 o.verdict.b, .bool o.verdict.same, .int .i64 o.verdict.time] 76)) (one_op _ _ _ _) (y := o) (G := F4) ⟨_, rfl, ok4, o4.ext ((Ext.refl w4).alloc (.cells #[.int .i64 o.kind, .int .i64 o.record.source, .int .i64 o.record.key, .int .i64 o.record.version, .slice A4 o.record.fields.length c4, .int .i64 o.verdict.a, .int .i64 o.verdict.b, .bool o.verdict.same, .int .i64 o.verdict.time] 76))⟩ hfr (by omega) (by decide) (by rw [World.size_alloc]; omega) (w0 := w0) (by omega) (hc4.ext ((Ext.refl w4).alloc (.cells #[.int .i64 o.kind, .int .i64 o.record.source, .int .i64 o.record.key, .int .i64 o.record.version, .slice A4 o.record.fields.length c4, .int .i64 o.verdict.a, .int .i64 o.verdict.b, .bool o.verdict.same, .int .i64 o.verdict.time] 76))).base.1 ?_
    intro v9 w9 hB9 hx9 hk9
    obtain ⟨F88, o88, _, _⟩ := hB9.done
    obtain ⟨A9, c9, e9, _⟩ := o88.form
    rw [List.length_append, List.length_singleton] at e9
    subst e9
    clear o88
    have hne : ∀ b, b < w.heap.size + 1 → (Value.slice A xs.length c).ownBlock ≠ some b := fun b hb e9 => by have h9 := (hB4.lt.2 _ e9).2; omega
    have bL9 := (bL4.ext ((Ext.refl w4).alloc (.cells #[.int .i64 o.kind, .int .i64 o.record.source, .int .i64 o.record.key, .int .i64 o.record.version, .slice A4 o.record.fields.length c4, .int .i64 o.verdict.a, .int .i64 o.verdict.b, .bool o.verdict.same, .int .i64 o.verdict.time] 76))).keep (hk9 (w2.heap.size) (by rw [World.size_alloc]; omega) hvL)
    have bR9 := (bR4.ext ((Ext.refl w4).alloc (.cells #[.int .i64 o.kind, .int .i64 o.record.source, .int .i64 o.record.key, .int .i64 o.record.version, .slice A4 o.record.fields.length c4, .int .i64 o.verdict.a, .int .i64 o.verdict.b, .bool o.verdict.same, .int .i64 o.verdict.time] 76))).keep (hk9 w.heap.size (by rw [World.size_alloc]; omega) (hne _ (by omega)))
    refine hK _ _ (bL9.cells.1 0) ?_
    try simp only [Act.put, List.setIfInBounds_toArray, List.set_cons_zero, List.set_cons_succ]
    clear hK K
    refine wpAnyJ_one (i := 6) (by simp only [List.getElem?_toArray, List.getElem?_cons_succ, List.getElem?_cons_zero, Option.some.injEq]; exact rfl) (by kernel_rfl) (fun K hK => ?_)
    go_simp
    refine hK _ _ (bL9.cells.1 0) ?_
    try simp only [Act.put, List.setIfInBounds_toArray, List.set_cons_zero, List.set_cons_succ]
    clear hK K
    have fL9 := bL9.cells.2 0
    have cL9 : w9.cell? ⟨w2.heap.size, 0, none⟩ = some (.slice A xs.length c) := bL9.cells.1 0
    refine wpAnyJ_last (by simp only [List.getElem?_toArray, List.getElem?_cons_succ, List.getElem?_cons_zero, Option.some.injEq]; exact rfl) (by kernel_rfl) (by kernel_rfl) (fun K hK => ?_)
    go_simp
    refine hK _ _ ?_
    clear hK K fL9 cL9
    have hB10 : Bld opO (w9.setCell ⟨w2.heap.size, 0, none⟩ (.slice A9 (xs.length + 1) c9)) (w.heap.size + 1) 76 (.slice A9 (xs.length + 1) c9) (xs ++ [o]) (F ++ F4) := hB9.setOther (fun hm => (List.mem_append.1 hm).elim hLF hLF4) (hB9.ne_type bL9 (by decide)) _
    have bL10 : Blk (w9.setCell ⟨w2.heap.size, 0, none⟩ (.slice A9 (xs.length + 1) c9)) (w2.heap.size) 40 [.slice A9 (xs.length + 1) c9] := bL9.setAt 0 (by show 0 < 1; decide) _
    have bR10 : Blk (w9.setCell ⟨w2.heap.size, 0, none⟩ (.slice A9 (xs.length + 1) c9)) (w.heap.size) 40 [.slice none 0 0] := bR9.other (by omega)
    have hg9 : w9.heap[g]? = (w4.alloc (.cells #[.int .i64 o.kind, .int .i64 o.record.source, .int .i64 o.record.key, .int .i64 o.record.version, .slice A4 o.record.fields.length c4, .int .i64 o.verdict.a, .int .i64 o.verdict.b, .bool o.verdict.same, .int .i64 o.verdict.time] 76)).heap[g]? := hk9 g (by rw [World.size_alloc]; omega) (hne g (by omega))
    have hc10 : Cur w0 (w9.setCell ⟨w2.heap.size, 0, none⟩ (.slice A9 (xs.length + 1) c9)) g := ((hc4.ext ((Ext.refl w4).alloc (.cells #[.int .i64 o.kind, .int .i64 o.record.source, .int .i64 o.record.key, .int .i64 o.record.version, .slice A4 o.record.fields.length c4, .int .i64 o.verdict.a, .int .i64 o.verdict.b, .bool o.verdict.same, .int .i64 o.verdict.time] 76))).keep hx9 hg9).setN (by show g < w2.heap.size; omega) _
    have hk10 : Kept g w (w9.setCell ⟨w2.heap.size, 0, none⟩ (.slice A9 (xs.length + 1) c9)) := Kept.setN (w2 := w9) ⟨by have := block_lt bL9; omega, fun b hb hn9 => (hk9 b (by rw [World.size_alloc]; omega) (hne b (by omega))).trans (((hk.trans hk34).alloc (.cells #[.int .i64 o.kind, .int .i64 o.record.source, .int .i64 o.record.key, .int .i64 o.record.version, .slice A4 o.record.fields.length c4, .int .i64 o.verdict.a, .int .i64 o.verdict.b, .bool o.verdict.same, .int .i64 o.verdict.time] 76)).2 b hb hn9)⟩ (by show w.heap.size ≤ w2.heap.size; omega) _
    obtain ⟨W10, hW10⟩ : ∃ W10, W10 = w9.setCell ⟨w2.heap.size, 0, none⟩ (.slice A9 (xs.length + 1) c9) := ⟨_, rfl⟩
    rw [← hW10] at hB10 bL10 bR10 hc10 hk10 ⊢
    clear hW10 hB9 bL9 bR9 hk9 hx9 hc4 hk4 o4 hfr hB4 bL4 bR4 cw cw4 cw5 hg9 hc
    have cL10 : W10.cell? ⟨w2.heap.size, 0, none⟩ = some (.slice A9 (xs.length + 1) c9) := bL10.cells.1 0
    obtain ⟨cR, fR⟩ := bR10.cells
    have cL : W10.cell? ⟨w2.heap.size, 0, none⟩ = some (.slice A9 (xs.length + 1) c9) := bL10.cells.1 0
    have b9 : Blk (W10.setCell ⟨w.heap.size, 0, none⟩ (.slice A9 (xs.length + 1) c9)) w.heap.size 40 [.slice A9 (xs.length + 1) c9] := bR10.setAt 0 (by show 0 < 1; decide) _
    have r0 : (W10.setCell ⟨w.heap.size, 0, none⟩ (.slice A9 (xs.length + 1) c9)).cell? ⟨w.heap.size, 0, none⟩ = some (.slice A9 (xs.length + 1) c9) := b9.cells.1 0
    have o9 : Bld opO (W10.setCell ⟨w.heap.size, 0, none⟩ (.slice A9 (xs.length + 1) c9)) w.heap.size 76 (.slice A9 (xs.length + 1) c9) (xs ++ [o]) (F ++ F4) := (hB10.keep fun b hb _ => keep_setCell (fun e => by simp only at e; omega)).low (by omega)
    have cF9 : Cur w0 (W10.setCell ⟨w.heap.size, 0, none⟩ (.slice A9 (xs.length + 1) c9)) g := hc10.setN hg _
    have kF9 : Kept g w (W10.setCell ⟨w.heap.size, 0, none⟩ (.slice A9 (xs.length + 1) c9)) := hk10.setN (Nat.le_refl _) _
    have HLEN := hid (show ((xs ++ [o])).length ≤ 8 by rw [List.length_append, List.length_singleton]; omega)
    clear hB10 bL10 b9
    go_wp2
    refine bodyPost_ret (v := .agg #[.slice A9 (xs.length + 1) c9]) (by simp [results, Tryz.results66, go_sem, r0]) rfl ?_
    exact ⟨_, ⟨(xs ++ [o])⟩, (F ++ F4), rfl, o9, cF9, kF9, HLEN.out⟩
  · by_cases h1 : x = 1
    · subst h1
      go_wp2
      go_loopg [] 7 (fun k wr => ∃ (xs : List Op) (F : List Nat) (v : Value), 7 ≤ xs.length + k ∧ xs.length ≤ 8 ∧ Bld opO wr (w.heap.size + 1) 76 v xs F ∧ Blk wr w2.heap.size 40 [v] ∧ Blk wr w.heap.size 40 [.slice none 0 0] ∧ Cur w0 wr g ∧ Kept g w wr ∧ w2.heap.size ∉ F)
      case atStart => exact ⟨xs, F, _, by omega, by omega, hB3, bL3, bR3, hc3, hk03, hLF⟩
      case round =>
        clear bL3 bR3 hB3 hc3 hk03 hLF hl hg3
        obtain ⟨xs, F, v, h7, hl, hB, bL, bR, hc, hk, hLF⟩ := hrel
        obtain ⟨F9, od, _, _⟩ := hB.done
        obtain ⟨A, c, e, _⟩ := od.form
        subst e
        clear od
        have sL := block_lt bL
        have cLr : wr.cell? ⟨w2.heap.size, 0, none⟩ = some (.slice A xs.length c) := bL.cells.1 0
        by_cases hlt : xs.length < 7
        · have hlt' : (xs.length : Int) < 7 := by omega
          have HL := hid (show ∀ W, Kept g wr W → W.cell? ⟨w2.heap.size, 0, none⟩ = some (.slice A xs.length c) ∧ Bld opO W (w.heap.size + 1) 76 (.slice A xs.length c) xs F ∧ Blk W (w2.heap.size) 40 [.slice A xs.length c] ∧ Blk W w.heap.size 40 [.slice none 0 0] from fun W k => ⟨(bL.kept (by omega) k).cells.1 0, hB.kept (by omega) k, bL.kept (by omega) k, bR.kept (by omega) k⟩)
          have cw : wr.cell? ⟨w2.heap.size, 0, none⟩ = some (.slice A xs.length c) := bL.cells.1 0
          have HBr := hid hB
          have hvL : (Value.slice A xs.length c).ownBlock ≠ some (w2.heap.size) := hB.ne_type bL (by decide)
          clear hB bL bR
          go_wp2_with fail
          refine wp_region_J 7 (fun w' => w'.cell? ⟨w2.heap.size, 0, none⟩ = some (.slice A xs.length c)) (by kernel_rfl) ?_
          refine wpAnyJ_take (i := 0) (v := ?v0b) (by simp only [List.getElem?_toArray, List.getElem?_cons_succ, List.getElem?_cons_zero, Option.some.injEq]; exact rfl) (by kernel_rfl) (by kernel_rfl) (by kernel_rfl) (by kernel_rfl) (by exact fun _ _ _ h => h) (Or.inl ⟨by rfl, fun w9 hS9 => ?hy0b⟩) (by exact cw) ?rest0b
          case hy0b => (try dsimp only at hS9); go_simp <;> with_reducible rfl
          try simp only [Act.put, List.setIfInBounds_toArray, List.set_cons_zero, List.set_cons_succ]
          refine wpAnyJ_take (i := 1) (v := ?v1b) (by simp only [List.getElem?_toArray, List.getElem?_cons_succ, List.getElem?_cons_zero, Option.some.injEq]; exact rfl) (by kernel_rfl) (by kernel_rfl) (by kernel_rfl) (by kernel_rfl) (by exact fun _ _ _ h => h) (Or.inl ⟨by rfl, fun w9 hS9 => ?hy1b⟩) (by exact cw) ?rest1b
          case hy1b => (try dsimp only at hS9); go_simp <;> with_reducible rfl
          try simp only [Act.put, List.setIfInBounds_toArray, List.set_cons_zero, List.set_cons_succ]
          refine wpAnyJ_take (i := 2) (v := ?v2b) (by simp only [List.getElem?_toArray, List.getElem?_cons_succ, List.getElem?_cons_zero, Option.some.injEq]; exact rfl) (by kernel_rfl) (by kernel_rfl) (by kernel_rfl) (by kernel_rfl) (by exact fun _ _ _ h => h) (Or.inl ⟨by rfl, fun w9 hS9 => ?hy2b⟩) (by exact cw) ?rest2b
          case hy2b => (try dsimp only at hS9); go_simp <;> with_reducible rfl
          try simp only [Act.put, List.setIfInBounds_toArray, List.set_cons_zero, List.set_cons_succ]
          refine wpAnyJ_one (i := 3) (by simp only [List.getElem?_toArray, List.getElem?_cons_succ, List.getElem?_cons_zero, Option.some.injEq]; exact rfl) (by kernel_rfl) (fun K hK => ?_)
          go_simp
          refine (spec_l29Op w0 _ g ?hcur).mono ?_
          case hcur => exact (by repeat (first | with_reducible assumption | with_reducible refine Cur.drew ?_ | with_reducible refine Cur.alloc ?_ _))
          rintro e w4 ⟨v4, o, F4, rfl, ⟨f4, rfl, ok4, o4⟩, n4, hc4, hk4, _⟩
          obtain ⟨A4, c4, e4, _⟩ := o4.form
          subst e4
          have hk34 : Kept g wr w4 := (Kept.refl g wr).drew.trans hk4
          obtain ⟨cw4, hB4, bL4, bR4⟩ := HL.out w4 hk34
          refine hK _ _ cw4 ?_
          try simp only [Act.put, List.setIfInBounds_toArray, List.set_cons_zero, List.set_cons_succ]
          clear hK K
          refine wpAnyJ_one (i := 4) (by simp only [List.getElem?_toArray, List.getElem?_cons_succ, List.getElem?_cons_zero, Option.some.injEq]; exact rfl) (by kernel_rfl) (fun K hK => ?_)
          go_simp
          have cw5 := (HL.out _ (hk34.alloc (.cells #[.int .i64 o.kind, .int .i64 o.record.source, .int .i64 o.record.key, .int .i64 o.record.version, .slice A4 o.record.fields.length c4, .int .i64 o.verdict.a, .int .i64 o.verdict.b, .bool o.verdict.same, .int .i64 o.verdict.time] 76))).1
          refine hK _ _ cw5 ?_
          try simp only [Act.put, List.setIfInBounds_toArray, List.set_cons_zero, List.set_cons_succ]
          clear hK K
          have hw4 := hk34.1
          have hLF4 : w2.heap.size ∉ F4 := fun h9 => by have h8 : wr.heap.size ≤ w2.heap.size := n4.2 _ h9; omega
          have hfr := HBr.out.fresh (G := F4) (n4.ext (Ext.refl wr).drew) (by omega)
          refine wpAnyJ_one (i := 5) (by simp only [List.getElem?_toArray, List.getElem?_cons_succ, List.getElem?_cons_zero, Option.some.injEq]; exact rfl) (by kernel_rfl) (fun K hK => ?_)
          refine step_app1k (R := opO) elemOp (by decide) rfl _ _ rfl (hB4.ext ((Ext.refl w4).alloc (.cells #[.int .i64 o.kind, .int .i64 o.record.source, .int .i64 o.record.key, .int .i64 o.record.version, .slice A4 o.record.fields.length c4, .int .i64 o.verdict.a, .int .i64 o.verdict.b, .bool o.verdict.same, .int .i64 o.verdict.time] 76))) rfl w4.heap.size 1 rfl (heap_alloc_new w4 (.cells #[.int .i64 o.kind, .int .i64 o.record.source, .int .i64 o.record.key, .int .i64 o.record.version, .slice A4 o.record.fields.length c4, .int .i64 o.verdict.a, .int .i64 o.verdict.b, .bool o.verdict.same, .int .i64 o.verdict.time] 76)) (one_op _ _ _ _) (y := o) (G := F4) ⟨_, rfl, ok4, o4.ext ((Ext.refl w4).alloc (.cells #[.int .i64 o.kind, .int .i64 o.record.source, .int .i64 o.record.key, .int .i64 o.record.version, .slice A4 o.record.fields.length c4, .int .i64 o.verdict.a, .int .i64 o.verdict.b, .bool o.verdict.same, .int .i64 o.verdict.time] 76))⟩ hfr (by omega) (by decide) (by rw [World.size_alloc]; omega) (w0 := w0) (by omega) (hc4.ext ((Ext.refl w4).alloc (.cells #[.int .i64 o.kind, .int .i64 o.record.source, .int .i64 o.record.key, .int .i64 o.record.version, .slice A4 o.record.fields.length c4, .int .i64 o.verdict.a, .int .i64 o.verdict.b, .bool o.verdict.same, .int .i64 o.verdict.time] 76))).base.1 ?_
          intro v9 w9 hB9 hx9 hk9
          obtain ⟨F88, o88, _, _⟩ := hB9.done
          obtain ⟨A9, c9, e9, _⟩ := o88.form
          rw [List.length_append, List.length_singleton] at e9
          subst e9
          clear o88
          have hne : ∀ b, b < w.heap.size + 1 → (Value.slice A xs.length c).ownBlock ≠ some b := fun b hb e9 => by have h9 := (hB4.lt.2 _ e9).2; omega
          have bL9 := (bL4.ext ((Ext.refl w4).alloc (.cells #[.int .i64 o.kind, .int .i64 o.record.source, .int .i64 o.record.key, .int .i64 o.record.version, .slice A4 o.record.fields.length c4, .int .i64 o.verdict.a, .int .i64 o.verdict.b, .bool o.verdict.same, .int .i64 o.verdict.time] 76))).keep (hk9 (w2.heap.size) (by rw [World.size_alloc]; omega) hvL)
          have bR9 := (bR4.ext ((Ext.refl w4).alloc (.cells #[.int .i64 o.kind, .int .i64 o.record.source, .int .i64 o.record.key, .int .i64 o.record.version, .slice A4 o.record.fields.length c4, .int .i64 o.verdict.a, .int .i64 o.verdict.b, .bool o.verdict.same, .int .i64 o.verdict.time] 76))).keep (hk9 w.heap.size (by rw [World.size_alloc]; omega) (hne _ (by omega)))
          refine hK _ _ (bL9.cells.1 0) ?_
          try simp only [Act.put, List.setIfInBounds_toArray, List.set_cons_zero, List.set_cons_succ]
          clear hK K
          refine wpAnyJ_one (i := 6) (by simp only [List.getElem?_toArray, List.getElem?_cons_succ, List.getElem?_cons_zero, Option.some.injEq]; exact rfl) (by kernel_rfl) (fun K hK => ?_)
          go_simp
          refine hK _ _ (bL9.cells.1 0) ?_
          try simp only [Act.put, List.setIfInBounds_toArray, List.set_cons_zero, List.set_cons_succ]
          clear hK K
          have fL9 := bL9.cells.2 0
          have cL9 : w9.cell? ⟨w2.heap.size, 0, none⟩ = some (.slice A xs.length c) := bL9.cells.1 0
          refine wpAnyJ_last (by simp only [List.getElem?_toArray, List.getElem?_cons_succ, List.getElem?_cons_zero, Option.some.injEq]; exact rfl) (by kernel_rfl) (by kernel_rfl) (fun K hK => ?_)
          go_simp
          refine hK _ _ ?_
          clear hK K fL9 cL9
          have hB10 : Bld opO (w9.setCell ⟨w2.heap.size, 0, none⟩ (.slice A9 (xs.length + 1) c9)) (w.heap.size + 1) 76 (.slice A9 (xs.length + 1) c9) (xs ++ [o]) (F ++ F4) := hB9.setOther (fun hm => (List.mem_append.1 hm).elim hLF hLF4) (hB9.ne_type bL9 (by decide)) _
          have bL10 : Blk (w9.setCell ⟨w2.heap.size, 0, none⟩ (.slice A9 (xs.length + 1) c9)) (w2.heap.size) 40 [.slice A9 (xs.length + 1) c9] := bL9.setAt 0 (by show 0 < 1; decide) _
          have bR10 : Blk (w9.setCell ⟨w2.heap.size, 0, none⟩ (.slice A9 (xs.length + 1) c9)) (w.heap.size) 40 [.slice none 0 0] := bR9.other (by omega)
          have hg9 : w9.heap[g]? = (w4.alloc (.cells #[.int .i64 o.kind, .int .i64 o.record.source, .int .i64 o.record.key, .int .i64 o.record.version, .slice A4 o.record.fields.length c4, .int .i64 o.verdict.a, .int .i64 o.verdict.b, .bool o.verdict.same, .int .i64 o.verdict.time] 76)).heap[g]? := hk9 g (by rw [World.size_alloc]; omega) (hne g (by omega))
          have hc10 : Cur w0 (w9.setCell ⟨w2.heap.size, 0, none⟩ (.slice A9 (xs.length + 1) c9)) g := ((hc4.ext ((Ext.refl w4).alloc (.cells #[.int .i64 o.kind, .int .i64 o.record.source, .int .i64 o.record.key, .int .i64 o.record.version, .slice A4 o.record.fields.length c4, .int .i64 o.verdict.a, .int .i64 o.verdict.b, .bool o.verdict.same, .int .i64 o.verdict.time] 76))).keep hx9 hg9).setN (by show g < w2.heap.size; omega) _
          have hk10 : Kept g w (w9.setCell ⟨w2.heap.size, 0, none⟩ (.slice A9 (xs.length + 1) c9)) := Kept.setN (w2 := w9) ⟨by have := block_lt bL9; omega, fun b hb hn9 => (hk9 b (by rw [World.size_alloc]; omega) (hne b (by omega))).trans (((hk.trans hk34).alloc (.cells #[.int .i64 o.kind, .int .i64 o.record.source, .int .i64 o.record.key, .int .i64 o.record.version, .slice A4 o.record.fields.length c4, .int .i64 o.verdict.a, .int .i64 o.verdict.b, .bool o.verdict.same, .int .i64 o.verdict.time] 76)).2 b hb hn9)⟩ (by show w.heap.size ≤ w2.heap.size; omega) _
          obtain ⟨W10, hW10⟩ : ∃ W10, W10 = w9.setCell ⟨w2.heap.size, 0, none⟩ (.slice A9 (xs.length + 1) c9) := ⟨_, rfl⟩
          rw [← hW10] at hB10 bL10 bR10 hc10 hk10 ⊢
          clear hW10 hB9 bL9 bR9 hk9 hx9 hc4 hk4 o4 hfr hB4 bL4 bR4 cw cw4 cw5 hg9 hc
          go_wp2
          go_roundg (gk - 1)
          case measure => omega
          case rel => exact ⟨xs ++ [o], F ++ F4, _, by rw [List.length_append, List.length_singleton]; omega, by rw [List.length_append, List.length_singleton]; omega, hB10, bL10, bR10, hc10, hk10, fun hm => (List.mem_append.1 hm).elim hLF hLF4⟩
        · have hlt' : ¬ (xs.length : Int) < 7 := by omega
          have HLT := hid hlt
          clear hlt
          obtain ⟨cR, fR⟩ := bR.cells
          have cL : wr.cell? ⟨w2.heap.size, 0, none⟩ = some (.slice A xs.length c) := bL.cells.1 0
          have b9 : Blk (wr.setCell ⟨w.heap.size, 0, none⟩ (.slice A xs.length c)) w.heap.size 40 [.slice A xs.length c] := bR.setAt 0 (by show 0 < 1; decide) _
          have r0 : (wr.setCell ⟨w.heap.size, 0, none⟩ (.slice A xs.length c)).cell? ⟨w.heap.size, 0, none⟩ = some (.slice A xs.length c) := b9.cells.1 0
          have o9 : Bld opO (wr.setCell ⟨w.heap.size, 0, none⟩ (.slice A xs.length c)) w.heap.size 76 (.slice A xs.length c) xs F := (hB.keep fun b hb _ => keep_setCell (fun e => by simp only at e; omega)).low (by omega)
          have cF9 : Cur w0 (wr.setCell ⟨w.heap.size, 0, none⟩ (.slice A xs.length c)) g := hc.setN hg _
          have kF9 : Kept g w (wr.setCell ⟨w.heap.size, 0, none⟩ (.slice A xs.length c)) := hk.setN (Nat.le_refl _) _
          have HLEN := hid (show (xs).length ≤ 8 by omega)
          clear hB bL b9
          go_wp2
          refine bodyPost_ret (v := .agg #[.slice A xs.length c]) (by simp [results, Tryz.results66, go_sem, r0]) rfl ?_
          exact ⟨_, ⟨xs⟩, F, rfl, o9, cF9, kF9, HLEN.out⟩
    · have cL3 : w3.cell? ⟨w2.heap.size, 0, none⟩ = some (.slice A xs.length c) := bL3.cells.1 0
      obtain ⟨cR, fR⟩ := bR3.cells
      have cL : w3.cell? ⟨w2.heap.size, 0, none⟩ = some (.slice A xs.length c) := bL3.cells.1 0
      have b9 : Blk (w3.setCell ⟨w.heap.size, 0, none⟩ (.slice A xs.length c)) w.heap.size 40 [.slice A xs.length c] := bR3.setAt 0 (by show 0 < 1; decide) _
      have r0 : (w3.setCell ⟨w.heap.size, 0, none⟩ (.slice A xs.length c)).cell? ⟨w.heap.size, 0, none⟩ = some (.slice A xs.length c) := b9.cells.1 0
      have o9 : Bld opO (w3.setCell ⟨w.heap.size, 0, none⟩ (.slice A xs.length c)) w.heap.size 76 (.slice A xs.length c) xs F := (hB3.keep fun b hb _ => keep_setCell (fun e => by simp only at e; omega)).low (by omega)
      have cF9 : Cur w0 (w3.setCell ⟨w.heap.size, 0, none⟩ (.slice A xs.length c)) g := hc3.setN hg _
      have kF9 : Kept g w (w3.setCell ⟨w.heap.size, 0, none⟩ (.slice A xs.length c)) := hk03.setN (Nat.le_refl _) _
      have HLEN := hid (show (xs).length ≤ 8 by omega)
      clear hB3 bL3 b9
      go_wp2
      refine bodyPost_ret (v := .agg #[.slice A xs.length c]) (by simp [results, Tryz.results66, go_sem, r0]) rfl ?_
      exact ⟨_, ⟨xs⟩, F, rfl, o9, cF9, kF9, HLEN.out⟩

end Go.Proofs.YtfcbapaojoecgaaGreat
