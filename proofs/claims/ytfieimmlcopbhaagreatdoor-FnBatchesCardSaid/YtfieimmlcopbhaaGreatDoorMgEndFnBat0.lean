/-
  SEVERAL SMALL TEXTS LAID TOGETHER: DrawB, RegK, OpS, ShTrimP, ShTrimS, RegJ, DrawC, Bat, EqBat.
-/
import Derived.Test.YtfieimmlcopbhaaGreatDoorMgEndFnRec22
import Derived.Test.YtfieimmlcopbhaaGreatDoorMgEndFnRec14
import Derived.Deep.RegionHeld3
import Derived.Test.YtfieimmlcopbhaaGreatDoorMgEndFnRec0
import Derived.OrdersHeld
import Derived.Shelf.Strings.Prefix
import Derived.Test.YtfieimmlcopbhaaGreatDoorMgEndFnRec11

namespace Go.Proofs.YtfieimmlcopbhaaGreatDoor
open Go.RowKit

/-- an operation that was drawn -/
def OpAny (w0 w : World) (g : Nat) (p : Op → Prop) (e : Ending) (w2 : World) : Prop := ∃ v o F, e = .returned v ∧ OpOwn w2 v o F ∧ NewF w F ∧ Cur w0 w2 g ∧ Kept g w w2 ∧ p o
theorem i64_0 : I64 0 := ⟨by decide, by decide⟩
theorem okOpR {k x y z : Int} {fs : List ByteArray} (hk : I64 k) (hx : I64 x) (hy : I64 y) (hz : I64 z) : Op.ok ⟨k, ⟨x, y, z, fs⟩, ⟨0, 0, false, 0⟩⟩ := ⟨hk, ⟨hx, hy, hz⟩, i64_0, i64_0, i64_0⟩
theorem okOpV {k : Int} {v : Verdict} (hk : I64 k) (hv : v.ok) : Op.ok ⟨k, ⟨0, 0, 0, []⟩, v⟩ := ⟨hk, ⟨i64_0, i64_0, i64_0⟩, hv⟩
def putLen (o : Op) : Prop := o.kind = 1 → o.record.fields.length = 4

theorem putNo {o : Op} (h : ¬ o.kind = 1) : putLen o := fun e => absurd e h

set_option maxHeartbeats 2000000 in
set_option maxRecDepth 20000 in
theorem spec_l29Op (w0 w : World) (g : Nat) (hc : Cur w0 w g) :
    Calls Tryz.prog 122 #[.pointer (some ⟨g, 0, none⟩)] w (OpAny w0 w g putLen) := by
  have hg := hc.base.2.2
  have hc0 := hc.ext ((Ext.refl w).alloc (.cells #[.int .i64 0, .int .i64 0, .int .i64 0, .int .i64 0, .slice none 0 0, .int .i64 0, .int .i64 0, .bool false, .int .i64 0] 28))
  have k0 := Ext.kept (g := g) ((Ext.refl w).alloc (.cells #[.int .i64 0, .int .i64 0, .int .i64 0, .int .i64 0, .slice none 0 0, .int .i64 0, .int .i64 0, .bool false, .int .i64 0] 28))
  have b0 : Blk (w.alloc (.cells #[.int .i64 0, .int .i64 0, .int .i64 0, .int .i64 0, .slice none 0 0, .int .i64 0, .int .i64 0, .bool false, .int .i64 0] 28)) w.heap.size 28 [.int .i64 0, .int .i64 0, .int .i64 0, .int .i64 0, .slice none 0 0, .int .i64 0, .int .i64 0, .bool false, .int .i64 0] := Blk.new w 28 #[.int .i64 0, .int .i64 0, .int .i64 0, .int .i64 0, .slice none 0 0, .int .i64 0, .int .i64 0, .bool false, .int .i64 0]
  go_enter Tryz.func122, Tryz.ntmps122
  go_wp2_with fail
  refine (spec_l1Below w0 _ g 6 (by decide) hc0).mono ?_
  rintro e w2 ⟨x, rfl, hx, hc2, hk2⟩
  have hg2 := hc2.base.2.2
  have hk02 := k0.trans hk2
  have bR2 := b0.kept (Nat.ne_of_gt hg) hk2
  clear hc hc0 k0 b0
  by_cases h0 : x = 0
  · subst h0
    go_wp2_with fail
    refine (spec_l8Record w0 _ g hc2).mono ?_
    rintro e w3 ⟨b, r, rfl, rok, ro, rl, rb, hc3, hk3⟩
    have hgL := hc3.base.2.2
    have hk03 := hk02.trans hk3
    have hwL := hk03.1
    have sRL := block_lt (bR2.kept (Nat.ne_of_gt hg) hk3)
    have hw2 := hk02.1
    have sR2 := block_lt bR2
    have lb := ro.lt b (List.mem_singleton.2 rfl)
    have bL : Blk (w3.alloc (.cells #[.int .i64 r.source, .int .i64 r.key, .int .i64 r.version, .slice (some ⟨b, 0, none⟩) 4 4] 24)) w3.heap.size 24 [.int .i64 r.source, .int .i64 r.key, .int .i64 r.version, .slice (some ⟨b, 0, none⟩) 4 4] := Blk.new w3 24 #[.int .i64 r.source, .int .i64 r.key, .int .i64 r.version, .slice (some ⟨b, 0, none⟩) 4 4]
    have bR := (bR2.kept (Nat.ne_of_gt hg) hk3).ext ((Ext.refl w3).alloc (.cells #[.int .i64 r.source, .int .i64 r.key, .int .i64 r.version, .slice (some ⟨b, 0, none⟩) 4 4] 24))
    have o3 := ro.ext ((Ext.refl w3).alloc (.cells #[.int .i64 r.source, .int .i64 r.key, .int .i64 r.version, .slice (some ⟨b, 0, none⟩) 4 4] 24))
    have hc3a := hc3.ext ((Ext.refl w3).alloc (.cells #[.int .i64 r.source, .int .i64 r.key, .int .i64 r.version, .slice (some ⟨b, 0, none⟩) 4 4] 24))
    have hk3a := hk03.alloc (.cells #[.int .i64 r.source, .int .i64 r.key, .int .i64 r.version, .slice (some ⟨b, 0, none⟩) 4 4] 24)
    clear hc2 hk2 hk02 bR2 hk3 hk03 hc3 ro
    have HKL := hid (show ∀ W, Kept g (w3.alloc (.cells #[.int .i64 r.source, .int .i64 r.key, .int .i64 r.version, .slice (some ⟨b, 0, none⟩) 4 4] 24)) W → W.cell? ⟨w3.heap.size, 2, none⟩ = some (.int .i64 r.version) from fun W k => (bL.kept (by omega) k).cells.1 2)
    have HKL2 := hid (show ∀ W, Blk W w3.heap.size 24 [.int .i64 r.source, .int .i64 r.key, .int .i64 r.version, .slice (some ⟨b, 0, none⟩) 4 4] → W.cell? ⟨w3.heap.size, 2, none⟩ = some (.int .i64 r.version) from fun W h => h.cells.1 2)
    have HKR := hid (show ∀ W, Kept g (w3.alloc (.cells #[.int .i64 r.source, .int .i64 r.key, .int .i64 r.version, .slice (some ⟨b, 0, none⟩) 4 4] 24)) W → Blk W w.heap.size 28 [.int .i64 0, .int .i64 0, .int .i64 0, .int .i64 0, .slice none 0 0, .int .i64 0, .int .i64 0, .bool false, .int .i64 0] ∧ Blk W w3.heap.size 24 [.int .i64 r.source, .int .i64 r.key, .int .i64 r.version, .slice (some ⟨b, 0, none⟩) 4 4] from fun W k => ⟨bR.kept (by omega) k, bL.kept (by omega) k⟩)
    clear bL bR o3
    have h31 : (3 : Int) ≤ 256 := by omega
    go_wp2_with fail
    go_region_held3 (fun w' => w'.cell? ⟨w3.heap.size, 2, none⟩ = some (.int .i64 r.version)) (first | (refine HKL.out _ ?_; ((repeat (first | with_reducible exact Kept.refl _ _ | with_reducible assumption | with_reducible refine Kept.drew ?_ | with_reducible refine Kept.alloc ?_ _ | with_reducible refine Kept.trans ?_ (by with_reducible assumption))); done)) | (refine HKL2.out _ ?_; repeat (first | with_reducible assumption | (refine Blk.other ?_ (by omega))))) (first | (have hfirst := hc4; go_at_call 121; refine (spec_l1Below w0 _ g 2 (by decide) ?hcur).mono ?_; (case hcur => exact (by repeat (first | with_reducible assumption | with_reducible refine Cur.drew ?_ | with_reducible refine Cur.alloc ?_ _))); rintro e w5 ⟨x2, rfl, hx2, hc5, hk45⟩; have hk35 : Kept g (w3.alloc (.cells #[.int .i64 r.source, .int .i64 r.key, .int .i64 r.version, .slice (some ⟨b, 0, none⟩) 4 4] 24)) w5 := (by repeat (first | with_reducible exact Kept.refl _ _ | with_reducible assumption | with_reducible refine Kept.drew ?_ | with_reducible refine Kept.alloc ?_ _ | with_reducible refine Kept.trans ?_ (by with_reducible assumption))); have hww : IntKind.i64.wrap (1 + x2) = 1 + x2 := by { rw [IntKind.wrap_i64]; omega }; obtain ⟨bR5, bL5⟩ := HKR.out w5 hk35; obtain ⟨cR, fR⟩ := bR5.cells) | (go_at_call 121; refine (spec_l1Below w0 _ g 3 (by decide) ?hcur).mono ?_; (case hcur => exact (by repeat (first | with_reducible assumption | with_reducible refine Cur.drew ?_ | with_reducible refine Cur.alloc ?_ _))); rintro e w4 ⟨x1, rfl, hx1, hc4, hk4⟩))
    have hk5 := hk3a.trans hk35
    have HI := hid (show Op.ok ⟨2, ⟨x1, 1 + x2, r.version, []⟩, ⟨0, 0, false, 0⟩⟩ from okOpR ⟨by decide, by decide⟩ ⟨by omega, by omega⟩ ⟨by omega, by omega⟩ rok.2.2)
    go_wp2
    have b9 : Blk (((((((((w5.setCell ⟨w.heap.size, 0, none⟩ (.int .i64 2)).setCell ⟨w.heap.size, 1, none⟩ (.int .i64 x1)).setCell ⟨w.heap.size, 2, none⟩ (.int .i64 (1 + x2))).setCell ⟨w.heap.size, 3, none⟩ (.int .i64 r.version)).setCell ⟨w.heap.size, 4, none⟩ (.slice none 0 0)).setCell ⟨w.heap.size, 5, none⟩ (.int .i64 0)).setCell ⟨w.heap.size, 6, none⟩ (.int .i64 0)).setCell ⟨w.heap.size, 7, none⟩ (.bool false)).setCell ⟨w.heap.size, 8, none⟩ (.int .i64 0)) w.heap.size 28 [.int .i64 2, .int .i64 x1, .int .i64 (1 + x2), .int .i64 r.version, .slice none 0 0, .int .i64 0, .int .i64 0, .bool false, .int .i64 0] := (((((((((bR5.setAt 0 (by show 0 < 9; decide) (.int .i64 2)).setAt 1 (by show 1 < 9; decide) (.int .i64 x1)).setAt 2 (by show 2 < 9; decide) (.int .i64 (1 + x2))).setAt 3 (by show 3 < 9; decide) (.int .i64 r.version)).setAt 4 (by show 4 < 9; decide) (.slice none 0 0)).setAt 5 (by show 5 < 9; decide) (.int .i64 0)).setAt 6 (by show 6 < 9; decide) (.int .i64 0)).setAt 7 (by show 7 < 9; decide) (.bool false)).setAt 8 (by show 8 < 9; decide) (.int .i64 0))
    have r0 : (((((((((w5.setCell ⟨w.heap.size, 0, none⟩ (.int .i64 2)).setCell ⟨w.heap.size, 1, none⟩ (.int .i64 x1)).setCell ⟨w.heap.size, 2, none⟩ (.int .i64 (1 + x2))).setCell ⟨w.heap.size, 3, none⟩ (.int .i64 r.version)).setCell ⟨w.heap.size, 4, none⟩ (.slice none 0 0)).setCell ⟨w.heap.size, 5, none⟩ (.int .i64 0)).setCell ⟨w.heap.size, 6, none⟩ (.int .i64 0)).setCell ⟨w.heap.size, 7, none⟩ (.bool false)).setCell ⟨w.heap.size, 8, none⟩ (.int .i64 0)).cell? ⟨w.heap.size, 0, none⟩ = some (.int .i64 2) := b9.cells.1 0
    have r1 : (((((((((w5.setCell ⟨w.heap.size, 0, none⟩ (.int .i64 2)).setCell ⟨w.heap.size, 1, none⟩ (.int .i64 x1)).setCell ⟨w.heap.size, 2, none⟩ (.int .i64 (1 + x2))).setCell ⟨w.heap.size, 3, none⟩ (.int .i64 r.version)).setCell ⟨w.heap.size, 4, none⟩ (.slice none 0 0)).setCell ⟨w.heap.size, 5, none⟩ (.int .i64 0)).setCell ⟨w.heap.size, 6, none⟩ (.int .i64 0)).setCell ⟨w.heap.size, 7, none⟩ (.bool false)).setCell ⟨w.heap.size, 8, none⟩ (.int .i64 0)).cell? ⟨w.heap.size, 1, none⟩ = some (.int .i64 x1) := b9.cells.1 1
    have r2 : (((((((((w5.setCell ⟨w.heap.size, 0, none⟩ (.int .i64 2)).setCell ⟨w.heap.size, 1, none⟩ (.int .i64 x1)).setCell ⟨w.heap.size, 2, none⟩ (.int .i64 (1 + x2))).setCell ⟨w.heap.size, 3, none⟩ (.int .i64 r.version)).setCell ⟨w.heap.size, 4, none⟩ (.slice none 0 0)).setCell ⟨w.heap.size, 5, none⟩ (.int .i64 0)).setCell ⟨w.heap.size, 6, none⟩ (.int .i64 0)).setCell ⟨w.heap.size, 7, none⟩ (.bool false)).setCell ⟨w.heap.size, 8, none⟩ (.int .i64 0)).cell? ⟨w.heap.size, 2, none⟩ = some (.int .i64 (1 + x2)) := b9.cells.1 2
    have r3 : (((((((((w5.setCell ⟨w.heap.size, 0, none⟩ (.int .i64 2)).setCell ⟨w.heap.size, 1, none⟩ (.int .i64 x1)).setCell ⟨w.heap.size, 2, none⟩ (.int .i64 (1 + x2))).setCell ⟨w.heap.size, 3, none⟩ (.int .i64 r.version)).setCell ⟨w.heap.size, 4, none⟩ (.slice none 0 0)).setCell ⟨w.heap.size, 5, none⟩ (.int .i64 0)).setCell ⟨w.heap.size, 6, none⟩ (.int .i64 0)).setCell ⟨w.heap.size, 7, none⟩ (.bool false)).setCell ⟨w.heap.size, 8, none⟩ (.int .i64 0)).cell? ⟨w.heap.size, 3, none⟩ = some (.int .i64 r.version) := b9.cells.1 3
    have r4 : (((((((((w5.setCell ⟨w.heap.size, 0, none⟩ (.int .i64 2)).setCell ⟨w.heap.size, 1, none⟩ (.int .i64 x1)).setCell ⟨w.heap.size, 2, none⟩ (.int .i64 (1 + x2))).setCell ⟨w.heap.size, 3, none⟩ (.int .i64 r.version)).setCell ⟨w.heap.size, 4, none⟩ (.slice none 0 0)).setCell ⟨w.heap.size, 5, none⟩ (.int .i64 0)).setCell ⟨w.heap.size, 6, none⟩ (.int .i64 0)).setCell ⟨w.heap.size, 7, none⟩ (.bool false)).setCell ⟨w.heap.size, 8, none⟩ (.int .i64 0)).cell? ⟨w.heap.size, 4, none⟩ = some (.slice none 0 0) := b9.cells.1 4
    have r5 : (((((((((w5.setCell ⟨w.heap.size, 0, none⟩ (.int .i64 2)).setCell ⟨w.heap.size, 1, none⟩ (.int .i64 x1)).setCell ⟨w.heap.size, 2, none⟩ (.int .i64 (1 + x2))).setCell ⟨w.heap.size, 3, none⟩ (.int .i64 r.version)).setCell ⟨w.heap.size, 4, none⟩ (.slice none 0 0)).setCell ⟨w.heap.size, 5, none⟩ (.int .i64 0)).setCell ⟨w.heap.size, 6, none⟩ (.int .i64 0)).setCell ⟨w.heap.size, 7, none⟩ (.bool false)).setCell ⟨w.heap.size, 8, none⟩ (.int .i64 0)).cell? ⟨w.heap.size, 5, none⟩ = some (.int .i64 0) := b9.cells.1 5
    have r6 : (((((((((w5.setCell ⟨w.heap.size, 0, none⟩ (.int .i64 2)).setCell ⟨w.heap.size, 1, none⟩ (.int .i64 x1)).setCell ⟨w.heap.size, 2, none⟩ (.int .i64 (1 + x2))).setCell ⟨w.heap.size, 3, none⟩ (.int .i64 r.version)).setCell ⟨w.heap.size, 4, none⟩ (.slice none 0 0)).setCell ⟨w.heap.size, 5, none⟩ (.int .i64 0)).setCell ⟨w.heap.size, 6, none⟩ (.int .i64 0)).setCell ⟨w.heap.size, 7, none⟩ (.bool false)).setCell ⟨w.heap.size, 8, none⟩ (.int .i64 0)).cell? ⟨w.heap.size, 6, none⟩ = some (.int .i64 0) := b9.cells.1 6
    have r7 : (((((((((w5.setCell ⟨w.heap.size, 0, none⟩ (.int .i64 2)).setCell ⟨w.heap.size, 1, none⟩ (.int .i64 x1)).setCell ⟨w.heap.size, 2, none⟩ (.int .i64 (1 + x2))).setCell ⟨w.heap.size, 3, none⟩ (.int .i64 r.version)).setCell ⟨w.heap.size, 4, none⟩ (.slice none 0 0)).setCell ⟨w.heap.size, 5, none⟩ (.int .i64 0)).setCell ⟨w.heap.size, 6, none⟩ (.int .i64 0)).setCell ⟨w.heap.size, 7, none⟩ (.bool false)).setCell ⟨w.heap.size, 8, none⟩ (.int .i64 0)).cell? ⟨w.heap.size, 7, none⟩ = some (.bool false) := b9.cells.1 7
    have r8 : (((((((((w5.setCell ⟨w.heap.size, 0, none⟩ (.int .i64 2)).setCell ⟨w.heap.size, 1, none⟩ (.int .i64 x1)).setCell ⟨w.heap.size, 2, none⟩ (.int .i64 (1 + x2))).setCell ⟨w.heap.size, 3, none⟩ (.int .i64 r.version)).setCell ⟨w.heap.size, 4, none⟩ (.slice none 0 0)).setCell ⟨w.heap.size, 5, none⟩ (.int .i64 0)).setCell ⟨w.heap.size, 6, none⟩ (.int .i64 0)).setCell ⟨w.heap.size, 7, none⟩ (.bool false)).setCell ⟨w.heap.size, 8, none⟩ (.int .i64 0)).cell? ⟨w.heap.size, 8, none⟩ = some (.int .i64 0) := b9.cells.1 8
    have k9 : Kept g w (((((((((w5.setCell ⟨w.heap.size, 0, none⟩ (.int .i64 2)).setCell ⟨w.heap.size, 1, none⟩ (.int .i64 x1)).setCell ⟨w.heap.size, 2, none⟩ (.int .i64 (1 + x2))).setCell ⟨w.heap.size, 3, none⟩ (.int .i64 r.version)).setCell ⟨w.heap.size, 4, none⟩ (.slice none 0 0)).setCell ⟨w.heap.size, 5, none⟩ (.int .i64 0)).setCell ⟨w.heap.size, 6, none⟩ (.int .i64 0)).setCell ⟨w.heap.size, 7, none⟩ (.bool false)).setCell ⟨w.heap.size, 8, none⟩ (.int .i64 0)) := (((((((((hk5.setN (Nat.le_refl _) _).setN (Nat.le_refl _) _).setN (Nat.le_refl _) _).setN (Nat.le_refl _) _).setN (Nat.le_refl _) _).setN (Nat.le_refl _) _).setN (Nat.le_refl _) _).setN (Nat.le_refl _) _).setN (Nat.le_refl _) _)
    have c9 : Cur w0 (((((((((w5.setCell ⟨w.heap.size, 0, none⟩ (.int .i64 2)).setCell ⟨w.heap.size, 1, none⟩ (.int .i64 x1)).setCell ⟨w.heap.size, 2, none⟩ (.int .i64 (1 + x2))).setCell ⟨w.heap.size, 3, none⟩ (.int .i64 r.version)).setCell ⟨w.heap.size, 4, none⟩ (.slice none 0 0)).setCell ⟨w.heap.size, 5, none⟩ (.int .i64 0)).setCell ⟨w.heap.size, 6, none⟩ (.int .i64 0)).setCell ⟨w.heap.size, 7, none⟩ (.bool false)).setCell ⟨w.heap.size, 8, none⟩ (.int .i64 0)) g := (((((((((hc5.setN hg _).setN hg _).setN hg _).setN hg _).setN hg _).setN hg _).setN hg _).setN hg _).setN hg _)
    refine bodyPost_ret (v := .agg #[.int .i64 2, .int .i64 x1, .int .i64 (1 + x2), .int .i64 r.version, .slice none 0 0, .int .i64 0, .int .i64 0, .bool false, .int .i64 0]) (by simp [results, Tryz.results122, go_sem, r0, r1, r2, r3, r4, r5, r6, r7, r8]) rfl ?_
    exact ⟨_, ⟨2, ⟨x1, 1 + x2, r.version, []⟩, ⟨0, 0, false, 0⟩⟩, [], rfl, ⟨_, rfl, HI.out, .inl ⟨rfl, rfl, none, 0, rfl, Nat.zero_le _⟩⟩, .nil _, c9, k9, putNo (by show ¬ (2 : Int) = 1; decide)⟩
  · by_cases h1 : x = 1
    · subst h1
      go_wp2_with fail
      refine (spec_l28Verdict w0 _ g hc2).mono ?_
      rintro e w3 ⟨v, rfl, vok, hc3, hk3⟩
      have bR3 := bR2.kept (Nat.ne_of_gt hg) hk3
      have hk03 := hk02.trans hk3
      clear hc2 hk2 hk02 bR2 hk3
      obtain ⟨cR, fR⟩ := bR3.cells
      go_wp2
      have b9 : Blk (((((((((w3.setCell ⟨w.heap.size, 0, none⟩ (.int .i64 3)).setCell ⟨w.heap.size, 1, none⟩ (.int .i64 0)).setCell ⟨w.heap.size, 2, none⟩ (.int .i64 0)).setCell ⟨w.heap.size, 3, none⟩ (.int .i64 0)).setCell ⟨w.heap.size, 4, none⟩ (.slice none 0 0)).setCell ⟨w.heap.size, 5, none⟩ (.int .i64 v.a)).setCell ⟨w.heap.size, 6, none⟩ (.int .i64 v.b)).setCell ⟨w.heap.size, 7, none⟩ (.bool v.same)).setCell ⟨w.heap.size, 8, none⟩ (.int .i64 v.time)) w.heap.size 28 [.int .i64 3, .int .i64 0, .int .i64 0, .int .i64 0, .slice none 0 0, .int .i64 v.a, .int .i64 v.b, .bool v.same, .int .i64 v.time] := (((((((((bR3.setAt 0 (by show 0 < 9; decide) (.int .i64 3)).setAt 1 (by show 1 < 9; decide) (.int .i64 0)).setAt 2 (by show 2 < 9; decide) (.int .i64 0)).setAt 3 (by show 3 < 9; decide) (.int .i64 0)).setAt 4 (by show 4 < 9; decide) (.slice none 0 0)).setAt 5 (by show 5 < 9; decide) (.int .i64 v.a)).setAt 6 (by show 6 < 9; decide) (.int .i64 v.b)).setAt 7 (by show 7 < 9; decide) (.bool v.same)).setAt 8 (by show 8 < 9; decide) (.int .i64 v.time))
      have r0 : (((((((((w3.setCell ⟨w.heap.size, 0, none⟩ (.int .i64 3)).setCell ⟨w.heap.size, 1, none⟩ (.int .i64 0)).setCell ⟨w.heap.size, 2, none⟩ (.int .i64 0)).setCell ⟨w.heap.size, 3, none⟩ (.int .i64 0)).setCell ⟨w.heap.size, 4, none⟩ (.slice none 0 0)).setCell ⟨w.heap.size, 5, none⟩ (.int .i64 v.a)).setCell ⟨w.heap.size, 6, none⟩ (.int .i64 v.b)).setCell ⟨w.heap.size, 7, none⟩ (.bool v.same)).setCell ⟨w.heap.size, 8, none⟩ (.int .i64 v.time)).cell? ⟨w.heap.size, 0, none⟩ = some (.int .i64 3) := b9.cells.1 0
      have r1 : (((((((((w3.setCell ⟨w.heap.size, 0, none⟩ (.int .i64 3)).setCell ⟨w.heap.size, 1, none⟩ (.int .i64 0)).setCell ⟨w.heap.size, 2, none⟩ (.int .i64 0)).setCell ⟨w.heap.size, 3, none⟩ (.int .i64 0)).setCell ⟨w.heap.size, 4, none⟩ (.slice none 0 0)).setCell ⟨w.heap.size, 5, none⟩ (.int .i64 v.a)).setCell ⟨w.heap.size, 6, none⟩ (.int .i64 v.b)).setCell ⟨w.heap.size, 7, none⟩ (.bool v.same)).setCell ⟨w.heap.size, 8, none⟩ (.int .i64 v.time)).cell? ⟨w.heap.size, 1, none⟩ = some (.int .i64 0) := b9.cells.1 1
      have r2 : (((((((((w3.setCell ⟨w.heap.size, 0, none⟩ (.int .i64 3)).setCell ⟨w.heap.size, 1, none⟩ (.int .i64 0)).setCell ⟨w.heap.size, 2, none⟩ (.int .i64 0)).setCell ⟨w.heap.size, 3, none⟩ (.int .i64 0)).setCell ⟨w.heap.size, 4, none⟩ (.slice none 0 0)).setCell ⟨w.heap.size, 5, none⟩ (.int .i64 v.a)).setCell ⟨w.heap.size, 6, none⟩ (.int .i64 v.b)).setCell ⟨w.heap.size, 7, none⟩ (.bool v.same)).setCell ⟨w.heap.size, 8, none⟩ (.int .i64 v.time)).cell? ⟨w.heap.size, 2, none⟩ = some (.int .i64 0) := b9.cells.1 2
      have r3 : (((((((((w3.setCell ⟨w.heap.size, 0, none⟩ (.int .i64 3)).setCell ⟨w.heap.size, 1, none⟩ (.int .i64 0)).setCell ⟨w.heap.size, 2, none⟩ (.int .i64 0)).setCell ⟨w.heap.size, 3, none⟩ (.int .i64 0)).setCell ⟨w.heap.size, 4, none⟩ (.slice none 0 0)).setCell ⟨w.heap.size, 5, none⟩ (.int .i64 v.a)).setCell ⟨w.heap.size, 6, none⟩ (.int .i64 v.b)).setCell ⟨w.heap.size, 7, none⟩ (.bool v.same)).setCell ⟨w.heap.size, 8, none⟩ (.int .i64 v.time)).cell? ⟨w.heap.size, 3, none⟩ = some (.int .i64 0) := b9.cells.1 3
      have r4 : (((((((((w3.setCell ⟨w.heap.size, 0, none⟩ (.int .i64 3)).setCell ⟨w.heap.size, 1, none⟩ (.int .i64 0)).setCell ⟨w.heap.size, 2, none⟩ (.int .i64 0)).setCell ⟨w.heap.size, 3, none⟩ (.int .i64 0)).setCell ⟨w.heap.size, 4, none⟩ (.slice none 0 0)).setCell ⟨w.heap.size, 5, none⟩ (.int .i64 v.a)).setCell ⟨w.heap.size, 6, none⟩ (.int .i64 v.b)).setCell ⟨w.heap.size, 7, none⟩ (.bool v.same)).setCell ⟨w.heap.size, 8, none⟩ (.int .i64 v.time)).cell? ⟨w.heap.size, 4, none⟩ = some (.slice none 0 0) := b9.cells.1 4
      have r5 : (((((((((w3.setCell ⟨w.heap.size, 0, none⟩ (.int .i64 3)).setCell ⟨w.heap.size, 1, none⟩ (.int .i64 0)).setCell ⟨w.heap.size, 2, none⟩ (.int .i64 0)).setCell ⟨w.heap.size, 3, none⟩ (.int .i64 0)).setCell ⟨w.heap.size, 4, none⟩ (.slice none 0 0)).setCell ⟨w.heap.size, 5, none⟩ (.int .i64 v.a)).setCell ⟨w.heap.size, 6, none⟩ (.int .i64 v.b)).setCell ⟨w.heap.size, 7, none⟩ (.bool v.same)).setCell ⟨w.heap.size, 8, none⟩ (.int .i64 v.time)).cell? ⟨w.heap.size, 5, none⟩ = some (.int .i64 v.a) := b9.cells.1 5
      have r6 : (((((((((w3.setCell ⟨w.heap.size, 0, none⟩ (.int .i64 3)).setCell ⟨w.heap.size, 1, none⟩ (.int .i64 0)).setCell ⟨w.heap.size, 2, none⟩ (.int .i64 0)).setCell ⟨w.heap.size, 3, none⟩ (.int .i64 0)).setCell ⟨w.heap.size, 4, none⟩ (.slice none 0 0)).setCell ⟨w.heap.size, 5, none⟩ (.int .i64 v.a)).setCell ⟨w.heap.size, 6, none⟩ (.int .i64 v.b)).setCell ⟨w.heap.size, 7, none⟩ (.bool v.same)).setCell ⟨w.heap.size, 8, none⟩ (.int .i64 v.time)).cell? ⟨w.heap.size, 6, none⟩ = some (.int .i64 v.b) := b9.cells.1 6
      have r7 : (((((((((w3.setCell ⟨w.heap.size, 0, none⟩ (.int .i64 3)).setCell ⟨w.heap.size, 1, none⟩ (.int .i64 0)).setCell ⟨w.heap.size, 2, none⟩ (.int .i64 0)).setCell ⟨w.heap.size, 3, none⟩ (.int .i64 0)).setCell ⟨w.heap.size, 4, none⟩ (.slice none 0 0)).setCell ⟨w.heap.size, 5, none⟩ (.int .i64 v.a)).setCell ⟨w.heap.size, 6, none⟩ (.int .i64 v.b)).setCell ⟨w.heap.size, 7, none⟩ (.bool v.same)).setCell ⟨w.heap.size, 8, none⟩ (.int .i64 v.time)).cell? ⟨w.heap.size, 7, none⟩ = some (.bool v.same) := b9.cells.1 7
      have r8 : (((((((((w3.setCell ⟨w.heap.size, 0, none⟩ (.int .i64 3)).setCell ⟨w.heap.size, 1, none⟩ (.int .i64 0)).setCell ⟨w.heap.size, 2, none⟩ (.int .i64 0)).setCell ⟨w.heap.size, 3, none⟩ (.int .i64 0)).setCell ⟨w.heap.size, 4, none⟩ (.slice none 0 0)).setCell ⟨w.heap.size, 5, none⟩ (.int .i64 v.a)).setCell ⟨w.heap.size, 6, none⟩ (.int .i64 v.b)).setCell ⟨w.heap.size, 7, none⟩ (.bool v.same)).setCell ⟨w.heap.size, 8, none⟩ (.int .i64 v.time)).cell? ⟨w.heap.size, 8, none⟩ = some (.int .i64 v.time) := b9.cells.1 8
      have k9 : Kept g w (((((((((w3.setCell ⟨w.heap.size, 0, none⟩ (.int .i64 3)).setCell ⟨w.heap.size, 1, none⟩ (.int .i64 0)).setCell ⟨w.heap.size, 2, none⟩ (.int .i64 0)).setCell ⟨w.heap.size, 3, none⟩ (.int .i64 0)).setCell ⟨w.heap.size, 4, none⟩ (.slice none 0 0)).setCell ⟨w.heap.size, 5, none⟩ (.int .i64 v.a)).setCell ⟨w.heap.size, 6, none⟩ (.int .i64 v.b)).setCell ⟨w.heap.size, 7, none⟩ (.bool v.same)).setCell ⟨w.heap.size, 8, none⟩ (.int .i64 v.time)) := (((((((((hk03.setN (Nat.le_refl _) _).setN (Nat.le_refl _) _).setN (Nat.le_refl _) _).setN (Nat.le_refl _) _).setN (Nat.le_refl _) _).setN (Nat.le_refl _) _).setN (Nat.le_refl _) _).setN (Nat.le_refl _) _).setN (Nat.le_refl _) _)
      have c9 : Cur w0 (((((((((w3.setCell ⟨w.heap.size, 0, none⟩ (.int .i64 3)).setCell ⟨w.heap.size, 1, none⟩ (.int .i64 0)).setCell ⟨w.heap.size, 2, none⟩ (.int .i64 0)).setCell ⟨w.heap.size, 3, none⟩ (.int .i64 0)).setCell ⟨w.heap.size, 4, none⟩ (.slice none 0 0)).setCell ⟨w.heap.size, 5, none⟩ (.int .i64 v.a)).setCell ⟨w.heap.size, 6, none⟩ (.int .i64 v.b)).setCell ⟨w.heap.size, 7, none⟩ (.bool v.same)).setCell ⟨w.heap.size, 8, none⟩ (.int .i64 v.time)) g := (((((((((hc3.setN hg _).setN hg _).setN hg _).setN hg _).setN hg _).setN hg _).setN hg _).setN hg _).setN hg _)
      refine bodyPost_ret (v := .agg #[.int .i64 3, .int .i64 0, .int .i64 0, .int .i64 0, .slice none 0 0, .int .i64 v.a, .int .i64 v.b, .bool v.same, .int .i64 v.time]) (by simp [results, Tryz.results122, go_sem, r0, r1, r2, r3, r4, r5, r6, r7, r8]) rfl ?_
      exact ⟨_, ⟨3, ⟨0, 0, 0, []⟩, v⟩, [], rfl, ⟨_, rfl, okOpV ⟨by decide, by decide⟩ vok, .inl ⟨rfl, rfl, none, 0, rfl, Nat.zero_le _⟩⟩, .nil _, c9, k9, putNo (by show ¬ (3 : Int) = 1; decide)⟩
    · by_cases h2 : x = 2
      · subst h2
        go_wp2_with fail
        refine (spec_l28Verdict w0 _ g hc2).mono ?_
        rintro e w3 ⟨v, rfl, vok, hc3, hk3⟩
        have bR3 := bR2.kept (Nat.ne_of_gt hg) hk3
        have hk03 := hk02.trans hk3
        clear hc2 hk2 hk02 bR2 hk3
        obtain ⟨cR, fR⟩ := bR3.cells
        go_wp2
        have b9 : Blk (((((((((w3.setCell ⟨w.heap.size, 0, none⟩ (.int .i64 4)).setCell ⟨w.heap.size, 1, none⟩ (.int .i64 0)).setCell ⟨w.heap.size, 2, none⟩ (.int .i64 0)).setCell ⟨w.heap.size, 3, none⟩ (.int .i64 0)).setCell ⟨w.heap.size, 4, none⟩ (.slice none 0 0)).setCell ⟨w.heap.size, 5, none⟩ (.int .i64 v.a)).setCell ⟨w.heap.size, 6, none⟩ (.int .i64 v.b)).setCell ⟨w.heap.size, 7, none⟩ (.bool v.same)).setCell ⟨w.heap.size, 8, none⟩ (.int .i64 v.time)) w.heap.size 28 [.int .i64 4, .int .i64 0, .int .i64 0, .int .i64 0, .slice none 0 0, .int .i64 v.a, .int .i64 v.b, .bool v.same, .int .i64 v.time] := (((((((((bR3.setAt 0 (by show 0 < 9; decide) (.int .i64 4)).setAt 1 (by show 1 < 9; decide) (.int .i64 0)).setAt 2 (by show 2 < 9; decide) (.int .i64 0)).setAt 3 (by show 3 < 9; decide) (.int .i64 0)).setAt 4 (by show 4 < 9; decide) (.slice none 0 0)).setAt 5 (by show 5 < 9; decide) (.int .i64 v.a)).setAt 6 (by show 6 < 9; decide) (.int .i64 v.b)).setAt 7 (by show 7 < 9; decide) (.bool v.same)).setAt 8 (by show 8 < 9; decide) (.int .i64 v.time))
        have r0 : (((((((((w3.setCell ⟨w.heap.size, 0, none⟩ (.int .i64 4)).setCell ⟨w.heap.size, 1, none⟩ (.int .i64 0)).setCell ⟨w.heap.size, 2, none⟩ (.int .i64 0)).setCell ⟨w.heap.size, 3, none⟩ (.int .i64 0)).setCell ⟨w.heap.size, 4, none⟩ (.slice none 0 0)).setCell ⟨w.heap.size, 5, none⟩ (.int .i64 v.a)).setCell ⟨w.heap.size, 6, none⟩ (.int .i64 v.b)).setCell ⟨w.heap.size, 7, none⟩ (.bool v.same)).setCell ⟨w.heap.size, 8, none⟩ (.int .i64 v.time)).cell? ⟨w.heap.size, 0, none⟩ = some (.int .i64 4) := b9.cells.1 0
        have r1 : (((((((((w3.setCell ⟨w.heap.size, 0, none⟩ (.int .i64 4)).setCell ⟨w.heap.size, 1, none⟩ (.int .i64 0)).setCell ⟨w.heap.size, 2, none⟩ (.int .i64 0)).setCell ⟨w.heap.size, 3, none⟩ (.int .i64 0)).setCell ⟨w.heap.size, 4, none⟩ (.slice none 0 0)).setCell ⟨w.heap.size, 5, none⟩ (.int .i64 v.a)).setCell ⟨w.heap.size, 6, none⟩ (.int .i64 v.b)).setCell ⟨w.heap.size, 7, none⟩ (.bool v.same)).setCell ⟨w.heap.size, 8, none⟩ (.int .i64 v.time)).cell? ⟨w.heap.size, 1, none⟩ = some (.int .i64 0) := b9.cells.1 1
        have r2 : (((((((((w3.setCell ⟨w.heap.size, 0, none⟩ (.int .i64 4)).setCell ⟨w.heap.size, 1, none⟩ (.int .i64 0)).setCell ⟨w.heap.size, 2, none⟩ (.int .i64 0)).setCell ⟨w.heap.size, 3, none⟩ (.int .i64 0)).setCell ⟨w.heap.size, 4, none⟩ (.slice none 0 0)).setCell ⟨w.heap.size, 5, none⟩ (.int .i64 v.a)).setCell ⟨w.heap.size, 6, none⟩ (.int .i64 v.b)).setCell ⟨w.heap.size, 7, none⟩ (.bool v.same)).setCell ⟨w.heap.size, 8, none⟩ (.int .i64 v.time)).cell? ⟨w.heap.size, 2, none⟩ = some (.int .i64 0) := b9.cells.1 2
        have r3 : (((((((((w3.setCell ⟨w.heap.size, 0, none⟩ (.int .i64 4)).setCell ⟨w.heap.size, 1, none⟩ (.int .i64 0)).setCell ⟨w.heap.size, 2, none⟩ (.int .i64 0)).setCell ⟨w.heap.size, 3, none⟩ (.int .i64 0)).setCell ⟨w.heap.size, 4, none⟩ (.slice none 0 0)).setCell ⟨w.heap.size, 5, none⟩ (.int .i64 v.a)).setCell ⟨w.heap.size, 6, none⟩ (.int .i64 v.b)).setCell ⟨w.heap.size, 7, none⟩ (.bool v.same)).setCell ⟨w.heap.size, 8, none⟩ (.int .i64 v.time)).cell? ⟨w.heap.size, 3, none⟩ = some (.int .i64 0) := b9.cells.1 3
        have r4 : (((((((((w3.setCell ⟨w.heap.size, 0, none⟩ (.int .i64 4)).setCell ⟨w.heap.size, 1, none⟩ (.int .i64 0)).setCell ⟨w.heap.size, 2, none⟩ (.int .i64 0)).setCell ⟨w.heap.size, 3, none⟩ (.int .i64 0)).setCell ⟨w.heap.size, 4, none⟩ (.slice none 0 0)).setCell ⟨w.heap.size, 5, none⟩ (.int .i64 v.a)).setCell ⟨w.heap.size, 6, none⟩ (.int .i64 v.b)).setCell ⟨w.heap.size, 7, none⟩ (.bool v.same)).setCell ⟨w.heap.size, 8, none⟩ (.int .i64 v.time)).cell? ⟨w.heap.size, 4, none⟩ = some (.slice none 0 0) := b9.cells.1 4
        have r5 : (((((((((w3.setCell ⟨w.heap.size, 0, none⟩ (.int .i64 4)).setCell ⟨w.heap.size, 1, none⟩ (.int .i64 0)).setCell ⟨w.heap.size, 2, none⟩ (.int .i64 0)).setCell ⟨w.heap.size, 3, none⟩ (.int .i64 0)).setCell ⟨w.heap.size, 4, none⟩ (.slice none 0 0)).setCell ⟨w.heap.size, 5, none⟩ (.int .i64 v.a)).setCell ⟨w.heap.size, 6, none⟩ (.int .i64 v.b)).setCell ⟨w.heap.size, 7, none⟩ (.bool v.same)).setCell ⟨w.heap.size, 8, none⟩ (.int .i64 v.time)).cell? ⟨w.heap.size, 5, none⟩ = some (.int .i64 v.a) := b9.cells.1 5
        have r6 : (((((((((w3.setCell ⟨w.heap.size, 0, none⟩ (.int .i64 4)).setCell ⟨w.heap.size, 1, none⟩ (.int .i64 0)).setCell ⟨w.heap.size, 2, none⟩ (.int .i64 0)).setCell ⟨w.heap.size, 3, none⟩ (.int .i64 0)).setCell ⟨w.heap.size, 4, none⟩ (.slice none 0 0)).setCell ⟨w.heap.size, 5, none⟩ (.int .i64 v.a)).setCell ⟨w.heap.size, 6, none⟩ (.int .i64 v.b)).setCell ⟨w.heap.size, 7, none⟩ (.bool v.same)).setCell ⟨w.heap.size, 8, none⟩ (.int .i64 v.time)).cell? ⟨w.heap.size, 6, none⟩ = some (.int .i64 v.b) := b9.cells.1 6
        have r7 : (((((((((w3.setCell ⟨w.heap.size, 0, none⟩ (.int .i64 4)).setCell ⟨w.heap.size, 1, none⟩ (.int .i64 0)).setCell ⟨w.heap.size, 2, none⟩ (.int .i64 0)).setCell ⟨w.heap.size, 3, none⟩ (.int .i64 0)).setCell ⟨w.heap.size, 4, none⟩ (.slice none 0 0)).setCell ⟨w.heap.size, 5, none⟩ (.int .i64 v.a)).setCell ⟨w.heap.size, 6, none⟩ (.int .i64 v.b)).setCell ⟨w.heap.size, 7, none⟩ (.bool v.same)).setCell ⟨w.heap.size, 8, none⟩ (.int .i64 v.time)).cell? ⟨w.heap.size, 7, none⟩ = some (.bool v.same) := b9.cells.1 7
        have r8 : (((((((((w3.setCell ⟨w.heap.size, 0, none⟩ (.int .i64 4)).setCell ⟨w.heap.size, 1, none⟩ (.int .i64 0)).setCell ⟨w.heap.size, 2, none⟩ (.int .i64 0)).setCell ⟨w.heap.size, 3, none⟩ (.int .i64 0)).setCell ⟨w.heap.size, 4, none⟩ (.slice none 0 0)).setCell ⟨w.heap.size, 5, none⟩ (.int .i64 v.a)).setCell ⟨w.heap.size, 6, none⟩ (.int .i64 v.b)).setCell ⟨w.heap.size, 7, none⟩ (.bool v.same)).setCell ⟨w.heap.size, 8, none⟩ (.int .i64 v.time)).cell? ⟨w.heap.size, 8, none⟩ = some (.int .i64 v.time) := b9.cells.1 8
        have k9 : Kept g w (((((((((w3.setCell ⟨w.heap.size, 0, none⟩ (.int .i64 4)).setCell ⟨w.heap.size, 1, none⟩ (.int .i64 0)).setCell ⟨w.heap.size, 2, none⟩ (.int .i64 0)).setCell ⟨w.heap.size, 3, none⟩ (.int .i64 0)).setCell ⟨w.heap.size, 4, none⟩ (.slice none 0 0)).setCell ⟨w.heap.size, 5, none⟩ (.int .i64 v.a)).setCell ⟨w.heap.size, 6, none⟩ (.int .i64 v.b)).setCell ⟨w.heap.size, 7, none⟩ (.bool v.same)).setCell ⟨w.heap.size, 8, none⟩ (.int .i64 v.time)) := (((((((((hk03.setN (Nat.le_refl _) _).setN (Nat.le_refl _) _).setN (Nat.le_refl _) _).setN (Nat.le_refl _) _).setN (Nat.le_refl _) _).setN (Nat.le_refl _) _).setN (Nat.le_refl _) _).setN (Nat.le_refl _) _).setN (Nat.le_refl _) _)
        have c9 : Cur w0 (((((((((w3.setCell ⟨w.heap.size, 0, none⟩ (.int .i64 4)).setCell ⟨w.heap.size, 1, none⟩ (.int .i64 0)).setCell ⟨w.heap.size, 2, none⟩ (.int .i64 0)).setCell ⟨w.heap.size, 3, none⟩ (.int .i64 0)).setCell ⟨w.heap.size, 4, none⟩ (.slice none 0 0)).setCell ⟨w.heap.size, 5, none⟩ (.int .i64 v.a)).setCell ⟨w.heap.size, 6, none⟩ (.int .i64 v.b)).setCell ⟨w.heap.size, 7, none⟩ (.bool v.same)).setCell ⟨w.heap.size, 8, none⟩ (.int .i64 v.time)) g := (((((((((hc3.setN hg _).setN hg _).setN hg _).setN hg _).setN hg _).setN hg _).setN hg _).setN hg _).setN hg _)
        refine bodyPost_ret (v := .agg #[.int .i64 4, .int .i64 0, .int .i64 0, .int .i64 0, .slice none 0 0, .int .i64 v.a, .int .i64 v.b, .bool v.same, .int .i64 v.time]) (by simp [results, Tryz.results122, go_sem, r0, r1, r2, r3, r4, r5, r6, r7, r8]) rfl ?_
        exact ⟨_, ⟨4, ⟨0, 0, 0, []⟩, v⟩, [], rfl, ⟨_, rfl, okOpV ⟨by decide, by decide⟩ vok, .inl ⟨rfl, rfl, none, 0, rfl, Nat.zero_le _⟩⟩, .nil _, c9, k9, putNo (by show ¬ (4 : Int) = 1; decide)⟩
      · skip
        go_wp2_with fail
        refine (spec_l8Record w0 _ g hc2).mono ?_
        rintro e w3 ⟨b, r, rfl, rok, ro, rl, rb, hc3, hk3⟩
        have hgL := hc3.base.2.2
        have hk03 := hk02.trans hk3
        have hwL := hk03.1
        have sRL := block_lt (bR2.kept (Nat.ne_of_gt hg) hk3)
        have hw2 := hk02.1
        have sR2 := block_lt bR2
        have lb := ro.lt b (List.mem_singleton.2 rfl)
        have bL : Blk (w3.alloc (.cells #[.int .i64 r.source, .int .i64 r.key, .int .i64 r.version, .slice (some ⟨b, 0, none⟩) 4 4] 24)) w3.heap.size 24 [.int .i64 r.source, .int .i64 r.key, .int .i64 r.version, .slice (some ⟨b, 0, none⟩) 4 4] := Blk.new w3 24 #[.int .i64 r.source, .int .i64 r.key, .int .i64 r.version, .slice (some ⟨b, 0, none⟩) 4 4]
        have bR := (bR2.kept (Nat.ne_of_gt hg) hk3).ext ((Ext.refl w3).alloc (.cells #[.int .i64 r.source, .int .i64 r.key, .int .i64 r.version, .slice (some ⟨b, 0, none⟩) 4 4] 24))
        have o3 := ro.ext ((Ext.refl w3).alloc (.cells #[.int .i64 r.source, .int .i64 r.key, .int .i64 r.version, .slice (some ⟨b, 0, none⟩) 4 4] 24))
        have hc3a := hc3.ext ((Ext.refl w3).alloc (.cells #[.int .i64 r.source, .int .i64 r.key, .int .i64 r.version, .slice (some ⟨b, 0, none⟩) 4 4] 24))
        have hk3a := hk03.alloc (.cells #[.int .i64 r.source, .int .i64 r.key, .int .i64 r.version, .slice (some ⟨b, 0, none⟩) 4 4] 24)
        clear hc2 hk2 hk02 bR2 hk3 hk03 hc3 ro
        go_wp2_with fail
        refine (spec_l1Below w0 _ g 3 (by decide) hc3a).mono ?_
        rintro e w4 ⟨x1, rfl, hx1, hc4, hk4⟩
        have bL4 := bL.kept (by omega) hk4
        have bR4 := bR.kept (by omega) hk4
        have o4 := o3.kept (fun hm => by rw [List.mem_singleton] at hm; omega) hk4
        have k4 := hk3a.trans hk4
        obtain ⟨cL, fL⟩ := bL4.cells
        have bL5 : Blk (w4.setCell ⟨w3.heap.size, 0, none⟩ (.int .i64 x1)) w3.heap.size 24 [.int .i64 x1, .int .i64 r.key, .int .i64 r.version, .slice (some ⟨b, 0, none⟩) 4 4] := bL4.setAt 0 (by show 0 < 4; decide) (.int .i64 x1)
        have bR5 : Blk (w4.setCell ⟨w3.heap.size, 0, none⟩ (.int .i64 x1)) w.heap.size 28 [.int .i64 0, .int .i64 0, .int .i64 0, .int .i64 0, .slice none 0 0, .int .i64 0, .int .i64 0, .bool false, .int .i64 0] := bR4.other (by omega)
        have o5 : OwnSl strO (w4.setCell ⟨w3.heap.size, 0, none⟩ (.int .i64 x1)) (.slice (some ⟨b, 0, none⟩) 4 4) r.fields [b] := o4.setCell (fun hm => by rw [List.mem_singleton] at hm; simp only at hm; omega) _
        have k5 : Kept g w (w4.setCell ⟨w3.heap.size, 0, none⟩ (.int .i64 x1)) := k4.setN (by show w.heap.size ≤ w3.heap.size; omega) _
        have c5 : Cur w0 (w4.setCell ⟨w3.heap.size, 0, none⟩ (.int .i64 x1)) g := hc4.setN (by show g < w3.heap.size; omega) _
        clear bL bR o3 hc3a hk3a bL4 bR4 o4 k4 hc4 hk4
        go_wp2_with fail
        clear cL fL
        refine (spec_l1Below w0 _ g 2 (by decide) c5).mono ?_
        rintro e w5 ⟨x2, rfl, hx2, hc6, hk6⟩
        have bL6 := bL5.kept (by omega) hk6
        have bR6 := bR5.kept (by omega) hk6
        have o6 := o5.kept (fun hm => by rw [List.mem_singleton] at hm; omega) hk6
        have k6 := k5.trans hk6
        obtain ⟨cL, fL⟩ := bL6.cells
        have bL7 : Blk (w5.setCell ⟨w3.heap.size, 1, none⟩ (.int .i64 (1 + x2))) w3.heap.size 24 [.int .i64 x1, .int .i64 (1 + x2), .int .i64 r.version, .slice (some ⟨b, 0, none⟩) 4 4] := bL6.setAt 1 (by show 1 < 4; decide) (.int .i64 (1 + x2))
        have bR7 : Blk (w5.setCell ⟨w3.heap.size, 1, none⟩ (.int .i64 (1 + x2))) w.heap.size 28 [.int .i64 0, .int .i64 0, .int .i64 0, .int .i64 0, .slice none 0 0, .int .i64 0, .int .i64 0, .bool false, .int .i64 0] := bR6.other (by omega)
        have o7 : OwnSl strO (w5.setCell ⟨w3.heap.size, 1, none⟩ (.int .i64 (1 + x2))) (.slice (some ⟨b, 0, none⟩) 4 4) r.fields [b] := o6.setCell (fun hm => by rw [List.mem_singleton] at hm; simp only at hm; omega) _
        have k7 : Kept g w (w5.setCell ⟨w3.heap.size, 1, none⟩ (.int .i64 (1 + x2))) := k6.setN (by show w.heap.size ≤ w3.heap.size; omega) _
        have c7 : Cur w0 (w5.setCell ⟨w3.heap.size, 1, none⟩ (.int .i64 (1 + x2))) g := hc6.setN (by show g < w3.heap.size; omega) _
        have HI := hid (show Op.ok ⟨1, ⟨x1, 1 + x2, r.version, r.fields⟩, ⟨0, 0, false, 0⟩⟩ from okOpR ⟨by decide, by decide⟩ ⟨by omega, by omega⟩ ⟨by omega, by omega⟩ rok.2.2)
        clear bL5 bR5 o5 k5 c5 bL6 bR6 o6 k6 hc6 hk6
        obtain ⟨⟨l0, l1, l2, l3⟩, _⟩ := bL7.c4
        have nR : w.heap.size ∉ [b] := fun hm => by rw [List.mem_singleton] at hm; omega
        obtain ⟨cR, fR⟩ := bR7.cells
        go_wp2
        have b9 : Blk ((((((((((w5.setCell ⟨w3.heap.size, 1, none⟩ (.int .i64 (1 + x2))).setCell ⟨w.heap.size, 0, none⟩ (.int .i64 1)).setCell ⟨w.heap.size, 1, none⟩ (.int .i64 x1)).setCell ⟨w.heap.size, 2, none⟩ (.int .i64 (1 + x2))).setCell ⟨w.heap.size, 3, none⟩ (.int .i64 r.version)).setCell ⟨w.heap.size, 4, none⟩ (.slice (some ⟨b, 0, none⟩) 4 4)).setCell ⟨w.heap.size, 5, none⟩ (.int .i64 0)).setCell ⟨w.heap.size, 6, none⟩ (.int .i64 0)).setCell ⟨w.heap.size, 7, none⟩ (.bool false)).setCell ⟨w.heap.size, 8, none⟩ (.int .i64 0)) w.heap.size 28 [.int .i64 1, .int .i64 x1, .int .i64 (1 + x2), .int .i64 r.version, .slice (some ⟨b, 0, none⟩) 4 4, .int .i64 0, .int .i64 0, .bool false, .int .i64 0] := (((((((((bR7.setAt 0 (by show 0 < 9; decide) (.int .i64 1)).setAt 1 (by show 1 < 9; decide) (.int .i64 x1)).setAt 2 (by show 2 < 9; decide) (.int .i64 (1 + x2))).setAt 3 (by show 3 < 9; decide) (.int .i64 r.version)).setAt 4 (by show 4 < 9; decide) (.slice (some ⟨b, 0, none⟩) 4 4)).setAt 5 (by show 5 < 9; decide) (.int .i64 0)).setAt 6 (by show 6 < 9; decide) (.int .i64 0)).setAt 7 (by show 7 < 9; decide) (.bool false)).setAt 8 (by show 8 < 9; decide) (.int .i64 0))
        have r0 : ((((((((((w5.setCell ⟨w3.heap.size, 1, none⟩ (.int .i64 (1 + x2))).setCell ⟨w.heap.size, 0, none⟩ (.int .i64 1)).setCell ⟨w.heap.size, 1, none⟩ (.int .i64 x1)).setCell ⟨w.heap.size, 2, none⟩ (.int .i64 (1 + x2))).setCell ⟨w.heap.size, 3, none⟩ (.int .i64 r.version)).setCell ⟨w.heap.size, 4, none⟩ (.slice (some ⟨b, 0, none⟩) 4 4)).setCell ⟨w.heap.size, 5, none⟩ (.int .i64 0)).setCell ⟨w.heap.size, 6, none⟩ (.int .i64 0)).setCell ⟨w.heap.size, 7, none⟩ (.bool false)).setCell ⟨w.heap.size, 8, none⟩ (.int .i64 0)).cell? ⟨w.heap.size, 0, none⟩ = some (.int .i64 1) := b9.cells.1 0
        have r1 : ((((((((((w5.setCell ⟨w3.heap.size, 1, none⟩ (.int .i64 (1 + x2))).setCell ⟨w.heap.size, 0, none⟩ (.int .i64 1)).setCell ⟨w.heap.size, 1, none⟩ (.int .i64 x1)).setCell ⟨w.heap.size, 2, none⟩ (.int .i64 (1 + x2))).setCell ⟨w.heap.size, 3, none⟩ (.int .i64 r.version)).setCell ⟨w.heap.size, 4, none⟩ (.slice (some ⟨b, 0, none⟩) 4 4)).setCell ⟨w.heap.size, 5, none⟩ (.int .i64 0)).setCell ⟨w.heap.size, 6, none⟩ (.int .i64 0)).setCell ⟨w.heap.size, 7, none⟩ (.bool false)).setCell ⟨w.heap.size, 8, none⟩ (.int .i64 0)).cell? ⟨w.heap.size, 1, none⟩ = some (.int .i64 x1) := b9.cells.1 1
        have r2 : ((((((((((w5.setCell ⟨w3.heap.size, 1, none⟩ (.int .i64 (1 + x2))).setCell ⟨w.heap.size, 0, none⟩ (.int .i64 1)).setCell ⟨w.heap.size, 1, none⟩ (.int .i64 x1)).setCell ⟨w.heap.size, 2, none⟩ (.int .i64 (1 + x2))).setCell ⟨w.heap.size, 3, none⟩ (.int .i64 r.version)).setCell ⟨w.heap.size, 4, none⟩ (.slice (some ⟨b, 0, none⟩) 4 4)).setCell ⟨w.heap.size, 5, none⟩ (.int .i64 0)).setCell ⟨w.heap.size, 6, none⟩ (.int .i64 0)).setCell ⟨w.heap.size, 7, none⟩ (.bool false)).setCell ⟨w.heap.size, 8, none⟩ (.int .i64 0)).cell? ⟨w.heap.size, 2, none⟩ = some (.int .i64 (1 + x2)) := b9.cells.1 2
        have r3 : ((((((((((w5.setCell ⟨w3.heap.size, 1, none⟩ (.int .i64 (1 + x2))).setCell ⟨w.heap.size, 0, none⟩ (.int .i64 1)).setCell ⟨w.heap.size, 1, none⟩ (.int .i64 x1)).setCell ⟨w.heap.size, 2, none⟩ (.int .i64 (1 + x2))).setCell ⟨w.heap.size, 3, none⟩ (.int .i64 r.version)).setCell ⟨w.heap.size, 4, none⟩ (.slice (some ⟨b, 0, none⟩) 4 4)).setCell ⟨w.heap.size, 5, none⟩ (.int .i64 0)).setCell ⟨w.heap.size, 6, none⟩ (.int .i64 0)).setCell ⟨w.heap.size, 7, none⟩ (.bool false)).setCell ⟨w.heap.size, 8, none⟩ (.int .i64 0)).cell? ⟨w.heap.size, 3, none⟩ = some (.int .i64 r.version) := b9.cells.1 3
        have r4 : ((((((((((w5.setCell ⟨w3.heap.size, 1, none⟩ (.int .i64 (1 + x2))).setCell ⟨w.heap.size, 0, none⟩ (.int .i64 1)).setCell ⟨w.heap.size, 1, none⟩ (.int .i64 x1)).setCell ⟨w.heap.size, 2, none⟩ (.int .i64 (1 + x2))).setCell ⟨w.heap.size, 3, none⟩ (.int .i64 r.version)).setCell ⟨w.heap.size, 4, none⟩ (.slice (some ⟨b, 0, none⟩) 4 4)).setCell ⟨w.heap.size, 5, none⟩ (.int .i64 0)).setCell ⟨w.heap.size, 6, none⟩ (.int .i64 0)).setCell ⟨w.heap.size, 7, none⟩ (.bool false)).setCell ⟨w.heap.size, 8, none⟩ (.int .i64 0)).cell? ⟨w.heap.size, 4, none⟩ = some (.slice (some ⟨b, 0, none⟩) 4 4) := b9.cells.1 4
        have r5 : ((((((((((w5.setCell ⟨w3.heap.size, 1, none⟩ (.int .i64 (1 + x2))).setCell ⟨w.heap.size, 0, none⟩ (.int .i64 1)).setCell ⟨w.heap.size, 1, none⟩ (.int .i64 x1)).setCell ⟨w.heap.size, 2, none⟩ (.int .i64 (1 + x2))).setCell ⟨w.heap.size, 3, none⟩ (.int .i64 r.version)).setCell ⟨w.heap.size, 4, none⟩ (.slice (some ⟨b, 0, none⟩) 4 4)).setCell ⟨w.heap.size, 5, none⟩ (.int .i64 0)).setCell ⟨w.heap.size, 6, none⟩ (.int .i64 0)).setCell ⟨w.heap.size, 7, none⟩ (.bool false)).setCell ⟨w.heap.size, 8, none⟩ (.int .i64 0)).cell? ⟨w.heap.size, 5, none⟩ = some (.int .i64 0) := b9.cells.1 5
        have r6 : ((((((((((w5.setCell ⟨w3.heap.size, 1, none⟩ (.int .i64 (1 + x2))).setCell ⟨w.heap.size, 0, none⟩ (.int .i64 1)).setCell ⟨w.heap.size, 1, none⟩ (.int .i64 x1)).setCell ⟨w.heap.size, 2, none⟩ (.int .i64 (1 + x2))).setCell ⟨w.heap.size, 3, none⟩ (.int .i64 r.version)).setCell ⟨w.heap.size, 4, none⟩ (.slice (some ⟨b, 0, none⟩) 4 4)).setCell ⟨w.heap.size, 5, none⟩ (.int .i64 0)).setCell ⟨w.heap.size, 6, none⟩ (.int .i64 0)).setCell ⟨w.heap.size, 7, none⟩ (.bool false)).setCell ⟨w.heap.size, 8, none⟩ (.int .i64 0)).cell? ⟨w.heap.size, 6, none⟩ = some (.int .i64 0) := b9.cells.1 6
        have r7 : ((((((((((w5.setCell ⟨w3.heap.size, 1, none⟩ (.int .i64 (1 + x2))).setCell ⟨w.heap.size, 0, none⟩ (.int .i64 1)).setCell ⟨w.heap.size, 1, none⟩ (.int .i64 x1)).setCell ⟨w.heap.size, 2, none⟩ (.int .i64 (1 + x2))).setCell ⟨w.heap.size, 3, none⟩ (.int .i64 r.version)).setCell ⟨w.heap.size, 4, none⟩ (.slice (some ⟨b, 0, none⟩) 4 4)).setCell ⟨w.heap.size, 5, none⟩ (.int .i64 0)).setCell ⟨w.heap.size, 6, none⟩ (.int .i64 0)).setCell ⟨w.heap.size, 7, none⟩ (.bool false)).setCell ⟨w.heap.size, 8, none⟩ (.int .i64 0)).cell? ⟨w.heap.size, 7, none⟩ = some (.bool false) := b9.cells.1 7
        have r8 : ((((((((((w5.setCell ⟨w3.heap.size, 1, none⟩ (.int .i64 (1 + x2))).setCell ⟨w.heap.size, 0, none⟩ (.int .i64 1)).setCell ⟨w.heap.size, 1, none⟩ (.int .i64 x1)).setCell ⟨w.heap.size, 2, none⟩ (.int .i64 (1 + x2))).setCell ⟨w.heap.size, 3, none⟩ (.int .i64 r.version)).setCell ⟨w.heap.size, 4, none⟩ (.slice (some ⟨b, 0, none⟩) 4 4)).setCell ⟨w.heap.size, 5, none⟩ (.int .i64 0)).setCell ⟨w.heap.size, 6, none⟩ (.int .i64 0)).setCell ⟨w.heap.size, 7, none⟩ (.bool false)).setCell ⟨w.heap.size, 8, none⟩ (.int .i64 0)).cell? ⟨w.heap.size, 8, none⟩ = some (.int .i64 0) := b9.cells.1 8
        have k9 : Kept g w ((((((((((w5.setCell ⟨w3.heap.size, 1, none⟩ (.int .i64 (1 + x2))).setCell ⟨w.heap.size, 0, none⟩ (.int .i64 1)).setCell ⟨w.heap.size, 1, none⟩ (.int .i64 x1)).setCell ⟨w.heap.size, 2, none⟩ (.int .i64 (1 + x2))).setCell ⟨w.heap.size, 3, none⟩ (.int .i64 r.version)).setCell ⟨w.heap.size, 4, none⟩ (.slice (some ⟨b, 0, none⟩) 4 4)).setCell ⟨w.heap.size, 5, none⟩ (.int .i64 0)).setCell ⟨w.heap.size, 6, none⟩ (.int .i64 0)).setCell ⟨w.heap.size, 7, none⟩ (.bool false)).setCell ⟨w.heap.size, 8, none⟩ (.int .i64 0)) := (((((((((k7.setN (Nat.le_refl _) _).setN (Nat.le_refl _) _).setN (Nat.le_refl _) _).setN (Nat.le_refl _) _).setN (Nat.le_refl _) _).setN (Nat.le_refl _) _).setN (Nat.le_refl _) _).setN (Nat.le_refl _) _).setN (Nat.le_refl _) _)
        have c9 : Cur w0 ((((((((((w5.setCell ⟨w3.heap.size, 1, none⟩ (.int .i64 (1 + x2))).setCell ⟨w.heap.size, 0, none⟩ (.int .i64 1)).setCell ⟨w.heap.size, 1, none⟩ (.int .i64 x1)).setCell ⟨w.heap.size, 2, none⟩ (.int .i64 (1 + x2))).setCell ⟨w.heap.size, 3, none⟩ (.int .i64 r.version)).setCell ⟨w.heap.size, 4, none⟩ (.slice (some ⟨b, 0, none⟩) 4 4)).setCell ⟨w.heap.size, 5, none⟩ (.int .i64 0)).setCell ⟨w.heap.size, 6, none⟩ (.int .i64 0)).setCell ⟨w.heap.size, 7, none⟩ (.bool false)).setCell ⟨w.heap.size, 8, none⟩ (.int .i64 0)) g := (((((((((c7.setN hg _).setN hg _).setN hg _).setN hg _).setN hg _).setN hg _).setN hg _).setN hg _).setN hg _)
        have o9 := (((((((((o7.setCell (p := ⟨w.heap.size, 0, none⟩) nR (.int .i64 1)).setCell (p := ⟨w.heap.size, 1, none⟩) nR (.int .i64 x1)).setCell (p := ⟨w.heap.size, 2, none⟩) nR (.int .i64 (1 + x2))).setCell (p := ⟨w.heap.size, 3, none⟩) nR (.int .i64 r.version)).setCell (p := ⟨w.heap.size, 4, none⟩) nR (.slice (some ⟨b, 0, none⟩) 4 4)).setCell (p := ⟨w.heap.size, 5, none⟩) nR (.int .i64 0)).setCell (p := ⟨w.heap.size, 6, none⟩) nR (.int .i64 0)).setCell (p := ⟨w.heap.size, 7, none⟩) nR (.bool false)).setCell (p := ⟨w.heap.size, 8, none⟩) nR (.int .i64 0))
        refine bodyPost_ret (v := .agg #[.int .i64 1, .int .i64 x1, .int .i64 (1 + x2), .int .i64 r.version, .slice (some ⟨b, 0, none⟩) 4 4, .int .i64 0, .int .i64 0, .bool false, .int .i64 0]) (by simp [results, Tryz.results122, go_sem, r0, r1, r2, r3, r4, r5, r6, r7, r8]) rfl ?_
        exact ⟨_, ⟨1, ⟨x1, 1 + x2, r.version, r.fields⟩, ⟨0, 0, false, 0⟩⟩, [b], rfl, ⟨_, rfl, HI.out, by show OwnSl strO _ _ r.fields [b]; exact o9⟩, ⟨by simp, fun q hq => by rw [List.mem_singleton] at hq; omega⟩, c9, k9, fun _ => rl⟩

end Go.Proofs.YtfieimmlcopbhaaGreatDoor

namespace Go.Proofs.YtfieimmlcopbhaaGreatDoor
open Go.RowKit

section
variable {P : Program} {ops : Array Oper} {md : Region.Mode} {Q : Exit → Act → World → Prop}

/-- whatever order is picked; behind every operation the world may have grown -/
def wpAnyK (P : Program) (md : Region.Mode) (ops : Array Oper) (Q : Exit → Act → World → Prop) : Nat → Array Bool → Act → World → Prop
  | 0, listed, a, w => Region.ready md ops listed = [] ∧ Q .normal a w
  | f + 1, listed, a, w => (Region.ready md ops listed = [] → Q .normal a w) ∧
    ∀ i ∈ Region.ready md ops listed, wpOp P ops Q i (fun a' w' => Ext w w' ∧ ∀ w1, Ext w' w1 → wpAnyK P md ops Q f (listed.setIfInBounds i true) a' w1) a w

theorem wpAny_of_K : ∀ (f : Nat) (listed : Array Bool) (a : Act) (w : World), wpAnyK P md ops Q f listed a w → wpAny P md ops Q f listed a w
  | 0, _, _, _, h => h
  | f + 1, _, _, _, h => ⟨h.1, fun i hi => wpOp_mono (fun _ w' h' => wpAny_of_K f _ _ _ (h'.2 w' (Ext.refl _))) (h.2 i hi)⟩

theorem quietAt_mono {C C' : World → Prop} {o : Oper} {a : Act} {w : World} {v : Value} (h : ∀ w2, C w2 → C' w2) (hq : o.quietAt P a C w v) : o.quietAt P a C' w v := by
  unfold Oper.quietAt at hq ⊢
  generalize (execOp a.eval o).run P w = r at hq ⊢
  cases r with
  | ok n w' =>
    cases n <;> simp only [Oper.quietUpon] at hq ⊢ <;> try exact hq
    case enter f args => exact ⟨hq.1, hq.2.mono fun e w2 ⟨h1, h2⟩ => ⟨h1, h w2 h2⟩⟩
  | halt x w' => simp only [Oper.quietUpon] at hq

/-- in every world that has grown from w the operation yields v, and the world grows -/
def YieldsK (P : Program) (ops : Array Oper) (w : World) (o : Oper) (v : Value) (a : Act) : Prop :=
  (Region.wanted o (yielded ops a.tmps) = true ∧ ∀ w1, Ext w w1 → o.quietAt P a (fun w2 => Ext w1 w2) w1 v) ∨
  (Region.wanted o (yielded ops a.tmps) = false ∧ v = undef)
theorem YieldsK.grow {w w2 : World} {o : Oper} {v : Value} {a : Act} (h : YieldsK P ops w o v a) (x : Ext w w2) : YieldsK P ops w2 o v a :=
  h.imp (fun ⟨h1, h2⟩ => ⟨h1, fun w1 y => h2 w1 (x.trans y)⟩) id
theorem YieldsK.of_same {w : World} {o : Oper} {v : Value} {a a' : Act} (hy : YieldsK P ops w o v a) (he : execOp a'.eval o = execOp a.eval o)
    (hw : Region.wanted o (yielded ops a'.tmps) = Region.wanted o (yielded ops a.tmps)) : YieldsK P ops w o v a' := by
  unfold YieldsK Oper.quietAt at *
  rw [he, hw]
  exact hy
theorem YieldsK.wpOp {w : World} {i : Nat} {o : Oper} {v : Value} {a : Act} (hi : ops[i]? = some o) (hy : YieldsK P ops w o v a) {K : Act → World → Prop}
    (h : ∀ w1, Ext w w1 → K (a.put o.dst v) w1) : wpOp P ops Q i K a w := by
  unfold Go.wpOp
  simp only [hi]
  rcases hy with ⟨hw, hv⟩ | ⟨hw, rfl⟩
  · simp only [hw, if_true]
    exact .inl (Oper.wp_of_quiet (C := fun w2 => Ext w w2) (w := w) (K := fun a' => a' = a.put o.dst v) (Ext.refl _) (fun a' w' hx e => by subst e; exact h _ hx)
      ⟨v, fun w1 hx => quietAt_mono (fun w2 y => hx.trans y) (hv w1 hx), rfl⟩)
  · simp only [hw, Bool.false_eq_true, if_false]; exact h _ (Ext.refl _)

theorem wpOp_putK {j : Nat} {oi oj : Oper} {v : Value} {w0 : World} (hj : ops[j]? = some oj) (hap : oi.apart ops oj = true)
    (hsi : ∀ cs b, oi.op ≠ .select cs b) (hsj : ∀ cs b, oj.op ≠ .select cs b)
    (hQ : ∀ c a w, Q (.panic c) (a.put oi.dst v) w → Q (.panic c) a w) {K : Act → World → Prop} {a : Act} {w : World}
    (hy : YieldsK P ops w0 oi v a) (h : wpOp P ops Q j K (a.put oi.dst v) w) :
    wpOp P ops Q j (fun a' w' => YieldsK P ops w0 oi v a' ∧ K (a'.put oi.dst v) w') a w := by
  obtain ⟨h1, h2, h3⟩ := Oper.apart_spec hap
  have keep : ∀ (a : Act), YieldsK P ops w0 oi v a → ∀ u, YieldsK P ops w0 oi v (a.put oj.dst u) := fun a hy u =>
    hy.of_same (execOp_put oi hsi a oj.dst u h3) (wanted_put oi a oj.dst u h3)
  have keepD : ∀ d, YieldsK P ops w0 oi v { a with defers := d :: a.defers } := fun d => hy.of_same rfl rfl
  unfold wpOp at *
  simp only [hj] at *
  rw [wanted_put oj a oi.dst v h1] at h
  split
  · rename_i hw
    simp only [hw, if_true] at h
    rcases h with h | ⟨hasks, hlets⟩
    case inr => exact .inr ⟨by unfold Oper.asks at *; rw [execOp_put oj hsj a oi.dst v h1] at hasks; exact hasks, hlets⟩
    refine .inl ?_
    unfold Oper.wp at *
    rw [execOp_put oj hsj a oi.dst v h1] at h
    generalize (execOp a.eval oj).run P w = r at *
    cases r with
    | ok n w' =>
      cases n <;> simp only [Oper.upon] at h ⊢
      case value u => exact ⟨keep a hy u, by rw [← Act.put_comm a v u h2]; exact h⟩
      case skip => exact ⟨keep a hy _, by rw [← Act.put_comm a v undef h2]; exact h⟩
      case defer d =>
        refine ⟨keep _ (keepD d) _, ?_⟩
        rw [← Act.put_comm _ v undef h2, ← Act.put_defers]
        exact h
      case enter f args =>
        refine Calls.mono h fun e w'' he => ?_
        cases e with
        | returned u => exact ⟨keep a hy u, by rw [← Act.put_comm a v u h2]; exact he⟩
        | panicked c => exact hQ _ _ _ he
        | outgrown => exact he
      case row row args => exact Rows.mono h fun u w'' he => ⟨keep a hy u, by rw [← Act.put_comm a v u h2]; exact he⟩
    | halt x w' =>
      cases x <;> simp only [Oper.upon] at h ⊢
      case panic u => exact hQ _ _ _ h
  · rename_i hw
    simp only [hw] at h
    exact ⟨keep a hy _, by rw [← Act.put_comm a v undef h2]; exact h⟩

theorem wpAnyK_first {i : Nat} {oi : Oper} {v : Value} (hi : ops[i]? = some oi) (hsel : ∀ (j : Nat) (o : Oper) cs b, ops[j]? = some o → o.op ≠ .select cs b)
    (hQ : ∀ c a w, Q (.panic c) (a.put oi.dst v) w → Q (.panic c) a w) :
    ∀ (fuel : Nat) (listed : Array Bool) (a : Act) (w : World),
      (∀ j oj, ops[j]? = some oj → j ≠ i → listed.getD j true = false → (∀ e ∈ oj.after, Region.binds md e = true → e.on ≠ i) → oi.apart ops oj = true) →
      i ∈ Region.ready md ops listed → YieldsK P ops w oi v a →
      (∀ w1, Ext w w1 → wpAnyK P md ops Q fuel (listed.setIfInBounds i true) (a.put oi.dst v) w1) → wpAnyK P md ops Q (fuel + 1) listed a w := by
  intro fuel
  induction fuel with
  | zero =>
    intro listed a w _ hr hy H
    refine ⟨fun h => (by rw [h] at hr; cases hr), fun j hj => ?_⟩
    by_cases hji : j = i
    · subst hji; exact hy.wpOp hi fun w1 hx => ⟨hx, fun w2 hx2 => H w2 (hx.trans hx2)⟩
    · have := ready_mono hj hji
      rw [(H w (Ext.refl _)).1] at this
      cases this
  | succ fuel ih =>
    intro listed a w hfree hr hy H
    refine ⟨fun h => (by rw [h] at hr; cases hr), fun j hj => ?_⟩
    by_cases hji : j = i
    · subst hji; exact hy.wpOp hi fun w1 hx => ⟨hx, fun w2 hx2 => H w2 (hx.trans hx2)⟩
    · have h1 := (H w (Ext.refl _)).2 j (ready_mono hj hji)
      obtain ⟨hjun, oj, hoj, hall⟩ := mem_ready.1 hj
      have hnot : ∀ e ∈ oj.after, Region.binds md e = true → e.on ≠ i := fun e he hb heq => by
        have h1 := hall e he hb
        have h0 := (mem_ready.1 hr).1
        rw [heq] at h1
        rcases Nat.lt_or_ge i listed.size with h' | h'
        · simp [h'] at h0 h1; rw [h0] at h1; cases h1
        · simp [Array.getElem?_eq_none h'] at h1
      have h2 := wpOp_putK hoj (hfree j oj hoj hji hjun hnot) (fun cs b => hsel i oi cs b hi) (fun cs b => hsel j oj cs b hoj) hQ hy h1
      have hfree' : ∀ k ok, ops[k]? = some ok → k ≠ i → (listed.setIfInBounds j true).getD k true = false →
          (∀ e ∈ ok.after, Region.binds md e = true → e.on ≠ i) → oi.apart ops ok = true := fun k ok hk hki hun hno => by
        refine hfree k ok hk hki ?_ hno
        by_cases hjk : j = k
        · subst hjk; exact hjun
        · rw [getD_set_ne true hjk] at hun; exact hun
      refine wpOp_mono (fun a' w' h3 => ⟨h3.2.1, fun w1 hx => ih (listed.setIfInBounds j true) a' w1 hfree' (ready_mono hr (Ne.symm hji)) (h3.1.grow (h3.2.1.trans hx)) fun w2 hx2 => ?_⟩) h2
      rw [Array.setIfInBounds_comm _ _ hji]
      exact h3.2.2 w2 (hx.trans hx2)

/-- take number i first -/
theorem wpAnyK_take {i : Nat} {oi : Oper} {v : Value} {fuel : Nat} {listed : Array Bool} {a : Act} {w : World} (hi : ops[i]? = some oi)
    (hs : Region.noSelect ops = true) (hf : Region.free md ops listed i = true) (hr : (Region.ready md ops listed).contains i = true)
    (hQ : ∀ c a w, Q (.panic c) (a.put oi.dst v) w → Q (.panic c) a w) (hy : YieldsK P ops w oi v a)
    (h : ∀ w1, Ext w w1 → wpAnyK P md ops Q fuel (listed.setIfInBounds i true) (a.put oi.dst v) w1) : wpAnyK P md ops Q (fuel + 1) listed a w :=
  wpAnyK_first hi (Region.noSelect_spec hs) hQ fuel listed a w (Region.free_spec hi hf) (by simpa using hr) hy h
/-- number i alone may come up -/
theorem wpAnyK_one {i : Nat} {oi : Oper} {fuel : Nat} {listed : Array Bool} {a : Act} {w : World} (hi : ops[i]? = some oi) (hr : Region.ready md ops listed = [i])
    (h : ∀ K : Act → World → Prop, (∀ a' w', Ext w w' → (∀ w1, Ext w' w1 → wpAnyK P md ops Q fuel (listed.setIfInBounds i true) a' w1) → K a' w') → if Region.wanted oi (yielded ops a.tmps) = true then Oper.wp P oi a w K Q else K (a.put oi.dst undef) w) : wpAnyK P md ops Q (fuel + 1) listed a w := by
  refine ⟨fun h0 => (by rw [hr] at h0; cases h0), fun j hj => ?_⟩
  rw [hr, List.mem_singleton] at hj
  subst hj
  exact wpOp_step hi (fun K hK => h K fun a' w' hx hk => hK a' w' ⟨hx, hk⟩)
theorem wpAnyK_done {listed : Array Bool} {a : Act} {w : World} (hr : Region.ready md ops listed = []) (h : Q .normal a w) : ∀ fuel, wpAnyK P md ops Q fuel listed a w
  | 0 => ⟨hr, h⟩
  | _ + 1 => ⟨fun _ => h, by rw [hr]; simp⟩
theorem wp_region_K {id : Nat} {a : Act} {w : World} (hm : P.follows .mixedOrders = true)
    (h : wpAnyK P .any ops Q ops.size (Array.replicate ops.size false) a w.drew) : (Code.region id ops true).wp P Q a w :=
  wp_region_any hm (wpAny_of_K _ _ _ _ h)
end
end Go.Proofs.YtfieimmlcopbhaaGreatDoor

namespace Go.Proofs.YtfieimmlcopbhaaGreatDoor
open Go.RowKit

theorem Sl.op {w : World} {A : Option Addr} {n cap : Nat} {xs : List Op} (h : Sl opR w (.slice A n cap) xs) {i : Nat} (hi : i < xs.length) :
    ∃ b off A2 cap2, A = some ⟨b, off, none⟩ ∧ xs[i].ok ∧ Sl strR w (.slice A2 xs[i].record.fields.length cap2) xs[i].record.fields ∧ w.cell? ⟨b, off + i * 9, none⟩ = some (.int .i64 xs[i].kind) ∧ w.cell? ⟨b, off + i * 9 + 1, none⟩ = some (.int .i64 xs[i].record.source) ∧ w.cell? ⟨b, off + i * 9 + 2, none⟩ = some (.int .i64 xs[i].record.key) ∧ w.cell? ⟨b, off + i * 9 + 3, none⟩ = some (.int .i64 xs[i].record.version) ∧ w.cell? ⟨b, off + i * 9 + 4, none⟩ = some (.slice A2 xs[i].record.fields.length cap2) ∧ w.cell? ⟨b, off + i * 9 + 5, none⟩ = some (.int .i64 xs[i].verdict.a) ∧ w.cell? ⟨b, off + i * 9 + 6, none⟩ = some (.int .i64 xs[i].verdict.b) ∧ w.cell? ⟨b, off + i * 9 + 7, none⟩ = some (.bool xs[i].verdict.same) ∧ w.cell? ⟨b, off + i * 9 + 8, none⟩ = some (.int .i64 xs[i].verdict.time) := by
  obtain ⟨b, off, cs, rfl, ⟨m, rfl, hok, hs⟩, hc⟩ := h.at_ hi
  have hs' := hs
  obtain ⟨A2, cap2, rfl, _⟩ := hs
  exact ⟨b, off, A2, cap2, rfl, hok, hs', by simpa [opR, Op.cells] using hc 0 (by simp [opR]), by simpa [opR, Op.cells] using hc 1 (by simp [opR]), by simpa [opR, Op.cells] using hc 2 (by simp [opR]), by simpa [opR, Op.cells] using hc 3 (by simp [opR]), by simpa [opR, Op.cells] using hc 4 (by simp [opR]), by simpa [opR, Op.cells] using hc 5 (by simp [opR]), by simpa [opR, Op.cells] using hc 6 (by simp [opR]), by simpa [opR, Op.cells] using hc 7 (by simp [opR]), by simpa [opR, Op.cells] using hc 8 (by simp [opR])⟩

theorem infoOp : (Tryz.prog.info? 28).map (fun i => (i.zero, i.size, i.bytes)) = some (some (.agg #[.int .i64 0, .int .i64 0, .int .i64 0, .int .i64 0, .slice none 0 0, .int .i64 0, .int .i64 0, .bool false, .int .i64 0]), 9, 88) := by kernel_rfl
def opZ : List Value := [.int .i64 0, .int .i64 0, .int .i64 0, .int .i64 0, .slice none 0 0, .int .i64 0, .int .i64 0, .bool false, .int .i64 0]

set_option maxHeartbeats 400000 in
set_option maxRecDepth 20000 in
theorem eqOpS_c (v u : Value) (xs ys : List Op) (w : World) (h : Sl opR w v xs) (k : Sl opR w u ys) :
    Calls Tryz.prog 56 #[v, u] w fun e w2 => e = .returned (.bool (eqB xs ys)) ∧ Ext w w2 := by
  obtain ⟨A, cap, rfl, hm⟩ := h.form
  obtain ⟨B, cap2, rfl, hm2⟩ := k.form
  by_cases hl : xs.length = ys.length
  · have hl' : ((xs.length : Int) != (ys.length : Int)) = false := by simp [hl]
    have HL := hid hl
    clear hl
    go_enter Tryz.func56, Tryz.ntmps56
    go_wp2
    go_loopw [5] (fun i wr => ∃ k2 : Nat, k2 ≤ xs.length ∧ i = .int .i64 k2 ∧ xs.take k2 = ys.take k2 ∧ Ext w wr) (fun i _ => xs.length - (intOf i).toNat)
    case atStart => exact ⟨0, Nat.zero_le _, rfl, by simp, Ext.refl _⟩
    case round =>
      obtain ⟨k2, hk, rfl, he, hx⟩ := hrel
      have HE := hid he
      clear he
      by_cases hlt : k2 < xs.length
      · have hlt2 : k2 < ys.length := by have := HL.out; omega
        obtain ⟨b, off, A2, cap3, rfl, hok, hi, hc0, hc1, hc2, hc3, hc4, hc5, hc6, hc7, hc8⟩ := (h.mono hx).op hlt
        obtain ⟨b2, off2, A3, cap4, rfl, hok2, hi2, hd0, hd1, hd2, hd3, hd4, hd5, hd6, hd7, hd8⟩ := (k.mono hx).op hlt2
        have hcz0 : ∀ z : ExtOf wr, z.1.cell? ⟨b, off + k2 * 9, none⟩ = _ := fun z => z.2.cell hc0
        have hdz0 : ∀ z : ExtOf wr, z.1.cell? ⟨b2, off2 + k2 * 9, none⟩ = _ := fun z => z.2.cell hd0
        have hcz1 : ∀ z : ExtOf wr, z.1.cell? ⟨b, off + k2 * 9 + 1, none⟩ = _ := fun z => z.2.cell hc1
        have hdz1 : ∀ z : ExtOf wr, z.1.cell? ⟨b2, off2 + k2 * 9 + 1, none⟩ = _ := fun z => z.2.cell hd1
        have hcz2 : ∀ z : ExtOf wr, z.1.cell? ⟨b, off + k2 * 9 + 2, none⟩ = _ := fun z => z.2.cell hc2
        have hdz2 : ∀ z : ExtOf wr, z.1.cell? ⟨b2, off2 + k2 * 9 + 2, none⟩ = _ := fun z => z.2.cell hd2
        have hcz3 : ∀ z : ExtOf wr, z.1.cell? ⟨b, off + k2 * 9 + 3, none⟩ = _ := fun z => z.2.cell hc3
        have hdz3 : ∀ z : ExtOf wr, z.1.cell? ⟨b2, off2 + k2 * 9 + 3, none⟩ = _ := fun z => z.2.cell hd3
        have hcz4 : ∀ z : ExtOf wr, z.1.cell? ⟨b, off + k2 * 9 + 4, none⟩ = _ := fun z => z.2.cell hc4
        have hdz4 : ∀ z : ExtOf wr, z.1.cell? ⟨b2, off2 + k2 * 9 + 4, none⟩ = _ := fun z => z.2.cell hd4
        have hcz5 : ∀ z : ExtOf wr, z.1.cell? ⟨b, off + k2 * 9 + 5, none⟩ = _ := fun z => z.2.cell hc5
        have hdz5 : ∀ z : ExtOf wr, z.1.cell? ⟨b2, off2 + k2 * 9 + 5, none⟩ = _ := fun z => z.2.cell hd5
        have hcz6 : ∀ z : ExtOf wr, z.1.cell? ⟨b, off + k2 * 9 + 6, none⟩ = _ := fun z => z.2.cell hc6
        have hdz6 : ∀ z : ExtOf wr, z.1.cell? ⟨b2, off2 + k2 * 9 + 6, none⟩ = _ := fun z => z.2.cell hd6
        have hcz7 : ∀ z : ExtOf wr, z.1.cell? ⟨b, off + k2 * 9 + 7, none⟩ = _ := fun z => z.2.cell hc7
        have hdz7 : ∀ z : ExtOf wr, z.1.cell? ⟨b2, off2 + k2 * 9 + 7, none⟩ = _ := fun z => z.2.cell hd7
        have hcz8 : ∀ z : ExtOf wr, z.1.cell? ⟨b, off + k2 * 9 + 8, none⟩ = _ := fun z => z.2.cell hc8
        have hdz8 : ∀ z : ExtOf wr, z.1.cell? ⟨b2, off2 + k2 * 9 + 8, none⟩ = _ := fun z => z.2.cell hd8
        by_cases h0 : xs[k2] = ys[k2]
        · have H0 := hid h0
          clear h0
          go_wp2_with fail
          refine wp_region_ext (by kernel_rfl) (by kernel_rfl) ?_
          repeat (go_big_quiet_step (((go_at_call 10; exact quiet_ext (eqOp_c _ _ xs[k2] ys[k2] _ ⟨_, rfl, hok, hi.mono (Subtype.property _)⟩ ⟨_, rfl, hok2, hi2.mono (Subtype.property _)⟩)))))
          refine wpQuiet_nil ?_
          rintro w1 ⟨⟨_, x1⟩, rfl⟩
          rw [eqB_true H0.out]
          go_wp2
          go_roundw
          case rel => exact ⟨k2 + 1, by omega, by go_num, take_snoc_eq hlt hlt2 H0.out HE.out, hx.trans x1⟩
          case measure => simp [intOf]; omega
        · have H0 := hid h0
          clear h0
          go_wp2_with fail
          refine wp_region_ext (by kernel_rfl) (by kernel_rfl) ?_
          repeat (go_big_quiet_step (((go_at_call 10; exact quiet_ext (eqOp_c _ _ xs[k2] ys[k2] _ ⟨_, rfl, hok, hi.mono (Subtype.property _)⟩ ⟨_, rfl, hok2, hi2.mono (Subtype.property _)⟩)))))
          refine wpQuiet_nil ?_
          rintro w1 ⟨⟨_, x1⟩, rfl⟩
          rw [eqB_false H0.out]
          go_wp2
          go_ret
          exact ⟨ret_bool (eqB_false (ne_of_at hlt hlt2 H0.out)).symm, hx.trans x1⟩
      · go_wp2
        go_ret
        exact ⟨ret_bool (eqB_true (eq_of_take hlt HL.out HE.out)).symm, hx⟩
  · have hl' : ((xs.length : Int) != (ys.length : Int)) = true := by simp; omega
    go_enter Tryz.func56, Tryz.ntmps56
    go_wp2
    go_ret
    exact ⟨ret_bool (eqB_false fun e => hl (by rw [e])).symm, Ext.refl _⟩
end Go.Proofs.YtfieimmlcopbhaaGreatDoor

namespace Go.Proofs.YtfieimmlcopbhaaGreatDoor
open Go.Shelf
def lShTrimP_ren : Go.Shelf.Ren := ⟨fun | 101 => 55 | 208 => 104 | 206 => 141 | n => n, fun | 9 => 9 | 4 => 4 | 3 => 3 | n => n, fun | n => n⟩
theorem lShTrimP : Go.Proofs.Lays.n101 Tryz.prog lShTrimP_ren := {
  mixed := by kernel_rfl
  f101 := Tryz.func55.trans (congrArg some (by kernel_rfl))
  f206 := Tryz.func141.trans (congrArg some (by kernel_rfl))
  f208 := Tryz.func104.trans (congrArg some (by kernel_rfl))
  t3 := Tryz.underlying3
  a3 := Tryz.isAgg3
  z3 := Tryz.sizeOf3
  v3 := Tryz.zeroValue3
  t4 := Tryz.underlying4
  a4 := Tryz.isAgg4
  z4 := Tryz.sizeOf4
  v4 := Tryz.zeroValue4
  t9 := Tryz.underlying9
  a9 := Tryz.isAgg9
  z9 := Tryz.sizeOf9
  v9 := Tryz.zeroValue9 }
end Go.Proofs.YtfieimmlcopbhaaGreatDoor

namespace Go.Proofs.YtfieimmlcopbhaaGreatDoor
open Go.Shelf
def lShTrimS_ren : Go.Shelf.Ren := ⟨fun | 102 => 54 | 209 => 103 | 207 => 140 | n => n, fun | 9 => 9 | 4 => 4 | 3 => 3 | n => n, fun | n => n⟩
theorem lShTrimS : Go.Proofs.Lays.n102 Tryz.prog lShTrimS_ren := {
  mixed := by kernel_rfl
  f102 := Tryz.func54.trans (congrArg some (by kernel_rfl))
  f207 := Tryz.func140.trans (congrArg some (by kernel_rfl))
  f209 := Tryz.func103.trans (congrArg some (by kernel_rfl))
  t3 := Tryz.underlying3
  a3 := Tryz.isAgg3
  z3 := Tryz.sizeOf3
  v3 := Tryz.zeroValue3
  t4 := Tryz.underlying4
  a4 := Tryz.isAgg4
  z4 := Tryz.sizeOf4
  v4 := Tryz.zeroValue4
  t9 := Tryz.underlying9
  a9 := Tryz.isAgg9
  z9 := Tryz.sizeOf9
  v9 := Tryz.zeroValue9 }
end Go.Proofs.YtfieimmlcopbhaaGreatDoor

namespace Go.Proofs.YtfieimmlcopbhaaGreatDoor
open Go.RowKit

section
variable {P : Program} {ops : Array Oper} {md : Region.Mode} {Q : Exit → Act → World → Prop} {S : World → Prop} {m : Nat}

def wpAnyJ (P : Program) (md : Region.Mode) (ops : Array Oper) (Q : Exit → Act → World → Prop) (S : World → Prop) (m : Nat) : Nat → Array Bool → Act → World → Prop
  | 0, listed, a, w => Region.ready md ops listed = [] ∧ Q .normal a w
  | f + 1, listed, a, w => (Region.ready md ops listed = [] → Q .normal a w) ∧
    ∀ i ∈ Region.ready md ops listed, wpOp P ops Q i (fun a' w' => (i ≠ m → S w') ∧ wpAnyJ P md ops Q S m f (listed.setIfInBounds i true) a' w') a w

theorem wpAny_of_J : ∀ (f : Nat) (listed : Array Bool) (a : Act) (w : World), wpAnyJ P md ops Q S m f listed a w → wpAny P md ops Q f listed a w
  | 0, _, _, _, h => h
  | f + 1, _, _, _, h => ⟨h.1, fun i hi => wpOp_mono (fun a' w' h' => wpAny_of_J f _ a' w' h'.2) (h.2 i hi)⟩

theorem wpAnyJ_first {i : Nat} {oi : Oper} {v : Value} (hi : ops[i]? = some oi) (hwm : Region.waitsFor md ops m i = true) (hsel : ∀ (j : Nat) (o : Oper) cs b, ops[j]? = some o → o.op ≠ .select cs b)
    (hQ : ∀ c a w, Q (.panic c) (a.put oi.dst v) w → Q (.panic c) a w) :
    ∀ (fuel : Nat) (listed : Array Bool) (a : Act) (w : World),
      (∀ j oj, ops[j]? = some oj → j ≠ i → listed.getD j true = false → (∀ e ∈ oj.after, Region.binds md e = true → e.on ≠ i) → oi.apart ops oj = true) →
      i ∈ Region.ready md ops listed → YieldsIf P ops S oi v a → S w →
      wpAnyJ P md ops Q S m fuel (listed.setIfInBounds i true) (a.put oi.dst v) w → wpAnyJ P md ops Q S m (fuel + 1) listed a w := by
  intro fuel
  induction fuel with
  | zero =>
    intro listed a w _ hr hy hS H
    refine ⟨fun h => (by rw [h] at hr; cases hr), fun j hj => ?_⟩
    by_cases hji : j = i
    · subst hji; exact hy.wpOp hi hS ⟨fun _ => hS, H⟩
    · have := ready_mono hj hji
      rw [H.1] at this
      cases this
  | succ fuel ih =>
    intro listed a w hfree hr hy hS H
    refine ⟨fun h => (by rw [h] at hr; cases hr), fun j hj => ?_⟩
    by_cases hji : j = i
    · subst hji; exact hy.wpOp hi hS ⟨fun _ => hS, H⟩
    · have h1 := H.2 j (ready_mono hj hji)
      obtain ⟨hjun, oj, hoj, hall⟩ := mem_ready.1 hj
      have hnot : ∀ e ∈ oj.after, Region.binds md e = true → e.on ≠ i := fun e he hb heq => by
        have h1 := hall e he hb
        have h0 := (mem_ready.1 hr).1
        rw [heq] at h1
        rcases Nat.lt_or_ge i listed.size with h' | h'
        · simp [h'] at h0 h1; rw [h0] at h1; cases h1
        · simp [Array.getElem?_eq_none h'] at h1
      have h2 := wpOp_putIf (S := S) hoj (hfree j oj hoj hji hjun hnot) (fun cs b => hsel i oi cs b hi) (fun cs b => hsel j oj cs b hoj) hQ hy h1
      have hfree' : ∀ k ok, ops[k]? = some ok → k ≠ i → (listed.setIfInBounds j true).getD k true = false →
          (∀ e ∈ ok.after, Region.binds md e = true → e.on ≠ i) → oi.apart ops ok = true := fun k ok hk hki hun hno => by
        refine hfree k ok hk hki ?_ hno
        by_cases hjk : j = k
        · subst hjk; exact hjun
        · rw [getD_set_ne true hjk] at hun; exact hun
      have hri : i ∈ Region.ready md ops (listed.setIfInBounds j true) := ready_mono hr (Ne.symm hji)
      refine wpOp_mono (fun a' w' h3 => ?_) h2
      obtain ⟨hy3, hS3, hW3⟩ := h3
      have hjm : j ≠ m := fun e => by
        obtain ⟨om, hom, e2, he2, hb2, hon2⟩ := Region.waitsFor_spec hwm
        rw [← e, hoj] at hom
        injection hom with hom
        subst hom
        exact hnot e2 he2 hb2 hon2
      refine ⟨hS3, ih (listed.setIfInBounds j true) a' w' hfree' hri hy3 (hS3 hjm) ?_⟩
      rw [Array.setIfInBounds_comm _ _ hji]
      exact hW3

/-- take number i first -/
theorem wpAnyJ_take {i : Nat} {oi : Oper} {v : Value} {fuel : Nat} {listed : Array Bool} {a : Act} {w : World} (hi : ops[i]? = some oi) (hwm : Region.waitsFor md ops m i = true)
    (hs : Region.noSelect ops = true) (hf : Region.free md ops listed i = true) (hr : (Region.ready md ops listed).contains i = true)
    (hQ : ∀ c a w, Q (.panic c) (a.put oi.dst v) w → Q (.panic c) a w) (hy : YieldsIf P ops S oi v a) (hS : S w)
    (h : wpAnyJ P md ops Q S m fuel (listed.setIfInBounds i true) (a.put oi.dst v) w) : wpAnyJ P md ops Q S m (fuel + 1) listed a w :=
  wpAnyJ_first hi hwm (Region.noSelect_spec hs) hQ fuel listed a w (Region.free_spec hi hf) (by simpa using hr) hy hS h
/-- number i alone may come up -/
theorem wpAnyJ_one {i : Nat} {oi : Oper} {fuel : Nat} {listed : Array Bool} {a : Act} {w : World} (hi : ops[i]? = some oi) (hr : Region.ready md ops listed = [i])
    (h : ∀ K : Act → World → Prop, (∀ a' w', S w' → wpAnyJ P md ops Q S m fuel (listed.setIfInBounds i true) a' w' → K a' w') → if Region.wanted oi (yielded ops a.tmps) = true then Oper.wp P oi a w K Q else K (a.put oi.dst undef) w) : wpAnyJ P md ops Q S m (fuel + 1) listed a w := by
  refine ⟨fun h0 => (by rw [hr] at h0; cases h0), fun j hj => ?_⟩
  rw [hr, List.mem_singleton] at hj
  subst hj
  exact wpOp_step hi (fun K hK => h K fun a' w' hx hk => hK a' w' ⟨fun _ => hx, hk⟩)
/-- the last one -/
theorem wpAnyJ_last {oi : Oper} {fuel : Nat} {listed : Array Bool} {a : Act} {w : World} (hi : ops[m]? = some oi) (hr : Region.ready md ops listed = [m]) (hr2 : Region.ready md ops (listed.setIfInBounds m true) = [])
    (h : ∀ K : Act → World → Prop, (∀ a' w', Q .normal a' w' → K a' w') → if Region.wanted oi (yielded ops a.tmps) = true then Oper.wp P oi a w K Q else K (a.put oi.dst undef) w) : wpAnyJ P md ops Q S m (fuel + 1) listed a w := by
  refine ⟨fun h0 => (by rw [hr] at h0; cases h0), fun j hj => ?_⟩
  rw [hr, List.mem_singleton] at hj
  subst hj
  refine wpOp_step hi (fun K hK => h K fun a' w' hq => hK a' w' ⟨fun h9 => absurd rfl h9, ?_⟩)
  cases fuel with
  | zero => exact ⟨hr2, hq⟩
  | succ f => exact ⟨fun _ => hq, by rw [hr2]; simp⟩
theorem wp_region_J (m : Nat) (S : World → Prop) {id : Nat} {a : Act} {w : World} (hm : P.follows .mixedOrders = true)
    (h : wpAnyJ P .any ops Q S m ops.size (Array.replicate ops.size false) a w.drew) : (Code.region id ops true).wp P Q a w :=
  wp_region_any hm (wpAny_of_J _ _ _ _ h)
end
end Go.Proofs.YtfieimmlcopbhaaGreatDoor

namespace Go.Proofs.YtfieimmlcopbhaaGreatDoor
open Go.RowKit

set_option maxHeartbeats 2000000 in
set_option maxRecDepth 20000 in
theorem spec_l29Any (w0 w : World) (g : Nat) (hc : Cur w0 w g) :
    Calls Tryz.prog 82 #[.pointer (some ⟨g, 0, none⟩)] w (OpAny w0 w g fun _ => True) := by
  have hg := hc.base.2.2
  have hc0 := hc.ext ((Ext.refl w).alloc (.cells #[.int .i64 0, .int .i64 0, .int .i64 0, .int .i64 0, .slice none 0 0, .int .i64 0, .int .i64 0, .bool false, .int .i64 0] 28))
  have k0 := Ext.kept (g := g) ((Ext.refl w).alloc (.cells #[.int .i64 0, .int .i64 0, .int .i64 0, .int .i64 0, .slice none 0 0, .int .i64 0, .int .i64 0, .bool false, .int .i64 0] 28))
  have b0 : Blk (w.alloc (.cells #[.int .i64 0, .int .i64 0, .int .i64 0, .int .i64 0, .slice none 0 0, .int .i64 0, .int .i64 0, .bool false, .int .i64 0] 28)) w.heap.size 28 [.int .i64 0, .int .i64 0, .int .i64 0, .int .i64 0, .slice none 0 0, .int .i64 0, .int .i64 0, .bool false, .int .i64 0] := Blk.new w 28 #[.int .i64 0, .int .i64 0, .int .i64 0, .int .i64 0, .slice none 0 0, .int .i64 0, .int .i64 0, .bool false, .int .i64 0]
  go_enter Tryz.func82, Tryz.ntmps82
  go_wp2_with fail
  refine (spec_l29Op w0 _ g hc0).mono ?_
  rintro e w2 ⟨v1, o, F, rfl, ⟨f1, rfl, ok1, o1⟩, n1, hc2, hk2, _⟩
  obtain ⟨A1, c1, e1, _⟩ := o1.form
  subst e1
  have hgL := hc2.base.2.2
  have hk02 := k0.trans hk2
  have hwL := hk02.1
  have bR2 := b0.kept (Nat.ne_of_gt hg) hk2
  have sR2 := block_lt bR2
  have hnRL : ¬ w.heap.size = w2.heap.size := by omega
  have l1 := o1.lt
  have hLF : w2.heap.size ∉ F := fun hm => by have := l1 _ hm; omega
  have hRF : w.heap.size ∉ F := fun hm => by have := n1.2 _ hm; rw [World.size_alloc] at this; omega
  have hgF : g ∉ F := fun hm => by have := n1.2 _ hm; rw [World.size_alloc] at this; omega
  have bL2 : Blk (w2.alloc (.cells #[.int .i64 o.kind, .int .i64 o.record.source, .int .i64 o.record.key, .int .i64 o.record.version, .slice A1 o.record.fields.length c1, .int .i64 o.verdict.a, .int .i64 o.verdict.b, .bool o.verdict.same, .int .i64 o.verdict.time] 28)) w2.heap.size 28 [.int .i64 o.kind, .int .i64 o.record.source, .int .i64 o.record.key, .int .i64 o.record.version, .slice A1 o.record.fields.length c1, .int .i64 o.verdict.a, .int .i64 o.verdict.b, .bool o.verdict.same, .int .i64 o.verdict.time] := Blk.new w2 28 #[.int .i64 o.kind, .int .i64 o.record.source, .int .i64 o.record.key, .int .i64 o.record.version, .slice A1 o.record.fields.length c1, .int .i64 o.verdict.a, .int .i64 o.verdict.b, .bool o.verdict.same, .int .i64 o.verdict.time]
  have bR2b := bR2.ext ((Ext.refl w2).alloc (.cells #[.int .i64 o.kind, .int .i64 o.record.source, .int .i64 o.record.key, .int .i64 o.record.version, .slice A1 o.record.fields.length c1, .int .i64 o.verdict.a, .int .i64 o.verdict.b, .bool o.verdict.same, .int .i64 o.verdict.time] 28))
  have o2 := o1.ext ((Ext.refl w2).alloc (.cells #[.int .i64 o.kind, .int .i64 o.record.source, .int .i64 o.record.key, .int .i64 o.record.version, .slice A1 o.record.fields.length c1, .int .i64 o.verdict.a, .int .i64 o.verdict.b, .bool o.verdict.same, .int .i64 o.verdict.time] 28))
  have hc2a := hc2.ext ((Ext.refl w2).alloc (.cells #[.int .i64 o.kind, .int .i64 o.record.source, .int .i64 o.record.key, .int .i64 o.record.version, .slice A1 o.record.fields.length c1, .int .i64 o.verdict.a, .int .i64 o.verdict.b, .bool o.verdict.same, .int .i64 o.verdict.time] 28))
  have hk2a := hk02.alloc (.cells #[.int .i64 o.kind, .int .i64 o.record.source, .int .i64 o.record.key, .int .i64 o.record.version, .slice A1 o.record.fields.length c1, .int .i64 o.verdict.a, .int .i64 o.verdict.b, .bool o.verdict.same, .int .i64 o.verdict.time] 28)
  clear hc hc0 k0 b0 hc2 hk2 hk02 bR2 o1
  go_wp2_with fail
  refine (spec_l1Below w0 _ g 14 (by decide) hc2a).mono ?_
  rintro e w3 ⟨x, rfl, hx, hc3, hk3⟩
  have hg3 := hc3.base.2.2
  have bL3 := bL2.kept (Nat.ne_of_gt hgL) hk3
  have bR3 := bR2b.kept (Nat.ne_of_gt hg) hk3
  have o3 := o2.kept hgF hk3
  have hk03 := hk2a.trans hk3
  have hw3 := hk3.1
  rw [World.size_alloc] at hw3
  clear bL2 bR2b hc2a hk2a hk3 o2
  by_cases h0 : x = 0
  · subst h0
    go_wp2_with fail
    refine (spec_l1Below w0 _ g 6 (by decide) hc3).mono ?_
    rintro e w4 ⟨y, rfl, hy, hc4, hk4⟩
    have hg4 := hc4.base.2.2
    have bL4 := bL3.kept (Nat.ne_of_gt hgL) hk4
    have bR4 := bR3.kept (Nat.ne_of_gt hg) hk4
    have hk04 := hk03.trans hk4
    have o4 := o3.kept hgF hk4
    clear bL3 bR3 o3 hc3 hk03 hk4
    have bL9 : Blk (w4.setCell ⟨w2.heap.size, 0, none⟩ (.int .i64 y)) w2.heap.size 28 [.int .i64 y, .int .i64 o.record.source, .int .i64 o.record.key, .int .i64 o.record.version, .slice A1 o.record.fields.length c1, .int .i64 o.verdict.a, .int .i64 o.verdict.b, .bool o.verdict.same, .int .i64 o.verdict.time] := (bL4.setAt 0 (by show 0 < 9; decide) (.int .i64 y))
    have bR9 : Blk (w4.setCell ⟨w2.heap.size, 0, none⟩ (.int .i64 y)) w.heap.size 28 [.int .i64 0, .int .i64 0, .int .i64 0, .int .i64 0, .slice none 0 0, .int .i64 0, .int .i64 0, .bool false, .int .i64 0] := (bR4.other (i := 0) (u := .int .i64 y) hnRL)
    have kL9 : Kept g w (w4.setCell ⟨w2.heap.size, 0, none⟩ (.int .i64 y)) := (hk04.setN (by show w.heap.size ≤ w2.heap.size; omega) _)
    have cL9 : Cur w0 (w4.setCell ⟨w2.heap.size, 0, none⟩ (.int .i64 y)) g := (hc4.setN (by show g < w2.heap.size; omega) _)
    have oL9 := (o4.setCell (p := ⟨w2.heap.size, 0, none⟩) hLF (.int .i64 y))
    have HI := hid (show Op.ok ⟨y, o.record, o.verdict⟩ from ⟨⟨by show -9223372036854775808 ≤ y; omega, by show y ≤ 9223372036854775807; omega⟩, ok1.2⟩)
    have HN := hid (show NewF w F from ⟨n1.1, fun q hq => by have := n1.2 q hq; rw [World.size_alloc] at this; omega⟩)
    obtain ⟨cL0, fL0⟩ := bL4.cells
    obtain ⟨cL, fL⟩ := bL9.cells
    obtain ⟨cR, fR⟩ := bR9.cells
    go_wp2
    have b9 : Blk ((((((((((w4.setCell ⟨w2.heap.size, 0, none⟩ (.int .i64 y)).setCell ⟨w.heap.size, 0, none⟩ (.int .i64 y)).setCell ⟨w.heap.size, 1, none⟩ (.int .i64 o.record.source)).setCell ⟨w.heap.size, 2, none⟩ (.int .i64 o.record.key)).setCell ⟨w.heap.size, 3, none⟩ (.int .i64 o.record.version)).setCell ⟨w.heap.size, 4, none⟩ (.slice A1 o.record.fields.length c1)).setCell ⟨w.heap.size, 5, none⟩ (.int .i64 o.verdict.a)).setCell ⟨w.heap.size, 6, none⟩ (.int .i64 o.verdict.b)).setCell ⟨w.heap.size, 7, none⟩ (.bool o.verdict.same)).setCell ⟨w.heap.size, 8, none⟩ (.int .i64 o.verdict.time)) w.heap.size 28 [.int .i64 y, .int .i64 o.record.source, .int .i64 o.record.key, .int .i64 o.record.version, .slice A1 o.record.fields.length c1, .int .i64 o.verdict.a, .int .i64 o.verdict.b, .bool o.verdict.same, .int .i64 o.verdict.time] := (((((((((bR9.setAt 0 (by show 0 < 9; decide) (.int .i64 y)).setAt 1 (by show 1 < 9; decide) (.int .i64 o.record.source)).setAt 2 (by show 2 < 9; decide) (.int .i64 o.record.key)).setAt 3 (by show 3 < 9; decide) (.int .i64 o.record.version)).setAt 4 (by show 4 < 9; decide) (.slice A1 o.record.fields.length c1)).setAt 5 (by show 5 < 9; decide) (.int .i64 o.verdict.a)).setAt 6 (by show 6 < 9; decide) (.int .i64 o.verdict.b)).setAt 7 (by show 7 < 9; decide) (.bool o.verdict.same)).setAt 8 (by show 8 < 9; decide) (.int .i64 o.verdict.time))
    have r0 : ((((((((((w4.setCell ⟨w2.heap.size, 0, none⟩ (.int .i64 y)).setCell ⟨w.heap.size, 0, none⟩ (.int .i64 y)).setCell ⟨w.heap.size, 1, none⟩ (.int .i64 o.record.source)).setCell ⟨w.heap.size, 2, none⟩ (.int .i64 o.record.key)).setCell ⟨w.heap.size, 3, none⟩ (.int .i64 o.record.version)).setCell ⟨w.heap.size, 4, none⟩ (.slice A1 o.record.fields.length c1)).setCell ⟨w.heap.size, 5, none⟩ (.int .i64 o.verdict.a)).setCell ⟨w.heap.size, 6, none⟩ (.int .i64 o.verdict.b)).setCell ⟨w.heap.size, 7, none⟩ (.bool o.verdict.same)).setCell ⟨w.heap.size, 8, none⟩ (.int .i64 o.verdict.time)).cell? ⟨w.heap.size, 0, none⟩ = some (.int .i64 y) := b9.cells.1 0
    have r1 : ((((((((((w4.setCell ⟨w2.heap.size, 0, none⟩ (.int .i64 y)).setCell ⟨w.heap.size, 0, none⟩ (.int .i64 y)).setCell ⟨w.heap.size, 1, none⟩ (.int .i64 o.record.source)).setCell ⟨w.heap.size, 2, none⟩ (.int .i64 o.record.key)).setCell ⟨w.heap.size, 3, none⟩ (.int .i64 o.record.version)).setCell ⟨w.heap.size, 4, none⟩ (.slice A1 o.record.fields.length c1)).setCell ⟨w.heap.size, 5, none⟩ (.int .i64 o.verdict.a)).setCell ⟨w.heap.size, 6, none⟩ (.int .i64 o.verdict.b)).setCell ⟨w.heap.size, 7, none⟩ (.bool o.verdict.same)).setCell ⟨w.heap.size, 8, none⟩ (.int .i64 o.verdict.time)).cell? ⟨w.heap.size, 1, none⟩ = some (.int .i64 o.record.source) := b9.cells.1 1
    have r2 : ((((((((((w4.setCell ⟨w2.heap.size, 0, none⟩ (.int .i64 y)).setCell ⟨w.heap.size, 0, none⟩ (.int .i64 y)).setCell ⟨w.heap.size, 1, none⟩ (.int .i64 o.record.source)).setCell ⟨w.heap.size, 2, none⟩ (.int .i64 o.record.key)).setCell ⟨w.heap.size, 3, none⟩ (.int .i64 o.record.version)).setCell ⟨w.heap.size, 4, none⟩ (.slice A1 o.record.fields.length c1)).setCell ⟨w.heap.size, 5, none⟩ (.int .i64 o.verdict.a)).setCell ⟨w.heap.size, 6, none⟩ (.int .i64 o.verdict.b)).setCell ⟨w.heap.size, 7, none⟩ (.bool o.verdict.same)).setCell ⟨w.heap.size, 8, none⟩ (.int .i64 o.verdict.time)).cell? ⟨w.heap.size, 2, none⟩ = some (.int .i64 o.record.key) := b9.cells.1 2
    have r3 : ((((((((((w4.setCell ⟨w2.heap.size, 0, none⟩ (.int .i64 y)).setCell ⟨w.heap.size, 0, none⟩ (.int .i64 y)).setCell ⟨w.heap.size, 1, none⟩ (.int .i64 o.record.source)).setCell ⟨w.heap.size, 2, none⟩ (.int .i64 o.record.key)).setCell ⟨w.heap.size, 3, none⟩ (.int .i64 o.record.version)).setCell ⟨w.heap.size, 4, none⟩ (.slice A1 o.record.fields.length c1)).setCell ⟨w.heap.size, 5, none⟩ (.int .i64 o.verdict.a)).setCell ⟨w.heap.size, 6, none⟩ (.int .i64 o.verdict.b)).setCell ⟨w.heap.size, 7, none⟩ (.bool o.verdict.same)).setCell ⟨w.heap.size, 8, none⟩ (.int .i64 o.verdict.time)).cell? ⟨w.heap.size, 3, none⟩ = some (.int .i64 o.record.version) := b9.cells.1 3
    have r4 : ((((((((((w4.setCell ⟨w2.heap.size, 0, none⟩ (.int .i64 y)).setCell ⟨w.heap.size, 0, none⟩ (.int .i64 y)).setCell ⟨w.heap.size, 1, none⟩ (.int .i64 o.record.source)).setCell ⟨w.heap.size, 2, none⟩ (.int .i64 o.record.key)).setCell ⟨w.heap.size, 3, none⟩ (.int .i64 o.record.version)).setCell ⟨w.heap.size, 4, none⟩ (.slice A1 o.record.fields.length c1)).setCell ⟨w.heap.size, 5, none⟩ (.int .i64 o.verdict.a)).setCell ⟨w.heap.size, 6, none⟩ (.int .i64 o.verdict.b)).setCell ⟨w.heap.size, 7, none⟩ (.bool o.verdict.same)).setCell ⟨w.heap.size, 8, none⟩ (.int .i64 o.verdict.time)).cell? ⟨w.heap.size, 4, none⟩ = some (.slice A1 o.record.fields.length c1) := b9.cells.1 4
    have r5 : ((((((((((w4.setCell ⟨w2.heap.size, 0, none⟩ (.int .i64 y)).setCell ⟨w.heap.size, 0, none⟩ (.int .i64 y)).setCell ⟨w.heap.size, 1, none⟩ (.int .i64 o.record.source)).setCell ⟨w.heap.size, 2, none⟩ (.int .i64 o.record.key)).setCell ⟨w.heap.size, 3, none⟩ (.int .i64 o.record.version)).setCell ⟨w.heap.size, 4, none⟩ (.slice A1 o.record.fields.length c1)).setCell ⟨w.heap.size, 5, none⟩ (.int .i64 o.verdict.a)).setCell ⟨w.heap.size, 6, none⟩ (.int .i64 o.verdict.b)).setCell ⟨w.heap.size, 7, none⟩ (.bool o.verdict.same)).setCell ⟨w.heap.size, 8, none⟩ (.int .i64 o.verdict.time)).cell? ⟨w.heap.size, 5, none⟩ = some (.int .i64 o.verdict.a) := b9.cells.1 5
    have r6 : ((((((((((w4.setCell ⟨w2.heap.size, 0, none⟩ (.int .i64 y)).setCell ⟨w.heap.size, 0, none⟩ (.int .i64 y)).setCell ⟨w.heap.size, 1, none⟩ (.int .i64 o.record.source)).setCell ⟨w.heap.size, 2, none⟩ (.int .i64 o.record.key)).setCell ⟨w.heap.size, 3, none⟩ (.int .i64 o.record.version)).setCell ⟨w.heap.size, 4, none⟩ (.slice A1 o.record.fields.length c1)).setCell ⟨w.heap.size, 5, none⟩ (.int .i64 o.verdict.a)).setCell ⟨w.heap.size, 6, none⟩ (.int .i64 o.verdict.b)).setCell ⟨w.heap.size, 7, none⟩ (.bool o.verdict.same)).setCell ⟨w.heap.size, 8, none⟩ (.int .i64 o.verdict.time)).cell? ⟨w.heap.size, 6, none⟩ = some (.int .i64 o.verdict.b) := b9.cells.1 6
    have r7 : ((((((((((w4.setCell ⟨w2.heap.size, 0, none⟩ (.int .i64 y)).setCell ⟨w.heap.size, 0, none⟩ (.int .i64 y)).setCell ⟨w.heap.size, 1, none⟩ (.int .i64 o.record.source)).setCell ⟨w.heap.size, 2, none⟩ (.int .i64 o.record.key)).setCell ⟨w.heap.size, 3, none⟩ (.int .i64 o.record.version)).setCell ⟨w.heap.size, 4, none⟩ (.slice A1 o.record.fields.length c1)).setCell ⟨w.heap.size, 5, none⟩ (.int .i64 o.verdict.a)).setCell ⟨w.heap.size, 6, none⟩ (.int .i64 o.verdict.b)).setCell ⟨w.heap.size, 7, none⟩ (.bool o.verdict.same)).setCell ⟨w.heap.size, 8, none⟩ (.int .i64 o.verdict.time)).cell? ⟨w.heap.size, 7, none⟩ = some (.bool o.verdict.same) := b9.cells.1 7
    have r8 : ((((((((((w4.setCell ⟨w2.heap.size, 0, none⟩ (.int .i64 y)).setCell ⟨w.heap.size, 0, none⟩ (.int .i64 y)).setCell ⟨w.heap.size, 1, none⟩ (.int .i64 o.record.source)).setCell ⟨w.heap.size, 2, none⟩ (.int .i64 o.record.key)).setCell ⟨w.heap.size, 3, none⟩ (.int .i64 o.record.version)).setCell ⟨w.heap.size, 4, none⟩ (.slice A1 o.record.fields.length c1)).setCell ⟨w.heap.size, 5, none⟩ (.int .i64 o.verdict.a)).setCell ⟨w.heap.size, 6, none⟩ (.int .i64 o.verdict.b)).setCell ⟨w.heap.size, 7, none⟩ (.bool o.verdict.same)).setCell ⟨w.heap.size, 8, none⟩ (.int .i64 o.verdict.time)).cell? ⟨w.heap.size, 8, none⟩ = some (.int .i64 o.verdict.time) := b9.cells.1 8
    have k9 : Kept g w ((((((((((w4.setCell ⟨w2.heap.size, 0, none⟩ (.int .i64 y)).setCell ⟨w.heap.size, 0, none⟩ (.int .i64 y)).setCell ⟨w.heap.size, 1, none⟩ (.int .i64 o.record.source)).setCell ⟨w.heap.size, 2, none⟩ (.int .i64 o.record.key)).setCell ⟨w.heap.size, 3, none⟩ (.int .i64 o.record.version)).setCell ⟨w.heap.size, 4, none⟩ (.slice A1 o.record.fields.length c1)).setCell ⟨w.heap.size, 5, none⟩ (.int .i64 o.verdict.a)).setCell ⟨w.heap.size, 6, none⟩ (.int .i64 o.verdict.b)).setCell ⟨w.heap.size, 7, none⟩ (.bool o.verdict.same)).setCell ⟨w.heap.size, 8, none⟩ (.int .i64 o.verdict.time)) := (((((((((kL9.setN (Nat.le_refl _) _).setN (Nat.le_refl _) _).setN (Nat.le_refl _) _).setN (Nat.le_refl _) _).setN (Nat.le_refl _) _).setN (Nat.le_refl _) _).setN (Nat.le_refl _) _).setN (Nat.le_refl _) _).setN (Nat.le_refl _) _)
    have c9 : Cur w0 ((((((((((w4.setCell ⟨w2.heap.size, 0, none⟩ (.int .i64 y)).setCell ⟨w.heap.size, 0, none⟩ (.int .i64 y)).setCell ⟨w.heap.size, 1, none⟩ (.int .i64 o.record.source)).setCell ⟨w.heap.size, 2, none⟩ (.int .i64 o.record.key)).setCell ⟨w.heap.size, 3, none⟩ (.int .i64 o.record.version)).setCell ⟨w.heap.size, 4, none⟩ (.slice A1 o.record.fields.length c1)).setCell ⟨w.heap.size, 5, none⟩ (.int .i64 o.verdict.a)).setCell ⟨w.heap.size, 6, none⟩ (.int .i64 o.verdict.b)).setCell ⟨w.heap.size, 7, none⟩ (.bool o.verdict.same)).setCell ⟨w.heap.size, 8, none⟩ (.int .i64 o.verdict.time)) g := (((((((((cL9.setN hg _).setN hg _).setN hg _).setN hg _).setN hg _).setN hg _).setN hg _).setN hg _).setN hg _)
    have o9 := (((((((((oL9.setCell (p := ⟨w.heap.size, 0, none⟩) hRF (.int .i64 y)).setCell (p := ⟨w.heap.size, 1, none⟩) hRF (.int .i64 o.record.source)).setCell (p := ⟨w.heap.size, 2, none⟩) hRF (.int .i64 o.record.key)).setCell (p := ⟨w.heap.size, 3, none⟩) hRF (.int .i64 o.record.version)).setCell (p := ⟨w.heap.size, 4, none⟩) hRF (.slice A1 o.record.fields.length c1)).setCell (p := ⟨w.heap.size, 5, none⟩) hRF (.int .i64 o.verdict.a)).setCell (p := ⟨w.heap.size, 6, none⟩) hRF (.int .i64 o.verdict.b)).setCell (p := ⟨w.heap.size, 7, none⟩) hRF (.bool o.verdict.same)).setCell (p := ⟨w.heap.size, 8, none⟩) hRF (.int .i64 o.verdict.time))
    refine bodyPost_ret (v := .agg #[.int .i64 y, .int .i64 o.record.source, .int .i64 o.record.key, .int .i64 o.record.version, .slice A1 o.record.fields.length c1, .int .i64 o.verdict.a, .int .i64 o.verdict.b, .bool o.verdict.same, .int .i64 o.verdict.time]) (by simp [results, Tryz.results82, go_sem, r0, r1, r2, r3, r4, r5, r6, r7, r8]) rfl ?_
    exact ⟨_, ⟨y, o.record, o.verdict⟩, F, rfl, ⟨_, rfl, HI.out, o9⟩, HN.out, c9, k9, trivial⟩
  · by_cases h1 : x = 1
    · subst h1
      go_wp2_with fail
      refine (spec_l8Any w0 _ g hc3).mono ?_
      rintro e w4 ⟨v2, rc, F2, rfl, ⟨f2, rfl, ok2, o4⟩, n2, hc4, hk4, _⟩
      obtain ⟨A2, c2, e2, _⟩ := o4.form
      subst e2
      have bL4 := bL3.kept (Nat.ne_of_gt hgL) hk4
      have bR4 := bR3.kept (Nat.ne_of_gt hg) hk4
      have hk04 := hk03.trans hk4
      have hLF2 : w2.heap.size ∉ F2 := fun hm => by have := n2.2 _ hm; omega
      have hRF2 : w.heap.size ∉ F2 := fun hm => by have := n2.2 _ hm; omega
      clear bL3 bR3 o3 hc3 hk03 hk4
      have bL9 : Blk ((((w4.setCell ⟨w2.heap.size, 1, none⟩ (.int .i64 rc.source)).setCell ⟨w2.heap.size, 2, none⟩ (.int .i64 rc.key)).setCell ⟨w2.heap.size, 3, none⟩ (.int .i64 rc.version)).setCell ⟨w2.heap.size, 4, none⟩ (.slice A2 rc.fields.length c2)) w2.heap.size 28 [.int .i64 o.kind, .int .i64 rc.source, .int .i64 rc.key, .int .i64 rc.version, .slice A2 rc.fields.length c2, .int .i64 o.verdict.a, .int .i64 o.verdict.b, .bool o.verdict.same, .int .i64 o.verdict.time] := ((((bL4.setAt 1 (by show 1 < 9; decide) (.int .i64 rc.source)).setAt 2 (by show 2 < 9; decide) (.int .i64 rc.key)).setAt 3 (by show 3 < 9; decide) (.int .i64 rc.version)).setAt 4 (by show 4 < 9; decide) (.slice A2 rc.fields.length c2))
      have bR9 : Blk ((((w4.setCell ⟨w2.heap.size, 1, none⟩ (.int .i64 rc.source)).setCell ⟨w2.heap.size, 2, none⟩ (.int .i64 rc.key)).setCell ⟨w2.heap.size, 3, none⟩ (.int .i64 rc.version)).setCell ⟨w2.heap.size, 4, none⟩ (.slice A2 rc.fields.length c2)) w.heap.size 28 [.int .i64 0, .int .i64 0, .int .i64 0, .int .i64 0, .slice none 0 0, .int .i64 0, .int .i64 0, .bool false, .int .i64 0] := ((((bR4.other (i := 1) (u := .int .i64 rc.source) hnRL).other (i := 2) (u := .int .i64 rc.key) hnRL).other (i := 3) (u := .int .i64 rc.version) hnRL).other (i := 4) (u := .slice A2 rc.fields.length c2) hnRL)
      have kL9 : Kept g w ((((w4.setCell ⟨w2.heap.size, 1, none⟩ (.int .i64 rc.source)).setCell ⟨w2.heap.size, 2, none⟩ (.int .i64 rc.key)).setCell ⟨w2.heap.size, 3, none⟩ (.int .i64 rc.version)).setCell ⟨w2.heap.size, 4, none⟩ (.slice A2 rc.fields.length c2)) := ((((hk04.setN (by show w.heap.size ≤ w2.heap.size; omega) _).setN (by show w.heap.size ≤ w2.heap.size; omega) _).setN (by show w.heap.size ≤ w2.heap.size; omega) _).setN (by show w.heap.size ≤ w2.heap.size; omega) _)
      have cL9 : Cur w0 ((((w4.setCell ⟨w2.heap.size, 1, none⟩ (.int .i64 rc.source)).setCell ⟨w2.heap.size, 2, none⟩ (.int .i64 rc.key)).setCell ⟨w2.heap.size, 3, none⟩ (.int .i64 rc.version)).setCell ⟨w2.heap.size, 4, none⟩ (.slice A2 rc.fields.length c2)) g := ((((hc4.setN (by show g < w2.heap.size; omega) _).setN (by show g < w2.heap.size; omega) _).setN (by show g < w2.heap.size; omega) _).setN (by show g < w2.heap.size; omega) _)
      have oL9 := ((((o4.setCell (p := ⟨w2.heap.size, 1, none⟩) hLF2 (.int .i64 rc.source)).setCell (p := ⟨w2.heap.size, 2, none⟩) hLF2 (.int .i64 rc.key)).setCell (p := ⟨w2.heap.size, 3, none⟩) hLF2 (.int .i64 rc.version)).setCell (p := ⟨w2.heap.size, 4, none⟩) hLF2 (.slice A2 rc.fields.length c2))
      have HI := hid (show Op.ok ⟨o.kind, rc, o.verdict⟩ from ⟨ok1.1, ok2, ok1.2.2⟩)
      have HN := hid (show NewF w F2 from ⟨n2.1, fun q hq => by have := n2.2 q hq; omega⟩)
      obtain ⟨cL0, fL0⟩ := bL4.cells
      obtain ⟨cL, fL⟩ := bL9.cells
      obtain ⟨cR, fR⟩ := bR9.cells
      go_wp2
      have b9 : Blk (((((((((((((w4.setCell ⟨w2.heap.size, 1, none⟩ (.int .i64 rc.source)).setCell ⟨w2.heap.size, 2, none⟩ (.int .i64 rc.key)).setCell ⟨w2.heap.size, 3, none⟩ (.int .i64 rc.version)).setCell ⟨w2.heap.size, 4, none⟩ (.slice A2 rc.fields.length c2)).setCell ⟨w.heap.size, 0, none⟩ (.int .i64 o.kind)).setCell ⟨w.heap.size, 1, none⟩ (.int .i64 rc.source)).setCell ⟨w.heap.size, 2, none⟩ (.int .i64 rc.key)).setCell ⟨w.heap.size, 3, none⟩ (.int .i64 rc.version)).setCell ⟨w.heap.size, 4, none⟩ (.slice A2 rc.fields.length c2)).setCell ⟨w.heap.size, 5, none⟩ (.int .i64 o.verdict.a)).setCell ⟨w.heap.size, 6, none⟩ (.int .i64 o.verdict.b)).setCell ⟨w.heap.size, 7, none⟩ (.bool o.verdict.same)).setCell ⟨w.heap.size, 8, none⟩ (.int .i64 o.verdict.time)) w.heap.size 28 [.int .i64 o.kind, .int .i64 rc.source, .int .i64 rc.key, .int .i64 rc.version, .slice A2 rc.fields.length c2, .int .i64 o.verdict.a, .int .i64 o.verdict.b, .bool o.verdict.same, .int .i64 o.verdict.time] := (((((((((bR9.setAt 0 (by show 0 < 9; decide) (.int .i64 o.kind)).setAt 1 (by show 1 < 9; decide) (.int .i64 rc.source)).setAt 2 (by show 2 < 9; decide) (.int .i64 rc.key)).setAt 3 (by show 3 < 9; decide) (.int .i64 rc.version)).setAt 4 (by show 4 < 9; decide) (.slice A2 rc.fields.length c2)).setAt 5 (by show 5 < 9; decide) (.int .i64 o.verdict.a)).setAt 6 (by show 6 < 9; decide) (.int .i64 o.verdict.b)).setAt 7 (by show 7 < 9; decide) (.bool o.verdict.same)).setAt 8 (by show 8 < 9; decide) (.int .i64 o.verdict.time))
      have r0 : (((((((((((((w4.setCell ⟨w2.heap.size, 1, none⟩ (.int .i64 rc.source)).setCell ⟨w2.heap.size, 2, none⟩ (.int .i64 rc.key)).setCell ⟨w2.heap.size, 3, none⟩ (.int .i64 rc.version)).setCell ⟨w2.heap.size, 4, none⟩ (.slice A2 rc.fields.length c2)).setCell ⟨w.heap.size, 0, none⟩ (.int .i64 o.kind)).setCell ⟨w.heap.size, 1, none⟩ (.int .i64 rc.source)).setCell ⟨w.heap.size, 2, none⟩ (.int .i64 rc.key)).setCell ⟨w.heap.size, 3, none⟩ (.int .i64 rc.version)).setCell ⟨w.heap.size, 4, none⟩ (.slice A2 rc.fields.length c2)).setCell ⟨w.heap.size, 5, none⟩ (.int .i64 o.verdict.a)).setCell ⟨w.heap.size, 6, none⟩ (.int .i64 o.verdict.b)).setCell ⟨w.heap.size, 7, none⟩ (.bool o.verdict.same)).setCell ⟨w.heap.size, 8, none⟩ (.int .i64 o.verdict.time)).cell? ⟨w.heap.size, 0, none⟩ = some (.int .i64 o.kind) := b9.cells.1 0
      have r1 : (((((((((((((w4.setCell ⟨w2.heap.size, 1, none⟩ (.int .i64 rc.source)).setCell ⟨w2.heap.size, 2, none⟩ (.int .i64 rc.key)).setCell ⟨w2.heap.size, 3, none⟩ (.int .i64 rc.version)).setCell ⟨w2.heap.size, 4, none⟩ (.slice A2 rc.fields.length c2)).setCell ⟨w.heap.size, 0, none⟩ (.int .i64 o.kind)).setCell ⟨w.heap.size, 1, none⟩ (.int .i64 rc.source)).setCell ⟨w.heap.size, 2, none⟩ (.int .i64 rc.key)).setCell ⟨w.heap.size, 3, none⟩ (.int .i64 rc.version)).setCell ⟨w.heap.size, 4, none⟩ (.slice A2 rc.fields.length c2)).setCell ⟨w.heap.size, 5, none⟩ (.int .i64 o.verdict.a)).setCell ⟨w.heap.size, 6, none⟩ (.int .i64 o.verdict.b)).setCell ⟨w.heap.size, 7, none⟩ (.bool o.verdict.same)).setCell ⟨w.heap.size, 8, none⟩ (.int .i64 o.verdict.time)).cell? ⟨w.heap.size, 1, none⟩ = some (.int .i64 rc.source) := b9.cells.1 1
      have r2 : (((((((((((((w4.setCell ⟨w2.heap.size, 1, none⟩ (.int .i64 rc.source)).setCell ⟨w2.heap.size, 2, none⟩ (.int .i64 rc.key)).setCell ⟨w2.heap.size, 3, none⟩ (.int .i64 rc.version)).setCell ⟨w2.heap.size, 4, none⟩ (.slice A2 rc.fields.length c2)).setCell ⟨w.heap.size, 0, none⟩ (.int .i64 o.kind)).setCell ⟨w.heap.size, 1, none⟩ (.int .i64 rc.source)).setCell ⟨w.heap.size, 2, none⟩ (.int .i64 rc.key)).setCell ⟨w.heap.size, 3, none⟩ (.int .i64 rc.version)).setCell ⟨w.heap.size, 4, none⟩ (.slice A2 rc.fields.length c2)).setCell ⟨w.heap.size, 5, none⟩ (.int .i64 o.verdict.a)).setCell ⟨w.heap.size, 6, none⟩ (.int .i64 o.verdict.b)).setCell ⟨w.heap.size, 7, none⟩ (.bool o.verdict.same)).setCell ⟨w.heap.size, 8, none⟩ (.int .i64 o.verdict.time)).cell? ⟨w.heap.size, 2, none⟩ = some (.int .i64 rc.key) := b9.cells.1 2
      have r3 : (((((((((((((w4.setCell ⟨w2.heap.size, 1, none⟩ (.int .i64 rc.source)).setCell ⟨w2.heap.size, 2, none⟩ (.int .i64 rc.key)).setCell ⟨w2.heap.size, 3, none⟩ (.int .i64 rc.version)).setCell ⟨w2.heap.size, 4, none⟩ (.slice A2 rc.fields.length c2)).setCell ⟨w.heap.size, 0, none⟩ (.int .i64 o.kind)).setCell ⟨w.heap.size, 1, none⟩ (.int .i64 rc.source)).setCell ⟨w.heap.size, 2, none⟩ (.int .i64 rc.key)).setCell ⟨w.heap.size, 3, none⟩ (.int .i64 rc.version)).setCell ⟨w.heap.size, 4, none⟩ (.slice A2 rc.fields.length c2)).setCell ⟨w.heap.size, 5, none⟩ (.int .i64 o.verdict.a)).setCell ⟨w.heap.size, 6, none⟩ (.int .i64 o.verdict.b)).setCell ⟨w.heap.size, 7, none⟩ (.bool o.verdict.same)).setCell ⟨w.heap.size, 8, none⟩ (.int .i64 o.verdict.time)).cell? ⟨w.heap.size, 3, none⟩ = some (.int .i64 rc.version) := b9.cells.1 3
      have r4 : (((((((((((((w4.setCell ⟨w2.heap.size, 1, none⟩ (.int .i64 rc.source)).setCell ⟨w2.heap.size, 2, none⟩ (.int .i64 rc.key)).setCell ⟨w2.heap.size, 3, none⟩ (.int .i64 rc.version)).setCell ⟨w2.heap.size, 4, none⟩ (.slice A2 rc.fields.length c2)).setCell ⟨w.heap.size, 0, none⟩ (.int .i64 o.kind)).setCell ⟨w.heap.size, 1, none⟩ (.int .i64 rc.source)).setCell ⟨w.heap.size, 2, none⟩ (.int .i64 rc.key)).setCell ⟨w.heap.size, 3, none⟩ (.int .i64 rc.version)).setCell ⟨w.heap.size, 4, none⟩ (.slice A2 rc.fields.length c2)).setCell ⟨w.heap.size, 5, none⟩ (.int .i64 o.verdict.a)).setCell ⟨w.heap.size, 6, none⟩ (.int .i64 o.verdict.b)).setCell ⟨w.heap.size, 7, none⟩ (.bool o.verdict.same)).setCell ⟨w.heap.size, 8, none⟩ (.int .i64 o.verdict.time)).cell? ⟨w.heap.size, 4, none⟩ = some (.slice A2 rc.fields.length c2) := b9.cells.1 4
      have r5 : (((((((((((((w4.setCell ⟨w2.heap.size, 1, none⟩ (.int .i64 rc.source)).setCell ⟨w2.heap.size, 2, none⟩ (.int .i64 rc.key)).setCell ⟨w2.heap.size, 3, none⟩ (.int .i64 rc.version)).setCell ⟨w2.heap.size, 4, none⟩ (.slice A2 rc.fields.length c2)).setCell ⟨w.heap.size, 0, none⟩ (.int .i64 o.kind)).setCell ⟨w.heap.size, 1, none⟩ (.int .i64 rc.source)).setCell ⟨w.heap.size, 2, none⟩ (.int .i64 rc.key)).setCell ⟨w.heap.size, 3, none⟩ (.int .i64 rc.version)).setCell ⟨w.heap.size, 4, none⟩ (.slice A2 rc.fields.length c2)).setCell ⟨w.heap.size, 5, none⟩ (.int .i64 o.verdict.a)).setCell ⟨w.heap.size, 6, none⟩ (.int .i64 o.verdict.b)).setCell ⟨w.heap.size, 7, none⟩ (.bool o.verdict.same)).setCell ⟨w.heap.size, 8, none⟩ (.int .i64 o.verdict.time)).cell? ⟨w.heap.size, 5, none⟩ = some (.int .i64 o.verdict.a) := b9.cells.1 5
      have r6 : (((((((((((((w4.setCell ⟨w2.heap.size, 1, none⟩ (.int .i64 rc.source)).setCell ⟨w2.heap.size, 2, none⟩ (.int .i64 rc.key)).setCell ⟨w2.heap.size, 3, none⟩ (.int .i64 rc.version)).setCell ⟨w2.heap.size, 4, none⟩ (.slice A2 rc.fields.length c2)).setCell ⟨w.heap.size, 0, none⟩ (.int .i64 o.kind)).setCell ⟨w.heap.size, 1, none⟩ (.int .i64 rc.source)).setCell ⟨w.heap.size, 2, none⟩ (.int .i64 rc.key)).setCell ⟨w.heap.size, 3, none⟩ (.int .i64 rc.version)).setCell ⟨w.heap.size, 4, none⟩ (.slice A2 rc.fields.length c2)).setCell ⟨w.heap.size, 5, none⟩ (.int .i64 o.verdict.a)).setCell ⟨w.heap.size, 6, none⟩ (.int .i64 o.verdict.b)).setCell ⟨w.heap.size, 7, none⟩ (.bool o.verdict.same)).setCell ⟨w.heap.size, 8, none⟩ (.int .i64 o.verdict.time)).cell? ⟨w.heap.size, 6, none⟩ = some (.int .i64 o.verdict.b) := b9.cells.1 6
      have r7 : (((((((((((((w4.setCell ⟨w2.heap.size, 1, none⟩ (.int .i64 rc.source)).setCell ⟨w2.heap.size, 2, none⟩ (.int .i64 rc.key)).setCell ⟨w2.heap.size, 3, none⟩ (.int .i64 rc.version)).setCell ⟨w2.heap.size, 4, none⟩ (.slice A2 rc.fields.length c2)).setCell ⟨w.heap.size, 0, none⟩ (.int .i64 o.kind)).setCell ⟨w.heap.size, 1, none⟩ (.int .i64 rc.source)).setCell ⟨w.heap.size, 2, none⟩ (.int .i64 rc.key)).setCell ⟨w.heap.size, 3, none⟩ (.int .i64 rc.version)).setCell ⟨w.heap.size, 4, none⟩ (.slice A2 rc.fields.length c2)).setCell ⟨w.heap.size, 5, none⟩ (.int .i64 o.verdict.a)).setCell ⟨w.heap.size, 6, none⟩ (.int .i64 o.verdict.b)).setCell ⟨w.heap.size, 7, none⟩ (.bool o.verdict.same)).setCell ⟨w.heap.size, 8, none⟩ (.int .i64 o.verdict.time)).cell? ⟨w.heap.size, 7, none⟩ = some (.bool o.verdict.same) := b9.cells.1 7
      have r8 : (((((((((((((w4.setCell ⟨w2.heap.size, 1, none⟩ (.int .i64 rc.source)).setCell ⟨w2.heap.size, 2, none⟩ (.int .i64 rc.key)).setCell ⟨w2.heap.size, 3, none⟩ (.int .i64 rc.version)).setCell ⟨w2.heap.size, 4, none⟩ (.slice A2 rc.fields.length c2)).setCell ⟨w.heap.size, 0, none⟩ (.int .i64 o.kind)).setCell ⟨w.heap.size, 1, none⟩ (.int .i64 rc.source)).setCell ⟨w.heap.size, 2, none⟩ (.int .i64 rc.key)).setCell ⟨w.heap.size, 3, none⟩ (.int .i64 rc.version)).setCell ⟨w.heap.size, 4, none⟩ (.slice A2 rc.fields.length c2)).setCell ⟨w.heap.size, 5, none⟩ (.int .i64 o.verdict.a)).setCell ⟨w.heap.size, 6, none⟩ (.int .i64 o.verdict.b)).setCell ⟨w.heap.size, 7, none⟩ (.bool o.verdict.same)).setCell ⟨w.heap.size, 8, none⟩ (.int .i64 o.verdict.time)).cell? ⟨w.heap.size, 8, none⟩ = some (.int .i64 o.verdict.time) := b9.cells.1 8
      have k9 : Kept g w (((((((((((((w4.setCell ⟨w2.heap.size, 1, none⟩ (.int .i64 rc.source)).setCell ⟨w2.heap.size, 2, none⟩ (.int .i64 rc.key)).setCell ⟨w2.heap.size, 3, none⟩ (.int .i64 rc.version)).setCell ⟨w2.heap.size, 4, none⟩ (.slice A2 rc.fields.length c2)).setCell ⟨w.heap.size, 0, none⟩ (.int .i64 o.kind)).setCell ⟨w.heap.size, 1, none⟩ (.int .i64 rc.source)).setCell ⟨w.heap.size, 2, none⟩ (.int .i64 rc.key)).setCell ⟨w.heap.size, 3, none⟩ (.int .i64 rc.version)).setCell ⟨w.heap.size, 4, none⟩ (.slice A2 rc.fields.length c2)).setCell ⟨w.heap.size, 5, none⟩ (.int .i64 o.verdict.a)).setCell ⟨w.heap.size, 6, none⟩ (.int .i64 o.verdict.b)).setCell ⟨w.heap.size, 7, none⟩ (.bool o.verdict.same)).setCell ⟨w.heap.size, 8, none⟩ (.int .i64 o.verdict.time)) := (((((((((kL9.setN (Nat.le_refl _) _).setN (Nat.le_refl _) _).setN (Nat.le_refl _) _).setN (Nat.le_refl _) _).setN (Nat.le_refl _) _).setN (Nat.le_refl _) _).setN (Nat.le_refl _) _).setN (Nat.le_refl _) _).setN (Nat.le_refl _) _)
      have c9 : Cur w0 (((((((((((((w4.setCell ⟨w2.heap.size, 1, none⟩ (.int .i64 rc.source)).setCell ⟨w2.heap.size, 2, none⟩ (.int .i64 rc.key)).setCell ⟨w2.heap.size, 3, none⟩ (.int .i64 rc.version)).setCell ⟨w2.heap.size, 4, none⟩ (.slice A2 rc.fields.length c2)).setCell ⟨w.heap.size, 0, none⟩ (.int .i64 o.kind)).setCell ⟨w.heap.size, 1, none⟩ (.int .i64 rc.source)).setCell ⟨w.heap.size, 2, none⟩ (.int .i64 rc.key)).setCell ⟨w.heap.size, 3, none⟩ (.int .i64 rc.version)).setCell ⟨w.heap.size, 4, none⟩ (.slice A2 rc.fields.length c2)).setCell ⟨w.heap.size, 5, none⟩ (.int .i64 o.verdict.a)).setCell ⟨w.heap.size, 6, none⟩ (.int .i64 o.verdict.b)).setCell ⟨w.heap.size, 7, none⟩ (.bool o.verdict.same)).setCell ⟨w.heap.size, 8, none⟩ (.int .i64 o.verdict.time)) g := (((((((((cL9.setN hg _).setN hg _).setN hg _).setN hg _).setN hg _).setN hg _).setN hg _).setN hg _).setN hg _)
      have o9 := (((((((((oL9.setCell (p := ⟨w.heap.size, 0, none⟩) hRF2 (.int .i64 o.kind)).setCell (p := ⟨w.heap.size, 1, none⟩) hRF2 (.int .i64 rc.source)).setCell (p := ⟨w.heap.size, 2, none⟩) hRF2 (.int .i64 rc.key)).setCell (p := ⟨w.heap.size, 3, none⟩) hRF2 (.int .i64 rc.version)).setCell (p := ⟨w.heap.size, 4, none⟩) hRF2 (.slice A2 rc.fields.length c2)).setCell (p := ⟨w.heap.size, 5, none⟩) hRF2 (.int .i64 o.verdict.a)).setCell (p := ⟨w.heap.size, 6, none⟩) hRF2 (.int .i64 o.verdict.b)).setCell (p := ⟨w.heap.size, 7, none⟩) hRF2 (.bool o.verdict.same)).setCell (p := ⟨w.heap.size, 8, none⟩) hRF2 (.int .i64 o.verdict.time))
      refine bodyPost_ret (v := .agg #[.int .i64 o.kind, .int .i64 rc.source, .int .i64 rc.key, .int .i64 rc.version, .slice A2 rc.fields.length c2, .int .i64 o.verdict.a, .int .i64 o.verdict.b, .bool o.verdict.same, .int .i64 o.verdict.time]) (by simp [results, Tryz.results82, go_sem, r0, r1, r2, r3, r4, r5, r6, r7, r8]) rfl ?_
      exact ⟨_, ⟨o.kind, rc, o.verdict⟩, F2, rfl, ⟨_, rfl, HI.out, o9⟩, HN.out, c9, k9, trivial⟩
    · by_cases h2 : x = 2
      · subst h2
        go_wp2_with fail
        refine (spec_l28Any w0 _ g hc3).mono ?_
        rintro e w4 ⟨vc, rfl, ok2, hc4, hk4⟩
        have bL4 := bL3.kept (Nat.ne_of_gt hgL) hk4
        have bR4 := bR3.kept (Nat.ne_of_gt hg) hk4
        have hk04 := hk03.trans hk4
        have o4 := o3.kept hgF hk4
        clear bL3 bR3 o3 hc3 hk03 hk4
        have bL9 : Blk ((((w4.setCell ⟨w2.heap.size, 5, none⟩ (.int .i64 vc.a)).setCell ⟨w2.heap.size, 6, none⟩ (.int .i64 vc.b)).setCell ⟨w2.heap.size, 7, none⟩ (.bool vc.same)).setCell ⟨w2.heap.size, 8, none⟩ (.int .i64 vc.time)) w2.heap.size 28 [.int .i64 o.kind, .int .i64 o.record.source, .int .i64 o.record.key, .int .i64 o.record.version, .slice A1 o.record.fields.length c1, .int .i64 vc.a, .int .i64 vc.b, .bool vc.same, .int .i64 vc.time] := ((((bL4.setAt 5 (by show 5 < 9; decide) (.int .i64 vc.a)).setAt 6 (by show 6 < 9; decide) (.int .i64 vc.b)).setAt 7 (by show 7 < 9; decide) (.bool vc.same)).setAt 8 (by show 8 < 9; decide) (.int .i64 vc.time))
        have bR9 : Blk ((((w4.setCell ⟨w2.heap.size, 5, none⟩ (.int .i64 vc.a)).setCell ⟨w2.heap.size, 6, none⟩ (.int .i64 vc.b)).setCell ⟨w2.heap.size, 7, none⟩ (.bool vc.same)).setCell ⟨w2.heap.size, 8, none⟩ (.int .i64 vc.time)) w.heap.size 28 [.int .i64 0, .int .i64 0, .int .i64 0, .int .i64 0, .slice none 0 0, .int .i64 0, .int .i64 0, .bool false, .int .i64 0] := ((((bR4.other (i := 5) (u := .int .i64 vc.a) hnRL).other (i := 6) (u := .int .i64 vc.b) hnRL).other (i := 7) (u := .bool vc.same) hnRL).other (i := 8) (u := .int .i64 vc.time) hnRL)
        have kL9 : Kept g w ((((w4.setCell ⟨w2.heap.size, 5, none⟩ (.int .i64 vc.a)).setCell ⟨w2.heap.size, 6, none⟩ (.int .i64 vc.b)).setCell ⟨w2.heap.size, 7, none⟩ (.bool vc.same)).setCell ⟨w2.heap.size, 8, none⟩ (.int .i64 vc.time)) := ((((hk04.setN (by show w.heap.size ≤ w2.heap.size; omega) _).setN (by show w.heap.size ≤ w2.heap.size; omega) _).setN (by show w.heap.size ≤ w2.heap.size; omega) _).setN (by show w.heap.size ≤ w2.heap.size; omega) _)
        have cL9 : Cur w0 ((((w4.setCell ⟨w2.heap.size, 5, none⟩ (.int .i64 vc.a)).setCell ⟨w2.heap.size, 6, none⟩ (.int .i64 vc.b)).setCell ⟨w2.heap.size, 7, none⟩ (.bool vc.same)).setCell ⟨w2.heap.size, 8, none⟩ (.int .i64 vc.time)) g := ((((hc4.setN (by show g < w2.heap.size; omega) _).setN (by show g < w2.heap.size; omega) _).setN (by show g < w2.heap.size; omega) _).setN (by show g < w2.heap.size; omega) _)
        have oL9 := ((((o4.setCell (p := ⟨w2.heap.size, 5, none⟩) hLF (.int .i64 vc.a)).setCell (p := ⟨w2.heap.size, 6, none⟩) hLF (.int .i64 vc.b)).setCell (p := ⟨w2.heap.size, 7, none⟩) hLF (.bool vc.same)).setCell (p := ⟨w2.heap.size, 8, none⟩) hLF (.int .i64 vc.time))
        have HI := hid (show Op.ok ⟨o.kind, o.record, vc⟩ from ⟨ok1.1, ok1.2.1, ok2⟩)
        have HN := hid (show NewF w F from ⟨n1.1, fun q hq => by have := n1.2 q hq; rw [World.size_alloc] at this; omega⟩)
        obtain ⟨cL0, fL0⟩ := bL4.cells
        obtain ⟨cL, fL⟩ := bL9.cells
        obtain ⟨cR, fR⟩ := bR9.cells
        go_wp2
        have b9 : Blk (((((((((((((w4.setCell ⟨w2.heap.size, 5, none⟩ (.int .i64 vc.a)).setCell ⟨w2.heap.size, 6, none⟩ (.int .i64 vc.b)).setCell ⟨w2.heap.size, 7, none⟩ (.bool vc.same)).setCell ⟨w2.heap.size, 8, none⟩ (.int .i64 vc.time)).setCell ⟨w.heap.size, 0, none⟩ (.int .i64 o.kind)).setCell ⟨w.heap.size, 1, none⟩ (.int .i64 o.record.source)).setCell ⟨w.heap.size, 2, none⟩ (.int .i64 o.record.key)).setCell ⟨w.heap.size, 3, none⟩ (.int .i64 o.record.version)).setCell ⟨w.heap.size, 4, none⟩ (.slice A1 o.record.fields.length c1)).setCell ⟨w.heap.size, 5, none⟩ (.int .i64 vc.a)).setCell ⟨w.heap.size, 6, none⟩ (.int .i64 vc.b)).setCell ⟨w.heap.size, 7, none⟩ (.bool vc.same)).setCell ⟨w.heap.size, 8, none⟩ (.int .i64 vc.time)) w.heap.size 28 [.int .i64 o.kind, .int .i64 o.record.source, .int .i64 o.record.key, .int .i64 o.record.version, .slice A1 o.record.fields.length c1, .int .i64 vc.a, .int .i64 vc.b, .bool vc.same, .int .i64 vc.time] := (((((((((bR9.setAt 0 (by show 0 < 9; decide) (.int .i64 o.kind)).setAt 1 (by show 1 < 9; decide) (.int .i64 o.record.source)).setAt 2 (by show 2 < 9; decide) (.int .i64 o.record.key)).setAt 3 (by show 3 < 9; decide) (.int .i64 o.record.version)).setAt 4 (by show 4 < 9; decide) (.slice A1 o.record.fields.length c1)).setAt 5 (by show 5 < 9; decide) (.int .i64 vc.a)).setAt 6 (by show 6 < 9; decide) (.int .i64 vc.b)).setAt 7 (by show 7 < 9; decide) (.bool vc.same)).setAt 8 (by show 8 < 9; decide) (.int .i64 vc.time))
        have r0 : (((((((((((((w4.setCell ⟨w2.heap.size, 5, none⟩ (.int .i64 vc.a)).setCell ⟨w2.heap.size, 6, none⟩ (.int .i64 vc.b)).setCell ⟨w2.heap.size, 7, none⟩ (.bool vc.same)).setCell ⟨w2.heap.size, 8, none⟩ (.int .i64 vc.time)).setCell ⟨w.heap.size, 0, none⟩ (.int .i64 o.kind)).setCell ⟨w.heap.size, 1, none⟩ (.int .i64 o.record.source)).setCell ⟨w.heap.size, 2, none⟩ (.int .i64 o.record.key)).setCell ⟨w.heap.size, 3, none⟩ (.int .i64 o.record.version)).setCell ⟨w.heap.size, 4, none⟩ (.slice A1 o.record.fields.length c1)).setCell ⟨w.heap.size, 5, none⟩ (.int .i64 vc.a)).setCell ⟨w.heap.size, 6, none⟩ (.int .i64 vc.b)).setCell ⟨w.heap.size, 7, none⟩ (.bool vc.same)).setCell ⟨w.heap.size, 8, none⟩ (.int .i64 vc.time)).cell? ⟨w.heap.size, 0, none⟩ = some (.int .i64 o.kind) := b9.cells.1 0
        have r1 : (((((((((((((w4.setCell ⟨w2.heap.size, 5, none⟩ (.int .i64 vc.a)).setCell ⟨w2.heap.size, 6, none⟩ (.int .i64 vc.b)).setCell ⟨w2.heap.size, 7, none⟩ (.bool vc.same)).setCell ⟨w2.heap.size, 8, none⟩ (.int .i64 vc.time)).setCell ⟨w.heap.size, 0, none⟩ (.int .i64 o.kind)).setCell ⟨w.heap.size, 1, none⟩ (.int .i64 o.record.source)).setCell ⟨w.heap.size, 2, none⟩ (.int .i64 o.record.key)).setCell ⟨w.heap.size, 3, none⟩ (.int .i64 o.record.version)).setCell ⟨w.heap.size, 4, none⟩ (.slice A1 o.record.fields.length c1)).setCell ⟨w.heap.size, 5, none⟩ (.int .i64 vc.a)).setCell ⟨w.heap.size, 6, none⟩ (.int .i64 vc.b)).setCell ⟨w.heap.size, 7, none⟩ (.bool vc.same)).setCell ⟨w.heap.size, 8, none⟩ (.int .i64 vc.time)).cell? ⟨w.heap.size, 1, none⟩ = some (.int .i64 o.record.source) := b9.cells.1 1
        have r2 : (((((((((((((w4.setCell ⟨w2.heap.size, 5, none⟩ (.int .i64 vc.a)).setCell ⟨w2.heap.size, 6, none⟩ (.int .i64 vc.b)).setCell ⟨w2.heap.size, 7, none⟩ (.bool vc.same)).setCell ⟨w2.heap.size, 8, none⟩ (.int .i64 vc.time)).setCell ⟨w.heap.size, 0, none⟩ (.int .i64 o.kind)).setCell ⟨w.heap.size, 1, none⟩ (.int .i64 o.record.source)).setCell ⟨w.heap.size, 2, none⟩ (.int .i64 o.record.key)).setCell ⟨w.heap.size, 3, none⟩ (.int .i64 o.record.version)).setCell ⟨w.heap.size, 4, none⟩ (.slice A1 o.record.fields.length c1)).setCell ⟨w.heap.size, 5, none⟩ (.int .i64 vc.a)).setCell ⟨w.heap.size, 6, none⟩ (.int .i64 vc.b)).setCell ⟨w.heap.size, 7, none⟩ (.bool vc.same)).setCell ⟨w.heap.size, 8, none⟩ (.int .i64 vc.time)).cell? ⟨w.heap.size, 2, none⟩ = some (.int .i64 o.record.key) := b9.cells.1 2
        have r3 : (((((((((((((w4.setCell ⟨w2.heap.size, 5, none⟩ (.int .i64 vc.a)).setCell ⟨w2.heap.size, 6, none⟩ (.int .i64 vc.b)).setCell ⟨w2.heap.size, 7, none⟩ (.bool vc.same)).setCell ⟨w2.heap.size, 8, none⟩ (.int .i64 vc.time)).setCell ⟨w.heap.size, 0, none⟩ (.int .i64 o.kind)).setCell ⟨w.heap.size, 1, none⟩ (.int .i64 o.record.source)).setCell ⟨w.heap.size, 2, none⟩ (.int .i64 o.record.key)).setCell ⟨w.heap.size, 3, none⟩ (.int .i64 o.record.version)).setCell ⟨w.heap.size, 4, none⟩ (.slice A1 o.record.fields.length c1)).setCell ⟨w.heap.size, 5, none⟩ (.int .i64 vc.a)).setCell ⟨w.heap.size, 6, none⟩ (.int .i64 vc.b)).setCell ⟨w.heap.size, 7, none⟩ (.bool vc.same)).setCell ⟨w.heap.size, 8, none⟩ (.int .i64 vc.time)).cell? ⟨w.heap.size, 3, none⟩ = some (.int .i64 o.record.version) := b9.cells.1 3
        have r4 : (((((((((((((w4.setCell ⟨w2.heap.size, 5, none⟩ (.int .i64 vc.a)).setCell ⟨w2.heap.size, 6, none⟩ (.int .i64 vc.b)).setCell ⟨w2.heap.size, 7, none⟩ (.bool vc.same)).setCell ⟨w2.heap.size, 8, none⟩ (.int .i64 vc.time)).setCell ⟨w.heap.size, 0, none⟩ (.int .i64 o.kind)).setCell ⟨w.heap.size, 1, none⟩ (.int .i64 o.record.source)).setCell ⟨w.heap.size, 2, none⟩ (.int .i64 o.record.key)).setCell ⟨w.heap.size, 3, none⟩ (.int .i64 o.record.version)).setCell ⟨w.heap.size, 4, none⟩ (.slice A1 o.record.fields.length c1)).setCell ⟨w.heap.size, 5, none⟩ (.int .i64 vc.a)).setCell ⟨w.heap.size, 6, none⟩ (.int .i64 vc.b)).setCell ⟨w.heap.size, 7, none⟩ (.bool vc.same)).setCell ⟨w.heap.size, 8, none⟩ (.int .i64 vc.time)).cell? ⟨w.heap.size, 4, none⟩ = some (.slice A1 o.record.fields.length c1) := b9.cells.1 4
        have r5 : (((((((((((((w4.setCell ⟨w2.heap.size, 5, none⟩ (.int .i64 vc.a)).setCell ⟨w2.heap.size, 6, none⟩ (.int .i64 vc.b)).setCell ⟨w2.heap.size, 7, none⟩ (.bool vc.same)).setCell ⟨w2.heap.size, 8, none⟩ (.int .i64 vc.time)).setCell ⟨w.heap.size, 0, none⟩ (.int .i64 o.kind)).setCell ⟨w.heap.size, 1, none⟩ (.int .i64 o.record.source)).setCell ⟨w.heap.size, 2, none⟩ (.int .i64 o.record.key)).setCell ⟨w.heap.size, 3, none⟩ (.int .i64 o.record.version)).setCell ⟨w.heap.size, 4, none⟩ (.slice A1 o.record.fields.length c1)).setCell ⟨w.heap.size, 5, none⟩ (.int .i64 vc.a)).setCell ⟨w.heap.size, 6, none⟩ (.int .i64 vc.b)).setCell ⟨w.heap.size, 7, none⟩ (.bool vc.same)).setCell ⟨w.heap.size, 8, none⟩ (.int .i64 vc.time)).cell? ⟨w.heap.size, 5, none⟩ = some (.int .i64 vc.a) := b9.cells.1 5
        have r6 : (((((((((((((w4.setCell ⟨w2.heap.size, 5, none⟩ (.int .i64 vc.a)).setCell ⟨w2.heap.size, 6, none⟩ (.int .i64 vc.b)).setCell ⟨w2.heap.size, 7, none⟩ (.bool vc.same)).setCell ⟨w2.heap.size, 8, none⟩ (.int .i64 vc.time)).setCell ⟨w.heap.size, 0, none⟩ (.int .i64 o.kind)).setCell ⟨w.heap.size, 1, none⟩ (.int .i64 o.record.source)).setCell ⟨w.heap.size, 2, none⟩ (.int .i64 o.record.key)).setCell ⟨w.heap.size, 3, none⟩ (.int .i64 o.record.version)).setCell ⟨w.heap.size, 4, none⟩ (.slice A1 o.record.fields.length c1)).setCell ⟨w.heap.size, 5, none⟩ (.int .i64 vc.a)).setCell ⟨w.heap.size, 6, none⟩ (.int .i64 vc.b)).setCell ⟨w.heap.size, 7, none⟩ (.bool vc.same)).setCell ⟨w.heap.size, 8, none⟩ (.int .i64 vc.time)).cell? ⟨w.heap.size, 6, none⟩ = some (.int .i64 vc.b) := b9.cells.1 6
        have r7 : (((((((((((((w4.setCell ⟨w2.heap.size, 5, none⟩ (.int .i64 vc.a)).setCell ⟨w2.heap.size, 6, none⟩ (.int .i64 vc.b)).setCell ⟨w2.heap.size, 7, none⟩ (.bool vc.same)).setCell ⟨w2.heap.size, 8, none⟩ (.int .i64 vc.time)).setCell ⟨w.heap.size, 0, none⟩ (.int .i64 o.kind)).setCell ⟨w.heap.size, 1, none⟩ (.int .i64 o.record.source)).setCell ⟨w.heap.size, 2, none⟩ (.int .i64 o.record.key)).setCell ⟨w.heap.size, 3, none⟩ (.int .i64 o.record.version)).setCell ⟨w.heap.size, 4, none⟩ (.slice A1 o.record.fields.length c1)).setCell ⟨w.heap.size, 5, none⟩ (.int .i64 vc.a)).setCell ⟨w.heap.size, 6, none⟩ (.int .i64 vc.b)).setCell ⟨w.heap.size, 7, none⟩ (.bool vc.same)).setCell ⟨w.heap.size, 8, none⟩ (.int .i64 vc.time)).cell? ⟨w.heap.size, 7, none⟩ = some (.bool vc.same) := b9.cells.1 7
        have r8 : (((((((((((((w4.setCell ⟨w2.heap.size, 5, none⟩ (.int .i64 vc.a)).setCell ⟨w2.heap.size, 6, none⟩ (.int .i64 vc.b)).setCell ⟨w2.heap.size, 7, none⟩ (.bool vc.same)).setCell ⟨w2.heap.size, 8, none⟩ (.int .i64 vc.time)).setCell ⟨w.heap.size, 0, none⟩ (.int .i64 o.kind)).setCell ⟨w.heap.size, 1, none⟩ (.int .i64 o.record.source)).setCell ⟨w.heap.size, 2, none⟩ (.int .i64 o.record.key)).setCell ⟨w.heap.size, 3, none⟩ (.int .i64 o.record.version)).setCell ⟨w.heap.size, 4, none⟩ (.slice A1 o.record.fields.length c1)).setCell ⟨w.heap.size, 5, none⟩ (.int .i64 vc.a)).setCell ⟨w.heap.size, 6, none⟩ (.int .i64 vc.b)).setCell ⟨w.heap.size, 7, none⟩ (.bool vc.same)).setCell ⟨w.heap.size, 8, none⟩ (.int .i64 vc.time)).cell? ⟨w.heap.size, 8, none⟩ = some (.int .i64 vc.time) := b9.cells.1 8
        have k9 : Kept g w (((((((((((((w4.setCell ⟨w2.heap.size, 5, none⟩ (.int .i64 vc.a)).setCell ⟨w2.heap.size, 6, none⟩ (.int .i64 vc.b)).setCell ⟨w2.heap.size, 7, none⟩ (.bool vc.same)).setCell ⟨w2.heap.size, 8, none⟩ (.int .i64 vc.time)).setCell ⟨w.heap.size, 0, none⟩ (.int .i64 o.kind)).setCell ⟨w.heap.size, 1, none⟩ (.int .i64 o.record.source)).setCell ⟨w.heap.size, 2, none⟩ (.int .i64 o.record.key)).setCell ⟨w.heap.size, 3, none⟩ (.int .i64 o.record.version)).setCell ⟨w.heap.size, 4, none⟩ (.slice A1 o.record.fields.length c1)).setCell ⟨w.heap.size, 5, none⟩ (.int .i64 vc.a)).setCell ⟨w.heap.size, 6, none⟩ (.int .i64 vc.b)).setCell ⟨w.heap.size, 7, none⟩ (.bool vc.same)).setCell ⟨w.heap.size, 8, none⟩ (.int .i64 vc.time)) := (((((((((kL9.setN (Nat.le_refl _) _).setN (Nat.le_refl _) _).setN (Nat.le_refl _) _).setN (Nat.le_refl _) _).setN (Nat.le_refl _) _).setN (Nat.le_refl _) _).setN (Nat.le_refl _) _).setN (Nat.le_refl _) _).setN (Nat.le_refl _) _)
        have c9 : Cur w0 (((((((((((((w4.setCell ⟨w2.heap.size, 5, none⟩ (.int .i64 vc.a)).setCell ⟨w2.heap.size, 6, none⟩ (.int .i64 vc.b)).setCell ⟨w2.heap.size, 7, none⟩ (.bool vc.same)).setCell ⟨w2.heap.size, 8, none⟩ (.int .i64 vc.time)).setCell ⟨w.heap.size, 0, none⟩ (.int .i64 o.kind)).setCell ⟨w.heap.size, 1, none⟩ (.int .i64 o.record.source)).setCell ⟨w.heap.size, 2, none⟩ (.int .i64 o.record.key)).setCell ⟨w.heap.size, 3, none⟩ (.int .i64 o.record.version)).setCell ⟨w.heap.size, 4, none⟩ (.slice A1 o.record.fields.length c1)).setCell ⟨w.heap.size, 5, none⟩ (.int .i64 vc.a)).setCell ⟨w.heap.size, 6, none⟩ (.int .i64 vc.b)).setCell ⟨w.heap.size, 7, none⟩ (.bool vc.same)).setCell ⟨w.heap.size, 8, none⟩ (.int .i64 vc.time)) g := (((((((((cL9.setN hg _).setN hg _).setN hg _).setN hg _).setN hg _).setN hg _).setN hg _).setN hg _).setN hg _)
        have o9 := (((((((((oL9.setCell (p := ⟨w.heap.size, 0, none⟩) hRF (.int .i64 o.kind)).setCell (p := ⟨w.heap.size, 1, none⟩) hRF (.int .i64 o.record.source)).setCell (p := ⟨w.heap.size, 2, none⟩) hRF (.int .i64 o.record.key)).setCell (p := ⟨w.heap.size, 3, none⟩) hRF (.int .i64 o.record.version)).setCell (p := ⟨w.heap.size, 4, none⟩) hRF (.slice A1 o.record.fields.length c1)).setCell (p := ⟨w.heap.size, 5, none⟩) hRF (.int .i64 vc.a)).setCell (p := ⟨w.heap.size, 6, none⟩) hRF (.int .i64 vc.b)).setCell (p := ⟨w.heap.size, 7, none⟩) hRF (.bool vc.same)).setCell (p := ⟨w.heap.size, 8, none⟩) hRF (.int .i64 vc.time))
        refine bodyPost_ret (v := .agg #[.int .i64 o.kind, .int .i64 o.record.source, .int .i64 o.record.key, .int .i64 o.record.version, .slice A1 o.record.fields.length c1, .int .i64 vc.a, .int .i64 vc.b, .bool vc.same, .int .i64 vc.time]) (by simp [results, Tryz.results82, go_sem, r0, r1, r2, r3, r4, r5, r6, r7, r8]) rfl ?_
        exact ⟨_, ⟨o.kind, o.record, vc⟩, F, rfl, ⟨_, rfl, HI.out, o9⟩, HN.out, c9, k9, trivial⟩
      · skip
        have bL9 : Blk w3 w2.heap.size 28 [.int .i64 o.kind, .int .i64 o.record.source, .int .i64 o.record.key, .int .i64 o.record.version, .slice A1 o.record.fields.length c1, .int .i64 o.verdict.a, .int .i64 o.verdict.b, .bool o.verdict.same, .int .i64 o.verdict.time] := bL3
        have bR9 : Blk w3 w.heap.size 28 [.int .i64 0, .int .i64 0, .int .i64 0, .int .i64 0, .slice none 0 0, .int .i64 0, .int .i64 0, .bool false, .int .i64 0] := bR3
        have kL9 : Kept g w w3 := hk03
        have cL9 : Cur w0 w3 g := hc3
        have oL9 := o3
        have HI := hid (show Op.ok o from ok1)
        have HN := hid (show NewF w F from ⟨n1.1, fun q hq => by have := n1.2 q hq; rw [World.size_alloc] at this; omega⟩)
        obtain ⟨cL0, fL0⟩ := bL3.cells
        obtain ⟨cL, fL⟩ := bL9.cells
        obtain ⟨cR, fR⟩ := bR9.cells
        go_wp2
        have b9 : Blk (((((((((w3.setCell ⟨w.heap.size, 0, none⟩ (.int .i64 o.kind)).setCell ⟨w.heap.size, 1, none⟩ (.int .i64 o.record.source)).setCell ⟨w.heap.size, 2, none⟩ (.int .i64 o.record.key)).setCell ⟨w.heap.size, 3, none⟩ (.int .i64 o.record.version)).setCell ⟨w.heap.size, 4, none⟩ (.slice A1 o.record.fields.length c1)).setCell ⟨w.heap.size, 5, none⟩ (.int .i64 o.verdict.a)).setCell ⟨w.heap.size, 6, none⟩ (.int .i64 o.verdict.b)).setCell ⟨w.heap.size, 7, none⟩ (.bool o.verdict.same)).setCell ⟨w.heap.size, 8, none⟩ (.int .i64 o.verdict.time)) w.heap.size 28 [.int .i64 o.kind, .int .i64 o.record.source, .int .i64 o.record.key, .int .i64 o.record.version, .slice A1 o.record.fields.length c1, .int .i64 o.verdict.a, .int .i64 o.verdict.b, .bool o.verdict.same, .int .i64 o.verdict.time] := (((((((((bR9.setAt 0 (by show 0 < 9; decide) (.int .i64 o.kind)).setAt 1 (by show 1 < 9; decide) (.int .i64 o.record.source)).setAt 2 (by show 2 < 9; decide) (.int .i64 o.record.key)).setAt 3 (by show 3 < 9; decide) (.int .i64 o.record.version)).setAt 4 (by show 4 < 9; decide) (.slice A1 o.record.fields.length c1)).setAt 5 (by show 5 < 9; decide) (.int .i64 o.verdict.a)).setAt 6 (by show 6 < 9; decide) (.int .i64 o.verdict.b)).setAt 7 (by show 7 < 9; decide) (.bool o.verdict.same)).setAt 8 (by show 8 < 9; decide) (.int .i64 o.verdict.time))
        have r0 : (((((((((w3.setCell ⟨w.heap.size, 0, none⟩ (.int .i64 o.kind)).setCell ⟨w.heap.size, 1, none⟩ (.int .i64 o.record.source)).setCell ⟨w.heap.size, 2, none⟩ (.int .i64 o.record.key)).setCell ⟨w.heap.size, 3, none⟩ (.int .i64 o.record.version)).setCell ⟨w.heap.size, 4, none⟩ (.slice A1 o.record.fields.length c1)).setCell ⟨w.heap.size, 5, none⟩ (.int .i64 o.verdict.a)).setCell ⟨w.heap.size, 6, none⟩ (.int .i64 o.verdict.b)).setCell ⟨w.heap.size, 7, none⟩ (.bool o.verdict.same)).setCell ⟨w.heap.size, 8, none⟩ (.int .i64 o.verdict.time)).cell? ⟨w.heap.size, 0, none⟩ = some (.int .i64 o.kind) := b9.cells.1 0
        have r1 : (((((((((w3.setCell ⟨w.heap.size, 0, none⟩ (.int .i64 o.kind)).setCell ⟨w.heap.size, 1, none⟩ (.int .i64 o.record.source)).setCell ⟨w.heap.size, 2, none⟩ (.int .i64 o.record.key)).setCell ⟨w.heap.size, 3, none⟩ (.int .i64 o.record.version)).setCell ⟨w.heap.size, 4, none⟩ (.slice A1 o.record.fields.length c1)).setCell ⟨w.heap.size, 5, none⟩ (.int .i64 o.verdict.a)).setCell ⟨w.heap.size, 6, none⟩ (.int .i64 o.verdict.b)).setCell ⟨w.heap.size, 7, none⟩ (.bool o.verdict.same)).setCell ⟨w.heap.size, 8, none⟩ (.int .i64 o.verdict.time)).cell? ⟨w.heap.size, 1, none⟩ = some (.int .i64 o.record.source) := b9.cells.1 1
        have r2 : (((((((((w3.setCell ⟨w.heap.size, 0, none⟩ (.int .i64 o.kind)).setCell ⟨w.heap.size, 1, none⟩ (.int .i64 o.record.source)).setCell ⟨w.heap.size, 2, none⟩ (.int .i64 o.record.key)).setCell ⟨w.heap.size, 3, none⟩ (.int .i64 o.record.version)).setCell ⟨w.heap.size, 4, none⟩ (.slice A1 o.record.fields.length c1)).setCell ⟨w.heap.size, 5, none⟩ (.int .i64 o.verdict.a)).setCell ⟨w.heap.size, 6, none⟩ (.int .i64 o.verdict.b)).setCell ⟨w.heap.size, 7, none⟩ (.bool o.verdict.same)).setCell ⟨w.heap.size, 8, none⟩ (.int .i64 o.verdict.time)).cell? ⟨w.heap.size, 2, none⟩ = some (.int .i64 o.record.key) := b9.cells.1 2
        have r3 : (((((((((w3.setCell ⟨w.heap.size, 0, none⟩ (.int .i64 o.kind)).setCell ⟨w.heap.size, 1, none⟩ (.int .i64 o.record.source)).setCell ⟨w.heap.size, 2, none⟩ (.int .i64 o.record.key)).setCell ⟨w.heap.size, 3, none⟩ (.int .i64 o.record.version)).setCell ⟨w.heap.size, 4, none⟩ (.slice A1 o.record.fields.length c1)).setCell ⟨w.heap.size, 5, none⟩ (.int .i64 o.verdict.a)).setCell ⟨w.heap.size, 6, none⟩ (.int .i64 o.verdict.b)).setCell ⟨w.heap.size, 7, none⟩ (.bool o.verdict.same)).setCell ⟨w.heap.size, 8, none⟩ (.int .i64 o.verdict.time)).cell? ⟨w.heap.size, 3, none⟩ = some (.int .i64 o.record.version) := b9.cells.1 3
        have r4 : (((((((((w3.setCell ⟨w.heap.size, 0, none⟩ (.int .i64 o.kind)).setCell ⟨w.heap.size, 1, none⟩ (.int .i64 o.record.source)).setCell ⟨w.heap.size, 2, none⟩ (.int .i64 o.record.key)).setCell ⟨w.heap.size, 3, none⟩ (.int .i64 o.record.version)).setCell ⟨w.heap.size, 4, none⟩ (.slice A1 o.record.fields.length c1)).setCell ⟨w.heap.size, 5, none⟩ (.int .i64 o.verdict.a)).setCell ⟨w.heap.size, 6, none⟩ (.int .i64 o.verdict.b)).setCell ⟨w.heap.size, 7, none⟩ (.bool o.verdict.same)).setCell ⟨w.heap.size, 8, none⟩ (.int .i64 o.verdict.time)).cell? ⟨w.heap.size, 4, none⟩ = some (.slice A1 o.record.fields.length c1) := b9.cells.1 4
        have r5 : (((((((((w3.setCell ⟨w.heap.size, 0, none⟩ (.int .i64 o.kind)).setCell ⟨w.heap.size, 1, none⟩ (.int .i64 o.record.source)).setCell ⟨w.heap.size, 2, none⟩ (.int .i64 o.record.key)).setCell ⟨w.heap.size, 3, none⟩ (.int .i64 o.record.version)).setCell ⟨w.heap.size, 4, none⟩ (.slice A1 o.record.fields.length c1)).setCell ⟨w.heap.size, 5, none⟩ (.int .i64 o.verdict.a)).setCell ⟨w.heap.size, 6, none⟩ (.int .i64 o.verdict.b)).setCell ⟨w.heap.size, 7, none⟩ (.bool o.verdict.same)).setCell ⟨w.heap.size, 8, none⟩ (.int .i64 o.verdict.time)).cell? ⟨w.heap.size, 5, none⟩ = some (.int .i64 o.verdict.a) := b9.cells.1 5
        have r6 : (((((((((w3.setCell ⟨w.heap.size, 0, none⟩ (.int .i64 o.kind)).setCell ⟨w.heap.size, 1, none⟩ (.int .i64 o.record.source)).setCell ⟨w.heap.size, 2, none⟩ (.int .i64 o.record.key)).setCell ⟨w.heap.size, 3, none⟩ (.int .i64 o.record.version)).setCell ⟨w.heap.size, 4, none⟩ (.slice A1 o.record.fields.length c1)).setCell ⟨w.heap.size, 5, none⟩ (.int .i64 o.verdict.a)).setCell ⟨w.heap.size, 6, none⟩ (.int .i64 o.verdict.b)).setCell ⟨w.heap.size, 7, none⟩ (.bool o.verdict.same)).setCell ⟨w.heap.size, 8, none⟩ (.int .i64 o.verdict.time)).cell? ⟨w.heap.size, 6, none⟩ = some (.int .i64 o.verdict.b) := b9.cells.1 6
        have r7 : (((((((((w3.setCell ⟨w.heap.size, 0, none⟩ (.int .i64 o.kind)).setCell ⟨w.heap.size, 1, none⟩ (.int .i64 o.record.source)).setCell ⟨w.heap.size, 2, none⟩ (.int .i64 o.record.key)).setCell ⟨w.heap.size, 3, none⟩ (.int .i64 o.record.version)).setCell ⟨w.heap.size, 4, none⟩ (.slice A1 o.record.fields.length c1)).setCell ⟨w.heap.size, 5, none⟩ (.int .i64 o.verdict.a)).setCell ⟨w.heap.size, 6, none⟩ (.int .i64 o.verdict.b)).setCell ⟨w.heap.size, 7, none⟩ (.bool o.verdict.same)).setCell ⟨w.heap.size, 8, none⟩ (.int .i64 o.verdict.time)).cell? ⟨w.heap.size, 7, none⟩ = some (.bool o.verdict.same) := b9.cells.1 7
        have r8 : (((((((((w3.setCell ⟨w.heap.size, 0, none⟩ (.int .i64 o.kind)).setCell ⟨w.heap.size, 1, none⟩ (.int .i64 o.record.source)).setCell ⟨w.heap.size, 2, none⟩ (.int .i64 o.record.key)).setCell ⟨w.heap.size, 3, none⟩ (.int .i64 o.record.version)).setCell ⟨w.heap.size, 4, none⟩ (.slice A1 o.record.fields.length c1)).setCell ⟨w.heap.size, 5, none⟩ (.int .i64 o.verdict.a)).setCell ⟨w.heap.size, 6, none⟩ (.int .i64 o.verdict.b)).setCell ⟨w.heap.size, 7, none⟩ (.bool o.verdict.same)).setCell ⟨w.heap.size, 8, none⟩ (.int .i64 o.verdict.time)).cell? ⟨w.heap.size, 8, none⟩ = some (.int .i64 o.verdict.time) := b9.cells.1 8
        have k9 : Kept g w (((((((((w3.setCell ⟨w.heap.size, 0, none⟩ (.int .i64 o.kind)).setCell ⟨w.heap.size, 1, none⟩ (.int .i64 o.record.source)).setCell ⟨w.heap.size, 2, none⟩ (.int .i64 o.record.key)).setCell ⟨w.heap.size, 3, none⟩ (.int .i64 o.record.version)).setCell ⟨w.heap.size, 4, none⟩ (.slice A1 o.record.fields.length c1)).setCell ⟨w.heap.size, 5, none⟩ (.int .i64 o.verdict.a)).setCell ⟨w.heap.size, 6, none⟩ (.int .i64 o.verdict.b)).setCell ⟨w.heap.size, 7, none⟩ (.bool o.verdict.same)).setCell ⟨w.heap.size, 8, none⟩ (.int .i64 o.verdict.time)) := (((((((((kL9.setN (Nat.le_refl _) _).setN (Nat.le_refl _) _).setN (Nat.le_refl _) _).setN (Nat.le_refl _) _).setN (Nat.le_refl _) _).setN (Nat.le_refl _) _).setN (Nat.le_refl _) _).setN (Nat.le_refl _) _).setN (Nat.le_refl _) _)
        have c9 : Cur w0 (((((((((w3.setCell ⟨w.heap.size, 0, none⟩ (.int .i64 o.kind)).setCell ⟨w.heap.size, 1, none⟩ (.int .i64 o.record.source)).setCell ⟨w.heap.size, 2, none⟩ (.int .i64 o.record.key)).setCell ⟨w.heap.size, 3, none⟩ (.int .i64 o.record.version)).setCell ⟨w.heap.size, 4, none⟩ (.slice A1 o.record.fields.length c1)).setCell ⟨w.heap.size, 5, none⟩ (.int .i64 o.verdict.a)).setCell ⟨w.heap.size, 6, none⟩ (.int .i64 o.verdict.b)).setCell ⟨w.heap.size, 7, none⟩ (.bool o.verdict.same)).setCell ⟨w.heap.size, 8, none⟩ (.int .i64 o.verdict.time)) g := (((((((((cL9.setN hg _).setN hg _).setN hg _).setN hg _).setN hg _).setN hg _).setN hg _).setN hg _).setN hg _)
        have o9 := (((((((((oL9.setCell (p := ⟨w.heap.size, 0, none⟩) hRF (.int .i64 o.kind)).setCell (p := ⟨w.heap.size, 1, none⟩) hRF (.int .i64 o.record.source)).setCell (p := ⟨w.heap.size, 2, none⟩) hRF (.int .i64 o.record.key)).setCell (p := ⟨w.heap.size, 3, none⟩) hRF (.int .i64 o.record.version)).setCell (p := ⟨w.heap.size, 4, none⟩) hRF (.slice A1 o.record.fields.length c1)).setCell (p := ⟨w.heap.size, 5, none⟩) hRF (.int .i64 o.verdict.a)).setCell (p := ⟨w.heap.size, 6, none⟩) hRF (.int .i64 o.verdict.b)).setCell (p := ⟨w.heap.size, 7, none⟩) hRF (.bool o.verdict.same)).setCell (p := ⟨w.heap.size, 8, none⟩) hRF (.int .i64 o.verdict.time))
        refine bodyPost_ret (v := .agg #[.int .i64 o.kind, .int .i64 o.record.source, .int .i64 o.record.key, .int .i64 o.record.version, .slice A1 o.record.fields.length c1, .int .i64 o.verdict.a, .int .i64 o.verdict.b, .bool o.verdict.same, .int .i64 o.verdict.time]) (by simp [results, Tryz.results82, go_sem, r0, r1, r2, r3, r4, r5, r6, r7, r8]) rfl ?_
        exact ⟨_, o, F, rfl, ⟨_, rfl, HI.out, o9⟩, HN.out, c9, k9, trivial⟩

end Go.Proofs.YtfieimmlcopbhaaGreatDoor

namespace Go.Proofs.YtfieimmlcopbhaaGreatDoor
open Go.RowKit

structure Batch where
  ops : List Op
def BatAt (w : World) (v : Value) (b : Batch) : Prop := ∃ o, v = .agg #[o] ∧ True ∧ Sl opR w o b.ops
def BatOwn (w : World) (v : Value) (b : Batch) (F : List Nat) : Prop := ∃ o, v = .agg #[o] ∧ True ∧ OwnSl opO w o b.ops F
theorem BatAt.mono {w w2 : World} {v : Value} {b : Batch} (e : Ext w w2) (h : BatAt w v b) : BatAt w2 v b := let ⟨f, a, t, c⟩ := h; ⟨f, a, t, c.mono e⟩
theorem BatOwn.at_ {w : World} {v : Value} {b : Batch} {F : List Nat} (h : BatOwn w v b F) : BatAt w v b := let ⟨f, a, t, c⟩ := h; ⟨f, a, t, c.sl⟩
theorem BatOwn.lt {w : World} {v : Value} {b : Batch} {F : List Nat} (h : BatOwn w v b F) : ∀ k ∈ F, k < w.heap.size := let ⟨_, _, _, c⟩ := h; c.lt
theorem BatOwn.keep {w w2 : World} {v : Value} {b : Batch} {F : List Nat} (h : BatOwn w v b F) (k : ∀ i ∈ F, w2.heap[i]? = w.heap[i]?) : BatOwn w2 v b F := let ⟨f, a, t, c⟩ := h; ⟨f, a, t, c.keep k⟩
theorem BatOwn.ext {w w2 : World} {v : Value} {b : Batch} {F : List Nat} (h : BatOwn w v b F) (e : Ext w w2) : BatOwn w2 v b F := h.keep fun i hi => e.block (h.lt i hi)
def msBat (b : Batch) : Nat := b.ops.length + sumBy msOp b.ops
theorem Batch.eta (x y : Batch) : x = y ↔ x.ops = y.ops := by cases x; cases y; simp

set_option maxHeartbeats 400000 in
theorem eqBatch_c (v u : Value) (x y : Batch) (w : World) (h : BatAt w v x) (k : BatAt w u y) :
    Calls Tryz.prog 15 #[v, u] w fun e w2 => e = .returned (.bool (eqB x y)) ∧ Ext w w2 := by
  obtain ⟨f, rfl, _, hs⟩ := h
  obtain ⟨g, rfl, _, hs2⟩ := k
  go_enter Tryz.func15, Tryz.ntmps15
  go_wp2_with fail
  refine (eqOpS_c _ _ x.ops y.ops _ (hs.mono (by repeat (first | with_reducible exact Ext.refl _ | with_reducible assumption | with_reducible refine Ext.drew ?_ | with_reducible refine Ext.alloc ?_ _ | (refine Ext.setCell ?_ (by simp) _) | with_reducible refine Ext.trans ?_ (by with_reducible assumption)))) (hs2.mono (by repeat (first | with_reducible exact Ext.refl _ | with_reducible assumption | with_reducible refine Ext.drew ?_ | with_reducible refine Ext.alloc ?_ _ | (refine Ext.setCell ?_ (by simp) _) | with_reducible refine Ext.trans ?_ (by with_reducible assumption))))).mono ?_
  rintro e w2 ⟨rfl, x2⟩
  by_cases h4 : x.ops = y.ops
  · rw [eqB_true h4]
    have H4 := hid h4
    clear h4
    go_wp2
    go_ret
    exact ⟨ret_bool (eqB_true ((Batch.eta x y).2 H4.out)).symm, (by repeat (first | with_reducible exact Ext.refl _ | with_reducible assumption | with_reducible refine Ext.drew ?_ | with_reducible refine Ext.alloc ?_ _ | (refine Ext.setCell ?_ (by simp) _) | with_reducible refine Ext.trans ?_ (by with_reducible assumption)))⟩
  · rw [eqB_false h4]
    have H4 := hid h4
    clear h4
    go_wp2
    go_ret
    exact ⟨ret_bool (eqB_false fun e => H4.out (by rw [e])).symm, (by repeat (first | with_reducible exact Ext.refl _ | with_reducible assumption | with_reducible refine Ext.drew ?_ | with_reducible refine Ext.alloc ?_ _ | (refine Ext.setCell ?_ (by simp) _) | with_reducible refine Ext.trans ?_ (by with_reducible assumption)))⟩

theorem reads_op9 {cs : List Value} (h : cs.length = 9) {a : Value} {r d : List Value} (ha : (cs.drop 0).take 1 = [a]) (hr : (cs.drop 1).take 4 = r) (hd : (cs.drop 5).take 4 = d) : cs = a :: (r ++ d) := by
  match cs, h with
  | [x0, x1, x2, x3, x4, x5, x6, x7, x8], _ => subst hr; subst hd; simp_all
def batchR : Rep Batch := ⟨1, fun w cs b => ∃ o, cs = [o] ∧ True ∧ Sl opR w o b.ops, fun ⟨_, h, _⟩ => by rw [h]; rfl, fun x ⟨o, a, t, c⟩ => ⟨o, a, t, c.mono x⟩⟩
end Go.Proofs.YtfieimmlcopbhaaGreatDoor

namespace Go.Proofs.YtfieimmlcopbhaaGreatDoor
open Go.RowKit

set_option maxHeartbeats 400000 in
set_option maxRecDepth 20000 in
theorem EqualFunc_op (v u : Value) (xs ys : List Op) (fn : FuncId) (cp : Array Value) (w : World) (h : Sl opR w v xs) (k : Sl opR w u ys)
    (hfn : ∀ (args : Array Value) (W : World), Sem.run Tryz.prog (callFunc fn args) W = .ok (.enter fn args) W)
    (hf : ∀ wz a b x y, OpAt wz a x → OpAt wz b y → Calls Tryz.prog fn (#[a, b] ++ cp) wz fun e w2 => e = .returned (.bool (eqB x y)) ∧ Ext wz w2) :
    Calls Tryz.prog 79 #[v, u, .func (.func fn) #[] cp] w fun e w2 => e = .returned (.bool (eqB xs ys)) ∧ Ext w w2 := by
  obtain ⟨A, cap, rfl, hm⟩ := h.form
  obtain ⟨B, cap2, rfl, hm2⟩ := k.form
  by_cases hl : xs.length = ys.length
  · have hl' : ((xs.length : Int) != (ys.length : Int)) = false := by simp [hl]
    have HL := hid hl
    clear hl
    go_enter Tryz.func79, Tryz.ntmps79
    go_wp2
    go_loopw [17] (fun i wr => ∃ k2 : Nat, k2 ≤ xs.length ∧ i = .int .i64 k2 ∧ xs.take k2 = ys.take k2 ∧ Ext w wr) (fun i _ => xs.length - (intOf i).toNat)
    case atStart => exact ⟨0, Nat.zero_le _, rfl, by simp, Ext.refl _⟩
    case round =>
      obtain ⟨k2, hk, rfl, he, hx⟩ := hrel
      have HE := hid he
      clear he
      by_cases hlt : k2 < xs.length
      · have hlt2 : k2 < ys.length := by have := HL.out; omega
        obtain ⟨b, off, A2, cap3, rfl, hok, hi, hc0, hc1, hc2, hc3, hc4, hc5, hc6, hc7, hc8⟩ := (h.mono hx).op hlt
        obtain ⟨b2, off2, A3, cap4, rfl, hok2, hi2, hd0, hd1, hd2, hd3, hd4, hd5, hd6, hd7, hd8⟩ := (k.mono hx).op hlt2
        have xe : Ext wr (wr.alloc (.cells #[.int .i64 xs[k2].kind, .int .i64 xs[k2].record.source, .int .i64 xs[k2].record.key, .int .i64 xs[k2].record.version, .slice A2 xs[k2].record.fields.length cap3, .int .i64 xs[k2].verdict.a, .int .i64 xs[k2].verdict.b, .bool xs[k2].verdict.same, .int .i64 xs[k2].verdict.time] 28)) := (Ext.refl _).alloc _
        have y0 := xe.cell hd0
        have y1 := xe.cell hd1
        have y2 := xe.cell hd2
        have y3 := xe.cell hd3
        have y4 := xe.cell hd4
        have y5 := xe.cell hd5
        have y6 := xe.cell hd6
        have y7 := xe.cell hd7
        have y8 := xe.cell hd8
        go_wp2_with fail
        refine (hf _ _ _ xs[k2] ys[k2] ⟨_, rfl, hok, hi.mono (by repeat (first | with_reducible exact Ext.refl _ | with_reducible assumption | with_reducible refine Ext.drew ?_ | with_reducible refine Ext.alloc ?_ _ | (refine Ext.setCell ?_ (by simp) _) | with_reducible refine Ext.trans ?_ (by with_reducible assumption)))⟩ ⟨_, rfl, hok2, hi2.mono (by repeat (first | with_reducible exact Ext.refl _ | with_reducible assumption | with_reducible refine Ext.drew ?_ | with_reducible refine Ext.alloc ?_ _ | (refine Ext.setCell ?_ (by simp) _) | with_reducible refine Ext.trans ?_ (by with_reducible assumption)))⟩).mono ?_
        rintro e w2 ⟨rfl, x2⟩
        clear xe
        by_cases h0 : xs[k2] = ys[k2]
        · rw [eqB_true h0]
          have H0 := hid h0
          clear h0
          go_wp2
          go_roundw
          case rel => exact ⟨k2 + 1, by omega, by go_num, take_snoc_eq hlt hlt2 H0.out HE.out, (by repeat (first | with_reducible exact Ext.refl _ | with_reducible assumption | with_reducible refine Ext.drew ?_ | with_reducible refine Ext.alloc ?_ _ | with_reducible refine Ext.trans ?_ (by with_reducible assumption)))⟩
          case measure => simp [intOf]; omega
        · rw [eqB_false h0]
          have H0 := hid h0
          clear h0
          go_wp2
          go_ret
          exact ⟨ret_bool (eqB_false (ne_of_at hlt hlt2 H0.out)).symm, (by repeat (first | with_reducible exact Ext.refl _ | with_reducible assumption | with_reducible refine Ext.drew ?_ | with_reducible refine Ext.alloc ?_ _ | with_reducible refine Ext.trans ?_ (by with_reducible assumption)))⟩
      · go_wp2
        go_ret
        exact ⟨ret_bool (eqB_true (eq_of_take hlt HL.out HE.out)).symm, hx⟩
  · have hl' : ((xs.length : Int) != (ys.length : Int)) = true := by simp; omega
    go_enter Tryz.func79, Tryz.ntmps79
    go_wp2
    go_ret
    exact ⟨ret_bool (eqB_false fun e => hl (by rw [e])).symm, Ext.refl _⟩

set_option maxHeartbeats 400000 in
set_option maxRecDepth 20000 in
theorem impl_EqualBatches_1 (v u : Value) (x y : Op) (w : World) (h : OpAt w v x) (k : OpAt w u y) :
    Calls Tryz.prog 80 #[v, u] w fun e w2 => e = .returned (.bool (eqB x y)) ∧ Ext w w2 := by
  obtain ⟨f, rfl, hok, hs⟩ := h
  obtain ⟨g, rfl, hok2, hs2⟩ := k
  by_cases h1 : x.kind = y.kind
  · have b1 : (x.kind == y.kind) = true := by simp [h1]
    have H := hid h1
    clear h1
    go_enter Tryz.func80, Tryz.ntmps80
    go_wp2_with fail
    refine (impl_equalRecords _ _ x.record y.record _ ⟨_, rfl, hok.2.1, hs.mono (by repeat (first | with_reducible exact Ext.refl _ | with_reducible assumption | with_reducible refine Ext.drew ?_ | with_reducible refine Ext.alloc ?_ _ | (refine Ext.setCell ?_ (by simp) _) | with_reducible refine Ext.trans ?_ (by with_reducible assumption)))⟩ ⟨_, rfl, hok2.2.1, hs2.mono (by repeat (first | with_reducible exact Ext.refl _ | with_reducible assumption | with_reducible refine Ext.drew ?_ | with_reducible refine Ext.alloc ?_ _ | (refine Ext.setCell ?_ (by simp) _) | with_reducible refine Ext.trans ?_ (by with_reducible assumption)))⟩).mono ?_
    rintro e w2 ⟨rfl, x2⟩
    have c1 := x2.box1.1
    have c0 := ((((Ext.refl _).alloc _) : Ext (w.alloc (.cells #[.int .i64 x.kind, .int .i64 x.record.source, .int .i64 x.record.key, .int .i64 x.record.version, f, .int .i64 x.verdict.a, .int .i64 x.verdict.b, .bool x.verdict.same, .int .i64 x.verdict.time] 28)) _).trans x2).box.1
    by_cases h4 : x.record = y.record
    · rw [eqB_true h4]
      have H4 := hid h4
      clear h4
      rcases ver_cases x.verdict y.verdict with ⟨he, e1, e2, e3, e4⟩ | ⟨hne, hw⟩
      · have H5 := hid he
        clear he
        go_wp2
        go_ret
        exact ⟨ret_bool (eqB_true ((Op.eta x y).2 ⟨H.out, H4.out, H5.out⟩)).symm, (by repeat (first | with_reducible exact Ext.refl _ | with_reducible assumption | with_reducible refine Ext.drew ?_ | with_reducible refine Ext.alloc ?_ _ | (refine Ext.setCell ?_ (by simp) _) | with_reducible refine Ext.trans ?_ (by with_reducible assumption)))⟩
      · have H5 := hid hne
        clear hne
        rcases hw with e1 | ⟨e1, e2⟩ | ⟨e1, e2, e3⟩ | ⟨e1, e2, e3, e4⟩
        all_goals
          go_wp2
          go_ret
          exact ⟨ret_bool (eqB_false fun e => H5.out (by rw [e])).symm, (by repeat (first | with_reducible exact Ext.refl _ | with_reducible assumption | with_reducible refine Ext.drew ?_ | with_reducible refine Ext.alloc ?_ _ | (refine Ext.setCell ?_ (by simp) _) | with_reducible refine Ext.trans ?_ (by with_reducible assumption)))⟩
    · rw [eqB_false h4]
      have H4 := hid h4
      clear h4
      go_wp2
      go_ret
      exact ⟨ret_bool (eqB_false fun e => H4.out (by rw [e])).symm, (by repeat (first | with_reducible exact Ext.refl _ | with_reducible assumption | with_reducible refine Ext.drew ?_ | with_reducible refine Ext.alloc ?_ _ | (refine Ext.setCell ?_ (by simp) _) | with_reducible refine Ext.trans ?_ (by with_reducible assumption)))⟩
  · have b1 : (x.kind == y.kind) = false := by simp [h1]
    have H := hid h1
    clear h1
    go_enter Tryz.func80, Tryz.ntmps80
    go_wp2
    go_ret
    exact ⟨ret_bool (eqB_false fun e => H.out (by rw [e])).symm, (by repeat (first | with_reducible exact Ext.refl _ | with_reducible assumption | with_reducible refine Ext.drew ?_ | with_reducible refine Ext.alloc ?_ _ | (refine Ext.setCell ?_ (by simp) _) | with_reducible refine Ext.trans ?_ (by with_reducible assumption)))⟩

set_option maxHeartbeats 400000 in
set_option maxRecDepth 20000 in
theorem impl_EqualBatches (v u : Value) (x y : Batch) (w : World) (h : BatAt w v x) (k : BatAt w u y) :
    Calls Tryz.prog 36 #[v, u] w fun e w2 => e = .returned (.bool (eqB x y)) ∧ Ext w w2 := by
  obtain ⟨f, rfl, _, hs⟩ := h
  obtain ⟨g, rfl, _, hs2⟩ := k
  go_enter Tryz.func36, Tryz.ntmps36
  go_wp2_with fail
  refine (EqualFunc_op _ _ x.ops y.ops 80 #[] _ (hs.mono (by repeat (first | with_reducible exact Ext.refl _ | with_reducible assumption | with_reducible refine Ext.drew ?_ | with_reducible refine Ext.alloc ?_ _ | (refine Ext.setCell ?_ (by simp) _) | with_reducible refine Ext.trans ?_ (by with_reducible assumption)))) (hs2.mono (by repeat (first | with_reducible exact Ext.refl _ | with_reducible assumption | with_reducible refine Ext.drew ?_ | with_reducible refine Ext.alloc ?_ _ | (refine Ext.setCell ?_ (by simp) _) | with_reducible refine Ext.trans ?_ (by with_reducible assumption)))) (fun _ _ => by kernel_rfl) (fun wz a b x y hx hy => impl_EqualBatches_1 a b x y wz hx hy)).mono ?_
  rintro e w2 ⟨rfl, x2⟩
  have hE : eqB x.ops y.ops = eqB x y := by
    by_cases h0 : x.ops = y.ops
    · rw [eqB_true h0, eqB_true ((Batch.eta x y).2 h0)]
    · rw [eqB_false h0, eqB_false fun e => h0 (by rw [e])]
  have HE := hid hE
  clear hE
  go_wp2
  go_ret
  exact ⟨ret_bool HE.out, (by repeat (first | with_reducible exact Ext.refl _ | with_reducible assumption | with_reducible refine Ext.drew ?_ | with_reducible refine Ext.alloc ?_ _ | (refine Ext.setCell ?_ (by simp) _) | with_reducible refine Ext.trans ?_ (by with_reducible assumption)))⟩

end Go.Proofs.YtfieimmlcopbhaaGreatDoor
