/-
  SEVERAL SMALL TEXTS LAID TOGETHER: DrawO, AppSp2.
-/
import Derived.Test.YtfcbapaojoecgaaGreatMgEndFnSto0
import Derived.Test.YtfcbapaojoecgaaGreatMgEndAppB9
import Derived.Test.YtfcbapaojoecgaaGreatMgEndAppB5
import Derived.Test.YtfcbapaojoecgaaGreatMgEndAppB15

namespace Go.Proofs.YtfcbapaojoecgaaGreat
open Go.RowKit


/-- a record that was drawn, right or wrong -/
def RecAny (w0 w : World) (g : Nat) (e : Ending) (w2 : World) : Prop := ∃ v r F, e = .returned v ∧ RecOwn w2 v r F ∧ NewF w F ∧ Cur w0 w2 g ∧ Kept g w w2 ∧ r.fields.length ≤ 4
theorem OwnSl.str_tail {w : World} {b n cap : Nat} {x : ByteArray} {xs : List ByteArray} {F : List Nat} (h : OwnSl strO w (.slice (some ⟨b, 0, none⟩) (n + 1) (cap + 1)) (x :: xs) F) : OwnSl strO w (.slice (some ⟨b, 1, none⟩) n cap) xs F := by
  rcases h with ⟨e, _⟩ | ⟨g, off, cap', cur, e, F2, hv, hcap, hh, rfl, hs, hc⟩
  · cases e
  · injection hv with h1 h2 h3
    injection h1 with h1
    injection h1 with h1 h4 _
    subst h1; subst h4
    have h1 : strO.n = 1 := rfl
    rw [List.length_cons] at h2 hcap hs hc
    have hn : n = xs.length := by omega
    subst hn
    obtain ⟨c, d, F3, F4, e1, e2, e3, e4⟩ := hc
    have hl : c.length = 1 := strO.len (strO.own_rd e3)
    have hF3 : F3 = [] := e3.2
    subst hF3
    refine .inr ⟨b, 1, cap, cur, e, F2, rfl, ⟨by omega, by omega⟩, hh, rfl, by rw [h1] at hs ⊢; omega, ?_⟩
    rw [e2, List.nil_append]
    have e5 : (cur.toList.drop 1).take (xs.length * strO.n) = d := by
      rw [h1] at e1 ⊢
      rw [List.drop_zero, Nat.mul_one] at e1
      rw [Nat.mul_one]
      have e6 : ((cur.toList.take (xs.length + 1)).drop 1) = d := by rw [e1, ← hl, List.drop_left]
      rw [← e6, List.drop_take, Nat.add_sub_cancel]
    rw [e5]; exact e4

set_option maxHeartbeats 1000000 in
set_option maxRecDepth 20000 in
theorem spec_l8Any (w0 w : World) (g : Nat) (hc : Cur w0 w g) :
    Calls Tryz.prog 117 #[.pointer (some ⟨g, 0, none⟩)] w (RecAny w0 w g) := by
  have hg := hc.base.2.2
  have hc0 := hc.ext ((Ext.refl w).alloc (.cells #[.int .i64 0, .int .i64 0, .int .i64 0, .slice none 0 0] 72))
  have k0 := Ext.kept (g := g) ((Ext.refl w).alloc (.cells #[.int .i64 0, .int .i64 0, .int .i64 0, .slice none 0 0] 72))
  have b0 := Blk.new w 72 #[.int .i64 0, .int .i64 0, .int .i64 0, .slice none 0 0]
  go_enter Tryz.func117, Tryz.ntmps117
  go_wp2_with fail
  refine (spec_l8Record w0 _ g hc0).mono ?_
  rintro e w2 ⟨b, r, rfl, rok, ro, rl, rb, hc2, hk2⟩
  have HL4 := hid rl
  rw [World.size_alloc] at rb
  have hgL := hc2.base.2.2
  have hk02 := k0.trans hk2
  have hwL := hk02.1
  have hnLR : ¬ w2.heap.size = w.heap.size := by have := block_lt (b0.kept (Nat.ne_of_gt hg) hk2); omega
  have hnRL : ¬ w.heap.size = w2.heap.size := fun e => hnLR e.symm
  have hLb : w2.heap.size ∉ [b] := fun h => by rw [List.mem_singleton] at h; have := ro.lt b (List.mem_singleton.2 rfl); omega
  have hRb : w.heap.size ∉ [b] := fun h => by rw [List.mem_singleton] at h; omega
  have hgb : g ∉ [b] := fun h => by rw [List.mem_singleton] at h; omega
  have hNF : NewF w [b] := ⟨by simp, fun q hq => by rw [List.mem_singleton] at hq; omega⟩
  have bL2 := Blk.new w2 72 #[.int .i64 r.source, .int .i64 r.key, .int .i64 r.version, .slice (some ⟨b, 0, none⟩) 4 4]
  have bR2 := (b0.kept (Nat.ne_of_gt hg) hk2).ext ((Ext.refl w2).alloc (.cells #[.int .i64 r.source, .int .i64 r.key, .int .i64 r.version, .slice (some ⟨b, 0, none⟩) 4 4] 72))
  have o2 := ro.ext ((Ext.refl w2).alloc (.cells #[.int .i64 r.source, .int .i64 r.key, .int .i64 r.version, .slice (some ⟨b, 0, none⟩) 4 4] 72))
  have hc2a := hc2.ext ((Ext.refl w2).alloc (.cells #[.int .i64 r.source, .int .i64 r.key, .int .i64 r.version, .slice (some ⟨b, 0, none⟩) 4 4] 72))
  have hk2a := hk02.alloc (.cells #[.int .i64 r.source, .int .i64 r.key, .int .i64 r.version, .slice (some ⟨b, 0, none⟩) 4 4] 72)
  clear hc hc0 k0 b0 hc2 hk2 hk02 ro rb
  go_wp2_with fail
  refine (spec_l1Below w0 _ g 16 (by decide) hc2a).mono ?_
  rintro e w3 ⟨x, rfl, hx, hc3, hk3⟩
  have hg3 := hc3.base.2.2
  have bL3 := bL2.kept (Nat.ne_of_gt hgL) hk3
  have bR3 := bR2.kept (Nat.ne_of_gt hg) hk3
  have o3 := o2.kept hgb hk3
  have hk03 := hk2a.trans hk3
  clear bL2 bR2 hc2a hk2a hk3 o2
  obtain ⟨rs, rk, rv⟩ := id rok
  by_cases h0 : x = 0
  · subst h0
    go_wp2_with fail
    refine (spec_l1PickInt w0 _ g _ [-1, 4] (by show 1 ≤ 2 ∧ 2 ≤ 256; decide) (hc3.ext ((Ext.refl _).alloc _)) (fun w4 k4 => (lit_kept rfl (by simp [I64]) (by show 2 ≤ maxLen; decide) hg3 k4).sl)).mono ?_
    rintro e w4 ⟨y, rfl, hy, hc4, hk4⟩
    replace hk4 := (Ext.kept (g := g) ((Ext.refl _).alloc _)).trans hk4
    have hg4 := hc4.base.2.2
    have bLn := bL3.kept (Nat.ne_of_gt hgL) hk4
    have bRn := bR3.kept (Nat.ne_of_gt hg) hk4
    have on := o3.kept hgb hk4
    have hkn := hk03.trans hk4
    clear hk4 hg4 hc3 bL3 bR3 hk03 o3
    have bL9 : Blk (w4.setCell ⟨w2.heap.size, 0, none⟩ (.int .i64 y)) w2.heap.size 72 [.int .i64 y, .int .i64 r.key, .int .i64 r.version, .slice (some ⟨b, 0, none⟩) 4 4] := (bLn.setAt 0 (by show 0 < 4; decide) (.int .i64 y))
    have bR9 := (bRn.other (i := 0) (u := .int .i64 y) hnRL)
    have kL9 : Kept g w (w4.setCell ⟨w2.heap.size, 0, none⟩ (.int .i64 y)) := (hkn.setN hwL _)
    have cL9 : Cur w0 (w4.setCell ⟨w2.heap.size, 0, none⟩ (.int .i64 y)) g := (hc4.setN hgL _)
    have oL9 := (on.setCell (p := ⟨w2.heap.size, 0, none⟩) hLb (.int .i64 y))
    have HI := hid (show Record.ok ⟨y, r.key, r.version, r.fields⟩ from ⟨hy, rk, rv⟩)
    have HL9 := hid (show (Record.fields ⟨y, r.key, r.version, r.fields⟩).length ≤ 4 from Nat.le_of_eq HL4.out)
    obtain ⟨cL0, fL0⟩ := bLn.cells
    obtain ⟨cL, fL⟩ := bL9.cells
    obtain ⟨cR, fR⟩ := bR9.cells
    go_wp2
    have b9 : Blk (((((w4.setCell ⟨w2.heap.size, 0, none⟩ (.int .i64 y)).setCell ⟨w.heap.size, 0, none⟩ (.int .i64 y)).setCell ⟨w.heap.size, 1, none⟩ (.int .i64 r.key)).setCell ⟨w.heap.size, 2, none⟩ (.int .i64 r.version)).setCell ⟨w.heap.size, 3, none⟩ (.slice (some ⟨b, 0, none⟩) 4 4)) w.heap.size 72 [.int .i64 y, .int .i64 r.key, .int .i64 r.version, .slice (some ⟨b, 0, none⟩) 4 4] := ((((bR9.setAt 0 (by show 0 < 4; decide) (.int .i64 y)).setAt 1 (by show 1 < 4; decide) (.int .i64 r.key)).setAt 2 (by show 2 < 4; decide) (.int .i64 r.version)).setAt 3 (by show 3 < 4; decide) (.slice (some ⟨b, 0, none⟩) 4 4))
    have r0 : (((((w4.setCell ⟨w2.heap.size, 0, none⟩ (.int .i64 y)).setCell ⟨w.heap.size, 0, none⟩ (.int .i64 y)).setCell ⟨w.heap.size, 1, none⟩ (.int .i64 r.key)).setCell ⟨w.heap.size, 2, none⟩ (.int .i64 r.version)).setCell ⟨w.heap.size, 3, none⟩ (.slice (some ⟨b, 0, none⟩) 4 4)).cell? ⟨w.heap.size, 0, none⟩ = some (.int .i64 y) := b9.cells.1 0
    have r1 : (((((w4.setCell ⟨w2.heap.size, 0, none⟩ (.int .i64 y)).setCell ⟨w.heap.size, 0, none⟩ (.int .i64 y)).setCell ⟨w.heap.size, 1, none⟩ (.int .i64 r.key)).setCell ⟨w.heap.size, 2, none⟩ (.int .i64 r.version)).setCell ⟨w.heap.size, 3, none⟩ (.slice (some ⟨b, 0, none⟩) 4 4)).cell? ⟨w.heap.size, 1, none⟩ = some (.int .i64 r.key) := b9.cells.1 1
    have r2 : (((((w4.setCell ⟨w2.heap.size, 0, none⟩ (.int .i64 y)).setCell ⟨w.heap.size, 0, none⟩ (.int .i64 y)).setCell ⟨w.heap.size, 1, none⟩ (.int .i64 r.key)).setCell ⟨w.heap.size, 2, none⟩ (.int .i64 r.version)).setCell ⟨w.heap.size, 3, none⟩ (.slice (some ⟨b, 0, none⟩) 4 4)).cell? ⟨w.heap.size, 2, none⟩ = some (.int .i64 r.version) := b9.cells.1 2
    have r3 : (((((w4.setCell ⟨w2.heap.size, 0, none⟩ (.int .i64 y)).setCell ⟨w.heap.size, 0, none⟩ (.int .i64 y)).setCell ⟨w.heap.size, 1, none⟩ (.int .i64 r.key)).setCell ⟨w.heap.size, 2, none⟩ (.int .i64 r.version)).setCell ⟨w.heap.size, 3, none⟩ (.slice (some ⟨b, 0, none⟩) 4 4)).cell? ⟨w.heap.size, 3, none⟩ = some (.slice (some ⟨b, 0, none⟩) 4 4) := b9.cells.1 3
    have k9 : Kept g w (((((w4.setCell ⟨w2.heap.size, 0, none⟩ (.int .i64 y)).setCell ⟨w.heap.size, 0, none⟩ (.int .i64 y)).setCell ⟨w.heap.size, 1, none⟩ (.int .i64 r.key)).setCell ⟨w.heap.size, 2, none⟩ (.int .i64 r.version)).setCell ⟨w.heap.size, 3, none⟩ (.slice (some ⟨b, 0, none⟩) 4 4)) := ((((kL9.setN (Nat.le_refl _) _).setN (Nat.le_refl _) _).setN (Nat.le_refl _) _).setN (Nat.le_refl _) _)
    have c9 : Cur w0 (((((w4.setCell ⟨w2.heap.size, 0, none⟩ (.int .i64 y)).setCell ⟨w.heap.size, 0, none⟩ (.int .i64 y)).setCell ⟨w.heap.size, 1, none⟩ (.int .i64 r.key)).setCell ⟨w.heap.size, 2, none⟩ (.int .i64 r.version)).setCell ⟨w.heap.size, 3, none⟩ (.slice (some ⟨b, 0, none⟩) 4 4)) g := ((((cL9.setN hg _).setN hg _).setN hg _).setN hg _)
    have o9 := ((((oL9.setCell (p := ⟨w.heap.size, 0, none⟩) hRb (.int .i64 y)).setCell (p := ⟨w.heap.size, 1, none⟩) hRb (.int .i64 r.key)).setCell (p := ⟨w.heap.size, 2, none⟩) hRb (.int .i64 r.version)).setCell (p := ⟨w.heap.size, 3, none⟩) hRb (.slice (some ⟨b, 0, none⟩) 4 4))
    refine bodyPost_ret (v := .agg #[.int .i64 y, .int .i64 r.key, .int .i64 r.version, .slice (some ⟨b, 0, none⟩) 4 4]) (by simp [results, Tryz.results117, go_sem, r0, r1, r2, r3]) rfl ?_
    exact ⟨_, ⟨y, r.key, r.version, r.fields⟩, [b], rfl, ⟨_, rfl, HI.out, o9⟩, hNF, c9, k9, HL9.out⟩
  · by_cases h1 : x = 1
    · subst h1
      go_wp2_with fail
      refine (spec_l1PickInt w0 _ g _ [0, 99, 100] (by show 1 ≤ 3 ∧ 3 ≤ 256; decide) (hc3.ext ((Ext.refl _).alloc _)) (fun w4 k4 => (lit_kept rfl (by simp [I64]) (by show 3 ≤ maxLen; decide) hg3 k4).sl)).mono ?_
      rintro e w4 ⟨y, rfl, hy, hc4, hk4⟩
      replace hk4 := (Ext.kept (g := g) ((Ext.refl _).alloc _)).trans hk4
      have hg4 := hc4.base.2.2
      have bLn := bL3.kept (Nat.ne_of_gt hgL) hk4
      have bRn := bR3.kept (Nat.ne_of_gt hg) hk4
      have on := o3.kept hgb hk4
      have hkn := hk03.trans hk4
      clear hk4 hg4 hc3 bL3 bR3 hk03 o3
      have bL9 : Blk (w4.setCell ⟨w2.heap.size, 1, none⟩ (.int .i64 y)) w2.heap.size 72 [.int .i64 r.source, .int .i64 y, .int .i64 r.version, .slice (some ⟨b, 0, none⟩) 4 4] := (bLn.setAt 1 (by show 1 < 4; decide) (.int .i64 y))
      have bR9 := (bRn.other (i := 1) (u := .int .i64 y) hnRL)
      have kL9 : Kept g w (w4.setCell ⟨w2.heap.size, 1, none⟩ (.int .i64 y)) := (hkn.setN hwL _)
      have cL9 : Cur w0 (w4.setCell ⟨w2.heap.size, 1, none⟩ (.int .i64 y)) g := (hc4.setN hgL _)
      have oL9 := (on.setCell (p := ⟨w2.heap.size, 1, none⟩) hLb (.int .i64 y))
      have HI := hid (show Record.ok ⟨r.source, y, r.version, r.fields⟩ from ⟨rs, hy, rv⟩)
      have HL9 := hid (show (Record.fields ⟨r.source, y, r.version, r.fields⟩).length ≤ 4 from Nat.le_of_eq HL4.out)
      obtain ⟨cL0, fL0⟩ := bLn.cells
      obtain ⟨cL, fL⟩ := bL9.cells
      obtain ⟨cR, fR⟩ := bR9.cells
      go_wp2
      have b9 : Blk (((((w4.setCell ⟨w2.heap.size, 1, none⟩ (.int .i64 y)).setCell ⟨w.heap.size, 0, none⟩ (.int .i64 r.source)).setCell ⟨w.heap.size, 1, none⟩ (.int .i64 y)).setCell ⟨w.heap.size, 2, none⟩ (.int .i64 r.version)).setCell ⟨w.heap.size, 3, none⟩ (.slice (some ⟨b, 0, none⟩) 4 4)) w.heap.size 72 [.int .i64 r.source, .int .i64 y, .int .i64 r.version, .slice (some ⟨b, 0, none⟩) 4 4] := ((((bR9.setAt 0 (by show 0 < 4; decide) (.int .i64 r.source)).setAt 1 (by show 1 < 4; decide) (.int .i64 y)).setAt 2 (by show 2 < 4; decide) (.int .i64 r.version)).setAt 3 (by show 3 < 4; decide) (.slice (some ⟨b, 0, none⟩) 4 4))
      have r0 : (((((w4.setCell ⟨w2.heap.size, 1, none⟩ (.int .i64 y)).setCell ⟨w.heap.size, 0, none⟩ (.int .i64 r.source)).setCell ⟨w.heap.size, 1, none⟩ (.int .i64 y)).setCell ⟨w.heap.size, 2, none⟩ (.int .i64 r.version)).setCell ⟨w.heap.size, 3, none⟩ (.slice (some ⟨b, 0, none⟩) 4 4)).cell? ⟨w.heap.size, 0, none⟩ = some (.int .i64 r.source) := b9.cells.1 0
      have r1 : (((((w4.setCell ⟨w2.heap.size, 1, none⟩ (.int .i64 y)).setCell ⟨w.heap.size, 0, none⟩ (.int .i64 r.source)).setCell ⟨w.heap.size, 1, none⟩ (.int .i64 y)).setCell ⟨w.heap.size, 2, none⟩ (.int .i64 r.version)).setCell ⟨w.heap.size, 3, none⟩ (.slice (some ⟨b, 0, none⟩) 4 4)).cell? ⟨w.heap.size, 1, none⟩ = some (.int .i64 y) := b9.cells.1 1
      have r2 : (((((w4.setCell ⟨w2.heap.size, 1, none⟩ (.int .i64 y)).setCell ⟨w.heap.size, 0, none⟩ (.int .i64 r.source)).setCell ⟨w.heap.size, 1, none⟩ (.int .i64 y)).setCell ⟨w.heap.size, 2, none⟩ (.int .i64 r.version)).setCell ⟨w.heap.size, 3, none⟩ (.slice (some ⟨b, 0, none⟩) 4 4)).cell? ⟨w.heap.size, 2, none⟩ = some (.int .i64 r.version) := b9.cells.1 2
      have r3 : (((((w4.setCell ⟨w2.heap.size, 1, none⟩ (.int .i64 y)).setCell ⟨w.heap.size, 0, none⟩ (.int .i64 r.source)).setCell ⟨w.heap.size, 1, none⟩ (.int .i64 y)).setCell ⟨w.heap.size, 2, none⟩ (.int .i64 r.version)).setCell ⟨w.heap.size, 3, none⟩ (.slice (some ⟨b, 0, none⟩) 4 4)).cell? ⟨w.heap.size, 3, none⟩ = some (.slice (some ⟨b, 0, none⟩) 4 4) := b9.cells.1 3
      have k9 : Kept g w (((((w4.setCell ⟨w2.heap.size, 1, none⟩ (.int .i64 y)).setCell ⟨w.heap.size, 0, none⟩ (.int .i64 r.source)).setCell ⟨w.heap.size, 1, none⟩ (.int .i64 y)).setCell ⟨w.heap.size, 2, none⟩ (.int .i64 r.version)).setCell ⟨w.heap.size, 3, none⟩ (.slice (some ⟨b, 0, none⟩) 4 4)) := ((((kL9.setN (Nat.le_refl _) _).setN (Nat.le_refl _) _).setN (Nat.le_refl _) _).setN (Nat.le_refl _) _)
      have c9 : Cur w0 (((((w4.setCell ⟨w2.heap.size, 1, none⟩ (.int .i64 y)).setCell ⟨w.heap.size, 0, none⟩ (.int .i64 r.source)).setCell ⟨w.heap.size, 1, none⟩ (.int .i64 y)).setCell ⟨w.heap.size, 2, none⟩ (.int .i64 r.version)).setCell ⟨w.heap.size, 3, none⟩ (.slice (some ⟨b, 0, none⟩) 4 4)) g := ((((cL9.setN hg _).setN hg _).setN hg _).setN hg _)
      have o9 := ((((oL9.setCell (p := ⟨w.heap.size, 0, none⟩) hRb (.int .i64 r.source)).setCell (p := ⟨w.heap.size, 1, none⟩) hRb (.int .i64 y)).setCell (p := ⟨w.heap.size, 2, none⟩) hRb (.int .i64 r.version)).setCell (p := ⟨w.heap.size, 3, none⟩) hRb (.slice (some ⟨b, 0, none⟩) 4 4))
      refine bodyPost_ret (v := .agg #[.int .i64 r.source, .int .i64 y, .int .i64 r.version, .slice (some ⟨b, 0, none⟩) 4 4]) (by simp [results, Tryz.results117, go_sem, r0, r1, r2, r3]) rfl ?_
      exact ⟨_, ⟨r.source, y, r.version, r.fields⟩, [b], rfl, ⟨_, rfl, HI.out, o9⟩, hNF, c9, k9, HL9.out⟩
    · by_cases h2 : x = 2
      · subst h2
        go_wp2_with fail
        refine (spec_l1PickInt w0 _ g _ [0, 999, 1000] (by show 1 ≤ 3 ∧ 3 ≤ 256; decide) (hc3.ext ((Ext.refl _).alloc _)) (fun w4 k4 => (lit_kept rfl (by simp [I64]) (by show 3 ≤ maxLen; decide) hg3 k4).sl)).mono ?_
        rintro e w4 ⟨y, rfl, hy, hc4, hk4⟩
        replace hk4 := (Ext.kept (g := g) ((Ext.refl _).alloc _)).trans hk4
        have hg4 := hc4.base.2.2
        have bLn := bL3.kept (Nat.ne_of_gt hgL) hk4
        have bRn := bR3.kept (Nat.ne_of_gt hg) hk4
        have on := o3.kept hgb hk4
        have hkn := hk03.trans hk4
        clear hk4 hg4 hc3 bL3 bR3 hk03 o3
        have bL9 : Blk (w4.setCell ⟨w2.heap.size, 2, none⟩ (.int .i64 y)) w2.heap.size 72 [.int .i64 r.source, .int .i64 r.key, .int .i64 y, .slice (some ⟨b, 0, none⟩) 4 4] := (bLn.setAt 2 (by show 2 < 4; decide) (.int .i64 y))
        have bR9 := (bRn.other (i := 2) (u := .int .i64 y) hnRL)
        have kL9 : Kept g w (w4.setCell ⟨w2.heap.size, 2, none⟩ (.int .i64 y)) := (hkn.setN hwL _)
        have cL9 : Cur w0 (w4.setCell ⟨w2.heap.size, 2, none⟩ (.int .i64 y)) g := (hc4.setN hgL _)
        have oL9 := (on.setCell (p := ⟨w2.heap.size, 2, none⟩) hLb (.int .i64 y))
        have HI := hid (show Record.ok ⟨r.source, r.key, y, r.fields⟩ from ⟨rs, rk, hy⟩)
        have HL9 := hid (show (Record.fields ⟨r.source, r.key, y, r.fields⟩).length ≤ 4 from Nat.le_of_eq HL4.out)
        obtain ⟨cL0, fL0⟩ := bLn.cells
        obtain ⟨cL, fL⟩ := bL9.cells
        obtain ⟨cR, fR⟩ := bR9.cells
        go_wp2
        have b9 : Blk (((((w4.setCell ⟨w2.heap.size, 2, none⟩ (.int .i64 y)).setCell ⟨w.heap.size, 0, none⟩ (.int .i64 r.source)).setCell ⟨w.heap.size, 1, none⟩ (.int .i64 r.key)).setCell ⟨w.heap.size, 2, none⟩ (.int .i64 y)).setCell ⟨w.heap.size, 3, none⟩ (.slice (some ⟨b, 0, none⟩) 4 4)) w.heap.size 72 [.int .i64 r.source, .int .i64 r.key, .int .i64 y, .slice (some ⟨b, 0, none⟩) 4 4] := ((((bR9.setAt 0 (by show 0 < 4; decide) (.int .i64 r.source)).setAt 1 (by show 1 < 4; decide) (.int .i64 r.key)).setAt 2 (by show 2 < 4; decide) (.int .i64 y)).setAt 3 (by show 3 < 4; decide) (.slice (some ⟨b, 0, none⟩) 4 4))
        have r0 : (((((w4.setCell ⟨w2.heap.size, 2, none⟩ (.int .i64 y)).setCell ⟨w.heap.size, 0, none⟩ (.int .i64 r.source)).setCell ⟨w.heap.size, 1, none⟩ (.int .i64 r.key)).setCell ⟨w.heap.size, 2, none⟩ (.int .i64 y)).setCell ⟨w.heap.size, 3, none⟩ (.slice (some ⟨b, 0, none⟩) 4 4)).cell? ⟨w.heap.size, 0, none⟩ = some (.int .i64 r.source) := b9.cells.1 0
        have r1 : (((((w4.setCell ⟨w2.heap.size, 2, none⟩ (.int .i64 y)).setCell ⟨w.heap.size, 0, none⟩ (.int .i64 r.source)).setCell ⟨w.heap.size, 1, none⟩ (.int .i64 r.key)).setCell ⟨w.heap.size, 2, none⟩ (.int .i64 y)).setCell ⟨w.heap.size, 3, none⟩ (.slice (some ⟨b, 0, none⟩) 4 4)).cell? ⟨w.heap.size, 1, none⟩ = some (.int .i64 r.key) := b9.cells.1 1
        have r2 : (((((w4.setCell ⟨w2.heap.size, 2, none⟩ (.int .i64 y)).setCell ⟨w.heap.size, 0, none⟩ (.int .i64 r.source)).setCell ⟨w.heap.size, 1, none⟩ (.int .i64 r.key)).setCell ⟨w.heap.size, 2, none⟩ (.int .i64 y)).setCell ⟨w.heap.size, 3, none⟩ (.slice (some ⟨b, 0, none⟩) 4 4)).cell? ⟨w.heap.size, 2, none⟩ = some (.int .i64 y) := b9.cells.1 2
        have r3 : (((((w4.setCell ⟨w2.heap.size, 2, none⟩ (.int .i64 y)).setCell ⟨w.heap.size, 0, none⟩ (.int .i64 r.source)).setCell ⟨w.heap.size, 1, none⟩ (.int .i64 r.key)).setCell ⟨w.heap.size, 2, none⟩ (.int .i64 y)).setCell ⟨w.heap.size, 3, none⟩ (.slice (some ⟨b, 0, none⟩) 4 4)).cell? ⟨w.heap.size, 3, none⟩ = some (.slice (some ⟨b, 0, none⟩) 4 4) := b9.cells.1 3
        have k9 : Kept g w (((((w4.setCell ⟨w2.heap.size, 2, none⟩ (.int .i64 y)).setCell ⟨w.heap.size, 0, none⟩ (.int .i64 r.source)).setCell ⟨w.heap.size, 1, none⟩ (.int .i64 r.key)).setCell ⟨w.heap.size, 2, none⟩ (.int .i64 y)).setCell ⟨w.heap.size, 3, none⟩ (.slice (some ⟨b, 0, none⟩) 4 4)) := ((((kL9.setN (Nat.le_refl _) _).setN (Nat.le_refl _) _).setN (Nat.le_refl _) _).setN (Nat.le_refl _) _)
        have c9 : Cur w0 (((((w4.setCell ⟨w2.heap.size, 2, none⟩ (.int .i64 y)).setCell ⟨w.heap.size, 0, none⟩ (.int .i64 r.source)).setCell ⟨w.heap.size, 1, none⟩ (.int .i64 r.key)).setCell ⟨w.heap.size, 2, none⟩ (.int .i64 y)).setCell ⟨w.heap.size, 3, none⟩ (.slice (some ⟨b, 0, none⟩) 4 4)) g := ((((cL9.setN hg _).setN hg _).setN hg _).setN hg _)
        have o9 := ((((oL9.setCell (p := ⟨w.heap.size, 0, none⟩) hRb (.int .i64 r.source)).setCell (p := ⟨w.heap.size, 1, none⟩) hRb (.int .i64 r.key)).setCell (p := ⟨w.heap.size, 2, none⟩) hRb (.int .i64 y)).setCell (p := ⟨w.heap.size, 3, none⟩) hRb (.slice (some ⟨b, 0, none⟩) 4 4))
        refine bodyPost_ret (v := .agg #[.int .i64 r.source, .int .i64 r.key, .int .i64 y, .slice (some ⟨b, 0, none⟩) 4 4]) (by simp [results, Tryz.results117, go_sem, r0, r1, r2, r3]) rfl ?_
        exact ⟨_, ⟨r.source, r.key, y, r.fields⟩, [b], rfl, ⟨_, rfl, HI.out, o9⟩, hNF, c9, k9, HL9.out⟩
      · by_cases h3 : x = 3
        · subst h3
          obtain ⟨f0, fs, hfs⟩ : ∃ f0 fs, r.fields = f0 :: fs := by
            cases hf : r.fields with
            | nil => rw [hf] at rl; simp at rl
            | cons a l => exact ⟨a, l, rfl⟩
          rw [hfs] at o3
          have o3t := o3.str_tail
          have bL9 : Blk (w3.setCell ⟨w2.heap.size, 3, none⟩ (.slice (some ⟨b, 1, none⟩) 3 3)) w2.heap.size 72 [.int .i64 r.source, .int .i64 r.key, .int .i64 r.version, .slice (some ⟨b, 1, none⟩) 3 3] := (bL3.setAt 3 (by show 3 < 4; decide) (.slice (some ⟨b, 1, none⟩) 3 3))
          have bR9 := (bR3.other (i := 3) (u := .slice (some ⟨b, 1, none⟩) 3 3) hnRL)
          have kL9 : Kept g w (w3.setCell ⟨w2.heap.size, 3, none⟩ (.slice (some ⟨b, 1, none⟩) 3 3)) := (hk03.setN hwL _)
          have cL9 : Cur w0 (w3.setCell ⟨w2.heap.size, 3, none⟩ (.slice (some ⟨b, 1, none⟩) 3 3)) g := (hc3.setN hgL _)
          have oL9 := (o3t.setCell (p := ⟨w2.heap.size, 3, none⟩) hLb (.slice (some ⟨b, 1, none⟩) 3 3))
          have HI := hid (show Record.ok ⟨r.source, r.key, r.version, fs⟩ from ⟨rs, rk, rv⟩)
          have HL9 := hid (show (Record.fields ⟨r.source, r.key, r.version, fs⟩).length ≤ 4 from (by have h9 := HL4.out; rw [hfs] at h9; simp only [List.length_cons] at h9; show fs.length ≤ 4; omega))
          obtain ⟨cL0, fL0⟩ := bL3.cells
          obtain ⟨cL, fL⟩ := bL9.cells
          obtain ⟨cR, fR⟩ := bR9.cells
          go_wp2
          have b9 : Blk (((((w3.setCell ⟨w2.heap.size, 3, none⟩ (.slice (some ⟨b, 1, none⟩) 3 3)).setCell ⟨w.heap.size, 0, none⟩ (.int .i64 r.source)).setCell ⟨w.heap.size, 1, none⟩ (.int .i64 r.key)).setCell ⟨w.heap.size, 2, none⟩ (.int .i64 r.version)).setCell ⟨w.heap.size, 3, none⟩ (.slice (some ⟨b, 1, none⟩) 3 3)) w.heap.size 72 [.int .i64 r.source, .int .i64 r.key, .int .i64 r.version, .slice (some ⟨b, 1, none⟩) 3 3] := ((((bR9.setAt 0 (by show 0 < 4; decide) (.int .i64 r.source)).setAt 1 (by show 1 < 4; decide) (.int .i64 r.key)).setAt 2 (by show 2 < 4; decide) (.int .i64 r.version)).setAt 3 (by show 3 < 4; decide) (.slice (some ⟨b, 1, none⟩) 3 3))
          have r0 : (((((w3.setCell ⟨w2.heap.size, 3, none⟩ (.slice (some ⟨b, 1, none⟩) 3 3)).setCell ⟨w.heap.size, 0, none⟩ (.int .i64 r.source)).setCell ⟨w.heap.size, 1, none⟩ (.int .i64 r.key)).setCell ⟨w.heap.size, 2, none⟩ (.int .i64 r.version)).setCell ⟨w.heap.size, 3, none⟩ (.slice (some ⟨b, 1, none⟩) 3 3)).cell? ⟨w.heap.size, 0, none⟩ = some (.int .i64 r.source) := b9.cells.1 0
          have r1 : (((((w3.setCell ⟨w2.heap.size, 3, none⟩ (.slice (some ⟨b, 1, none⟩) 3 3)).setCell ⟨w.heap.size, 0, none⟩ (.int .i64 r.source)).setCell ⟨w.heap.size, 1, none⟩ (.int .i64 r.key)).setCell ⟨w.heap.size, 2, none⟩ (.int .i64 r.version)).setCell ⟨w.heap.size, 3, none⟩ (.slice (some ⟨b, 1, none⟩) 3 3)).cell? ⟨w.heap.size, 1, none⟩ = some (.int .i64 r.key) := b9.cells.1 1
          have r2 : (((((w3.setCell ⟨w2.heap.size, 3, none⟩ (.slice (some ⟨b, 1, none⟩) 3 3)).setCell ⟨w.heap.size, 0, none⟩ (.int .i64 r.source)).setCell ⟨w.heap.size, 1, none⟩ (.int .i64 r.key)).setCell ⟨w.heap.size, 2, none⟩ (.int .i64 r.version)).setCell ⟨w.heap.size, 3, none⟩ (.slice (some ⟨b, 1, none⟩) 3 3)).cell? ⟨w.heap.size, 2, none⟩ = some (.int .i64 r.version) := b9.cells.1 2
          have r3 : (((((w3.setCell ⟨w2.heap.size, 3, none⟩ (.slice (some ⟨b, 1, none⟩) 3 3)).setCell ⟨w.heap.size, 0, none⟩ (.int .i64 r.source)).setCell ⟨w.heap.size, 1, none⟩ (.int .i64 r.key)).setCell ⟨w.heap.size, 2, none⟩ (.int .i64 r.version)).setCell ⟨w.heap.size, 3, none⟩ (.slice (some ⟨b, 1, none⟩) 3 3)).cell? ⟨w.heap.size, 3, none⟩ = some (.slice (some ⟨b, 1, none⟩) 3 3) := b9.cells.1 3
          have k9 : Kept g w (((((w3.setCell ⟨w2.heap.size, 3, none⟩ (.slice (some ⟨b, 1, none⟩) 3 3)).setCell ⟨w.heap.size, 0, none⟩ (.int .i64 r.source)).setCell ⟨w.heap.size, 1, none⟩ (.int .i64 r.key)).setCell ⟨w.heap.size, 2, none⟩ (.int .i64 r.version)).setCell ⟨w.heap.size, 3, none⟩ (.slice (some ⟨b, 1, none⟩) 3 3)) := ((((kL9.setN (Nat.le_refl _) _).setN (Nat.le_refl _) _).setN (Nat.le_refl _) _).setN (Nat.le_refl _) _)
          have c9 : Cur w0 (((((w3.setCell ⟨w2.heap.size, 3, none⟩ (.slice (some ⟨b, 1, none⟩) 3 3)).setCell ⟨w.heap.size, 0, none⟩ (.int .i64 r.source)).setCell ⟨w.heap.size, 1, none⟩ (.int .i64 r.key)).setCell ⟨w.heap.size, 2, none⟩ (.int .i64 r.version)).setCell ⟨w.heap.size, 3, none⟩ (.slice (some ⟨b, 1, none⟩) 3 3)) g := ((((cL9.setN hg _).setN hg _).setN hg _).setN hg _)
          have o9 := ((((oL9.setCell (p := ⟨w.heap.size, 0, none⟩) hRb (.int .i64 r.source)).setCell (p := ⟨w.heap.size, 1, none⟩) hRb (.int .i64 r.key)).setCell (p := ⟨w.heap.size, 2, none⟩) hRb (.int .i64 r.version)).setCell (p := ⟨w.heap.size, 3, none⟩) hRb (.slice (some ⟨b, 1, none⟩) 3 3))
          refine bodyPost_ret (v := .agg #[.int .i64 r.source, .int .i64 r.key, .int .i64 r.version, .slice (some ⟨b, 1, none⟩) 3 3]) (by simp [results, Tryz.results117, go_sem, r0, r1, r2, r3]) rfl ?_
          exact ⟨_, ⟨r.source, r.key, r.version, fs⟩, [b], rfl, ⟨_, rfl, HI.out, o9⟩, hNF, c9, k9, HL9.out⟩
        · by_cases h4 : x = 4
          · subst h4
            have hlt0 : 0 < r.fields.length := by omega
            obtain ⟨gb, offb, capb, eb, hgb9, hcb, hfb, hst⟩ := o3.str_store (by simp) hlt0
            injection eb with eb en9 ec9
            clear en9 ec9
            injection eb with eb
            injection eb with eb1 eb2 _
            subst eb1; subst eb2
            rw [Nat.add_zero] at hcb hfb hst
            obtain ⟨s0, hs0⟩ : ∃ s, s = r.fields[0] := ⟨_, rfl⟩
            rw [← hs0] at hcb
            clear hs0
            have hbw : w.heap.size ≤ b := by have := hNF.2 b (by simp); omega
            have hbr : ¬ w.heap.size = b := fun e => hRb (by rw [e]; simp)
            have hgb2 : g < b := by omega
            have hbl : ¬ w2.heap.size = b := fun e => hLb (by rw [e]; simp)
            have HK := hid (show ∀ W, Kept g w3 W → W.cell? ⟨w2.heap.size, 3, none⟩ = some (.slice (some ⟨b, 0, none⟩) 4 4) from fun W k => (bL3.kept (Nat.ne_of_gt hgL) k).cells.1 3)
            have HK2 := hid (show ∀ W u, Kept g w3 W → (W.setCell ⟨b, 0, none⟩ u).cell? ⟨w2.heap.size, 3, none⟩ = some (.slice (some ⟨b, 0, none⟩) 4 4) from fun W u k => ((bL3.kept (Nat.ne_of_gt hgL) k).other hbl).cells.1 3)
            have HKB := hid (show ∀ W, Kept g w3 W → W.cell? ⟨b, 0, none⟩ = some (.string s0) ∧ W.frozen? ⟨b, 0, none⟩ = false from fun W k => by
              have e := k.2 b (o3.lt b (List.mem_singleton.2 rfl)) (fun e => hgb (by rw [e]; exact List.mem_singleton.2 rfl))
              refine ⟨?_, ?_⟩
              · rw [← hcb]; unfold World.cell?; rw [e]
              · rw [← hfb]; unfold World.frozen?; rw [e])
            have hkl : ∀ W, Kept g (w3.alloc (.cells #[.string ⟨#[97, 124, 98]⟩, .string ⟨#[97, 59, 98]⟩, .string ⟨#[10]⟩, .string ⟨#[]⟩] 9)) W → Sl strR W (.slice (some ⟨w3.heap.size, 0, none⟩) 4 4) [⟨#[97, 124, 98]⟩, ⟨#[97, 59, 98]⟩, ⟨#[10]⟩, ⟨#[]⟩] := fun W k => (lits_kept (xs := [⟨#[97, 124, 98]⟩, ⟨#[97, 59, 98]⟩, ⟨#[10]⟩, ⟨#[]⟩]) rfl (by decide) (by decide) hg3 k).sl
            have HRL := hid rl
            clear hcb hfb hst rl hlt0
            go_wp2_with fail
            go_region_held3 (fun w' => w'.cell? ⟨w2.heap.size, 3, none⟩ = some (.slice (some ⟨b, 0, none⟩) 4 4)) (first | (refine HK.out _ ?_; ((repeat (first | with_reducible exact Kept.refl _ _ | with_reducible assumption | with_reducible refine Kept.drew ?_ | with_reducible refine Kept.alloc ?_ _ | with_reducible refine Kept.trans ?_ (by with_reducible assumption))); done)) | (refine HK2.out _ _ ?_; ((repeat (first | with_reducible exact Kept.refl _ _ | with_reducible assumption | with_reducible refine Kept.drew ?_ | with_reducible refine Kept.alloc ?_ _ | with_reducible refine Kept.trans ?_ (by with_reducible assumption))); done))) (first | (go_at_call 126; refine (spec_l1Pick w0 _ g _ [⟨#[97, 124, 98]⟩, ⟨#[97, 59, 98]⟩, ⟨#[10]⟩, ⟨#[]⟩] (by decide) (by decide) ?hcur (fun W k => hkl W (Kept.trans (by repeat (first | with_reducible exact Kept.refl _ _ | with_reducible assumption | with_reducible refine Kept.drew ?_ | with_reducible refine Kept.alloc ?_ _ | with_reducible refine Kept.trans ?_ (by with_reducible assumption))) k))).mono ?_; (case hcur => exact (by repeat (first | with_reducible assumption | with_reducible refine Cur.drew ?_ | with_reducible refine Cur.alloc ?_ _))); rintro e w4 ⟨y, rfl, hy, hc4, hk4⟩; have hk34 : Kept g w3 w4 := (by repeat (first | with_reducible exact Kept.refl _ _ | with_reducible assumption | with_reducible refine Kept.drew ?_ | with_reducible refine Kept.alloc ?_ _ | with_reducible refine Kept.trans ?_ (by with_reducible assumption))); obtain ⟨cb4, fb4⟩ := HKB.out w4 hk34))
            have o4 := o3.kept hgb hk34
            have bL4 := (bL3.kept (Nat.ne_of_gt hgL) hk34).other (i := 0) (u := .string y) hbl
            have bR4 := (bR3.kept (Nat.ne_of_gt hg) hk34).other (i := 0) (u := .string y) hbr
            have kW : Kept g w (w4.setCell ⟨b, 0, none⟩ (.string y)) := (hk03.trans hk34).setN hbw _
            have cW : Cur w0 (w4.setCell ⟨b, 0, none⟩ (.string y)) g := hc4.setN hgb2 _
            obtain ⟨gb, offb, capb, eb, hgb9, hcb, hfb, hst⟩ := o4.str_store (by simp) (i := 0) (by have := HRL.out; omega)
            injection eb with eb en9 ec9
            clear en9 ec9
            injection eb with eb
            injection eb with eb1 eb2 _
            subst eb1; subst eb2
            rw [Nat.add_zero] at hcb hfb hst
            have oW := hst y (Nat.le_trans hy (by decide))
            clear hcb hfb hst o4 o3 bL3 bR3 hk03 hk34 hc4 hc3 cb4 fb4
            obtain ⟨cL, fL⟩ := bL4.cells
            have HL9 := hid (show (Record.fields ⟨r.source, r.key, r.version, r.fields.set 0 y⟩).length ≤ 4 from (by show (r.fields.set 0 y).length ≤ 4; rw [List.length_set]; exact Nat.le_of_eq HL4.out))
            obtain ⟨cR, fR⟩ := bR4.cells
            go_wp2
            have b9 : Blk (((((w4.setCell ⟨b, 0, none⟩ (.string y)).setCell ⟨w.heap.size, 0, none⟩ (.int .i64 r.source)).setCell ⟨w.heap.size, 1, none⟩ (.int .i64 r.key)).setCell ⟨w.heap.size, 2, none⟩ (.int .i64 r.version)).setCell ⟨w.heap.size, 3, none⟩ (.slice (some ⟨b, 0, none⟩) 4 4)) w.heap.size 72 [.int .i64 r.source, .int .i64 r.key, .int .i64 r.version, .slice (some ⟨b, 0, none⟩) 4 4] := ((((bR4.setAt 0 (by show 0 < 4; decide) (.int .i64 r.source)).setAt 1 (by show 1 < 4; decide) (.int .i64 r.key)).setAt 2 (by show 2 < 4; decide) (.int .i64 r.version)).setAt 3 (by show 3 < 4; decide) (.slice (some ⟨b, 0, none⟩) 4 4))
            have r0 : (((((w4.setCell ⟨b, 0, none⟩ (.string y)).setCell ⟨w.heap.size, 0, none⟩ (.int .i64 r.source)).setCell ⟨w.heap.size, 1, none⟩ (.int .i64 r.key)).setCell ⟨w.heap.size, 2, none⟩ (.int .i64 r.version)).setCell ⟨w.heap.size, 3, none⟩ (.slice (some ⟨b, 0, none⟩) 4 4)).cell? ⟨w.heap.size, 0, none⟩ = some (.int .i64 r.source) := b9.cells.1 0
            have r1 : (((((w4.setCell ⟨b, 0, none⟩ (.string y)).setCell ⟨w.heap.size, 0, none⟩ (.int .i64 r.source)).setCell ⟨w.heap.size, 1, none⟩ (.int .i64 r.key)).setCell ⟨w.heap.size, 2, none⟩ (.int .i64 r.version)).setCell ⟨w.heap.size, 3, none⟩ (.slice (some ⟨b, 0, none⟩) 4 4)).cell? ⟨w.heap.size, 1, none⟩ = some (.int .i64 r.key) := b9.cells.1 1
            have r2 : (((((w4.setCell ⟨b, 0, none⟩ (.string y)).setCell ⟨w.heap.size, 0, none⟩ (.int .i64 r.source)).setCell ⟨w.heap.size, 1, none⟩ (.int .i64 r.key)).setCell ⟨w.heap.size, 2, none⟩ (.int .i64 r.version)).setCell ⟨w.heap.size, 3, none⟩ (.slice (some ⟨b, 0, none⟩) 4 4)).cell? ⟨w.heap.size, 2, none⟩ = some (.int .i64 r.version) := b9.cells.1 2
            have r3 : (((((w4.setCell ⟨b, 0, none⟩ (.string y)).setCell ⟨w.heap.size, 0, none⟩ (.int .i64 r.source)).setCell ⟨w.heap.size, 1, none⟩ (.int .i64 r.key)).setCell ⟨w.heap.size, 2, none⟩ (.int .i64 r.version)).setCell ⟨w.heap.size, 3, none⟩ (.slice (some ⟨b, 0, none⟩) 4 4)).cell? ⟨w.heap.size, 3, none⟩ = some (.slice (some ⟨b, 0, none⟩) 4 4) := b9.cells.1 3
            have k9 : Kept g w (((((w4.setCell ⟨b, 0, none⟩ (.string y)).setCell ⟨w.heap.size, 0, none⟩ (.int .i64 r.source)).setCell ⟨w.heap.size, 1, none⟩ (.int .i64 r.key)).setCell ⟨w.heap.size, 2, none⟩ (.int .i64 r.version)).setCell ⟨w.heap.size, 3, none⟩ (.slice (some ⟨b, 0, none⟩) 4 4)) := ((((kW.setN (Nat.le_refl _) _).setN (Nat.le_refl _) _).setN (Nat.le_refl _) _).setN (Nat.le_refl _) _)
            have c9 : Cur w0 (((((w4.setCell ⟨b, 0, none⟩ (.string y)).setCell ⟨w.heap.size, 0, none⟩ (.int .i64 r.source)).setCell ⟨w.heap.size, 1, none⟩ (.int .i64 r.key)).setCell ⟨w.heap.size, 2, none⟩ (.int .i64 r.version)).setCell ⟨w.heap.size, 3, none⟩ (.slice (some ⟨b, 0, none⟩) 4 4)) g := ((((cW.setN hg _).setN hg _).setN hg _).setN hg _)
            have o9 := ((((oW.setCell (p := ⟨w.heap.size, 0, none⟩) hRb (.int .i64 r.source)).setCell (p := ⟨w.heap.size, 1, none⟩) hRb (.int .i64 r.key)).setCell (p := ⟨w.heap.size, 2, none⟩) hRb (.int .i64 r.version)).setCell (p := ⟨w.heap.size, 3, none⟩) hRb (.slice (some ⟨b, 0, none⟩) 4 4))
            refine bodyPost_ret (v := .agg #[.int .i64 r.source, .int .i64 r.key, .int .i64 r.version, .slice (some ⟨b, 0, none⟩) 4 4]) (by simp [results, Tryz.results117, go_sem, r0, r1, r2, r3]) rfl ?_
            exact ⟨_, ⟨r.source, r.key, r.version, r.fields.set 0 y⟩, [b], rfl, ⟨_, rfl, ⟨rs, rk, rv⟩, o9⟩, hNF, c9, k9, HL9.out⟩
          · obtain ⟨cL, fL⟩ := bL3.cells
            have HL9 := hid (show (Record.fields r).length ≤ 4 from Nat.le_of_eq HL4.out)
            obtain ⟨cR, fR⟩ := bR3.cells
            go_wp2
            have b9 : Blk ((((w3.setCell ⟨w.heap.size, 0, none⟩ (.int .i64 r.source)).setCell ⟨w.heap.size, 1, none⟩ (.int .i64 r.key)).setCell ⟨w.heap.size, 2, none⟩ (.int .i64 r.version)).setCell ⟨w.heap.size, 3, none⟩ (.slice (some ⟨b, 0, none⟩) 4 4)) w.heap.size 72 [.int .i64 r.source, .int .i64 r.key, .int .i64 r.version, .slice (some ⟨b, 0, none⟩) 4 4] := ((((bR3.setAt 0 (by show 0 < 4; decide) (.int .i64 r.source)).setAt 1 (by show 1 < 4; decide) (.int .i64 r.key)).setAt 2 (by show 2 < 4; decide) (.int .i64 r.version)).setAt 3 (by show 3 < 4; decide) (.slice (some ⟨b, 0, none⟩) 4 4))
            have r0 : ((((w3.setCell ⟨w.heap.size, 0, none⟩ (.int .i64 r.source)).setCell ⟨w.heap.size, 1, none⟩ (.int .i64 r.key)).setCell ⟨w.heap.size, 2, none⟩ (.int .i64 r.version)).setCell ⟨w.heap.size, 3, none⟩ (.slice (some ⟨b, 0, none⟩) 4 4)).cell? ⟨w.heap.size, 0, none⟩ = some (.int .i64 r.source) := b9.cells.1 0
            have r1 : ((((w3.setCell ⟨w.heap.size, 0, none⟩ (.int .i64 r.source)).setCell ⟨w.heap.size, 1, none⟩ (.int .i64 r.key)).setCell ⟨w.heap.size, 2, none⟩ (.int .i64 r.version)).setCell ⟨w.heap.size, 3, none⟩ (.slice (some ⟨b, 0, none⟩) 4 4)).cell? ⟨w.heap.size, 1, none⟩ = some (.int .i64 r.key) := b9.cells.1 1
            have r2 : ((((w3.setCell ⟨w.heap.size, 0, none⟩ (.int .i64 r.source)).setCell ⟨w.heap.size, 1, none⟩ (.int .i64 r.key)).setCell ⟨w.heap.size, 2, none⟩ (.int .i64 r.version)).setCell ⟨w.heap.size, 3, none⟩ (.slice (some ⟨b, 0, none⟩) 4 4)).cell? ⟨w.heap.size, 2, none⟩ = some (.int .i64 r.version) := b9.cells.1 2
            have r3 : ((((w3.setCell ⟨w.heap.size, 0, none⟩ (.int .i64 r.source)).setCell ⟨w.heap.size, 1, none⟩ (.int .i64 r.key)).setCell ⟨w.heap.size, 2, none⟩ (.int .i64 r.version)).setCell ⟨w.heap.size, 3, none⟩ (.slice (some ⟨b, 0, none⟩) 4 4)).cell? ⟨w.heap.size, 3, none⟩ = some (.slice (some ⟨b, 0, none⟩) 4 4) := b9.cells.1 3
            have k9 : Kept g w ((((w3.setCell ⟨w.heap.size, 0, none⟩ (.int .i64 r.source)).setCell ⟨w.heap.size, 1, none⟩ (.int .i64 r.key)).setCell ⟨w.heap.size, 2, none⟩ (.int .i64 r.version)).setCell ⟨w.heap.size, 3, none⟩ (.slice (some ⟨b, 0, none⟩) 4 4)) := ((((hk03.setN (Nat.le_refl _) _).setN (Nat.le_refl _) _).setN (Nat.le_refl _) _).setN (Nat.le_refl _) _)
            have c9 : Cur w0 ((((w3.setCell ⟨w.heap.size, 0, none⟩ (.int .i64 r.source)).setCell ⟨w.heap.size, 1, none⟩ (.int .i64 r.key)).setCell ⟨w.heap.size, 2, none⟩ (.int .i64 r.version)).setCell ⟨w.heap.size, 3, none⟩ (.slice (some ⟨b, 0, none⟩) 4 4)) g := ((((hc3.setN hg _).setN hg _).setN hg _).setN hg _)
            have o9 := ((((o3.setCell (p := ⟨w.heap.size, 0, none⟩) hRb (.int .i64 r.source)).setCell (p := ⟨w.heap.size, 1, none⟩) hRb (.int .i64 r.key)).setCell (p := ⟨w.heap.size, 2, none⟩) hRb (.int .i64 r.version)).setCell (p := ⟨w.heap.size, 3, none⟩) hRb (.slice (some ⟨b, 0, none⟩) 4 4))
            refine bodyPost_ret (v := .agg #[.int .i64 r.source, .int .i64 r.key, .int .i64 r.version, .slice (some ⟨b, 0, none⟩) 4 4]) (by simp [results, Tryz.results117, go_sem, r0, r1, r2, r3]) rfl ?_
            exact ⟨_, r, [b], rfl, ⟨_, rfl, rok, o9⟩, hNF, c9, k9, HL9.out⟩

end Go.Proofs.YtfcbapaojoecgaaGreat

namespace Go.Proofs.YtfcbapaojoecgaaGreat
open Go.RowKit

set_option maxHeartbeats 8000000 in
set_option maxRecDepth 100000 in
theorem spec_ApplyBatch2 (v u : Value) (s : Store) (b : Batch) (w : World) (h : StoAt w v s) (k : BatAt w u b) (hms : SzR s.records) (hmv : s.verdicts.length ≤ 1048576) :
    Calls Tryz.prog 8 #[v, u] w (AppOut w · · (appB s b)) := by
  obtain ⟨r, d, rfl, hI, hr, hd⟩ := h
  obtain ⟨o, rfl, _, ho⟩ := k
  obtain ⟨Ao, co, rfl, _⟩ := ho.form
  have xw : Ext w (((w.alloc (.cells #[.int .i64 s.version, r, d] 34)).alloc (.cells #[.slice Ao b.ops.length co] 40)).alloc (.cells #[.int .i64 0, .slice none 0 0, .slice none 0 0] 34)) := (((Ext.refl w).alloc _).alloc _).alloc _
  have bZ := Blk.new ((w.alloc (.cells #[.int .i64 s.version, r, d] 34)).alloc (.cells #[.slice Ao b.ops.length co] 40)) 34 #[.int .i64 0, .slice none 0 0, .slice none 0 0]
  have bB := (Blk.new (w.alloc (.cells #[.int .i64 s.version, r, d] 34)) 40 #[.slice Ao b.ops.length co]).ext ((Ext.refl _).alloc (.cells #[.int .i64 0, .slice none 0 0, .slice none 0 0] 34))
  have bS := (Blk.new w 34 #[.int .i64 s.version, r, d]).ext (((Ext.refl _).alloc (.cells #[.slice Ao b.ops.length co] 40)).alloc (.cells #[.int .i64 0, .slice none 0 0, .slice none 0 0] 34))
  obtain ⟨W3, hW3⟩ : ∃ W3, W3 = ((w.alloc (.cells #[.int .i64 s.version, r, d] 34)).alloc (.cells #[.slice Ao b.ops.length co] 40)).alloc (.cells #[.int .i64 0, .slice none 0 0, .slice none 0 0] 34) := ⟨_, rfl⟩
  have hsz : W3.heap.size = w.heap.size + 1 + 1 + 1 := by rw [hW3]; simp
  simp only [World.size_alloc] at bZ bB
  rw [← hW3] at bZ bB bS xw
  have HBX := hid (show ∀ W, Ext W3 W → (W.cell? ⟨w.heap.size, 0, none⟩ = some (.int .i64 s.version) ∧ W.cell? ⟨w.heap.size, 1, none⟩ = some r ∧ W.cell? ⟨w.heap.size, 2, none⟩ = some d) ∧ W.cell? ⟨w.heap.size + 1, 0, none⟩ = some (.slice Ao b.ops.length co) from fun W y => ⟨⟨(bS.ext y).cells.1 0, (bS.ext y).cells.1 1, (bS.ext y).cells.1 2⟩, (bB.ext y).cells.1 0⟩)
  have HZ := hid (show ∀ W, Ext W3 W → Blk W (w.heap.size + 1 + 1) 34 [.int .i64 0, .slice none 0 0, .slice none 0 0] from fun W y => bZ.ext y)
  have HAT := hid (show ∀ W, Ext W3 W → StoAt W (.agg #[.int .i64 s.version, r, d]) s from fun W y => ⟨_, _, rfl, hI, (hr.mono xw).mono y, (hd.mono xw).mono y⟩)
  have HOPS := hid (show ∀ W, Ext W3 W → Sl opR W (.slice Ao b.ops.length co) b.ops from fun W y => (ho.mono xw).mono y)
  have HS := hid hsz
  have HX := hid xw
  have HI := hid hI
  clear bZ bB bS xw hsz hr hd ho hI
  go_enter Tryz.func8, Tryz.ntmps8
  go_wp2_with fail
  rw [← hW3]
  clear hW3
  refine (spec_l30Copy2 _ s _ (HAT.out _ (Ext.refl _)) hms hmv).mono ?_
  rintro e wc ⟨rv, vv, F, rfl, R, _, xc⟩
  obtain ⟨Ar, cr, er0, _⟩ := R.r.sl.form
  subst er0
  obtain ⟨Av, cv, ev0, _⟩ := R.v.sl.form
  subst ev0
  have hS0 := Sx.new (ver := s.version) R xc.size
  have xs0 : Ext W3 (wc.alloc (.cells #[.int .i64 s.version, .slice Ar s.records.length cr, .slice Av s.verdicts.length cv] 34)) := xc.alloc _
  obtain ⟨⟨p0, p1, p2⟩, p3⟩ := HBX.out _ xs0
  clear R
  go_wp2_with fail
  obtain ⟨Wx, hWx⟩ : ∃ Wx, Wx = wc.alloc (.cells #[.int .i64 s.version, .slice Ar s.records.length cr, .slice Av s.verdicts.length cv] 34) := ⟨_, rfl⟩
  rw [← hWx] at hS0 xs0 p0 p1 p2 p3 ⊢
  obtain ⟨gx, hgx⟩ : ∃ gx, gx = wc.heap.size := ⟨_, rfl⟩
  rw [← hgx] at hS0 ⊢
  clear hWx hgx xc p0 p1 p2 p3
  refine (spec_IsValidStore _ s _ (HAT.out _ xs0)).mono ?_
  rintro e w1 ⟨rfl, x1⟩
  have x01 := xs0.trans x1
  have hS1 := hS0.ext x1
  clear x1 hS0 xs0
  cases hs : okSto s with
  | false =>
    have HNO := hid (appB_no (s := s) (b := b) fun h => by rw [hs] at h; cases h.1)
    obtain ⟨⟨g0, g1, g2⟩, gf⟩ := hS1.cells
    have R3 := hS1.r
    clear hs
    have bz := HZ.out _ (x01)
    obtain ⟨⟨z0, z1, z2⟩, zf⟩ := (⟨⟨bz.cells.1 0, bz.cells.1 1, bz.cells.1 2⟩, bz.cells.2⟩ : (_ ∧ _ ∧ _) ∧ _)
    have b9 := Blk.store3 bz (.int .i64 s.version) (.slice Ar (s.records).length cr) (.slice Av (s.verdicts).length cv)
    have r0 := b9.cells.1 0
    have r1 := b9.cells.1 1
    have r2 := b9.cells.1 2
    have HFIN := hid (show AppOut w (.returned (.tuple #[.agg #[.int .i64 s.version, .slice Ar (s.records).length cr, .slice Av (s.verdicts).length cv], .bool false])) (((w1.setCell ⟨w.heap.size + 1 + 1, 0, none⟩ (.int .i64 s.version)).setCell ⟨w.heap.size + 1 + 1, 1, none⟩ (.slice Ar (s.records).length cr)).setCell ⟨w.heap.size + 1 + 1, 2, none⟩ (.slice Av (s.verdicts).length cv)) (appB s b) from by
      have hsz := HS.out
      obtain ⟨n1, n2⟩ := (R3).r.below (g := w.heap.size + 1 + 1) (by omega)
      obtain ⟨_, n3⟩ := (R3).v.below (g := w.heap.size + 1 + 1) (by omega)
      rw [HNO.out]
      exact ⟨_, _, _, rfl, ((R3).kp (Kp.store3 (w.heap.size + 1 + 1) 0 _ _ _ _) n1 n2 n3).low (by omega), by first | exact HI.out | exact HIV.out, Ext.store3 (HX.out.trans (x01)) (by omega) _ _ _⟩)
    clear b9 bz
    go_wp2
    refine bodyPost_ret (v := .tuple #[.agg #[.int .i64 s.version, .slice Ar (s.records).length cr, .slice Av (s.verdicts).length cv], .bool false]) (by simp [results, Tryz.results8, go_sem, r0, r1, r2]) rfl ?_
    exact HFIN.out
  | true =>
    obtain ⟨⟨p0, p1, p2⟩, p3⟩ := HBX.out _ x01
    go_wp2_with fail
    refine (spec_IsValidBatch _ b _ ⟨_, rfl, trivial, HOPS.out _ x01⟩).mono ?_
    rintro e w2 ⟨rfl, x2⟩
    have x02 := x01.trans x2
    have hS2 := hS1.ext x2
    clear p0 p1 p2 p3 x2 x01 hS1
    cases hbt : okBat b with
    | false =>
      have HNO := hid (appB_no (s := s) (b := b) fun h => by rw [hbt] at h; cases h.2.1)
      obtain ⟨⟨g0, g1, g2⟩, gf⟩ := hS2.cells
      have R3 := hS2.r
      clear hs hbt
      have bz := HZ.out _ (x02)
      obtain ⟨⟨z0, z1, z2⟩, zf⟩ := (⟨⟨bz.cells.1 0, bz.cells.1 1, bz.cells.1 2⟩, bz.cells.2⟩ : (_ ∧ _ ∧ _) ∧ _)
      have b9 := Blk.store3 bz (.int .i64 s.version) (.slice Ar (s.records).length cr) (.slice Av (s.verdicts).length cv)
      have r0 := b9.cells.1 0
      have r1 := b9.cells.1 1
      have r2 := b9.cells.1 2
      have HFIN := hid (show AppOut w (.returned (.tuple #[.agg #[.int .i64 s.version, .slice Ar (s.records).length cr, .slice Av (s.verdicts).length cv], .bool false])) (((w2.setCell ⟨w.heap.size + 1 + 1, 0, none⟩ (.int .i64 s.version)).setCell ⟨w.heap.size + 1 + 1, 1, none⟩ (.slice Ar (s.records).length cr)).setCell ⟨w.heap.size + 1 + 1, 2, none⟩ (.slice Av (s.verdicts).length cv)) (appB s b) from by
        have hsz := HS.out
        obtain ⟨n1, n2⟩ := (R3).r.below (g := w.heap.size + 1 + 1) (by omega)
        obtain ⟨_, n3⟩ := (R3).v.below (g := w.heap.size + 1 + 1) (by omega)
        rw [HNO.out]
        exact ⟨_, _, _, rfl, ((R3).kp (Kp.store3 (w.heap.size + 1 + 1) 0 _ _ _ _) n1 n2 n3).low (by omega), by first | exact HI.out | exact HIV.out, Ext.store3 (HX.out.trans (x02)) (by omega) _ _ _⟩)
      clear b9 bz
      go_wp2
      refine bodyPost_ret (v := .tuple #[.agg #[.int .i64 s.version, .slice Ar (s.records).length cr, .slice Av (s.verdicts).length cv], .bool false]) (by simp [results, Tryz.results8, go_sem, r0, r1, r2]) rfl ?_
      exact HFIN.out
    | true =>
      have hall := okSto_all hs
      have hbops := okBat_ops hbt
      obtain ⟨⟨p0, p1, p2⟩, p3⟩ := HBX.out _ x02
      by_cases h999 : s.version = 999
      · have b999 : (s.version == 999) = true := by simp [h999]
        have HNO := hid (appB_no (s := s) (b := b) fun h => by rw [newSto_999 h999] at h; cases h.2.2)
        obtain ⟨⟨g0, g1, g2⟩, gf⟩ := hS2.cells
        have R3 := hS2.r
        clear hs hbt hall hbops h999
        have bz := HZ.out _ (x02)
        obtain ⟨⟨z0, z1, z2⟩, zf⟩ := (⟨⟨bz.cells.1 0, bz.cells.1 1, bz.cells.1 2⟩, bz.cells.2⟩ : (_ ∧ _ ∧ _) ∧ _)
        have b9 := Blk.store3 bz (.int .i64 s.version) (.slice Ar (s.records).length cr) (.slice Av (s.verdicts).length cv)
        have r0 := b9.cells.1 0
        have r1 := b9.cells.1 1
        have r2 := b9.cells.1 2
        have HFIN := hid (show AppOut w (.returned (.tuple #[.agg #[.int .i64 s.version, .slice Ar (s.records).length cr, .slice Av (s.verdicts).length cv], .bool false])) (((w2.setCell ⟨w.heap.size + 1 + 1, 0, none⟩ (.int .i64 s.version)).setCell ⟨w.heap.size + 1 + 1, 1, none⟩ (.slice Ar (s.records).length cr)).setCell ⟨w.heap.size + 1 + 1, 2, none⟩ (.slice Av (s.verdicts).length cv)) (appB s b) from by
          have hsz := HS.out
          obtain ⟨n1, n2⟩ := (R3).r.below (g := w.heap.size + 1 + 1) (by omega)
          obtain ⟨_, n3⟩ := (R3).v.below (g := w.heap.size + 1 + 1) (by omega)
          rw [HNO.out]
          exact ⟨_, _, _, rfl, ((R3).kp (Kp.store3 (w.heap.size + 1 + 1) 0 _ _ _ _) n1 n2 n3).low (by omega), by first | exact HI.out | exact HIV.out, Ext.store3 (HX.out.trans (x02)) (by omega) _ _ _⟩)
        clear b9 bz
        go_wp2
        refine bodyPost_ret (v := .tuple #[.agg #[.int .i64 s.version, .slice Ar (s.records).length cr, .slice Av (s.verdicts).length cv], .bool false]) (by simp [results, Tryz.results8, go_sem, r0, r1, r2]) rfl ?_
        exact HFIN.out
      · have b999 : (s.version == 999) = false := by simp [h999]
        obtain ⟨hgood, _, _, hv0, hv1, hrl8, hv8⟩ := hall
        obtain ⟨hn6, hops⟩ := hbops
        have hv2 : s.version ≤ 998 := by omega
        have HUP := hid (fun k (hk : k ≤ b.ops.length) => (show RAsc ((b.ops.take k).foldl upR2 s.records) ∧ (∀ x ∈ ((b.ops.take k).foldl upR2 s.records), okRec x = true) ∧ ((b.ops.take k).foldl upR2 s.records).length ≤ 8 + k from by rw [upR2_ok hs hbt k hk]; exact upR_ok hs hbt k hk))
        have HOK := hid hops
        have HSB := hid (And.intro hs hbt)
        have HN2 := hid (newSto2_eq hs hbt)
        clear hs hbt hgood hops h999 hv1
        have hS3 := hS2.setVer (s.version + 1)
        have xs3 : Ext W3 (w2.setCell ⟨gx, 0, none⟩ (.int .i64 (s.version + 1))) := x02.setCell hS2.hb _
        obtain ⟨⟨g0, g1, g2⟩, gf⟩ := hS2.cells
        obtain ⟨q0, q1⟩ := HBX.out _ xs3
        clear hS2 x02
        go_wp2_with fail
        obtain ⟨Wx, hWx⟩ : ∃ Wx, Wx = w2.setCell ⟨gx, 0, none⟩ (.int .i64 (s.version + 1)) := ⟨_, rfl⟩
        rw [← hWx] at hS3 xs3 q0 q1 ⊢
        clear hWx p0 p1 p2 p3 q0 q1 g0 g1 g2 gf
        go_loopw [7] (fun i wr => ∃ (k : Nat) (rv vv : Value) (F : List Nat), k ≤ b.ops.length ∧ i = .int .i64 k ∧ Sx wr W3.heap.size gx (s.version + 1) rv vv ((b.ops.take k).foldl upR2 s.records) ((b.ops.take k).foldl upV2 s.verdicts) F ∧ Ext W3 wr) (fun i _ => b.ops.length - (intOf i).toNat)
        case atStart => exact ⟨0, _, _, _, Nat.zero_le _, rfl, hS3, xs3⟩
        case round =>
          obtain ⟨k, rv, vv, F, hk, rfl, hS, hx⟩ := hrel
          obtain ⟨q0, q1⟩ := HBX.out _ hx
          by_cases hlt : k < b.ops.length
          · obtain ⟨hup1, hup2, hup3⟩ := HUP.out k hk
            have HUR := hid (fold_step upR2 s.records b.ops k hlt)
            have HUV := hid (fold_step upV2 s.verdicts b.ops k hlt)
            have hvl := upV2_len s.verdicts (b.ops.take k)
            have htl : (b.ops.take k).length ≤ 6 := by rw [List.length_take]; omega
            obtain ⟨b1, off, A2, cap2, eA, hok, hsl, c0, c1, c2, c3, c4, c5, c6, c7, c8⟩ := (HOPS.out _ hx).op hlt
            subst eA
            have hop : okOp b.ops[k] = true := HOK.out _ (List.getElem_mem hlt)
            have xb : Ext wr (wr.alloc (.cells #[.int .i64 b.ops[k].kind, .int .i64 b.ops[k].record.source, .int .i64 b.ops[k].record.key, .int .i64 b.ops[k].record.version, .slice A2 b.ops[k].record.fields.length cap2, .int .i64 b.ops[k].verdict.a, .int .i64 b.ops[k].verdict.b, .bool b.ops[k].verdict.same, .int .i64 b.ops[k].verdict.time] 76)) := (Ext.refl wr).alloc _
            have HOB := hid (show ∀ W, Ext (wr.alloc (.cells #[.int .i64 b.ops[k].kind, .int .i64 b.ops[k].record.source, .int .i64 b.ops[k].record.key, .int .i64 b.ops[k].record.version, .slice A2 b.ops[k].record.fields.length cap2, .int .i64 b.ops[k].verdict.a, .int .i64 b.ops[k].verdict.b, .bool b.ops[k].verdict.same, .int .i64 b.ops[k].verdict.time] 76)) W → W.cell? ⟨wr.heap.size, 0, none⟩ = some (.int .i64 b.ops[k].kind) ∧ OpCells W wr.heap.size b.ops[k] (.slice A2 b.ops[k].record.fields.length cap2) from fun W y => ⟨y.box.1 0, ⟨y.box.1 1, y.box.1 2, y.box.1 3, y.box.1 4⟩, y.box.1 5, y.box.1 6, y.box.1 7, y.box.1 8⟩)
            have hSb := hS.ext xb
            have hxb := hx.trans xb
            have hgb : gx < wr.heap.size := hS.lt
            have hgne : gx ≠ wr.heap.size := by omega
            have hgne2 : wr.heap.size ≠ gx := by omega
            obtain ⟨Ar, cr, er, _⟩ := hS.r.r.sl.form
            subst er
            obtain ⟨Av, cv, ev, _⟩ := hS.r.v.sl.form
            subst ev
            have HRV := hid (show ∀ W, Ext (wr.alloc (.cells #[.int .i64 b.ops[k].kind, .int .i64 b.ops[k].record.source, .int .i64 b.ops[k].record.key, .int .i64 b.ops[k].record.version, .slice A2 b.ops[k].record.fields.length cap2, .int .i64 b.ops[k].verdict.a, .int .i64 b.ops[k].verdict.b, .bool b.ops[k].verdict.same, .int .i64 b.ops[k].verdict.time] 76)) W → RecAt W (.agg #[.int .i64 b.ops[k].record.source, .int .i64 b.ops[k].record.key, .int .i64 b.ops[k].record.version, .slice A2 b.ops[k].record.fields.length cap2]) b.ops[k].record from fun W y => ⟨_, rfl, hok.2.1, (hsl.mono xb).mono y⟩)
            have HVO := hid hok.2.2
            obtain ⟨⟨g0, g1, g2⟩, gf⟩ := hSb.cells
            by_cases h1 : b.ops[k].kind = 1
            · have e1 : (b.ops[k].kind == 1) = true := by simp [h1]
              have e3 : (b.ops[k].kind == 3) = false := by simp [h1]
              have hrec : okRec b.ops[k].record = true := by
                rw [okOp_1 h1, Bool.and_eq_true] at hop
                exact hop.1
              have HPUT := hid (spec_l30Put _ _ _ b.ops[k].record (wr.alloc (.cells #[.int .i64 b.ops[k].kind, .int .i64 b.ops[k].record.source, .int .i64 b.ops[k].record.key, .int .i64 b.ops[k].record.version, .slice A2 b.ops[k].record.fields.length cap2, .int .i64 b.ops[k].verdict.a, .int .i64 b.ops[k].verdict.b, .bool b.ops[k].verdict.same, .int .i64 b.ops[k].verdict.time] 76)) hSb.r.r.sl (HRV.out _ (Ext.refl _)) (by omega) (by have := okRec_len hrec; omega) (fun x hx => by have := okRec_len (hup2 x hx); omega))
              have HST := hid (show upR2 ((b.ops.take k).foldl upR2 s.records) b.ops[k] = putF ((b.ops.take k).foldl upR2 s.records) b.ops[k].record ∧ upV2 ((b.ops.take k).foldl upV2 s.verdicts) b.ops[k] = ((b.ops.take k).foldl upV2 s.verdicts) from ⟨upR2_y h1, upV2_n (fun c => by omega)⟩)
              clear hup1 hup2 h1 hop hrec hok hsl
              go_wp2_with fail
              refine HPUT.out.mono ?_
              rintro e w5 ⟨v2, F2, rfl, hB2, x5⟩
              obtain ⟨Ar2, cr2, er2, _⟩ := hB2.sl.form
              subst er2
              have ip := InPl.fresh x5 hB2 W3.heap.size (.slice Ar ((b.ops.take k).foldl upR2 s.records).length cr) F
              obtain ⟨b5, hS5⟩ := hSb.putR (hB2.lowv hxb.size) ip
              have t1 := b5.cells.1 1
              have tf := b5.cells.2 1
              have k0 := (HOB.out _ x5).1
              have k1 : (w5.setCell ⟨gx, 1, none⟩ (.slice Ar2 (putF ((b.ops.take k).foldl upR2 s.records) b.ops[k].record).length cr2)).cell? ⟨wr.heap.size, 0, none⟩ = some (.int .i64 b.ops[k].kind) := by rw [cell_setOther (by omega)]; exact k0
              have HS5 := hid hS5
              have HX5 := hid ((hxb.trans x5).setCell (p := ⟨gx, 1, none⟩) hS.hb (.slice Ar2 (putF ((b.ops.take k).foldl upR2 s.records) b.ops[k].record).length cr2))
              clear hS5 b5 ip hB2 g0 g1 g2 gf hSb hS q0 q1
              go_wp2
              go_roundw
              case rel => exact ⟨k + 1, _, _, F2, by omega, by go_num, by rw [HUR.out, HUV.out, HST.out.1, HST.out.2]; exact HS5.out, HX5.out⟩
              case measure => simp [intOf]; omega
            · have e1 : (b.ops[k].kind == 1) = false := by simp [h1]
              by_cases h3 : b.ops[k].kind = 3
              · have e3 : (b.ops[k].kind == 3) = true := by simp [h3]
                have HAT2 := hid (spec_l28At (.slice Av ((b.ops.take k).foldl upV2 s.verdicts).length cv) ((b.ops.take k).foldl upV2 s.verdicts) b.ops[k].verdict (wr.alloc (.cells #[.int .i64 b.ops[k].kind, .int .i64 b.ops[k].record.source, .int .i64 b.ops[k].record.key, .int .i64 b.ops[k].record.version, .slice A2 b.ops[k].record.fields.length cap2, .int .i64 b.ops[k].verdict.a, .int .i64 b.ops[k].verdict.b, .bool b.ops[k].verdict.same, .int .i64 b.ops[k].verdict.time] 76)) hSb.r.v.sl)
                have hic := idxV_cases ((b.ops.take k).foldl upV2 s.verdicts) b.ops[k].verdict
                have HH3 := hid (And.intro h1 h3)
                obtain ⟨iv, hiv⟩ : ∃ i, i = idxV ((b.ops.take k).foldl upV2 s.verdicts) b.ops[k].verdict := ⟨_, rfl⟩
                rw [← hiv] at hic HAT2
                have HIX := hid hiv
                clear hup1 hup2 h1 h3 hop hok hsl hiv
                go_wp2_with fail
                refine HAT2.out.mono ?_
                rintro e w4 ⟨rfl, x4⟩
                have hS4 := hSb.ext x4
                have x4w := hxb.trans x4
                have k5 := (HOB.out _ x4).2.2.1
                have k6 := (HOB.out _ x4).2.2.2.1
                have k7 := (HOB.out _ x4).2.2.2.2.1
                have k8 := (HOB.out _ x4).2.2.2.2.2
                clear g0 g1 g2 gf q0 q1
                obtain ⟨⟨g0, g1, g2⟩, gf⟩ := hS4.cells
                rcases hic with ⟨hi, _⟩ | ⟨j, hj, hi, _⟩
                · subst hi
                  have HST := hid (show upR2 ((b.ops.take k).foldl upR2 s.records) b.ops[k] = ((b.ops.take k).foldl upR2 s.records) ∧ upV2 ((b.ops.take k).foldl upV2 s.verdicts) b.ops[k] = sortS (((b.ops.take k).foldl upV2 s.verdicts) ++ [b.ops[k].verdict]) from ⟨upR2_n HH3.out.1, upV2_y HH3.out.2 (by rw [← HIX.out]; decide)⟩)
                  have HSb := hid hS4
                  have HHB := hid hS.hb
                  have HVB := hid (show ∀ b0, wr.heap.size ≤ b0 → (.slice Av ((b.ops.take k).foldl upV2 s.verdicts).length cv : Value).ownBlock ≠ some b0 from fun b0 hb0 e => by have := (hS.r.v.lt.2 _ e).1; omega)
                  have HXW := hid x4w
                  have HWL := hid (show wr.heap.size < w4.heap.size from by have := x4.size; rw [World.size_alloc] at this; omega)
                  clear hSb hS hxb x4w xb hS4
                  go_wp2_with (at_builtin; refine wpList_app1k (R := verdictO) elemVer (by decide) rfl _ _ rfl HSb.out.r.v rfl _ 1 rfl (by simp) (one_ver _ _ _ _) (y := b.ops[k].verdict) ⟨⟨rfl, HVO.out⟩, rfl⟩ fresh_nil (by omega) (by decide) HXW.out.size ?_; intro v9 w9 hB9 hE9 hK9; obtain ⟨Av9, cv9, ev9, _⟩ := hB9.sl.form; obtain ⟨n9, hn9⟩ : ∃ n, n = (((b.ops.take k).foldl upV2 s.verdicts) ++ [b.ops[k].verdict]).length := ⟨_, rfl⟩; rw [← hn9] at ev9; subst ev9; have HB9 := hid hB9; have HN9 := hid hn9; clear hB9 hn9)
                  refine (spec_l28Sort _ _ _ HB9.out.sl (by rw [List.length_append, List.length_singleton]; omega)).mono ?_
                  rintro e w10 ⟨v10, rfl, hB10, x10⟩
                  have HKB := hid (show ∀ b0, b0 < w4.heap.size → (.slice Av ((b.ops.take k).foldl upV2 s.verdicts).length cv : Value).ownBlock ≠ some b0 → w10.heap[b0]? = w4.heap[b0]? ∧ b0 < w9.heap.size from fun b0 hb0 hv0 => keep_then hb0 ((hK9 [b0] (fun c hc => by rw [List.mem_singleton] at hc; rw [hc]; exact hb0) (fun c hc => by rw [List.mem_singleton] at hc; rw [hc]; exact hv0)).1 b0 (List.mem_singleton.2 rfl)) x10)
                  have hge4 : w4.heap.size ≤ w9.heap.size := by
                    have hwl := HWL.out
                    have := (HKB.out (w4.heap.size - 1) (by omega) (HVB.out _ (by omega))).2
                    omega
                  have x9w := hE9 W3 (Nat.le_refl _) HXW.out
                  obtain ⟨Av2, cv2, ev2, _⟩ := hB10.sl.form
                  obtain ⟨n2, hn2⟩ : ∃ n, n = (sortS (((b.ops.take k).foldl upV2 s.verdicts) ++ [b.ops[k].verdict])).length := ⟨_, rfl⟩
                  rw [← hn2] at ev2
                  subst ev2
                  obtain ⟨b5, hS5⟩ := HSb.out.putV (hB10.lowv x9w.size) (fun b0 hb0 hv0 => (HKB.out b0 hb0 hv0).1) (fun g9 hg9 => .inr (Nat.le_trans hge4 (hB10.lt.2 _ hg9).2))
                  have t1 := b5.cells.1 2
                  have tf := b5.cells.2 2
                  have HS5 := hid hS5
                  have HX5 := hid ((x9w.trans x10).setCell (p := ⟨gx, 2, none⟩) HHB.out (.slice Av2 n2 cv2))
                  clear hS5 x9w b5 hE9 hK9 hB10 HB9 HKB HVB HSb hge4 x10 hn2
                  go_wp2
                  go_roundw
                  case rel => exact ⟨k + 1, _, _, F, by omega, by go_num, by rw [HUR.out, HUV.out, HST.out.1, HST.out.2]; exact HS5.out, HX5.out⟩
                  case measure => simp [intOf]; omega
                · have hi0 : ¬ iv < 0 := by omega
                  have hi1 : (iv < 0) = False := by simp; omega
                  have HST := hid (show upR2 ((b.ops.take k).foldl upR2 s.records) b.ops[k] = ((b.ops.take k).foldl upR2 s.records) ∧ upV2 ((b.ops.take k).foldl upV2 s.verdicts) b.ops[k] = ((b.ops.take k).foldl upV2 s.verdicts) from ⟨upR2_n HH3.out.1, upV2_n (fun c => hi0 (by rw [HIX.out]; exact c.2))⟩)
                  have HS5 := hid hS4
                  have HX5 := hid x4w
                  have hi2 : decide (iv < 0) = false := by simp; omega
                  clear hi1 hi0 hi
                  go_wp2
                  go_roundw
                  case rel => exact ⟨k + 1, _, _, F, by omega, by go_num, by rw [HUR.out, HUV.out, HST.out.1, HST.out.2]; exact HS5.out, HX5.out⟩
                  case measure => simp [intOf]; omega
              · have e3 : (b.ops[k].kind == 3) = false := by simp [h3]
                have HST := hid (show upR2 ((b.ops.take k).foldl upR2 s.records) b.ops[k] = ((b.ops.take k).foldl upR2 s.records) ∧ upV2 ((b.ops.take k).foldl upV2 s.verdicts) b.ops[k] = ((b.ops.take k).foldl upV2 s.verdicts) from ⟨upR2_n h1, upV2_n (fun c => h3 c.1)⟩)
                have HS5 := hid hSb
                clear hup1 hup2 h1 h3 hop hok hsl
                go_wp2
                go_roundw
                case rel => exact ⟨k + 1, _, _, F, by omega, by go_num, by rw [HUR.out, HUV.out, HST.out.1, HST.out.2]; exact HS5.out, hxb⟩
                case measure => simp [intOf]; omega
          · have hkn : b.ops.take k = b.ops := List.take_of_length_le (by omega)
            rw [hkn] at hS
            clear hkn
            have hrl0 : (b.ops.foldl upR2 s.records).length ≤ 14 := by
              have := (HUP.out b.ops.length (Nat.le_refl _)).2.2
              rw [List.take_length] at this
              omega
            have hvl0 : (b.ops.foldl upV2 s.verdicts).length ≤ 14 := by
              have := upV2_len s.verdicts b.ops
              omega
            have HRL := hid (fun k => Nat.le_trans (dnR2_len (b.ops.foldl upR2 s.records) (b.ops.take k)) hrl0)
            have HVL := hid (fun k => Nat.le_trans (dnV2_len (b.ops.foldl upV2 s.verdicts) (b.ops.take k)) hvl0)
            have HIV := hid (show I64 (s.version + 1) from ⟨by omega, by omega⟩)
            clear hrl0 hvl0
            go_wp2_with fail
            clear q0 q1
            go_loopw [9] (fun i wr => ∃ (k : Nat) (rv vv : Value) (F : List Nat), k ≤ b.ops.length ∧ i = .int .i64 k ∧ Sx wr W3.heap.size gx (s.version + 1) rv vv ((b.ops.take k).foldl dnR2 (b.ops.foldl upR2 s.records)) ((b.ops.take k).foldl dnV2 (b.ops.foldl upV2 s.verdicts)) F ∧ Ext W3 wr) (fun i _ => b.ops.length - (intOf i).toNat)
            case atStart => exact ⟨0, _, _, _, Nat.zero_le _, rfl, hS, hx⟩
            clear hS hx hlt hk
            case round =>
              obtain ⟨k, rv, vv, F, hk, rfl, hS, hx⟩ := hrel
              obtain ⟨q0, q1⟩ := HBX.out _ hx
              by_cases hlt : k < b.ops.length
              · have hrl := HRL.out k
                have hvl := HVL.out k
                obtain ⟨rs, hrs⟩ : ∃ r, r = ((b.ops.take k).foldl dnR2 (b.ops.foldl upR2 s.records)) := ⟨_, rfl⟩
                obtain ⟨vs, hvs⟩ : ∃ r, r = ((b.ops.take k).foldl dnV2 (b.ops.foldl upV2 s.verdicts)) := ⟨_, rfl⟩
                have HUR := hid (show ((b.ops.take (k + 1)).foldl dnR2 (b.ops.foldl upR2 s.records)) = dnR2 rs b.ops[k] from by rw [hrs]; exact fold_step dnR2 (b.ops.foldl upR2 s.records) b.ops k hlt)
                have HUV := hid (show ((b.ops.take (k + 1)).foldl dnV2 (b.ops.foldl upV2 s.verdicts)) = dnV2 vs b.ops[k] from by rw [hvs]; exact fold_step dnV2 (b.ops.foldl upV2 s.verdicts) b.ops k hlt)
                rw [← hrs] at hS hrl
                rw [← hvs] at hS hvl
                clear hrs hvs
                obtain ⟨b1, off, A2, cap2, eA, hok, hsl, c0, c1, c2, c3, c4, c5, c6, c7, c8⟩ := (HOPS.out _ hx).op hlt
                subst eA
                have hop : okOp b.ops[k] = true := HOK.out _ (List.getElem_mem hlt)
                have xb : Ext wr (wr.alloc (.cells #[.int .i64 b.ops[k].kind, .int .i64 b.ops[k].record.source, .int .i64 b.ops[k].record.key, .int .i64 b.ops[k].record.version, .slice A2 b.ops[k].record.fields.length cap2, .int .i64 b.ops[k].verdict.a, .int .i64 b.ops[k].verdict.b, .bool b.ops[k].verdict.same, .int .i64 b.ops[k].verdict.time] 76)) := (Ext.refl wr).alloc _
                have HOB := hid (show ∀ W, Ext (wr.alloc (.cells #[.int .i64 b.ops[k].kind, .int .i64 b.ops[k].record.source, .int .i64 b.ops[k].record.key, .int .i64 b.ops[k].record.version, .slice A2 b.ops[k].record.fields.length cap2, .int .i64 b.ops[k].verdict.a, .int .i64 b.ops[k].verdict.b, .bool b.ops[k].verdict.same, .int .i64 b.ops[k].verdict.time] 76)) W → W.cell? ⟨wr.heap.size, 0, none⟩ = some (.int .i64 b.ops[k].kind) ∧ OpCells W wr.heap.size b.ops[k] (.slice A2 b.ops[k].record.fields.length cap2) from fun W y => ⟨y.box.1 0, ⟨y.box.1 1, y.box.1 2, y.box.1 3, y.box.1 4⟩, y.box.1 5, y.box.1 6, y.box.1 7, y.box.1 8⟩)
                have hSb := hS.ext xb
                have hxb := hx.trans xb
                have hgb : gx < wr.heap.size := hS.lt
                have hgne : gx ≠ wr.heap.size := by omega
                have hgne2 : wr.heap.size ≠ gx := by omega
                obtain ⟨Ar, cr, er, _⟩ := hS.r.r.sl.form
                subst er
                obtain ⟨Av, cv, ev, _⟩ := hS.r.v.sl.form
                subst ev
                have HRV := hid (show ∀ W, Ext (wr.alloc (.cells #[.int .i64 b.ops[k].kind, .int .i64 b.ops[k].record.source, .int .i64 b.ops[k].record.key, .int .i64 b.ops[k].record.version, .slice A2 b.ops[k].record.fields.length cap2, .int .i64 b.ops[k].verdict.a, .int .i64 b.ops[k].verdict.b, .bool b.ops[k].verdict.same, .int .i64 b.ops[k].verdict.time] 76)) W → RecAt W (.agg #[.int .i64 b.ops[k].record.source, .int .i64 b.ops[k].record.key, .int .i64 b.ops[k].record.version, .slice A2 b.ops[k].record.fields.length cap2]) b.ops[k].record from fun W y => ⟨_, rfl, hok.2.1, (hsl.mono xb).mono y⟩)
                have HVO := hid hok.2.2
                have HID64 := hid (recID_64 b.ops[k].record)
                have hfc := idxF_lt (fun r => recID r == recID b.ops[k].record) rs 0
                obtain ⟨id, hidE⟩ : ∃ i, i = recID b.ops[k].record := ⟨_, rfl⟩
                have HRID := hid (show ∀ W, Ext (wr.alloc (.cells #[.int .i64 b.ops[k].kind, .int .i64 b.ops[k].record.source, .int .i64 b.ops[k].record.key, .int .i64 b.ops[k].record.version, .slice A2 b.ops[k].record.fields.length cap2, .int .i64 b.ops[k].verdict.a, .int .i64 b.ops[k].verdict.b, .bool b.ops[k].verdict.same, .int .i64 b.ops[k].verdict.time] 76)) W → Calls Tryz.prog 41 #[.agg #[.int .i64 b.ops[k].record.source, .int .i64 b.ops[k].record.key, .int .i64 b.ops[k].record.version, .slice A2 b.ops[k].record.fields.length cap2]] W fun e w2 => e = .returned (.int .i64 id) ∧ Ext W w2 from fun W y => by rw [hidE]; exact spec_RecordID _ _ _ (HRV.out _ y))
                obtain ⟨fi, hfi⟩ : ∃ i, i = idxF (fun r => recID r == recID b.ops[k].record) 0 rs := ⟨_, rfl⟩
                have HFND := hid (show ∀ W, Ext (wr.alloc (.cells #[.int .i64 b.ops[k].kind, .int .i64 b.ops[k].record.source, .int .i64 b.ops[k].record.key, .int .i64 b.ops[k].record.version, .slice A2 b.ops[k].record.fields.length cap2, .int .i64 b.ops[k].verdict.a, .int .i64 b.ops[k].verdict.b, .bool b.ops[k].verdict.same, .int .i64 b.ops[k].verdict.time] 76)) W → Calls Tryz.prog 40 #[.agg #[.int .i64 (s.version + 1), .slice Ar rs.length cr, .slice Av vs.length cv], .int .i64 id] W fun e w2 => e = .returned (.int .i64 fi) ∧ Ext W w2 from fun W y => by rw [hfi, hidE]; exact spec_FindRecord _ ⟨s.version + 1, rs, vs⟩ _ _ ((hSb.ext y).at_ HIV.out) HID64.out)
                rw [← hfi] at hfc
                have HFI := hid hfi
                clear hfi hidE hok hsl hop HRV q0 q1
                have y0 : ∀ z : ExtOf (wr.alloc (.cells #[.int .i64 b.ops[k].kind, .int .i64 b.ops[k].record.source, .int .i64 b.ops[k].record.key, .int .i64 b.ops[k].record.version, .slice A2 b.ops[k].record.fields.length cap2, .int .i64 b.ops[k].verdict.a, .int .i64 b.ops[k].verdict.b, .bool b.ops[k].verdict.same, .int .i64 b.ops[k].verdict.time] 76)), z.1.cell? ⟨wr.heap.size, 0, none⟩ = _ := fun z => (HOB.out _ z.2).1
                have y1 : ∀ z : ExtOf (wr.alloc (.cells #[.int .i64 b.ops[k].kind, .int .i64 b.ops[k].record.source, .int .i64 b.ops[k].record.key, .int .i64 b.ops[k].record.version, .slice A2 b.ops[k].record.fields.length cap2, .int .i64 b.ops[k].verdict.a, .int .i64 b.ops[k].verdict.b, .bool b.ops[k].verdict.same, .int .i64 b.ops[k].verdict.time] 76)), z.1.cell? ⟨wr.heap.size, 1, none⟩ = _ := fun z => (HOB.out _ z.2).2.1.1
                have y2 : ∀ z : ExtOf (wr.alloc (.cells #[.int .i64 b.ops[k].kind, .int .i64 b.ops[k].record.source, .int .i64 b.ops[k].record.key, .int .i64 b.ops[k].record.version, .slice A2 b.ops[k].record.fields.length cap2, .int .i64 b.ops[k].verdict.a, .int .i64 b.ops[k].verdict.b, .bool b.ops[k].verdict.same, .int .i64 b.ops[k].verdict.time] 76)), z.1.cell? ⟨wr.heap.size, 2, none⟩ = _ := fun z => (HOB.out _ z.2).2.1.2.1
                have y3 : ∀ z : ExtOf (wr.alloc (.cells #[.int .i64 b.ops[k].kind, .int .i64 b.ops[k].record.source, .int .i64 b.ops[k].record.key, .int .i64 b.ops[k].record.version, .slice A2 b.ops[k].record.fields.length cap2, .int .i64 b.ops[k].verdict.a, .int .i64 b.ops[k].verdict.b, .bool b.ops[k].verdict.same, .int .i64 b.ops[k].verdict.time] 76)), z.1.cell? ⟨wr.heap.size, 3, none⟩ = _ := fun z => (HOB.out _ z.2).2.1.2.2.1
                have y4 : ∀ z : ExtOf (wr.alloc (.cells #[.int .i64 b.ops[k].kind, .int .i64 b.ops[k].record.source, .int .i64 b.ops[k].record.key, .int .i64 b.ops[k].record.version, .slice A2 b.ops[k].record.fields.length cap2, .int .i64 b.ops[k].verdict.a, .int .i64 b.ops[k].verdict.b, .bool b.ops[k].verdict.same, .int .i64 b.ops[k].verdict.time] 76)), z.1.cell? ⟨wr.heap.size, 4, none⟩ = _ := fun z => (HOB.out _ z.2).2.1.2.2.2
                have x0 : ∀ z : ExtOf (wr.alloc (.cells #[.int .i64 b.ops[k].kind, .int .i64 b.ops[k].record.source, .int .i64 b.ops[k].record.key, .int .i64 b.ops[k].record.version, .slice A2 b.ops[k].record.fields.length cap2, .int .i64 b.ops[k].verdict.a, .int .i64 b.ops[k].verdict.b, .bool b.ops[k].verdict.same, .int .i64 b.ops[k].verdict.time] 76)), z.1.cell? ⟨gx, 0, none⟩ = _ := fun z => (hSb.ext z.2).cells.1.1
                have x1 : ∀ z : ExtOf (wr.alloc (.cells #[.int .i64 b.ops[k].kind, .int .i64 b.ops[k].record.source, .int .i64 b.ops[k].record.key, .int .i64 b.ops[k].record.version, .slice A2 b.ops[k].record.fields.length cap2, .int .i64 b.ops[k].verdict.a, .int .i64 b.ops[k].verdict.b, .bool b.ops[k].verdict.same, .int .i64 b.ops[k].verdict.time] 76)), z.1.cell? ⟨gx, 1, none⟩ = _ := fun z => (hSb.ext z.2).cells.1.2.1
                have x2 : ∀ z : ExtOf (wr.alloc (.cells #[.int .i64 b.ops[k].kind, .int .i64 b.ops[k].record.source, .int .i64 b.ops[k].record.key, .int .i64 b.ops[k].record.version, .slice A2 b.ops[k].record.fields.length cap2, .int .i64 b.ops[k].verdict.a, .int .i64 b.ops[k].verdict.b, .bool b.ops[k].verdict.same, .int .i64 b.ops[k].verdict.time] 76)), z.1.cell? ⟨gx, 2, none⟩ = _ := fun z => (hSb.ext z.2).cells.1.2.2
                obtain ⟨q0, q1⟩ := HBX.out _ hx
                go_wp2_with fail
                refine wp_region_ext (by kernel_rfl) (by kernel_rfl) ?_
                repeat (go_big_quiet_step (((first | (go_at_call 41; with_reducible exact quiet_ext (HRID.out _ (Subtype.property _))) | (go_at_call 40; exact quiet_ext (HFND.out _ (Subtype.property _)))))))
                refine wpQuiet_nil ?_
                rintro w17 ⟨⟨_, x17⟩, rfl⟩
                clear y0 y1 y2 y3 y4 x0 x1 x2 q0 q1
                have hS17 := hSb.ext x17
                have x17w := hxb.trans x17
                have y0 : ∀ z : ExtOf w17, z.1.cell? ⟨wr.heap.size, 0, none⟩ = _ := fun z => (HOB.out _ (x17.trans z.2)).1
                have y3 : ∀ z : ExtOf w17, z.1.cell? ⟨wr.heap.size, 3, none⟩ = _ := fun z => (HOB.out _ (x17.trans z.2)).2.1.2.2.1
                have x1 : ∀ z : ExtOf w17, z.1.cell? ⟨gx, 1, none⟩ = _ := fun z => (hS17.ext z.2).cells.1.2.1
                by_cases h2 : b.ops[k].kind = 2
                · have b2 : (b.ops[k].kind == 2) = true := by simp [h2]
                  have b4 : (b.ops[k].kind == 4) = false := by simp [h2]
                  have HK4 := hid (show dnV2 vs b.ops[k] = vs from dnV2_n (by omega))
                  have HH2 := hid h2
                  clear h2
                  rcases hfc with ⟨hm1, _⟩ | ⟨j, hj, hfj, _, _⟩
                  · subst hm1
                    have HDN := hid (show dnR2 rs b.ops[k] = rs from dnR2_0 HH2.out HFI.out.symm)
                    go_wp2_with fail
                    refine wp_region_ext (by kernel_rfl) (by kernel_rfl) ?_
                    repeat (go_big_quiet_step ((fail)))
                    refine wpQuiet_nil ?_
                    rintro w18 ⟨⟨_, x18⟩, rfl⟩
                    clear y0 y3 x1
                    have hS8 := (hS17.ext x18)
                    have x8 := (x17w.trans x18)
                    have HB8 := hid (show ∀ W, Ext w18 W → W.cell? ⟨wr.heap.size, 0, none⟩ = some (.int .i64 b.ops[k].kind) ∧ OpCells W wr.heap.size b.ops[k] (.slice A2 b.ops[k].record.fields.length cap2) from fun W y => (HOB.out _ ((x17.trans x18).trans y)))
                    obtain ⟨⟨g0, g1, g2⟩, gf⟩ := hS8.cells
                    obtain ⟨_, _, k5, k6, k7, k8⟩ := HB8.out _ (Ext.refl _)
                    go_wp2_with fail
                    refine (spec_l28At (.slice Av vs.length cv) vs b.ops[k].verdict _ hS8.r.v.sl).mono ?_
                    rintro e w20 ⟨rfl, x20⟩
                    have HS5 := hid (hS8.ext x20)
                    have HX5 := hid (x8.trans x20)
                    obtain ⟨iv, hiv⟩ : ∃ i, i = idxV vs b.ops[k].verdict := ⟨_, rfl⟩
                    rw [← hiv]
                    clear hiv g0 g1 g2 gf k5 k6 k7 k8
                    have k0 := (HB8.out _ x20).1
                    clear hS8 x8
                    go_wp2
                    go_roundw
                    case rel => exact ⟨k + 1, _, _, F, by omega, by go_num, by rw [HUR.out, HUV.out, HDN.out, HK4.out]; exact HS5.out, HX5.out⟩
                    case measure => simp [intOf]; omega
                  · rw [Nat.zero_add] at hfj
                    subst hfj
                    obtain ⟨g, cap, _, e9, _⟩ := del_row rfl recs_one1 hS17.r.r hj
                    injection e9 with e9 _ e10
                    subst e9
                    subst e10
                    obtain ⟨b5, off5, _, _, e9, _, _, _, _, d2, _⟩ := hS17.r.r.sl.record hj
                    injection e9 with e9
                    injection e9 with e10 e11 _
                    subst e10
                    subst e11
                    rw [Nat.zero_add] at d2
                    have z2 : ∀ z : ExtOf w17, z.1.cell? ⟨g, j * 4 + 2, none⟩ = _ := fun z => z.2.cell d2
                    clear d2
                    by_cases hver : rs[j].version ≤ b.ops[k].record.version
                    · have bv : decide (rs[j].version ≤ b.ops[k].record.version) = true := by simp [hver]
                      have HDN := hid (show dnR2 rs b.ops[k] = rs.eraseIdx j from dnR2_y HH2.out hj HFI.out.symm hver)
                      clear hver
                      go_wp2_with fail
                      refine wp_region_ext (by kernel_rfl) (by kernel_rfl) ?_
                      repeat (go_big_quiet_step ((fail)))
                      refine wpQuiet_nil ?_
                      rintro w18 ⟨⟨_, x18⟩, rfl⟩
                      clear y0 y3 x1 z2
                      have hSq := hS17.ext x18
                      have hxq := x17w.trans x18
                      have HOC := hid (show ∀ W, Ext w18 W → W.cell? ⟨wr.heap.size, 0, none⟩ = some (.int .i64 b.ops[k].kind) ∧ OpCells W wr.heap.size b.ops[k] (.slice A2 b.ops[k].record.fields.length cap2) from fun W y => HOB.out _ ((x17.trans x18).trans y))
                      obtain ⟨wq, hwq⟩ : ∃ wq, wq = w18 := ⟨_, rfl⟩
                      rw [← hwq] at hSq hxq HOC ⊢
                      clear hwq x18 x17 x17w hS17 hS hSb hx hxb xb
                      obtain ⟨g9, cap9, cs, e9, ⟨hc1, hc2⟩, hcl, hcc, h1c, hdr⟩ := del_row rfl recs_one1 hSq.r.r hj
                      injection e9 with e9 _ e10
                      injection e9 with e9
                      injection e9 with e11 _ _
                      subst e11
                      subst e10
                      obtain ⟨A9, hA9⟩ : ∃ A9, (if cr = j + 1 then (some ⟨g, 0, none⟩ : Option Addr) else some ⟨g, (j + 1) * 4, none⟩) = A9 := ⟨_, rfl⟩
                      have HN1 := hid (show ∀ W, Ext wq W → 0 < j → ∃ ad, (some ⟨g, 0, none⟩ : Option Addr) = some ad ∧ ∀ i u, (cs.take (j * 4))[i]? = some u → W.cell? (ad.add i) = some u from fun W y _ => ⟨_, rfl, fun i u hi => by
                        rw [List.getElem?_take] at hi
                        split at hi
                        · have := hcc W y i u hi
                          rw [show (⟨g, 0, none⟩ : Addr).add i = ⟨g, i, none⟩ by by_cases h0 : i = 0 <;> simp [Addr.add, h0]]; exact this
                        · cases hi⟩)
                      have HN2 := hid (show ∀ W, Ext wq W → 0 < rs.length - (j + 1) → ∃ ad, A9 = some ad ∧ ∀ i u, (cs.drop ((j + 1) * 4))[i]? = some u → W.cell? (ad.add i) = some u from fun W y hp => ⟨⟨g, (j + 1) * 4, none⟩, by rw [← hA9, if_neg (by omega)], fun i u hi => by
                        rw [List.getElem?_drop] at hi
                        rw [show (⟨g, (j + 1) * 4, none⟩ : Addr).add i = ⟨g, (j + 1) * 4 + i, none⟩ by by_cases h0 : i = 0 <;> simp [Addr.add, h0]]
                        exact hcc W y _ u hi⟩)
                      have HL1 := hid (show (cs.take (j * 4)).length = j * 4 by rw [List.length_take, hcl]; omega)
                      have HL2 := hid (show (cs.drop ((j + 1) * 4)).length = (rs.length - (j + 1)) * 4 by rw [List.length_drop, hcl]; omega)
                      have HO1 := hid (show ∀ u ∈ cs.take (j * 4), u.oneCell' = true from fun u hu => h1c u (List.mem_of_mem_take hu))
                      have HO2 := hid (show ∀ u ∈ cs.drop ((j + 1) * 4), u.oneCell' = true from fun u hu => h1c u (List.mem_of_mem_drop hu))
                      have HDR := hid hdr
                      have HCW := hid (show ∀ W, Ext wq W → W.cell? ⟨gx, 1, none⟩ = some (.slice (some ⟨g, 0, none⟩) rs.length cr) ∧ ∀ i, W.frozen? ⟨gx, i, none⟩ = false from fun W y => ⟨(hSq.ext y).cells.1.2.1, (hSq.ext y).cells.2⟩)
                      have cw : wq.cell? ⟨gx, 1, none⟩ = some (.slice (some ⟨g, 0, none⟩) rs.length cr) := (HCW.out _ (Ext.refl _)).1
                      have HBD := hid (And.intro hrl hj)
                      have HSQ := hid hSq
                      have HXQ := hid hxq
                      have a1 : (j : Int) ≤ (cr : Int) := by omega
                      have a2 : j ≤ cr := by omega
                      have a3 : j + 1 ≤ cr := by omega
                      have a4 : (0 : Int) ≤ (j : Int) + 1 := by omega
                      have a5 : (j : Int) + 1 ≤ (rs.length : Int) := by omega
                      have a6 : IntKind.i64.wrap ((j : Int) + 1) = (j : Int) + 1 := by rw [IntKind.wrap_i64]; omega
                      have HAA := hid hA9
                      clear hcc h1c hdr hcl hSq hxq hc1 hc2 hrl
                      go_wp2_with fail
                      refine wp_region_J 13 (fun w' => w'.cell? ⟨gx, 1, none⟩ = some (.slice (some ⟨g, 0, none⟩) rs.length cr)) (by kernel_rfl) ?_
                      refine wpAnyJ_take (i := 1) (v := ?v1q) (by simp only [List.getElem?_toArray, List.getElem?_cons_succ, List.getElem?_cons_zero, Option.some.injEq]; exact rfl) (by kernel_rfl) (by kernel_rfl) (by kernel_rfl) (by kernel_rfl) (by exact fun _ _ _ h => h) (Or.inl ⟨by rfl, fun w9 hS9 => ?hy1q⟩) (by exact cw) ?rest1q
                      case hy1q => (try dsimp only at hS9); go_simp <;> with_reducible rfl
                      try simp only [Act.put, List.setIfInBounds_toArray, List.set_cons_zero, List.set_cons_succ]
                      refine wpAnyJ_take (i := 2) (v := ?v2q) (by simp only [List.getElem?_toArray, List.getElem?_cons_succ, List.getElem?_cons_zero, Option.some.injEq]; exact rfl) (by kernel_rfl) (by kernel_rfl) (by kernel_rfl) (by kernel_rfl) (by exact fun _ _ _ h => h) (Or.inl ⟨by rfl, fun w9 hS9 => ?hy2q⟩) (by exact cw) ?rest2q
                      case hy2q => (try dsimp only at hS9); go_simp <;> with_reducible rfl
                      try simp only [Act.put, List.setIfInBounds_toArray, List.set_cons_zero, List.set_cons_succ]
                      refine wpAnyJ_take (i := 3) (v := ?v3q) (by simp only [List.getElem?_toArray, List.getElem?_cons_succ, List.getElem?_cons_zero, Option.some.injEq]; exact rfl) (by kernel_rfl) (by kernel_rfl) (by kernel_rfl) (by kernel_rfl) (by exact fun _ _ _ h => h) (Or.inl ⟨by rfl, fun w9 hS9 => ?hy3q⟩) (by exact cw) ?rest3q
                      case hy3q => (try dsimp only at hS9); go_simp <;> with_reducible rfl
                      try simp only [Act.put, List.setIfInBounds_toArray, List.set_cons_zero, List.set_cons_succ]
                      refine wpAnyJ_take (i := 4) (v := ?v4q) (by simp only [List.getElem?_toArray, List.getElem?_cons_succ, List.getElem?_cons_zero, Option.some.injEq]; exact rfl) (by kernel_rfl) (by kernel_rfl) (by kernel_rfl) (by kernel_rfl) (by exact fun _ _ _ h => h) (Or.inl ⟨by rfl, fun w9 hS9 => ?hy4q⟩) (by exact cw) ?rest4q
                      case hy4q => (try dsimp only at hS9); go_simp <;> with_reducible rfl
                      try simp only [Act.put, List.setIfInBounds_toArray, List.set_cons_zero, List.set_cons_succ]
                      refine wpAnyJ_take (i := 6) (v := ?v6q) (by simp only [List.getElem?_toArray, List.getElem?_cons_succ, List.getElem?_cons_zero, Option.some.injEq]; exact rfl) (by kernel_rfl) (by kernel_rfl) (by kernel_rfl) (by kernel_rfl) (by exact fun _ _ _ h => h) (Or.inl ⟨by rfl, fun w9 hS9 => ?hy6q⟩) (by exact cw) ?rest6q
                      case hy6q => (try dsimp only at hS9); go_simp <;> with_reducible rfl
                      try simp only [Act.put, List.setIfInBounds_toArray, List.set_cons_zero, List.set_cons_succ]
                      refine wpAnyJ_take (i := 7) (v := ?v7q) (by simp only [List.getElem?_toArray, List.getElem?_cons_succ, List.getElem?_cons_zero, Option.some.injEq]; exact rfl) (by kernel_rfl) (by kernel_rfl) (by kernel_rfl) (by kernel_rfl) (by exact fun _ _ _ h => h) (Or.inl ⟨by rfl, fun w9 hS9 => ?hy7q⟩) (by exact cw) ?rest7q
                      case hy7q => (try dsimp only at hS9); go_simp <;> with_reducible rfl
                      try simp only [Act.put, List.setIfInBounds_toArray, List.set_cons_zero, List.set_cons_succ]
                      refine wpAnyJ_take (i := 8) (v := ?v8q) (by simp only [List.getElem?_toArray, List.getElem?_cons_succ, List.getElem?_cons_zero, Option.some.injEq]; exact rfl) (by kernel_rfl) (by kernel_rfl) (by kernel_rfl) (by kernel_rfl) (by exact fun _ _ _ h => h) (Or.inl ⟨by rfl, fun w9 hS9 => ?hy8q⟩) (by exact cw) ?rest8q
                      case hy8q => (try dsimp only at hS9); go_simp <;> with_reducible rfl
                      try simp only [Act.put, List.setIfInBounds_toArray, List.set_cons_zero, List.set_cons_succ]
                      refine wpAnyJ_take (i := 9) (v := ?v9q) (by simp only [List.getElem?_toArray, List.getElem?_cons_succ, List.getElem?_cons_zero, Option.some.injEq]; exact rfl) (by kernel_rfl) (by kernel_rfl) (by kernel_rfl) (by kernel_rfl) (by exact fun _ _ _ h => h) (Or.inl ⟨by rfl, fun w9 hS9 => ?hy9q⟩) (by exact cw) ?rest9q
                      case hy9q => (try dsimp only at hS9); go_simp <;> with_reducible rfl
                      try simp only [Act.put, List.setIfInBounds_toArray, List.set_cons_zero, List.set_cons_succ]
                      refine wpAnyJ_take (i := 10) (v := ?v10q) (by simp only [List.getElem?_toArray, List.getElem?_cons_succ, List.getElem?_cons_zero, Option.some.injEq]; exact rfl) (by kernel_rfl) (by kernel_rfl) (by kernel_rfl) (by kernel_rfl) (by exact fun _ _ _ h => h) (Or.inl ⟨by rfl, fun w9 hS9 => ?hy10q⟩) (by exact cw) ?rest10q
                      case hy10q => (try dsimp only at hS9); go_simp <;> with_reducible rfl
                      try simp only [Act.put, List.setIfInBounds_toArray, List.set_cons_zero, List.set_cons_succ]
                      refine wpAnyJ_one (i := 0) (by simp only [List.getElem?_toArray, List.getElem?_cons_succ, List.getElem?_cons_zero, Option.some.injEq]; exact rfl) (by kernel_rfl) (fun K hK => ?_)
                      go_simp
                      have xz : Ext wq (wq.drew.alloc (.cells #[] 72)) := (Ext.refl wq).drew.alloc _
                      have HE := hid (show (wq.drew.alloc (.cells #[] 72)).heap[wq.heap.size]? = some (.cells #[] 72 (0, 0)) from heap_alloc_new wq.drew _)
                      refine hK _ _ (HCW.out _ xz).1 ?_
                      try simp only [Act.put, List.setIfInBounds_toArray, List.set_cons_zero, List.set_cons_succ]
                      clear hK K
                      refine wpAnyJ_one (i := 5) (by simp only [List.getElem?_toArray, List.getElem?_cons_succ, List.getElem?_cons_zero, Option.some.injEq]; exact rfl) (by kernel_rfl) (fun K hK => ?_)
                      refine step_appq elemRec (by decide) rfl _ _ rfl (ownsRow_lit (base := wq.heap.size) (Nat.le_refl _) HE.out) rfl (A := some ⟨g, 0, none⟩) (n := j) rfl (news := cs.take (j * 4)) HL1.out (HN1.out _ xz) HO1.out (by have := HBD.out; omega) xz.size (w0 := wq) (Nat.le_refl _) xz ?_
                      intro v4 w4 hO1 xs1 _
                      rw [Nat.zero_add, List.nil_append] at hO1
                      refine hK _ _ (HCW.out _ xs1).1 ?_
                      try simp only [Act.put, List.setIfInBounds_toArray, List.set_cons_zero, List.set_cons_succ]
                      clear hK K
                      refine wpAnyJ_one (i := 11) (by simp only [List.getElem?_toArray, List.getElem?_cons_succ, List.getElem?_cons_zero, Option.some.injEq]; exact rfl) (by kernel_rfl) (fun K hK => ?_)
                      refine step_appq elemRec (by decide) rfl _ _ rfl hO1 rfl (A := A9) (n := rs.length - (j + 1)) rfl (news := cs.drop ((j + 1) * 4)) HL2.out (HN2.out _ xs1) HO2.out (by have := HBD.out; omega) xs1.size (w0 := wq) (Nat.le_refl _) xs1 ?_
                      intro v5 w5 hO2 xs2 _
                      obtain ⟨F5, hB5, ip5⟩ := HDR.out w5 v5 hO2 xs2 HXQ.out.size
                      obtain ⟨A5, c5, e5, _⟩ := hB5.sl.form
                      obtain ⟨n5, hn5⟩ : ∃ n, n = (rs.eraseIdx j).length := ⟨_, rfl⟩
                      rw [← hn5] at e5
                      subst e5
                      clear hO2 hO1 hn5
                      refine hK _ _ (HCW.out _ xs2).1 ?_
                      try simp only [Act.put, List.setIfInBounds_toArray, List.set_cons_zero, List.set_cons_succ]
                      clear hK K
                      refine wpAnyJ_one (i := 12) (by simp only [List.getElem?_toArray, List.getElem?_cons_succ, List.getElem?_cons_zero, Option.some.injEq]; exact rfl) (by kernel_rfl) (fun K hK => ?_)
                      go_simp
                      refine hK _ _ (HCW.out _ xs2).1 ?_
                      try simp only [Act.put, List.setIfInBounds_toArray, List.set_cons_zero, List.set_cons_succ]
                      clear hK K
                      have c9 := (HCW.out _ xs2).1
                      have f9 := (HCW.out _ xs2).2 1
                      refine wpAnyJ_last (by simp only [List.getElem?_toArray, List.getElem?_cons_succ, List.getElem?_cons_zero, Option.some.injEq]; exact rfl) (by kernel_rfl) (by kernel_rfl) (fun K hK => ?_)
                      go_simp
                      refine hK _ _ ?_
                      clear hK K c9 f9
                      obtain ⟨b9, hS9⟩ := HSQ.out.putR hB5 ip5
                      have x9 : Ext W3 (w5.setCell ⟨gx, 1, none⟩ (.slice A5 n5 c5)) := (HXQ.out.trans xs2).setCell HSQ.out.hb _
                      have HOC9 := hid (show (w5.setCell ⟨gx, 1, none⟩ (.slice A5 n5 c5)).cell? ⟨wr.heap.size, 0, none⟩ = some (.int .i64 b.ops[k].kind) ∧ OpCells (w5.setCell ⟨gx, 1, none⟩ (.slice A5 n5 c5)) wr.heap.size b.ops[k] (.slice A2 b.ops[k].record.fields.length cap2) from by
                        have h5 := HOC.out _ xs2
                        unfold OpCells
                        simp only [cell_setOther hgne2]
                        exact h5)
                      obtain ⟨W9, hW9⟩ : ∃ W9, W9 = w5.setCell ⟨gx, 1, none⟩ (.slice A5 n5 c5) := ⟨_, rfl⟩
                      rw [← hW9] at hS9 x9 HOC9 ⊢
                      clear hW9 b9 hB5 ip5 cw a1 a2 a3 a4 a5 a6 xs2 xs1 xz
                      have hS8 := hS9
                      have x8 := x9
                      have HB8 := hid (show ∀ W, Ext W9 W → W.cell? ⟨wr.heap.size, 0, none⟩ = some (.int .i64 b.ops[k].kind) ∧ OpCells W wr.heap.size b.ops[k] (.slice A2 b.ops[k].record.fields.length cap2) from fun W y => (show W.cell? ⟨wr.heap.size, 0, none⟩ = some (.int .i64 b.ops[k].kind) ∧ OpCells W wr.heap.size b.ops[k] (.slice A2 b.ops[k].record.fields.length cap2) from ⟨y.cell HOC9.out.1, HOC9.out.2.ext y⟩))
                      obtain ⟨⟨g0, g1, g2⟩, gf⟩ := hS8.cells
                      obtain ⟨_, _, k5, k6, k7, k8⟩ := HB8.out _ (Ext.refl _)
                      go_wp2_with fail
                      refine (spec_l28At (.slice Av vs.length cv) vs b.ops[k].verdict _ hS8.r.v.sl).mono ?_
                      rintro e w20 ⟨rfl, x20⟩
                      have HS5 := hid (hS8.ext x20)
                      have HX5 := hid (x8.trans x20)
                      obtain ⟨iv, hiv⟩ : ∃ i, i = idxV vs b.ops[k].verdict := ⟨_, rfl⟩
                      rw [← hiv]
                      clear hiv g0 g1 g2 gf k5 k6 k7 k8
                      have k0 := (HB8.out _ x20).1
                      clear hS8 x8
                      go_wp2
                      go_roundw
                      case rel => exact ⟨k + 1, _, _, F5, by omega, by go_num, by rw [HUR.out, HUV.out, HDN.out, HK4.out]; exact HS5.out, HX5.out⟩
                      case measure => simp [intOf]; omega
                    · have bv : decide (rs[j].version ≤ b.ops[k].record.version) = false := by simp [hver]
                      have HDN := hid (show dnR2 rs b.ops[k] = rs from dnR2_v HH2.out hj HFI.out.symm hver)
                      clear hver
                      go_wp2_with fail
                      refine wp_region_ext (by kernel_rfl) (by kernel_rfl) ?_
                      repeat (go_big_quiet_step ((fail)))
                      refine wpQuiet_nil ?_
                      rintro w18 ⟨⟨_, x18⟩, rfl⟩
                      clear y0 y3 x1 z2
                      have hS8 := (hS17.ext x18)
                      have x8 := (x17w.trans x18)
                      have HB8 := hid (show ∀ W, Ext w18 W → W.cell? ⟨wr.heap.size, 0, none⟩ = some (.int .i64 b.ops[k].kind) ∧ OpCells W wr.heap.size b.ops[k] (.slice A2 b.ops[k].record.fields.length cap2) from fun W y => (HOB.out _ ((x17.trans x18).trans y)))
                      obtain ⟨⟨g0, g1, g2⟩, gf⟩ := hS8.cells
                      obtain ⟨_, _, k5, k6, k7, k8⟩ := HB8.out _ (Ext.refl _)
                      go_wp2_with fail
                      refine (spec_l28At (.slice Av vs.length cv) vs b.ops[k].verdict _ hS8.r.v.sl).mono ?_
                      rintro e w20 ⟨rfl, x20⟩
                      have HS5 := hid (hS8.ext x20)
                      have HX5 := hid (x8.trans x20)
                      obtain ⟨iv, hiv⟩ : ∃ i, i = idxV vs b.ops[k].verdict := ⟨_, rfl⟩
                      rw [← hiv]
                      clear hiv g0 g1 g2 gf k5 k6 k7 k8
                      have k0 := (HB8.out _ x20).1
                      clear hS8 x8
                      go_wp2
                      go_roundw
                      case rel => exact ⟨k + 1, _, _, F, by omega, by go_num, by rw [HUR.out, HUV.out, HDN.out, HK4.out]; exact HS5.out, HX5.out⟩
                      case measure => simp [intOf]; omega
                · have b2 : (b.ops[k].kind == 2) = false := by simp [h2]
                  have HDN := hid (show dnR2 rs b.ops[k] = rs from dnR2_n h2)
                  clear hfc h2
                  go_wp2_with fail
                  refine wp_region_ext (by kernel_rfl) (by kernel_rfl) ?_
                  repeat (go_big_quiet_step ((fail)))
                  refine wpQuiet_nil ?_
                  rintro w18 ⟨⟨_, x18⟩, rfl⟩
                  clear y0 y3 x1
                  by_cases h4 : b.ops[k].kind = 4
                  · have b4 : (b.ops[k].kind == 4) = true := by simp [h4]
                    have HH4 := hid h4
                    have hic := idxV_cases vs b.ops[k].verdict
                    clear h4
                    have hS8 := hS17.ext x18
                    have x8 := x17w.trans x18
                    have HB8 := hid (show ∀ W, Ext w18 W → W.cell? ⟨wr.heap.size, 0, none⟩ = some (.int .i64 b.ops[k].kind) ∧ OpCells W wr.heap.size b.ops[k] (.slice A2 b.ops[k].record.fields.length cap2) from fun W y => HOB.out _ ((x17.trans x18).trans y))
                    obtain ⟨⟨g0, g1, g2⟩, gf⟩ := hS8.cells
                    obtain ⟨_, _, k5, k6, k7, k8⟩ := HB8.out _ (Ext.refl _)
                    go_wp2_with fail
                    refine (spec_l28At (.slice Av vs.length cv) vs b.ops[k].verdict _ hS8.r.v.sl).mono ?_
                    rintro e w20 ⟨rfl, x20⟩
                    have hSq := hS8.ext x20
                    have hxq := x8.trans x20
                    have k0 := (HB8.out _ x20).1
                    clear g0 g1 g2 gf k5 k6 k7 k8 hS8 x8
                    rcases hic with ⟨hi, _⟩ | ⟨j, hj, hi, _⟩
                    · have HDV := hid (show dnV2 vs b.ops[k] = vs from dnV2_0 hi)
                      rw [hi]
                      clear hi
                      have HS5 := hid hSq
                      have HX5 := hid hxq
                      clear hSq hxq
                      go_wp2
                      go_roundw
                      case rel => exact ⟨k + 1, _, _, F, by omega, by go_num, by rw [HUR.out, HUV.out, HDN.out, HDV.out]; exact HS5.out, HX5.out⟩
                      case measure => simp [intOf]; omega
                    · have HDV := hid (show dnV2 vs b.ops[k] = vs.eraseIdx j from dnV2_y HH4.out hi)
                      rw [hi]
                      clear hi
                      have hj0 : (0 : Int) ≤ (j : Int) := by omega
                      obtain ⟨g, cap, _, e9, _⟩ := del_row rfl vers_one1 hSq.r.v hj
                      injection e9 with e9 _ e10
                      subst e9
                      subst e10
                      have HOC := hid (show ∀ W, Ext w20 W → W.cell? ⟨wr.heap.size, 0, none⟩ = some (.int .i64 b.ops[k].kind) ∧ OpCells W wr.heap.size b.ops[k] (.slice A2 b.ops[k].record.fields.length cap2) from fun W y => HB8.out _ (x20.trans y))
                      obtain ⟨wq, hwq⟩ : ∃ wq, wq = w20 := ⟨_, rfl⟩
                      rw [← hwq] at hSq hxq HOC k0 ⊢
                      clear hwq x20 x18 x17 x17w hS17 hS hSb hx hxb xb hrl
                      have hrl := hvl
                      obtain ⟨g9, cap9, cs, e9, ⟨hc1, hc2⟩, hcl, hcc, h1c, hdr⟩ := del_row rfl vers_one1 hSq.r.v hj
                      injection e9 with e9 _ e10
                      injection e9 with e9
                      injection e9 with e11 _ _
                      subst e11
                      subst e10
                      obtain ⟨A9, hA9⟩ : ∃ A9, (if cv = j + 1 then (some ⟨g, 0, none⟩ : Option Addr) else some ⟨g, (j + 1) * 4, none⟩) = A9 := ⟨_, rfl⟩
                      have HN1 := hid (show ∀ W, Ext wq W → 0 < j → ∃ ad, (some ⟨g, 0, none⟩ : Option Addr) = some ad ∧ ∀ i u, (cs.take (j * 4))[i]? = some u → W.cell? (ad.add i) = some u from fun W y _ => ⟨_, rfl, fun i u hi => by
                        rw [List.getElem?_take] at hi
                        split at hi
                        · have := hcc W y i u hi
                          rw [show (⟨g, 0, none⟩ : Addr).add i = ⟨g, i, none⟩ by by_cases h0 : i = 0 <;> simp [Addr.add, h0]]; exact this
                        · cases hi⟩)
                      have HN2 := hid (show ∀ W, Ext wq W → 0 < vs.length - (j + 1) → ∃ ad, A9 = some ad ∧ ∀ i u, (cs.drop ((j + 1) * 4))[i]? = some u → W.cell? (ad.add i) = some u from fun W y hp => ⟨⟨g, (j + 1) * 4, none⟩, by rw [← hA9, if_neg (by omega)], fun i u hi => by
                        rw [List.getElem?_drop] at hi
                        rw [show (⟨g, (j + 1) * 4, none⟩ : Addr).add i = ⟨g, (j + 1) * 4 + i, none⟩ by by_cases h0 : i = 0 <;> simp [Addr.add, h0]]
                        exact hcc W y _ u hi⟩)
                      have HL1 := hid (show (cs.take (j * 4)).length = j * 4 by rw [List.length_take, hcl]; omega)
                      have HL2 := hid (show (cs.drop ((j + 1) * 4)).length = (vs.length - (j + 1)) * 4 by rw [List.length_drop, hcl]; omega)
                      have HO1 := hid (show ∀ u ∈ cs.take (j * 4), u.oneCell' = true from fun u hu => h1c u (List.mem_of_mem_take hu))
                      have HO2 := hid (show ∀ u ∈ cs.drop ((j + 1) * 4), u.oneCell' = true from fun u hu => h1c u (List.mem_of_mem_drop hu))
                      have HDR := hid hdr
                      have HCW := hid (show ∀ W, Ext wq W → W.cell? ⟨gx, 2, none⟩ = some (.slice (some ⟨g, 0, none⟩) vs.length cv) ∧ ∀ i, W.frozen? ⟨gx, i, none⟩ = false from fun W y => ⟨(hSq.ext y).cells.1.2.2, (hSq.ext y).cells.2⟩)
                      have cw : wq.cell? ⟨gx, 2, none⟩ = some (.slice (some ⟨g, 0, none⟩) vs.length cv) := (HCW.out _ (Ext.refl _)).1
                      have HBD := hid (And.intro hrl hj)
                      have HSQ := hid hSq
                      have HXQ := hid hxq
                      have a1 : (j : Int) ≤ (cv : Int) := by omega
                      have a2 : j ≤ cv := by omega
                      have a3 : j + 1 ≤ cv := by omega
                      have a4 : (0 : Int) ≤ (j : Int) + 1 := by omega
                      have a5 : (j : Int) + 1 ≤ (vs.length : Int) := by omega
                      have a6 : IntKind.i64.wrap ((j : Int) + 1) = (j : Int) + 1 := by rw [IntKind.wrap_i64]; omega
                      have HAA := hid hA9
                      clear hcc h1c hdr hcl hSq hxq hc1 hc2 hrl
                      go_wp2_with fail
                      refine wp_region_J 13 (fun w' => w'.cell? ⟨gx, 2, none⟩ = some (.slice (some ⟨g, 0, none⟩) vs.length cv)) (by kernel_rfl) ?_
                      refine wpAnyJ_take (i := 1) (v := ?v1p) (by simp only [List.getElem?_toArray, List.getElem?_cons_succ, List.getElem?_cons_zero, Option.some.injEq]; exact rfl) (by kernel_rfl) (by kernel_rfl) (by kernel_rfl) (by kernel_rfl) (by exact fun _ _ _ h => h) (Or.inl ⟨by rfl, fun w9 hS9 => ?hy1p⟩) (by exact cw) ?rest1p
                      case hy1p => (try dsimp only at hS9); go_simp <;> with_reducible rfl
                      try simp only [Act.put, List.setIfInBounds_toArray, List.set_cons_zero, List.set_cons_succ]
                      refine wpAnyJ_take (i := 2) (v := ?v2p) (by simp only [List.getElem?_toArray, List.getElem?_cons_succ, List.getElem?_cons_zero, Option.some.injEq]; exact rfl) (by kernel_rfl) (by kernel_rfl) (by kernel_rfl) (by kernel_rfl) (by exact fun _ _ _ h => h) (Or.inl ⟨by rfl, fun w9 hS9 => ?hy2p⟩) (by exact cw) ?rest2p
                      case hy2p => (try dsimp only at hS9); go_simp <;> with_reducible rfl
                      try simp only [Act.put, List.setIfInBounds_toArray, List.set_cons_zero, List.set_cons_succ]
                      refine wpAnyJ_take (i := 3) (v := ?v3p) (by simp only [List.getElem?_toArray, List.getElem?_cons_succ, List.getElem?_cons_zero, Option.some.injEq]; exact rfl) (by kernel_rfl) (by kernel_rfl) (by kernel_rfl) (by kernel_rfl) (by exact fun _ _ _ h => h) (Or.inl ⟨by rfl, fun w9 hS9 => ?hy3p⟩) (by exact cw) ?rest3p
                      case hy3p => (try dsimp only at hS9); go_simp <;> with_reducible rfl
                      try simp only [Act.put, List.setIfInBounds_toArray, List.set_cons_zero, List.set_cons_succ]
                      refine wpAnyJ_take (i := 4) (v := ?v4p) (by simp only [List.getElem?_toArray, List.getElem?_cons_succ, List.getElem?_cons_zero, Option.some.injEq]; exact rfl) (by kernel_rfl) (by kernel_rfl) (by kernel_rfl) (by kernel_rfl) (by exact fun _ _ _ h => h) (Or.inl ⟨by rfl, fun w9 hS9 => ?hy4p⟩) (by exact cw) ?rest4p
                      case hy4p => (try dsimp only at hS9); go_simp <;> with_reducible rfl
                      try simp only [Act.put, List.setIfInBounds_toArray, List.set_cons_zero, List.set_cons_succ]
                      refine wpAnyJ_take (i := 6) (v := ?v6p) (by simp only [List.getElem?_toArray, List.getElem?_cons_succ, List.getElem?_cons_zero, Option.some.injEq]; exact rfl) (by kernel_rfl) (by kernel_rfl) (by kernel_rfl) (by kernel_rfl) (by exact fun _ _ _ h => h) (Or.inl ⟨by rfl, fun w9 hS9 => ?hy6p⟩) (by exact cw) ?rest6p
                      case hy6p => (try dsimp only at hS9); go_simp <;> with_reducible rfl
                      try simp only [Act.put, List.setIfInBounds_toArray, List.set_cons_zero, List.set_cons_succ]
                      refine wpAnyJ_take (i := 7) (v := ?v7p) (by simp only [List.getElem?_toArray, List.getElem?_cons_succ, List.getElem?_cons_zero, Option.some.injEq]; exact rfl) (by kernel_rfl) (by kernel_rfl) (by kernel_rfl) (by kernel_rfl) (by exact fun _ _ _ h => h) (Or.inl ⟨by rfl, fun w9 hS9 => ?hy7p⟩) (by exact cw) ?rest7p
                      case hy7p => (try dsimp only at hS9); go_simp <;> with_reducible rfl
                      try simp only [Act.put, List.setIfInBounds_toArray, List.set_cons_zero, List.set_cons_succ]
                      refine wpAnyJ_take (i := 8) (v := ?v8p) (by simp only [List.getElem?_toArray, List.getElem?_cons_succ, List.getElem?_cons_zero, Option.some.injEq]; exact rfl) (by kernel_rfl) (by kernel_rfl) (by kernel_rfl) (by kernel_rfl) (by exact fun _ _ _ h => h) (Or.inl ⟨by rfl, fun w9 hS9 => ?hy8p⟩) (by exact cw) ?rest8p
                      case hy8p => (try dsimp only at hS9); go_simp <;> with_reducible rfl
                      try simp only [Act.put, List.setIfInBounds_toArray, List.set_cons_zero, List.set_cons_succ]
                      refine wpAnyJ_take (i := 9) (v := ?v9p) (by simp only [List.getElem?_toArray, List.getElem?_cons_succ, List.getElem?_cons_zero, Option.some.injEq]; exact rfl) (by kernel_rfl) (by kernel_rfl) (by kernel_rfl) (by kernel_rfl) (by exact fun _ _ _ h => h) (Or.inl ⟨by rfl, fun w9 hS9 => ?hy9p⟩) (by exact cw) ?rest9p
                      case hy9p => (try dsimp only at hS9); go_simp <;> with_reducible rfl
                      try simp only [Act.put, List.setIfInBounds_toArray, List.set_cons_zero, List.set_cons_succ]
                      refine wpAnyJ_take (i := 10) (v := ?v10p) (by simp only [List.getElem?_toArray, List.getElem?_cons_succ, List.getElem?_cons_zero, Option.some.injEq]; exact rfl) (by kernel_rfl) (by kernel_rfl) (by kernel_rfl) (by kernel_rfl) (by exact fun _ _ _ h => h) (Or.inl ⟨by rfl, fun w9 hS9 => ?hy10p⟩) (by exact cw) ?rest10p
                      case hy10p => (try dsimp only at hS9); go_simp <;> with_reducible rfl
                      try simp only [Act.put, List.setIfInBounds_toArray, List.set_cons_zero, List.set_cons_succ]
                      refine wpAnyJ_one (i := 0) (by simp only [List.getElem?_toArray, List.getElem?_cons_succ, List.getElem?_cons_zero, Option.some.injEq]; exact rfl) (by kernel_rfl) (fun K hK => ?_)
                      go_simp
                      have xz : Ext wq (wq.drew.alloc (.cells #[] 74)) := (Ext.refl wq).drew.alloc _
                      have HE := hid (show (wq.drew.alloc (.cells #[] 74)).heap[wq.heap.size]? = some (.cells #[] 74 (0, 0)) from heap_alloc_new wq.drew _)
                      refine hK _ _ (HCW.out _ xz).1 ?_
                      try simp only [Act.put, List.setIfInBounds_toArray, List.set_cons_zero, List.set_cons_succ]
                      clear hK K
                      refine wpAnyJ_one (i := 5) (by simp only [List.getElem?_toArray, List.getElem?_cons_succ, List.getElem?_cons_zero, Option.some.injEq]; exact rfl) (by kernel_rfl) (fun K hK => ?_)
                      refine step_appq elemVer (by decide) rfl _ _ rfl (ownsRow_lit (base := wq.heap.size) (Nat.le_refl _) HE.out) rfl (A := some ⟨g, 0, none⟩) (n := j) rfl (news := cs.take (j * 4)) HL1.out (HN1.out _ xz) HO1.out (by have := HBD.out; omega) xz.size (w0 := wq) (Nat.le_refl _) xz ?_
                      intro v4 w4 hO1 xs1 _
                      rw [Nat.zero_add, List.nil_append] at hO1
                      refine hK _ _ (HCW.out _ xs1).1 ?_
                      try simp only [Act.put, List.setIfInBounds_toArray, List.set_cons_zero, List.set_cons_succ]
                      clear hK K
                      refine wpAnyJ_one (i := 11) (by simp only [List.getElem?_toArray, List.getElem?_cons_succ, List.getElem?_cons_zero, Option.some.injEq]; exact rfl) (by kernel_rfl) (fun K hK => ?_)
                      refine step_appq elemVer (by decide) rfl _ _ rfl hO1 rfl (A := A9) (n := vs.length - (j + 1)) rfl (news := cs.drop ((j + 1) * 4)) HL2.out (HN2.out _ xs1) HO2.out (by have := HBD.out; omega) xs1.size (w0 := wq) (Nat.le_refl _) xs1 ?_
                      intro v5 w5 hO2 xs2 _
                      obtain ⟨F5, hB5, ip5⟩ := HDR.out w5 v5 hO2 xs2 HXQ.out.size
                      obtain ⟨A5, c5, e5, _⟩ := hB5.sl.form
                      obtain ⟨n5, hn5⟩ : ∃ n, n = (vs.eraseIdx j).length := ⟨_, rfl⟩
                      rw [← hn5] at e5
                      subst e5
                      clear hO2 hO1 hn5
                      refine hK _ _ (HCW.out _ xs2).1 ?_
                      try simp only [Act.put, List.setIfInBounds_toArray, List.set_cons_zero, List.set_cons_succ]
                      clear hK K
                      refine wpAnyJ_one (i := 12) (by simp only [List.getElem?_toArray, List.getElem?_cons_succ, List.getElem?_cons_zero, Option.some.injEq]; exact rfl) (by kernel_rfl) (fun K hK => ?_)
                      go_simp
                      refine hK _ _ (HCW.out _ xs2).1 ?_
                      try simp only [Act.put, List.setIfInBounds_toArray, List.set_cons_zero, List.set_cons_succ]
                      clear hK K
                      have c9 := (HCW.out _ xs2).1
                      have f9 := (HCW.out _ xs2).2 2
                      refine wpAnyJ_last (by simp only [List.getElem?_toArray, List.getElem?_cons_succ, List.getElem?_cons_zero, Option.some.injEq]; exact rfl) (by kernel_rfl) (by kernel_rfl) (fun K hK => ?_)
                      go_simp
                      refine hK _ _ ?_
                      clear hK K c9 f9
                      have hF5 : F5 = [] := ver_noF hB5
                      subst hF5
                      obtain ⟨b9, hS9⟩ := HSQ.out.putV hB5 ip5.2.1 ip5.2.2.2.2
                      have x9 : Ext W3 (w5.setCell ⟨gx, 2, none⟩ (.slice A5 n5 c5)) := (HXQ.out.trans xs2).setCell HSQ.out.hb _
                      have HOC9 := hid (show (w5.setCell ⟨gx, 2, none⟩ (.slice A5 n5 c5)).cell? ⟨wr.heap.size, 0, none⟩ = some (.int .i64 b.ops[k].kind) ∧ OpCells (w5.setCell ⟨gx, 2, none⟩ (.slice A5 n5 c5)) wr.heap.size b.ops[k] (.slice A2 b.ops[k].record.fields.length cap2) from by
                        have h5 := HOC.out _ xs2
                        unfold OpCells
                        simp only [cell_setOther hgne2]
                        exact h5)
                      obtain ⟨W9, hW9⟩ : ∃ W9, W9 = w5.setCell ⟨gx, 2, none⟩ (.slice A5 n5 c5) := ⟨_, rfl⟩
                      rw [← hW9] at hS9 x9 HOC9 ⊢
                      clear hW9 b9 hB5 ip5 cw a1 a2 a3 a4 a5 a6 xs2 xs1 xz
                      have HS5 := hid hS9
                      have HX5 := hid x9
                      clear hS9 x9
                      go_wp2
                      go_roundw
                      case rel => exact ⟨k + 1, _, _, F, by omega, by go_num, by rw [HUR.out, HUV.out, HDN.out, HDV.out]; exact HS5.out, HX5.out⟩
                      case measure => simp [intOf]; omega
                  · have b4 : (b.ops[k].kind == 4) = false := by simp [h4]
                    have HK4 := hid (show dnV2 vs b.ops[k] = vs from dnV2_n h4)
                    clear h4
                    have hS8 := (hS17.ext x18)
                    have x8 := (x17w.trans x18)
                    have HB8 := hid (show ∀ W, Ext w18 W → W.cell? ⟨wr.heap.size, 0, none⟩ = some (.int .i64 b.ops[k].kind) ∧ OpCells W wr.heap.size b.ops[k] (.slice A2 b.ops[k].record.fields.length cap2) from fun W y => (HOB.out _ ((x17.trans x18).trans y)))
                    obtain ⟨⟨g0, g1, g2⟩, gf⟩ := hS8.cells
                    obtain ⟨_, _, k5, k6, k7, k8⟩ := HB8.out _ (Ext.refl _)
                    go_wp2_with fail
                    refine (spec_l28At (.slice Av vs.length cv) vs b.ops[k].verdict _ hS8.r.v.sl).mono ?_
                    rintro e w20 ⟨rfl, x20⟩
                    have HS5 := hid (hS8.ext x20)
                    have HX5 := hid (x8.trans x20)
                    obtain ⟨iv, hiv⟩ : ∃ i, i = idxV vs b.ops[k].verdict := ⟨_, rfl⟩
                    rw [← hiv]
                    clear hiv g0 g1 g2 gf k5 k6 k7 k8
                    have k0 := (HB8.out _ x20).1
                    clear hS8 x8
                    go_wp2
                    go_roundw
                    case rel => exact ⟨k + 1, _, _, F, by omega, by go_num, by rw [HUR.out, HUV.out, HDN.out, HK4.out]; exact HS5.out, HX5.out⟩
                    case measure => simp [intOf]; omega
              · have hkn : b.ops.take k = b.ops := List.take_of_length_le (by omega)
                rw [hkn] at hS
                clear hkn hk
                obtain ⟨⟨g0, g1, g2⟩, gf⟩ := hS.cells
                go_wp2_with fail
                refine (spec_IsValidStore _ ⟨s.version + 1, (b.ops.foldl dnR2 (b.ops.foldl upR2 s.records)), (b.ops.foldl dnV2 (b.ops.foldl upV2 s.verdicts))⟩ _ (hS.at_ HIV.out)).mono ?_
                rintro e w7 ⟨rfl, x7⟩
                have x67 := hx.trans x7
                have hS7 := hS.ext x7
                rw [show (⟨s.version + 1, (b.ops.foldl dnR2 (b.ops.foldl upR2 s.records)), (b.ops.foldl dnV2 (b.ops.foldl upV2 s.verdicts))⟩ : Store) = newSto2 s b from rfl, HN2.out]
                clear g0 g1 g2 gf hS hx x7 q0 q1
                cases hn : okSto (newSto s b) with
                | false =>
                  have HNO := hid (appB_no (s := s) (b := b) fun h => by rw [hn] at h; cases h.2.2)
                  clear hn hS7
                  obtain ⟨⟨p0, p1, p2⟩, _⟩ := HBX.out _ x67
                  go_wp2_with fail
                  refine (spec_l30Copy2 _ s _ (HAT.out _ x67) hms hmv).mono ?_
                  rintro e wc ⟨rv, vv, F, rfl, R, _, xc⟩
                  clear p0 p1 p2
                  have hbase : W3.heap.size ≤ w7.heap.size := x67.size
                  have R3 := R.low hbase
                  clear R
                  obtain ⟨Ar, cr, er, _⟩ := (R3).r.sl.form
                  subst er
                  obtain ⟨Av, cv, ev, _⟩ := (R3).v.sl.form
                  subst ev
                  have bz := HZ.out _ (x67.trans xc)
                  obtain ⟨⟨z0, z1, z2⟩, zf⟩ := (⟨⟨bz.cells.1 0, bz.cells.1 1, bz.cells.1 2⟩, bz.cells.2⟩ : (_ ∧ _ ∧ _) ∧ _)
                  have b9 := Blk.store3 bz (.int .i64 s.version) (.slice Ar (s.records).length cr) (.slice Av (s.verdicts).length cv)
                  have r0 := b9.cells.1 0
                  have r1 := b9.cells.1 1
                  have r2 := b9.cells.1 2
                  have HFIN := hid (show AppOut w (.returned (.tuple #[.agg #[.int .i64 s.version, .slice Ar (s.records).length cr, .slice Av (s.verdicts).length cv], .bool false])) (((wc.setCell ⟨w.heap.size + 1 + 1, 0, none⟩ (.int .i64 s.version)).setCell ⟨w.heap.size + 1 + 1, 1, none⟩ (.slice Ar (s.records).length cr)).setCell ⟨w.heap.size + 1 + 1, 2, none⟩ (.slice Av (s.verdicts).length cv)) (appB s b) from by
                    have hsz := HS.out
                    obtain ⟨n1, n2⟩ := (R3).r.below (g := w.heap.size + 1 + 1) (by omega)
                    obtain ⟨_, n3⟩ := (R3).v.below (g := w.heap.size + 1 + 1) (by omega)
                    rw [HNO.out]
                    exact ⟨_, _, _, rfl, ((R3).kp (Kp.store3 (w.heap.size + 1 + 1) 0 _ _ _ _) n1 n2 n3).low (by omega), by first | exact HI.out | exact HIV.out, Ext.store3 (HX.out.trans (x67.trans xc)) (by omega) _ _ _⟩)
                  clear b9 bz
                  go_wp2
                  refine bodyPost_ret (v := .tuple #[.agg #[.int .i64 s.version, .slice Ar (s.records).length cr, .slice Av (s.verdicts).length cv], .bool false]) (by simp [results, Tryz.results8, go_sem, r0, r1, r2]) rfl ?_
                  exact HFIN.out
                | true =>
                  have HNO := hid (show appB s b = (newSto2 s b, true) from by rw [appB_yes (s := s) (b := b) ⟨HSB.out.1, HSB.out.2, hn⟩, HN2.out])
                  clear hn
                  obtain ⟨⟨g0, g1, g2⟩, gf⟩ := hS7.cells
                  have R3 := hS7.r
                  have hbase := hS7.hb
                  obtain ⟨Ar, cr, er, _⟩ := (R3).r.sl.form
                  subst er
                  obtain ⟨Av, cv, ev, _⟩ := (R3).v.sl.form
                  subst ev
                  have bz := HZ.out _ (x67)
                  obtain ⟨⟨z0, z1, z2⟩, zf⟩ := (⟨⟨bz.cells.1 0, bz.cells.1 1, bz.cells.1 2⟩, bz.cells.2⟩ : (_ ∧ _ ∧ _) ∧ _)
                  have b9 := Blk.store3 bz (.int .i64 (s.version + 1)) (.slice Ar ((b.ops.foldl dnR2 (b.ops.foldl upR2 s.records))).length cr) (.slice Av ((b.ops.foldl dnV2 (b.ops.foldl upV2 s.verdicts))).length cv)
                  have r0 := b9.cells.1 0
                  have r1 := b9.cells.1 1
                  have r2 := b9.cells.1 2
                  have HFIN := hid (show AppOut w (.returned (.tuple #[.agg #[.int .i64 (s.version + 1), .slice Ar ((b.ops.foldl dnR2 (b.ops.foldl upR2 s.records))).length cr, .slice Av ((b.ops.foldl dnV2 (b.ops.foldl upV2 s.verdicts))).length cv], .bool true])) (((w7.setCell ⟨w.heap.size + 1 + 1, 0, none⟩ (.int .i64 (s.version + 1))).setCell ⟨w.heap.size + 1 + 1, 1, none⟩ (.slice Ar ((b.ops.foldl dnR2 (b.ops.foldl upR2 s.records))).length cr)).setCell ⟨w.heap.size + 1 + 1, 2, none⟩ (.slice Av ((b.ops.foldl dnV2 (b.ops.foldl upV2 s.verdicts))).length cv)) (appB s b) from by
                    have hsz := HS.out
                    obtain ⟨n1, n2⟩ := (R3).r.below (g := w.heap.size + 1 + 1) (by omega)
                    obtain ⟨_, n3⟩ := (R3).v.below (g := w.heap.size + 1 + 1) (by omega)
                    rw [HNO.out]
                    exact ⟨_, _, _, rfl, ((R3).kp (Kp.store3 (w.heap.size + 1 + 1) 0 _ _ _ _) n1 n2 n3).low (by omega), by first | exact HI.out | exact HIV.out, Ext.store3 (HX.out.trans (x67)) (by omega) _ _ _⟩)
                  clear b9 bz
                  go_wp2
                  refine bodyPost_ret (v := .tuple #[.agg #[.int .i64 (s.version + 1), .slice Ar ((b.ops.foldl dnR2 (b.ops.foldl upR2 s.records))).length cr, .slice Av ((b.ops.foldl dnV2 (b.ops.foldl upV2 s.verdicts))).length cv], .bool true]) (by simp [results, Tryz.results8, go_sem, r0, r1, r2]) rfl ?_
                  exact HFIN.out

end Go.Proofs.YtfcbapaojoecgaaGreat
