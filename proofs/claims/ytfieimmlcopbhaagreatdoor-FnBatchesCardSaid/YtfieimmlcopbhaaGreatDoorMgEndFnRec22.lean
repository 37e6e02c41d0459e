/-
  SEVERAL SMALL TEXTS LAID TOGETHER: DrawR, DrawO, DrawT, DrawU.
-/
import Derived.Test.YtfieimmlcopbhaaGreatDoorMgEndFnRec5
import Derived.Test.YtfieimmlcopbhaaGreatDoorMgEndFnRec11
import Derived.Test.YtfieimmlcopbhaaGreatDoorMgEndFnRec21
import Derived.Laws.Concat
import Derived.Test.YtfieimmlcopbhaaGreatDoorMgEndFnRec14
import Derived.Test.YtfieimmlcopbhaaGreatDoorMgEndFnRec15

namespace Go.Proofs.YtfieimmlcopbhaaGreatDoor
open Go.RowKit

theorem Kept.alloc {g : Nat} {w w2 : World} (h : Kept g w w2) (o : Obj) : Kept g w (w2.alloc o) := h.trans (Ext.kept ((Ext.refl _).alloc _))
theorem Kept.drew {g : Nat} {w w2 : World} (h : Kept g w w2) : Kept g w w2.drew := h.trans (Ext.kept (Ext.refl _).drew)
theorem Kept.setN {g : Nat} {w w2 : World} (h : Kept g w w2) {p : Addr} (hp : w.heap.size ≤ p.block) (u : Value) : Kept g w (w2.setCell p u) :=
  ⟨by rw [World.size_setCell]; exact h.1, fun b hb hne => (keep_setCell (fun e => by omega)).trans (h.2 b hb hne)⟩
theorem Cur.setN {w0 w : World} {g : Nat} (h : Cur w0 w g) {p : Addr} (hp : g < p.block) (u : Value) : Cur w0 (w.setCell p u) g :=
  h.keep (h.base.1.setCell (by have := h.base.2.1; omega) u) (keep_setCell (by omega))
theorem Blk.kept {w w2 : World} {b g : Nat} {e : TypeId} {cs : List Value} (h : Blk w b e cs) (hne : b ≠ g) (k : Kept g w w2) : Blk w2 b e cs := h.keep (k.2 b (block_lt h) hne)
theorem lits_kept {w w2 : World} {g : Nat} {T : TypeId} {xs : List ByteArray} {cs : Array Value} (hcs : cs.toList = xs.map Value.string) (h : ∀ x ∈ xs, x.size ≤ maxLen) (hl : xs.length ≤ maxLen) (hg : g < w.heap.size) (k : Kept g (w.alloc (.cells cs T)) w2) :
    OwnSl strO w2 (.slice (some ⟨w.heap.size, 0, none⟩) xs.length xs.length) xs [w.heap.size] := by
  have hb := Blk.new w T cs
  rw [hcs] at hb
  exact (OwnSl.of_blk hb hl (strs_cells _ _ h)).kept (by simp; omega) k

set_option maxHeartbeats 400000 in
set_option maxRecDepth 20000 in
theorem spec_l1Pick (w0 w : World) (g : Nat) (v : Value) (xs : List ByteArray) (hl : 1 ≤ xs.length ∧ xs.length ≤ 256) (hz : ∀ x ∈ xs, x.size ≤ 32) (hc : Cur w0 w g) (hs : ∀ w2, Kept g w w2 → Sl strR w2 v xs) :
    Calls Tryz.prog 145 #[.pointer (some ⟨g, 0, none⟩), v] w fun e w2 => ∃ x : ByteArray, e = .returned (.string x) ∧ x.size ≤ 32 ∧ Cur w0 w2 g ∧ Kept g w w2 := by
  obtain ⟨A, cap, rfl, hm⟩ := (hs w (Kept.refl _ _)).form
  go_enter Tryz.func145, Tryz.ntmps145
  go_wp2_with fail
  refine (spec_l1Below w0 w g xs.length (by omega) hc).mono ?_
  rintro e w2 ⟨x, rfl, hx, hc2, hk⟩
  obtain ⟨j, rfl⟩ : ∃ j : Nat, x = j := ⟨x.toNat, by omega⟩
  have hj : j < xs.length := by omega
  have hs2 := hs w2 hk
  obtain ⟨b, off, rfl, hI, hcell⟩ := hs2.str hj
  have HZ := hid (hz _ (List.getElem_mem hj))
  go_wp2
  go_ret
  exact ⟨_, rfl, HZ.out, hc2, hk⟩

/-- a record that was drawn -/
def RecDrawn (w0 w : World) (g : Nat) (e : Ending) (w2 : World) : Prop := ∃ b r, e = .returned (.agg #[.int .i64 r.source, .int .i64 r.key, .int .i64 r.version, .slice (some ⟨b, 0, none⟩) 4 4]) ∧ Record.ok r ∧ OwnSl strO w2 (.slice (some ⟨b, 0, none⟩) 4 4) r.fields [b] ∧ r.fields.length = 4 ∧ w.heap.size ≤ b ∧ Cur w0 w2 g ∧ Kept g w w2
/-- a verdict that was drawn -/
def VerDrawn (w0 w : World) (g : Nat) (e : Ending) (w2 : World) : Prop := ∃ v : Verdict, e = .returned (.agg #[.int .i64 v.a, .int .i64 v.b, .bool v.same, .int .i64 v.time]) ∧ v.ok ∧ Cur w0 w2 g ∧ Kept g w w2

set_option maxHeartbeats 400000 in
set_option maxRecDepth 20000 in
theorem spec_l2Name (w0 w : World) (g : Nat) (hc : Cur w0 w g) :
    Calls Tryz.prog 112 #[.pointer (some ⟨g, 0, none⟩)] w fun e w2 => ∃ s : ByteArray, e = .returned (.string s) ∧ s.size ≤ 200 ∧ Cur w0 w2 g ∧ Kept g w w2 := by
  have hg := hc.base.2.2
  have e1 : (⟨#[44, 32]⟩ : ByteArray).size = 2 := rfl
  have e2 : (⟨#[32]⟩ : ByteArray).size = 1 := rfl
  go_enter Tryz.func112, Tryz.ntmps112
  go_wp2_with fail
  refine (spec_l1Pick w0 _ g _ [⟨#[97, 110, 110, 97]⟩, ⟨#[65, 110, 110, 97]⟩, ⟨#[97, 110, 110]⟩, ⟨#[106, 111, 104, 110]⟩, ⟨#[74, 111, 110]⟩, ⟨#[109, 97, 114, 105, 97]⟩, ⟨#[77, 97, 114, 121]⟩, ⟨#[112, 101, 116, 101, 114]⟩, ⟨#[79, 39, 78, 101, 105, 108]⟩, ⟨#[108, 105]⟩] (by decide) (by decide) (hc.ext ((Ext.refl _).alloc _)) (fun w4 k4 => (lits_kept rfl (by decide) (by decide) hg k4).sl)).mono ?_
  rintro e w1 ⟨f, rfl, hf, hc1, hk1⟩
  replace hk1 := (Ext.kept (g := g) ((Ext.refl _).alloc _)).trans hk1
  have hg1 := hc1.base.2.2
  go_wp2_with fail
  refine (spec_l1Pick w0 _ g _ [⟨#[115, 109, 105, 116, 104]⟩, ⟨#[83, 109, 121, 116, 104]⟩, ⟨#[115, 99, 104, 109, 105, 100, 116]⟩, ⟨#[106, 111, 110, 101, 115]⟩, ⟨#[74, 111, 110, 97, 115]⟩, ⟨#[108, 101, 101]⟩, ⟨#[100, 101, 32, 108, 97, 32, 67, 114, 117, 122]⟩, ⟨#[109, 105, 108, 108, 101, 114]⟩, ⟨#[77, 117, 108, 108, 101, 114]⟩] (by decide) (by decide) (hc1.ext ((Ext.refl _).alloc _)) (fun w4 k4 => (lits_kept rfl (by decide) (by decide) hg1 k4).sl)).mono ?_
  rintro e w2 ⟨l, rfl, hl, hc2, hk2⟩
  replace hk2 := (Ext.kept (g := g) ((Ext.refl _).alloc _)).trans hk2
  have hg2 := hc2.base.2.2
  go_wp2_with fail
  refine (spec_l1Below w0 _ g 6 (by decide) hc2).mono ?_
  rintro e w3 ⟨x, rfl, hx, hc3, hk3⟩
  have hg3 := hc3.base.2.2
  have hk := hk1.trans (hk2.trans hk3)
  by_cases h0 : x = 0
  · subst h0
    have s1 := run_cat (P := Tryz.prog) 9 (l) (⟨#[44, 32]⟩) (by simp only [ByteArray.size_append, e1, e2]; omega)
    have s2 := run_cat (P := Tryz.prog) 9 (l ++ ⟨#[44, 32]⟩) (f) (by simp only [ByteArray.size_append, e1, e2]; omega)
    go_wp2
    go_ret
    exact ⟨_, rfl, by simp only [ByteArray.size_append, e1, e2]; omega, hc3, hk⟩
  · by_cases h1 : x = 1
    · subst h1
      have s1 := run_cat (P := Tryz.prog) 9 (f) (⟨#[32]⟩) (by simp only [ByteArray.size_append, e1, e2]; omega)
      go_wp2_with fail
      refine (spec_l1Pick w0 _ g _ [⟨#[97, 46]⟩, ⟨#[66]⟩, ⟨#[106]⟩] (by decide) (by decide) (hc3.ext ((Ext.refl _).alloc _)) (fun w4 k4 => (lits_kept rfl (by decide) (by decide) hg3 k4).sl)).mono ?_
      rintro e w4 ⟨m, rfl, hm, hc4, hk4⟩
      replace hk4 := (Ext.kept (g := g) ((Ext.refl _).alloc _)).trans hk4
      have hg4 := hc4.base.2.2
      have s2 := run_cat (P := Tryz.prog) 9 (f ++ ⟨#[32]⟩) (m) (by simp only [ByteArray.size_append, e1, e2]; omega)
      have s3 := run_cat (P := Tryz.prog) 9 (f ++ ⟨#[32]⟩ ++ m) (⟨#[32]⟩) (by simp only [ByteArray.size_append, e1, e2]; omega)
      have s4 := run_cat (P := Tryz.prog) 9 (f ++ ⟨#[32]⟩ ++ m ++ ⟨#[32]⟩) (l) (by simp only [ByteArray.size_append, e1, e2]; omega)
      go_wp2
      go_ret
      exact ⟨_, rfl, by simp only [ByteArray.size_append, e1, e2]; omega, hc4, hk.trans hk4⟩
    · by_cases h2 : x = 2
      · subst h2
        go_wp2
        go_ret
        exact ⟨_, rfl, by omega, hc3, hk⟩
      · have s1 := run_cat (P := Tryz.prog) 9 (f) (⟨#[32]⟩) (by simp only [ByteArray.size_append, e1, e2]; omega)
        have s2 := run_cat (P := Tryz.prog) 9 (f ++ ⟨#[32]⟩) (l) (by simp only [ByteArray.size_append, e1, e2]; omega)
        go_wp2
        go_ret
        exact ⟨_, rfl, by simp only [ByteArray.size_append, e1, e2]; omega, hc3, hk⟩

set_option maxHeartbeats 400000 in
theorem spec_l7Phone (w0 w : World) (g : Nat) (hc : Cur w0 w g) :
    Calls Tryz.prog 179 #[.pointer (some ⟨g, 0, none⟩)] w fun e w2 => ∃ s : ByteArray, e = .returned (.string s) ∧ s.size ≤ 32 ∧ Cur w0 w2 g ∧ Kept g w w2 := by
  have hg := hc.base.2.2
  go_enter Tryz.func179, Tryz.ntmps179
  go_wp2_with fail
  refine (spec_l1Pick w0 _ g _ [⟨#[53, 53, 53, 32, 49, 50, 51, 52]⟩, ⟨#[43, 49, 32, 53, 53, 53, 45, 49, 50, 51, 52]⟩, ⟨#[49, 53, 53, 53, 49, 50, 51, 52]⟩, ⟨#[53, 53, 53, 49, 50, 51, 52]⟩, ⟨#[49, 50, 51, 52]⟩, ⟨#[50, 51, 52]⟩, ⟨#[]⟩, ⟨#[53, 53, 53, 45, 57, 57, 57, 57]⟩, ⟨#[48, 48, 52, 52, 32, 50, 48, 32, 55, 57, 52, 54, 32, 48, 48, 49, 56]⟩, ⟨#[55, 57, 52, 54, 32, 48, 48, 49, 56]⟩, ⟨#[120]⟩] (by decide) (by decide) (hc.ext ((Ext.refl _).alloc _)) (fun w4 k4 => (lits_kept rfl (by decide) (by decide) hg k4).sl)).mono ?_
  rintro e w1 ⟨f, rfl, hf, hc1, hk1⟩
  replace hk1 := (Ext.kept (g := g) ((Ext.refl _).alloc _)).trans hk1
  have hg1 := hc1.base.2.2
  go_wp2
  go_ret
  exact ⟨_, rfl, hf, hc1, hk1⟩

set_option maxHeartbeats 400000 in
set_option maxRecDepth 20000 in
theorem spec_l8Fields (w0 w : World) (g : Nat) (hc : Cur w0 w g) :
    Calls Tryz.prog 169 #[.pointer (some ⟨g, 0, none⟩)] w fun e w2 => ∃ b fs, e = .returned (.slice (some ⟨b, 0, none⟩) 4 4) ∧ OwnSl strO w2 (.slice (some ⟨b, 0, none⟩) 4 4) fs [b] ∧ fs.length = 4 ∧ w.heap.size ≤ b ∧ Cur w0 w2 g ∧ Kept g w w2 := by
  have hg := hc.base.2.2
  go_enter Tryz.func169, Tryz.ntmps169
  go_wp2_with fail
  refine (spec_l2Name w0 _ g hc).mono ?_
  rintro e w1 ⟨n, rfl, hn, hc1, hk1⟩
  have hg1 := hc1.base.2.2
  go_wp2_with fail
  refine (spec_l1Pick w0 _ g _ [⟨#[80, 97, 114, 105, 115]⟩, ⟨#[112, 97, 114, 105, 115]⟩, ⟨#[76, 111, 110, 100, 111, 110]⟩, ⟨#[78, 101, 119, 32, 89, 111, 114, 107]⟩, ⟨#[110, 101, 119, 45, 121, 111, 114, 107]⟩, ⟨#[]⟩, ⟨#[82, 111, 109, 101]⟩] (by decide) (by decide) (hc1.ext ((Ext.refl _).alloc _)) (fun w4 k4 => (lits_kept rfl (by decide) (by decide) hg1 k4).sl)).mono ?_
  rintro e w2 ⟨p, rfl, hp, hc2, hk2⟩
  replace hk2 := (Ext.kept (g := g) ((Ext.refl _).alloc _)).trans hk2
  have hg2 := hc2.base.2.2
  go_wp2_with fail
  refine (spec_l1Pick w0 _ g _ [⟨#[49, 57, 56, 48]⟩, ⟨#[49, 57, 56, 49]⟩, ⟨#[49, 57, 56, 53]⟩, ⟨#[]⟩, ⟨#[49, 57, 57, 48]⟩, ⟨#[120]⟩] (by decide) (by decide) (hc2.ext ((Ext.refl _).alloc _)) (fun w4 k4 => (lits_kept rfl (by decide) (by decide) hg2 k4).sl)).mono ?_
  rintro e w3 ⟨q, rfl, hq, hc3, hk3⟩
  replace hk3 := (Ext.kept (g := g) ((Ext.refl _).alloc _)).trans hk3
  have hg3 := hc3.base.2.2
  go_wp2_with fail
  refine (spec_l7Phone w0 _ g hc3).mono ?_
  rintro e w4 ⟨r, rfl, hr, hc4, hk4⟩
  have hk := hk1.trans (hk2.trans (hk3.trans hk4))
  go_wp2
  go_ret
  have hmx : (200 : Nat) ≤ maxLen := by decide
  exact ⟨w4.heap.size, [n, p, q, r], rfl, OwnSl.of_blk (xs := [n, p, q, r]) (Blk.new w4 9 #[.string n, .string p, .string q, .string r]) (by show 4 ≤ maxLen; decide) (strs_cells _ [n, p, q, r] (by
    intro y hy
    simp only [List.mem_cons, List.not_mem_nil, or_false] at hy
    rcases hy with rfl | rfl | rfl | rfl <;> omega)), rfl, hk.1, hc4.ext ((Ext.refl _).alloc _), hk.alloc _⟩

set_option maxHeartbeats 400000 in
set_option maxRecDepth 20000 in
theorem spec_l8Record (w0 w : World) (g : Nat) (hc : Cur w0 w g) :
    Calls Tryz.prog 143 #[.pointer (some ⟨g, 0, none⟩)] w (RecDrawn w0 w g) := by
  have hg := hc.base.2.2
  have hc0 := hc.ext ((Ext.refl w).alloc (.cells #[.int .i64 0, .int .i64 0, .int .i64 0, .slice none 0 0] 24))
  have k0 := Ext.kept (g := g) ((Ext.refl w).alloc (.cells #[.int .i64 0, .int .i64 0, .int .i64 0, .slice none 0 0] 24))
  have b0 := Blk.new w 24 #[.int .i64 0, .int .i64 0, .int .i64 0, .slice none 0 0]
  go_enter Tryz.func143, Tryz.ntmps143
  go_wp2_with fail
  refine (spec_l1Below w0 _ g 4 (by decide) hc0).mono ?_
  rintro e w2 ⟨x1, rfl, hx1, hc2, hk2⟩
  have hg2 := hc2.base.2.2
  go_wp2_with fail
  refine (spec_l1Below w0 _ g 4 (by decide) hc2).mono ?_
  rintro e w3 ⟨x2, rfl, hx2, hc3, hk3⟩
  have hg3 := hc3.base.2.2
  go_wp2_with fail
  refine (spec_l1Below w0 _ g 3 (by decide) hc3).mono ?_
  rintro e w4 ⟨x3, rfl, hx3, hc4, hk4⟩
  have hg4 := hc4.base.2.2
  go_wp2_with fail
  refine (spec_l8Fields w0 _ g hc4).mono ?_
  rintro e w5 ⟨b, fs, rfl, ho, hl, hb, hc5, hk5⟩
  have hk25 := hk2.trans (hk3.trans (hk4.trans hk5))
  have hk := k0.trans hk25
  have bR := b0.kept (Nat.ne_of_gt hg) hk25
  have hnb : w.heap.size ∉ [b] := fun h => by
    rw [List.mem_singleton] at h
    have h1 := (hk2.trans (hk3.trans hk4)).1
    rw [World.size_alloc] at h1
    omega
  have hbw : w.heap.size ≤ b := Nat.le_trans (k0.trans (hk2.trans (hk3.trans hk4))).1 hb
  have HI := hid (show Record.ok ⟨x1, 1 + x2, 1 + x3, fs⟩ from ⟨by simp only [I64]; omega, by simp only [I64]; omega, by simp only [I64]; omega⟩)
  clear hb hc hc0 k0 b0 hc2 hc3 hc4 hk2 hk3 hk4 hk5 hk25 hg2 hg3 hg4
  obtain ⟨cR, fR⟩ := bR.cells
  go_wp2
  have b9 : Blk ((((w5.setCell ⟨w.heap.size, 0, none⟩ (.int .i64 x1)).setCell ⟨w.heap.size, 1, none⟩ (.int .i64 (1 + x2))).setCell ⟨w.heap.size, 2, none⟩ (.int .i64 (1 + x3))).setCell ⟨w.heap.size, 3, none⟩ (.slice (some ⟨b, 0, none⟩) 4 4)) w.heap.size 24 [.int .i64 x1, .int .i64 (1 + x2), .int .i64 (1 + x3), .slice (some ⟨b, 0, none⟩) 4 4] := ((((bR.setAt 0 (by show 0 < 4; decide) (.int .i64 x1)).setAt 1 (by show 1 < 4; decide) (.int .i64 (1 + x2))).setAt 2 (by show 2 < 4; decide) (.int .i64 (1 + x3))).setAt 3 (by show 3 < 4; decide) (.slice (some ⟨b, 0, none⟩) 4 4))
  have r0 : ((((w5.setCell ⟨w.heap.size, 0, none⟩ (.int .i64 x1)).setCell ⟨w.heap.size, 1, none⟩ (.int .i64 (1 + x2))).setCell ⟨w.heap.size, 2, none⟩ (.int .i64 (1 + x3))).setCell ⟨w.heap.size, 3, none⟩ (.slice (some ⟨b, 0, none⟩) 4 4)).cell? ⟨w.heap.size, 0, none⟩ = some (.int .i64 x1) := b9.cells.1 0
  have r1 : ((((w5.setCell ⟨w.heap.size, 0, none⟩ (.int .i64 x1)).setCell ⟨w.heap.size, 1, none⟩ (.int .i64 (1 + x2))).setCell ⟨w.heap.size, 2, none⟩ (.int .i64 (1 + x3))).setCell ⟨w.heap.size, 3, none⟩ (.slice (some ⟨b, 0, none⟩) 4 4)).cell? ⟨w.heap.size, 1, none⟩ = some (.int .i64 (1 + x2)) := b9.cells.1 1
  have r2 : ((((w5.setCell ⟨w.heap.size, 0, none⟩ (.int .i64 x1)).setCell ⟨w.heap.size, 1, none⟩ (.int .i64 (1 + x2))).setCell ⟨w.heap.size, 2, none⟩ (.int .i64 (1 + x3))).setCell ⟨w.heap.size, 3, none⟩ (.slice (some ⟨b, 0, none⟩) 4 4)).cell? ⟨w.heap.size, 2, none⟩ = some (.int .i64 (1 + x3)) := b9.cells.1 2
  have r3 : ((((w5.setCell ⟨w.heap.size, 0, none⟩ (.int .i64 x1)).setCell ⟨w.heap.size, 1, none⟩ (.int .i64 (1 + x2))).setCell ⟨w.heap.size, 2, none⟩ (.int .i64 (1 + x3))).setCell ⟨w.heap.size, 3, none⟩ (.slice (some ⟨b, 0, none⟩) 4 4)).cell? ⟨w.heap.size, 3, none⟩ = some (.slice (some ⟨b, 0, none⟩) 4 4) := b9.cells.1 3
  have k9 : Kept g w ((((w5.setCell ⟨w.heap.size, 0, none⟩ (.int .i64 x1)).setCell ⟨w.heap.size, 1, none⟩ (.int .i64 (1 + x2))).setCell ⟨w.heap.size, 2, none⟩ (.int .i64 (1 + x3))).setCell ⟨w.heap.size, 3, none⟩ (.slice (some ⟨b, 0, none⟩) 4 4)) := ((((hk.setN (Nat.le_refl _) _).setN (Nat.le_refl _) _).setN (Nat.le_refl _) _).setN (Nat.le_refl _) _)
  have c9 : Cur w0 ((((w5.setCell ⟨w.heap.size, 0, none⟩ (.int .i64 x1)).setCell ⟨w.heap.size, 1, none⟩ (.int .i64 (1 + x2))).setCell ⟨w.heap.size, 2, none⟩ (.int .i64 (1 + x3))).setCell ⟨w.heap.size, 3, none⟩ (.slice (some ⟨b, 0, none⟩) 4 4)) g := ((((hc5.setN hg _).setN hg _).setN hg _).setN hg _)
  have o9 := ((((ho.setCell (p := ⟨w.heap.size, 0, none⟩) hnb (.int .i64 x1)).setCell (p := ⟨w.heap.size, 1, none⟩) hnb (.int .i64 (1 + x2))).setCell (p := ⟨w.heap.size, 2, none⟩) hnb (.int .i64 (1 + x3))).setCell (p := ⟨w.heap.size, 3, none⟩) hnb (.slice (some ⟨b, 0, none⟩) 4 4))
  refine bodyPost_ret (v := .agg #[.int .i64 x1, .int .i64 (1 + x2), .int .i64 (1 + x3), .slice (some ⟨b, 0, none⟩) 4 4]) (by simp [results, Tryz.results143, go_sem, r0, r1, r2, r3]) rfl ?_
  exact ⟨b, ⟨x1, 1 + x2, 1 + x3, fs⟩, rfl, HI.out, o9, hl, hbw, c9, k9⟩

set_option maxHeartbeats 400000 in
theorem spec_l28Member (w0 w : World) (g : Nat) (hc : Cur w0 w g) :
    Calls Tryz.prog 172 #[.pointer (some ⟨g, 0, none⟩)] w fun e w2 => ∃ x, e = .returned (.int .i64 x) ∧ (0 ≤ x ∧ x ≤ 400) ∧ Cur w0 w2 g ∧ Kept g w w2 := by
  go_enter Tryz.func172, Tryz.ntmps172
  go_wp2_with fail
  refine (spec_l1Below w0 _ g 3 (by decide) hc).mono ?_
  rintro e w2 ⟨x1, rfl, hx1, hc2, hk2⟩
  have hg2 := hc2.base.2.2
  go_wp2_with fail
  refine (spec_l1Below w0 _ g 2 (by decide) hc2).mono ?_
  rintro e w3 ⟨x2, rfl, hx2, hc3, hk3⟩
  have hg3 := hc3.base.2.2
  go_wp2
  go_ret
  exact ⟨_, rfl, by omega, hc3, hk2.trans hk3⟩

set_option maxHeartbeats 400000 in
set_option maxRecDepth 20000 in
theorem spec_l28Verdict (w0 w : World) (g : Nat) (hc : Cur w0 w g) :
    Calls Tryz.prog 154 #[.pointer (some ⟨g, 0, none⟩)] w (VerDrawn w0 w g) := by
  have hg := hc.base.2.2
  have hc0 := hc.ext ((Ext.refl w).alloc (.cells #[.int .i64 0, .int .i64 0, .bool false, .int .i64 0] 26))
  have k0 := Ext.kept (g := g) ((Ext.refl w).alloc (.cells #[.int .i64 0, .int .i64 0, .bool false, .int .i64 0] 26))
  have b0 := Blk.new w 26 #[.int .i64 0, .int .i64 0, .bool false, .int .i64 0]
  go_enter Tryz.func154, Tryz.ntmps154
  go_wp2_with fail
  refine (spec_l28Member w0 _ g hc0).mono ?_
  rintro e w2 ⟨a, rfl, ha, hc2, hk2⟩
  have hg2 := hc2.base.2.2
  go_wp2_with fail
  refine (spec_l28Member w0 _ g hc2).mono ?_
  rintro e w3 ⟨b, rfl, hb, hc3, hk3⟩
  have hg3 := hc3.base.2.2
  have hk23 := hk2.trans hk3
  clear hk2 hk3
  rcases Int.lt_trichotomy a b with h | h | h
  · have hm1 : min a b = a := by omega
    have hm2 : max a b = b := by omega
    go_wp2_with fail
    refine (spec_l1Once w0 _ g 3 (by decide) hc3).mono ?_
    rintro e w4 ⟨s, rfl, hc4, hk4⟩
    have hg4 := hc4.base.2.2
    go_wp2_with fail
    refine (spec_l1Below w0 _ g 6 (by decide) hc4).mono ?_
    rintro e w5 ⟨x4, rfl, hx4, hc5, hk5⟩
    have hg5 := hc5.base.2.2
    have hk35 := hk4.trans hk5
    have hk := k0.trans (hk23.trans hk35)
    have bR := b0.kept (Nat.ne_of_gt hg) (hk23.trans hk35)
    have HI := hid (show Verdict.ok ⟨a, b, !s, 1 + x4⟩ from ⟨by simp only [I64]; omega, by simp only [I64]; omega, by simp only [I64]; omega⟩)
    clear hc hc0 k0 b0 hc2 hc3 hc4 hk23 hk4 hk5 hk35 hg2 hg3 hg4
    obtain ⟨cR, fR⟩ := bR.cells
    go_wp2
    have b9 : Blk ((((w5.setCell ⟨w.heap.size, 0, none⟩ (.int .i64 (a))).setCell ⟨w.heap.size, 1, none⟩ (.int .i64 (b))).setCell ⟨w.heap.size, 2, none⟩ (.bool (!s))).setCell ⟨w.heap.size, 3, none⟩ (.int .i64 (1 + x4))) w.heap.size 26 [.int .i64 (a), .int .i64 (b), .bool (!s), .int .i64 (1 + x4)] := ((((bR.setAt 0 (by show 0 < 4; decide) (.int .i64 (a))).setAt 1 (by show 1 < 4; decide) (.int .i64 (b))).setAt 2 (by show 2 < 4; decide) (.bool (!s))).setAt 3 (by show 3 < 4; decide) (.int .i64 (1 + x4)))
    have r0 : ((((w5.setCell ⟨w.heap.size, 0, none⟩ (.int .i64 (a))).setCell ⟨w.heap.size, 1, none⟩ (.int .i64 (b))).setCell ⟨w.heap.size, 2, none⟩ (.bool (!s))).setCell ⟨w.heap.size, 3, none⟩ (.int .i64 (1 + x4))).cell? ⟨w.heap.size, 0, none⟩ = some (.int .i64 (a)) := b9.cells.1 0
    have r1 : ((((w5.setCell ⟨w.heap.size, 0, none⟩ (.int .i64 (a))).setCell ⟨w.heap.size, 1, none⟩ (.int .i64 (b))).setCell ⟨w.heap.size, 2, none⟩ (.bool (!s))).setCell ⟨w.heap.size, 3, none⟩ (.int .i64 (1 + x4))).cell? ⟨w.heap.size, 1, none⟩ = some (.int .i64 (b)) := b9.cells.1 1
    have r2 : ((((w5.setCell ⟨w.heap.size, 0, none⟩ (.int .i64 (a))).setCell ⟨w.heap.size, 1, none⟩ (.int .i64 (b))).setCell ⟨w.heap.size, 2, none⟩ (.bool (!s))).setCell ⟨w.heap.size, 3, none⟩ (.int .i64 (1 + x4))).cell? ⟨w.heap.size, 2, none⟩ = some (.bool (!s)) := b9.cells.1 2
    have r3 : ((((w5.setCell ⟨w.heap.size, 0, none⟩ (.int .i64 (a))).setCell ⟨w.heap.size, 1, none⟩ (.int .i64 (b))).setCell ⟨w.heap.size, 2, none⟩ (.bool (!s))).setCell ⟨w.heap.size, 3, none⟩ (.int .i64 (1 + x4))).cell? ⟨w.heap.size, 3, none⟩ = some (.int .i64 (1 + x4)) := b9.cells.1 3
    have k9 : Kept g w ((((w5.setCell ⟨w.heap.size, 0, none⟩ (.int .i64 (a))).setCell ⟨w.heap.size, 1, none⟩ (.int .i64 (b))).setCell ⟨w.heap.size, 2, none⟩ (.bool (!s))).setCell ⟨w.heap.size, 3, none⟩ (.int .i64 (1 + x4))) := ((((hk.setN (Nat.le_refl _) _).setN (Nat.le_refl _) _).setN (Nat.le_refl _) _).setN (Nat.le_refl _) _)
    have c9 : Cur w0 ((((w5.setCell ⟨w.heap.size, 0, none⟩ (.int .i64 (a))).setCell ⟨w.heap.size, 1, none⟩ (.int .i64 (b))).setCell ⟨w.heap.size, 2, none⟩ (.bool (!s))).setCell ⟨w.heap.size, 3, none⟩ (.int .i64 (1 + x4))) g := ((((hc5.setN hg _).setN hg _).setN hg _).setN hg _)
    refine bodyPost_ret (v := .agg #[.int .i64 (a), .int .i64 (b), .bool (!s), .int .i64 (1 + x4)]) (by simp [results, Tryz.results154, go_sem, r0, r1, r2, r3]) rfl ?_
    exact ⟨⟨a, b, !s, 1 + x4⟩, rfl, HI.out, c9, k9⟩
  · subst h
    have hm1 : min a (a + 1) = a := by omega
    have hm2 : max a (a + 1) = a + 1 := by omega
    go_wp2_with fail
    refine (spec_l1Once w0 _ g 3 (by decide) hc3).mono ?_
    rintro e w4 ⟨s, rfl, hc4, hk4⟩
    have hg4 := hc4.base.2.2
    go_wp2_with fail
    refine (spec_l1Below w0 _ g 6 (by decide) hc4).mono ?_
    rintro e w5 ⟨x4, rfl, hx4, hc5, hk5⟩
    have hg5 := hc5.base.2.2
    have hk35 := hk4.trans hk5
    have hk := k0.trans (hk23.trans hk35)
    have bR := b0.kept (Nat.ne_of_gt hg) (hk23.trans hk35)
    have HI := hid (show Verdict.ok ⟨a, a + 1, !s, 1 + x4⟩ from ⟨by simp only [I64]; omega, by simp only [I64]; omega, by simp only [I64]; omega⟩)
    clear hc hc0 k0 b0 hc2 hc3 hc4 hk23 hk4 hk5 hk35 hg2 hg3 hg4
    obtain ⟨cR, fR⟩ := bR.cells
    go_wp2
    have b9 : Blk ((((w5.setCell ⟨w.heap.size, 0, none⟩ (.int .i64 (a))).setCell ⟨w.heap.size, 1, none⟩ (.int .i64 (a + 1))).setCell ⟨w.heap.size, 2, none⟩ (.bool (!s))).setCell ⟨w.heap.size, 3, none⟩ (.int .i64 (1 + x4))) w.heap.size 26 [.int .i64 (a), .int .i64 (a + 1), .bool (!s), .int .i64 (1 + x4)] := ((((bR.setAt 0 (by show 0 < 4; decide) (.int .i64 (a))).setAt 1 (by show 1 < 4; decide) (.int .i64 (a + 1))).setAt 2 (by show 2 < 4; decide) (.bool (!s))).setAt 3 (by show 3 < 4; decide) (.int .i64 (1 + x4)))
    have r0 : ((((w5.setCell ⟨w.heap.size, 0, none⟩ (.int .i64 (a))).setCell ⟨w.heap.size, 1, none⟩ (.int .i64 (a + 1))).setCell ⟨w.heap.size, 2, none⟩ (.bool (!s))).setCell ⟨w.heap.size, 3, none⟩ (.int .i64 (1 + x4))).cell? ⟨w.heap.size, 0, none⟩ = some (.int .i64 (a)) := b9.cells.1 0
    have r1 : ((((w5.setCell ⟨w.heap.size, 0, none⟩ (.int .i64 (a))).setCell ⟨w.heap.size, 1, none⟩ (.int .i64 (a + 1))).setCell ⟨w.heap.size, 2, none⟩ (.bool (!s))).setCell ⟨w.heap.size, 3, none⟩ (.int .i64 (1 + x4))).cell? ⟨w.heap.size, 1, none⟩ = some (.int .i64 (a + 1)) := b9.cells.1 1
    have r2 : ((((w5.setCell ⟨w.heap.size, 0, none⟩ (.int .i64 (a))).setCell ⟨w.heap.size, 1, none⟩ (.int .i64 (a + 1))).setCell ⟨w.heap.size, 2, none⟩ (.bool (!s))).setCell ⟨w.heap.size, 3, none⟩ (.int .i64 (1 + x4))).cell? ⟨w.heap.size, 2, none⟩ = some (.bool (!s)) := b9.cells.1 2
    have r3 : ((((w5.setCell ⟨w.heap.size, 0, none⟩ (.int .i64 (a))).setCell ⟨w.heap.size, 1, none⟩ (.int .i64 (a + 1))).setCell ⟨w.heap.size, 2, none⟩ (.bool (!s))).setCell ⟨w.heap.size, 3, none⟩ (.int .i64 (1 + x4))).cell? ⟨w.heap.size, 3, none⟩ = some (.int .i64 (1 + x4)) := b9.cells.1 3
    have k9 : Kept g w ((((w5.setCell ⟨w.heap.size, 0, none⟩ (.int .i64 (a))).setCell ⟨w.heap.size, 1, none⟩ (.int .i64 (a + 1))).setCell ⟨w.heap.size, 2, none⟩ (.bool (!s))).setCell ⟨w.heap.size, 3, none⟩ (.int .i64 (1 + x4))) := ((((hk.setN (Nat.le_refl _) _).setN (Nat.le_refl _) _).setN (Nat.le_refl _) _).setN (Nat.le_refl _) _)
    have c9 : Cur w0 ((((w5.setCell ⟨w.heap.size, 0, none⟩ (.int .i64 (a))).setCell ⟨w.heap.size, 1, none⟩ (.int .i64 (a + 1))).setCell ⟨w.heap.size, 2, none⟩ (.bool (!s))).setCell ⟨w.heap.size, 3, none⟩ (.int .i64 (1 + x4))) g := ((((hc5.setN hg _).setN hg _).setN hg _).setN hg _)
    refine bodyPost_ret (v := .agg #[.int .i64 (a), .int .i64 (a + 1), .bool (!s), .int .i64 (1 + x4)]) (by simp [results, Tryz.results154, go_sem, r0, r1, r2, r3]) rfl ?_
    exact ⟨⟨a, a + 1, !s, 1 + x4⟩, rfl, HI.out, c9, k9⟩
  · have hm1 : min a b = b := by omega
    have hm2 : max a b = a := by omega
    go_wp2_with fail
    refine (spec_l1Once w0 _ g 3 (by decide) hc3).mono ?_
    rintro e w4 ⟨s, rfl, hc4, hk4⟩
    have hg4 := hc4.base.2.2
    go_wp2_with fail
    refine (spec_l1Below w0 _ g 6 (by decide) hc4).mono ?_
    rintro e w5 ⟨x4, rfl, hx4, hc5, hk5⟩
    have hg5 := hc5.base.2.2
    have hk35 := hk4.trans hk5
    have hk := k0.trans (hk23.trans hk35)
    have bR := b0.kept (Nat.ne_of_gt hg) (hk23.trans hk35)
    have HI := hid (show Verdict.ok ⟨b, a, !s, 1 + x4⟩ from ⟨by simp only [I64]; omega, by simp only [I64]; omega, by simp only [I64]; omega⟩)
    clear hc hc0 k0 b0 hc2 hc3 hc4 hk23 hk4 hk5 hk35 hg2 hg3 hg4
    obtain ⟨cR, fR⟩ := bR.cells
    go_wp2
    have b9 : Blk ((((w5.setCell ⟨w.heap.size, 0, none⟩ (.int .i64 (b))).setCell ⟨w.heap.size, 1, none⟩ (.int .i64 (a))).setCell ⟨w.heap.size, 2, none⟩ (.bool (!s))).setCell ⟨w.heap.size, 3, none⟩ (.int .i64 (1 + x4))) w.heap.size 26 [.int .i64 (b), .int .i64 (a), .bool (!s), .int .i64 (1 + x4)] := ((((bR.setAt 0 (by show 0 < 4; decide) (.int .i64 (b))).setAt 1 (by show 1 < 4; decide) (.int .i64 (a))).setAt 2 (by show 2 < 4; decide) (.bool (!s))).setAt 3 (by show 3 < 4; decide) (.int .i64 (1 + x4)))
    have r0 : ((((w5.setCell ⟨w.heap.size, 0, none⟩ (.int .i64 (b))).setCell ⟨w.heap.size, 1, none⟩ (.int .i64 (a))).setCell ⟨w.heap.size, 2, none⟩ (.bool (!s))).setCell ⟨w.heap.size, 3, none⟩ (.int .i64 (1 + x4))).cell? ⟨w.heap.size, 0, none⟩ = some (.int .i64 (b)) := b9.cells.1 0
    have r1 : ((((w5.setCell ⟨w.heap.size, 0, none⟩ (.int .i64 (b))).setCell ⟨w.heap.size, 1, none⟩ (.int .i64 (a))).setCell ⟨w.heap.size, 2, none⟩ (.bool (!s))).setCell ⟨w.heap.size, 3, none⟩ (.int .i64 (1 + x4))).cell? ⟨w.heap.size, 1, none⟩ = some (.int .i64 (a)) := b9.cells.1 1
    have r2 : ((((w5.setCell ⟨w.heap.size, 0, none⟩ (.int .i64 (b))).setCell ⟨w.heap.size, 1, none⟩ (.int .i64 (a))).setCell ⟨w.heap.size, 2, none⟩ (.bool (!s))).setCell ⟨w.heap.size, 3, none⟩ (.int .i64 (1 + x4))).cell? ⟨w.heap.size, 2, none⟩ = some (.bool (!s)) := b9.cells.1 2
    have r3 : ((((w5.setCell ⟨w.heap.size, 0, none⟩ (.int .i64 (b))).setCell ⟨w.heap.size, 1, none⟩ (.int .i64 (a))).setCell ⟨w.heap.size, 2, none⟩ (.bool (!s))).setCell ⟨w.heap.size, 3, none⟩ (.int .i64 (1 + x4))).cell? ⟨w.heap.size, 3, none⟩ = some (.int .i64 (1 + x4)) := b9.cells.1 3
    have k9 : Kept g w ((((w5.setCell ⟨w.heap.size, 0, none⟩ (.int .i64 (b))).setCell ⟨w.heap.size, 1, none⟩ (.int .i64 (a))).setCell ⟨w.heap.size, 2, none⟩ (.bool (!s))).setCell ⟨w.heap.size, 3, none⟩ (.int .i64 (1 + x4))) := ((((hk.setN (Nat.le_refl _) _).setN (Nat.le_refl _) _).setN (Nat.le_refl _) _).setN (Nat.le_refl _) _)
    have c9 : Cur w0 ((((w5.setCell ⟨w.heap.size, 0, none⟩ (.int .i64 (b))).setCell ⟨w.heap.size, 1, none⟩ (.int .i64 (a))).setCell ⟨w.heap.size, 2, none⟩ (.bool (!s))).setCell ⟨w.heap.size, 3, none⟩ (.int .i64 (1 + x4))) g := ((((hc5.setN hg _).setN hg _).setN hg _).setN hg _)
    refine bodyPost_ret (v := .agg #[.int .i64 (b), .int .i64 (a), .bool (!s), .int .i64 (1 + x4)]) (by simp [results, Tryz.results154, go_sem, r0, r1, r2, r3]) rfl ?_
    exact ⟨⟨b, a, !s, 1 + x4⟩, rfl, HI.out, c9, k9⟩

end Go.Proofs.YtfieimmlcopbhaaGreatDoor

namespace Go.Proofs.YtfieimmlcopbhaaGreatDoor
open Go.RowKit

theorem Cur.alloc {w0 w : World} {g : Nat} (h : Cur w0 w g) (o : Obj) : Cur w0 (w.alloc o) g := h.ext ((Ext.refl w).alloc o)
theorem Cur.drew {w0 w : World} {g : Nat} (h : Cur w0 w g) : Cur w0 w.drew g := h.ext (Ext.refl w).drew

/-- a record that was drawn, right or wrong -/
def RecAny (w0 w : World) (g : Nat) (e : Ending) (w2 : World) : Prop := ∃ v r F, e = .returned v ∧ RecOwn w2 v r F ∧ NewF w F ∧ Cur w0 w2 g ∧ Kept g w w2 ∧ r.fields.length ≤ 4
theorem OwnSl.str_tail {w : World} {b n cap : Nat} {x : ByteArray} {xs : List ByteArray} {F : List Nat} (h : OwnSl strO w (.slice (some ⟨b, 0, none⟩) (n + 1) (cap + 1)) (x :: xs) F) : OwnSl strO w (.slice (some ⟨b, 1, none⟩) n cap) xs F := by
  rcases h with ⟨e, _⟩ | ⟨g, off, cap', cur, e, F2, hv, hcap, hh, rfl, hs, hc⟩
  · cases e
  · injection hv with h1 h2 h3
    injection h1 with h1
    injection h1 with h1 h4 _
    subst h1; subst h4
    have h1 : strO.n = 1 := rfl
    rw [List.length_cons] at h2 hcap hs hc
    have hn : n = xs.length := by omega
    subst hn
    obtain ⟨c, d, F3, F4, e1, e2, e3, e4⟩ := hc
    have hl : c.length = 1 := strO.len (strO.own_rd e3)
    have hF3 : F3 = [] := e3.2
    subst hF3
    refine .inr ⟨b, 1, cap, cur, e, F2, rfl, ⟨by omega, by omega⟩, hh, rfl, by rw [h1] at hs ⊢; omega, ?_⟩
    rw [e2, List.nil_append]
    have e5 : (cur.toList.drop 1).take (xs.length * strO.n) = d := by
      rw [h1] at e1 ⊢
      rw [List.drop_zero, Nat.mul_one] at e1
      rw [Nat.mul_one]
      have e6 : ((cur.toList.take (xs.length + 1)).drop 1) = d := by rw [e1, ← hl, List.drop_left]
      rw [← e6, List.drop_take, Nat.add_sub_cancel]
    rw [e5]; exact e4

set_option maxHeartbeats 1000000 in
set_option maxRecDepth 20000 in
theorem spec_l28Any (w0 w : World) (g : Nat) (hc : Cur w0 w g) :
    Calls Tryz.prog 125 #[.pointer (some ⟨g, 0, none⟩)] w (VerDrawn w0 w g) := by
  have hg := hc.base.2.2
  have hc0 := hc.ext ((Ext.refl w).alloc (.cells #[.int .i64 0, .int .i64 0, .bool false, .int .i64 0] 26))
  have k0 := Ext.kept (g := g) ((Ext.refl w).alloc (.cells #[.int .i64 0, .int .i64 0, .bool false, .int .i64 0] 26))
  have b0 := Blk.new w 26 #[.int .i64 0, .int .i64 0, .bool false, .int .i64 0]
  go_enter Tryz.func125, Tryz.ntmps125
  go_wp2_with fail
  refine (spec_l28Verdict w0 _ g hc0).mono ?_
  rintro e w2 ⟨v, rfl, vok, hc2, hk2⟩
  have hgL := hc2.base.2.2
  have hk02 := k0.trans hk2
  have hwL := hk02.1
  have hnLR : ¬ w2.heap.size = w.heap.size := by have := block_lt (b0.kept (Nat.ne_of_gt hg) hk2); omega
  have hnRL : ¬ w.heap.size = w2.heap.size := fun e => hnLR e.symm
  have bL2 := Blk.new w2 26 #[.int .i64 v.a, .int .i64 v.b, .bool v.same, .int .i64 v.time]
  have bR2 := (b0.kept (Nat.ne_of_gt hg) hk2).ext ((Ext.refl w2).alloc (.cells #[.int .i64 v.a, .int .i64 v.b, .bool v.same, .int .i64 v.time] 26))
  have hc2a := hc2.ext ((Ext.refl w2).alloc (.cells #[.int .i64 v.a, .int .i64 v.b, .bool v.same, .int .i64 v.time] 26))
  have hk2a := hk02.alloc (.cells #[.int .i64 v.a, .int .i64 v.b, .bool v.same, .int .i64 v.time] 26)
  clear hc hc0 k0 b0 hc2 hk2 hk02
  go_wp2_with fail
  refine (spec_l1Below w0 _ g 14 (by decide) hc2a).mono ?_
  rintro e w3 ⟨x, rfl, hx, hc3, hk3⟩
  have hg3 := hc3.base.2.2
  have bL3 := bL2.kept (Nat.ne_of_gt hgL) hk3
  have bR3 := bR2.kept (Nat.ne_of_gt hg) hk3
  have hk03 := hk2a.trans hk3
  clear bL2 bR2 hc2a hk2a hk3
  obtain ⟨va, vb, vt⟩ := id vok
  by_cases h0 : x = 0
  · subst h0
    obtain ⟨cL3, _⟩ := bL3.cells
    go_wp2_with fail
    refine (spec_l1PickInt w0 _ g _ [0, 399, v.b] (by show 1 ≤ 3 ∧ 3 ≤ 256; decide) (hc3.ext ((Ext.refl _).alloc _)) (fun w4 k4 => (lit_kept rfl (by intro q hq; simp only [List.mem_cons, List.not_mem_nil, or_false] at hq; rcases hq with rfl | rfl | rfl; (exact ⟨by decide, by decide⟩); (exact ⟨by decide, by decide⟩); exact vb) (by show 3 ≤ maxLen; decide) hg3 k4).sl)).mono ?_
    rintro e w4 ⟨y, rfl, hy, hc4, hk4⟩
    replace hk4 := (Ext.kept (g := g) ((Ext.refl _).alloc _)).trans hk4
    have hg4 := hc4.base.2.2
    have bLn := bL3.kept (Nat.ne_of_gt hgL) hk4
    have bRn := bR3.kept (Nat.ne_of_gt hg) hk4
    have hkn := hk03.trans hk4
    clear hk4 hg4 hc3 bL3 bR3 hk03
    have bL9 : Blk (w4.setCell ⟨w2.heap.size, 0, none⟩ (.int .i64 y)) w2.heap.size 26 [.int .i64 y, .int .i64 v.b, .bool v.same, .int .i64 v.time] := (bLn.setAt 0 (by show 0 < 4; decide) (.int .i64 y))
    have bR9 := (bRn.other (i := 0) (u := .int .i64 y) hnRL)
    have kL9 : Kept g w (w4.setCell ⟨w2.heap.size, 0, none⟩ (.int .i64 y)) := (hkn.setN hwL _)
    have cL9 : Cur w0 (w4.setCell ⟨w2.heap.size, 0, none⟩ (.int .i64 y)) g := (hc4.setN hgL _)
    have HI := hid (show Verdict.ok ⟨y, v.b, v.same, v.time⟩ from ⟨hy, vb, vt⟩)
    obtain ⟨cL0, fL0⟩ := bLn.cells
    obtain ⟨cL, fL⟩ := bL9.cells
    obtain ⟨cR, fR⟩ := bR9.cells
    go_wp2
    have b9 : Blk (((((w4.setCell ⟨w2.heap.size, 0, none⟩ (.int .i64 y)).setCell ⟨w.heap.size, 0, none⟩ (.int .i64 y)).setCell ⟨w.heap.size, 1, none⟩ (.int .i64 v.b)).setCell ⟨w.heap.size, 2, none⟩ (.bool v.same)).setCell ⟨w.heap.size, 3, none⟩ (.int .i64 v.time)) w.heap.size 26 [.int .i64 y, .int .i64 v.b, .bool v.same, .int .i64 v.time] := ((((bR9.setAt 0 (by show 0 < 4; decide) (.int .i64 y)).setAt 1 (by show 1 < 4; decide) (.int .i64 v.b)).setAt 2 (by show 2 < 4; decide) (.bool v.same)).setAt 3 (by show 3 < 4; decide) (.int .i64 v.time))
    have r0 : (((((w4.setCell ⟨w2.heap.size, 0, none⟩ (.int .i64 y)).setCell ⟨w.heap.size, 0, none⟩ (.int .i64 y)).setCell ⟨w.heap.size, 1, none⟩ (.int .i64 v.b)).setCell ⟨w.heap.size, 2, none⟩ (.bool v.same)).setCell ⟨w.heap.size, 3, none⟩ (.int .i64 v.time)).cell? ⟨w.heap.size, 0, none⟩ = some (.int .i64 y) := b9.cells.1 0
    have r1 : (((((w4.setCell ⟨w2.heap.size, 0, none⟩ (.int .i64 y)).setCell ⟨w.heap.size, 0, none⟩ (.int .i64 y)).setCell ⟨w.heap.size, 1, none⟩ (.int .i64 v.b)).setCell ⟨w.heap.size, 2, none⟩ (.bool v.same)).setCell ⟨w.heap.size, 3, none⟩ (.int .i64 v.time)).cell? ⟨w.heap.size, 1, none⟩ = some (.int .i64 v.b) := b9.cells.1 1
    have r2 : (((((w4.setCell ⟨w2.heap.size, 0, none⟩ (.int .i64 y)).setCell ⟨w.heap.size, 0, none⟩ (.int .i64 y)).setCell ⟨w.heap.size, 1, none⟩ (.int .i64 v.b)).setCell ⟨w.heap.size, 2, none⟩ (.bool v.same)).setCell ⟨w.heap.size, 3, none⟩ (.int .i64 v.time)).cell? ⟨w.heap.size, 2, none⟩ = some (.bool v.same) := b9.cells.1 2
    have r3 : (((((w4.setCell ⟨w2.heap.size, 0, none⟩ (.int .i64 y)).setCell ⟨w.heap.size, 0, none⟩ (.int .i64 y)).setCell ⟨w.heap.size, 1, none⟩ (.int .i64 v.b)).setCell ⟨w.heap.size, 2, none⟩ (.bool v.same)).setCell ⟨w.heap.size, 3, none⟩ (.int .i64 v.time)).cell? ⟨w.heap.size, 3, none⟩ = some (.int .i64 v.time) := b9.cells.1 3
    have k9 : Kept g w (((((w4.setCell ⟨w2.heap.size, 0, none⟩ (.int .i64 y)).setCell ⟨w.heap.size, 0, none⟩ (.int .i64 y)).setCell ⟨w.heap.size, 1, none⟩ (.int .i64 v.b)).setCell ⟨w.heap.size, 2, none⟩ (.bool v.same)).setCell ⟨w.heap.size, 3, none⟩ (.int .i64 v.time)) := ((((kL9.setN (Nat.le_refl _) _).setN (Nat.le_refl _) _).setN (Nat.le_refl _) _).setN (Nat.le_refl _) _)
    have c9 : Cur w0 (((((w4.setCell ⟨w2.heap.size, 0, none⟩ (.int .i64 y)).setCell ⟨w.heap.size, 0, none⟩ (.int .i64 y)).setCell ⟨w.heap.size, 1, none⟩ (.int .i64 v.b)).setCell ⟨w.heap.size, 2, none⟩ (.bool v.same)).setCell ⟨w.heap.size, 3, none⟩ (.int .i64 v.time)) g := ((((cL9.setN hg _).setN hg _).setN hg _).setN hg _)
    refine bodyPost_ret (v := .agg #[.int .i64 y, .int .i64 v.b, .bool v.same, .int .i64 v.time]) (by simp [results, Tryz.results125, go_sem, r0, r1, r2, r3]) rfl ?_
    exact ⟨⟨y, v.b, v.same, v.time⟩, rfl, HI.out, c9, k9⟩
  · by_cases h1 : x = 1
    · subst h1
      go_wp2_with fail
      refine (spec_l1PickInt w0 _ g _ [0, 999, 1000] (by show 1 ≤ 3 ∧ 3 ≤ 256; decide) (hc3.ext ((Ext.refl _).alloc _)) (fun w4 k4 => (lit_kept rfl (by simp [I64]) (by show 3 ≤ maxLen; decide) hg3 k4).sl)).mono ?_
      rintro e w4 ⟨y, rfl, hy, hc4, hk4⟩
      replace hk4 := (Ext.kept (g := g) ((Ext.refl _).alloc _)).trans hk4
      have hg4 := hc4.base.2.2
      have bLn := bL3.kept (Nat.ne_of_gt hgL) hk4
      have bRn := bR3.kept (Nat.ne_of_gt hg) hk4
      have hkn := hk03.trans hk4
      clear hk4 hg4 hc3 bL3 bR3 hk03
      have bL9 : Blk (w4.setCell ⟨w2.heap.size, 3, none⟩ (.int .i64 y)) w2.heap.size 26 [.int .i64 v.a, .int .i64 v.b, .bool v.same, .int .i64 y] := (bLn.setAt 3 (by show 3 < 4; decide) (.int .i64 y))
      have bR9 := (bRn.other (i := 3) (u := .int .i64 y) hnRL)
      have kL9 : Kept g w (w4.setCell ⟨w2.heap.size, 3, none⟩ (.int .i64 y)) := (hkn.setN hwL _)
      have cL9 : Cur w0 (w4.setCell ⟨w2.heap.size, 3, none⟩ (.int .i64 y)) g := (hc4.setN hgL _)
      have HI := hid (show Verdict.ok ⟨v.a, v.b, v.same, y⟩ from ⟨va, vb, hy⟩)
      obtain ⟨cL0, fL0⟩ := bLn.cells
      obtain ⟨cL, fL⟩ := bL9.cells
      obtain ⟨cR, fR⟩ := bR9.cells
      go_wp2
      have b9 : Blk (((((w4.setCell ⟨w2.heap.size, 3, none⟩ (.int .i64 y)).setCell ⟨w.heap.size, 0, none⟩ (.int .i64 v.a)).setCell ⟨w.heap.size, 1, none⟩ (.int .i64 v.b)).setCell ⟨w.heap.size, 2, none⟩ (.bool v.same)).setCell ⟨w.heap.size, 3, none⟩ (.int .i64 y)) w.heap.size 26 [.int .i64 v.a, .int .i64 v.b, .bool v.same, .int .i64 y] := ((((bR9.setAt 0 (by show 0 < 4; decide) (.int .i64 v.a)).setAt 1 (by show 1 < 4; decide) (.int .i64 v.b)).setAt 2 (by show 2 < 4; decide) (.bool v.same)).setAt 3 (by show 3 < 4; decide) (.int .i64 y))
      have r0 : (((((w4.setCell ⟨w2.heap.size, 3, none⟩ (.int .i64 y)).setCell ⟨w.heap.size, 0, none⟩ (.int .i64 v.a)).setCell ⟨w.heap.size, 1, none⟩ (.int .i64 v.b)).setCell ⟨w.heap.size, 2, none⟩ (.bool v.same)).setCell ⟨w.heap.size, 3, none⟩ (.int .i64 y)).cell? ⟨w.heap.size, 0, none⟩ = some (.int .i64 v.a) := b9.cells.1 0
      have r1 : (((((w4.setCell ⟨w2.heap.size, 3, none⟩ (.int .i64 y)).setCell ⟨w.heap.size, 0, none⟩ (.int .i64 v.a)).setCell ⟨w.heap.size, 1, none⟩ (.int .i64 v.b)).setCell ⟨w.heap.size, 2, none⟩ (.bool v.same)).setCell ⟨w.heap.size, 3, none⟩ (.int .i64 y)).cell? ⟨w.heap.size, 1, none⟩ = some (.int .i64 v.b) := b9.cells.1 1
      have r2 : (((((w4.setCell ⟨w2.heap.size, 3, none⟩ (.int .i64 y)).setCell ⟨w.heap.size, 0, none⟩ (.int .i64 v.a)).setCell ⟨w.heap.size, 1, none⟩ (.int .i64 v.b)).setCell ⟨w.heap.size, 2, none⟩ (.bool v.same)).setCell ⟨w.heap.size, 3, none⟩ (.int .i64 y)).cell? ⟨w.heap.size, 2, none⟩ = some (.bool v.same) := b9.cells.1 2
      have r3 : (((((w4.setCell ⟨w2.heap.size, 3, none⟩ (.int .i64 y)).setCell ⟨w.heap.size, 0, none⟩ (.int .i64 v.a)).setCell ⟨w.heap.size, 1, none⟩ (.int .i64 v.b)).setCell ⟨w.heap.size, 2, none⟩ (.bool v.same)).setCell ⟨w.heap.size, 3, none⟩ (.int .i64 y)).cell? ⟨w.heap.size, 3, none⟩ = some (.int .i64 y) := b9.cells.1 3
      have k9 : Kept g w (((((w4.setCell ⟨w2.heap.size, 3, none⟩ (.int .i64 y)).setCell ⟨w.heap.size, 0, none⟩ (.int .i64 v.a)).setCell ⟨w.heap.size, 1, none⟩ (.int .i64 v.b)).setCell ⟨w.heap.size, 2, none⟩ (.bool v.same)).setCell ⟨w.heap.size, 3, none⟩ (.int .i64 y)) := ((((kL9.setN (Nat.le_refl _) _).setN (Nat.le_refl _) _).setN (Nat.le_refl _) _).setN (Nat.le_refl _) _)
      have c9 : Cur w0 (((((w4.setCell ⟨w2.heap.size, 3, none⟩ (.int .i64 y)).setCell ⟨w.heap.size, 0, none⟩ (.int .i64 v.a)).setCell ⟨w.heap.size, 1, none⟩ (.int .i64 v.b)).setCell ⟨w.heap.size, 2, none⟩ (.bool v.same)).setCell ⟨w.heap.size, 3, none⟩ (.int .i64 y)) g := ((((cL9.setN hg _).setN hg _).setN hg _).setN hg _)
      refine bodyPost_ret (v := .agg #[.int .i64 v.a, .int .i64 v.b, .bool v.same, .int .i64 y]) (by simp [results, Tryz.results125, go_sem, r0, r1, r2, r3]) rfl ?_
      exact ⟨⟨v.a, v.b, v.same, y⟩, rfl, HI.out, c9, k9⟩
    · by_cases h2 : x = 2
      · subst h2
        have bL9 : Blk (w3.setCell ⟨w2.heap.size, 1, none⟩ (.int .i64 400)) w2.heap.size 26 [.int .i64 v.a, .int .i64 400, .bool v.same, .int .i64 v.time] := (bL3.setAt 1 (by show 1 < 4; decide) (.int .i64 400))
        have bR9 := (bR3.other (i := 1) (u := .int .i64 400) hnRL)
        have kL9 : Kept g w (w3.setCell ⟨w2.heap.size, 1, none⟩ (.int .i64 400)) := (hk03.setN hwL _)
        have cL9 : Cur w0 (w3.setCell ⟨w2.heap.size, 1, none⟩ (.int .i64 400)) g := (hc3.setN hgL _)
        have HI := hid (show Verdict.ok ⟨v.a, 400, v.same, v.time⟩ from ⟨va, by show I64 400; exact ⟨by decide, by decide⟩, vt⟩)
        obtain ⟨cL0, fL0⟩ := bL3.cells
        obtain ⟨cL, fL⟩ := bL9.cells
        obtain ⟨cR, fR⟩ := bR9.cells
        go_wp2
        have b9 : Blk (((((w3.setCell ⟨w2.heap.size, 1, none⟩ (.int .i64 400)).setCell ⟨w.heap.size, 0, none⟩ (.int .i64 v.a)).setCell ⟨w.heap.size, 1, none⟩ (.int .i64 400)).setCell ⟨w.heap.size, 2, none⟩ (.bool v.same)).setCell ⟨w.heap.size, 3, none⟩ (.int .i64 v.time)) w.heap.size 26 [.int .i64 v.a, .int .i64 400, .bool v.same, .int .i64 v.time] := ((((bR9.setAt 0 (by show 0 < 4; decide) (.int .i64 v.a)).setAt 1 (by show 1 < 4; decide) (.int .i64 400)).setAt 2 (by show 2 < 4; decide) (.bool v.same)).setAt 3 (by show 3 < 4; decide) (.int .i64 v.time))
        have r0 : (((((w3.setCell ⟨w2.heap.size, 1, none⟩ (.int .i64 400)).setCell ⟨w.heap.size, 0, none⟩ (.int .i64 v.a)).setCell ⟨w.heap.size, 1, none⟩ (.int .i64 400)).setCell ⟨w.heap.size, 2, none⟩ (.bool v.same)).setCell ⟨w.heap.size, 3, none⟩ (.int .i64 v.time)).cell? ⟨w.heap.size, 0, none⟩ = some (.int .i64 v.a) := b9.cells.1 0
        have r1 : (((((w3.setCell ⟨w2.heap.size, 1, none⟩ (.int .i64 400)).setCell ⟨w.heap.size, 0, none⟩ (.int .i64 v.a)).setCell ⟨w.heap.size, 1, none⟩ (.int .i64 400)).setCell ⟨w.heap.size, 2, none⟩ (.bool v.same)).setCell ⟨w.heap.size, 3, none⟩ (.int .i64 v.time)).cell? ⟨w.heap.size, 1, none⟩ = some (.int .i64 400) := b9.cells.1 1
        have r2 : (((((w3.setCell ⟨w2.heap.size, 1, none⟩ (.int .i64 400)).setCell ⟨w.heap.size, 0, none⟩ (.int .i64 v.a)).setCell ⟨w.heap.size, 1, none⟩ (.int .i64 400)).setCell ⟨w.heap.size, 2, none⟩ (.bool v.same)).setCell ⟨w.heap.size, 3, none⟩ (.int .i64 v.time)).cell? ⟨w.heap.size, 2, none⟩ = some (.bool v.same) := b9.cells.1 2
        have r3 : (((((w3.setCell ⟨w2.heap.size, 1, none⟩ (.int .i64 400)).setCell ⟨w.heap.size, 0, none⟩ (.int .i64 v.a)).setCell ⟨w.heap.size, 1, none⟩ (.int .i64 400)).setCell ⟨w.heap.size, 2, none⟩ (.bool v.same)).setCell ⟨w.heap.size, 3, none⟩ (.int .i64 v.time)).cell? ⟨w.heap.size, 3, none⟩ = some (.int .i64 v.time) := b9.cells.1 3
        have k9 : Kept g w (((((w3.setCell ⟨w2.heap.size, 1, none⟩ (.int .i64 400)).setCell ⟨w.heap.size, 0, none⟩ (.int .i64 v.a)).setCell ⟨w.heap.size, 1, none⟩ (.int .i64 400)).setCell ⟨w.heap.size, 2, none⟩ (.bool v.same)).setCell ⟨w.heap.size, 3, none⟩ (.int .i64 v.time)) := ((((kL9.setN (Nat.le_refl _) _).setN (Nat.le_refl _) _).setN (Nat.le_refl _) _).setN (Nat.le_refl _) _)
        have c9 : Cur w0 (((((w3.setCell ⟨w2.heap.size, 1, none⟩ (.int .i64 400)).setCell ⟨w.heap.size, 0, none⟩ (.int .i64 v.a)).setCell ⟨w.heap.size, 1, none⟩ (.int .i64 400)).setCell ⟨w.heap.size, 2, none⟩ (.bool v.same)).setCell ⟨w.heap.size, 3, none⟩ (.int .i64 v.time)) g := ((((cL9.setN hg _).setN hg _).setN hg _).setN hg _)
        refine bodyPost_ret (v := .agg #[.int .i64 v.a, .int .i64 400, .bool v.same, .int .i64 v.time]) (by simp [results, Tryz.results125, go_sem, r0, r1, r2, r3]) rfl ?_
        exact ⟨⟨v.a, 400, v.same, v.time⟩, rfl, HI.out, c9, k9⟩
      · obtain ⟨cL, fL⟩ := bL3.cells
        obtain ⟨cR, fR⟩ := bR3.cells
        go_wp2
        have b9 : Blk ((((w3.setCell ⟨w.heap.size, 0, none⟩ (.int .i64 v.a)).setCell ⟨w.heap.size, 1, none⟩ (.int .i64 v.b)).setCell ⟨w.heap.size, 2, none⟩ (.bool v.same)).setCell ⟨w.heap.size, 3, none⟩ (.int .i64 v.time)) w.heap.size 26 [.int .i64 v.a, .int .i64 v.b, .bool v.same, .int .i64 v.time] := ((((bR3.setAt 0 (by show 0 < 4; decide) (.int .i64 v.a)).setAt 1 (by show 1 < 4; decide) (.int .i64 v.b)).setAt 2 (by show 2 < 4; decide) (.bool v.same)).setAt 3 (by show 3 < 4; decide) (.int .i64 v.time))
        have r0 : ((((w3.setCell ⟨w.heap.size, 0, none⟩ (.int .i64 v.a)).setCell ⟨w.heap.size, 1, none⟩ (.int .i64 v.b)).setCell ⟨w.heap.size, 2, none⟩ (.bool v.same)).setCell ⟨w.heap.size, 3, none⟩ (.int .i64 v.time)).cell? ⟨w.heap.size, 0, none⟩ = some (.int .i64 v.a) := b9.cells.1 0
        have r1 : ((((w3.setCell ⟨w.heap.size, 0, none⟩ (.int .i64 v.a)).setCell ⟨w.heap.size, 1, none⟩ (.int .i64 v.b)).setCell ⟨w.heap.size, 2, none⟩ (.bool v.same)).setCell ⟨w.heap.size, 3, none⟩ (.int .i64 v.time)).cell? ⟨w.heap.size, 1, none⟩ = some (.int .i64 v.b) := b9.cells.1 1
        have r2 : ((((w3.setCell ⟨w.heap.size, 0, none⟩ (.int .i64 v.a)).setCell ⟨w.heap.size, 1, none⟩ (.int .i64 v.b)).setCell ⟨w.heap.size, 2, none⟩ (.bool v.same)).setCell ⟨w.heap.size, 3, none⟩ (.int .i64 v.time)).cell? ⟨w.heap.size, 2, none⟩ = some (.bool v.same) := b9.cells.1 2
        have r3 : ((((w3.setCell ⟨w.heap.size, 0, none⟩ (.int .i64 v.a)).setCell ⟨w.heap.size, 1, none⟩ (.int .i64 v.b)).setCell ⟨w.heap.size, 2, none⟩ (.bool v.same)).setCell ⟨w.heap.size, 3, none⟩ (.int .i64 v.time)).cell? ⟨w.heap.size, 3, none⟩ = some (.int .i64 v.time) := b9.cells.1 3
        have k9 : Kept g w ((((w3.setCell ⟨w.heap.size, 0, none⟩ (.int .i64 v.a)).setCell ⟨w.heap.size, 1, none⟩ (.int .i64 v.b)).setCell ⟨w.heap.size, 2, none⟩ (.bool v.same)).setCell ⟨w.heap.size, 3, none⟩ (.int .i64 v.time)) := ((((hk03.setN (Nat.le_refl _) _).setN (Nat.le_refl _) _).setN (Nat.le_refl _) _).setN (Nat.le_refl _) _)
        have c9 : Cur w0 ((((w3.setCell ⟨w.heap.size, 0, none⟩ (.int .i64 v.a)).setCell ⟨w.heap.size, 1, none⟩ (.int .i64 v.b)).setCell ⟨w.heap.size, 2, none⟩ (.bool v.same)).setCell ⟨w.heap.size, 3, none⟩ (.int .i64 v.time)) g := ((((hc3.setN hg _).setN hg _).setN hg _).setN hg _)
        refine bodyPost_ret (v := .agg #[.int .i64 v.a, .int .i64 v.b, .bool v.same, .int .i64 v.time]) (by simp [results, Tryz.results125, go_sem, r0, r1, r2, r3]) rfl ?_
        exact ⟨v, rfl, vok, c9, k9⟩

set_option maxHeartbeats 1000000 in
set_option maxRecDepth 20000 in
theorem spec_l8Any (w0 w : World) (g : Nat) (hc : Cur w0 w g) :
    Calls Tryz.prog 109 #[.pointer (some ⟨g, 0, none⟩)] w (RecAny w0 w g) := by
  have hg := hc.base.2.2
  have hc0 := hc.ext ((Ext.refl w).alloc (.cells #[.int .i64 0, .int .i64 0, .int .i64 0, .slice none 0 0] 24))
  have k0 := Ext.kept (g := g) ((Ext.refl w).alloc (.cells #[.int .i64 0, .int .i64 0, .int .i64 0, .slice none 0 0] 24))
  have b0 := Blk.new w 24 #[.int .i64 0, .int .i64 0, .int .i64 0, .slice none 0 0]
  go_enter Tryz.func109, Tryz.ntmps109
  go_wp2_with fail
  refine (spec_l8Record w0 _ g hc0).mono ?_
  rintro e w2 ⟨b, r, rfl, rok, ro, rl, rb, hc2, hk2⟩
  have HL4 := hid rl
  rw [World.size_alloc] at rb
  have hgL := hc2.base.2.2
  have hk02 := k0.trans hk2
  have hwL := hk02.1
  have hnLR : ¬ w2.heap.size = w.heap.size := by have := block_lt (b0.kept (Nat.ne_of_gt hg) hk2); omega
  have hnRL : ¬ w.heap.size = w2.heap.size := fun e => hnLR e.symm
  have hLb : w2.heap.size ∉ [b] := fun h => by rw [List.mem_singleton] at h; have := ro.lt b (List.mem_singleton.2 rfl); omega
  have hRb : w.heap.size ∉ [b] := fun h => by rw [List.mem_singleton] at h; omega
  have hgb : g ∉ [b] := fun h => by rw [List.mem_singleton] at h; omega
  have hNF : NewF w [b] := ⟨by simp, fun q hq => by rw [List.mem_singleton] at hq; omega⟩
  have bL2 := Blk.new w2 24 #[.int .i64 r.source, .int .i64 r.key, .int .i64 r.version, .slice (some ⟨b, 0, none⟩) 4 4]
  have bR2 := (b0.kept (Nat.ne_of_gt hg) hk2).ext ((Ext.refl w2).alloc (.cells #[.int .i64 r.source, .int .i64 r.key, .int .i64 r.version, .slice (some ⟨b, 0, none⟩) 4 4] 24))
  have o2 := ro.ext ((Ext.refl w2).alloc (.cells #[.int .i64 r.source, .int .i64 r.key, .int .i64 r.version, .slice (some ⟨b, 0, none⟩) 4 4] 24))
  have hc2a := hc2.ext ((Ext.refl w2).alloc (.cells #[.int .i64 r.source, .int .i64 r.key, .int .i64 r.version, .slice (some ⟨b, 0, none⟩) 4 4] 24))
  have hk2a := hk02.alloc (.cells #[.int .i64 r.source, .int .i64 r.key, .int .i64 r.version, .slice (some ⟨b, 0, none⟩) 4 4] 24)
  clear hc hc0 k0 b0 hc2 hk2 hk02 ro rb
  go_wp2_with fail
  refine (spec_l1Below w0 _ g 16 (by decide) hc2a).mono ?_
  rintro e w3 ⟨x, rfl, hx, hc3, hk3⟩
  have hg3 := hc3.base.2.2
  have bL3 := bL2.kept (Nat.ne_of_gt hgL) hk3
  have bR3 := bR2.kept (Nat.ne_of_gt hg) hk3
  have o3 := o2.kept hgb hk3
  have hk03 := hk2a.trans hk3
  clear bL2 bR2 hc2a hk2a hk3 o2
  obtain ⟨rs, rk, rv⟩ := id rok
  by_cases h0 : x = 0
  · subst h0
    go_wp2_with fail
    refine (spec_l1PickInt w0 _ g _ [-1, 4] (by show 1 ≤ 2 ∧ 2 ≤ 256; decide) (hc3.ext ((Ext.refl _).alloc _)) (fun w4 k4 => (lit_kept rfl (by simp [I64]) (by show 2 ≤ maxLen; decide) hg3 k4).sl)).mono ?_
    rintro e w4 ⟨y, rfl, hy, hc4, hk4⟩
    replace hk4 := (Ext.kept (g := g) ((Ext.refl _).alloc _)).trans hk4
    have hg4 := hc4.base.2.2
    have bLn := bL3.kept (Nat.ne_of_gt hgL) hk4
    have bRn := bR3.kept (Nat.ne_of_gt hg) hk4
    have on := o3.kept hgb hk4
    have hkn := hk03.trans hk4
    clear hk4 hg4 hc3 bL3 bR3 hk03 o3
    have bL9 : Blk (w4.setCell ⟨w2.heap.size, 0, none⟩ (.int .i64 y)) w2.heap.size 24 [.int .i64 y, .int .i64 r.key, .int .i64 r.version, .slice (some ⟨b, 0, none⟩) 4 4] := (bLn.setAt 0 (by show 0 < 4; decide) (.int .i64 y))
    have bR9 := (bRn.other (i := 0) (u := .int .i64 y) hnRL)
    have kL9 : Kept g w (w4.setCell ⟨w2.heap.size, 0, none⟩ (.int .i64 y)) := (hkn.setN hwL _)
    have cL9 : Cur w0 (w4.setCell ⟨w2.heap.size, 0, none⟩ (.int .i64 y)) g := (hc4.setN hgL _)
    have oL9 := (on.setCell (p := ⟨w2.heap.size, 0, none⟩) hLb (.int .i64 y))
    have HI := hid (show Record.ok ⟨y, r.key, r.version, r.fields⟩ from ⟨hy, rk, rv⟩)
    have HL9 := hid (show (Record.fields ⟨y, r.key, r.version, r.fields⟩).length ≤ 4 from Nat.le_of_eq HL4.out)
    obtain ⟨cL0, fL0⟩ := bLn.cells
    obtain ⟨cL, fL⟩ := bL9.cells
    obtain ⟨cR, fR⟩ := bR9.cells
    go_wp2
    have b9 : Blk (((((w4.setCell ⟨w2.heap.size, 0, none⟩ (.int .i64 y)).setCell ⟨w.heap.size, 0, none⟩ (.int .i64 y)).setCell ⟨w.heap.size, 1, none⟩ (.int .i64 r.key)).setCell ⟨w.heap.size, 2, none⟩ (.int .i64 r.version)).setCell ⟨w.heap.size, 3, none⟩ (.slice (some ⟨b, 0, none⟩) 4 4)) w.heap.size 24 [.int .i64 y, .int .i64 r.key, .int .i64 r.version, .slice (some ⟨b, 0, none⟩) 4 4] := ((((bR9.setAt 0 (by show 0 < 4; decide) (.int .i64 y)).setAt 1 (by show 1 < 4; decide) (.int .i64 r.key)).setAt 2 (by show 2 < 4; decide) (.int .i64 r.version)).setAt 3 (by show 3 < 4; decide) (.slice (some ⟨b, 0, none⟩) 4 4))
    have r0 : (((((w4.setCell ⟨w2.heap.size, 0, none⟩ (.int .i64 y)).setCell ⟨w.heap.size, 0, none⟩ (.int .i64 y)).setCell ⟨w.heap.size, 1, none⟩ (.int .i64 r.key)).setCell ⟨w.heap.size, 2, none⟩ (.int .i64 r.version)).setCell ⟨w.heap.size, 3, none⟩ (.slice (some ⟨b, 0, none⟩) 4 4)).cell? ⟨w.heap.size, 0, none⟩ = some (.int .i64 y) := b9.cells.1 0
    have r1 : (((((w4.setCell ⟨w2.heap.size, 0, none⟩ (.int .i64 y)).setCell ⟨w.heap.size, 0, none⟩ (.int .i64 y)).setCell ⟨w.heap.size, 1, none⟩ (.int .i64 r.key)).setCell ⟨w.heap.size, 2, none⟩ (.int .i64 r.version)).setCell ⟨w.heap.size, 3, none⟩ (.slice (some ⟨b, 0, none⟩) 4 4)).cell? ⟨w.heap.size, 1, none⟩ = some (.int .i64 r.key) := b9.cells.1 1
    have r2 : (((((w4.setCell ⟨w2.heap.size, 0, none⟩ (.int .i64 y)).setCell ⟨w.heap.size, 0, none⟩ (.int .i64 y)).setCell ⟨w.heap.size, 1, none⟩ (.int .i64 r.key)).setCell ⟨w.heap.size, 2, none⟩ (.int .i64 r.version)).setCell ⟨w.heap.size, 3, none⟩ (.slice (some ⟨b, 0, none⟩) 4 4)).cell? ⟨w.heap.size, 2, none⟩ = some (.int .i64 r.version) := b9.cells.1 2
    have r3 : (((((w4.setCell ⟨w2.heap.size, 0, none⟩ (.int .i64 y)).setCell ⟨w.heap.size, 0, none⟩ (.int .i64 y)).setCell ⟨w.heap.size, 1, none⟩ (.int .i64 r.key)).setCell ⟨w.heap.size, 2, none⟩ (.int .i64 r.version)).setCell ⟨w.heap.size, 3, none⟩ (.slice (some ⟨b, 0, none⟩) 4 4)).cell? ⟨w.heap.size, 3, none⟩ = some (.slice (some ⟨b, 0, none⟩) 4 4) := b9.cells.1 3
    have k9 : Kept g w (((((w4.setCell ⟨w2.heap.size, 0, none⟩ (.int .i64 y)).setCell ⟨w.heap.size, 0, none⟩ (.int .i64 y)).setCell ⟨w.heap.size, 1, none⟩ (.int .i64 r.key)).setCell ⟨w.heap.size, 2, none⟩ (.int .i64 r.version)).setCell ⟨w.heap.size, 3, none⟩ (.slice (some ⟨b, 0, none⟩) 4 4)) := ((((kL9.setN (Nat.le_refl _) _).setN (Nat.le_refl _) _).setN (Nat.le_refl _) _).setN (Nat.le_refl _) _)
    have c9 : Cur w0 (((((w4.setCell ⟨w2.heap.size, 0, none⟩ (.int .i64 y)).setCell ⟨w.heap.size, 0, none⟩ (.int .i64 y)).setCell ⟨w.heap.size, 1, none⟩ (.int .i64 r.key)).setCell ⟨w.heap.size, 2, none⟩ (.int .i64 r.version)).setCell ⟨w.heap.size, 3, none⟩ (.slice (some ⟨b, 0, none⟩) 4 4)) g := ((((cL9.setN hg _).setN hg _).setN hg _).setN hg _)
    have o9 := ((((oL9.setCell (p := ⟨w.heap.size, 0, none⟩) hRb (.int .i64 y)).setCell (p := ⟨w.heap.size, 1, none⟩) hRb (.int .i64 r.key)).setCell (p := ⟨w.heap.size, 2, none⟩) hRb (.int .i64 r.version)).setCell (p := ⟨w.heap.size, 3, none⟩) hRb (.slice (some ⟨b, 0, none⟩) 4 4))
    refine bodyPost_ret (v := .agg #[.int .i64 y, .int .i64 r.key, .int .i64 r.version, .slice (some ⟨b, 0, none⟩) 4 4]) (by simp [results, Tryz.results109, go_sem, r0, r1, r2, r3]) rfl ?_
    exact ⟨_, ⟨y, r.key, r.version, r.fields⟩, [b], rfl, ⟨_, rfl, HI.out, o9⟩, hNF, c9, k9, HL9.out⟩
  · by_cases h1 : x = 1
    · subst h1
      go_wp2_with fail
      refine (spec_l1PickInt w0 _ g _ [0, 99, 100] (by show 1 ≤ 3 ∧ 3 ≤ 256; decide) (hc3.ext ((Ext.refl _).alloc _)) (fun w4 k4 => (lit_kept rfl (by simp [I64]) (by show 3 ≤ maxLen; decide) hg3 k4).sl)).mono ?_
      rintro e w4 ⟨y, rfl, hy, hc4, hk4⟩
      replace hk4 := (Ext.kept (g := g) ((Ext.refl _).alloc _)).trans hk4
      have hg4 := hc4.base.2.2
      have bLn := bL3.kept (Nat.ne_of_gt hgL) hk4
      have bRn := bR3.kept (Nat.ne_of_gt hg) hk4
      have on := o3.kept hgb hk4
      have hkn := hk03.trans hk4
      clear hk4 hg4 hc3 bL3 bR3 hk03 o3
      have bL9 : Blk (w4.setCell ⟨w2.heap.size, 1, none⟩ (.int .i64 y)) w2.heap.size 24 [.int .i64 r.source, .int .i64 y, .int .i64 r.version, .slice (some ⟨b, 0, none⟩) 4 4] := (bLn.setAt 1 (by show 1 < 4; decide) (.int .i64 y))
      have bR9 := (bRn.other (i := 1) (u := .int .i64 y) hnRL)
      have kL9 : Kept g w (w4.setCell ⟨w2.heap.size, 1, none⟩ (.int .i64 y)) := (hkn.setN hwL _)
      have cL9 : Cur w0 (w4.setCell ⟨w2.heap.size, 1, none⟩ (.int .i64 y)) g := (hc4.setN hgL _)
      have oL9 := (on.setCell (p := ⟨w2.heap.size, 1, none⟩) hLb (.int .i64 y))
      have HI := hid (show Record.ok ⟨r.source, y, r.version, r.fields⟩ from ⟨rs, hy, rv⟩)
      have HL9 := hid (show (Record.fields ⟨r.source, y, r.version, r.fields⟩).length ≤ 4 from Nat.le_of_eq HL4.out)
      obtain ⟨cL0, fL0⟩ := bLn.cells
      obtain ⟨cL, fL⟩ := bL9.cells
      obtain ⟨cR, fR⟩ := bR9.cells
      go_wp2
      have b9 : Blk (((((w4.setCell ⟨w2.heap.size, 1, none⟩ (.int .i64 y)).setCell ⟨w.heap.size, 0, none⟩ (.int .i64 r.source)).setCell ⟨w.heap.size, 1, none⟩ (.int .i64 y)).setCell ⟨w.heap.size, 2, none⟩ (.int .i64 r.version)).setCell ⟨w.heap.size, 3, none⟩ (.slice (some ⟨b, 0, none⟩) 4 4)) w.heap.size 24 [.int .i64 r.source, .int .i64 y, .int .i64 r.version, .slice (some ⟨b, 0, none⟩) 4 4] := ((((bR9.setAt 0 (by show 0 < 4; decide) (.int .i64 r.source)).setAt 1 (by show 1 < 4; decide) (.int .i64 y)).setAt 2 (by show 2 < 4; decide) (.int .i64 r.version)).setAt 3 (by show 3 < 4; decide) (.slice (some ⟨b, 0, none⟩) 4 4))
      have r0 : (((((w4.setCell ⟨w2.heap.size, 1, none⟩ (.int .i64 y)).setCell ⟨w.heap.size, 0, none⟩ (.int .i64 r.source)).setCell ⟨w.heap.size, 1, none⟩ (.int .i64 y)).setCell ⟨w.heap.size, 2, none⟩ (.int .i64 r.version)).setCell ⟨w.heap.size, 3, none⟩ (.slice (some ⟨b, 0, none⟩) 4 4)).cell? ⟨w.heap.size, 0, none⟩ = some (.int .i64 r.source) := b9.cells.1 0
      have r1 : (((((w4.setCell ⟨w2.heap.size, 1, none⟩ (.int .i64 y)).setCell ⟨w.heap.size, 0, none⟩ (.int .i64 r.source)).setCell ⟨w.heap.size, 1, none⟩ (.int .i64 y)).setCell ⟨w.heap.size, 2, none⟩ (.int .i64 r.version)).setCell ⟨w.heap.size, 3, none⟩ (.slice (some ⟨b, 0, none⟩) 4 4)).cell? ⟨w.heap.size, 1, none⟩ = some (.int .i64 y) := b9.cells.1 1
      have r2 : (((((w4.setCell ⟨w2.heap.size, 1, none⟩ (.int .i64 y)).setCell ⟨w.heap.size, 0, none⟩ (.int .i64 r.source)).setCell ⟨w.heap.size, 1, none⟩ (.int .i64 y)).setCell ⟨w.heap.size, 2, none⟩ (.int .i64 r.version)).setCell ⟨w.heap.size, 3, none⟩ (.slice (some ⟨b, 0, none⟩) 4 4)).cell? ⟨w.heap.size, 2, none⟩ = some (.int .i64 r.version) := b9.cells.1 2
      have r3 : (((((w4.setCell ⟨w2.heap.size, 1, none⟩ (.int .i64 y)).setCell ⟨w.heap.size, 0, none⟩ (.int .i64 r.source)).setCell ⟨w.heap.size, 1, none⟩ (.int .i64 y)).setCell ⟨w.heap.size, 2, none⟩ (.int .i64 r.version)).setCell ⟨w.heap.size, 3, none⟩ (.slice (some ⟨b, 0, none⟩) 4 4)).cell? ⟨w.heap.size, 3, none⟩ = some (.slice (some ⟨b, 0, none⟩) 4 4) := b9.cells.1 3
      have k9 : Kept g w (((((w4.setCell ⟨w2.heap.size, 1, none⟩ (.int .i64 y)).setCell ⟨w.heap.size, 0, none⟩ (.int .i64 r.source)).setCell ⟨w.heap.size, 1, none⟩ (.int .i64 y)).setCell ⟨w.heap.size, 2, none⟩ (.int .i64 r.version)).setCell ⟨w.heap.size, 3, none⟩ (.slice (some ⟨b, 0, none⟩) 4 4)) := ((((kL9.setN (Nat.le_refl _) _).setN (Nat.le_refl _) _).setN (Nat.le_refl _) _).setN (Nat.le_refl _) _)
      have c9 : Cur w0 (((((w4.setCell ⟨w2.heap.size, 1, none⟩ (.int .i64 y)).setCell ⟨w.heap.size, 0, none⟩ (.int .i64 r.source)).setCell ⟨w.heap.size, 1, none⟩ (.int .i64 y)).setCell ⟨w.heap.size, 2, none⟩ (.int .i64 r.version)).setCell ⟨w.heap.size, 3, none⟩ (.slice (some ⟨b, 0, none⟩) 4 4)) g := ((((cL9.setN hg _).setN hg _).setN hg _).setN hg _)
      have o9 := ((((oL9.setCell (p := ⟨w.heap.size, 0, none⟩) hRb (.int .i64 r.source)).setCell (p := ⟨w.heap.size, 1, none⟩) hRb (.int .i64 y)).setCell (p := ⟨w.heap.size, 2, none⟩) hRb (.int .i64 r.version)).setCell (p := ⟨w.heap.size, 3, none⟩) hRb (.slice (some ⟨b, 0, none⟩) 4 4))
      refine bodyPost_ret (v := .agg #[.int .i64 r.source, .int .i64 y, .int .i64 r.version, .slice (some ⟨b, 0, none⟩) 4 4]) (by simp [results, Tryz.results109, go_sem, r0, r1, r2, r3]) rfl ?_
      exact ⟨_, ⟨r.source, y, r.version, r.fields⟩, [b], rfl, ⟨_, rfl, HI.out, o9⟩, hNF, c9, k9, HL9.out⟩
    · by_cases h2 : x = 2
      · subst h2
        go_wp2_with fail
        refine (spec_l1PickInt w0 _ g _ [0, 999, 1000] (by show 1 ≤ 3 ∧ 3 ≤ 256; decide) (hc3.ext ((Ext.refl _).alloc _)) (fun w4 k4 => (lit_kept rfl (by simp [I64]) (by show 3 ≤ maxLen; decide) hg3 k4).sl)).mono ?_
        rintro e w4 ⟨y, rfl, hy, hc4, hk4⟩
        replace hk4 := (Ext.kept (g := g) ((Ext.refl _).alloc _)).trans hk4
        have hg4 := hc4.base.2.2
        have bLn := bL3.kept (Nat.ne_of_gt hgL) hk4
        have bRn := bR3.kept (Nat.ne_of_gt hg) hk4
        have on := o3.kept hgb hk4
        have hkn := hk03.trans hk4
        clear hk4 hg4 hc3 bL3 bR3 hk03 o3
        have bL9 : Blk (w4.setCell ⟨w2.heap.size, 2, none⟩ (.int .i64 y)) w2.heap.size 24 [.int .i64 r.source, .int .i64 r.key, .int .i64 y, .slice (some ⟨b, 0, none⟩) 4 4] := (bLn.setAt 2 (by show 2 < 4; decide) (.int .i64 y))
        have bR9 := (bRn.other (i := 2) (u := .int .i64 y) hnRL)
        have kL9 : Kept g w (w4.setCell ⟨w2.heap.size, 2, none⟩ (.int .i64 y)) := (hkn.setN hwL _)
        have cL9 : Cur w0 (w4.setCell ⟨w2.heap.size, 2, none⟩ (.int .i64 y)) g := (hc4.setN hgL _)
        have oL9 := (on.setCell (p := ⟨w2.heap.size, 2, none⟩) hLb (.int .i64 y))
        have HI := hid (show Record.ok ⟨r.source, r.key, y, r.fields⟩ from ⟨rs, rk, hy⟩)
        have HL9 := hid (show (Record.fields ⟨r.source, r.key, y, r.fields⟩).length ≤ 4 from Nat.le_of_eq HL4.out)
        obtain ⟨cL0, fL0⟩ := bLn.cells
        obtain ⟨cL, fL⟩ := bL9.cells
        obtain ⟨cR, fR⟩ := bR9.cells
        go_wp2
        have b9 : Blk (((((w4.setCell ⟨w2.heap.size, 2, none⟩ (.int .i64 y)).setCell ⟨w.heap.size, 0, none⟩ (.int .i64 r.source)).setCell ⟨w.heap.size, 1, none⟩ (.int .i64 r.key)).setCell ⟨w.heap.size, 2, none⟩ (.int .i64 y)).setCell ⟨w.heap.size, 3, none⟩ (.slice (some ⟨b, 0, none⟩) 4 4)) w.heap.size 24 [.int .i64 r.source, .int .i64 r.key, .int .i64 y, .slice (some ⟨b, 0, none⟩) 4 4] := ((((bR9.setAt 0 (by show 0 < 4; decide) (.int .i64 r.source)).setAt 1 (by show 1 < 4; decide) (.int .i64 r.key)).setAt 2 (by show 2 < 4; decide) (.int .i64 y)).setAt 3 (by show 3 < 4; decide) (.slice (some ⟨b, 0, none⟩) 4 4))
        have r0 : (((((w4.setCell ⟨w2.heap.size, 2, none⟩ (.int .i64 y)).setCell ⟨w.heap.size, 0, none⟩ (.int .i64 r.source)).setCell ⟨w.heap.size, 1, none⟩ (.int .i64 r.key)).setCell ⟨w.heap.size, 2, none⟩ (.int .i64 y)).setCell ⟨w.heap.size, 3, none⟩ (.slice (some ⟨b, 0, none⟩) 4 4)).cell? ⟨w.heap.size, 0, none⟩ = some (.int .i64 r.source) := b9.cells.1 0
        have r1 : (((((w4.setCell ⟨w2.heap.size, 2, none⟩ (.int .i64 y)).setCell ⟨w.heap.size, 0, none⟩ (.int .i64 r.source)).setCell ⟨w.heap.size, 1, none⟩ (.int .i64 r.key)).setCell ⟨w.heap.size, 2, none⟩ (.int .i64 y)).setCell ⟨w.heap.size, 3, none⟩ (.slice (some ⟨b, 0, none⟩) 4 4)).cell? ⟨w.heap.size, 1, none⟩ = some (.int .i64 r.key) := b9.cells.1 1
        have r2 : (((((w4.setCell ⟨w2.heap.size, 2, none⟩ (.int .i64 y)).setCell ⟨w.heap.size, 0, none⟩ (.int .i64 r.source)).setCell ⟨w.heap.size, 1, none⟩ (.int .i64 r.key)).setCell ⟨w.heap.size, 2, none⟩ (.int .i64 y)).setCell ⟨w.heap.size, 3, none⟩ (.slice (some ⟨b, 0, none⟩) 4 4)).cell? ⟨w.heap.size, 2, none⟩ = some (.int .i64 y) := b9.cells.1 2
        have r3 : (((((w4.setCell ⟨w2.heap.size, 2, none⟩ (.int .i64 y)).setCell ⟨w.heap.size, 0, none⟩ (.int .i64 r.source)).setCell ⟨w.heap.size, 1, none⟩ (.int .i64 r.key)).setCell ⟨w.heap.size, 2, none⟩ (.int .i64 y)).setCell ⟨w.heap.size, 3, none⟩ (.slice (some ⟨b, 0, none⟩) 4 4)).cell? ⟨w.heap.size, 3, none⟩ = some (.slice (some ⟨b, 0, none⟩) 4 4) := b9.cells.1 3
        have k9 : Kept g w (((((w4.setCell ⟨w2.heap.size, 2, none⟩ (.int .i64 y)).setCell ⟨w.heap.size, 0, none⟩ (.int .i64 r.source)).setCell ⟨w.heap.size, 1, none⟩ (.int .i64 r.key)).setCell ⟨w.heap.size, 2, none⟩ (.int .i64 y)).setCell ⟨w.heap.size, 3, none⟩ (.slice (some ⟨b, 0, none⟩) 4 4)) := ((((kL9.setN (Nat.le_refl _) _).setN (Nat.le_refl _) _).setN (Nat.le_refl _) _).setN (Nat.le_refl _) _)
        have c9 : Cur w0 (((((w4.setCell ⟨w2.heap.size, 2, none⟩ (.int .i64 y)).setCell ⟨w.heap.size, 0, none⟩ (.int .i64 r.source)).setCell ⟨w.heap.size, 1, none⟩ (.int .i64 r.key)).setCell ⟨w.heap.size, 2, none⟩ (.int .i64 y)).setCell ⟨w.heap.size, 3, none⟩ (.slice (some ⟨b, 0, none⟩) 4 4)) g := ((((cL9.setN hg _).setN hg _).setN hg _).setN hg _)
        have o9 := ((((oL9.setCell (p := ⟨w.heap.size, 0, none⟩) hRb (.int .i64 r.source)).setCell (p := ⟨w.heap.size, 1, none⟩) hRb (.int .i64 r.key)).setCell (p := ⟨w.heap.size, 2, none⟩) hRb (.int .i64 y)).setCell (p := ⟨w.heap.size, 3, none⟩) hRb (.slice (some ⟨b, 0, none⟩) 4 4))
        refine bodyPost_ret (v := .agg #[.int .i64 r.source, .int .i64 r.key, .int .i64 y, .slice (some ⟨b, 0, none⟩) 4 4]) (by simp [results, Tryz.results109, go_sem, r0, r1, r2, r3]) rfl ?_
        exact ⟨_, ⟨r.source, r.key, y, r.fields⟩, [b], rfl, ⟨_, rfl, HI.out, o9⟩, hNF, c9, k9, HL9.out⟩
      · by_cases h3 : x = 3
        · subst h3
          obtain ⟨f0, fs, hfs⟩ : ∃ f0 fs, r.fields = f0 :: fs := by
            cases hf : r.fields with
            | nil => rw [hf] at rl; simp at rl
            | cons a l => exact ⟨a, l, rfl⟩
          rw [hfs] at o3
          have o3t := o3.str_tail
          have bL9 : Blk (w3.setCell ⟨w2.heap.size, 3, none⟩ (.slice (some ⟨b, 1, none⟩) 3 3)) w2.heap.size 24 [.int .i64 r.source, .int .i64 r.key, .int .i64 r.version, .slice (some ⟨b, 1, none⟩) 3 3] := (bL3.setAt 3 (by show 3 < 4; decide) (.slice (some ⟨b, 1, none⟩) 3 3))
          have bR9 := (bR3.other (i := 3) (u := .slice (some ⟨b, 1, none⟩) 3 3) hnRL)
          have kL9 : Kept g w (w3.setCell ⟨w2.heap.size, 3, none⟩ (.slice (some ⟨b, 1, none⟩) 3 3)) := (hk03.setN hwL _)
          have cL9 : Cur w0 (w3.setCell ⟨w2.heap.size, 3, none⟩ (.slice (some ⟨b, 1, none⟩) 3 3)) g := (hc3.setN hgL _)
          have oL9 := (o3t.setCell (p := ⟨w2.heap.size, 3, none⟩) hLb (.slice (some ⟨b, 1, none⟩) 3 3))
          have HI := hid (show Record.ok ⟨r.source, r.key, r.version, fs⟩ from ⟨rs, rk, rv⟩)
          have HL9 := hid (show (Record.fields ⟨r.source, r.key, r.version, fs⟩).length ≤ 4 from (by have h9 := HL4.out; rw [hfs] at h9; simp only [List.length_cons] at h9; show fs.length ≤ 4; omega))
          obtain ⟨cL0, fL0⟩ := bL3.cells
          obtain ⟨cL, fL⟩ := bL9.cells
          obtain ⟨cR, fR⟩ := bR9.cells
          go_wp2
          have b9 : Blk (((((w3.setCell ⟨w2.heap.size, 3, none⟩ (.slice (some ⟨b, 1, none⟩) 3 3)).setCell ⟨w.heap.size, 0, none⟩ (.int .i64 r.source)).setCell ⟨w.heap.size, 1, none⟩ (.int .i64 r.key)).setCell ⟨w.heap.size, 2, none⟩ (.int .i64 r.version)).setCell ⟨w.heap.size, 3, none⟩ (.slice (some ⟨b, 1, none⟩) 3 3)) w.heap.size 24 [.int .i64 r.source, .int .i64 r.key, .int .i64 r.version, .slice (some ⟨b, 1, none⟩) 3 3] := ((((bR9.setAt 0 (by show 0 < 4; decide) (.int .i64 r.source)).setAt 1 (by show 1 < 4; decide) (.int .i64 r.key)).setAt 2 (by show 2 < 4; decide) (.int .i64 r.version)).setAt 3 (by show 3 < 4; decide) (.slice (some ⟨b, 1, none⟩) 3 3))
          have r0 : (((((w3.setCell ⟨w2.heap.size, 3, none⟩ (.slice (some ⟨b, 1, none⟩) 3 3)).setCell ⟨w.heap.size, 0, none⟩ (.int .i64 r.source)).setCell ⟨w.heap.size, 1, none⟩ (.int .i64 r.key)).setCell ⟨w.heap.size, 2, none⟩ (.int .i64 r.version)).setCell ⟨w.heap.size, 3, none⟩ (.slice (some ⟨b, 1, none⟩) 3 3)).cell? ⟨w.heap.size, 0, none⟩ = some (.int .i64 r.source) := b9.cells.1 0
          have r1 : (((((w3.setCell ⟨w2.heap.size, 3, none⟩ (.slice (some ⟨b, 1, none⟩) 3 3)).setCell ⟨w.heap.size, 0, none⟩ (.int .i64 r.source)).setCell ⟨w.heap.size, 1, none⟩ (.int .i64 r.key)).setCell ⟨w.heap.size, 2, none⟩ (.int .i64 r.version)).setCell ⟨w.heap.size, 3, none⟩ (.slice (some ⟨b, 1, none⟩) 3 3)).cell? ⟨w.heap.size, 1, none⟩ = some (.int .i64 r.key) := b9.cells.1 1
          have r2 : (((((w3.setCell ⟨w2.heap.size, 3, none⟩ (.slice (some ⟨b, 1, none⟩) 3 3)).setCell ⟨w.heap.size, 0, none⟩ (.int .i64 r.source)).setCell ⟨w.heap.size, 1, none⟩ (.int .i64 r.key)).setCell ⟨w.heap.size, 2, none⟩ (.int .i64 r.version)).setCell ⟨w.heap.size, 3, none⟩ (.slice (some ⟨b, 1, none⟩) 3 3)).cell? ⟨w.heap.size, 2, none⟩ = some (.int .i64 r.version) := b9.cells.1 2
          have r3 : (((((w3.setCell ⟨w2.heap.size, 3, none⟩ (.slice (some ⟨b, 1, none⟩) 3 3)).setCell ⟨w.heap.size, 0, none⟩ (.int .i64 r.source)).setCell ⟨w.heap.size, 1, none⟩ (.int .i64 r.key)).setCell ⟨w.heap.size, 2, none⟩ (.int .i64 r.version)).setCell ⟨w.heap.size, 3, none⟩ (.slice (some ⟨b, 1, none⟩) 3 3)).cell? ⟨w.heap.size, 3, none⟩ = some (.slice (some ⟨b, 1, none⟩) 3 3) := b9.cells.1 3
          have k9 : Kept g w (((((w3.setCell ⟨w2.heap.size, 3, none⟩ (.slice (some ⟨b, 1, none⟩) 3 3)).setCell ⟨w.heap.size, 0, none⟩ (.int .i64 r.source)).setCell ⟨w.heap.size, 1, none⟩ (.int .i64 r.key)).setCell ⟨w.heap.size, 2, none⟩ (.int .i64 r.version)).setCell ⟨w.heap.size, 3, none⟩ (.slice (some ⟨b, 1, none⟩) 3 3)) := ((((kL9.setN (Nat.le_refl _) _).setN (Nat.le_refl _) _).setN (Nat.le_refl _) _).setN (Nat.le_refl _) _)
          have c9 : Cur w0 (((((w3.setCell ⟨w2.heap.size, 3, none⟩ (.slice (some ⟨b, 1, none⟩) 3 3)).setCell ⟨w.heap.size, 0, none⟩ (.int .i64 r.source)).setCell ⟨w.heap.size, 1, none⟩ (.int .i64 r.key)).setCell ⟨w.heap.size, 2, none⟩ (.int .i64 r.version)).setCell ⟨w.heap.size, 3, none⟩ (.slice (some ⟨b, 1, none⟩) 3 3)) g := ((((cL9.setN hg _).setN hg _).setN hg _).setN hg _)
          have o9 := ((((oL9.setCell (p := ⟨w.heap.size, 0, none⟩) hRb (.int .i64 r.source)).setCell (p := ⟨w.heap.size, 1, none⟩) hRb (.int .i64 r.key)).setCell (p := ⟨w.heap.size, 2, none⟩) hRb (.int .i64 r.version)).setCell (p := ⟨w.heap.size, 3, none⟩) hRb (.slice (some ⟨b, 1, none⟩) 3 3))
          refine bodyPost_ret (v := .agg #[.int .i64 r.source, .int .i64 r.key, .int .i64 r.version, .slice (some ⟨b, 1, none⟩) 3 3]) (by simp [results, Tryz.results109, go_sem, r0, r1, r2, r3]) rfl ?_
          exact ⟨_, ⟨r.source, r.key, r.version, fs⟩, [b], rfl, ⟨_, rfl, HI.out, o9⟩, hNF, c9, k9, HL9.out⟩
        · by_cases h4 : x = 4
          · subst h4
            have hlt0 : 0 < r.fields.length := by omega
            obtain ⟨gb, offb, capb, eb, hgb9, hcb, hfb, hst⟩ := o3.str_store (by simp) hlt0
            injection eb with eb en9 ec9
            clear en9 ec9
            injection eb with eb
            injection eb with eb1 eb2 _
            subst eb1; subst eb2
            rw [Nat.add_zero] at hcb hfb hst
            obtain ⟨s0, hs0⟩ : ∃ s, s = r.fields[0] := ⟨_, rfl⟩
            rw [← hs0] at hcb
            clear hs0
            have hbw : w.heap.size ≤ b := by have := hNF.2 b (by simp); omega
            have hbr : ¬ w.heap.size = b := fun e => hRb (by rw [e]; simp)
            have hgb2 : g < b := by omega
            have hbl : ¬ w2.heap.size = b := fun e => hLb (by rw [e]; simp)
            have HK := hid (show ∀ W, Kept g w3 W → W.cell? ⟨w2.heap.size, 3, none⟩ = some (.slice (some ⟨b, 0, none⟩) 4 4) from fun W k => (bL3.kept (Nat.ne_of_gt hgL) k).cells.1 3)
            have HK2 := hid (show ∀ W u, Kept g w3 W → (W.setCell ⟨b, 0, none⟩ u).cell? ⟨w2.heap.size, 3, none⟩ = some (.slice (some ⟨b, 0, none⟩) 4 4) from fun W u k => ((bL3.kept (Nat.ne_of_gt hgL) k).other hbl).cells.1 3)
            have HKB := hid (show ∀ W, Kept g w3 W → W.cell? ⟨b, 0, none⟩ = some (.string s0) ∧ W.frozen? ⟨b, 0, none⟩ = false from fun W k => by
              have e := k.2 b (o3.lt b (List.mem_singleton.2 rfl)) (fun e => hgb (by rw [e]; exact List.mem_singleton.2 rfl))
              refine ⟨?_, ?_⟩
              · rw [← hcb]; unfold World.cell?; rw [e]
              · rw [← hfb]; unfold World.frozen?; rw [e])
            have hkl : ∀ W, Kept g (w3.alloc (.cells #[.string ⟨#[97, 124, 98]⟩, .string ⟨#[97, 59, 98]⟩, .string ⟨#[10]⟩, .string ⟨#[]⟩] 9)) W → Sl strR W (.slice (some ⟨w3.heap.size, 0, none⟩) 4 4) [⟨#[97, 124, 98]⟩, ⟨#[97, 59, 98]⟩, ⟨#[10]⟩, ⟨#[]⟩] := fun W k => (lits_kept (xs := [⟨#[97, 124, 98]⟩, ⟨#[97, 59, 98]⟩, ⟨#[10]⟩, ⟨#[]⟩]) rfl (by decide) (by decide) hg3 k).sl
            have HRL := hid rl
            clear hcb hfb hst rl hlt0
            go_wp2_with fail
            go_region_held3 (fun w' => w'.cell? ⟨w2.heap.size, 3, none⟩ = some (.slice (some ⟨b, 0, none⟩) 4 4)) (first | (refine HK.out _ ?_; ((repeat (first | with_reducible exact Kept.refl _ _ | with_reducible assumption | with_reducible refine Kept.drew ?_ | with_reducible refine Kept.alloc ?_ _ | with_reducible refine Kept.trans ?_ (by with_reducible assumption))); done)) | (refine HK2.out _ _ ?_; ((repeat (first | with_reducible exact Kept.refl _ _ | with_reducible assumption | with_reducible refine Kept.drew ?_ | with_reducible refine Kept.alloc ?_ _ | with_reducible refine Kept.trans ?_ (by with_reducible assumption))); done))) (first | (go_at_call 145; refine (spec_l1Pick w0 _ g _ [⟨#[97, 124, 98]⟩, ⟨#[97, 59, 98]⟩, ⟨#[10]⟩, ⟨#[]⟩] (by decide) (by decide) ?hcur (fun W k => hkl W (Kept.trans (by repeat (first | with_reducible exact Kept.refl _ _ | with_reducible assumption | with_reducible refine Kept.drew ?_ | with_reducible refine Kept.alloc ?_ _ | with_reducible refine Kept.trans ?_ (by with_reducible assumption))) k))).mono ?_; (case hcur => exact (by repeat (first | with_reducible assumption | with_reducible refine Cur.drew ?_ | with_reducible refine Cur.alloc ?_ _))); rintro e w4 ⟨y, rfl, hy, hc4, hk4⟩; have hk34 : Kept g w3 w4 := (by repeat (first | with_reducible exact Kept.refl _ _ | with_reducible assumption | with_reducible refine Kept.drew ?_ | with_reducible refine Kept.alloc ?_ _ | with_reducible refine Kept.trans ?_ (by with_reducible assumption))); obtain ⟨cb4, fb4⟩ := HKB.out w4 hk34))
            have o4 := o3.kept hgb hk34
            have bL4 := (bL3.kept (Nat.ne_of_gt hgL) hk34).other (i := 0) (u := .string y) hbl
            have bR4 := (bR3.kept (Nat.ne_of_gt hg) hk34).other (i := 0) (u := .string y) hbr
            have kW : Kept g w (w4.setCell ⟨b, 0, none⟩ (.string y)) := (hk03.trans hk34).setN hbw _
            have cW : Cur w0 (w4.setCell ⟨b, 0, none⟩ (.string y)) g := hc4.setN hgb2 _
            obtain ⟨gb, offb, capb, eb, hgb9, hcb, hfb, hst⟩ := o4.str_store (by simp) (i := 0) (by have := HRL.out; omega)
            injection eb with eb en9 ec9
            clear en9 ec9
            injection eb with eb
            injection eb with eb1 eb2 _
            subst eb1; subst eb2
            rw [Nat.add_zero] at hcb hfb hst
            have oW := hst y (Nat.le_trans hy (by decide))
            clear hcb hfb hst o4 o3 bL3 bR3 hk03 hk34 hc4 hc3 cb4 fb4
            obtain ⟨cL, fL⟩ := bL4.cells
            have HL9 := hid (show (Record.fields ⟨r.source, r.key, r.version, r.fields.set 0 y⟩).length ≤ 4 from (by show (r.fields.set 0 y).length ≤ 4; rw [List.length_set]; exact Nat.le_of_eq HL4.out))
            obtain ⟨cR, fR⟩ := bR4.cells
            go_wp2
            have b9 : Blk (((((w4.setCell ⟨b, 0, none⟩ (.string y)).setCell ⟨w.heap.size, 0, none⟩ (.int .i64 r.source)).setCell ⟨w.heap.size, 1, none⟩ (.int .i64 r.key)).setCell ⟨w.heap.size, 2, none⟩ (.int .i64 r.version)).setCell ⟨w.heap.size, 3, none⟩ (.slice (some ⟨b, 0, none⟩) 4 4)) w.heap.size 24 [.int .i64 r.source, .int .i64 r.key, .int .i64 r.version, .slice (some ⟨b, 0, none⟩) 4 4] := ((((bR4.setAt 0 (by show 0 < 4; decide) (.int .i64 r.source)).setAt 1 (by show 1 < 4; decide) (.int .i64 r.key)).setAt 2 (by show 2 < 4; decide) (.int .i64 r.version)).setAt 3 (by show 3 < 4; decide) (.slice (some ⟨b, 0, none⟩) 4 4))
            have r0 : (((((w4.setCell ⟨b, 0, none⟩ (.string y)).setCell ⟨w.heap.size, 0, none⟩ (.int .i64 r.source)).setCell ⟨w.heap.size, 1, none⟩ (.int .i64 r.key)).setCell ⟨w.heap.size, 2, none⟩ (.int .i64 r.version)).setCell ⟨w.heap.size, 3, none⟩ (.slice (some ⟨b, 0, none⟩) 4 4)).cell? ⟨w.heap.size, 0, none⟩ = some (.int .i64 r.source) := b9.cells.1 0
            have r1 : (((((w4.setCell ⟨b, 0, none⟩ (.string y)).setCell ⟨w.heap.size, 0, none⟩ (.int .i64 r.source)).setCell ⟨w.heap.size, 1, none⟩ (.int .i64 r.key)).setCell ⟨w.heap.size, 2, none⟩ (.int .i64 r.version)).setCell ⟨w.heap.size, 3, none⟩ (.slice (some ⟨b, 0, none⟩) 4 4)).cell? ⟨w.heap.size, 1, none⟩ = some (.int .i64 r.key) := b9.cells.1 1
            have r2 : (((((w4.setCell ⟨b, 0, none⟩ (.string y)).setCell ⟨w.heap.size, 0, none⟩ (.int .i64 r.source)).setCell ⟨w.heap.size, 1, none⟩ (.int .i64 r.key)).setCell ⟨w.heap.size, 2, none⟩ (.int .i64 r.version)).setCell ⟨w.heap.size, 3, none⟩ (.slice (some ⟨b, 0, none⟩) 4 4)).cell? ⟨w.heap.size, 2, none⟩ = some (.int .i64 r.version) := b9.cells.1 2
            have r3 : (((((w4.setCell ⟨b, 0, none⟩ (.string y)).setCell ⟨w.heap.size, 0, none⟩ (.int .i64 r.source)).setCell ⟨w.heap.size, 1, none⟩ (.int .i64 r.key)).setCell ⟨w.heap.size, 2, none⟩ (.int .i64 r.version)).setCell ⟨w.heap.size, 3, none⟩ (.slice (some ⟨b, 0, none⟩) 4 4)).cell? ⟨w.heap.size, 3, none⟩ = some (.slice (some ⟨b, 0, none⟩) 4 4) := b9.cells.1 3
            have k9 : Kept g w (((((w4.setCell ⟨b, 0, none⟩ (.string y)).setCell ⟨w.heap.size, 0, none⟩ (.int .i64 r.source)).setCell ⟨w.heap.size, 1, none⟩ (.int .i64 r.key)).setCell ⟨w.heap.size, 2, none⟩ (.int .i64 r.version)).setCell ⟨w.heap.size, 3, none⟩ (.slice (some ⟨b, 0, none⟩) 4 4)) := ((((kW.setN (Nat.le_refl _) _).setN (Nat.le_refl _) _).setN (Nat.le_refl _) _).setN (Nat.le_refl _) _)
            have c9 : Cur w0 (((((w4.setCell ⟨b, 0, none⟩ (.string y)).setCell ⟨w.heap.size, 0, none⟩ (.int .i64 r.source)).setCell ⟨w.heap.size, 1, none⟩ (.int .i64 r.key)).setCell ⟨w.heap.size, 2, none⟩ (.int .i64 r.version)).setCell ⟨w.heap.size, 3, none⟩ (.slice (some ⟨b, 0, none⟩) 4 4)) g := ((((cW.setN hg _).setN hg _).setN hg _).setN hg _)
            have o9 := ((((oW.setCell (p := ⟨w.heap.size, 0, none⟩) hRb (.int .i64 r.source)).setCell (p := ⟨w.heap.size, 1, none⟩) hRb (.int .i64 r.key)).setCell (p := ⟨w.heap.size, 2, none⟩) hRb (.int .i64 r.version)).setCell (p := ⟨w.heap.size, 3, none⟩) hRb (.slice (some ⟨b, 0, none⟩) 4 4))
            refine bodyPost_ret (v := .agg #[.int .i64 r.source, .int .i64 r.key, .int .i64 r.version, .slice (some ⟨b, 0, none⟩) 4 4]) (by simp [results, Tryz.results109, go_sem, r0, r1, r2, r3]) rfl ?_
            exact ⟨_, ⟨r.source, r.key, r.version, r.fields.set 0 y⟩, [b], rfl, ⟨_, rfl, ⟨rs, rk, rv⟩, o9⟩, hNF, c9, k9, HL9.out⟩
          · obtain ⟨cL, fL⟩ := bL3.cells
            have HL9 := hid (show (Record.fields r).length ≤ 4 from Nat.le_of_eq HL4.out)
            obtain ⟨cR, fR⟩ := bR3.cells
            go_wp2
            have b9 : Blk ((((w3.setCell ⟨w.heap.size, 0, none⟩ (.int .i64 r.source)).setCell ⟨w.heap.size, 1, none⟩ (.int .i64 r.key)).setCell ⟨w.heap.size, 2, none⟩ (.int .i64 r.version)).setCell ⟨w.heap.size, 3, none⟩ (.slice (some ⟨b, 0, none⟩) 4 4)) w.heap.size 24 [.int .i64 r.source, .int .i64 r.key, .int .i64 r.version, .slice (some ⟨b, 0, none⟩) 4 4] := ((((bR3.setAt 0 (by show 0 < 4; decide) (.int .i64 r.source)).setAt 1 (by show 1 < 4; decide) (.int .i64 r.key)).setAt 2 (by show 2 < 4; decide) (.int .i64 r.version)).setAt 3 (by show 3 < 4; decide) (.slice (some ⟨b, 0, none⟩) 4 4))
            have r0 : ((((w3.setCell ⟨w.heap.size, 0, none⟩ (.int .i64 r.source)).setCell ⟨w.heap.size, 1, none⟩ (.int .i64 r.key)).setCell ⟨w.heap.size, 2, none⟩ (.int .i64 r.version)).setCell ⟨w.heap.size, 3, none⟩ (.slice (some ⟨b, 0, none⟩) 4 4)).cell? ⟨w.heap.size, 0, none⟩ = some (.int .i64 r.source) := b9.cells.1 0
            have r1 : ((((w3.setCell ⟨w.heap.size, 0, none⟩ (.int .i64 r.source)).setCell ⟨w.heap.size, 1, none⟩ (.int .i64 r.key)).setCell ⟨w.heap.size, 2, none⟩ (.int .i64 r.version)).setCell ⟨w.heap.size, 3, none⟩ (.slice (some ⟨b, 0, none⟩) 4 4)).cell? ⟨w.heap.size, 1, none⟩ = some (.int .i64 r.key) := b9.cells.1 1
            have r2 : ((((w3.setCell ⟨w.heap.size, 0, none⟩ (.int .i64 r.source)).setCell ⟨w.heap.size, 1, none⟩ (.int .i64 r.key)).setCell ⟨w.heap.size, 2, none⟩ (.int .i64 r.version)).setCell ⟨w.heap.size, 3, none⟩ (.slice (some ⟨b, 0, none⟩) 4 4)).cell? ⟨w.heap.size, 2, none⟩ = some (.int .i64 r.version) := b9.cells.1 2
            have r3 : ((((w3.setCell ⟨w.heap.size, 0, none⟩ (.int .i64 r.source)).setCell ⟨w.heap.size, 1, none⟩ (.int .i64 r.key)).setCell ⟨w.heap.size, 2, none⟩ (.int .i64 r.version)).setCell ⟨w.heap.size, 3, none⟩ (.slice (some ⟨b, 0, none⟩) 4 4)).cell? ⟨w.heap.size, 3, none⟩ = some (.slice (some ⟨b, 0, none⟩) 4 4) := b9.cells.1 3
            have k9 : Kept g w ((((w3.setCell ⟨w.heap.size, 0, none⟩ (.int .i64 r.source)).setCell ⟨w.heap.size, 1, none⟩ (.int .i64 r.key)).setCell ⟨w.heap.size, 2, none⟩ (.int .i64 r.version)).setCell ⟨w.heap.size, 3, none⟩ (.slice (some ⟨b, 0, none⟩) 4 4)) := ((((hk03.setN (Nat.le_refl _) _).setN (Nat.le_refl _) _).setN (Nat.le_refl _) _).setN (Nat.le_refl _) _)
            have c9 : Cur w0 ((((w3.setCell ⟨w.heap.size, 0, none⟩ (.int .i64 r.source)).setCell ⟨w.heap.size, 1, none⟩ (.int .i64 r.key)).setCell ⟨w.heap.size, 2, none⟩ (.int .i64 r.version)).setCell ⟨w.heap.size, 3, none⟩ (.slice (some ⟨b, 0, none⟩) 4 4)) g := ((((hc3.setN hg _).setN hg _).setN hg _).setN hg _)
            have o9 := ((((o3.setCell (p := ⟨w.heap.size, 0, none⟩) hRb (.int .i64 r.source)).setCell (p := ⟨w.heap.size, 1, none⟩) hRb (.int .i64 r.key)).setCell (p := ⟨w.heap.size, 2, none⟩) hRb (.int .i64 r.version)).setCell (p := ⟨w.heap.size, 3, none⟩) hRb (.slice (some ⟨b, 0, none⟩) 4 4))
            refine bodyPost_ret (v := .agg #[.int .i64 r.source, .int .i64 r.key, .int .i64 r.version, .slice (some ⟨b, 0, none⟩) 4 4]) (by simp [results, Tryz.results109, go_sem, r0, r1, r2, r3]) rfl ?_
            exact ⟨_, r, [b], rfl, ⟨_, rfl, rok, o9⟩, hNF, c9, k9, HL9.out⟩

end Go.Proofs.YtfieimmlcopbhaaGreatDoor

namespace Go.Proofs.YtfieimmlcopbhaaGreatDoor
open Go.RowKit

theorem RecOwn.kept {w w2 : World} {g : Nat} {v : Value} {r : Record} {F : List Nat} (h : RecOwn w v r F) (hg : g ∉ F) (k : Kept g w w2) : RecOwn w2 v r F :=
  h.keep fun b hb => k.2 b (h.lt b hb) (fun e => hg (e ▸ hb))
theorem RecOwn.setCell {w : World} {v : Value} {r : Record} {F : List Nat} (h : RecOwn w v r F) {p : Addr} (hp : p.block ∉ F) (u : Value) : RecOwn (w.setCell p u) v r F :=
  h.keep fun b hb => keep_setCell (fun e => hp (e ▸ hb))
/-- a record's four cells as a list -/
def recL (r : Record) (f : Value) : List Value := [.int .i64 r.source, .int .i64 r.key, .int .i64 r.version, f]
def zR : List Value := [.int .i64 0, .int .i64 0, .int .i64 0, .slice none 0 0]

theorem Blk.drew {w : World} {g : Nat} {e : TypeId} {cs : List Value} (h : Blk w g e cs) : Blk w.drew g e cs := h
theorem Blk.put4 {w : World} {g : Nat} {e : TypeId} {a b c d : Value} (h : Blk w g e [a, b, c, d]) (x y z u : Value) : Blk ((((w.setCell ⟨g, 0, none⟩ x).setCell ⟨g, 1, none⟩ y).setCell ⟨g, 2, none⟩ z).setCell ⟨g, 3, none⟩ u) g e [x, y, z, u] := (h.store4 x y z u).2.2.2.2
theorem Blk.oth4 {w : World} {g g2 : Nat} {e : TypeId} {cs : List Value} (h : Blk w g e cs) (hne : g ≠ g2) (x y z u : Value) : Blk ((((w.setCell ⟨g2, 0, none⟩ x).setCell ⟨g2, 1, none⟩ y).setCell ⟨g2, 2, none⟩ z).setCell ⟨g2, 3, none⟩ u) g e cs := (((h.other hne).other hne).other hne).other hne
/-- two records stored into two blocks -/
theorem fin2 {W w0 : World} {R2 R3 : Nat} {T : TypeId} {a0 a1 a2 a3 b0 b1 b2 b3 : Value} (h2 : Blk W R2 T [a0, a1, a2, a3]) (h3 : Blk W R3 T [b0, b1, b2, b3]) (hne : R2 ≠ R3) (hx : Ext w0 W) (l2 : w0.heap.size ≤ R2) (l3 : w0.heap.size ≤ R3) (a b : Record) {f1 f2 : Value} {F1 F2 : List Nat}
    (o1 : OwnSl strO W f1 a.fields F1) (o2 : OwnSl strO W f2 b.fields F2) (n12 : R2 ∉ F1) (n13 : R3 ∉ F1) (n22 : R2 ∉ F2) (n23 : R3 ∉ F2) {WF : World} (hW : WF = ((((((((W.setCell ⟨R2, 0, none⟩ (.int .i64 a.source)).setCell ⟨R2, 1, none⟩ (.int .i64 a.key)).setCell ⟨R2, 2, none⟩ (.int .i64 a.version)).setCell ⟨R2, 3, none⟩ (f1)).setCell ⟨R3, 0, none⟩ (.int .i64 b.source)).setCell ⟨R3, 1, none⟩ (.int .i64 b.key)).setCell ⟨R3, 2, none⟩ (.int .i64 b.version)).setCell ⟨R3, 3, none⟩ (f2))) :
    ((WF.cell? ⟨R2, 0, none⟩ = some (.int .i64 a.source) ∧ WF.cell? ⟨R2, 1, none⟩ = some (.int .i64 a.key) ∧ WF.cell? ⟨R2, 2, none⟩ = some (.int .i64 a.version) ∧ WF.cell? ⟨R2, 3, none⟩ = some (f1)) ∧
     (WF.cell? ⟨R3, 0, none⟩ = some (.int .i64 b.source) ∧ WF.cell? ⟨R3, 1, none⟩ = some (.int .i64 b.key) ∧ WF.cell? ⟨R3, 2, none⟩ = some (.int .i64 b.version) ∧ WF.cell? ⟨R3, 3, none⟩ = some (f2))) ∧
    Hid (OwnSl strO WF f1 a.fields F1 ∧ OwnSl strO WF f2 b.fields F2 ∧ Ext w0 WF) := by
  subst hW
  refine ⟨⟨((h2.put4 _ _ _ _).oth4 hne _ _ _ _).c4.1, ((h3.oth4 hne.symm _ _ _ _).put4 _ _ _ _).c4.1⟩, ?_, ?_, ?_⟩
  · exact ((((((((o1.setCell (p := ⟨R2, 0, none⟩) n12 (.int .i64 a.source)).setCell (p := ⟨R2, 1, none⟩) n12 (.int .i64 a.key)).setCell (p := ⟨R2, 2, none⟩) n12 (.int .i64 a.version)).setCell (p := ⟨R2, 3, none⟩) n12 (f1)).setCell (p := ⟨R3, 0, none⟩) n13 (.int .i64 b.source)).setCell (p := ⟨R3, 1, none⟩) n13 (.int .i64 b.key)).setCell (p := ⟨R3, 2, none⟩) n13 (.int .i64 b.version)).setCell (p := ⟨R3, 3, none⟩) n13 (f2))
  · exact ((((((((o2.setCell (p := ⟨R2, 0, none⟩) n22 (.int .i64 a.source)).setCell (p := ⟨R2, 1, none⟩) n22 (.int .i64 a.key)).setCell (p := ⟨R2, 2, none⟩) n22 (.int .i64 a.version)).setCell (p := ⟨R2, 3, none⟩) n22 (f1)).setCell (p := ⟨R3, 0, none⟩) n23 (.int .i64 b.source)).setCell (p := ⟨R3, 1, none⟩) n23 (.int .i64 b.key)).setCell (p := ⟨R3, 2, none⟩) n23 (.int .i64 b.version)).setCell (p := ⟨R3, 3, none⟩) n23 (f2))
  · repeat (refine Ext.setCell ?_ (by assumption) _)
    exact hx
theorem c44 {w : World} {a b : Nat} {T : TypeId} {a0 a1 a2 a3 b0 b1 b2 b3 : Value} (h2 : Blk w a T [a0, a1, a2, a3]) (h3 : Blk w b T [b0, b1, b2, b3]) :
    w.cell? ⟨a, 0, none⟩ = some a0 ∧ w.cell? ⟨a, 1, none⟩ = some a1 ∧ w.cell? ⟨a, 2, none⟩ = some a2 ∧ w.cell? ⟨a, 3, none⟩ = some a3 ∧ w.cell? ⟨b, 0, none⟩ = some b0 ∧ w.cell? ⟨b, 1, none⟩ = some b1 ∧ w.cell? ⟨b, 2, none⟩ = some b2 ∧ w.cell? ⟨b, 3, none⟩ = some b3 :=
  ⟨h2.c4.1.1, h2.c4.1.2.1, h2.c4.1.2.2.1, h2.c4.1.2.2.2, h3.c4.1.1, h3.c4.1.2.1, h3.c4.1.2.2.1, h3.c4.1.2.2.2⟩

set_option maxHeartbeats 4000000 in
set_option maxRecDepth 20000 in
theorem spec_l8Two (w0 w : World) (g : Nat) (hc : Cur w0 w g) :
    Calls Tryz.prog 64 #[.pointer (some ⟨g, 0, none⟩)] w fun e w2 => ∃ v1 v2 a b F1 F2, e = .returned (.tuple #[v1, v2]) ∧ RecOwn w2 v1 a F1 ∧ RecOwn w2 v2 b F2 ∧ (∀ x ∈ F1, w.heap.size ≤ x) ∧ (∀ x ∈ F2, w.heap.size ≤ x) ∧ Ext w0 w2 := by
  have hg := hc.base.2.2
  have hgw := hc.base.2.1
  have xa : Ext w ((w.alloc (.cells #[.int .i64 0, .int .i64 0, .int .i64 0, .slice none 0 0] 24)).alloc (.cells #[.int .i64 0, .int .i64 0, .int .i64 0, .slice none 0 0] 24)) := ((Ext.refl w).alloc _).alloc _
  have hc0 := hc.ext xa
  have b20 := (Blk.new w 24 #[.int .i64 0, .int .i64 0, .int .i64 0, .slice none 0 0]).ext ((Ext.refl _).alloc (.cells #[.int .i64 0, .int .i64 0, .int .i64 0, .slice none 0 0] 24))
  have b30 := Blk.new (w.alloc (.cells #[.int .i64 0, .int .i64 0, .int .i64 0, .slice none 0 0] 24)) 24 #[.int .i64 0, .int .i64 0, .int .i64 0, .slice none 0 0]
  rw [World.size_alloc] at b30
  go_enter Tryz.func64, Tryz.ntmps64
  go_wp2_with fail
  refine (spec_l8Any w0 _ g hc0).mono ?_
  rintro e w2 ⟨v1, r1, F1, rfl, o1, n1, hc2, k2, hl1⟩
  have b22 := b20.kept (Nat.ne_of_gt hg) k2
  have b32 := b30.kept (by omega) k2
  have hg2 := hc2.base.2.2
  have s2 := k2.1
  simp only [World.size_alloc] at s2
  have hF1 : ∀ b ∈ F1, w.heap.size + 2 ≤ b := fun b hb => by have := n1.2 b hb; simp only [World.size_alloc] at this; omega
  obtain ⟨f1, rfl, ok1, of1⟩ := o1
  obtain ⟨A1, c1, e1, _⟩ := of1.form
  subst e1
  have xb := (Ext.refl w2).alloc (.cells #[.int .i64 r1.source, .int .i64 r1.key, .int .i64 r1.version, .slice A1 r1.fields.length c1] 24)
  have b42 : Blk _ w2.heap.size 24 [.int .i64 r1.source, .int .i64 r1.key, .int .i64 r1.version, .slice A1 r1.fields.length c1] := Blk.new w2 24 #[.int .i64 r1.source, .int .i64 r1.key, .int .i64 r1.version, .slice A1 r1.fields.length c1]
  have hc2b := hc2.ext xb
  have b22b := b22.ext xb
  have b32b := b32.ext xb
  have of1b := of1.ext xb
  have l1 := of1.lt
  clear hc hc0 b20 b30 k2 n1 xa hc2 b22 b32 of1 xb
  go_wp2_with fail
  refine (spec_l1Once w0 _ g 3 (by decide) hc2b).mono ?_
  rintro e w3 ⟨x, rfl, hc3, k3⟩
  have b23 := b22b.kept (by omega) k3
  have b33 := b32b.kept (by omega) k3
  have b43 := b42.kept (by omega) k3
  have of3 := of1b.kept (fun hm => by have := hF1 _ hm; omega) k3
  have s3 := k3.1
  simp only [World.size_alloc] at s3
  clear hc2b k3 b22b b32b b42 of1b
  cases x with
  | true =>
    obtain ⟨⟨q0, q1, q2, q3⟩, _⟩ := b43.c4
    go_wp2_with fail
    refine (spec_l8Copy _ r1 _ ⟨_, rfl, ok1, of3.sl⟩ (by omega)).mono ?_
    rintro e w4 ⟨v5, F5, rfl, o5, n5, x5⟩
    obtain ⟨f5, rfl, _, of5⟩ := o5
    obtain ⟨A5, c5, e5, _⟩ := of5.form
    subst e5
    have b24 := b23.ext x5
    have b34 := b33.ext x5
    have b44 := b43.ext x5
    have of4 := of3.ext x5
    have hc4 := hc3.ext x5
    have s4 := x5.size
    have l5 := of5.lt
    have xb := (Ext.refl w4).alloc (.cells #[.int .i64 r1.source, .int .i64 r1.key, .int .i64 r1.version, .slice A5 r1.fields.length c5] 24)
    have b55 : Blk _ w4.heap.size 24 [.int .i64 r1.source, .int .i64 r1.key, .int .i64 r1.version, .slice A5 r1.fields.length c5] := Blk.new w4 24 #[.int .i64 r1.source, .int .i64 r1.key, .int .i64 r1.version, .slice A5 r1.fields.length c5]
    have hc4b := hc4.ext xb
    have b24b := b24.ext xb
    have b34b := b34.ext xb
    have b44b := b44.ext xb
    have of4b := of4.ext xb
    have of5b := of5.ext xb
    clear hc3 x5 of3 of5 b23 b33 b43 b24 b34 b44 of4 hc4 xb
    go_wp2_with fail
    refine (spec_l1Once w0 _ g 2 (by decide) hc4b).mono ?_
    rintro e w5 ⟨y, rfl, hc5, k5⟩
    have b25 := b24b.kept (by omega) k5
    have b35 := b34b.kept (by omega) k5
    have b45 := b44b.kept (by omega) k5
    have b55 := b55.kept (by omega) k5
    have hgF1 : g ∉ F1 := fun hm => by have := hF1 _ hm; omega
    have hgF5 : g ∉ F5 := fun hm => by have := n5.2 _ hm; omega
    have o15 := of4b.kept hgF1 k5
    have o55 := of5b.kept hgF5 k5
    have s5 := k5.1
    simp only [World.size_alloc] at s5
    clear hc4b k5 b24b b34b b44b of4b of5b
    cases y with
    | false =>
      go_wp2_with fail
      obtain ⟨cR2, fR2⟩ := b25.cells
      obtain ⟨cR3, fR3⟩ := b35.cells
      go_region_held3 (fun w' => w'.cell? ⟨w2.heap.size, 0, none⟩ = some (.int .i64 r1.source) ∧ w'.cell? ⟨w2.heap.size, 1, none⟩ = some (.int .i64 r1.key) ∧ w'.cell? ⟨w2.heap.size, 2, none⟩ = some (.int .i64 r1.version) ∧ w'.cell? ⟨w2.heap.size, 3, none⟩ = some (.slice A1 r1.fields.length c1) ∧ w'.cell? ⟨w4.heap.size, 0, none⟩ = some (.int .i64 r1.source) ∧ w'.cell? ⟨w4.heap.size, 1, none⟩ = some (.int .i64 r1.key) ∧ w'.cell? ⟨w4.heap.size, 2, none⟩ = some (.int .i64 r1.version) ∧ w'.cell? ⟨w4.heap.size, 3, none⟩ = some (.slice A5 r1.fields.length c5)) (exact c44 (T := 24) (by repeat (first | with_reducible assumption | with_reducible refine Blk.drew ?_ | (refine Blk.other ?_ (by omega)))) (by repeat (first | with_reducible assumption | with_reducible refine Blk.drew ?_ | (refine Blk.other ?_ (by omega))))) (fail)
      go_wp2
      obtain ⟨⟨⟨p0, p1, p2, p3⟩, q0, q1, q2, q3⟩, HZ⟩ := fin2 b25 b35 (by omega) hc5.base.1 (by omega) (by omega) r1 r1 o15 o55 (fun hm => by have := hF1 _ hm; omega) (fun hm => by have := hF1 _ hm; omega) (fun hm => by have := n5.2 _ hm; omega) (fun hm => by have := n5.2 _ hm; omega) rfl
      refine bodyPost_ret (v := .tuple #[.agg #[.int .i64 r1.source, .int .i64 r1.key, .int .i64 r1.version, .slice A1 r1.fields.length c1], .agg #[.int .i64 r1.source, .int .i64 r1.key, .int .i64 r1.version, .slice A5 r1.fields.length c5]]) (by simp [results, Tryz.results64, go_sem, p0, p1, p2, p3, q0, q1, q2, q3]) rfl ?_
      exact ⟨_, _, r1, r1, F1, F5, rfl, ⟨_, rfl, ok1, HZ.out.1.ext (Ext.refl _).drew⟩, ⟨_, rfl, ok1, HZ.out.2.1.ext (Ext.refl _).drew⟩, (fun x hx => by have := hF1 x hx; omega), (fun x hx => by have := n5.2 x hx; omega), HZ.out.2.2.drew⟩
    | true =>
      by_cases hlt0 : 0 < r1.fields.length
      · obtain ⟨gb, offb, capb, eb, hgb9, hcb, hfb, hst⟩ := o55.str_store n5.1 hlt0
        injection eb with eb en9 ec9
        subst eb; subst ec9
        rw [Nat.add_zero] at hcb hfb hst
        obtain ⟨s0, hs0⟩ : ∃ s, s = r1.fields[0] := ⟨_, rfl⟩
        rw [← hs0] at hcb
        clear hs0 en9
        have hbw := n5.2 gb hgb9
        have hbl := l5 gb hgb9
        have HK := hid (show ∀ W, Kept g w5 W → W.cell? ⟨w4.heap.size, 3, none⟩ = some (.slice (some ⟨gb, offb, none⟩) r1.fields.length c5) from fun W k => (b55.kept (by omega) k).cells.1 3)
        have HK2 := hid (show ∀ W u, Kept g w5 W → (W.setCell ⟨gb, offb, none⟩ u).cell? ⟨w4.heap.size, 3, none⟩ = some (.slice (some ⟨gb, offb, none⟩) r1.fields.length c5) from fun W u k => ((b55.kept (by omega) k).other (by omega)).cells.1 3)
        have HKB := hid (show ∀ W, Kept g w5 W → W.cell? ⟨gb, offb, none⟩ = some (.string s0) ∧ W.frozen? ⟨gb, offb, none⟩ = false from fun W k => by
          have e := k.2 gb (by omega) (by omega)
          refine ⟨?_, ?_⟩
          · rw [← hcb]; unfold World.cell?; rw [e]
          · rw [← hfb]; unfold World.frozen?; rw [e])
        clear hst hcb hfb
        obtain ⟨cB, fB⟩ := b55.cells
        have hi0 : (0 : Int) < (r1.fields.length : Int) := by omega
        go_wp2_with fail
        clear cB fB
        go_region_held3 (fun w' => w'.cell? ⟨w4.heap.size, 3, none⟩ = some (.slice (some ⟨gb, offb, none⟩) r1.fields.length c5)) (first | (refine HK.out _ ?_; ((repeat (first | with_reducible exact Kept.refl _ _ | with_reducible assumption | with_reducible refine Kept.drew ?_ | with_reducible refine Kept.alloc ?_ _ | with_reducible refine Kept.trans ?_ (by with_reducible assumption))); done)) | (refine HK2.out _ _ ?_; ((repeat (first | with_reducible exact Kept.refl _ _ | with_reducible assumption | with_reducible refine Kept.drew ?_ | with_reducible refine Kept.alloc ?_ _ | with_reducible refine Kept.trans ?_ (by with_reducible assumption))); done))) (first | (go_at_call 112; refine (spec_l2Name w0 _ g ?hcur).mono ?_; (case hcur => exact (by repeat (first | with_reducible assumption | with_reducible refine Cur.drew ?_ | with_reducible refine Cur.alloc ?_ _))); rintro e w6 ⟨y, rfl, hy, hc6, k6⟩; have k56 : Kept g w5 w6 := (by repeat (first | with_reducible exact Kept.refl _ _ | with_reducible assumption | with_reducible refine Kept.drew ?_ | with_reducible refine Kept.alloc ?_ _ | with_reducible refine Kept.trans ?_ (by with_reducible assumption))); obtain ⟨cb4, fb4⟩ := HKB.out w6 k56))
        have b26 : Blk (w6.setCell ⟨gb, offb, none⟩ (.string y)) w.heap.size 24 [.int .i64 0, .int .i64 0, .int .i64 0, .slice none 0 0] := (b25.kept (by omega) k56).other (by omega)
        have b36 : Blk (w6.setCell ⟨gb, offb, none⟩ (.string y)) (w.heap.size + 1) 24 [.int .i64 0, .int .i64 0, .int .i64 0, .slice none 0 0] := (b35.kept (by omega) k56).other (by omega)
        have b46 : Blk (w6.setCell ⟨gb, offb, none⟩ (.string y)) w2.heap.size 24 [.int .i64 r1.source, .int .i64 r1.key, .int .i64 r1.version, .slice A1 r1.fields.length c1] := (b45.kept (by omega) k56).other (by omega)
        have b56 : Blk (w6.setCell ⟨gb, offb, none⟩ (.string y)) w4.heap.size 24 [.int .i64 r1.source, .int .i64 r1.key, .int .i64 r1.version, .slice (some ⟨gb, offb, none⟩) r1.fields.length c5] := (b55.kept (by omega) k56).other (by omega)
        have o16 := (o15.kept hgF1 k56).setCell (p := ⟨gb, offb, none⟩) (fun hm => by have := l1 _ hm; simp only at this; omega) (.string y)
        obtain ⟨gb2, offb2, capb2, eb2, _, _, _, hst⟩ := (o55.kept hgF5 k56).str_store n5.1 hlt0
        injection eb2 with eb2 e8 e9
        clear e8
        subst e9
        injection eb2 with eb2
        injection eb2 with eb2 eb3 _
        subst eb2; subst eb3
        rw [Nat.add_zero] at hst
        have hmx : (200 : Nat) ≤ maxLen := by decide
        have o57 : OwnSl strO (w6.setCell ⟨gb, offb, none⟩ (.string y)) (.slice (some ⟨gb, offb, none⟩) r1.fields.length c5) (Record.fields ⟨r1.source, r1.key, r1.version, r1.fields.set 0 y⟩) F5 := hst y (by omega)
        have xW : Ext w0 (w6.setCell ⟨gb, offb, none⟩ (.string y)) := hc6.base.1.setCell (by show w0.heap.size ≤ gb; omega) _
        clear hst HK HK2 HKB cb4 fb4 hc6 hc5 b25 b35 b45 b55 o15 o55 k56 hi0
        go_wp2_with fail
        generalize w6.setCell ⟨gb, offb, none⟩ (.string y) = W6 at b26 b36 b46 b56 o16 o57 xW ⊢
        obtain ⟨cR2, fR2⟩ := b26.cells
        obtain ⟨cR3, fR3⟩ := b36.cells
        go_region_held3 (fun w' => w'.cell? ⟨w2.heap.size, 0, none⟩ = some (.int .i64 r1.source) ∧ w'.cell? ⟨w2.heap.size, 1, none⟩ = some (.int .i64 r1.key) ∧ w'.cell? ⟨w2.heap.size, 2, none⟩ = some (.int .i64 r1.version) ∧ w'.cell? ⟨w2.heap.size, 3, none⟩ = some (.slice A1 r1.fields.length c1) ∧ w'.cell? ⟨w4.heap.size, 0, none⟩ = some (.int .i64 r1.source) ∧ w'.cell? ⟨w4.heap.size, 1, none⟩ = some (.int .i64 r1.key) ∧ w'.cell? ⟨w4.heap.size, 2, none⟩ = some (.int .i64 r1.version) ∧ w'.cell? ⟨w4.heap.size, 3, none⟩ = some (.slice (some ⟨gb, offb, none⟩) r1.fields.length c5)) (exact c44 (T := 24) (by repeat (first | with_reducible assumption | with_reducible refine Blk.drew ?_ | (refine Blk.other ?_ (by omega)))) (by repeat (first | with_reducible assumption | with_reducible refine Blk.drew ?_ | (refine Blk.other ?_ (by omega))))) (fail)
        go_wp2
        obtain ⟨⟨⟨p0, p1, p2, p3⟩, q0, q1, q2, q3⟩, HZ⟩ := fin2 b26 b36 (by omega) xW (by omega) (by omega) r1 ⟨r1.source, r1.key, r1.version, r1.fields.set 0 y⟩ o16 o57 (fun hm => by have := hF1 _ hm; omega) (fun hm => by have := hF1 _ hm; omega) (fun hm => by have := n5.2 _ hm; omega) (fun hm => by have := n5.2 _ hm; omega) rfl
        dsimp only at p0 p1 p2 p3 q0 q1 q2 q3
        refine bodyPost_ret (v := .tuple #[.agg #[.int .i64 r1.source, .int .i64 r1.key, .int .i64 r1.version, .slice A1 r1.fields.length c1], .agg #[.int .i64 r1.source, .int .i64 r1.key, .int .i64 r1.version, .slice (some ⟨gb, offb, none⟩) r1.fields.length c5]]) (by simp [results, Tryz.results64, go_sem, p0, p1, p2, p3, q0, q1, q2, q3]) rfl ?_
        exact ⟨_, _, r1, ⟨r1.source, r1.key, r1.version, r1.fields.set 0 y⟩, F1, F5, rfl, ⟨_, rfl, ok1, HZ.out.1.ext (Ext.refl _).drew⟩, ⟨_, rfl, ok1, HZ.out.2.1.ext (Ext.refl _).drew⟩, (fun x hx => by have := hF1 x hx; omega), (fun x hx => by have := n5.2 x hx; omega), HZ.out.2.2.drew⟩
      · have hl1' : ¬ (0 : Int) < (r1.fields.length : Int) := by omega
        obtain ⟨cB, fB⟩ := b55.cells
        clear hlt0
        go_wp2_with fail
        clear cB fB
        obtain ⟨cR2, fR2⟩ := b25.cells
        obtain ⟨cR3, fR3⟩ := b35.cells
        go_region_held3 (fun w' => w'.cell? ⟨w2.heap.size, 0, none⟩ = some (.int .i64 r1.source) ∧ w'.cell? ⟨w2.heap.size, 1, none⟩ = some (.int .i64 r1.key) ∧ w'.cell? ⟨w2.heap.size, 2, none⟩ = some (.int .i64 r1.version) ∧ w'.cell? ⟨w2.heap.size, 3, none⟩ = some (.slice A1 r1.fields.length c1) ∧ w'.cell? ⟨w4.heap.size, 0, none⟩ = some (.int .i64 r1.source) ∧ w'.cell? ⟨w4.heap.size, 1, none⟩ = some (.int .i64 r1.key) ∧ w'.cell? ⟨w4.heap.size, 2, none⟩ = some (.int .i64 r1.version) ∧ w'.cell? ⟨w4.heap.size, 3, none⟩ = some (.slice A5 r1.fields.length c5)) (exact c44 (T := 24) (by repeat (first | with_reducible assumption | with_reducible refine Blk.drew ?_ | (refine Blk.other ?_ (by omega)))) (by repeat (first | with_reducible assumption | with_reducible refine Blk.drew ?_ | (refine Blk.other ?_ (by omega))))) (fail)
        go_wp2
        obtain ⟨⟨⟨p0, p1, p2, p3⟩, q0, q1, q2, q3⟩, HZ⟩ := fin2 b25 b35 (by omega) hc5.base.1 (by omega) (by omega) r1 r1 o15 o55 (fun hm => by have := hF1 _ hm; omega) (fun hm => by have := hF1 _ hm; omega) (fun hm => by have := n5.2 _ hm; omega) (fun hm => by have := n5.2 _ hm; omega) rfl
        refine bodyPost_ret (v := .tuple #[.agg #[.int .i64 r1.source, .int .i64 r1.key, .int .i64 r1.version, .slice A1 r1.fields.length c1], .agg #[.int .i64 r1.source, .int .i64 r1.key, .int .i64 r1.version, .slice A5 r1.fields.length c5]]) (by simp [results, Tryz.results64, go_sem, p0, p1, p2, p3, q0, q1, q2, q3]) rfl ?_
        exact ⟨_, _, r1, r1, F1, F5, rfl, ⟨_, rfl, ok1, HZ.out.1.ext (Ext.refl _).drew⟩, ⟨_, rfl, ok1, HZ.out.2.1.ext (Ext.refl _).drew⟩, (fun x hx => by have := hF1 x hx; omega), (fun x hx => by have := n5.2 x hx; omega), HZ.out.2.2.drew⟩
  | false =>
    go_wp2_with fail
    have HK := hid (show ∀ W, Kept g w3 W → Blk W w.heap.size 24 [.int .i64 0, .int .i64 0, .int .i64 0, .slice none 0 0] ∧ Blk W (w.heap.size + 1) 24 [.int .i64 0, .int .i64 0, .int .i64 0, .slice none 0 0] ∧ Blk W w2.heap.size 24 [.int .i64 r1.source, .int .i64 r1.key, .int .i64 r1.version, .slice A1 r1.fields.length c1] ∧ OwnSl strO W (.slice A1 r1.fields.length c1) r1.fields F1 from fun W k => ⟨b23.kept (by omega) k, b33.kept (by omega) k, b43.kept (by omega) k, of3.kept (fun hm => by have := hF1 _ hm; omega) k⟩)
    have HC := hid hc3
    clear b23 b33 b43 of3 hc3
    have hc3 := HC.out
    go_region_held3 (fun w' => w'.cell? ⟨w2.heap.size, 0, none⟩ = some (.int .i64 r1.source) ∧ w'.cell? ⟨w2.heap.size, 1, none⟩ = some (.int .i64 r1.key) ∧ w'.cell? ⟨w2.heap.size, 2, none⟩ = some (.int .i64 r1.version) ∧ w'.cell? ⟨w2.heap.size, 3, none⟩ = some (.slice A1 r1.fields.length c1)) (first | (refine (HK.out _ ?_).2.2.1.c4.1; ((repeat (first | with_reducible exact Kept.refl _ _ | with_reducible assumption | with_reducible refine Kept.drew ?_ | with_reducible refine Kept.alloc ?_ _ | with_reducible refine Kept.trans ?_ (by with_reducible assumption))); done)) | (exact (by repeat (first | with_reducible assumption | with_reducible refine Blk.drew ?_ | (refine Blk.other ?_ (by omega))) : Blk _ w2.heap.size 24 [.int .i64 r1.source, .int .i64 r1.key, .int .i64 r1.version, .slice A1 r1.fields.length c1]).c4.1)) (first | (go_at_call 109; refine (spec_l8Any w0 _ g ?hcur).mono ?_; (case hcur => exact (by repeat (first | with_reducible assumption | with_reducible refine Cur.drew ?_ | with_reducible refine Cur.alloc ?_ _))); rintro e w6 ⟨v6, r2, F2, rfl, ⟨f2, rfl, ok2, of2⟩, n2, hc6, k6, hl6⟩; obtain ⟨A2, c2, e2, _⟩ := of2.form; subst e2; have k36 : Kept g w3 w6 := (by repeat (first | with_reducible exact Kept.refl _ _ | with_reducible assumption | with_reducible refine Kept.drew ?_ | with_reducible refine Kept.alloc ?_ _ | with_reducible refine Kept.trans ?_ (by with_reducible assumption))); obtain ⟨b26, b36, b46, o16⟩ := HK.out w6 k36; obtain ⟨cR2, fR2⟩ := b26.cells; obtain ⟨cR3, fR3⟩ := b36.cells))
    go_wp2
    obtain ⟨⟨⟨p0, p1, p2, p3⟩, q0, q1, q2, q3⟩, HZ⟩ := fin2 b26 b36 (by omega) hc6.base.1 (by omega) (by omega) r1 r2 o16 of2 (fun hm => by have := hF1 _ hm; omega) (fun hm => by have := hF1 _ hm; omega) (fun hm => by have := n2.2 _ hm; simp only [World.size_drew] at this; omega) (fun hm => by have := n2.2 _ hm; simp only [World.size_drew] at this; omega) rfl
    refine bodyPost_ret (v := .tuple #[.agg #[.int .i64 r1.source, .int .i64 r1.key, .int .i64 r1.version, .slice A1 r1.fields.length c1], .agg #[.int .i64 r2.source, .int .i64 r2.key, .int .i64 r2.version, .slice A2 r2.fields.length c2]]) (by simp [results, Tryz.results64, go_sem, p0, p1, p2, p3, q0, q1, q2, q3]) rfl ?_
    exact ⟨_, _, r1, r2, F1, F2, rfl, ⟨_, rfl, ok1, HZ.out.1⟩, ⟨_, rfl, ok2, HZ.out.2.1⟩, (fun x hx => by have := hF1 x hx; omega), (fun x hx => by have := n2.2 x hx; simp only [World.size_drew] at this; omega), HZ.out.2.2⟩

end Go.Proofs.YtfieimmlcopbhaaGreatDoor

namespace Go.Proofs.YtfieimmlcopbhaaGreatDoor
open Go.RowKit

set_option maxHeartbeats 1000000 in
set_option maxRecDepth 20000 in
theorem spec_DrawCompareRecords (w : World) (v : Value) (bs : List Int) (h : Sl u8R w v bs) :
    Calls Tryz.prog 21 #[v] w fun e w2 => ∃ v1 v2 a b, e = .returned (.tuple #[v1, v2]) ∧ RecAt w2 v1 a ∧ RecAt w2 v2 b ∧ Ext w w2 := by
  go_enter Tryz.func21, Tryz.ntmps21
  go_wp2_with fail
  have xa : Ext w ((w.alloc (.cells #[.int .i64 0, .int .i64 0, .int .i64 0, .slice none 0 0] 24)).alloc (.cells #[.int .i64 0, .int .i64 0, .int .i64 0, .slice none 0 0] 24)) := ((Ext.refl w).alloc _).alloc _
  have b20 : Blk ((w.alloc (.cells #[.int .i64 0, .int .i64 0, .int .i64 0, .slice none 0 0] 24)).alloc (.cells #[.int .i64 0, .int .i64 0, .int .i64 0, .slice none 0 0] 24)) w.heap.size 24 [.int .i64 0, .int .i64 0, .int .i64 0, .slice none 0 0] := (Blk.new w 24 #[.int .i64 0, .int .i64 0, .int .i64 0, .slice none 0 0]).ext ((Ext.refl _).alloc (.cells #[.int .i64 0, .int .i64 0, .int .i64 0, .slice none 0 0] 24))
  have b30 : Blk ((w.alloc (.cells #[.int .i64 0, .int .i64 0, .int .i64 0, .slice none 0 0] 24)).alloc (.cells #[.int .i64 0, .int .i64 0, .int .i64 0, .slice none 0 0] 24)) (w.heap.size + 1) 24 [.int .i64 0, .int .i64 0, .int .i64 0, .slice none 0 0] := by
    have := Blk.new (w.alloc (.cells #[.int .i64 0, .int .i64 0, .int .i64 0, .slice none 0 0] 24)) 24 #[.int .i64 0, .int .i64 0, .int .i64 0, .slice none 0 0]
    rwa [World.size_alloc] at this
  have h0 := h.mono xa
  obtain ⟨wa, hwa⟩ : ∃ wa, wa = (w.alloc (.cells #[.int .i64 0, .int .i64 0, .int .i64 0, .slice none 0 0] 24)).alloc (.cells #[.int .i64 0, .int .i64 0, .int .i64 0, .slice none 0 0] 24) := ⟨_, rfl⟩
  have hsa : wa.heap.size = w.heap.size + 1 + 1 := by rw [hwa]; simp
  rw [← hwa] at b20 b30 h0 xa ⊢
  have HSA := hid hsa
  clear hwa hsa
  refine (spec_l1New wa v bs h0).mono ?_
  rintro e w1 ⟨rfl, hc1, x1⟩
  go_wp2_with fail
  refine Calls.mono (spec_l8Two wa w1 wa.heap.size hc1) ?_
  rintro e w2 ⟨v1, v2, a, b, F1, F2, rfl, ⟨f1, rfl, ok1, s1⟩, ⟨f2, rfl, ok2, s2⟩, m1, m2, x2⟩
  obtain ⟨A1, c1, e1, _⟩ := s1.form
  obtain ⟨A2, c2, e2, _⟩ := s2.form
  subst e1
  subst e2
  have xb : Ext w2 ((w2.alloc (.cells #[.int .i64 a.source, .int .i64 a.key, .int .i64 a.version, .slice A1 a.fields.length c1] 24)).alloc (.cells #[.int .i64 b.source, .int .i64 b.key, .int .i64 b.version, .slice A2 b.fields.length c2] 24)) := ((Ext.refl w2).alloc _).alloc _
  have b22 := (b20.ext x2).ext xb
  have b32 := (b30.ext x2).ext xb
  have hs2 := x2.size
  have b42 : Blk ((w2.alloc (.cells #[.int .i64 a.source, .int .i64 a.key, .int .i64 a.version, .slice A1 a.fields.length c1] 24)).alloc (.cells #[.int .i64 b.source, .int .i64 b.key, .int .i64 b.version, .slice A2 b.fields.length c2] 24)) w2.heap.size 24 [.int .i64 a.source, .int .i64 a.key, .int .i64 a.version, .slice A1 a.fields.length c1] := (Blk.new w2 24 #[.int .i64 a.source, .int .i64 a.key, .int .i64 a.version, .slice A1 a.fields.length c1]).ext ((Ext.refl _).alloc _)
  have b52 : Blk ((w2.alloc (.cells #[.int .i64 a.source, .int .i64 a.key, .int .i64 a.version, .slice A1 a.fields.length c1] 24)).alloc (.cells #[.int .i64 b.source, .int .i64 b.key, .int .i64 b.version, .slice A2 b.fields.length c2] 24)) (w2.heap.size + 1) 24 [.int .i64 b.source, .int .i64 b.key, .int .i64 b.version, .slice A2 b.fields.length c2] := by
    have := Blk.new (w2.alloc (.cells #[.int .i64 a.source, .int .i64 a.key, .int .i64 a.version, .slice A1 a.fields.length c1] 24)) 24 #[.int .i64 b.source, .int .i64 b.key, .int .i64 b.version, .slice A2 b.fields.length c2]
    rwa [World.size_alloc] at this
  have t1 := s1.ext xb
  have t2 := s2.ext xb
  have xw := (xa.trans x2).trans xb
  have sx1 := x1.size
  clear s1 s2 xa b20 b30 h0 hc1 x1
  go_wp2_with fail
  obtain ⟨W4, hW4⟩ : ∃ W4, W4 = ((w2.alloc (.cells #[.int .i64 a.source, .int .i64 a.key, .int .i64 a.version, .slice A1 a.fields.length c1] 24)).alloc (.cells #[.int .i64 b.source, .int .i64 b.key, .int .i64 b.version, .slice A2 b.fields.length c2] 24)) := ⟨_, rfl⟩
  rw [← hW4] at b22 b32 b42 b52 t1 t2 xw xb ⊢
  clear hW4
  obtain ⟨cR2, fR2⟩ := b22.cells
  obtain ⟨cR3, fR3⟩ := b32.cells
  have hsa := HSA.out
  have HM := hid (And.intro m1 m2)
  clear m1 m2
  go_region_held3 (fun w' => w'.cell? ⟨w2.heap.size, 0, none⟩ = some (.int .i64 a.source) ∧ w'.cell? ⟨w2.heap.size, 1, none⟩ = some (.int .i64 a.key) ∧ w'.cell? ⟨w2.heap.size, 2, none⟩ = some (.int .i64 a.version) ∧ w'.cell? ⟨w2.heap.size, 3, none⟩ = some (.slice A1 a.fields.length c1) ∧ w'.cell? ⟨w2.heap.size + 1, 0, none⟩ = some (.int .i64 b.source) ∧ w'.cell? ⟨w2.heap.size + 1, 1, none⟩ = some (.int .i64 b.key) ∧ w'.cell? ⟨w2.heap.size + 1, 2, none⟩ = some (.int .i64 b.version) ∧ w'.cell? ⟨w2.heap.size + 1, 3, none⟩ = some (.slice A2 b.fields.length c2)) (exact c44 (T := 24) (by repeat (first | with_reducible assumption | with_reducible refine Blk.drew ?_ | (refine Blk.other ?_ (by omega)))) (by repeat (first | with_reducible assumption | with_reducible refine Blk.drew ?_ | (refine Blk.other ?_ (by omega))))) (fail)
  clear hsa
  go_wp2
  have hsa := HSA.out
  obtain ⟨⟨⟨p0, p1, p2, p3⟩, q0, q1, q2, q3⟩, HZ⟩ := fin2 b22 b32 (by omega) xw (by omega) (by omega) a b t1 t2 (fun hm => by have := HM.out.1 _ hm; omega) (fun hm => by have := HM.out.1 _ hm; omega) (fun hm => by have := HM.out.2 _ hm; omega) (fun hm => by have := HM.out.2 _ hm; omega) rfl
  clear hsa
  refine bodyPost_ret (v := .tuple #[.agg #[.int .i64 a.source, .int .i64 a.key, .int .i64 a.version, .slice A1 a.fields.length c1], .agg #[.int .i64 b.source, .int .i64 b.key, .int .i64 b.version, .slice A2 b.fields.length c2]]) (by simp [results, Tryz.results21, go_sem, p0, p1, p2, p3, q0, q1, q2, q3]) rfl ?_
  exact ⟨_, _, a, b, rfl, ⟨_, rfl, ok1, (HZ.out.1.ext (Ext.refl _).drew).sl⟩, ⟨_, rfl, ok2, (HZ.out.2.1.ext (Ext.refl _).drew).sl⟩, HZ.out.2.2.drew⟩
end Go.Proofs.YtfieimmlcopbhaaGreatDoor
