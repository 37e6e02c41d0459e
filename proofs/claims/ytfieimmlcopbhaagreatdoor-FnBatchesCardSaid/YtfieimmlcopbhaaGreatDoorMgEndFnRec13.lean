/-
  WALKS: ParseVerdict (the reference's).
-/
import Derived.Test.YtfieimmlcopbhaaGreatDoorMgEndFnRec7
import Derived.Test.YtfieimmlcopbhaaGreatDoorMgEndFnRec11

namespace Go.Proofs.YtfieimmlcopbhaaGreatDoor
open Go.RowKit

theorem two_of {α : Type} {l : List α} (h : l.length = 2) : ∃ a b, l = [a, b] := by
  match l, h with
  | [a, b], _ => exact ⟨a, b, rfl⟩
/-- a list of two strings in memory -/
theorem OwnSl.two {w : World} {v : Value} {a b : ByteArray} {F : List Nat} (h : OwnSl strO w v [a, b] F) : ∃ g off cap, v = .slice (some ⟨g, off, none⟩) 2 cap ∧ w.cell? ⟨g, off, none⟩ = some (.string a) ∧ w.cell? ⟨g, off + 1, none⟩ = some (.string b) ∧ g < w.heap.size ∧ a.size ≤ maxLen ∧ b.size ≤ maxLen ∧ g ∈ F := by
  have hs := OwnSl.sl h
  rcases h with ⟨e, _⟩ | ⟨g, off, cap, cur, T, F2, rfl, _, _, rfl, _, _⟩
  · cases e
  · skip
    obtain ⟨g1, off1, e, ha, hc⟩ := hs.str (i := 0) (by simp)
    obtain ⟨g2, off2, e2, hb, hc2⟩ := hs.str (i := 1) (by simp)
    injection e with e
    injection e with e1 e3 _
    injection e2 with e2
    injection e2 with e4 e5 _
    subst e1; subst e3; subst e4; subst e5
    exact ⟨_, _, cap, rfl, hc, hc2, World.block_lt_of_cell? _ _ hc, ha, hb, List.mem_cons_self ..⟩
/-- a struct of four cells, stored cell by cell -/
theorem Blk.store4 {w : World} {g : Nat} {e : TypeId} {a b c d : Value} (h : Blk w g e [a, b, c, d]) (x y z u : Value) :
    (w.cell? ⟨g, 0, none⟩ = some a ∧ w.frozen? ⟨g, 0, none⟩ = false) ∧ ((w.setCell ⟨g, 0, none⟩ x).cell? ⟨g, 1, none⟩ = some b ∧ (w.setCell ⟨g, 0, none⟩ x).frozen? ⟨g, 1, none⟩ = false) ∧
    (((w.setCell ⟨g, 0, none⟩ x).setCell ⟨g, 1, none⟩ y).cell? ⟨g, 2, none⟩ = some c ∧ ((w.setCell ⟨g, 0, none⟩ x).setCell ⟨g, 1, none⟩ y).frozen? ⟨g, 2, none⟩ = false) ∧
    ((((w.setCell ⟨g, 0, none⟩ x).setCell ⟨g, 1, none⟩ y).setCell ⟨g, 2, none⟩ z).cell? ⟨g, 3, none⟩ = some d ∧ (((w.setCell ⟨g, 0, none⟩ x).setCell ⟨g, 1, none⟩ y).setCell ⟨g, 2, none⟩ z).frozen? ⟨g, 3, none⟩ = false) ∧
    Blk ((((w.setCell ⟨g, 0, none⟩ x).setCell ⟨g, 1, none⟩ y).setCell ⟨g, 2, none⟩ z).setCell ⟨g, 3, none⟩ u) g e [x, y, z, u] := by
  have b1 := Blk.store (done := []) h rfl x
  have b2 := Blk.store (done := [x]) b1 rfl y
  have b3 := Blk.store (done := [x, y]) b2 rfl z
  exact ⟨Blk.at_ (done := []) h rfl, Blk.at_ (done := [x]) b1 rfl, Blk.at_ (done := [x, y]) b2 rfl, Blk.at_ (done := [x, y, z]) b3 rfl, Blk.store (done := [x, y, z]) b3 rfl u⟩
section
variable {w : World} {g : Nat} {e : TypeId} {a b c d : Value}
theorem Blk.c4 (h : Blk w g e [a, b, c, d]) : (w.cell? ⟨g, 0, none⟩ = some a ∧ w.cell? ⟨g, 1, none⟩ = some b ∧ w.cell? ⟨g, 2, none⟩ = some c ∧ w.cell? ⟨g, 3, none⟩ = some d) ∧ ∀ i, w.frozen? ⟨g, i, none⟩ = false :=
  ⟨⟨h.cells.1 0, h.cells.1 1, h.cells.1 2, h.cells.1 3⟩, h.cells.2⟩
theorem Blk.set0 (h : Blk w g e [a, b, c, d]) (u : Value) : Blk (w.setCell ⟨g, 0, none⟩ u) g e [u, b, c, d] := Blk.store (done := []) h rfl u
theorem Blk.set1 (h : Blk w g e [a, b, c, d]) (u : Value) : Blk (w.setCell ⟨g, 1, none⟩ u) g e [a, u, c, d] := Blk.store (done := [a]) h rfl u
theorem Blk.set2 (h : Blk w g e [a, b, c, d]) (u : Value) : Blk (w.setCell ⟨g, 2, none⟩ u) g e [a, b, u, d] := Blk.store (done := [a, b]) h rfl u
theorem Blk.set3 (h : Blk w g e [a, b, c, d]) (u : Value) : Blk (w.setCell ⟨g, 3, none⟩ u) g e [a, b, c, u] := Blk.store (done := [a, b, c]) h rfl u
theorem Blk.other {cs : List Value} {g2 i : Nat} {u : Value} (h : Blk w g e cs) (hne : g ≠ g2) : Blk (w.setCell ⟨g2, i, none⟩ u) g e cs := h.keep (keep_setCell hne)
end
/-- a verdict as a value -/
def verV (v : Verdict) : Value := .agg #[.int .i64 v.a, .int .i64 v.b, .bool v.same, .int .i64 v.time]

set_option maxHeartbeats 400000 in
set_option maxRecDepth 20000 in
theorem spec_ParseVerdict (s : ByteArray) (w : World) (hs : s.size ≤ 1048576) :
    Calls Tryz.prog 43 #[.string s] w fun e w2 => e = .returned (.tuple #[verV (pV s).1, .bool (pV s).2]) ∧ Ext w w2 := by
  go_enter Tryz.func43, Tryz.ntmps43
  go_wp2_with fail
  refine (spec_l2CutN s 64 64 _ (by rfl) (by omega)).mono ?_
  rintro e w1 ⟨v1, F1, rfl, o1, n1, x1⟩
  have br : Blk w1 w.heap.size 26 [.int .i64 0, .int .i64 0, .bool false, .int .i64 0] := (Blk.new w 26 #[.int .i64 0, .int .i64 0, .bool false, .int .i64 0]).ext x1
  have hgw : w.heap.size < w1.heap.size := block_lt br
  have xw1 : Ext w w1 := ((Ext.refl w).alloc _).trans x1
  clear x1 n1
  have bb : Blk (w1.alloc (.cells #[.int .i64 0, .int .i64 0, .bool false, .int .i64 0] 26)) w1.heap.size 26 [.int .i64 0, .int .i64 0, .bool false, .int .i64 0] := Blk.new w1 26 #[.int .i64 0, .int .i64 0, .bool false, .int .i64 0]
  have xb : Ext w1 (w1.alloc (.cells #[.int .i64 0, .int .i64 0, .bool false, .int .i64 0] 26)) := (Ext.refl w1).alloc _
  have brb := br.ext xb
  obtain ⟨⟨l0, l1, l2, l3⟩, _⟩ := bb.c4
  by_cases h2 : (pcs 64 s).length = 2
  · obtain ⟨h0, h1, hp⟩ := two_of h2
    have hne : s ≠ ⟨#[]⟩ := fun e => by rw [e] at h2; exact absurd h2 (by decide)
    have HP := hid hp
    rw [hp] at o1
    obtain ⟨gH, oH, cH, eH, e0, e1, hgH, zh0, zh1, _⟩ := o1.two
    subst eH
    have sh0 : h0.size ≤ s.size := pcs_size (c := 64) (s := s) (by rw [hp]; simp)
    have sh1 : h1.size ≤ s.size := pcs_size (c := 64) (s := s) (by rw [hp]; simp)
    have e1b := xb.cell e1
    clear h2 hp br
    go_wp2_with fail
    refine (spec_ParseInt h1 _ (by omega)).mono ?_
    rintro e w2 ⟨rfl, x2⟩
    have b2 := bb.ext x2
    have bR2 := brb.ext x2
    have x12 := xb.trans x2
    clear bb brb xb x2 l0 l1 l2 l3 e1b e1
    have hle5 : w.heap.size ≤ w1.heap.size := by omega
    have hg5 : w.heap.size ≠ w1.heap.size := by omega
    have x12' : ∀ u, Ext w1 (w2.setCell ⟨w1.heap.size, 3, none⟩ u) := fun u => x12.setCell (Nat.le_refl _) u
    obtain ⟨⟨_, _, _, c3⟩, fz⟩ := b2.c4
    have f3 := fz 3
    have b3 := b2.set3 (.int .i64 (pI h1).1)
    have bR3 := bR2.other (i := 3) (u := .int .i64 (pI h1).1) hg5
    have e0' := (x12' (.int .i64 (pI h1).1)).cell e0
    have xw3 := xw1.trans (x12' (.int .i64 (pI h1).1))
    have hlt5 : w1.heap.size < (w2.setCell ⟨w1.heap.size, 3, none⟩ (.int .i64 (pI h1).1)).heap.size := block_lt b3
    clear b2 bR2 fz
    go_wp2_with fail
    refine (spec_l2CutN h0 61 61 _ (by rfl) (by omega)).mono ?_
    rintro e w4 ⟨v4, F4, rfl, oP, newP, x4⟩
    have b4 := b3.ext x4
    have bR4 := bR3.ext x4
    have e0'' := x4.cell e0'
    have xw4' := xw3.trans x4
    clear b3 bR3 x4 c3 f3 e0'
    obtain ⟨⟨_, _, c2, _⟩, fz⟩ := b4.c4
    have f2 := fz 2
    by_cases k1 : (pcs 61 h0).length = 2
    · obtain ⟨p0, p1, hP⟩ := two_of k1
      have b5 := b4.set2 (.bool true)
      have bR := bR4.other (i := 2) (u := .bool true) hg5
      have xw4 : Ext w (w4.setCell ⟨w1.heap.size, 2, none⟩ (.bool true)) := xw4'.setCell hle5 _
      obtain ⟨⟨_, _, c2b, _⟩, _⟩ := b5.c4
      have oP2 : OwnSl strO (w4.setCell ⟨w1.heap.size, 2, none⟩ (.bool true)) v4 (pcs 61 h0) F4 := oP.setCell (fun hm => by have := newP.2 w1.heap.size hm; omega) _
      replace oP := oP2
      clear oP2 b4 bR4 xw4' fz k1
      rw [hP] at oP
      obtain ⟨gP, oo, cP, eP, d0, d1, hgP, zp0, zp1, hgF⟩ := oP.two
      subst eP
      have hneP : gP ≠ w1.heap.size := fun e => by have := newP.2 gP hgF; omega
      have sp0 : p0.size ≤ s.size := Nat.le_trans (pcs_size (c := 61) (s := h0) (by rw [hP]; simp)) sh0
      have sp1 : p1.size ≤ s.size := Nat.le_trans (pcs_size (c := 61) (s := h0) (by rw [hP]; simp)) sh0
      have HA := hid (pV_A1 HP.out hP)
      go_wp2_with fail
      refine (spec_ParseInt p0 _ (by omega)).mono ?_
      rintro e w5 ⟨rfl, x5⟩
      have b5' := b5.ext x5
      have bR5 := bR.ext x5
      have xw5 := xw4.trans x5
      have d1' := x5.cell d1
      obtain ⟨⟨c0, c1, c2, c3⟩, fz⟩ := b5'.c4
      have f0 := fz 0
      have b6 := b5'.set0 (.int .i64 (pI p0).1)
      have bR6 := bR5.other (i := 0) (u := .int .i64 (pI p0).1) hg5
      have d1'' : (w5.setCell ⟨w1.heap.size, 0, none⟩ (.int .i64 (pI p0).1)).cell? ⟨gP, oo + 1, none⟩ = some (.string p1) := (World.cell?_setCell_other _ _ _ _ (fun e => hneP (by injection e with e _ _; exact e.symm))).trans d1'
      have xw6 : Ext w (w5.setCell ⟨w1.heap.size, 0, none⟩ (.int .i64 (pI p0).1)) := xw5.setCell hle5 _
      clear b5 b5' bR bR5 x5 xw4 xw5 d0 d1 c1 c2 c3
      go_wp2_with fail
      refine (spec_ParseInt p1 _ (by omega)).mono ?_
      rintro e w7 ⟨rfl, x7⟩
      have b7 := b6.ext x7
      have bR7 := bR6.ext x7
      have xw7 := xw6.trans x7
      clear b6 bR6 x7 xw6 d1' d1'' c0 f0
      obtain ⟨⟨c0, c1, c2, c3⟩, fz⟩ := b7.c4
      have f1 := fz 1
      have b8 := b7.set1 (.int .i64 (pI p1).1)
      have bR8 := bR7.other (i := 1) (u := .int .i64 (pI p1).1) hg5
      have xw8 : Ext w (w7.setCell ⟨w1.heap.size, 1, none⟩ (.int .i64 (pI p1).1)) := xw7.setCell hle5 _
      obtain ⟨⟨k0, k1, k2, k3⟩, _⟩ := b8.c4
      clear b7 bR7 xw7 fz
      go_wp2_with fail
      refine (spec_FormatVerdict _ _ _ _ _).mono ?_
      rintro e w9 ⟨rfl, x9⟩
      have b9' := b8.ext x9
      have bR9 := bR8.ext x9
      have xw9 := xw8.trans x9
      clear b8 bR8 x9 xw8 k0 k1 k2 k3 c0 c1 c2 c3 f1
      obtain ⟨⟨c0, c1, c2, c3⟩, _⟩ := b9'.c4
      by_cases hq : fmtV ⟨(pI p0).1, (pI p1).1, true, (pI h1).1⟩ = s
      · have hq1 := str_eq hq
        have hq2 : (fmtV ⟨(pI p0).1, (pI p1).1, true, (pI h1).1⟩).toList = s.toList := by rw [hq]
        have HP := hid (show pV s = (⟨(pI p0).1, (pI p1).1, true, (pI h1).1⟩, true) from ans_yes HA.out (fmtV_ok hq hne) hq)
        clear hq b9'
        obtain ⟨⟨s0, y0⟩, ⟨s1, y1⟩, ⟨s2, y2⟩, ⟨s3, y3⟩, b9⟩ := Blk.store4 bR9 (.int .i64 (pI p0).1) (.int .i64 (pI p1).1) (.bool true) (.int .i64 (pI h1).1)
        obtain ⟨⟨r0, r1, r2, r3⟩, _⟩ := b9.c4
        have x9 : Ext w ((((w9.setCell ⟨w.heap.size, 0, none⟩ (.int .i64 (pI p0).1)).setCell ⟨w.heap.size, 1, none⟩ (.int .i64 (pI p1).1)).setCell ⟨w.heap.size, 2, none⟩ (.bool true)).setCell ⟨w.heap.size, 3, none⟩ (.int .i64 (pI h1).1)) := (((xw9.setCell (Nat.le_refl _) _).setCell (Nat.le_refl _) _).setCell (Nat.le_refl _) _).setCell (Nat.le_refl _) _
        clear b9
        go_wp2
        refine bodyPost_ret (v := .tuple #[.agg #[.int .i64 (pI p0).1, .int .i64 (pI p1).1, .bool true, .int .i64 (pI h1).1], .bool true]) (by simp [results, Tryz.results43, go_sem, r0, r1, r2, r3]) rfl ?_
        exact ⟨by rw [HP.out]; rfl, x9⟩
      · have hq1 := str_ne hq
        have HP := hid (show pV s = (⟨0, 0, false, 0⟩, false) from ans_end HA.out hq)
        clear hq b9'
        obtain ⟨⟨s0, y0⟩, ⟨s1, y1⟩, ⟨s2, y2⟩, ⟨s3, y3⟩, b9⟩ := Blk.store4 bR9 (.int .i64 0) (.int .i64 0) (.bool false) (.int .i64 0)
        obtain ⟨⟨r0, r1, r2, r3⟩, _⟩ := b9.c4
        have x9 : Ext w ((((w9.setCell ⟨w.heap.size, 0, none⟩ (.int .i64 0)).setCell ⟨w.heap.size, 1, none⟩ (.int .i64 0)).setCell ⟨w.heap.size, 2, none⟩ (.bool false)).setCell ⟨w.heap.size, 3, none⟩ (.int .i64 0)) := (((xw9.setCell (Nat.le_refl _) _).setCell (Nat.le_refl _) _).setCell (Nat.le_refl _) _).setCell (Nat.le_refl _) _
        clear b9
        go_wp2
        refine bodyPost_ret (v := .tuple #[.agg #[.int .i64 0, .int .i64 0, .bool false, .int .i64 0], .bool false]) (by simp [results, Tryz.results43, go_sem, r0, r1, r2, r3]) rfl ?_
        exact ⟨by rw [HP.out]; rfl, x9⟩
    · have HN1 := hid k1
      have hlf : (((pcs 61 h0).length : Int) == 2) = false := by rw [beq_eq_false_iff_ne]; omega
      have b5 := b4.set2 (.bool false)
      have bR := bR4.other (i := 2) (u := .bool false) hg5
      have xw4 : Ext w (w4.setCell ⟨w1.heap.size, 2, none⟩ (.bool false)) := xw4'.setCell hle5 _
      obtain ⟨⟨_, _, c2b, _⟩, _⟩ := b5.c4
      have e0b : (w4.setCell ⟨w1.heap.size, 2, none⟩ (.bool false)).cell? ⟨gH, oH, none⟩ = some (.string h0) := (World.cell?_setCell_other _ _ _ _ (fun e => by injection e with e _ _; omega)).trans e0''
      have hlt6 : w1.heap.size < (w4.setCell ⟨w1.heap.size, 2, none⟩ (.bool false)).heap.size := block_lt b5
      obtain ⟨A4, cap4, rfl, _⟩ := oP.form
      clear oP newP b4 bR4 xw4' fz
      go_wp2_with fail
      refine (spec_l2CutN h0 33 33 _ (by rfl) (by omega)).mono ?_
      rintro e w6 ⟨v6, F6, rfl, oP, newP, x6⟩
      have b5' := b5.ext x6
      have bR' := bR.ext x6
      have xw6 := xw4.trans x6
      clear b5 bR xw4 x6 c2 f2 c2b e0b e0''
      by_cases k2 : (pcs 33 h0).length = 2
      · obtain ⟨p0, p1, hP⟩ := two_of k2
        have b5 := b5'
        have bR := bR'
        have xw4 := xw6
        clear b5' bR' xw6 k2 k1
        rw [hP] at oP
        obtain ⟨gP, oo, cP, eP, d0, d1, hgP, zp0, zp1, hgF⟩ := oP.two
        subst eP
        have hneP : gP ≠ w1.heap.size := fun e => by have := newP.2 gP hgF; omega
        have sp0 : p0.size ≤ s.size := Nat.le_trans (pcs_size (c := 33) (s := h0) (by rw [hP]; simp)) sh0
        have sp1 : p1.size ≤ s.size := Nat.le_trans (pcs_size (c := 33) (s := h0) (by rw [hP]; simp)) sh0
        have HA := hid (pV_A2 HP.out HN1.out hP)
        go_wp2_with fail
        refine (spec_ParseInt p0 _ (by omega)).mono ?_
        rintro e w5 ⟨rfl, x5⟩
        have b5' := b5.ext x5
        have bR5 := bR.ext x5
        have xw5 := xw4.trans x5
        have d1' := x5.cell d1
        obtain ⟨⟨c0, c1, c2, c3⟩, fz⟩ := b5'.c4
        have f0 := fz 0
        have b6 := b5'.set0 (.int .i64 (pI p0).1)
        have bR6 := bR5.other (i := 0) (u := .int .i64 (pI p0).1) hg5
        have d1'' : (w5.setCell ⟨w1.heap.size, 0, none⟩ (.int .i64 (pI p0).1)).cell? ⟨gP, oo + 1, none⟩ = some (.string p1) := (World.cell?_setCell_other _ _ _ _ (fun e => hneP (by injection e with e _ _; exact e.symm))).trans d1'
        have xw6 : Ext w (w5.setCell ⟨w1.heap.size, 0, none⟩ (.int .i64 (pI p0).1)) := xw5.setCell hle5 _
        clear b5 b5' bR bR5 x5 xw4 xw5 d0 d1 c1 c2 c3
        go_wp2_with fail
        refine (spec_ParseInt p1 _ (by omega)).mono ?_
        rintro e w7 ⟨rfl, x7⟩
        have b7 := b6.ext x7
        have bR7 := bR6.ext x7
        have xw7 := xw6.trans x7
        clear b6 bR6 x7 xw6 d1' d1'' c0 f0
        obtain ⟨⟨c0, c1, c2, c3⟩, fz⟩ := b7.c4
        have f1 := fz 1
        have b8 := b7.set1 (.int .i64 (pI p1).1)
        have bR8 := bR7.other (i := 1) (u := .int .i64 (pI p1).1) hg5
        have xw8 : Ext w (w7.setCell ⟨w1.heap.size, 1, none⟩ (.int .i64 (pI p1).1)) := xw7.setCell hle5 _
        obtain ⟨⟨k0, k1, k2, k3⟩, _⟩ := b8.c4
        clear b7 bR7 xw7 fz
        go_wp2_with fail
        refine (spec_FormatVerdict _ _ _ _ _).mono ?_
        rintro e w9 ⟨rfl, x9⟩
        have b9' := b8.ext x9
        have bR9 := bR8.ext x9
        have xw9 := xw8.trans x9
        clear b8 bR8 x9 xw8 k0 k1 k2 k3 c0 c1 c2 c3 f1
        obtain ⟨⟨c0, c1, c2, c3⟩, _⟩ := b9'.c4
        by_cases hq : fmtV ⟨(pI p0).1, (pI p1).1, false, (pI h1).1⟩ = s
        · have hq1 := str_eq hq
          have hq2 : (fmtV ⟨(pI p0).1, (pI p1).1, false, (pI h1).1⟩).toList = s.toList := by rw [hq]
          have HP := hid (show pV s = (⟨(pI p0).1, (pI p1).1, false, (pI h1).1⟩, true) from ans_yes HA.out (fmtV_ok hq hne) hq)
          clear hq b9'
          obtain ⟨⟨s0, y0⟩, ⟨s1, y1⟩, ⟨s2, y2⟩, ⟨s3, y3⟩, b9⟩ := Blk.store4 bR9 (.int .i64 (pI p0).1) (.int .i64 (pI p1).1) (.bool false) (.int .i64 (pI h1).1)
          obtain ⟨⟨r0, r1, r2, r3⟩, _⟩ := b9.c4
          have x9 : Ext w ((((w9.setCell ⟨w.heap.size, 0, none⟩ (.int .i64 (pI p0).1)).setCell ⟨w.heap.size, 1, none⟩ (.int .i64 (pI p1).1)).setCell ⟨w.heap.size, 2, none⟩ (.bool false)).setCell ⟨w.heap.size, 3, none⟩ (.int .i64 (pI h1).1)) := (((xw9.setCell (Nat.le_refl _) _).setCell (Nat.le_refl _) _).setCell (Nat.le_refl _) _).setCell (Nat.le_refl _) _
          clear b9
          go_wp2
          refine bodyPost_ret (v := .tuple #[.agg #[.int .i64 (pI p0).1, .int .i64 (pI p1).1, .bool false, .int .i64 (pI h1).1], .bool true]) (by simp [results, Tryz.results43, go_sem, r0, r1, r2, r3]) rfl ?_
          exact ⟨by rw [HP.out]; rfl, x9⟩
        · have hq1 := str_ne hq
          have HP := hid (show pV s = (⟨0, 0, false, 0⟩, false) from ans_end HA.out hq)
          clear hq b9'
          obtain ⟨⟨s0, y0⟩, ⟨s1, y1⟩, ⟨s2, y2⟩, ⟨s3, y3⟩, b9⟩ := Blk.store4 bR9 (.int .i64 0) (.int .i64 0) (.bool false) (.int .i64 0)
          obtain ⟨⟨r0, r1, r2, r3⟩, _⟩ := b9.c4
          have x9 : Ext w ((((w9.setCell ⟨w.heap.size, 0, none⟩ (.int .i64 0)).setCell ⟨w.heap.size, 1, none⟩ (.int .i64 0)).setCell ⟨w.heap.size, 2, none⟩ (.bool false)).setCell ⟨w.heap.size, 3, none⟩ (.int .i64 0)) := (((xw9.setCell (Nat.le_refl _) _).setCell (Nat.le_refl _) _).setCell (Nat.le_refl _) _).setCell (Nat.le_refl _) _
          clear b9
          go_wp2
          refine bodyPost_ret (v := .tuple #[.agg #[.int .i64 0, .int .i64 0, .bool false, .int .i64 0], .bool false]) (by simp [results, Tryz.results43, go_sem, r0, r1, r2, r3]) rfl ?_
          exact ⟨by rw [HP.out]; rfl, x9⟩
      · have HV := hid (pV_no2 HP.out HN1.out k2)
        have hl3 : (((pcs 33 h0).length : Int) != 2) = true := by rw [bne_iff_ne]; omega
        obtain ⟨A6, cap6, rfl, _⟩ := oP.form
        clear b5'
        obtain ⟨⟨s0, y0⟩, ⟨s1, y1⟩, ⟨s2, y2⟩, ⟨s3, y3⟩, b9⟩ := Blk.store4 bR' (.int .i64 0) (.int .i64 0) (.bool false) (.int .i64 0)
        obtain ⟨⟨r0, r1, r2, r3⟩, _⟩ := b9.c4
        have x9 : Ext w ((((w6.setCell ⟨w.heap.size, 0, none⟩ (.int .i64 0)).setCell ⟨w.heap.size, 1, none⟩ (.int .i64 0)).setCell ⟨w.heap.size, 2, none⟩ (.bool false)).setCell ⟨w.heap.size, 3, none⟩ (.int .i64 0)) := (((xw6.setCell (Nat.le_refl _) _).setCell (Nat.le_refl _) _).setCell (Nat.le_refl _) _).setCell (Nat.le_refl _) _
        clear b9
        go_wp2
        refine bodyPost_ret (v := .tuple #[.agg #[.int .i64 0, .int .i64 0, .bool false, .int .i64 0], .bool false]) (by simp [results, Tryz.results43, go_sem, r0, r1, r2, r3]) rfl ?_
        exact ⟨by rw [HV.out]; rfl, x9⟩
  · obtain ⟨A1, cap1, rfl, _⟩ := o1.form
    have HP := hid (pV_no1 h2)
    have hl1 : (((pcs 64 s).length : Int) != 2) = true := by rw [bne_iff_ne]; omega
    have h2' := hid h2
    clear h2
    have xwb := xw1.trans xb
    have hn1 : ¬ w.heap.size = w1.heap.size := by omega
    have hn2 : ¬ w1.heap.size = w.heap.size := by omega
    clear xb o1 bb hgw br xw1
    obtain ⟨⟨s0, y0⟩, ⟨s1, y1⟩, ⟨s2, y2⟩, ⟨s3, y3⟩, b9⟩ := Blk.store4 brb (.int .i64 0) (.int .i64 0) (.bool false) (.int .i64 0)
    obtain ⟨⟨r0, r1, r2, r3⟩, _⟩ := b9.c4
    have x9 : Ext w (((((w1.alloc (.cells #[.int .i64 0, .int .i64 0, .bool false, .int .i64 0] 26)).setCell ⟨w.heap.size, 0, none⟩ (.int .i64 0)).setCell ⟨w.heap.size, 1, none⟩ (.int .i64 0)).setCell ⟨w.heap.size, 2, none⟩ (.bool false)).setCell ⟨w.heap.size, 3, none⟩ (.int .i64 0)) := (((xwb.setCell (Nat.le_refl _) _).setCell (Nat.le_refl _) _).setCell (Nat.le_refl _) _).setCell (Nat.le_refl _) _
    clear b9
    go_wp2
    refine bodyPost_ret (v := .tuple #[.agg #[.int .i64 0, .int .i64 0, .bool false, .int .i64 0], .bool false]) (by simp [results, Tryz.results43, go_sem, r0, r1, r2, r3]) rfl ?_
    exact ⟨by rw [HP.out]; rfl, x9⟩

end Go.Proofs.YtfieimmlcopbhaaGreatDoor
