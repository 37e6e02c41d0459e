/-
  WALKS: FieldSource (both).
-/
import Derived.Test.YtgbcbmlikmjjkaaDoorFmtR2
import Derived.Test.YtgbcbmlikmjjkaaDoorRecF
import Derived.Test.YtgbcbmlikmjjkaaDoorCmpR
namespace Go.Proofs.YtgbcbmlikmjjkaaDoor
open Go.RowKit

/-- the field's value -/
def fldAt (f : Nat) (r : Record) : ByteArray := r.fields.getD f ⟨#[]⟩
theorem fldAt_eq {f : Nat} {r : Record} (h : f < r.fields.length) : fldAt f r = r.fields[f] := by unfold fldAt; simp [h]
open Classical in
/-- the least record with a value, so far -/
noncomputable def srcStep (f : Nat) (s : ByteArray) (b : Option Record) (r : Record) : Option Record :=
  if fldAt f r = s then (match b with | none => some r | some b => if cmpR r b < 0 then some r else some b) else b
noncomputable def srcOf (f : Nat) (s : ByteArray) (xs : List Record) : Option Record := xs.foldl (srcStep f s) none
def srcT : Option Record → ByteArray
  | none => ⟨#[]⟩
  | some r => recN r
open Classical in
noncomputable def srcN (xs : List Record) (f : Int) (s : ByteArray) : ByteArray := if goodRecs xs = true ∧ inB f 0 3 = true then srcT (srcOf f.toNat s xs) else ⟨#[]⟩
theorem srcOf_step (f : Nat) (s : ByteArray) (xs : List Record) (k : Nat) (h : k < xs.length) : srcOf f s (xs.take (k + 1)) = srcStep f s (srcOf f s (xs.take k)) xs[k] := by
  unfold srcOf
  rw [List.take_succ_eq_append_getElem h, List.foldl_append]; rfl
theorem src_no {f : Nat} {s : ByteArray} {b : Option Record} {r : Record} (h : ¬ fldAt f r = s) : srcStep f s b r = b := by unfold srcStep; rw [if_neg h]
theorem src_first {f : Nat} {s : ByteArray} {r : Record} (h : fldAt f r = s) : srcStep f s none r = some r := by unfold srcStep; rw [if_pos h]
theorem src_less {f : Nat} {s : ByteArray} {b r : Record} (h : fldAt f r = s) (k : cmpR r b < 0) : srcStep f s (some b) r = some r := by unfold srcStep; rw [if_pos h]; simp [k]
theorem src_more {f : Nat} {s : ByteArray} {b r : Record} (h : fldAt f r = s) (k : ¬ cmpR r b < 0) : srcStep f s (some b) r = some b := by unfold srcStep; rw [if_pos h]; simp [k]
theorem srcN_yes {xs : List Record} {f : Int} {s : ByteArray} (h : goodRecs xs = true) (k : inB f 0 3 = true) : srcN xs f s = srcT (srcOf f.toNat s xs) := by unfold srcN; rw [if_pos ⟨h, k⟩]
theorem srcN_no {xs : List Record} {f : Int} {s : ByteArray} (h : ¬ (goodRecs xs = true ∧ inB f 0 3 = true)) : srcN xs f s = ⟨#[]⟩ := by unfold srcN; rw [if_neg h]
/-- the program's variables 'least', 'found' -/
def SrcSt (w : World) (g : Nat) (T : TypeId) (fd : Value) : Option Record → Prop
  | none => fd = .bool false ∧ Blk w g T [.int .i64 0, .int .i64 0, .int .i64 0, .slice none 0 0]
  | some r => fd = .bool true ∧ ∃ f, Blk w g T (r.cells f) ∧ r.ok ∧ Sl strR w f r.fields

/-- a store of four cells -/
theorem Blk.store4 {w : World} {g : Nat} {e : TypeId} {a b c d : Value} (h : Blk w g e [a, b, c, d]) (x y z u : Value) :
    (w.cell? ⟨g, 0, none⟩ = some a ∧ w.frozen? ⟨g, 0, none⟩ = false) ∧ ((w.setCell ⟨g, 0, none⟩ x).cell? ⟨g, 1, none⟩ = some b ∧ (w.setCell ⟨g, 0, none⟩ x).frozen? ⟨g, 1, none⟩ = false) ∧
    (((w.setCell ⟨g, 0, none⟩ x).setCell ⟨g, 1, none⟩ y).cell? ⟨g, 2, none⟩ = some c ∧ ((w.setCell ⟨g, 0, none⟩ x).setCell ⟨g, 1, none⟩ y).frozen? ⟨g, 2, none⟩ = false) ∧
    ((((w.setCell ⟨g, 0, none⟩ x).setCell ⟨g, 1, none⟩ y).setCell ⟨g, 2, none⟩ z).cell? ⟨g, 3, none⟩ = some d ∧ (((w.setCell ⟨g, 0, none⟩ x).setCell ⟨g, 1, none⟩ y).setCell ⟨g, 2, none⟩ z).frozen? ⟨g, 3, none⟩ = false) ∧
    Blk ((((w.setCell ⟨g, 0, none⟩ x).setCell ⟨g, 1, none⟩ y).setCell ⟨g, 2, none⟩ z).setCell ⟨g, 3, none⟩ u) g e [x, y, z, u] := by
  have b1 := Blk.store (done := []) h rfl x
  have b2 := Blk.store (done := [x]) b1 rfl y
  have b3 := Blk.store (done := [x, y]) b2 rfl z
  exact ⟨Blk.at_ (done := []) h rfl, Blk.at_ (done := [x]) b1 rfl, Blk.at_ (done := [x, y]) b2 rfl, Blk.at_ (done := [x, y, z]) b3 rfl, Blk.store (done := [x, y, z]) b3 rfl u⟩
set_option maxHeartbeats 400000 in
theorem impl_isFieldIndex (x : Int) (w : World) :
    Calls Tryd.prog 83 #[.int .i64 x] w fun e w2 => e = .returned (.bool (inB x 0 3)) ∧ w = w2 := by
  go_enter Tryd.func83, Tryd.ntmps83
  go_wp2_with (go_at_call 78; refine (impl_within _ _ _ _).mono ?_; rintro e w2 ⟨rfl, rfl⟩)
  go_ret
  exact ⟨rfl, rfl⟩

set_option maxHeartbeats 400000 in
set_option maxRecDepth 20000 in
theorem impl_FieldSource (v : Value) (xs : List Record) (f : Int) (s : ByteArray) (w : World) (h : Sl recordR w v xs) (_hf : I64 f) (hs : s.size ≤ maxLen) (T : Tab w) :
    Calls Tryd.prog 32 #[v, .int .i64 f, .string s] w fun e w2 => e = .returned (.string (srcN xs f s)) ∧ Ext w w2 := by
  obtain ⟨A, cap, rfl, hm⟩ := h.form
  cases hin : inB f 0 3 with
  | false =>
    have HN := hid (srcN_no (xs := xs) (f := f) (s := s) (by simp [hin]))
    go_enter Tryd.func32, Tryd.ntmps32
    go_wp2_with fail
    refine (impl_isFieldIndex _ _).mono ?_
    rintro e w2 ⟨rfl, rfl⟩
    rw [hin]
    clear hin
    go_wp2
    go_ret
    exact ⟨by rw [HN.out]; rfl, (by repeat (first | with_reducible exact Ext.refl _ | with_reducible assumption | with_reducible refine Ext.drew ?_ | with_reducible refine Ext.alloc ?_ _ | with_reducible refine Ext.trans ?_ (by with_reducible assumption)))⟩
  | true =>
    obtain ⟨q, rfl, hq⟩ : ∃ q : Nat, f = q ∧ q ≤ 3 := by
      unfold inB at hin
      simp only [decide_eq_true_eq] at hin
      exact ⟨f.toNat, by omega, by omega⟩
    have HIN := hid hin
    go_enter Tryd.func32, Tryd.ntmps32
    go_wp2_with fail
    refine (impl_isFieldIndex _ _).mono ?_
    rintro e w2 ⟨rfl, rfl⟩
    rw [hin]
    clear hin
    go_wp2_with fail
    have xw : Ext w (w.alloc (.cells #[.int .i64 0, .int .i64 0, .int .i64 0, .slice none 0 0] 38)) := (Ext.refl _).alloc _
    refine (impl_goldenRecords _ xs _ (h.mono xw)).mono ?_
    rintro e w3 ⟨gv, rfl, hgv0, x3⟩
    have hgv := hgv0.sl h
    clear hgv0
    obtain ⟨A3, cap3, rfl, hm3⟩ := hgv.form
    have hB0 := (Blk.new w 38 #[.int .i64 0, .int .i64 0, .int .i64 0, .slice none 0 0]).ext x3
    have HB0 := hid hB0
    clear hB0
    have HOK := hid (show ∀ r ∈ goldRecs xs, okRec r = true from fun r hr => by
      unfold goldRecs at hr
      split at hr
      · rename_i hg; exact goodRecs_at hg hr
      · cases hr)
    go_wp2
    go_loopw [8, 17] (fun fd i wr => ∃ (k : Nat) (b : Option Record), k ≤ (goldRecs xs).length ∧ i = .int .i64 k ∧ b = srcOf q s ((goldRecs xs).take k) ∧ SrcSt wr w.heap.size 38 fd b ∧ Ext w wr) (fun _ i _ => (goldRecs xs).length - (intOf i).toNat)
    case atStart => exact ⟨0, none, Nat.zero_le _, rfl, rfl, ⟨rfl, HB0.out⟩, xw.trans x3⟩
    case round =>
      obtain ⟨k, b, hk, rfl, hb, hst, hx⟩ := hrel
      have HBB := hid hb
      clear hb
      by_cases hlt : k < (goldRecs xs).length
      · obtain ⟨b1, off, A2, cap2, rfl, hok, hsl, hd0, hd1, hd2, hd3⟩ := hgv.record hlt
        have hc0 := hx.cell hd0
        have hc1 := hx.cell hd1
        have hc2 := hx.cell hd2
        have hc3 := hx.cell hd3
        clear hd0 hd1 hd2 hd3
        have hq4 : q < (goldRecs xs)[k].fields.length := by have := okRec_len (HOK.out _ (List.getElem_mem hlt)); omega
        have hstep := hid (srcOf_step q s (goldRecs xs) k hlt)
        obtain ⟨b2, off2, e2, hf1, hf2⟩ := hsl.str hq4
        subst e2
        have hfe := fldAt_eq hq4
        have hX : Ext wr (wr.alloc (.cells #[.int .i64 (goldRecs xs)[k].source, .int .i64 (goldRecs xs)[k].key, .int .i64 (goldRecs xs)[k].version, .slice (some ⟨b2, off2, none⟩) (goldRecs xs)[k].fields.length cap2] 38)) := (Ext.refl _).alloc _
        have hf3 := (hx.trans hX).cell hf2
        clear hf2
        have HX := hid hX
        have HOK2 := hid hok
        clear hok
        by_cases he : fldAt q (goldRecs xs)[k] = s
        · have he' : ((goldRecs xs)[k].fields[q].toList == s.toList) = true := str_eq (hfe ▸ he)
          cases b with
          | none =>
            obtain ⟨rfl, hblk⟩ := hst
            obtain ⟨⟨p0, q0⟩, ⟨p1, q1⟩, ⟨p2, q2⟩, ⟨p3, q3⟩, hb9⟩ := (hblk.ext HX.out).store4 (.int .i64 (goldRecs xs)[k].source) (.int .i64 (goldRecs xs)[k].key) (.int .i64 (goldRecs xs)[k].version) (.slice (some ⟨b2, off2, none⟩) (goldRecs xs)[k].fields.length cap2)
            have HB9 := hid hb9
            have hnew := hid (show srcOf q s ((goldRecs xs).take (k + 1)) = some (goldRecs xs)[k] by rw [hstep.out, ← HBB.out, src_first he])
            have HSL := hid hsl
            clear hblk hb9 hfe he hsl hX HBB
            go_wp2
            go_roundw
            case rel => exact ⟨k + 1, _, by omega, by go_num, rfl, by rw [hnew.out]; exact ⟨rfl, _, HB9.out, HOK2.out, HSL.out.mono (by repeat (first | with_reducible exact Ext.refl _ | with_reducible assumption | with_reducible refine Ext.drew ?_ | with_reducible refine Ext.alloc ?_ _ | (refine Ext.setCell ?_ (by simp) _) | with_reducible refine Ext.trans ?_ (by with_reducible assumption)))⟩, (by repeat (first | with_reducible exact Ext.refl _ | with_reducible assumption | with_reducible refine Ext.drew ?_ | with_reducible refine Ext.alloc ?_ _ | (refine Ext.setCell ?_ (by simp) _) | with_reducible refine Ext.trans ?_ (by with_reducible assumption)))⟩
            case measure => simp [intOf]; omega
          | some r =>
            obtain ⟨rfl, fr, hblk, hrok, hrs⟩ := hst
            have hblk2 := hblk.ext HX.out
            have hcs := hblk2.cells.1
            have g0 := hcs 0
            have g1 := hcs 1
            have g2 := hcs 2
            have g3 := hcs 3
            simp only [Record.cells, List.getElem?_cons_zero, List.getElem?_cons_succ] at g0 g1 g2 g3
            have HST := hid (And.intro hblk2 (And.intro hrok (hrs.mono HX.out)))
            have HSL := hid hsl
            have hcz := (cmpR_64 (goldRecs xs)[k] r).out
            clear hblk hblk2 hcs hfe hrok hrs hsl hX
            go_wp2_with fail
            refine (impl_CompareRecords _ _ (goldRecs xs)[k] r _ ⟨_, rfl, HOK2.out, HSL.out.mono (hx.trans HX.out)⟩ ⟨_, rfl, HST.out.2.1, HST.out.2.2⟩).mono ?_
            rintro e w5 ⟨rfl, x5⟩
            have c0 := x5.box.1 0
            have c1 := x5.box.1 1
            have c2 := x5.box.1 2
            have c3 := x5.box.1 3
            simp only [List.getElem?_toArray, List.getElem?_cons_zero, List.getElem?_cons_succ] at c0 c1 c2 c3
            by_cases hlt9 : cmpR (goldRecs xs)[k] r < 0
            · obtain ⟨⟨p0, q0⟩, ⟨p1, q1⟩, ⟨p2, q2⟩, ⟨p3, q3⟩, hb9⟩ := Blk.store4 (a := .int .i64 r.source) (b := .int .i64 r.key) (c := .int .i64 r.version) (d := fr) (HST.out.1.ext x5) (.int .i64 (goldRecs xs)[k].source) (.int .i64 (goldRecs xs)[k].key) (.int .i64 (goldRecs xs)[k].version) (.slice (some ⟨b2, off2, none⟩) (goldRecs xs)[k].fields.length cap2)
              have HB9 := hid hb9
              have hnew := hid (show srcOf q s ((goldRecs xs).take (k + 1)) = some (goldRecs xs)[k] by rw [hstep.out, ← HBB.out, src_less he hlt9])
              clear hb9 he g0 g1 g2 g3 HBB
              go_wp2
              go_roundw
              case rel => exact ⟨k + 1, _, by omega, by go_num, rfl, by rw [hnew.out]; exact ⟨rfl, _, HB9.out, HOK2.out, HSL.out.mono (by repeat (first | with_reducible exact Ext.refl _ | with_reducible assumption | with_reducible refine Ext.drew ?_ | with_reducible refine Ext.alloc ?_ _ | (refine Ext.setCell ?_ (by simp) _) | with_reducible refine Ext.trans ?_ (by with_reducible assumption)))⟩, (by repeat (first | with_reducible exact Ext.refl _ | with_reducible assumption | with_reducible refine Ext.drew ?_ | with_reducible refine Ext.alloc ?_ _ | (refine Ext.setCell ?_ (by simp) _) | with_reducible refine Ext.trans ?_ (by with_reducible assumption)))⟩
              case measure => simp [intOf]; omega
            · have hnew := hid (show srcOf q s ((goldRecs xs).take (k + 1)) = some r by rw [hstep.out, ← HBB.out, src_more he hlt9])
              clear he g0 g1 g2 g3 HBB c0 c1 c2 c3
              go_wp2
              go_roundw
              case rel => exact ⟨k + 1, _, by omega, by go_num, rfl, by rw [hnew.out]; exact ⟨rfl, fr, HST.out.1.ext x5, HST.out.2.1, HST.out.2.2.mono x5⟩, (by repeat (first | with_reducible exact Ext.refl _ | with_reducible assumption | with_reducible refine Ext.drew ?_ | with_reducible refine Ext.alloc ?_ _ | (refine Ext.setCell ?_ (by simp) _) | with_reducible refine Ext.trans ?_ (by with_reducible assumption)))⟩
              case measure => simp [intOf]; omega
        · have he' : ((goldRecs xs)[k].fields[q].toList == s.toList) = false := str_ne (hfe ▸ he)
          have hnew := hid (show srcOf q s ((goldRecs xs).take (k + 1)) = b by rw [hstep.out, ← HBB.out, src_no he])
          cases b with
          | none =>
            obtain ⟨rfl, hblk⟩ := hst
            have HST := hid (hblk.ext HX.out)
            clear hblk he hfe
            go_wp2
            go_roundw
            case rel => exact ⟨k + 1, _, by omega, by go_num, rfl, by rw [hnew.out]; exact ⟨rfl, HST.out⟩, (by repeat (first | with_reducible exact Ext.refl _ | with_reducible assumption | with_reducible refine Ext.drew ?_ | with_reducible refine Ext.alloc ?_ _ | (refine Ext.setCell ?_ (by simp) _) | with_reducible refine Ext.trans ?_ (by with_reducible assumption)))⟩
            case measure => simp [intOf]; omega
          | some r =>
            obtain ⟨rfl, fr, hblk, hrok, hrs⟩ := hst
            have HST := hid (And.intro (hblk.ext HX.out) (And.intro hrok (hrs.mono HX.out)))
            clear hblk he hfe hrok hrs
            go_wp2
            go_roundw
            case rel => exact ⟨k + 1, _, by omega, by go_num, rfl, by rw [hnew.out]; exact ⟨rfl, fr, HST.out.1, HST.out.2.1, HST.out.2.2⟩, (by repeat (first | with_reducible exact Ext.refl _ | with_reducible assumption | with_reducible refine Ext.drew ?_ | with_reducible refine Ext.alloc ?_ _ | (refine Ext.setCell ?_ (by simp) _) | with_reducible refine Ext.trans ?_ (by with_reducible assumption)))⟩
            case measure => simp [intOf]; omega
      · rw [List.take_of_length_le (by omega)] at HBB
        have HN := hid (show srcN xs q s = srcT b by
          rw [HBB.out]
          by_cases hg : goodRecs xs = true
          · rw [srcN_yes hg HIN.out]
            unfold goldRecs
            rw [if_pos hg]; rfl
          · rw [srcN_no (fun h => hg h.1)]
            unfold goldRecs
            rw [if_neg hg]; rfl)
        cases b with
        | none =>
          obtain ⟨rfl, hblk⟩ := hst
          have hcs := hblk.cells.1
          have g0 := hcs 0
          have g1 := hcs 1
          have g2 := hcs 2
          have g3 := hcs 3
          simp only [List.getElem?_cons_zero, List.getElem?_cons_succ] at g0 g1 g2 g3
          clear hcs hblk
          go_wp2_with fail
          refine (impl_RecordName _ ⟨0, 0, 0, []⟩ _ ⟨_, rfl, ⟨(by unfold I64; omega : I64 0), (by unfold I64; omega : I64 0), (by unfold I64; omega : I64 0)⟩, ⟨none, 0, rfl, ⟨Nat.le_refl _, Nat.zero_le _⟩, fun i hi => by simp at hi⟩⟩ (T.mono hx)).mono ?_
          rintro e w5 ⟨rfl, x5⟩
          go_wp2
          go_ret
          exact ⟨by rw [HN.out]; rfl, (by repeat (first | with_reducible exact Ext.refl _ | with_reducible assumption | with_reducible refine Ext.drew ?_ | with_reducible refine Ext.alloc ?_ _ | with_reducible refine Ext.trans ?_ (by with_reducible assumption)))⟩
        | some r =>
          obtain ⟨rfl, fr, hblk, hrok, hrs⟩ := hst
          have hcs := hblk.cells.1
          have g0 := hcs 0
          have g1 := hcs 1
          have g2 := hcs 2
          have g3 := hcs 3
          simp only [Record.cells, List.getElem?_cons_zero, List.getElem?_cons_succ] at g0 g1 g2 g3
          clear hcs hblk
          go_wp2_with fail
          refine (impl_RecordName _ r _ ⟨_, rfl, hrok, hrs⟩ (T.mono hx)).mono ?_
          rintro e w5 ⟨rfl, x5⟩
          go_wp2
          go_ret
          exact ⟨by rw [HN.out]; rfl, (by repeat (first | with_reducible exact Ext.refl _ | with_reducible assumption | with_reducible refine Ext.drew ?_ | with_reducible refine Ext.alloc ?_ _ | with_reducible refine Ext.trans ?_ (by with_reducible assumption)))⟩

/-- the reference's variable 'best' -/
def BestIx (xs : List Record) (v : Value) : Option Record → Prop
  | none => v = .int .i64 (-1)
  | some r => ∃ (j : Nat) (h : j < xs.length), v = .int .i64 j ∧ r = xs[j]

set_option maxHeartbeats 400000 in
set_option maxRecDepth 20000 in
theorem spec_FieldSource (v : Value) (xs : List Record) (f : Int) (s : ByteArray) (w : World) (h : Sl recordR w v xs) (_hf : I64 f) (hs : s.size ≤ maxLen) (_T : Tab w) :
    Calls Tryd.prog 30 #[v, .int .i64 f, .string s] w fun e w2 => e = .returned (.string (srcN xs f s)) ∧ Ext w w2 := by
  obtain ⟨A, cap, rfl, hm⟩ := h.form
  go_enter Tryd.func30, Tryd.ntmps30
  go_wp2
  go_loopw [7, 8] (fun bv i wr => ∃ (k : Nat) (b : Option Record), k ≤ xs.length ∧ i = .int .i64 k ∧ (0 < k → goodRecs xs = true ∧ inB f 0 3 = true) ∧ b = srcOf f.toNat s (xs.take k) ∧ BestIx xs bv b ∧ Ext w wr) (fun _ i _ => xs.length - (intOf i).toNat)
  case atStart => exact ⟨0, none, Nat.zero_le _, rfl, fun h => absurd h (Nat.lt_irrefl _), rfl, rfl, Ext.refl _⟩
  case round =>
    obtain ⟨k, b, hk, rfl, hp, hb, hst, hx⟩ := hrel
    have HBB := hid hb
    have HP := hid hp
    clear hb hp
    by_cases hlt : k < xs.length
    · go_wp2_with fail
      refine (spec_l13Good _ xs _ (h.mono hx)).mono ?_
      rintro e w3 ⟨rfl, x3⟩
      have hend : ¬ (goodRecs xs = true ∧ inB f 0 3 = true) → b = none ∧ srcN xs f s = ⟨#[]⟩ := fun hn => by
        have hk0 : k = 0 := by
          rcases Nat.eq_zero_or_pos k with h | h
          · exact h
          · exact absurd (HP.out h) hn
        refine ⟨?_, srcN_no hn⟩
        rw [HBB.out, hk0]; rfl
      have HEND := hid hend
      clear hend
      cases hg : goodRecs xs with
      | false =>
        obtain ⟨rfl, hN⟩ := HEND.out (by simp [hg])
        have hst' : _ = Value.int .i64 (-1) := hst
        subst hst'
        have HN := hid hN
        clear hN hg
        go_wp2
        go_ret
        exact ⟨by rw [HN.out]; rfl, (by repeat (first | with_reducible exact Ext.refl _ | with_reducible assumption | with_reducible refine Ext.drew ?_ | with_reducible refine Ext.alloc ?_ _ | with_reducible refine Ext.trans ?_ (by with_reducible assumption)))⟩
      | true =>
        have HG := hid hg
        clear hg
        go_wp2_with fail
        refine (spec_l1In _ _ _ _).mono ?_
        rintro e w4 ⟨rfl, rfl⟩
        cases hin : inB f 0 3 with
        | false =>
          obtain ⟨rfl, hN⟩ := HEND.out (by simp [hin])
          have hst' : _ = Value.int .i64 (-1) := hst
          subst hst'
          have HN := hid hN
          clear hN hin
          go_wp2
          go_ret
          exact ⟨by rw [HN.out]; rfl, (by repeat (first | with_reducible exact Ext.refl _ | with_reducible assumption | with_reducible refine Ext.drew ?_ | with_reducible refine Ext.alloc ?_ _ | with_reducible refine Ext.trans ?_ (by with_reducible assumption)))⟩
        | true =>
          obtain ⟨q, rfl, hq⟩ : ∃ q : Nat, f = q ∧ q ≤ 3 := by
            unfold inB at hin
            simp only [decide_eq_true_eq] at hin
            exact ⟨f.toNat, by omega, by omega⟩
          have HIN := hid hin
          clear hin HEND
          obtain ⟨b1, off, A2, cap2, rfl, hok, hsl, hd0, hd1, hd2, hd3⟩ := h.record hlt
          have hq4 : q < xs[k].fields.length := by have := okRec_len (goodRecs_at HG.out (List.getElem_mem hlt)); omega
          obtain ⟨b2, off2, rfl, hf1, hf2⟩ := hsl.str hq4
          have hfe := fldAt_eq hq4
          have hstep := hid (srcOf_step q s xs k hlt)
          have hb2 : srcOf q s (xs.take k) = b := HBB.out.symm
          have HB2 := hid hb2
          clear hb2
          have hy := hx.trans x3
          have z0 : ∀ z : ExtOf w3, z.1.cell? ⟨b1, off + k * 4, none⟩ = _ := fun z => (hy.trans z.2).cell hd0
          have z1 : ∀ z : ExtOf w3, z.1.cell? ⟨b1, off + k * 4 + 1, none⟩ = _ := fun z => (hy.trans z.2).cell hd1
          have z2 : ∀ z : ExtOf w3, z.1.cell? ⟨b1, off + k * 4 + 2, none⟩ = _ := fun z => (hy.trans z.2).cell hd2
          have z3 : ∀ z : ExtOf w3, z.1.cell? ⟨b1, off + k * 4 + 3, none⟩ = _ := fun z => (hy.trans z.2).cell hd3
          have z4 : ∀ z : ExtOf w3, z.1.cell? ⟨b2, off2 + q, none⟩ = _ := fun z => (hy.trans z.2).cell hf2
          clear hd0 hd1 hd2 hd3 hf2
          by_cases he : fldAt q xs[k] = s
          · have he' : (xs[k].fields[q].toList == s.toList) = true := str_eq (hfe ▸ he)
            cases b with
            | none =>
              have hst' : _ = Value.int .i64 (-1) := hst
              subst hst'
              have hnew := hid (show srcOf q s (xs.take (k + 1)) = some xs[k] by rw [hstep.out, HB2.out, src_first he])
              clear hfe he
              go_wp2_with fail
              refine wp_region_ext (by kernel_rfl) (by kernel_rfl) ?_
              repeat (go_big_quiet_step ((fail)))
              refine wpQuiet_nil ?_
              rintro w5 ⟨⟨_, x5⟩, rfl⟩
              go_wp2
              go_roundw
              case rel => exact ⟨k + 1, _, by omega, by go_num, fun _ => ⟨HG.out, HIN.out⟩, rfl, by rw [show (q : Int).toNat = q from rfl, hnew.out]; exact ⟨k, hlt, rfl, rfl⟩, hy.trans x5⟩
              case measure => simp [intOf]; omega
            | some r =>
              obtain ⟨j, hj, hv9, rfl⟩ := hst
              subst hv9
              obtain ⟨b3, off3, A3, cap3, e3, hok3, hsl3, hg0, hg1, hg2, hg3⟩ := h.record hj
              injection e3 with e3
              injection e3 with e4 e5
              subst e4
              subst e5
              have y0 : ∀ z : ExtOf w3, z.1.cell? ⟨b1, off + j * 4, none⟩ = _ := fun z => (hy.trans z.2).cell hg0
              have y1 : ∀ z : ExtOf w3, z.1.cell? ⟨b1, off + j * 4 + 1, none⟩ = _ := fun z => (hy.trans z.2).cell hg1
              have y2 : ∀ z : ExtOf w3, z.1.cell? ⟨b1, off + j * 4 + 2, none⟩ = _ := fun z => (hy.trans z.2).cell hg2
              have y3 : ∀ z : ExtOf w3, z.1.cell? ⟨b1, off + j * 4 + 3, none⟩ = _ := fun z => (hy.trans z.2).cell hg3
              have CZ : ∀ z : ExtOf w3, RecAt z.1 (.agg #[.int .i64 xs[k].source, .int .i64 xs[k].key, .int .i64 xs[k].version, .slice (some ⟨b2, off2, none⟩) xs[k].fields.length cap2]) xs[k] ∧ RecAt z.1 (.agg #[.int .i64 xs[j].source, .int .i64 xs[j].key, .int .i64 xs[j].version, .slice A3 xs[j].fields.length cap3]) xs[j] :=
                fun z => ⟨⟨_, rfl, hok, hsl.mono (hy.trans z.2)⟩, ⟨_, rfl, hok3, hsl3.mono (hy.trans z.2)⟩⟩
              have hj0 : decide (((j : Nat) : Int) < 0) = false := decide_eq_false (by omega)
              have HCZ := hid CZ
              have hcz := (cmpR_64 xs[k] xs[j]).out
              clear hg0 hg1 hg2 hg3 CZ hok hsl hok3 hsl3 hfe
              by_cases hlt9 : cmpR xs[k] xs[j] < 0
              · have hnew := hid (show srcOf q s (xs.take (k + 1)) = some xs[k] by rw [hstep.out, HB2.out, src_less he hlt9])
                clear he
                go_wp2_with fail
                refine wp_region_ext (by kernel_rfl) (by kernel_rfl) ?_
                repeat (go_big_quiet_step (((go_at_call 81; exact quiet_ext (spec_CompareRecords _ _ xs[k] xs[j] _ (HCZ.out _).1 (HCZ.out _).2)))))
                refine wpQuiet_nil ?_
                rintro w5 ⟨⟨_, x5⟩, rfl⟩
                go_wp2
                go_roundw
                case rel => exact ⟨k + 1, _, by omega, by go_num, fun _ => ⟨HG.out, HIN.out⟩, rfl, by rw [show (q : Int).toNat = q from rfl, hnew.out]; exact ⟨k, hlt, rfl, rfl⟩, hy.trans x5⟩
                case measure => simp [intOf]; omega
              · have hnew := hid (show srcOf q s (xs.take (k + 1)) = some xs[j] by rw [hstep.out, HB2.out, src_more he hlt9])
                clear he
                go_wp2_with fail
                refine wp_region_ext (by kernel_rfl) (by kernel_rfl) ?_
                repeat (go_big_quiet_step (((go_at_call 81; exact quiet_ext (spec_CompareRecords _ _ xs[k] xs[j] _ (HCZ.out _).1 (HCZ.out _).2)))))
                refine wpQuiet_nil ?_
                rintro w5 ⟨⟨_, x5⟩, rfl⟩
                go_wp2
                go_roundw
                case rel => exact ⟨k + 1, _, by omega, by go_num, fun _ => ⟨HG.out, HIN.out⟩, rfl, by rw [show (q : Int).toNat = q from rfl, hnew.out]; exact ⟨j, hj, rfl, rfl⟩, hy.trans x5⟩
                case measure => simp [intOf]; omega
          · have he' : (xs[k].fields[q].toList == s.toList) = false := str_ne (hfe ▸ he)
            have hnew := hid (show srcOf q s (xs.take (k + 1)) = b by rw [hstep.out, HB2.out, src_no he])
            have HST := hid hst
            clear hfe he hst
            go_wp2_with fail
            refine wp_region_ext (by kernel_rfl) (by kernel_rfl) ?_
            repeat (go_big_quiet_step ((fail)))
            refine wpQuiet_nil ?_
            rintro w5 ⟨⟨_, x5⟩, rfl⟩
            go_wp2
            go_roundw
            case rel => exact ⟨k + 1, _, by omega, by go_num, fun _ => ⟨HG.out, HIN.out⟩, rfl, by rw [show (q : Int).toNat = q from rfl, hnew.out]; exact HST.out, hy.trans x5⟩
            case measure => simp [intOf]; omega
    · rw [List.take_of_length_le (by omega)] at HBB
      have hN : srcN xs f s = srcT b := by
        by_cases hc : goodRecs xs = true ∧ inB f 0 3 = true
        · rw [srcN_yes hc.1 hc.2, HBB.out]
        · rw [srcN_no hc, HBB.out]
          rcases Nat.eq_zero_or_pos k with h0 | h0
          · have : xs = [] := List.eq_nil_of_length_eq_zero (by omega)
            rw [this]; rfl
          · exact absurd (HP.out h0) hc
      have HN := hid hN
      clear hN
      cases b with
      | none =>
        have hst' : _ = Value.int .i64 (-1) := hst
        subst hst'
        go_wp2
        go_ret
        exact ⟨by rw [HN.out]; rfl, (by repeat (first | with_reducible exact Ext.refl _ | with_reducible assumption | with_reducible refine Ext.drew ?_ | with_reducible refine Ext.alloc ?_ _ | with_reducible refine Ext.trans ?_ (by with_reducible assumption)))⟩
      | some r =>
        obtain ⟨j, hj, hv9, rfl⟩ := hst
        subst hv9
        obtain ⟨b3, off3, A3, cap3, rfl, hok3, hsl3, hg0, hg1, hg2, hg3⟩ := (h.mono hx).record hj
        go_wp2_with fail
        refine (spec_RecordName _ xs[j] _ ⟨_, rfl, hok3, hsl3⟩).mono ?_
        rintro e w5 ⟨rfl, x5⟩
        go_wp2
        go_ret
        exact ⟨by rw [HN.out]; rfl, (by repeat (first | with_reducible exact Ext.refl _ | with_reducible assumption | with_reducible refine Ext.drew ?_ | with_reducible refine Ext.alloc ?_ _ | with_reducible refine Ext.trans ?_ (by with_reducible assumption)))⟩
end Go.Proofs.YtgbcbmlikmjjkaaDoor
