/-
  SEVERAL SMALL TEXTS LAID TOGETHER: Src, OpS, Gold, Drw0, Unan, DrawR, GolF, DrawO, GolG, GolD.
-/
import Derived.Test.YtddjefbdekinbaaGreatDoorMgEndFnGol10
import Derived.Test.YtddjefbdekinbaaGreatDoorMgEndFnGol9
import Derived.Test.YtddjefbdekinbaaGreatDoorMgEndFnGol6
import Derived.Test.YtddjefbdekinbaaGreatDoorMgEndFnGol0
import Derived.Test.YtddjefbdekinbaaGreatDoorMgEndFnGol11
import Derived.Laws.Concat
import Derived.Deep.RegionHeld3

namespace Go.Proofs.YtddjefbdekinbaaGreatDoor
open Go.RowKit

/-- the field's value -/
def fldAt (f : Nat) (r : Record) : ByteArray := r.fields.getD f ⟨#[]⟩
theorem fldAt_eq {f : Nat} {r : Record} (h : f < r.fields.length) : fldAt f r = r.fields[f] := by unfold fldAt; simp [h]
open Classical in
/-- the least record with a value, so far -/
noncomputable def srcStep (f : Nat) (s : ByteArray) (b : Option Record) (r : Record) : Option Record :=
  if fldAt f r = s then (match b with | none => some r | some b => if cmpR r b < 0 then some r else some b) else b
noncomputable def srcOf (f : Nat) (s : ByteArray) (xs : List Record) : Option Record := xs.foldl (srcStep f s) none
def srcT : Option Record → ByteArray
  | none => ⟨#[]⟩
  | some r => recN r
open Classical in
noncomputable def srcN (xs : List Record) (f : Int) (s : ByteArray) : ByteArray := if goodRecs xs = true ∧ inB f 0 3 = true then srcT (srcOf f.toNat s xs) else ⟨#[]⟩
theorem srcOf_step (f : Nat) (s : ByteArray) (xs : List Record) (k : Nat) (h : k < xs.length) : srcOf f s (xs.take (k + 1)) = srcStep f s (srcOf f s (xs.take k)) xs[k] := by
  unfold srcOf
  rw [List.take_succ_eq_append_getElem h, List.foldl_append]; rfl
theorem src_no {f : Nat} {s : ByteArray} {b : Option Record} {r : Record} (h : ¬ fldAt f r = s) : srcStep f s b r = b := by unfold srcStep; rw [if_neg h]
theorem src_first {f : Nat} {s : ByteArray} {r : Record} (h : fldAt f r = s) : srcStep f s none r = some r := by unfold srcStep; rw [if_pos h]
theorem src_less {f : Nat} {s : ByteArray} {b r : Record} (h : fldAt f r = s) (k : cmpR r b < 0) : srcStep f s (some b) r = some r := by unfold srcStep; rw [if_pos h]; simp [k]
theorem src_more {f : Nat} {s : ByteArray} {b r : Record} (h : fldAt f r = s) (k : ¬ cmpR r b < 0) : srcStep f s (some b) r = some b := by unfold srcStep; rw [if_pos h]; simp [k]
theorem srcN_yes {xs : List Record} {f : Int} {s : ByteArray} (h : goodRecs xs = true) (k : inB f 0 3 = true) : srcN xs f s = srcT (srcOf f.toNat s xs) := by unfold srcN; rw [if_pos ⟨h, k⟩]
theorem srcN_no {xs : List Record} {f : Int} {s : ByteArray} (h : ¬ (goodRecs xs = true ∧ inB f 0 3 = true)) : srcN xs f s = ⟨#[]⟩ := by unfold srcN; rw [if_neg h]
/-- the program's variables 'least', 'found' -/
def SrcSt (w : World) (g : Nat) (T : TypeId) (fd : Value) : Option Record → Prop
  | none => fd = .bool false ∧ Blk w g T [.int .i64 0, .int .i64 0, .int .i64 0, .slice none 0 0]
  | some r => fd = .bool true ∧ ∃ f, Blk w g T (r.cells f) ∧ r.ok ∧ Sl strR w f r.fields

set_option maxHeartbeats 400000 in
theorem impl_isFieldIndex (x : Int) (w : World) :
    Calls Tryz.prog 29 #[.int .i64 x] w fun e w2 => e = .returned (.bool (inB x 0 3)) ∧ w = w2 := by
  go_enter Tryz.func29, Tryz.ntmps29
  go_wp2_with (go_at_call 44; refine (impl_within _ _ _ _).mono ?_; rintro e w2 ⟨rfl, rfl⟩)
  go_ret
  exact ⟨rfl, rfl⟩

set_option maxHeartbeats 400000 in
set_option maxRecDepth 20000 in
theorem impl_FieldSource (v : Value) (xs : List Record) (f : Int) (s : ByteArray) (w : World) (h : Sl recordR w v xs) (_hf : I64 f) (hs : s.size ≤ maxLen) (T : Tab w) :
    Calls Tryz.prog 13 #[v, .int .i64 f, .string s] w fun e w2 => e = .returned (.string (srcN xs f s)) ∧ Ext w w2 := by
  obtain ⟨A, cap, rfl, hm⟩ := h.form
  cases hin : inB f 0 3 with
  | false =>
    have HN := hid (srcN_no (xs := xs) (f := f) (s := s) (by simp [hin]))
    go_enter Tryz.func13, Tryz.ntmps13
    go_wp2_with fail
    refine (impl_isFieldIndex _ _).mono ?_
    rintro e w2 ⟨rfl, rfl⟩
    rw [hin]
    clear hin
    go_wp2
    go_ret
    exact ⟨by rw [HN.out]; rfl, (by repeat (first | with_reducible exact Ext.refl _ | with_reducible assumption | with_reducible refine Ext.drew ?_ | with_reducible refine Ext.alloc ?_ _ | with_reducible refine Ext.trans ?_ (by with_reducible assumption)))⟩
  | true =>
    obtain ⟨q, rfl, hq⟩ : ∃ q : Nat, f = q ∧ q ≤ 3 := by
      unfold inB at hin
      simp only [decide_eq_true_eq] at hin
      exact ⟨f.toNat, by omega, by omega⟩
    have HIN := hid hin
    go_enter Tryz.func13, Tryz.ntmps13
    go_wp2_with fail
    refine (impl_isFieldIndex _ _).mono ?_
    rintro e w2 ⟨rfl, rfl⟩
    rw [hin]
    clear hin
    go_wp2_with fail
    have xw : Ext w (w.alloc (.cells #[.int .i64 0, .int .i64 0, .int .i64 0, .slice none 0 0] 34)) := (Ext.refl _).alloc _
    refine (impl_goldenRecords _ xs _ (h.mono xw)).mono ?_
    rintro e w3 ⟨gv, rfl, hgv0, x3⟩
    have hgv := hgv0.sl h
    clear hgv0
    obtain ⟨A3, cap3, rfl, hm3⟩ := hgv.form
    have hB0 := (Blk.new w 34 #[.int .i64 0, .int .i64 0, .int .i64 0, .slice none 0 0]).ext x3
    have HB0 := hid hB0
    clear hB0
    have HOK := hid (show ∀ r ∈ goldRecs xs, okRec r = true from fun r hr => by
      unfold goldRecs at hr
      split at hr
      · rename_i hg; exact goodRecs_at hg hr
      · cases hr)
    go_wp2
    go_loopw [8, 17] (fun fd i wr => ∃ (k : Nat) (b : Option Record), k ≤ (goldRecs xs).length ∧ i = .int .i64 k ∧ b = srcOf q s ((goldRecs xs).take k) ∧ SrcSt wr w.heap.size 34 fd b ∧ Ext w wr) (fun _ i _ => (goldRecs xs).length - (intOf i).toNat)
    case atStart => exact ⟨0, none, Nat.zero_le _, rfl, rfl, ⟨rfl, HB0.out⟩, xw.trans x3⟩
    case round =>
      obtain ⟨k, b, hk, rfl, hb, hst, hx⟩ := hrel
      have HBB := hid hb
      clear hb
      by_cases hlt : k < (goldRecs xs).length
      · obtain ⟨b1, off, A2, cap2, rfl, hok, hsl, hd0, hd1, hd2, hd3⟩ := hgv.record hlt
        have hc0 := hx.cell hd0
        have hc1 := hx.cell hd1
        have hc2 := hx.cell hd2
        have hc3 := hx.cell hd3
        clear hd0 hd1 hd2 hd3
        have hq4 : q < (goldRecs xs)[k].fields.length := by have := okRec_len (HOK.out _ (List.getElem_mem hlt)); omega
        have hstep := hid (srcOf_step q s (goldRecs xs) k hlt)
        obtain ⟨b2, off2, e2, hf1, hf2⟩ := hsl.str hq4
        subst e2
        have hfe := fldAt_eq hq4
        have hX : Ext wr (wr.alloc (.cells #[.int .i64 (goldRecs xs)[k].source, .int .i64 (goldRecs xs)[k].key, .int .i64 (goldRecs xs)[k].version, .slice (some ⟨b2, off2, none⟩) (goldRecs xs)[k].fields.length cap2] 34)) := (Ext.refl _).alloc _
        have hf3 := (hx.trans hX).cell hf2
        clear hf2
        have HX := hid hX
        have HOK2 := hid hok
        clear hok
        by_cases he : fldAt q (goldRecs xs)[k] = s
        · have he' : ((goldRecs xs)[k].fields[q].toList == s.toList) = true := str_eq (hfe ▸ he)
          cases b with
          | none =>
            obtain ⟨rfl, hblk⟩ := hst
            obtain ⟨⟨p0, q0⟩, ⟨p1, q1⟩, ⟨p2, q2⟩, ⟨p3, q3⟩, hb9⟩ := (hblk.ext HX.out).store4 (.int .i64 (goldRecs xs)[k].source) (.int .i64 (goldRecs xs)[k].key) (.int .i64 (goldRecs xs)[k].version) (.slice (some ⟨b2, off2, none⟩) (goldRecs xs)[k].fields.length cap2)
            have HB9 := hid hb9
            have hnew := hid (show srcOf q s ((goldRecs xs).take (k + 1)) = some (goldRecs xs)[k] by rw [hstep.out, ← HBB.out, src_first he])
            have HSL := hid hsl
            clear hblk hb9 hfe he hsl hX HBB
            go_wp2
            go_roundw
            case rel => exact ⟨k + 1, _, by omega, by go_num, rfl, by rw [hnew.out]; exact ⟨rfl, _, HB9.out, HOK2.out, HSL.out.mono (by repeat (first | with_reducible exact Ext.refl _ | with_reducible assumption | with_reducible refine Ext.drew ?_ | with_reducible refine Ext.alloc ?_ _ | (refine Ext.setCell ?_ (by simp) _) | with_reducible refine Ext.trans ?_ (by with_reducible assumption)))⟩, (by repeat (first | with_reducible exact Ext.refl _ | with_reducible assumption | with_reducible refine Ext.drew ?_ | with_reducible refine Ext.alloc ?_ _ | (refine Ext.setCell ?_ (by simp) _) | with_reducible refine Ext.trans ?_ (by with_reducible assumption)))⟩
            case measure => simp [intOf]; omega
          | some r =>
            obtain ⟨rfl, fr, hblk, hrok, hrs⟩ := hst
            have hblk2 := hblk.ext HX.out
            have hcs := hblk2.cells.1
            have g0 := hcs 0
            have g1 := hcs 1
            have g2 := hcs 2
            have g3 := hcs 3
            simp only [Record.cells, List.getElem?_cons_zero, List.getElem?_cons_succ] at g0 g1 g2 g3
            have HST := hid (And.intro hblk2 (And.intro hrok (hrs.mono HX.out)))
            have HSL := hid hsl
            have hcz := (cmpR_64 (goldRecs xs)[k] r).out
            clear hblk hblk2 hcs hfe hrok hrs hsl hX
            go_wp2_with fail
            refine (impl_CompareRecords _ _ (goldRecs xs)[k] r _ ⟨_, rfl, HOK2.out, HSL.out.mono (hx.trans HX.out)⟩ ⟨_, rfl, HST.out.2.1, HST.out.2.2⟩).mono ?_
            rintro e w5 ⟨rfl, x5⟩
            have c0 := x5.box.1 0
            have c1 := x5.box.1 1
            have c2 := x5.box.1 2
            have c3 := x5.box.1 3
            simp only [List.getElem?_toArray, List.getElem?_cons_zero, List.getElem?_cons_succ] at c0 c1 c2 c3
            by_cases hlt9 : cmpR (goldRecs xs)[k] r < 0
            · obtain ⟨⟨p0, q0⟩, ⟨p1, q1⟩, ⟨p2, q2⟩, ⟨p3, q3⟩, hb9⟩ := Blk.store4 (a := .int .i64 r.source) (b := .int .i64 r.key) (c := .int .i64 r.version) (d := fr) (HST.out.1.ext x5) (.int .i64 (goldRecs xs)[k].source) (.int .i64 (goldRecs xs)[k].key) (.int .i64 (goldRecs xs)[k].version) (.slice (some ⟨b2, off2, none⟩) (goldRecs xs)[k].fields.length cap2)
              have HB9 := hid hb9
              have hnew := hid (show srcOf q s ((goldRecs xs).take (k + 1)) = some (goldRecs xs)[k] by rw [hstep.out, ← HBB.out, src_less he hlt9])
              clear hb9 he g0 g1 g2 g3 HBB
              go_wp2
              go_roundw
              case rel => exact ⟨k + 1, _, by omega, by go_num, rfl, by rw [hnew.out]; exact ⟨rfl, _, HB9.out, HOK2.out, HSL.out.mono (by repeat (first | with_reducible exact Ext.refl _ | with_reducible assumption | with_reducible refine Ext.drew ?_ | with_reducible refine Ext.alloc ?_ _ | (refine Ext.setCell ?_ (by simp) _) | with_reducible refine Ext.trans ?_ (by with_reducible assumption)))⟩, (by repeat (first | with_reducible exact Ext.refl _ | with_reducible assumption | with_reducible refine Ext.drew ?_ | with_reducible refine Ext.alloc ?_ _ | (refine Ext.setCell ?_ (by simp) _) | with_reducible refine Ext.trans ?_ (by with_reducible assumption)))⟩
              case measure => simp [intOf]; omega
            · have hnew := hid (show srcOf q s ((goldRecs xs).take (k + 1)) = some r by rw [hstep.out, ← HBB.out, src_more he hlt9])
              clear he g0 g1 g2 g3 HBB c0 c1 c2 c3
              go_wp2
              go_roundw
              case rel => exact ⟨k + 1, _, by omega, by go_num, rfl, by rw [hnew.out]; exact ⟨rfl, fr, HST.out.1.ext x5, HST.out.2.1, HST.out.2.2.mono x5⟩, (by repeat (first | with_reducible exact Ext.refl _ | with_reducible assumption | with_reducible refine Ext.drew ?_ | with_reducible refine Ext.alloc ?_ _ | (refine Ext.setCell ?_ (by simp) _) | with_reducible refine Ext.trans ?_ (by with_reducible assumption)))⟩
              case measure => simp [intOf]; omega
        · have he' : ((goldRecs xs)[k].fields[q].toList == s.toList) = false := str_ne (hfe ▸ he)
          have hnew := hid (show srcOf q s ((goldRecs xs).take (k + 1)) = b by rw [hstep.out, ← HBB.out, src_no he])
          cases b with
          | none =>
            obtain ⟨rfl, hblk⟩ := hst
            have HST := hid (hblk.ext HX.out)
            clear hblk he hfe
            go_wp2
            go_roundw
            case rel => exact ⟨k + 1, _, by omega, by go_num, rfl, by rw [hnew.out]; exact ⟨rfl, HST.out⟩, (by repeat (first | with_reducible exact Ext.refl _ | with_reducible assumption | with_reducible refine Ext.drew ?_ | with_reducible refine Ext.alloc ?_ _ | (refine Ext.setCell ?_ (by simp) _) | with_reducible refine Ext.trans ?_ (by with_reducible assumption)))⟩
            case measure => simp [intOf]; omega
          | some r =>
            obtain ⟨rfl, fr, hblk, hrok, hrs⟩ := hst
            have HST := hid (And.intro (hblk.ext HX.out) (And.intro hrok (hrs.mono HX.out)))
            clear hblk he hfe hrok hrs
            go_wp2
            go_roundw
            case rel => exact ⟨k + 1, _, by omega, by go_num, rfl, by rw [hnew.out]; exact ⟨rfl, fr, HST.out.1, HST.out.2.1, HST.out.2.2⟩, (by repeat (first | with_reducible exact Ext.refl _ | with_reducible assumption | with_reducible refine Ext.drew ?_ | with_reducible refine Ext.alloc ?_ _ | (refine Ext.setCell ?_ (by simp) _) | with_reducible refine Ext.trans ?_ (by with_reducible assumption)))⟩
            case measure => simp [intOf]; omega
      · rw [List.take_of_length_le (by omega)] at HBB
        have HN := hid (show srcN xs q s = srcT b by
          rw [HBB.out]
          by_cases hg : goodRecs xs = true
          · rw [srcN_yes hg HIN.out]
            unfold goldRecs
            rw [if_pos hg]; rfl
          · rw [srcN_no (fun h => hg h.1)]
            unfold goldRecs
            rw [if_neg hg]; rfl)
        cases b with
        | none =>
          obtain ⟨rfl, hblk⟩ := hst
          have hcs := hblk.cells.1
          have g0 := hcs 0
          have g1 := hcs 1
          have g2 := hcs 2
          have g3 := hcs 3
          simp only [List.getElem?_cons_zero, List.getElem?_cons_succ] at g0 g1 g2 g3
          clear hcs hblk
          go_wp2_with fail
          refine (impl_RecordName _ ⟨0, 0, 0, []⟩ _ ⟨_, rfl, ⟨(by unfold I64; omega : I64 0), (by unfold I64; omega : I64 0), (by unfold I64; omega : I64 0)⟩, ⟨none, 0, rfl, ⟨Nat.le_refl _, Nat.zero_le _⟩, fun i hi => by simp at hi⟩⟩ (T.mono hx)).mono ?_
          rintro e w5 ⟨rfl, x5⟩
          go_wp2
          go_ret
          exact ⟨by rw [HN.out]; rfl, (by repeat (first | with_reducible exact Ext.refl _ | with_reducible assumption | with_reducible refine Ext.drew ?_ | with_reducible refine Ext.alloc ?_ _ | with_reducible refine Ext.trans ?_ (by with_reducible assumption)))⟩
        | some r =>
          obtain ⟨rfl, fr, hblk, hrok, hrs⟩ := hst
          have hcs := hblk.cells.1
          have g0 := hcs 0
          have g1 := hcs 1
          have g2 := hcs 2
          have g3 := hcs 3
          simp only [Record.cells, List.getElem?_cons_zero, List.getElem?_cons_succ] at g0 g1 g2 g3
          clear hcs hblk
          go_wp2_with fail
          refine (impl_RecordName _ r _ ⟨_, rfl, hrok, hrs⟩ (T.mono hx)).mono ?_
          rintro e w5 ⟨rfl, x5⟩
          go_wp2
          go_ret
          exact ⟨by rw [HN.out]; rfl, (by repeat (first | with_reducible exact Ext.refl _ | with_reducible assumption | with_reducible refine Ext.drew ?_ | with_reducible refine Ext.alloc ?_ _ | with_reducible refine Ext.trans ?_ (by with_reducible assumption)))⟩

/-- the reference's variable 'best' -/
def BestIx (xs : List Record) (v : Value) : Option Record → Prop
  | none => v = .int .i64 (-1)
  | some r => ∃ (j : Nat) (h : j < xs.length), v = .int .i64 j ∧ r = xs[j]

end Go.Proofs.YtddjefbdekinbaaGreatDoor

namespace Go.Proofs.YtddjefbdekinbaaGreatDoor
open Go.RowKit

theorem Sl.op {w : World} {A : Option Addr} {n cap : Nat} {xs : List Op} (h : Sl opR w (.slice A n cap) xs) {i : Nat} (hi : i < xs.length) :
    ∃ b off A2 cap2, A = some ⟨b, off, none⟩ ∧ xs[i].ok ∧ Sl strR w (.slice A2 xs[i].record.fields.length cap2) xs[i].record.fields ∧ w.cell? ⟨b, off + i * 9, none⟩ = some (.int .i64 xs[i].kind) ∧ w.cell? ⟨b, off + i * 9 + 1, none⟩ = some (.int .i64 xs[i].record.source) ∧ w.cell? ⟨b, off + i * 9 + 2, none⟩ = some (.int .i64 xs[i].record.key) ∧ w.cell? ⟨b, off + i * 9 + 3, none⟩ = some (.int .i64 xs[i].record.version) ∧ w.cell? ⟨b, off + i * 9 + 4, none⟩ = some (.slice A2 xs[i].record.fields.length cap2) ∧ w.cell? ⟨b, off + i * 9 + 5, none⟩ = some (.int .i64 xs[i].verdict.a) ∧ w.cell? ⟨b, off + i * 9 + 6, none⟩ = some (.int .i64 xs[i].verdict.b) ∧ w.cell? ⟨b, off + i * 9 + 7, none⟩ = some (.bool xs[i].verdict.same) ∧ w.cell? ⟨b, off + i * 9 + 8, none⟩ = some (.int .i64 xs[i].verdict.time) := by
  obtain ⟨b, off, cs, rfl, ⟨m, rfl, hok, hs⟩, hc⟩ := h.at_ hi
  have hs' := hs
  obtain ⟨A2, cap2, rfl, _⟩ := hs
  exact ⟨b, off, A2, cap2, rfl, hok, hs', by simpa [opR, Op.cells] using hc 0 (by simp [opR]), by simpa [opR, Op.cells] using hc 1 (by simp [opR]), by simpa [opR, Op.cells] using hc 2 (by simp [opR]), by simpa [opR, Op.cells] using hc 3 (by simp [opR]), by simpa [opR, Op.cells] using hc 4 (by simp [opR]), by simpa [opR, Op.cells] using hc 5 (by simp [opR]), by simpa [opR, Op.cells] using hc 6 (by simp [opR]), by simpa [opR, Op.cells] using hc 7 (by simp [opR]), by simpa [opR, Op.cells] using hc 8 (by simp [opR])⟩

def opZ : List Value := [.int .i64 0, .int .i64 0, .int .i64 0, .int .i64 0, .slice none 0 0, .int .i64 0, .int .i64 0, .bool false, .int .i64 0]

end Go.Proofs.YtddjefbdekinbaaGreatDoor

namespace Go.Proofs.YtddjefbdekinbaaGreatDoor
open Go.RowKit

open Classical in
/-- how many records have the value? -/
noncomputable def supC (f : Nat) (s : ByteArray) (xs : List Record) : Nat := xs.foldl (fun n r => if normS (fldAt f r) = normS s then n + 1 else n) 0
theorem supC_yes (f : Nat) (s : ByteArray) (xs : List Record) (k : Nat) (h : k < xs.length) (e : normS (fldAt f xs[k]) = normS s) : supC f s (xs.take (k + 1)) = supC f s (xs.take k) + 1 := by
  unfold supC
  rw [List.take_succ_eq_append_getElem h, List.foldl_append]
  simp only [List.foldl_cons, List.foldl_nil]
  rw [if_pos e]
theorem supC_no (f : Nat) (s : ByteArray) (xs : List Record) (k : Nat) (h : k < xs.length) (e : ¬ normS (fldAt f xs[k]) = normS s) : supC f s (xs.take (k + 1)) = supC f s (xs.take k) := by
  unfold supC
  rw [List.take_succ_eq_append_getElem h, List.foldl_append]
  simp only [List.foldl_cons, List.foldl_nil]
  rw [if_neg e]
open Classical in
noncomputable def fsupN (xs : List Record) (f : Int) (s : ByteArray) : Int := if goodRecs xs = true ∧ inB f 0 3 = true then ((supC f.toNat s xs : Nat) : Int) else 0
theorem fsupN_yes {xs : List Record} {f : Int} {s : ByteArray} (h : goodRecs xs = true) (k : inB f 0 3 = true) : fsupN xs f s = (supC f.toNat s xs : Nat) := by unfold fsupN; rw [if_pos ⟨h, k⟩]
theorem fsupN_no {xs : List Record} {f : Int} {s : ByteArray} (h : ¬ (goodRecs xs = true ∧ inB f 0 3 = true)) : fsupN xs f s = 0 := by unfold fsupN; rw [if_neg h]
theorem goldRecs_ok (xs : List Record) : ∀ r ∈ goldRecs xs, okRec r = true := fun r hr => by
  unfold goldRecs at hr
  split at hr
  · rename_i hg; exact goodRecs_at hg hr
  · cases hr
theorem goldRecs_len (xs : List Record) : (goldRecs xs).length ≤ 12 := by
  unfold goldRecs
  split
  · rename_i hg; exact goodRecs_len hg
  · exact Nat.zero_le _

set_option maxHeartbeats 400000 in
set_option maxRecDepth 20000 in
theorem impl_support (v : Value) (xs : List Record) (q : Nat) (s : ByteArray) (w : World) (h : Sl recordR w v xs) (hg : ∀ r ∈ xs, okRec r = true) (hl : xs.length ≤ 12) (hq : q ≤ 3) (hs : s.size ≤ 1073741824) (M : ML w) :
    Calls Tryz.prog 30 #[v, .int .i64 (q : Nat), .string s] w fun e w2 => e = .returned (.int .i64 (supC q s xs : Nat)) ∧ Ext w w2 := by
  obtain ⟨A, cap, rfl, hm⟩ := h.form
  have HOK := hid hg
  clear hg
  go_enter Tryz.func30, Tryz.ntmps30
  go_wp2
  go_loopw [7, 12] (fun c i wr => ∃ (k n : Nat), k ≤ xs.length ∧ i = .int .i64 k ∧ c = .int .i64 n ∧ n ≤ k ∧ n = supC q s (xs.take k) ∧ Ext w wr) (fun _ i _ => xs.length - (intOf i).toNat)
  case atStart => exact ⟨0, 0, Nat.zero_le _, rfl, rfl, Nat.le_refl _, rfl, Ext.refl _⟩
  case round =>
    obtain ⟨k, n, hk, rfl, rfl, hn, hb, hx⟩ := hrel
    have HBB := hid hb
    clear hb
    by_cases hlt : k < xs.length
    · obtain ⟨b1, off, A2, cap2, rfl, hok, hsl, hd0, hd1, hd2, hd3⟩ := h.record hlt
      have hc0 := hx.cell hd0
      have hc1 := hx.cell hd1
      have hc2 := hx.cell hd2
      have hc3 := hx.cell hd3
      clear hd0 hd1 hd2 hd3
      have hq4 : q < xs[k].fields.length := by have := okRec_len (HOK.out _ (List.getElem_mem hlt)); omega
      obtain ⟨b2, off2, e2, hf1, hf2⟩ := hsl.str hq4
      subst e2
      have hfe := hid (fldAt_eq hq4)
      have hsz : xs[k].fields[q].size ≤ 40 := okRec_F (HOK.out _ (List.getElem_mem hlt)) _ (List.getElem_mem hq4)
      have hX : Ext wr (wr.alloc (.cells #[.int .i64 xs[k].source, .int .i64 xs[k].key, .int .i64 xs[k].version, .slice (some ⟨b2, off2, none⟩) xs[k].fields.length cap2] 34)) := (Ext.refl _).alloc _
      have hf3 := (hx.trans hX).cell hf2
      have hM := M.mono (hx.trans hX)
      have HX := hid (hx.trans hX)
      clear hf2 hX hok hsl
      go_wp2_with fail
      refine (impl_Normalize _ _ (by omega) hM).mono ?_
      rintro e w4 ⟨rfl, x4⟩
      go_wp2_with fail
      refine (impl_Normalize _ _ (by omega) (hM.mono x4)).mono ?_
      rintro e w5 ⟨rfl, x5⟩
      by_cases he : normS (fldAt q xs[k]) = normS s
      · have he' : ((normS xs[k].fields[q]).toList == (normS s).toList) = true := str_eq (hfe.out ▸ he)
        have hnew := hid (supC_yes q s xs k hlt he)
        clear he
        go_wp2
        go_roundw
        case rel => exact ⟨k + 1, n + 1, by omega, by go_num, by go_num, by omega, by rw [hnew.out, ← HBB.out], HX.out.trans (x4.trans x5)⟩
        case measure => simp [intOf]; omega
      · have he' : ((normS xs[k].fields[q]).toList == (normS s).toList) = false := str_ne (hfe.out ▸ he)
        have hnew := hid (supC_no q s xs k hlt he)
        clear he
        go_wp2
        go_roundw
        case rel => exact ⟨k + 1, n, by omega, by go_num, rfl, by omega, by rw [hnew.out, ← HBB.out], HX.out.trans (x4.trans x5)⟩
        case measure => simp [intOf]; omega
    · rw [List.take_of_length_le (by omega)] at HBB
      go_wp2
      go_ret
      exact ⟨by rw [← HBB.out]; rfl, (by repeat (first | with_reducible exact Ext.refl _ | with_reducible assumption | with_reducible refine Ext.drew ?_ | with_reducible refine Ext.alloc ?_ _ | with_reducible refine Ext.trans ?_ (by with_reducible assumption)))⟩

set_option maxHeartbeats 400000 in
theorem impl_FieldSupport (v : Value) (xs : List Record) (f : Int) (s : ByteArray) (w : World) (h : Sl recordR w v xs) (_hf : I64 f) (hs : s.size ≤ 1073741824) (M : ML w) :
    Calls Tryz.prog 12 #[v, .int .i64 f, .string s] w fun e w2 => e = .returned (.int .i64 (fsupN xs f s)) ∧ Ext w w2 := by
  cases hin : inB f 0 3 with
  | false =>
    have HN := hid (fsupN_no (xs := xs) (f := f) (s := s) (by simp [hin]))
    go_enter Tryz.func12, Tryz.ntmps12
    go_wp2_with fail
    refine (impl_isFieldIndex _ _).mono ?_
    rintro e w2 ⟨rfl, rfl⟩
    rw [hin]
    clear hin
    go_wp2
    go_ret
    exact ⟨by rw [HN.out]; rfl, (by repeat (first | with_reducible exact Ext.refl _ | with_reducible assumption | with_reducible refine Ext.drew ?_ | with_reducible refine Ext.alloc ?_ _ | with_reducible refine Ext.trans ?_ (by with_reducible assumption)))⟩
  | true =>
    obtain ⟨q, rfl, hq⟩ : ∃ q : Nat, f = q ∧ q ≤ 3 := by
      unfold inB at hin
      simp only [decide_eq_true_eq] at hin
      exact ⟨f.toNat, by omega, by omega⟩
    have HIN := hid hin
    go_enter Tryz.func12, Tryz.ntmps12
    go_wp2_with fail
    refine (impl_isFieldIndex _ _).mono ?_
    rintro e w2 ⟨rfl, rfl⟩
    rw [hin]
    clear hin
    go_wp2_with fail
    refine (impl_goldenRecords _ xs _ h).mono ?_
    rintro e w3 ⟨gv, rfl, hgv0, x3⟩
    have hgv := hgv0.sl (h.mono x3)
    go_wp2_with fail
    refine (impl_support _ (goldRecs xs) q s _ hgv (goldRecs_ok xs) (goldRecs_len xs) hq hs (M.mono x3)).mono ?_
    rintro e w4 ⟨rfl, x4⟩
    have HN := hid (show fsupN xs q s = (supC q s (goldRecs xs) : Nat) by
      by_cases hg : goodRecs xs = true
      · rw [fsupN_yes hg HIN.out]
        unfold goldRecs
        rw [if_pos hg]; rfl
      · rw [fsupN_no (fun h => hg h.1)]
        unfold goldRecs
        rw [if_neg hg]; rfl)
    go_wp2
    go_ret
    exact ⟨by rw [HN.out]; rfl, (by repeat (first | with_reducible exact Ext.refl _ | with_reducible assumption | with_reducible refine Ext.drew ?_ | with_reducible refine Ext.alloc ?_ _ | with_reducible refine Ext.trans ?_ (by with_reducible assumption)))⟩

set_option maxHeartbeats 400000 in
set_option maxRecDepth 20000 in
theorem spec_FieldSupport (v : Value) (xs : List Record) (f : Int) (s : ByteArray) (w : World) (h : Sl recordR w v xs) (_hf : I64 f) (hs : s.size ≤ 1073741824) :
    Calls Tryz.prog 61 #[v, .int .i64 f, .string s] w fun e w2 => e = .returned (.int .i64 (fsupN xs f s)) ∧ Ext w w2 := by
  obtain ⟨A, cap, rfl, hm⟩ := h.form
  go_enter Tryz.func61, Tryz.ntmps61
  go_wp2
  go_loopw [7, 8] (fun c i wr => ∃ (k n : Nat), k ≤ xs.length ∧ i = .int .i64 k ∧ c = .int .i64 n ∧ n ≤ k ∧ (0 < k → goodRecs xs = true ∧ inB f 0 3 = true) ∧ n = supC f.toNat s (xs.take k) ∧ Ext w wr) (fun _ i _ => xs.length - (intOf i).toNat)
  case atStart => exact ⟨0, 0, Nat.zero_le _, rfl, rfl, Nat.le_refl _, fun h => absurd h (Nat.lt_irrefl _), rfl, Ext.refl _⟩
  case round =>
    obtain ⟨k, n, hk, rfl, rfl, hn, hp, hb, hx⟩ := hrel
    have HBB := hid hb
    have HP := hid hp
    clear hb hp
    by_cases hlt : k < xs.length
    · go_wp2_with fail
      refine (spec_l13Good _ xs _ (h.mono hx)).mono ?_
      rintro e w3 ⟨rfl, x3⟩
      have hend : ¬ (goodRecs xs = true ∧ inB f 0 3 = true) → n = 0 ∧ fsupN xs f s = 0 := fun hn => by
        have hk0 : k = 0 := by
          rcases Nat.eq_zero_or_pos k with h | h
          · exact h
          · exact absurd (HP.out h) hn
        refine ⟨?_, fsupN_no hn⟩
        rw [HBB.out, hk0]; rfl
      have HEND := hid hend
      clear hend
      cases hg : goodRecs xs with
      | false =>
        obtain ⟨rfl, hN⟩ := HEND.out (by simp [hg])
        have HN := hid hN
        clear hN hg
        go_wp2
        go_ret
        exact ⟨by rw [HN.out]; rfl, (by repeat (first | with_reducible exact Ext.refl _ | with_reducible assumption | with_reducible refine Ext.drew ?_ | with_reducible refine Ext.alloc ?_ _ | with_reducible refine Ext.trans ?_ (by with_reducible assumption)))⟩
      | true =>
        have HG := hid hg
        have hl12 := goodRecs_len hg
        clear hg
        go_wp2_with fail
        refine (spec_l1In _ _ _ _).mono ?_
        rintro e w4 ⟨rfl, rfl⟩
        cases hin : inB f 0 3 with
        | false =>
          obtain ⟨rfl, hN⟩ := HEND.out (by simp [hin])
          have HN := hid hN
          clear hN hin
          go_wp2
          go_ret
          exact ⟨by rw [HN.out]; rfl, (by repeat (first | with_reducible exact Ext.refl _ | with_reducible assumption | with_reducible refine Ext.drew ?_ | with_reducible refine Ext.alloc ?_ _ | with_reducible refine Ext.trans ?_ (by with_reducible assumption)))⟩
        | true =>
          obtain ⟨q, rfl, hq⟩ : ∃ q : Nat, f = q ∧ q ≤ 3 := by
            unfold inB at hin
            simp only [decide_eq_true_eq] at hin
            exact ⟨f.toNat, by omega, by omega⟩
          have HIN := hid hin
          clear hin HEND
          obtain ⟨b1, off, A2, cap2, rfl, hok, hsl, hd0, hd1, hd2, hd3⟩ := h.record hlt
          have hq4 : q < xs[k].fields.length := by have := okRec_len (goodRecs_at HG.out (List.getElem_mem hlt)); omega
          have hsz : xs[k].fields[q].size ≤ 40 := okRec_F (goodRecs_at HG.out (List.getElem_mem hlt)) _ (List.getElem_mem hq4)
          obtain ⟨b2, off2, rfl, hf1, hf2⟩ := hsl.str hq4
          have hfe := hid (fldAt_eq hq4)
          have hy := hx.trans x3
          have z3 := hy.cell hd3
          have z4 := hy.cell hf2
          clear hd0 hd1 hd2 hd3 hf2 hok hsl
          go_wp2_with fail
          refine (spec_Normalize _ _ (by omega)).mono ?_
          rintro e w5 ⟨rfl, x5⟩
          go_wp2_with fail
          refine (spec_Normalize _ _ (by omega)).mono ?_
          rintro e w6 ⟨rfl, x6⟩
          by_cases he : normS (fldAt q xs[k]) = normS s
          · have he' : ((normS xs[k].fields[q]).toList == (normS s).toList) = true := str_eq (hfe.out ▸ he)
            have hnew := hid (supC_yes q s xs k hlt he)
            clear he
            go_wp2
            go_roundw
            case rel => exact ⟨k + 1, n + 1, by omega, by go_num, by go_num, by omega, fun _ => ⟨HG.out, HIN.out⟩, by rw [show (q : Int).toNat = q from rfl, hnew.out]; rw [HBB.out]; rfl, hy.trans (x5.trans x6)⟩
            case measure => simp [intOf]; omega
          · have he' : ((normS xs[k].fields[q]).toList == (normS s).toList) = false := str_ne (hfe.out ▸ he)
            have hnew := hid (supC_no q s xs k hlt he)
            clear he
            go_wp2
            go_roundw
            case rel => exact ⟨k + 1, n, by omega, by go_num, rfl, by omega, fun _ => ⟨HG.out, HIN.out⟩, by rw [show (q : Int).toNat = q from rfl, hnew.out]; rw [HBB.out]; rfl, hy.trans (x5.trans x6)⟩
            case measure => simp [intOf]; omega
    · rw [List.take_of_length_le (by omega)] at HBB
      have hN : fsupN xs f s = (n : Nat) := by
        by_cases hc : goodRecs xs = true ∧ inB f 0 3 = true
        · rw [fsupN_yes hc.1 hc.2, HBB.out]
        · rw [fsupN_no hc, HBB.out]
          rcases Nat.eq_zero_or_pos k with h0 | h0
          · have : xs = [] := List.eq_nil_of_length_eq_zero (by omega)
            rw [this]; rfl
          · exact absurd (HP.out h0) hc
      have HN := hid hN
      clear hN
      go_wp2
      go_ret
      exact ⟨by rw [HN.out]; rfl, (by repeat (first | with_reducible exact Ext.refl _ | with_reducible assumption | with_reducible refine Ext.drew ?_ | with_reducible refine Ext.alloc ?_ _ | with_reducible refine Ext.trans ?_ (by with_reducible assumption)))⟩
end Go.Proofs.YtddjefbdekinbaaGreatDoor

namespace Go.Proofs.YtddjefbdekinbaaGreatDoor
open Go.RowKit

theorem Blk.new1 (w : World) (o : Obj) (T : TypeId) (cs : Array Value) : Blk ((w.alloc o).alloc (.cells cs T)) (w.heap.size + 1) T cs.toList := by
  have := Blk.new (w.alloc o) T cs
  simpa using this
theorem one_op (o : Op) (A : Option Addr) (n c : Nat) : ∀ u ∈ (#[.int .i64 o.kind, .int .i64 o.record.source, .int .i64 o.record.key, .int .i64 o.record.version, .slice A n c, .int .i64 o.verdict.a, .int .i64 o.verdict.b, .bool o.verdict.same, .int .i64 o.verdict.time] : Array Value).toList, u.oneCell' = true := by simp [Value.oneCell']
end Go.Proofs.YtddjefbdekinbaaGreatDoor

namespace Go.Proofs.YtddjefbdekinbaaGreatDoor
open Go.RowKit

open Classical in
/-- one record more: the first value that is not empty; none: two differ -/
noncomputable def unStep (f : Nat) (b : Option ByteArray) (r : Record) : Option ByteArray :=
  match b with
  | none => none
  | some s => if normS (fldAt f r) ≠ ⟨#[]⟩ ∧ s ≠ ⟨#[]⟩ ∧ normS (fldAt f r) ≠ s then none else some (if s = ⟨#[]⟩ then normS (fldAt f r) else s)
noncomputable def unF (f : Nat) (xs : List Record) : Option ByteArray := xs.foldl (unStep f) (some ⟨#[]⟩)
theorem unF_step (f : Nat) (xs : List Record) (k : Nat) (h : k < xs.length) : unF f (xs.take (k + 1)) = unStep f (unF f (xs.take k)) xs[k] := by
  unfold unF
  rw [List.take_succ_eq_append_getElem h, List.foldl_append]; rfl
theorem un_none (f : Nat) (xs : List Record) : xs.foldl (unStep f) none = none := by
  induction xs with
  | nil => rfl
  | cons x xs ih => exact ih
theorem unF_stop (f : Nat) (xs : List Record) (k : Nat) (h : unF f (xs.take k) = none) : unF f xs = none := by
  unfold unF at h ⊢
  rw [← List.take_append_drop k xs, List.foldl_append, h, un_none]
theorem un_empty {f : Nat} {s : ByteArray} {r : Record} (h : normS (fldAt f r) = ⟨#[]⟩) : unStep f (some s) r = some s := by
  simp only [unStep]
  rw [if_neg (by simp [h])]
  by_cases e : s = ⟨#[]⟩
  · rw [if_pos e, h, e]
  · rw [if_neg e]
theorem un_first {f : Nat} {s : ByteArray} {r : Record} (h : s = ⟨#[]⟩) : unStep f (some s) r = some (normS (fldAt f r)) := by
  simp only [unStep]
  rw [if_neg (by simp [h]), if_pos h]
theorem un_same {f : Nat} {s : ByteArray} {r : Record} (h : normS (fldAt f r) = s) : unStep f (some s) r = some s := by
  simp only [unStep]
  rw [if_neg (by simp [h])]
  by_cases e : s = ⟨#[]⟩
  · rw [if_pos e, h]
  · rw [if_neg e]
theorem un_two {f : Nat} {s : ByteArray} {r : Record} (h : ¬ normS (fldAt f r) = ⟨#[]⟩) (k : ¬ s = ⟨#[]⟩) (m : ¬ normS (fldAt f r) = s) : unStep f (some s) r = none := by
  simp only [unStep]
  rw [if_pos ⟨h, k, m⟩]
noncomputable def unN (xs : List Record) (f : Int) : Bool := goodRecs xs && inB f 0 3 && (unF f.toNat xs).isSome
theorem unN_no {xs : List Record} {f : Int} (h : ¬ (goodRecs xs = true ∧ inB f 0 3 = true)) : unN xs f = false := by
  unfold unN
  cases hg : goodRecs xs with
  | false => rfl
  | true =>
    cases hi : inB f 0 3 with
    | false => rfl
    | true => exact absurd ⟨hg, hi⟩ h
theorem unN_some {xs : List Record} {q : Nat} {s : ByteArray} (h : goodRecs xs = true) (k : inB (q : Nat) 0 3 = true) (e : unF q xs = some s) : unN xs q = true := by
  unfold unN; rw [h, k, show (q : Int).toNat = q from rfl, e]; rfl
theorem unN_none {xs : List Record} {q : Nat} (e : unF q xs = none) : unN xs q = false := by
  unfold unN; rw [show (q : Int).toNat = q from rfl, e]; simp
theorem nil_toList : (⟨#[]⟩ : ByteArray).toList = [] := by simp
theorem emp_yes {a : ByteArray} (h : a = ⟨#[]⟩) : a.toList.isEmpty = true ∧ a.toList = [] := by
  have e : a.toList = [] := by rw [h]; exact nil_toList
  exact ⟨by rw [e]; rfl, e⟩
theorem emp_no {a : ByteArray} (h : ¬ a = ⟨#[]⟩) : a.toList.isEmpty = false ∧ ¬ a.toList = [] := by
  have h1 := str_ne h
  rw [nil_toList] at h1
  cases hl : a.toList with
  | nil => rw [hl] at h1; exact absurd h1 (by simp)
  | cons x l => exact ⟨rfl, List.cons_ne_nil _ _⟩

set_option maxHeartbeats 400000 in
set_option maxRecDepth 20000 in
theorem impl_IsUnanimous (v : Value) (xs : List Record) (f : Int) (w : World) (h : Sl recordR w v xs) (_hf : I64 f) (M : ML w) :
    Calls Tryz.prog 14 #[v, .int .i64 f] w fun e w2 => e = .returned (.bool (unN xs f)) ∧ Ext w w2 := by
  obtain ⟨A, cap, rfl, hm⟩ := h.form
  cases hin : inB f 0 3 with
  | false =>
    have HN := hid (unN_no (xs := xs) (f := f) (by simp [hin]))
    go_enter Tryz.func14, Tryz.ntmps14
    go_wp2_with fail
    refine (impl_isFieldIndex _ _).mono ?_
    rintro e w2 ⟨rfl, rfl⟩
    rw [hin]
    clear hin
    go_wp2
    go_ret
    exact ⟨by rw [HN.out]; rfl, (by repeat (first | with_reducible exact Ext.refl _ | with_reducible assumption | with_reducible refine Ext.drew ?_ | with_reducible refine Ext.alloc ?_ _ | with_reducible refine Ext.trans ?_ (by with_reducible assumption)))⟩
  | true =>
    obtain ⟨q, rfl, hq⟩ : ∃ q : Nat, f = q ∧ q ≤ 3 := by
      unfold inB at hin
      simp only [decide_eq_true_eq] at hin
      exact ⟨f.toNat, by omega, by omega⟩
    have HIN := hid hin
    go_enter Tryz.func14, Tryz.ntmps14
    go_wp2_with fail
    refine (impl_isFieldIndex _ _).mono ?_
    rintro e w2 ⟨rfl, rfl⟩
    rw [hin]
    clear hin
    by_cases hl : xs.length ≤ 12
    · go_wp2_with fail
      refine (impl_areRecords _ xs _ h).mono ?_
      rintro e w2 ⟨rfl, x2⟩
      cases ha : xs.all okRec with
      | false =>
        have HN := hid (unN_no (xs := xs) (f := (q : Nat)) (by unfold goodRecs; simp [ha]))
        clear ha
        go_wp2
        go_ret
        exact ⟨by rw [HN.out]; rfl, (by repeat (first | with_reducible exact Ext.refl _ | with_reducible assumption | with_reducible refine Ext.drew ?_ | with_reducible refine Ext.alloc ?_ _ | with_reducible refine Ext.trans ?_ (by with_reducible assumption)))⟩
      | true =>
        have HG := hid (show goodRecs xs = true by unfold goodRecs; simp [ha, hl])
        clear ha
        go_wp2
        go_loopw [5, 24] (fun c i wr => ∃ (k : Nat) (s : ByteArray), k ≤ xs.length ∧ i = .int .i64 k ∧ c = .string s ∧ unF q (xs.take k) = some s ∧ Ext w wr) (fun _ i _ => xs.length - (intOf i).toNat)
        case atStart => exact ⟨0, ⟨#[]⟩, Nat.zero_le _, rfl, rfl, rfl, x2⟩
        case round =>
          obtain ⟨k, s, hk, rfl, rfl, hb, hx⟩ := hrel
          have HBB := hid hb
          clear hb
          by_cases hlt : k < xs.length
          · obtain ⟨b1, off, A2, cap2, rfl, hok, hsl, hd0, hd1, hd2, hd3⟩ := h.record hlt
            have hc0 := hx.cell hd0
            have hc1 := hx.cell hd1
            have hc2 := hx.cell hd2
            have hc3 := hx.cell hd3
            clear hd0 hd1 hd2 hd3
            have hq4 : q < xs[k].fields.length := by have := okRec_len (goodRecs_at HG.out (List.getElem_mem hlt)); omega
            obtain ⟨b2, off2, e2, hf1, hf2⟩ := hsl.str hq4
            subst e2
            have hfe := hid (fldAt_eq hq4)
            have hsz : xs[k].fields[q].size ≤ 40 := okRec_F (goodRecs_at HG.out (List.getElem_mem hlt)) _ (List.getElem_mem hq4)
            have hX : Ext wr (wr.alloc (.cells #[.int .i64 xs[k].source, .int .i64 xs[k].key, .int .i64 xs[k].version, .slice (some ⟨b2, off2, none⟩) xs[k].fields.length cap2] 34)) := (Ext.refl _).alloc _
            have hf3 := (hx.trans hX).cell hf2
            have hM := M.mono (hx.trans hX)
            have HX := hid (hx.trans hX)
            have hstep := hid (unF_step q xs k hlt)
            clear hf2 hX hok hsl
            go_wp2_with fail
            refine (impl_Normalize _ _ (by omega) hM).mono ?_
            rintro e w4 ⟨rfl, x4⟩
            rw [← hfe.out]
            by_cases he : normS (fldAt q xs[k]) = ⟨#[]⟩
            · have hnew := hid (show unF q (xs.take (k + 1)) = some s by rw [hstep.out, HBB.out, un_empty he])
              obtain ⟨f1, f5⟩ := emp_yes he
              by_cases hs0 : s = ⟨#[]⟩
              · obtain ⟨f3, f6⟩ := emp_yes hs0
                have hnew2 := hid (show unF q (xs.take (k + 1)) = some (normS (fldAt q xs[k])) by rw [hnew.out, he, hs0])
                clear he hs0
                go_wp2
                go_roundw
                case rel => exact ⟨k + 1, _, by omega, by go_num, rfl, hnew2.out, HX.out.trans x4⟩
                case measure => simp [intOf]; omega
              · obtain ⟨f3, f6⟩ := emp_no hs0
                clear he hs0
                go_wp2
                go_roundw
                case rel => exact ⟨k + 1, _, by omega, by go_num, rfl, hnew.out, HX.out.trans x4⟩
                case measure => simp [intOf]; omega
            · obtain ⟨f1, f5⟩ := emp_no he
              by_cases hs0 : s = ⟨#[]⟩
              · obtain ⟨f3, f6⟩ := emp_yes hs0
                have hnew := hid (show unF q (xs.take (k + 1)) = some (normS (fldAt q xs[k])) by rw [hstep.out, HBB.out, un_first hs0])
                clear he hs0
                go_wp2
                go_roundw
                case rel => exact ⟨k + 1, _, by omega, by go_num, rfl, hnew.out, HX.out.trans x4⟩
                case measure => simp [intOf]; omega
              · obtain ⟨f3, f6⟩ := emp_no hs0
                by_cases hs : normS (fldAt q xs[k]) = s
                · have f4 := str_eq hs
                  have hnew := hid (show unF q (xs.take (k + 1)) = some s by rw [hstep.out, HBB.out, un_same hs])
                  clear he hs0 hs
                  go_wp2
                  go_roundw
                  case rel => exact ⟨k + 1, _, by omega, by go_num, rfl, hnew.out, HX.out.trans x4⟩
                  case measure => simp [intOf]; omega
                · have f4 := str_ne hs
                  have HN := hid (unN_none (unF_stop q xs (k + 1) (by rw [hstep.out, HBB.out, un_two he hs0 hs])))
                  clear he hs0 hs
                  go_wp2
                  go_ret
                  exact ⟨by rw [HN.out]; rfl, HX.out.trans x4⟩
          · rw [List.take_of_length_le (by omega)] at HBB
            have HN := hid (unN_some HG.out HIN.out HBB.out)
            go_wp2
            go_ret
            exact ⟨by rw [HN.out]; rfl, (by repeat (first | with_reducible exact Ext.refl _ | with_reducible assumption | with_reducible refine Ext.drew ?_ | with_reducible refine Ext.alloc ?_ _ | with_reducible refine Ext.trans ?_ (by with_reducible assumption)))⟩
    · have HN := hid (unN_no (xs := xs) (f := (q : Nat)) (by unfold goodRecs; simp [hl]))
      go_wp2
      go_ret
      exact ⟨by rw [HN.out]; rfl, (by repeat (first | with_reducible exact Ext.refl _ | with_reducible assumption | with_reducible refine Ext.drew ?_ | with_reducible refine Ext.alloc ?_ _ | with_reducible refine Ext.trans ?_ (by with_reducible assumption)))⟩

end Go.Proofs.YtddjefbdekinbaaGreatDoor

namespace Go.Proofs.YtddjefbdekinbaaGreatDoor
open Go.RowKit

theorem lits_kept {w w2 : World} {g : Nat} {T : TypeId} {xs : List ByteArray} {cs : Array Value} (hcs : cs.toList = xs.map Value.string) (h : ∀ x ∈ xs, x.size ≤ maxLen) (hl : xs.length ≤ maxLen) (hg : g < w.heap.size) (k : Kept g (w.alloc (.cells cs T)) w2) :
    OwnSl strO w2 (.slice (some ⟨w.heap.size, 0, none⟩) xs.length xs.length) xs [w.heap.size] := by
  have hb := Blk.new w T cs
  rw [hcs] at hb
  exact (OwnSl.of_blk hb hl (strs_cells _ _ h)).kept (by simp; omega) k

set_option maxHeartbeats 400000 in
set_option maxRecDepth 20000 in
theorem spec_l1Pick (w0 w : World) (g : Nat) (v : Value) (xs : List ByteArray) (hl : 1 ≤ xs.length ∧ xs.length ≤ 256) (hz : ∀ x ∈ xs, x.size ≤ 32) (hc : Cur w0 w g) (hs : ∀ w2, Kept g w w2 → Sl strR w2 v xs) :
    Calls Tryz.prog 59 #[.pointer (some ⟨g, 0, none⟩), v] w fun e w2 => ∃ x : ByteArray, e = .returned (.string x) ∧ x.size ≤ 32 ∧ Cur w0 w2 g ∧ Kept g w w2 := by
  obtain ⟨A, cap, rfl, hm⟩ := (hs w (Kept.refl _ _)).form
  go_enter Tryz.func59, Tryz.ntmps59
  go_wp2_with fail
  refine (spec_l1Below w0 w g xs.length (by omega) hc).mono ?_
  rintro e w2 ⟨x, rfl, hx, hc2, hk⟩
  obtain ⟨j, rfl⟩ : ∃ j : Nat, x = j := ⟨x.toNat, by omega⟩
  have hj : j < xs.length := by omega
  have hs2 := hs w2 hk
  obtain ⟨b, off, rfl, hI, hcell⟩ := hs2.str hj
  have HZ := hid (hz _ (List.getElem_mem hj))
  go_wp2
  go_ret
  exact ⟨_, rfl, HZ.out, hc2, hk⟩

/-- a record that was drawn -/
def RecDrawn (w0 w : World) (g : Nat) (e : Ending) (w2 : World) : Prop := ∃ b r, e = .returned (.agg #[.int .i64 r.source, .int .i64 r.key, .int .i64 r.version, .slice (some ⟨b, 0, none⟩) 4 4]) ∧ Record.ok r ∧ OwnSl strO w2 (.slice (some ⟨b, 0, none⟩) 4 4) r.fields [b] ∧ r.fields.length = 4 ∧ w.heap.size ≤ b ∧ Cur w0 w2 g ∧ Kept g w w2
set_option maxHeartbeats 400000 in
set_option maxRecDepth 20000 in
theorem spec_l2Name (w0 w : World) (g : Nat) (hc : Cur w0 w g) :
    Calls Tryz.prog 75 #[.pointer (some ⟨g, 0, none⟩)] w fun e w2 => ∃ s : ByteArray, e = .returned (.string s) ∧ s.size ≤ 200 ∧ Cur w0 w2 g ∧ Kept g w w2 := by
  have hg := hc.base.2.2
  have e1 : (⟨#[44, 32]⟩ : ByteArray).size = 2 := rfl
  have e2 : (⟨#[32]⟩ : ByteArray).size = 1 := rfl
  go_enter Tryz.func75, Tryz.ntmps75
  go_wp2_with fail
  refine (spec_l1Pick w0 _ g _ [⟨#[97, 110, 110, 97]⟩, ⟨#[65, 110, 110, 97]⟩, ⟨#[97, 110, 110]⟩, ⟨#[106, 111, 104, 110]⟩, ⟨#[74, 111, 110]⟩, ⟨#[109, 97, 114, 105, 97]⟩, ⟨#[77, 97, 114, 121]⟩, ⟨#[112, 101, 116, 101, 114]⟩, ⟨#[79, 39, 78, 101, 105, 108]⟩, ⟨#[108, 105]⟩] (by decide) (by decide) (hc.ext ((Ext.refl _).alloc _)) (fun w4 k4 => (lits_kept rfl (by decide) (by decide) hg k4).sl)).mono ?_
  rintro e w1 ⟨f, rfl, hf, hc1, hk1⟩
  replace hk1 := (Ext.kept (g := g) ((Ext.refl _).alloc _)).trans hk1
  have hg1 := hc1.base.2.2
  go_wp2_with fail
  refine (spec_l1Pick w0 _ g _ [⟨#[115, 109, 105, 116, 104]⟩, ⟨#[83, 109, 121, 116, 104]⟩, ⟨#[115, 99, 104, 109, 105, 100, 116]⟩, ⟨#[106, 111, 110, 101, 115]⟩, ⟨#[74, 111, 110, 97, 115]⟩, ⟨#[108, 101, 101]⟩, ⟨#[100, 101, 32, 108, 97, 32, 67, 114, 117, 122]⟩, ⟨#[109, 105, 108, 108, 101, 114]⟩, ⟨#[77, 117, 108, 108, 101, 114]⟩] (by decide) (by decide) (hc1.ext ((Ext.refl _).alloc _)) (fun w4 k4 => (lits_kept rfl (by decide) (by decide) hg1 k4).sl)).mono ?_
  rintro e w2 ⟨l, rfl, hl, hc2, hk2⟩
  replace hk2 := (Ext.kept (g := g) ((Ext.refl _).alloc _)).trans hk2
  have hg2 := hc2.base.2.2
  go_wp2_with fail
  refine (spec_l1Below w0 _ g 6 (by decide) hc2).mono ?_
  rintro e w3 ⟨x, rfl, hx, hc3, hk3⟩
  have hg3 := hc3.base.2.2
  have hk := hk1.trans (hk2.trans hk3)
  by_cases h0 : x = 0
  · subst h0
    have s1 := run_cat (P := Tryz.prog) 9 (l) (⟨#[44, 32]⟩) (by simp only [ByteArray.size_append, e1, e2]; omega)
    have s2 := run_cat (P := Tryz.prog) 9 (l ++ ⟨#[44, 32]⟩) (f) (by simp only [ByteArray.size_append, e1, e2]; omega)
    go_wp2
    go_ret
    exact ⟨_, rfl, by simp only [ByteArray.size_append, e1, e2]; omega, hc3, hk⟩
  · by_cases h1 : x = 1
    · subst h1
      have s1 := run_cat (P := Tryz.prog) 9 (f) (⟨#[32]⟩) (by simp only [ByteArray.size_append, e1, e2]; omega)
      go_wp2_with fail
      refine (spec_l1Pick w0 _ g _ [⟨#[97, 46]⟩, ⟨#[66]⟩, ⟨#[106]⟩] (by decide) (by decide) (hc3.ext ((Ext.refl _).alloc _)) (fun w4 k4 => (lits_kept rfl (by decide) (by decide) hg3 k4).sl)).mono ?_
      rintro e w4 ⟨m, rfl, hm, hc4, hk4⟩
      replace hk4 := (Ext.kept (g := g) ((Ext.refl _).alloc _)).trans hk4
      have hg4 := hc4.base.2.2
      have s2 := run_cat (P := Tryz.prog) 9 (f ++ ⟨#[32]⟩) (m) (by simp only [ByteArray.size_append, e1, e2]; omega)
      have s3 := run_cat (P := Tryz.prog) 9 (f ++ ⟨#[32]⟩ ++ m) (⟨#[32]⟩) (by simp only [ByteArray.size_append, e1, e2]; omega)
      have s4 := run_cat (P := Tryz.prog) 9 (f ++ ⟨#[32]⟩ ++ m ++ ⟨#[32]⟩) (l) (by simp only [ByteArray.size_append, e1, e2]; omega)
      go_wp2
      go_ret
      exact ⟨_, rfl, by simp only [ByteArray.size_append, e1, e2]; omega, hc4, hk.trans hk4⟩
    · by_cases h2 : x = 2
      · subst h2
        go_wp2
        go_ret
        exact ⟨_, rfl, by omega, hc3, hk⟩
      · have s1 := run_cat (P := Tryz.prog) 9 (f) (⟨#[32]⟩) (by simp only [ByteArray.size_append, e1, e2]; omega)
        have s2 := run_cat (P := Tryz.prog) 9 (f ++ ⟨#[32]⟩) (l) (by simp only [ByteArray.size_append, e1, e2]; omega)
        go_wp2
        go_ret
        exact ⟨_, rfl, by simp only [ByteArray.size_append, e1, e2]; omega, hc3, hk⟩

set_option maxHeartbeats 400000 in
theorem spec_l7Phone (w0 w : World) (g : Nat) (hc : Cur w0 w g) :
    Calls Tryz.prog 76 #[.pointer (some ⟨g, 0, none⟩)] w fun e w2 => ∃ s : ByteArray, e = .returned (.string s) ∧ s.size ≤ 32 ∧ Cur w0 w2 g ∧ Kept g w w2 := by
  have hg := hc.base.2.2
  go_enter Tryz.func76, Tryz.ntmps76
  go_wp2_with fail
  refine (spec_l1Pick w0 _ g _ [⟨#[53, 53, 53, 32, 49, 50, 51, 52]⟩, ⟨#[43, 49, 32, 53, 53, 53, 45, 49, 50, 51, 52]⟩, ⟨#[49, 53, 53, 53, 49, 50, 51, 52]⟩, ⟨#[53, 53, 53, 49, 50, 51, 52]⟩, ⟨#[49, 50, 51, 52]⟩, ⟨#[50, 51, 52]⟩, ⟨#[]⟩, ⟨#[53, 53, 53, 45, 57, 57, 57, 57]⟩, ⟨#[48, 48, 52, 52, 32, 50, 48, 32, 55, 57, 52, 54, 32, 48, 48, 49, 56]⟩, ⟨#[55, 57, 52, 54, 32, 48, 48, 49, 56]⟩, ⟨#[120]⟩] (by decide) (by decide) (hc.ext ((Ext.refl _).alloc _)) (fun w4 k4 => (lits_kept rfl (by decide) (by decide) hg k4).sl)).mono ?_
  rintro e w1 ⟨f, rfl, hf, hc1, hk1⟩
  replace hk1 := (Ext.kept (g := g) ((Ext.refl _).alloc _)).trans hk1
  have hg1 := hc1.base.2.2
  go_wp2
  go_ret
  exact ⟨_, rfl, hf, hc1, hk1⟩

set_option maxHeartbeats 400000 in
set_option maxRecDepth 20000 in
theorem spec_l8Fields (w0 w : World) (g : Nat) (hc : Cur w0 w g) :
    Calls Tryz.prog 58 #[.pointer (some ⟨g, 0, none⟩)] w fun e w2 => ∃ b fs, e = .returned (.slice (some ⟨b, 0, none⟩) 4 4) ∧ OwnSl strO w2 (.slice (some ⟨b, 0, none⟩) 4 4) fs [b] ∧ fs.length = 4 ∧ w.heap.size ≤ b ∧ Cur w0 w2 g ∧ Kept g w w2 := by
  have hg := hc.base.2.2
  go_enter Tryz.func58, Tryz.ntmps58
  go_wp2_with fail
  refine (spec_l2Name w0 _ g hc).mono ?_
  rintro e w1 ⟨n, rfl, hn, hc1, hk1⟩
  have hg1 := hc1.base.2.2
  go_wp2_with fail
  refine (spec_l1Pick w0 _ g _ [⟨#[80, 97, 114, 105, 115]⟩, ⟨#[112, 97, 114, 105, 115]⟩, ⟨#[76, 111, 110, 100, 111, 110]⟩, ⟨#[78, 101, 119, 32, 89, 111, 114, 107]⟩, ⟨#[110, 101, 119, 45, 121, 111, 114, 107]⟩, ⟨#[]⟩, ⟨#[82, 111, 109, 101]⟩] (by decide) (by decide) (hc1.ext ((Ext.refl _).alloc _)) (fun w4 k4 => (lits_kept rfl (by decide) (by decide) hg1 k4).sl)).mono ?_
  rintro e w2 ⟨p, rfl, hp, hc2, hk2⟩
  replace hk2 := (Ext.kept (g := g) ((Ext.refl _).alloc _)).trans hk2
  have hg2 := hc2.base.2.2
  go_wp2_with fail
  refine (spec_l1Pick w0 _ g _ [⟨#[49, 57, 56, 48]⟩, ⟨#[49, 57, 56, 49]⟩, ⟨#[49, 57, 56, 53]⟩, ⟨#[]⟩, ⟨#[49, 57, 57, 48]⟩, ⟨#[120]⟩] (by decide) (by decide) (hc2.ext ((Ext.refl _).alloc _)) (fun w4 k4 => (lits_kept rfl (by decide) (by decide) hg2 k4).sl)).mono ?_
  rintro e w3 ⟨q, rfl, hq, hc3, hk3⟩
  replace hk3 := (Ext.kept (g := g) ((Ext.refl _).alloc _)).trans hk3
  have hg3 := hc3.base.2.2
  go_wp2_with fail
  refine (spec_l7Phone w0 _ g hc3).mono ?_
  rintro e w4 ⟨r, rfl, hr, hc4, hk4⟩
  have hk := hk1.trans (hk2.trans (hk3.trans hk4))
  go_wp2
  go_ret
  have hmx : (200 : Nat) ≤ maxLen := by decide
  exact ⟨w4.heap.size, [n, p, q, r], rfl, OwnSl.of_blk (xs := [n, p, q, r]) (Blk.new w4 9 #[.string n, .string p, .string q, .string r]) (by show 4 ≤ maxLen; decide) (strs_cells _ [n, p, q, r] (by
    intro y hy
    simp only [List.mem_cons, List.not_mem_nil, or_false] at hy
    rcases hy with rfl | rfl | rfl | rfl <;> omega)), rfl, hk.1, hc4.ext ((Ext.refl _).alloc _), hk.alloc _⟩

set_option maxHeartbeats 400000 in
set_option maxRecDepth 20000 in
theorem spec_l8Record (w0 w : World) (g : Nat) (hc : Cur w0 w g) :
    Calls Tryz.prog 36 #[.pointer (some ⟨g, 0, none⟩)] w (RecDrawn w0 w g) := by
  have hg := hc.base.2.2
  have hc0 := hc.ext ((Ext.refl w).alloc (.cells #[.int .i64 0, .int .i64 0, .int .i64 0, .slice none 0 0] 34))
  have k0 := Ext.kept (g := g) ((Ext.refl w).alloc (.cells #[.int .i64 0, .int .i64 0, .int .i64 0, .slice none 0 0] 34))
  have b0 := Blk.new w 34 #[.int .i64 0, .int .i64 0, .int .i64 0, .slice none 0 0]
  go_enter Tryz.func36, Tryz.ntmps36
  go_wp2_with fail
  refine (spec_l1Below w0 _ g 4 (by decide) hc0).mono ?_
  rintro e w2 ⟨x1, rfl, hx1, hc2, hk2⟩
  have hg2 := hc2.base.2.2
  go_wp2_with fail
  refine (spec_l1Below w0 _ g 4 (by decide) hc2).mono ?_
  rintro e w3 ⟨x2, rfl, hx2, hc3, hk3⟩
  have hg3 := hc3.base.2.2
  go_wp2_with fail
  refine (spec_l1Below w0 _ g 3 (by decide) hc3).mono ?_
  rintro e w4 ⟨x3, rfl, hx3, hc4, hk4⟩
  have hg4 := hc4.base.2.2
  go_wp2_with fail
  refine (spec_l8Fields w0 _ g hc4).mono ?_
  rintro e w5 ⟨b, fs, rfl, ho, hl, hb, hc5, hk5⟩
  have hk25 := hk2.trans (hk3.trans (hk4.trans hk5))
  have hk := k0.trans hk25
  have bR := b0.kept (Nat.ne_of_gt hg) hk25
  have hnb : w.heap.size ∉ [b] := fun h => by
    rw [List.mem_singleton] at h
    have h1 := (hk2.trans (hk3.trans hk4)).1
    rw [World.size_alloc] at h1
    omega
  have hbw : w.heap.size ≤ b := Nat.le_trans (k0.trans (hk2.trans (hk3.trans hk4))).1 hb
  have HI := hid (show Record.ok ⟨x1, 1 + x2, 1 + x3, fs⟩ from ⟨by simp only [I64]; omega, by simp only [I64]; omega, by simp only [I64]; omega⟩)
  clear hb hc hc0 k0 b0 hc2 hc3 hc4 hk2 hk3 hk4 hk5 hk25 hg2 hg3 hg4
  obtain ⟨cR, fR⟩ := bR.cells
  go_wp2
  have b9 : Blk ((((w5.setCell ⟨w.heap.size, 0, none⟩ (.int .i64 x1)).setCell ⟨w.heap.size, 1, none⟩ (.int .i64 (1 + x2))).setCell ⟨w.heap.size, 2, none⟩ (.int .i64 (1 + x3))).setCell ⟨w.heap.size, 3, none⟩ (.slice (some ⟨b, 0, none⟩) 4 4)) w.heap.size 34 [.int .i64 x1, .int .i64 (1 + x2), .int .i64 (1 + x3), .slice (some ⟨b, 0, none⟩) 4 4] := ((((bR.setAt 0 (by show 0 < 4; decide) (.int .i64 x1)).setAt 1 (by show 1 < 4; decide) (.int .i64 (1 + x2))).setAt 2 (by show 2 < 4; decide) (.int .i64 (1 + x3))).setAt 3 (by show 3 < 4; decide) (.slice (some ⟨b, 0, none⟩) 4 4))
  have r0 : ((((w5.setCell ⟨w.heap.size, 0, none⟩ (.int .i64 x1)).setCell ⟨w.heap.size, 1, none⟩ (.int .i64 (1 + x2))).setCell ⟨w.heap.size, 2, none⟩ (.int .i64 (1 + x3))).setCell ⟨w.heap.size, 3, none⟩ (.slice (some ⟨b, 0, none⟩) 4 4)).cell? ⟨w.heap.size, 0, none⟩ = some (.int .i64 x1) := b9.cells.1 0
  have r1 : ((((w5.setCell ⟨w.heap.size, 0, none⟩ (.int .i64 x1)).setCell ⟨w.heap.size, 1, none⟩ (.int .i64 (1 + x2))).setCell ⟨w.heap.size, 2, none⟩ (.int .i64 (1 + x3))).setCell ⟨w.heap.size, 3, none⟩ (.slice (some ⟨b, 0, none⟩) 4 4)).cell? ⟨w.heap.size, 1, none⟩ = some (.int .i64 (1 + x2)) := b9.cells.1 1
  have r2 : ((((w5.setCell ⟨w.heap.size, 0, none⟩ (.int .i64 x1)).setCell ⟨w.heap.size, 1, none⟩ (.int .i64 (1 + x2))).setCell ⟨w.heap.size, 2, none⟩ (.int .i64 (1 + x3))).setCell ⟨w.heap.size, 3, none⟩ (.slice (some ⟨b, 0, none⟩) 4 4)).cell? ⟨w.heap.size, 2, none⟩ = some (.int .i64 (1 + x3)) := b9.cells.1 2
  have r3 : ((((w5.setCell ⟨w.heap.size, 0, none⟩ (.int .i64 x1)).setCell ⟨w.heap.size, 1, none⟩ (.int .i64 (1 + x2))).setCell ⟨w.heap.size, 2, none⟩ (.int .i64 (1 + x3))).setCell ⟨w.heap.size, 3, none⟩ (.slice (some ⟨b, 0, none⟩) 4 4)).cell? ⟨w.heap.size, 3, none⟩ = some (.slice (some ⟨b, 0, none⟩) 4 4) := b9.cells.1 3
  have k9 : Kept g w ((((w5.setCell ⟨w.heap.size, 0, none⟩ (.int .i64 x1)).setCell ⟨w.heap.size, 1, none⟩ (.int .i64 (1 + x2))).setCell ⟨w.heap.size, 2, none⟩ (.int .i64 (1 + x3))).setCell ⟨w.heap.size, 3, none⟩ (.slice (some ⟨b, 0, none⟩) 4 4)) := ((((hk.setN (Nat.le_refl _) _).setN (Nat.le_refl _) _).setN (Nat.le_refl _) _).setN (Nat.le_refl _) _)
  have c9 : Cur w0 ((((w5.setCell ⟨w.heap.size, 0, none⟩ (.int .i64 x1)).setCell ⟨w.heap.size, 1, none⟩ (.int .i64 (1 + x2))).setCell ⟨w.heap.size, 2, none⟩ (.int .i64 (1 + x3))).setCell ⟨w.heap.size, 3, none⟩ (.slice (some ⟨b, 0, none⟩) 4 4)) g := ((((hc5.setN hg _).setN hg _).setN hg _).setN hg _)
  have o9 := ((((ho.setCell (p := ⟨w.heap.size, 0, none⟩) hnb (.int .i64 x1)).setCell (p := ⟨w.heap.size, 1, none⟩) hnb (.int .i64 (1 + x2))).setCell (p := ⟨w.heap.size, 2, none⟩) hnb (.int .i64 (1 + x3))).setCell (p := ⟨w.heap.size, 3, none⟩) hnb (.slice (some ⟨b, 0, none⟩) 4 4))
  refine bodyPost_ret (v := .agg #[.int .i64 x1, .int .i64 (1 + x2), .int .i64 (1 + x3), .slice (some ⟨b, 0, none⟩) 4 4]) (by simp [results, Tryz.results36, go_sem, r0, r1, r2, r3]) rfl ?_
  exact ⟨b, ⟨x1, 1 + x2, 1 + x3, fs⟩, rfl, HI.out, o9, hl, hbw, c9, k9⟩

end Go.Proofs.YtddjefbdekinbaaGreatDoor

namespace Go.Proofs.YtddjefbdekinbaaGreatDoor
open Go.RowKit

theorem inB_cases {x a b : Int} (h : inB x a b = true) : a ≤ x ∧ x ≤ b := by
  unfold inB at h
  simpa only [decide_eq_true_eq] using h
theorem supC_le (f : Nat) (s : ByteArray) (xs : List Record) : supC f s xs ≤ xs.length := by
  unfold supC
  have : ∀ (n : Nat) (l : List Record), l.foldl (fun n r => open Classical in if normS (fldAt f r) = normS s then n + 1 else n) n ≤ n + l.length := fun n l => by
    induction l generalizing n with
    | nil => exact Nat.le_refl _
    | cons x l ih =>
      simp only [List.foldl_cons, List.length_cons]
      split
      · have := ih (n + 1); omega
      · have := ih n; omega
  have h := this 0 xs
  omega
/-- the rank of a record's value -/
noncomputable def rkN (xs : List Record) (q : Nat) (rule : Int) (r : Record) : Int :=
  if rule = 1 then ((supC q (fldAt q r) xs : Nat) : Int) else if rule = 2 then ((fldAt q r).size : Nat) else if rule = 3 then r.version else 4 - r.source
theorem okRec_in {r : Record} (h : okRec r = true) : (0 ≤ r.source ∧ r.source ≤ 3) ∧ (1 ≤ r.key ∧ r.key ≤ 99) ∧ 1 ≤ r.version ∧ r.version ≤ 999 := by
  have := okRec_H h
  unfold okH at this
  simp only [Bool.and_eq_true] at this
  exact ⟨inB_cases this.1.1, inB_cases this.1.2, inB_cases this.2⟩
theorem rk_four {rule : Int} (h : inB rule 1 4 = true) : rule = 1 ∨ rule = 2 ∨ rule = 3 ∨ rule = 4 := by
  have := inB_cases h; omega
theorem rkN_64 (xs : List Record) (q : Nat) (rule : Int) (r : Record) (h : okRec r = true) (hq : q ≤ 3) (hl : xs.length ≤ 12) : -1 < rkN xs q rule r ∧ rkN xs q rule r ≤ 1000 := by
  have h1 := okRec_in h
  have h2 : q < r.fields.length := by have := okRec_len h; omega
  have h3 := okRec_F h _ (List.getElem_mem h2)
  have h4 := supC_le q (fldAt q r) xs
  unfold rkN
  rw [fldAt_eq h2] at h4 ⊢
  split
  · omega
  · split
    · omega
    · split <;> omega
open Classical in
/-- one record more: the value with the greatest rank, the least of them -/
noncomputable def gfStep (xs : List Record) (q : Nat) (rule : Int) (b : ByteArray × Int) (r : Record) : ByteArray × Int :=
  if normS (fldAt q r) = ⟨#[]⟩ then b
  else if b.2 < rkN xs q rule r ∨ (rkN xs q rule r = b.2 ∧ Op.bytesLess (fldAt q r).toList b.1.toList = true) then (fldAt q r, rkN xs q rule r) else b
noncomputable def gfF (xs : List Record) (q : Nat) (rule : Int) (l : List Record) : ByteArray × Int := l.foldl (gfStep xs q rule) (⟨#[]⟩, -1)
theorem gfF_step (zs : List Record) (q : Nat) (rule : Int) (xs : List Record) (k : Nat) (h : k < xs.length) : gfF zs q rule (xs.take (k + 1)) = gfStep zs q rule (gfF zs q rule (xs.take k)) xs[k] := by
  unfold gfF
  rw [List.take_succ_eq_append_getElem h, List.foldl_append]; rfl
theorem gf_skip {xs : List Record} {q : Nat} {rule : Int} {b : ByteArray × Int} {r : Record} (h : normS (fldAt q r) = ⟨#[]⟩) : gfStep xs q rule b r = b := by
  unfold gfStep; rw [if_pos h]
theorem gf_more {xs : List Record} {q : Nat} {rule : Int} {b : ByteArray × Int} {r : Record} (h : ¬ normS (fldAt q r) = ⟨#[]⟩) (k : b.2 < rkN xs q rule r) : gfStep xs q rule b r = (fldAt q r, rkN xs q rule r) := by
  unfold gfStep; rw [if_neg h, if_pos (Or.inl k)]
theorem gf_less {xs : List Record} {q : Nat} {rule : Int} {b : ByteArray × Int} {r : Record} (h : ¬ normS (fldAt q r) = ⟨#[]⟩) (k : rkN xs q rule r = b.2) (m : Op.bytesLess (fldAt q r).toList b.1.toList = true) : gfStep xs q rule b r = (fldAt q r, rkN xs q rule r) := by
  unfold gfStep; rw [if_neg h, if_pos (Or.inr ⟨k, m⟩)]
theorem gf_keep {xs : List Record} {q : Nat} {rule : Int} {b : ByteArray × Int} {r : Record} (k : ¬ b.2 < rkN xs q rule r) (m : ¬ (rkN xs q rule r = b.2 ∧ Op.bytesLess (fldAt q r).toList b.1.toList = true)) : gfStep xs q rule b r = b := by
  unfold gfStep
  split
  · rfl
  · rw [if_neg (by intro h; rcases h with h | h; exact k h; exact m h)]
open Classical in
noncomputable def gfN (xs : List Record) (f rule : Int) : ByteArray := if goodRecs xs = true ∧ inB f 0 3 = true ∧ inB rule 1 4 = true then (gfF xs f.toNat rule xs).1 else ⟨#[]⟩
theorem gfN_yes {xs : List Record} {f rule : Int} (h : goodRecs xs = true) (k : inB f 0 3 = true) (m : inB rule 1 4 = true) : gfN xs f rule = (gfF xs f.toNat rule xs).1 := by unfold gfN; rw [if_pos ⟨h, k, m⟩]
theorem gfN_no {xs : List Record} {f rule : Int} (h : ¬ (goodRecs xs = true ∧ inB f 0 3 = true ∧ inB rule 1 4 = true)) : gfN xs f rule = ⟨#[]⟩ := by unfold gfN; rw [if_neg h]

set_option maxHeartbeats 400000 in
set_option maxRecDepth 20000 in
theorem impl_rank (v rv : Value) (xs : List Record) (r : Record) (q : Nat) (rule : Int) (w : World) (h : Sl recordR w v xs) (hr : RecAt w rv r) (hg : ∀ r ∈ xs, okRec r = true) (hl : xs.length ≤ 12) (ho : okRec r = true) (hq : q ≤ 3) (hru : inB rule 1 4 = true) (M : ML w) :
    Calls Tryz.prog 40 #[v, rv, .int .i64 (q : Nat), .int .i64 rule] w fun e w2 => e = .returned (.int .i64 (rkN xs q rule r)) ∧ Ext w w2 := by
  obtain ⟨f, rfl, hok, hs⟩ := hr
  have hin := okRec_in ho
  have hq4 : q < r.fields.length := by have := okRec_len ho; omega
  obtain ⟨A2, cap2, rfl, hm2⟩ := hs.form
  obtain ⟨b2, off2, rfl, hf1, hf2⟩ := hs.str hq4
  have hsz : r.fields[q].size ≤ 40 := okRec_F ho _ (List.getElem_mem hq4)
  have hfe := hid (fldAt_eq hq4)
  have hX : Ext w (w.alloc (.cells #[.int .i64 r.source, .int .i64 r.key, .int .i64 r.version, .slice (some ⟨b2, off2, none⟩) r.fields.length cap2] 34)) := (Ext.refl _).alloc _
  have hf3 := hX.cell hf2
  have HX := hid hX
  clear hf2 hX ho
  have HRU := hid hru
  rcases rk_four hru with e | e | e | e
  · subst e
    clear hru
    go_enter Tryz.func40, Tryz.ntmps40
    go_wp2_with fail
    refine (impl_support _ xs q r.fields[q] _ (h.mono HX.out) hg hl hq (by omega) (M.mono HX.out)).mono ?_
    rintro e w2 ⟨rfl, x2⟩
    have HN := hid (show rkN xs q 1 r = (supC q r.fields[q] xs : Nat) by rw [← hfe.out]; rfl)
    go_wp2
    go_ret
    exact ⟨by rw [HN.out]; rfl, HX.out.trans x2⟩
  · subst e
    clear hru
    go_enter Tryz.func40, Tryz.ntmps40
    have HN := hid (show rkN xs q 2 r = (r.fields[q].size : Nat) by rw [← hfe.out]; rfl)
    go_wp2
    go_ret
    exact ⟨by rw [HN.out]; rfl, HX.out⟩
  · subst e
    clear hru
    go_enter Tryz.func40, Tryz.ntmps40
    have HN := hid (show rkN xs q 3 r = r.version by rfl)
    go_wp2
    go_ret
    exact ⟨by rw [HN.out]; rfl, HX.out⟩
  · subst e
    clear hru
    go_enter Tryz.func40, Tryz.ntmps40
    have HN := hid (show rkN xs q 4 r = 4 - r.source by rfl)
    go_wp2
    go_ret
    exact ⟨by rw [HN.out]; rfl, HX.out⟩

set_option maxHeartbeats 400000 in
set_option maxRecDepth 20000 in
theorem spec_l27Rank (v : Value) (xs : List Record) (k q : Nat) (rule : Int) (w : World) (h : Sl recordR w v xs) (hk : k < xs.length) (hg : goodRecs xs = true) (hq : q ≤ 3) (hru : inB rule 1 4 = true) :
    Calls Tryz.prog 42 #[v, .int .i64 (k : Nat), .int .i64 (q : Nat), .int .i64 rule] w fun e w2 => e = .returned (.int .i64 (rkN xs q rule xs[k])) ∧ Ext w w2 := by
  obtain ⟨A, cap, rfl, hm⟩ := h.form
  have ho := goodRecs_at hg (List.getElem_mem hk)
  have hin := okRec_in ho
  obtain ⟨b1, off, A2, cap2, rfl, hok, hsl, hd0, hd1, hd2, hd3⟩ := h.record hk
  have hq4 : q < xs[k].fields.length := by have := okRec_len ho; omega
  obtain ⟨b2, off2, rfl, hf1, hf2⟩ := hsl.str hq4
  have hsz : xs[k].fields[q].size ≤ 40 := okRec_F ho _ (List.getElem_mem hq4)
  have hfe := hid (fldAt_eq hq4)
  have hl := goodRecs_len hg
  have HG := hid hg
  clear ho hsl hg
  have HRU := hid hru
  rcases rk_four hru with e | e | e | e
  · subst e
    clear hru
    go_enter Tryz.func42, Tryz.ntmps42
    go_wp2_with fail
    refine (spec_FieldSupport _ xs (q : Nat) xs[k].fields[q] _ h (by unfold I64; omega) (by omega)).mono ?_
    rintro e w2 ⟨rfl, x2⟩
    have HN := hid (show rkN xs q 1 xs[k] = fsupN xs (q : Nat) xs[k].fields[q] by
      rw [fsupN_yes HG.out (by unfold inB; simp; omega), ← hfe.out]; rfl)
    go_wp2
    go_ret
    exact ⟨by rw [HN.out]; rfl, x2⟩
  · subst e
    clear hru
    go_enter Tryz.func42, Tryz.ntmps42
    have HN := hid (show rkN xs q 2 xs[k] = (xs[k].fields[q].size : Nat) by rw [← hfe.out]; rfl)
    go_wp2
    go_ret
    exact ⟨by rw [HN.out]; rfl, (by repeat (first | with_reducible exact Ext.refl _ | with_reducible assumption | with_reducible refine Ext.drew ?_ | with_reducible refine Ext.alloc ?_ _ | with_reducible refine Ext.trans ?_ (by with_reducible assumption)))⟩
  · subst e
    clear hru
    go_enter Tryz.func42, Tryz.ntmps42
    have HN := hid (show rkN xs q 3 xs[k] = xs[k].version by rfl)
    go_wp2
    go_ret
    exact ⟨by rw [HN.out]; rfl, (by repeat (first | with_reducible exact Ext.refl _ | with_reducible assumption | with_reducible refine Ext.drew ?_ | with_reducible refine Ext.alloc ?_ _ | with_reducible refine Ext.trans ?_ (by with_reducible assumption)))⟩
  · subst e
    clear hru
    go_enter Tryz.func42, Tryz.ntmps42
    have HN := hid (show rkN xs q 4 xs[k] = 4 - xs[k].source by rfl)
    go_wp2
    go_ret
    exact ⟨by rw [HN.out]; rfl, (by repeat (first | with_reducible exact Ext.refl _ | with_reducible assumption | with_reducible refine Ext.drew ?_ | with_reducible refine Ext.alloc ?_ _ | with_reducible refine Ext.trans ?_ (by with_reducible assumption)))⟩
end Go.Proofs.YtddjefbdekinbaaGreatDoor

namespace Go.Proofs.YtddjefbdekinbaaGreatDoor
open Go.RowKit


/-- a record that was drawn, right or wrong -/
def RecAny (w0 w : World) (g : Nat) (e : Ending) (w2 : World) : Prop := ∃ v r F, e = .returned v ∧ RecOwn w2 v r F ∧ NewF w F ∧ Cur w0 w2 g ∧ Kept g w w2 ∧ r.fields.length ≤ 4
theorem OwnSl.str_tail {w : World} {b n cap : Nat} {x : ByteArray} {xs : List ByteArray} {F : List Nat} (h : OwnSl strO w (.slice (some ⟨b, 0, none⟩) (n + 1) (cap + 1)) (x :: xs) F) : OwnSl strO w (.slice (some ⟨b, 1, none⟩) n cap) xs F := by
  rcases h with ⟨e, _⟩ | ⟨g, off, cap', cur, e, F2, hv, hcap, hh, rfl, hs, hc⟩
  · cases e
  · injection hv with h1 h2 h3
    injection h1 with h1
    injection h1 with h1 h4 _
    subst h1; subst h4
    have h1 : strO.n = 1 := rfl
    rw [List.length_cons] at h2 hcap hs hc
    have hn : n = xs.length := by omega
    subst hn
    obtain ⟨c, d, F3, F4, e1, e2, e3, e4⟩ := hc
    have hl : c.length = 1 := strO.len (strO.own_rd e3)
    have hF3 : F3 = [] := e3.2
    subst hF3
    refine .inr ⟨b, 1, cap, cur, e, F2, rfl, ⟨by omega, by omega⟩, hh, rfl, by rw [h1] at hs ⊢; omega, ?_⟩
    rw [e2, List.nil_append]
    have e5 : (cur.toList.drop 1).take (xs.length * strO.n) = d := by
      rw [h1] at e1 ⊢
      rw [List.drop_zero, Nat.mul_one] at e1
      rw [Nat.mul_one]
      have e6 : ((cur.toList.take (xs.length + 1)).drop 1) = d := by rw [e1, ← hl, List.drop_left]
      rw [← e6, List.drop_take, Nat.add_sub_cancel]
    rw [e5]; exact e4

set_option maxHeartbeats 1000000 in
set_option maxRecDepth 20000 in
theorem spec_l8Any (w0 w : World) (g : Nat) (hc : Cur w0 w g) :
    Calls Tryz.prog 38 #[.pointer (some ⟨g, 0, none⟩)] w (RecAny w0 w g) := by
  have hg := hc.base.2.2
  have hc0 := hc.ext ((Ext.refl w).alloc (.cells #[.int .i64 0, .int .i64 0, .int .i64 0, .slice none 0 0] 34))
  have k0 := Ext.kept (g := g) ((Ext.refl w).alloc (.cells #[.int .i64 0, .int .i64 0, .int .i64 0, .slice none 0 0] 34))
  have b0 := Blk.new w 34 #[.int .i64 0, .int .i64 0, .int .i64 0, .slice none 0 0]
  go_enter Tryz.func38, Tryz.ntmps38
  go_wp2_with fail
  refine (spec_l8Record w0 _ g hc0).mono ?_
  rintro e w2 ⟨b, r, rfl, rok, ro, rl, rb, hc2, hk2⟩
  have HL4 := hid rl
  rw [World.size_alloc] at rb
  have hgL := hc2.base.2.2
  have hk02 := k0.trans hk2
  have hwL := hk02.1
  have hnLR : ¬ w2.heap.size = w.heap.size := by have := block_lt (b0.kept (Nat.ne_of_gt hg) hk2); omega
  have hnRL : ¬ w.heap.size = w2.heap.size := fun e => hnLR e.symm
  have hLb : w2.heap.size ∉ [b] := fun h => by rw [List.mem_singleton] at h; have := ro.lt b (List.mem_singleton.2 rfl); omega
  have hRb : w.heap.size ∉ [b] := fun h => by rw [List.mem_singleton] at h; omega
  have hgb : g ∉ [b] := fun h => by rw [List.mem_singleton] at h; omega
  have hNF : NewF w [b] := ⟨by simp, fun q hq => by rw [List.mem_singleton] at hq; omega⟩
  have bL2 := Blk.new w2 34 #[.int .i64 r.source, .int .i64 r.key, .int .i64 r.version, .slice (some ⟨b, 0, none⟩) 4 4]
  have bR2 := (b0.kept (Nat.ne_of_gt hg) hk2).ext ((Ext.refl w2).alloc (.cells #[.int .i64 r.source, .int .i64 r.key, .int .i64 r.version, .slice (some ⟨b, 0, none⟩) 4 4] 34))
  have o2 := ro.ext ((Ext.refl w2).alloc (.cells #[.int .i64 r.source, .int .i64 r.key, .int .i64 r.version, .slice (some ⟨b, 0, none⟩) 4 4] 34))
  have hc2a := hc2.ext ((Ext.refl w2).alloc (.cells #[.int .i64 r.source, .int .i64 r.key, .int .i64 r.version, .slice (some ⟨b, 0, none⟩) 4 4] 34))
  have hk2a := hk02.alloc (.cells #[.int .i64 r.source, .int .i64 r.key, .int .i64 r.version, .slice (some ⟨b, 0, none⟩) 4 4] 34)
  clear hc hc0 k0 b0 hc2 hk2 hk02 ro rb
  go_wp2_with fail
  refine (spec_l1Below w0 _ g 16 (by decide) hc2a).mono ?_
  rintro e w3 ⟨x, rfl, hx, hc3, hk3⟩
  have hg3 := hc3.base.2.2
  have bL3 := bL2.kept (Nat.ne_of_gt hgL) hk3
  have bR3 := bR2.kept (Nat.ne_of_gt hg) hk3
  have o3 := o2.kept hgb hk3
  have hk03 := hk2a.trans hk3
  clear bL2 bR2 hc2a hk2a hk3 o2
  obtain ⟨rs, rk, rv⟩ := id rok
  by_cases h0 : x = 0
  · subst h0
    go_wp2_with fail
    refine (spec_l1PickInt w0 _ g _ [-1, 4] (by show 1 ≤ 2 ∧ 2 ≤ 256; decide) (hc3.ext ((Ext.refl _).alloc _)) (fun w4 k4 => (lit_kept rfl (by simp [I64]) (by show 2 ≤ maxLen; decide) hg3 k4).sl)).mono ?_
    rintro e w4 ⟨y, rfl, hy, hc4, hk4⟩
    replace hk4 := (Ext.kept (g := g) ((Ext.refl _).alloc _)).trans hk4
    have hg4 := hc4.base.2.2
    have bLn := bL3.kept (Nat.ne_of_gt hgL) hk4
    have bRn := bR3.kept (Nat.ne_of_gt hg) hk4
    have on := o3.kept hgb hk4
    have hkn := hk03.trans hk4
    clear hk4 hg4 hc3 bL3 bR3 hk03 o3
    have bL9 : Blk (w4.setCell ⟨w2.heap.size, 0, none⟩ (.int .i64 y)) w2.heap.size 34 [.int .i64 y, .int .i64 r.key, .int .i64 r.version, .slice (some ⟨b, 0, none⟩) 4 4] := (bLn.setAt 0 (by show 0 < 4; decide) (.int .i64 y))
    have bR9 := (bRn.other (i := 0) (u := .int .i64 y) hnRL)
    have kL9 : Kept g w (w4.setCell ⟨w2.heap.size, 0, none⟩ (.int .i64 y)) := (hkn.setN hwL _)
    have cL9 : Cur w0 (w4.setCell ⟨w2.heap.size, 0, none⟩ (.int .i64 y)) g := (hc4.setN hgL _)
    have oL9 := (on.setCell (p := ⟨w2.heap.size, 0, none⟩) hLb (.int .i64 y))
    have HI := hid (show Record.ok ⟨y, r.key, r.version, r.fields⟩ from ⟨hy, rk, rv⟩)
    have HL9 := hid (show (Record.fields ⟨y, r.key, r.version, r.fields⟩).length ≤ 4 from Nat.le_of_eq HL4.out)
    obtain ⟨cL0, fL0⟩ := bLn.cells
    obtain ⟨cL, fL⟩ := bL9.cells
    obtain ⟨cR, fR⟩ := bR9.cells
    go_wp2
    have b9 : Blk (((((w4.setCell ⟨w2.heap.size, 0, none⟩ (.int .i64 y)).setCell ⟨w.heap.size, 0, none⟩ (.int .i64 y)).setCell ⟨w.heap.size, 1, none⟩ (.int .i64 r.key)).setCell ⟨w.heap.size, 2, none⟩ (.int .i64 r.version)).setCell ⟨w.heap.size, 3, none⟩ (.slice (some ⟨b, 0, none⟩) 4 4)) w.heap.size 34 [.int .i64 y, .int .i64 r.key, .int .i64 r.version, .slice (some ⟨b, 0, none⟩) 4 4] := ((((bR9.setAt 0 (by show 0 < 4; decide) (.int .i64 y)).setAt 1 (by show 1 < 4; decide) (.int .i64 r.key)).setAt 2 (by show 2 < 4; decide) (.int .i64 r.version)).setAt 3 (by show 3 < 4; decide) (.slice (some ⟨b, 0, none⟩) 4 4))
    have r0 : (((((w4.setCell ⟨w2.heap.size, 0, none⟩ (.int .i64 y)).setCell ⟨w.heap.size, 0, none⟩ (.int .i64 y)).setCell ⟨w.heap.size, 1, none⟩ (.int .i64 r.key)).setCell ⟨w.heap.size, 2, none⟩ (.int .i64 r.version)).setCell ⟨w.heap.size, 3, none⟩ (.slice (some ⟨b, 0, none⟩) 4 4)).cell? ⟨w.heap.size, 0, none⟩ = some (.int .i64 y) := b9.cells.1 0
    have r1 : (((((w4.setCell ⟨w2.heap.size, 0, none⟩ (.int .i64 y)).setCell ⟨w.heap.size, 0, none⟩ (.int .i64 y)).setCell ⟨w.heap.size, 1, none⟩ (.int .i64 r.key)).setCell ⟨w.heap.size, 2, none⟩ (.int .i64 r.version)).setCell ⟨w.heap.size, 3, none⟩ (.slice (some ⟨b, 0, none⟩) 4 4)).cell? ⟨w.heap.size, 1, none⟩ = some (.int .i64 r.key) := b9.cells.1 1
    have r2 : (((((w4.setCell ⟨w2.heap.size, 0, none⟩ (.int .i64 y)).setCell ⟨w.heap.size, 0, none⟩ (.int .i64 y)).setCell ⟨w.heap.size, 1, none⟩ (.int .i64 r.key)).setCell ⟨w.heap.size, 2, none⟩ (.int .i64 r.version)).setCell ⟨w.heap.size, 3, none⟩ (.slice (some ⟨b, 0, none⟩) 4 4)).cell? ⟨w.heap.size, 2, none⟩ = some (.int .i64 r.version) := b9.cells.1 2
    have r3 : (((((w4.setCell ⟨w2.heap.size, 0, none⟩ (.int .i64 y)).setCell ⟨w.heap.size, 0, none⟩ (.int .i64 y)).setCell ⟨w.heap.size, 1, none⟩ (.int .i64 r.key)).setCell ⟨w.heap.size, 2, none⟩ (.int .i64 r.version)).setCell ⟨w.heap.size, 3, none⟩ (.slice (some ⟨b, 0, none⟩) 4 4)).cell? ⟨w.heap.size, 3, none⟩ = some (.slice (some ⟨b, 0, none⟩) 4 4) := b9.cells.1 3
    have k9 : Kept g w (((((w4.setCell ⟨w2.heap.size, 0, none⟩ (.int .i64 y)).setCell ⟨w.heap.size, 0, none⟩ (.int .i64 y)).setCell ⟨w.heap.size, 1, none⟩ (.int .i64 r.key)).setCell ⟨w.heap.size, 2, none⟩ (.int .i64 r.version)).setCell ⟨w.heap.size, 3, none⟩ (.slice (some ⟨b, 0, none⟩) 4 4)) := ((((kL9.setN (Nat.le_refl _) _).setN (Nat.le_refl _) _).setN (Nat.le_refl _) _).setN (Nat.le_refl _) _)
    have c9 : Cur w0 (((((w4.setCell ⟨w2.heap.size, 0, none⟩ (.int .i64 y)).setCell ⟨w.heap.size, 0, none⟩ (.int .i64 y)).setCell ⟨w.heap.size, 1, none⟩ (.int .i64 r.key)).setCell ⟨w.heap.size, 2, none⟩ (.int .i64 r.version)).setCell ⟨w.heap.size, 3, none⟩ (.slice (some ⟨b, 0, none⟩) 4 4)) g := ((((cL9.setN hg _).setN hg _).setN hg _).setN hg _)
    have o9 := ((((oL9.setCell (p := ⟨w.heap.size, 0, none⟩) hRb (.int .i64 y)).setCell (p := ⟨w.heap.size, 1, none⟩) hRb (.int .i64 r.key)).setCell (p := ⟨w.heap.size, 2, none⟩) hRb (.int .i64 r.version)).setCell (p := ⟨w.heap.size, 3, none⟩) hRb (.slice (some ⟨b, 0, none⟩) 4 4))
    refine bodyPost_ret (v := .agg #[.int .i64 y, .int .i64 r.key, .int .i64 r.version, .slice (some ⟨b, 0, none⟩) 4 4]) (by simp [results, Tryz.results38, go_sem, r0, r1, r2, r3]) rfl ?_
    exact ⟨_, ⟨y, r.key, r.version, r.fields⟩, [b], rfl, ⟨_, rfl, HI.out, o9⟩, hNF, c9, k9, HL9.out⟩
  · by_cases h1 : x = 1
    · subst h1
      go_wp2_with fail
      refine (spec_l1PickInt w0 _ g _ [0, 99, 100] (by show 1 ≤ 3 ∧ 3 ≤ 256; decide) (hc3.ext ((Ext.refl _).alloc _)) (fun w4 k4 => (lit_kept rfl (by simp [I64]) (by show 3 ≤ maxLen; decide) hg3 k4).sl)).mono ?_
      rintro e w4 ⟨y, rfl, hy, hc4, hk4⟩
      replace hk4 := (Ext.kept (g := g) ((Ext.refl _).alloc _)).trans hk4
      have hg4 := hc4.base.2.2
      have bLn := bL3.kept (Nat.ne_of_gt hgL) hk4
      have bRn := bR3.kept (Nat.ne_of_gt hg) hk4
      have on := o3.kept hgb hk4
      have hkn := hk03.trans hk4
      clear hk4 hg4 hc3 bL3 bR3 hk03 o3
      have bL9 : Blk (w4.setCell ⟨w2.heap.size, 1, none⟩ (.int .i64 y)) w2.heap.size 34 [.int .i64 r.source, .int .i64 y, .int .i64 r.version, .slice (some ⟨b, 0, none⟩) 4 4] := (bLn.setAt 1 (by show 1 < 4; decide) (.int .i64 y))
      have bR9 := (bRn.other (i := 1) (u := .int .i64 y) hnRL)
      have kL9 : Kept g w (w4.setCell ⟨w2.heap.size, 1, none⟩ (.int .i64 y)) := (hkn.setN hwL _)
      have cL9 : Cur w0 (w4.setCell ⟨w2.heap.size, 1, none⟩ (.int .i64 y)) g := (hc4.setN hgL _)
      have oL9 := (on.setCell (p := ⟨w2.heap.size, 1, none⟩) hLb (.int .i64 y))
      have HI := hid (show Record.ok ⟨r.source, y, r.version, r.fields⟩ from ⟨rs, hy, rv⟩)
      have HL9 := hid (show (Record.fields ⟨r.source, y, r.version, r.fields⟩).length ≤ 4 from Nat.le_of_eq HL4.out)
      obtain ⟨cL0, fL0⟩ := bLn.cells
      obtain ⟨cL, fL⟩ := bL9.cells
      obtain ⟨cR, fR⟩ := bR9.cells
      go_wp2
      have b9 : Blk (((((w4.setCell ⟨w2.heap.size, 1, none⟩ (.int .i64 y)).setCell ⟨w.heap.size, 0, none⟩ (.int .i64 r.source)).setCell ⟨w.heap.size, 1, none⟩ (.int .i64 y)).setCell ⟨w.heap.size, 2, none⟩ (.int .i64 r.version)).setCell ⟨w.heap.size, 3, none⟩ (.slice (some ⟨b, 0, none⟩) 4 4)) w.heap.size 34 [.int .i64 r.source, .int .i64 y, .int .i64 r.version, .slice (some ⟨b, 0, none⟩) 4 4] := ((((bR9.setAt 0 (by show 0 < 4; decide) (.int .i64 r.source)).setAt 1 (by show 1 < 4; decide) (.int .i64 y)).setAt 2 (by show 2 < 4; decide) (.int .i64 r.version)).setAt 3 (by show 3 < 4; decide) (.slice (some ⟨b, 0, none⟩) 4 4))
      have r0 : (((((w4.setCell ⟨w2.heap.size, 1, none⟩ (.int .i64 y)).setCell ⟨w.heap.size, 0, none⟩ (.int .i64 r.source)).setCell ⟨w.heap.size, 1, none⟩ (.int .i64 y)).setCell ⟨w.heap.size, 2, none⟩ (.int .i64 r.version)).setCell ⟨w.heap.size, 3, none⟩ (.slice (some ⟨b, 0, none⟩) 4 4)).cell? ⟨w.heap.size, 0, none⟩ = some (.int .i64 r.source) := b9.cells.1 0
      have r1 : (((((w4.setCell ⟨w2.heap.size, 1, none⟩ (.int .i64 y)).setCell ⟨w.heap.size, 0, none⟩ (.int .i64 r.source)).setCell ⟨w.heap.size, 1, none⟩ (.int .i64 y)).setCell ⟨w.heap.size, 2, none⟩ (.int .i64 r.version)).setCell ⟨w.heap.size, 3, none⟩ (.slice (some ⟨b, 0, none⟩) 4 4)).cell? ⟨w.heap.size, 1, none⟩ = some (.int .i64 y) := b9.cells.1 1
      have r2 : (((((w4.setCell ⟨w2.heap.size, 1, none⟩ (.int .i64 y)).setCell ⟨w.heap.size, 0, none⟩ (.int .i64 r.source)).setCell ⟨w.heap.size, 1, none⟩ (.int .i64 y)).setCell ⟨w.heap.size, 2, none⟩ (.int .i64 r.version)).setCell ⟨w.heap.size, 3, none⟩ (.slice (some ⟨b, 0, none⟩) 4 4)).cell? ⟨w.heap.size, 2, none⟩ = some (.int .i64 r.version) := b9.cells.1 2
      have r3 : (((((w4.setCell ⟨w2.heap.size, 1, none⟩ (.int .i64 y)).setCell ⟨w.heap.size, 0, none⟩ (.int .i64 r.source)).setCell ⟨w.heap.size, 1, none⟩ (.int .i64 y)).setCell ⟨w.heap.size, 2, none⟩ (.int .i64 r.version)).setCell ⟨w.heap.size, 3, none⟩ (.slice (some ⟨b, 0, none⟩) 4 4)).cell? ⟨w.heap.size, 3, none⟩ = some (.slice (some ⟨b, 0, none⟩) 4 4) := b9.cells.1 3
      have k9 : Kept g w (((((w4.setCell ⟨w2.heap.size, 1, none⟩ (.int .i64 y)).setCell ⟨w.heap.size, 0, none⟩ (.int .i64 r.source)).setCell ⟨w.heap.size, 1, none⟩ (.int .i64 y)).setCell ⟨w.heap.size, 2, none⟩ (.int .i64 r.version)).setCell ⟨w.heap.size, 3, none⟩ (.slice (some ⟨b, 0, none⟩) 4 4)) := ((((kL9.setN (Nat.le_refl _) _).setN (Nat.le_refl _) _).setN (Nat.le_refl _) _).setN (Nat.le_refl _) _)
      have c9 : Cur w0 (((((w4.setCell ⟨w2.heap.size, 1, none⟩ (.int .i64 y)).setCell ⟨w.heap.size, 0, none⟩ (.int .i64 r.source)).setCell ⟨w.heap.size, 1, none⟩ (.int .i64 y)).setCell ⟨w.heap.size, 2, none⟩ (.int .i64 r.version)).setCell ⟨w.heap.size, 3, none⟩ (.slice (some ⟨b, 0, none⟩) 4 4)) g := ((((cL9.setN hg _).setN hg _).setN hg _).setN hg _)
      have o9 := ((((oL9.setCell (p := ⟨w.heap.size, 0, none⟩) hRb (.int .i64 r.source)).setCell (p := ⟨w.heap.size, 1, none⟩) hRb (.int .i64 y)).setCell (p := ⟨w.heap.size, 2, none⟩) hRb (.int .i64 r.version)).setCell (p := ⟨w.heap.size, 3, none⟩) hRb (.slice (some ⟨b, 0, none⟩) 4 4))
      refine bodyPost_ret (v := .agg #[.int .i64 r.source, .int .i64 y, .int .i64 r.version, .slice (some ⟨b, 0, none⟩) 4 4]) (by simp [results, Tryz.results38, go_sem, r0, r1, r2, r3]) rfl ?_
      exact ⟨_, ⟨r.source, y, r.version, r.fields⟩, [b], rfl, ⟨_, rfl, HI.out, o9⟩, hNF, c9, k9, HL9.out⟩
    · by_cases h2 : x = 2
      · subst h2
        go_wp2_with fail
        refine (spec_l1PickInt w0 _ g _ [0, 999, 1000] (by show 1 ≤ 3 ∧ 3 ≤ 256; decide) (hc3.ext ((Ext.refl _).alloc _)) (fun w4 k4 => (lit_kept rfl (by simp [I64]) (by show 3 ≤ maxLen; decide) hg3 k4).sl)).mono ?_
        rintro e w4 ⟨y, rfl, hy, hc4, hk4⟩
        replace hk4 := (Ext.kept (g := g) ((Ext.refl _).alloc _)).trans hk4
        have hg4 := hc4.base.2.2
        have bLn := bL3.kept (Nat.ne_of_gt hgL) hk4
        have bRn := bR3.kept (Nat.ne_of_gt hg) hk4
        have on := o3.kept hgb hk4
        have hkn := hk03.trans hk4
        clear hk4 hg4 hc3 bL3 bR3 hk03 o3
        have bL9 : Blk (w4.setCell ⟨w2.heap.size, 2, none⟩ (.int .i64 y)) w2.heap.size 34 [.int .i64 r.source, .int .i64 r.key, .int .i64 y, .slice (some ⟨b, 0, none⟩) 4 4] := (bLn.setAt 2 (by show 2 < 4; decide) (.int .i64 y))
        have bR9 := (bRn.other (i := 2) (u := .int .i64 y) hnRL)
        have kL9 : Kept g w (w4.setCell ⟨w2.heap.size, 2, none⟩ (.int .i64 y)) := (hkn.setN hwL _)
        have cL9 : Cur w0 (w4.setCell ⟨w2.heap.size, 2, none⟩ (.int .i64 y)) g := (hc4.setN hgL _)
        have oL9 := (on.setCell (p := ⟨w2.heap.size, 2, none⟩) hLb (.int .i64 y))
        have HI := hid (show Record.ok ⟨r.source, r.key, y, r.fields⟩ from ⟨rs, rk, hy⟩)
        have HL9 := hid (show (Record.fields ⟨r.source, r.key, y, r.fields⟩).length ≤ 4 from Nat.le_of_eq HL4.out)
        obtain ⟨cL0, fL0⟩ := bLn.cells
        obtain ⟨cL, fL⟩ := bL9.cells
        obtain ⟨cR, fR⟩ := bR9.cells
        go_wp2
        have b9 : Blk (((((w4.setCell ⟨w2.heap.size, 2, none⟩ (.int .i64 y)).setCell ⟨w.heap.size, 0, none⟩ (.int .i64 r.source)).setCell ⟨w.heap.size, 1, none⟩ (.int .i64 r.key)).setCell ⟨w.heap.size, 2, none⟩ (.int .i64 y)).setCell ⟨w.heap.size, 3, none⟩ (.slice (some ⟨b, 0, none⟩) 4 4)) w.heap.size 34 [.int .i64 r.source, .int .i64 r.key, .int .i64 y, .slice (some ⟨b, 0, none⟩) 4 4] := ((((bR9.setAt 0 (by show 0 < 4; decide) (.int .i64 r.source)).setAt 1 (by show 1 < 4; decide) (.int .i64 r.key)).setAt 2 (by show 2 < 4; decide) (.int .i64 y)).setAt 3 (by show 3 < 4; decide) (.slice (some ⟨b, 0, none⟩) 4 4))
        have r0 : (((((w4.setCell ⟨w2.heap.size, 2, none⟩ (.int .i64 y)).setCell ⟨w.heap.size, 0, none⟩ (.int .i64 r.source)).setCell ⟨w.heap.size, 1, none⟩ (.int .i64 r.key)).setCell ⟨w.heap.size, 2, none⟩ (.int .i64 y)).setCell ⟨w.heap.size, 3, none⟩ (.slice (some ⟨b, 0, none⟩) 4 4)).cell? ⟨w.heap.size, 0, none⟩ = some (.int .i64 r.source) := b9.cells.1 0
        have r1 : (((((w4.setCell ⟨w2.heap.size, 2, none⟩ (.int .i64 y)).setCell ⟨w.heap.size, 0, none⟩ (.int .i64 r.source)).setCell ⟨w.heap.size, 1, none⟩ (.int .i64 r.key)).setCell ⟨w.heap.size, 2, none⟩ (.int .i64 y)).setCell ⟨w.heap.size, 3, none⟩ (.slice (some ⟨b, 0, none⟩) 4 4)).cell? ⟨w.heap.size, 1, none⟩ = some (.int .i64 r.key) := b9.cells.1 1
        have r2 : (((((w4.setCell ⟨w2.heap.size, 2, none⟩ (.int .i64 y)).setCell ⟨w.heap.size, 0, none⟩ (.int .i64 r.source)).setCell ⟨w.heap.size, 1, none⟩ (.int .i64 r.key)).setCell ⟨w.heap.size, 2, none⟩ (.int .i64 y)).setCell ⟨w.heap.size, 3, none⟩ (.slice (some ⟨b, 0, none⟩) 4 4)).cell? ⟨w.heap.size, 2, none⟩ = some (.int .i64 y) := b9.cells.1 2
        have r3 : (((((w4.setCell ⟨w2.heap.size, 2, none⟩ (.int .i64 y)).setCell ⟨w.heap.size, 0, none⟩ (.int .i64 r.source)).setCell ⟨w.heap.size, 1, none⟩ (.int .i64 r.key)).setCell ⟨w.heap.size, 2, none⟩ (.int .i64 y)).setCell ⟨w.heap.size, 3, none⟩ (.slice (some ⟨b, 0, none⟩) 4 4)).cell? ⟨w.heap.size, 3, none⟩ = some (.slice (some ⟨b, 0, none⟩) 4 4) := b9.cells.1 3
        have k9 : Kept g w (((((w4.setCell ⟨w2.heap.size, 2, none⟩ (.int .i64 y)).setCell ⟨w.heap.size, 0, none⟩ (.int .i64 r.source)).setCell ⟨w.heap.size, 1, none⟩ (.int .i64 r.key)).setCell ⟨w.heap.size, 2, none⟩ (.int .i64 y)).setCell ⟨w.heap.size, 3, none⟩ (.slice (some ⟨b, 0, none⟩) 4 4)) := ((((kL9.setN (Nat.le_refl _) _).setN (Nat.le_refl _) _).setN (Nat.le_refl _) _).setN (Nat.le_refl _) _)
        have c9 : Cur w0 (((((w4.setCell ⟨w2.heap.size, 2, none⟩ (.int .i64 y)).setCell ⟨w.heap.size, 0, none⟩ (.int .i64 r.source)).setCell ⟨w.heap.size, 1, none⟩ (.int .i64 r.key)).setCell ⟨w.heap.size, 2, none⟩ (.int .i64 y)).setCell ⟨w.heap.size, 3, none⟩ (.slice (some ⟨b, 0, none⟩) 4 4)) g := ((((cL9.setN hg _).setN hg _).setN hg _).setN hg _)
        have o9 := ((((oL9.setCell (p := ⟨w.heap.size, 0, none⟩) hRb (.int .i64 r.source)).setCell (p := ⟨w.heap.size, 1, none⟩) hRb (.int .i64 r.key)).setCell (p := ⟨w.heap.size, 2, none⟩) hRb (.int .i64 y)).setCell (p := ⟨w.heap.size, 3, none⟩) hRb (.slice (some ⟨b, 0, none⟩) 4 4))
        refine bodyPost_ret (v := .agg #[.int .i64 r.source, .int .i64 r.key, .int .i64 y, .slice (some ⟨b, 0, none⟩) 4 4]) (by simp [results, Tryz.results38, go_sem, r0, r1, r2, r3]) rfl ?_
        exact ⟨_, ⟨r.source, r.key, y, r.fields⟩, [b], rfl, ⟨_, rfl, HI.out, o9⟩, hNF, c9, k9, HL9.out⟩
      · by_cases h3 : x = 3
        · subst h3
          obtain ⟨f0, fs, hfs⟩ : ∃ f0 fs, r.fields = f0 :: fs := by
            cases hf : r.fields with
            | nil => rw [hf] at rl; simp at rl
            | cons a l => exact ⟨a, l, rfl⟩
          rw [hfs] at o3
          have o3t := o3.str_tail
          have bL9 : Blk (w3.setCell ⟨w2.heap.size, 3, none⟩ (.slice (some ⟨b, 1, none⟩) 3 3)) w2.heap.size 34 [.int .i64 r.source, .int .i64 r.key, .int .i64 r.version, .slice (some ⟨b, 1, none⟩) 3 3] := (bL3.setAt 3 (by show 3 < 4; decide) (.slice (some ⟨b, 1, none⟩) 3 3))
          have bR9 := (bR3.other (i := 3) (u := .slice (some ⟨b, 1, none⟩) 3 3) hnRL)
          have kL9 : Kept g w (w3.setCell ⟨w2.heap.size, 3, none⟩ (.slice (some ⟨b, 1, none⟩) 3 3)) := (hk03.setN hwL _)
          have cL9 : Cur w0 (w3.setCell ⟨w2.heap.size, 3, none⟩ (.slice (some ⟨b, 1, none⟩) 3 3)) g := (hc3.setN hgL _)
          have oL9 := (o3t.setCell (p := ⟨w2.heap.size, 3, none⟩) hLb (.slice (some ⟨b, 1, none⟩) 3 3))
          have HI := hid (show Record.ok ⟨r.source, r.key, r.version, fs⟩ from ⟨rs, rk, rv⟩)
          have HL9 := hid (show (Record.fields ⟨r.source, r.key, r.version, fs⟩).length ≤ 4 from (by have h9 := HL4.out; rw [hfs] at h9; simp only [List.length_cons] at h9; show fs.length ≤ 4; omega))
          obtain ⟨cL0, fL0⟩ := bL3.cells
          obtain ⟨cL, fL⟩ := bL9.cells
          obtain ⟨cR, fR⟩ := bR9.cells
          go_wp2
          have b9 : Blk (((((w3.setCell ⟨w2.heap.size, 3, none⟩ (.slice (some ⟨b, 1, none⟩) 3 3)).setCell ⟨w.heap.size, 0, none⟩ (.int .i64 r.source)).setCell ⟨w.heap.size, 1, none⟩ (.int .i64 r.key)).setCell ⟨w.heap.size, 2, none⟩ (.int .i64 r.version)).setCell ⟨w.heap.size, 3, none⟩ (.slice (some ⟨b, 1, none⟩) 3 3)) w.heap.size 34 [.int .i64 r.source, .int .i64 r.key, .int .i64 r.version, .slice (some ⟨b, 1, none⟩) 3 3] := ((((bR9.setAt 0 (by show 0 < 4; decide) (.int .i64 r.source)).setAt 1 (by show 1 < 4; decide) (.int .i64 r.key)).setAt 2 (by show 2 < 4; decide) (.int .i64 r.version)).setAt 3 (by show 3 < 4; decide) (.slice (some ⟨b, 1, none⟩) 3 3))
          have r0 : (((((w3.setCell ⟨w2.heap.size, 3, none⟩ (.slice (some ⟨b, 1, none⟩) 3 3)).setCell ⟨w.heap.size, 0, none⟩ (.int .i64 r.source)).setCell ⟨w.heap.size, 1, none⟩ (.int .i64 r.key)).setCell ⟨w.heap.size, 2, none⟩ (.int .i64 r.version)).setCell ⟨w.heap.size, 3, none⟩ (.slice (some ⟨b, 1, none⟩) 3 3)).cell? ⟨w.heap.size, 0, none⟩ = some (.int .i64 r.source) := b9.cells.1 0
          have r1 : (((((w3.setCell ⟨w2.heap.size, 3, none⟩ (.slice (some ⟨b, 1, none⟩) 3 3)).setCell ⟨w.heap.size, 0, none⟩ (.int .i64 r.source)).setCell ⟨w.heap.size, 1, none⟩ (.int .i64 r.key)).setCell ⟨w.heap.size, 2, none⟩ (.int .i64 r.version)).setCell ⟨w.heap.size, 3, none⟩ (.slice (some ⟨b, 1, none⟩) 3 3)).cell? ⟨w.heap.size, 1, none⟩ = some (.int .i64 r.key) := b9.cells.1 1
          have r2 : (((((w3.setCell ⟨w2.heap.size, 3, none⟩ (.slice (some ⟨b, 1, none⟩) 3 3)).setCell ⟨w.heap.size, 0, none⟩ (.int .i64 r.source)).setCell ⟨w.heap.size, 1, none⟩ (.int .i64 r.key)).setCell ⟨w.heap.size, 2, none⟩ (.int .i64 r.version)).setCell ⟨w.heap.size, 3, none⟩ (.slice (some ⟨b, 1, none⟩) 3 3)).cell? ⟨w.heap.size, 2, none⟩ = some (.int .i64 r.version) := b9.cells.1 2
          have r3 : (((((w3.setCell ⟨w2.heap.size, 3, none⟩ (.slice (some ⟨b, 1, none⟩) 3 3)).setCell ⟨w.heap.size, 0, none⟩ (.int .i64 r.source)).setCell ⟨w.heap.size, 1, none⟩ (.int .i64 r.key)).setCell ⟨w.heap.size, 2, none⟩ (.int .i64 r.version)).setCell ⟨w.heap.size, 3, none⟩ (.slice (some ⟨b, 1, none⟩) 3 3)).cell? ⟨w.heap.size, 3, none⟩ = some (.slice (some ⟨b, 1, none⟩) 3 3) := b9.cells.1 3
          have k9 : Kept g w (((((w3.setCell ⟨w2.heap.size, 3, none⟩ (.slice (some ⟨b, 1, none⟩) 3 3)).setCell ⟨w.heap.size, 0, none⟩ (.int .i64 r.source)).setCell ⟨w.heap.size, 1, none⟩ (.int .i64 r.key)).setCell ⟨w.heap.size, 2, none⟩ (.int .i64 r.version)).setCell ⟨w.heap.size, 3, none⟩ (.slice (some ⟨b, 1, none⟩) 3 3)) := ((((kL9.setN (Nat.le_refl _) _).setN (Nat.le_refl _) _).setN (Nat.le_refl _) _).setN (Nat.le_refl _) _)
          have c9 : Cur w0 (((((w3.setCell ⟨w2.heap.size, 3, none⟩ (.slice (some ⟨b, 1, none⟩) 3 3)).setCell ⟨w.heap.size, 0, none⟩ (.int .i64 r.source)).setCell ⟨w.heap.size, 1, none⟩ (.int .i64 r.key)).setCell ⟨w.heap.size, 2, none⟩ (.int .i64 r.version)).setCell ⟨w.heap.size, 3, none⟩ (.slice (some ⟨b, 1, none⟩) 3 3)) g := ((((cL9.setN hg _).setN hg _).setN hg _).setN hg _)
          have o9 := ((((oL9.setCell (p := ⟨w.heap.size, 0, none⟩) hRb (.int .i64 r.source)).setCell (p := ⟨w.heap.size, 1, none⟩) hRb (.int .i64 r.key)).setCell (p := ⟨w.heap.size, 2, none⟩) hRb (.int .i64 r.version)).setCell (p := ⟨w.heap.size, 3, none⟩) hRb (.slice (some ⟨b, 1, none⟩) 3 3))
          refine bodyPost_ret (v := .agg #[.int .i64 r.source, .int .i64 r.key, .int .i64 r.version, .slice (some ⟨b, 1, none⟩) 3 3]) (by simp [results, Tryz.results38, go_sem, r0, r1, r2, r3]) rfl ?_
          exact ⟨_, ⟨r.source, r.key, r.version, fs⟩, [b], rfl, ⟨_, rfl, HI.out, o9⟩, hNF, c9, k9, HL9.out⟩
        · by_cases h4 : x = 4
          · subst h4
            have hlt0 : 0 < r.fields.length := by omega
            obtain ⟨gb, offb, capb, eb, hgb9, hcb, hfb, hst⟩ := o3.str_store (by simp) hlt0
            injection eb with eb en9 ec9
            clear en9 ec9
            injection eb with eb
            injection eb with eb1 eb2 _
            subst eb1; subst eb2
            rw [Nat.add_zero] at hcb hfb hst
            obtain ⟨s0, hs0⟩ : ∃ s, s = r.fields[0] := ⟨_, rfl⟩
            rw [← hs0] at hcb
            clear hs0
            have hbw : w.heap.size ≤ b := by have := hNF.2 b (by simp); omega
            have hbr : ¬ w.heap.size = b := fun e => hRb (by rw [e]; simp)
            have hgb2 : g < b := by omega
            have hbl : ¬ w2.heap.size = b := fun e => hLb (by rw [e]; simp)
            have HK := hid (show ∀ W, Kept g w3 W → W.cell? ⟨w2.heap.size, 3, none⟩ = some (.slice (some ⟨b, 0, none⟩) 4 4) from fun W k => (bL3.kept (Nat.ne_of_gt hgL) k).cells.1 3)
            have HK2 := hid (show ∀ W u, Kept g w3 W → (W.setCell ⟨b, 0, none⟩ u).cell? ⟨w2.heap.size, 3, none⟩ = some (.slice (some ⟨b, 0, none⟩) 4 4) from fun W u k => ((bL3.kept (Nat.ne_of_gt hgL) k).other hbl).cells.1 3)
            have HKB := hid (show ∀ W, Kept g w3 W → W.cell? ⟨b, 0, none⟩ = some (.string s0) ∧ W.frozen? ⟨b, 0, none⟩ = false from fun W k => by
              have e := k.2 b (o3.lt b (List.mem_singleton.2 rfl)) (fun e => hgb (by rw [e]; exact List.mem_singleton.2 rfl))
              refine ⟨?_, ?_⟩
              · rw [← hcb]; unfold World.cell?; rw [e]
              · rw [← hfb]; unfold World.frozen?; rw [e])
            have hkl : ∀ W, Kept g (w3.alloc (.cells #[.string ⟨#[97, 124, 98]⟩, .string ⟨#[97, 59, 98]⟩, .string ⟨#[10]⟩, .string ⟨#[]⟩] 9)) W → Sl strR W (.slice (some ⟨w3.heap.size, 0, none⟩) 4 4) [⟨#[97, 124, 98]⟩, ⟨#[97, 59, 98]⟩, ⟨#[10]⟩, ⟨#[]⟩] := fun W k => (lits_kept (xs := [⟨#[97, 124, 98]⟩, ⟨#[97, 59, 98]⟩, ⟨#[10]⟩, ⟨#[]⟩]) rfl (by decide) (by decide) hg3 k).sl
            have HRL := hid rl
            clear hcb hfb hst rl hlt0
            go_wp2_with fail
            go_region_held3 (fun w' => w'.cell? ⟨w2.heap.size, 3, none⟩ = some (.slice (some ⟨b, 0, none⟩) 4 4)) (first | (refine HK.out _ ?_; ((repeat (first | with_reducible exact Kept.refl _ _ | with_reducible assumption | with_reducible refine Kept.drew ?_ | with_reducible refine Kept.alloc ?_ _ | with_reducible refine Kept.trans ?_ (by with_reducible assumption))); done)) | (refine HK2.out _ _ ?_; ((repeat (first | with_reducible exact Kept.refl _ _ | with_reducible assumption | with_reducible refine Kept.drew ?_ | with_reducible refine Kept.alloc ?_ _ | with_reducible refine Kept.trans ?_ (by with_reducible assumption))); done))) (first | (go_at_call 59; refine (spec_l1Pick w0 _ g _ [⟨#[97, 124, 98]⟩, ⟨#[97, 59, 98]⟩, ⟨#[10]⟩, ⟨#[]⟩] (by decide) (by decide) ?hcur (fun W k => hkl W (Kept.trans (by repeat (first | with_reducible exact Kept.refl _ _ | with_reducible assumption | with_reducible refine Kept.drew ?_ | with_reducible refine Kept.alloc ?_ _ | with_reducible refine Kept.trans ?_ (by with_reducible assumption))) k))).mono ?_; (case hcur => exact (by repeat (first | with_reducible assumption | with_reducible refine Cur.drew ?_ | with_reducible refine Cur.alloc ?_ _))); rintro e w4 ⟨y, rfl, hy, hc4, hk4⟩; have hk34 : Kept g w3 w4 := (by repeat (first | with_reducible exact Kept.refl _ _ | with_reducible assumption | with_reducible refine Kept.drew ?_ | with_reducible refine Kept.alloc ?_ _ | with_reducible refine Kept.trans ?_ (by with_reducible assumption))); obtain ⟨cb4, fb4⟩ := HKB.out w4 hk34))
            have o4 := o3.kept hgb hk34
            have bL4 := (bL3.kept (Nat.ne_of_gt hgL) hk34).other (i := 0) (u := .string y) hbl
            have bR4 := (bR3.kept (Nat.ne_of_gt hg) hk34).other (i := 0) (u := .string y) hbr
            have kW : Kept g w (w4.setCell ⟨b, 0, none⟩ (.string y)) := (hk03.trans hk34).setN hbw _
            have cW : Cur w0 (w4.setCell ⟨b, 0, none⟩ (.string y)) g := hc4.setN hgb2 _
            obtain ⟨gb, offb, capb, eb, hgb9, hcb, hfb, hst⟩ := o4.str_store (by simp) (i := 0) (by have := HRL.out; omega)
            injection eb with eb en9 ec9
            clear en9 ec9
            injection eb with eb
            injection eb with eb1 eb2 _
            subst eb1; subst eb2
            rw [Nat.add_zero] at hcb hfb hst
            have oW := hst y (Nat.le_trans hy (by decide))
            clear hcb hfb hst o4 o3 bL3 bR3 hk03 hk34 hc4 hc3 cb4 fb4
            obtain ⟨cL, fL⟩ := bL4.cells
            have HL9 := hid (show (Record.fields ⟨r.source, r.key, r.version, r.fields.set 0 y⟩).length ≤ 4 from (by show (r.fields.set 0 y).length ≤ 4; rw [List.length_set]; exact Nat.le_of_eq HL4.out))
            obtain ⟨cR, fR⟩ := bR4.cells
            go_wp2
            have b9 : Blk (((((w4.setCell ⟨b, 0, none⟩ (.string y)).setCell ⟨w.heap.size, 0, none⟩ (.int .i64 r.source)).setCell ⟨w.heap.size, 1, none⟩ (.int .i64 r.key)).setCell ⟨w.heap.size, 2, none⟩ (.int .i64 r.version)).setCell ⟨w.heap.size, 3, none⟩ (.slice (some ⟨b, 0, none⟩) 4 4)) w.heap.size 34 [.int .i64 r.source, .int .i64 r.key, .int .i64 r.version, .slice (some ⟨b, 0, none⟩) 4 4] := ((((bR4.setAt 0 (by show 0 < 4; decide) (.int .i64 r.source)).setAt 1 (by show 1 < 4; decide) (.int .i64 r.key)).setAt 2 (by show 2 < 4; decide) (.int .i64 r.version)).setAt 3 (by show 3 < 4; decide) (.slice (some ⟨b, 0, none⟩) 4 4))
            have r0 : (((((w4.setCell ⟨b, 0, none⟩ (.string y)).setCell ⟨w.heap.size, 0, none⟩ (.int .i64 r.source)).setCell ⟨w.heap.size, 1, none⟩ (.int .i64 r.key)).setCell ⟨w.heap.size, 2, none⟩ (.int .i64 r.version)).setCell ⟨w.heap.size, 3, none⟩ (.slice (some ⟨b, 0, none⟩) 4 4)).cell? ⟨w.heap.size, 0, none⟩ = some (.int .i64 r.source) := b9.cells.1 0
            have r1 : (((((w4.setCell ⟨b, 0, none⟩ (.string y)).setCell ⟨w.heap.size, 0, none⟩ (.int .i64 r.source)).setCell ⟨w.heap.size, 1, none⟩ (.int .i64 r.key)).setCell ⟨w.heap.size, 2, none⟩ (.int .i64 r.version)).setCell ⟨w.heap.size, 3, none⟩ (.slice (some ⟨b, 0, none⟩) 4 4)).cell? ⟨w.heap.size, 1, none⟩ = some (.int .i64 r.key) := b9.cells.1 1
            have r2 : (((((w4.setCell ⟨b, 0, none⟩ (.string y)).setCell ⟨w.heap.size, 0, none⟩ (.int .i64 r.source)).setCell ⟨w.heap.size, 1, none⟩ (.int .i64 r.key)).setCell ⟨w.heap.size, 2, none⟩ (.int .i64 r.version)).setCell ⟨w.heap.size, 3, none⟩ (.slice (some ⟨b, 0, none⟩) 4 4)).cell? ⟨w.heap.size, 2, none⟩ = some (.int .i64 r.version) := b9.cells.1 2
            have r3 : (((((w4.setCell ⟨b, 0, none⟩ (.string y)).setCell ⟨w.heap.size, 0, none⟩ (.int .i64 r.source)).setCell ⟨w.heap.size, 1, none⟩ (.int .i64 r.key)).setCell ⟨w.heap.size, 2, none⟩ (.int .i64 r.version)).setCell ⟨w.heap.size, 3, none⟩ (.slice (some ⟨b, 0, none⟩) 4 4)).cell? ⟨w.heap.size, 3, none⟩ = some (.slice (some ⟨b, 0, none⟩) 4 4) := b9.cells.1 3
            have k9 : Kept g w (((((w4.setCell ⟨b, 0, none⟩ (.string y)).setCell ⟨w.heap.size, 0, none⟩ (.int .i64 r.source)).setCell ⟨w.heap.size, 1, none⟩ (.int .i64 r.key)).setCell ⟨w.heap.size, 2, none⟩ (.int .i64 r.version)).setCell ⟨w.heap.size, 3, none⟩ (.slice (some ⟨b, 0, none⟩) 4 4)) := ((((kW.setN (Nat.le_refl _) _).setN (Nat.le_refl _) _).setN (Nat.le_refl _) _).setN (Nat.le_refl _) _)
            have c9 : Cur w0 (((((w4.setCell ⟨b, 0, none⟩ (.string y)).setCell ⟨w.heap.size, 0, none⟩ (.int .i64 r.source)).setCell ⟨w.heap.size, 1, none⟩ (.int .i64 r.key)).setCell ⟨w.heap.size, 2, none⟩ (.int .i64 r.version)).setCell ⟨w.heap.size, 3, none⟩ (.slice (some ⟨b, 0, none⟩) 4 4)) g := ((((cW.setN hg _).setN hg _).setN hg _).setN hg _)
            have o9 := ((((oW.setCell (p := ⟨w.heap.size, 0, none⟩) hRb (.int .i64 r.source)).setCell (p := ⟨w.heap.size, 1, none⟩) hRb (.int .i64 r.key)).setCell (p := ⟨w.heap.size, 2, none⟩) hRb (.int .i64 r.version)).setCell (p := ⟨w.heap.size, 3, none⟩) hRb (.slice (some ⟨b, 0, none⟩) 4 4))
            refine bodyPost_ret (v := .agg #[.int .i64 r.source, .int .i64 r.key, .int .i64 r.version, .slice (some ⟨b, 0, none⟩) 4 4]) (by simp [results, Tryz.results38, go_sem, r0, r1, r2, r3]) rfl ?_
            exact ⟨_, ⟨r.source, r.key, r.version, r.fields.set 0 y⟩, [b], rfl, ⟨_, rfl, ⟨rs, rk, rv⟩, o9⟩, hNF, c9, k9, HL9.out⟩
          · obtain ⟨cL, fL⟩ := bL3.cells
            have HL9 := hid (show (Record.fields r).length ≤ 4 from Nat.le_of_eq HL4.out)
            obtain ⟨cR, fR⟩ := bR3.cells
            go_wp2
            have b9 : Blk ((((w3.setCell ⟨w.heap.size, 0, none⟩ (.int .i64 r.source)).setCell ⟨w.heap.size, 1, none⟩ (.int .i64 r.key)).setCell ⟨w.heap.size, 2, none⟩ (.int .i64 r.version)).setCell ⟨w.heap.size, 3, none⟩ (.slice (some ⟨b, 0, none⟩) 4 4)) w.heap.size 34 [.int .i64 r.source, .int .i64 r.key, .int .i64 r.version, .slice (some ⟨b, 0, none⟩) 4 4] := ((((bR3.setAt 0 (by show 0 < 4; decide) (.int .i64 r.source)).setAt 1 (by show 1 < 4; decide) (.int .i64 r.key)).setAt 2 (by show 2 < 4; decide) (.int .i64 r.version)).setAt 3 (by show 3 < 4; decide) (.slice (some ⟨b, 0, none⟩) 4 4))
            have r0 : ((((w3.setCell ⟨w.heap.size, 0, none⟩ (.int .i64 r.source)).setCell ⟨w.heap.size, 1, none⟩ (.int .i64 r.key)).setCell ⟨w.heap.size, 2, none⟩ (.int .i64 r.version)).setCell ⟨w.heap.size, 3, none⟩ (.slice (some ⟨b, 0, none⟩) 4 4)).cell? ⟨w.heap.size, 0, none⟩ = some (.int .i64 r.source) := b9.cells.1 0
            have r1 : ((((w3.setCell ⟨w.heap.size, 0, none⟩ (.int .i64 r.source)).setCell ⟨w.heap.size, 1, none⟩ (.int .i64 r.key)).setCell ⟨w.heap.size, 2, none⟩ (.int .i64 r.version)).setCell ⟨w.heap.size, 3, none⟩ (.slice (some ⟨b, 0, none⟩) 4 4)).cell? ⟨w.heap.size, 1, none⟩ = some (.int .i64 r.key) := b9.cells.1 1
            have r2 : ((((w3.setCell ⟨w.heap.size, 0, none⟩ (.int .i64 r.source)).setCell ⟨w.heap.size, 1, none⟩ (.int .i64 r.key)).setCell ⟨w.heap.size, 2, none⟩ (.int .i64 r.version)).setCell ⟨w.heap.size, 3, none⟩ (.slice (some ⟨b, 0, none⟩) 4 4)).cell? ⟨w.heap.size, 2, none⟩ = some (.int .i64 r.version) := b9.cells.1 2
            have r3 : ((((w3.setCell ⟨w.heap.size, 0, none⟩ (.int .i64 r.source)).setCell ⟨w.heap.size, 1, none⟩ (.int .i64 r.key)).setCell ⟨w.heap.size, 2, none⟩ (.int .i64 r.version)).setCell ⟨w.heap.size, 3, none⟩ (.slice (some ⟨b, 0, none⟩) 4 4)).cell? ⟨w.heap.size, 3, none⟩ = some (.slice (some ⟨b, 0, none⟩) 4 4) := b9.cells.1 3
            have k9 : Kept g w ((((w3.setCell ⟨w.heap.size, 0, none⟩ (.int .i64 r.source)).setCell ⟨w.heap.size, 1, none⟩ (.int .i64 r.key)).setCell ⟨w.heap.size, 2, none⟩ (.int .i64 r.version)).setCell ⟨w.heap.size, 3, none⟩ (.slice (some ⟨b, 0, none⟩) 4 4)) := ((((hk03.setN (Nat.le_refl _) _).setN (Nat.le_refl _) _).setN (Nat.le_refl _) _).setN (Nat.le_refl _) _)
            have c9 : Cur w0 ((((w3.setCell ⟨w.heap.size, 0, none⟩ (.int .i64 r.source)).setCell ⟨w.heap.size, 1, none⟩ (.int .i64 r.key)).setCell ⟨w.heap.size, 2, none⟩ (.int .i64 r.version)).setCell ⟨w.heap.size, 3, none⟩ (.slice (some ⟨b, 0, none⟩) 4 4)) g := ((((hc3.setN hg _).setN hg _).setN hg _).setN hg _)
            have o9 := ((((o3.setCell (p := ⟨w.heap.size, 0, none⟩) hRb (.int .i64 r.source)).setCell (p := ⟨w.heap.size, 1, none⟩) hRb (.int .i64 r.key)).setCell (p := ⟨w.heap.size, 2, none⟩) hRb (.int .i64 r.version)).setCell (p := ⟨w.heap.size, 3, none⟩) hRb (.slice (some ⟨b, 0, none⟩) 4 4))
            refine bodyPost_ret (v := .agg #[.int .i64 r.source, .int .i64 r.key, .int .i64 r.version, .slice (some ⟨b, 0, none⟩) 4 4]) (by simp [results, Tryz.results38, go_sem, r0, r1, r2, r3]) rfl ?_
            exact ⟨_, r, [b], rfl, ⟨_, rfl, rok, o9⟩, hNF, c9, k9, HL9.out⟩

end Go.Proofs.YtddjefbdekinbaaGreatDoor

namespace Go.Proofs.YtddjefbdekinbaaGreatDoor
open Go.RowKit

set_option maxHeartbeats 400000 in
set_option maxRecDepth 20000 in
theorem impl_GoldenField (v : Value) (xs : List Record) (f rule : Int) (w : World) (h : Sl recordR w v xs) (_hf : I64 f) (_hr : I64 rule) (M : ML w) :
    Calls Tryz.prog 19 #[v, .int .i64 f, .int .i64 rule] w fun e w2 => e = .returned (.string (gfN xs f rule)) ∧ Ext w w2 := by
  cases hin : inB f 0 3 with
  | false =>
    have HN := hid (gfN_no (xs := xs) (f := f) (rule := rule) (by simp [hin]))
    go_enter Tryz.func19, Tryz.ntmps19
    go_wp2_with fail
    refine (impl_isFieldIndex _ _).mono ?_
    rintro e w2 ⟨rfl, rfl⟩
    rw [hin]
    clear hin
    go_wp2
    go_ret
    exact ⟨by rw [HN.out]; rfl, (by repeat (first | with_reducible exact Ext.refl _ | with_reducible assumption | with_reducible refine Ext.drew ?_ | with_reducible refine Ext.alloc ?_ _ | with_reducible refine Ext.trans ?_ (by with_reducible assumption)))⟩
  | true =>
    obtain ⟨q, rfl, hq⟩ : ∃ q : Nat, f = q ∧ q ≤ 3 := by
      have := inB_cases hin
      exact ⟨f.toNat, by omega, by omega⟩
    have HIN := hid hin
    go_enter Tryz.func19, Tryz.ntmps19
    go_wp2_with fail
    refine (impl_isFieldIndex _ _).mono ?_
    rintro e w2 ⟨rfl, rfl⟩
    rw [hin]
    clear hin
    go_wp2_with fail
    refine (impl_isSurvivorRule _ _).mono ?_
    rintro e w2 ⟨rfl, rfl⟩
    cases hru : inB rule 1 4 with
    | false =>
      have HN := hid (gfN_no (xs := xs) (f := (q : Nat)) (rule := rule) (by simp [hru]))
      clear hru
      go_wp2
      go_ret
      exact ⟨by rw [HN.out]; rfl, (by repeat (first | with_reducible exact Ext.refl _ | with_reducible assumption | with_reducible refine Ext.drew ?_ | with_reducible refine Ext.alloc ?_ _ | with_reducible refine Ext.trans ?_ (by with_reducible assumption)))⟩
    | true =>
      have HRU := hid hru
      clear hru
      go_wp2_with fail
      refine (impl_goldenRecords _ xs _ h).mono ?_
      rintro e w3 ⟨gv, rfl, hgv0, x3⟩
      have hgv := hgv0.sl (h.mono x3)
      clear hgv0
      obtain ⟨A3, cap3, rfl, hm3⟩ := hgv.form
      have HOK := hid (goldRecs_ok xs)
      have hgl := goldRecs_len xs
      have HN := hid (show gfN xs q rule = (gfF (goldRecs xs) q rule (goldRecs xs)).1 by
        by_cases hg : goodRecs xs = true
        · rw [gfN_yes hg HIN.out HRU.out]
          unfold goldRecs
          rw [if_pos hg]; rfl
        · rw [gfN_no (fun h => hg h.1)]
          unfold goldRecs
          rw [if_neg hg]; rfl)
      go_wp2
      go_loopw [7, 8, 25] (fun c m i wr => ∃ (k : Nat) (s : ByteArray) (n : Int), k ≤ (goldRecs xs).length ∧ i = .int .i64 k ∧ c = .string s ∧ m = .int .i64 n ∧ (-1 ≤ n ∧ n ≤ 1000) ∧ gfF (goldRecs xs) q rule ((goldRecs xs).take k) = (s, n) ∧ Ext w3 wr) (fun _ _ i _ => (goldRecs xs).length - (intOf i).toNat)
      case atStart => exact ⟨0, ⟨#[]⟩, -1, Nat.zero_le _, rfl, rfl, rfl, by omega, rfl, Ext.refl _⟩
      case round =>
        obtain ⟨k, s, n, hk, rfl, rfl, rfl, hn, hb, hx⟩ := hrel
        have HBB := hid hb
        clear hb
        by_cases hlt : k < (goldRecs xs).length
        · obtain ⟨b1, off, A2, cap2, rfl, hok, hsl, hd0, hd1, hd2, hd3⟩ := hgv.record hlt
          have hc0 := hx.cell hd0
          have hc1 := hx.cell hd1
          have hc2 := hx.cell hd2
          have hc3 := hx.cell hd3
          clear hd0 hd1 hd2 hd3
          have hor := HOK.out _ (List.getElem_mem hlt)
          have hq4 : q < (goldRecs xs)[k].fields.length := by have := okRec_len hor; omega
          obtain ⟨b2, off2, e2, hf1, hf2⟩ := hsl.str hq4
          subst e2
          have hfe := hid (fldAt_eq hq4)
          have hsz : (goldRecs xs)[k].fields[q].size ≤ 40 := okRec_F hor _ (List.getElem_mem hq4)
          have hX : Ext wr (wr.alloc (.cells #[.int .i64 (goldRecs xs)[k].source, .int .i64 (goldRecs xs)[k].key, .int .i64 (goldRecs xs)[k].version, .slice (some ⟨b2, off2, none⟩) (goldRecs xs)[k].fields.length cap2] 34)) := (Ext.refl _).alloc _
          have hf3 := (hx.trans hX).cell hf2
          have hM := M.mono (x3.trans (hx.trans hX))
          have HX := hid (hx.trans hX)
          have hstep := hid (gfF_step (goldRecs xs) q rule (goldRecs xs) k hlt)
          have HR := hid (show RecAt w3 _ (goldRecs xs)[k] from ⟨_, rfl, hok, hsl⟩)
          have HOR := hid hor
          clear hf2 hX hok hsl hor
          go_wp2_with fail
          refine (impl_Normalize _ _ (by omega) hM).mono ?_
          rintro e w4 ⟨rfl, x4⟩
          rw [← hfe.out]
          by_cases he : normS (fldAt q (goldRecs xs)[k]) = ⟨#[]⟩
          · obtain ⟨f1, f5⟩ := emp_yes he
            have hnew := hid (show gfF (goldRecs xs) q rule ((goldRecs xs).take (k + 1)) = (s, n) by rw [hstep.out, HBB.out, gf_skip he])
            clear he
            go_wp2
            go_roundw
            case rel => exact ⟨k + 1, _, _, by omega, by go_num, rfl, rfl, hn, hnew.out, HX.out.trans x4⟩
            case measure => simp [intOf]; omega
          · obtain ⟨f1, f5⟩ := emp_no he
            have HE := hid he
            have c0 := x4.box.1 0
            have c1 := x4.box.1 1
            have c2 := x4.box.1 2
            have c3 := x4.box.1 3
            simp only [List.getElem?_toArray, List.getElem?_cons_zero, List.getElem?_cons_succ] at c0 c1 c2 c3
            clear he
            go_wp2_with fail
            refine (impl_rank _ _ (goldRecs xs) (goldRecs xs)[k] q rule _ (hgv.mono (HX.out.trans x4)) (HR.out.mono (HX.out.trans x4)) HOK.out hgl HOR.out hq HRU.out (hM.mono x4)).mono ?_
            rintro e w5 ⟨rfl, x5⟩
            have hrb := rkN_64 (goldRecs xs) q rule (goldRecs xs)[k] HOR.out hq hgl
            obtain ⟨p, hp⟩ : ∃ p, rkN (goldRecs xs) q rule (goldRecs xs)[k] = p := ⟨_, rfl⟩
            rw [hp] at hrb ⊢
            have HP := hid hp
            clear hp
            by_cases hgt : n < p
            · have hnew := hid (show gfF (goldRecs xs) q rule ((goldRecs xs).take (k + 1)) = (fldAt q (goldRecs xs)[k], p) by rw [hstep.out, HBB.out, gf_more HE.out (by rw [HP.out]; exact hgt), HP.out])
              go_wp2
              go_roundw
              case rel => exact ⟨k + 1, _, _, by omega, by go_num, rfl, rfl, by omega, hnew.out, HX.out.trans (x4.trans x5)⟩
              case measure => simp [intOf]; omega
            · by_cases heq : p = n
              · cases hbl : Op.bytesLess (fldAt q (goldRecs xs)[k]).toList s.toList with
                | true =>
                  have hnew := hid (show gfF (goldRecs xs) q rule ((goldRecs xs).take (k + 1)) = (fldAt q (goldRecs xs)[k], p) by rw [hstep.out, HBB.out, gf_less HE.out (by rw [HP.out]; exact heq) hbl, HP.out])
                  have h9 : (p == n) = true := by simpa using heq
                  have HQ := hid heq
                  clear heq
                  go_wp2
                  go_roundw
                  case rel => exact ⟨k + 1, _, _, by omega, by go_num, rfl, rfl, by omega, hnew.out, HX.out.trans (x4.trans x5)⟩
                  case measure => simp [intOf]; omega
                | false =>
                  have hnew := hid (show gfF (goldRecs xs) q rule ((goldRecs xs).take (k + 1)) = (s, n) by rw [hstep.out, HBB.out, gf_keep (by rw [HP.out]; exact hgt) (by rw [hbl]; simp)])
                  have h9 : (p == n) = true := by simpa using heq
                  have HQ := hid heq
                  clear heq
                  go_wp2
                  go_roundw
                  case rel => exact ⟨k + 1, _, _, by omega, by go_num, rfl, rfl, hn, hnew.out, HX.out.trans (x4.trans x5)⟩
                  case measure => simp [intOf]; omega
              · have hnew := hid (show gfF (goldRecs xs) q rule ((goldRecs xs).take (k + 1)) = (s, n) by rw [hstep.out, HBB.out, gf_keep (by rw [HP.out]; exact hgt) (by rw [HP.out]; simp [heq])])
                have h9 : (p == n) = false := by simpa using heq
                go_wp2
                go_roundw
                case rel => exact ⟨k + 1, _, _, by omega, by go_num, rfl, rfl, hn, hnew.out, HX.out.trans (x4.trans x5)⟩
                case measure => simp [intOf]; omega
        · rw [List.take_of_length_le (by omega)] at HBB
          have HF := hid (show gfN xs q rule = s by rw [HN.out, HBB.out])
          go_wp2
          go_ret
          exact ⟨by rw [HF.out]; rfl, x3.trans hx⟩

set_option maxHeartbeats 400000 in
set_option maxRecDepth 20000 in
theorem spec_GoldenField (v : Value) (xs : List Record) (f rule : Int) (w : World) (h : Sl recordR w v xs) (_hf : I64 f) (_hr : I64 rule) :
    Calls Tryz.prog 21 #[v, .int .i64 f, .int .i64 rule] w fun e w2 => e = .returned (.string (gfN xs f rule)) ∧ Ext w w2 := by
  obtain ⟨A, cap, rfl, hm⟩ := h.form
  go_enter Tryz.func21, Tryz.ntmps21
  go_wp2_with fail
  refine (spec_l13Good _ xs _ h).mono ?_
  rintro e w3 ⟨rfl, x3⟩
  cases hg : goodRecs xs with
  | false =>
    have HN := hid (gfN_no (xs := xs) (f := f) (rule := rule) (by simp [hg]))
    clear hg
    go_wp2
    go_ret
    exact ⟨by rw [HN.out]; rfl, (by repeat (first | with_reducible exact Ext.refl _ | with_reducible assumption | with_reducible refine Ext.drew ?_ | with_reducible refine Ext.alloc ?_ _ | with_reducible refine Ext.trans ?_ (by with_reducible assumption)))⟩
  | true =>
    have HG := hid hg
    have hl := goodRecs_len hg
    clear hg
    go_wp2_with fail
    refine (spec_l1In _ _ _ _).mono ?_
    rintro e w4 ⟨rfl, rfl⟩
    cases hin : inB f 0 3 with
    | false =>
      have HN := hid (gfN_no (xs := xs) (f := f) (rule := rule) (by simp [hin]))
      clear hin
      go_wp2
      go_ret
      exact ⟨by rw [HN.out]; rfl, (by repeat (first | with_reducible exact Ext.refl _ | with_reducible assumption | with_reducible refine Ext.drew ?_ | with_reducible refine Ext.alloc ?_ _ | with_reducible refine Ext.trans ?_ (by with_reducible assumption)))⟩
    | true =>
      obtain ⟨q, rfl, hq⟩ : ∃ q : Nat, f = q ∧ q ≤ 3 := by
        have := inB_cases hin
        exact ⟨f.toNat, by omega, by omega⟩
      have HIN := hid hin
      clear hin
      go_wp2_with fail
      refine (spec_l1In _ _ _ _).mono ?_
      rintro e w4 ⟨rfl, rfl⟩
      cases hru : inB rule 1 4 with
      | false =>
        have HN := hid (gfN_no (xs := xs) (f := (q : Nat)) (rule := rule) (by simp [hru]))
        clear hru
        go_wp2
        go_ret
        exact ⟨by rw [HN.out]; rfl, (by repeat (first | with_reducible exact Ext.refl _ | with_reducible assumption | with_reducible refine Ext.drew ?_ | with_reducible refine Ext.alloc ?_ _ | with_reducible refine Ext.trans ?_ (by with_reducible assumption)))⟩
      | true =>
        have HRU := hid hru
        clear hru
        have HN := hid (gfN_yes HG.out HIN.out HRU.out)
        go_wp2
        go_loopw [7, 8, 9] (fun c m i wr => ∃ (k : Nat) (s : ByteArray) (n : Int), k ≤ xs.length ∧ i = .int .i64 k ∧ c = .string s ∧ m = .int .i64 n ∧ (-1 ≤ n ∧ n ≤ 1000) ∧ gfF xs q rule (xs.take k) = (s, n) ∧ Ext w wr) (fun _ _ i _ => xs.length - (intOf i).toNat)
        case atStart => exact ⟨0, ⟨#[]⟩, -1, Nat.zero_le _, rfl, rfl, rfl, by omega, rfl, x3⟩
        case round =>
          obtain ⟨k, s, n, hk, rfl, rfl, rfl, hn, hb, hx⟩ := hrel
          have HBB := hid hb
          clear hb
          by_cases hlt : k < xs.length
          · obtain ⟨b1, off, A2, cap2, rfl, hok, hsl, hd0, hd1, hd2, hd3⟩ := h.record hlt
            have hc3 := hx.cell hd3
            clear hd0 hd1 hd2 hd3
            have hor := goodRecs_at HG.out (List.getElem_mem hlt)
            have hq4 : q < xs[k].fields.length := by have := okRec_len hor; omega
            obtain ⟨b2, off2, e2, hf1, hf2⟩ := hsl.str hq4
            subst e2
            have hfe := hid (fldAt_eq hq4)
            have hsz : xs[k].fields[q].size ≤ 40 := okRec_F hor _ (List.getElem_mem hq4)
            have hf3 := hx.cell hf2
            have hstep := hid (gfF_step xs q rule xs k hlt)
            have HOR := hid hor
            clear hf2 hok hsl hor
            go_wp2_with fail
            refine (spec_l27Rank _ xs k q rule _ (h.mono hx) hlt HG.out hq HRU.out).mono ?_
            rintro e w5 ⟨rfl, x5⟩
            have hrb := rkN_64 xs q rule xs[k] HOR.out hq hl
            obtain ⟨p, hp⟩ : ∃ p, rkN xs q rule xs[k] = p := ⟨_, rfl⟩
            rw [hp] at hrb ⊢
            have HP := hid hp
            clear hp
            go_wp2_with fail
            refine (spec_Normalize _ _ (by omega)).mono ?_
            rintro e w6 ⟨rfl, x6⟩
            rw [← hfe.out]
            by_cases he : normS (fldAt q xs[k]) = ⟨#[]⟩
            · obtain ⟨f1, f5⟩ := emp_yes he
              have hnew := hid (show gfF xs q rule (xs.take (k + 1)) = (s, n) by rw [hstep.out, HBB.out, gf_skip he])
              clear he
              go_wp2
              go_roundw
              case rel => exact ⟨k + 1, _, _, by omega, by go_num, rfl, rfl, hn, hnew.out, hx.trans (x5.trans x6)⟩
              case measure => simp [intOf]; omega
            · obtain ⟨f1, f5⟩ := emp_no he
              have HE := hid he
              clear he
              by_cases hgt : n < p
              · have hnew := hid (show gfF xs q rule (xs.take (k + 1)) = (fldAt q xs[k], p) by rw [hstep.out, HBB.out, gf_more HE.out (by rw [HP.out]; exact hgt), HP.out])
                go_wp2
                go_roundw
                case rel => exact ⟨k + 1, _, _, by omega, by go_num, rfl, rfl, by omega, hnew.out, hx.trans (x5.trans x6)⟩
                case measure => simp [intOf]; omega
              · by_cases heq : p = n
                · cases hbl : Op.bytesLess (fldAt q xs[k]).toList s.toList with
                  | true =>
                    have hnew := hid (show gfF xs q rule (xs.take (k + 1)) = (fldAt q xs[k], p) by rw [hstep.out, HBB.out, gf_less HE.out (by rw [HP.out]; exact heq) hbl, HP.out])
                    have h9 : (p == n) = true := by simpa using heq
                    have HQ := hid heq
                    clear heq
                    go_wp2
                    go_roundw
                    case rel => exact ⟨k + 1, _, _, by omega, by go_num, rfl, rfl, by omega, hnew.out, hx.trans (x5.trans x6)⟩
                    case measure => simp [intOf]; omega
                  | false =>
                    have hnew := hid (show gfF xs q rule (xs.take (k + 1)) = (s, n) by rw [hstep.out, HBB.out, gf_keep (by rw [HP.out]; exact hgt) (by rw [hbl]; simp)])
                    have h9 : (p == n) = true := by simpa using heq
                    have HQ := hid heq
                    clear heq
                    go_wp2
                    go_roundw
                    case rel => exact ⟨k + 1, _, _, by omega, by go_num, rfl, rfl, hn, hnew.out, hx.trans (x5.trans x6)⟩
                    case measure => simp [intOf]; omega
                · have hnew := hid (show gfF xs q rule (xs.take (k + 1)) = (s, n) by rw [hstep.out, HBB.out, gf_keep (by rw [HP.out]; exact hgt) (by rw [HP.out]; simp [heq])])
                  have h9 : (p == n) = false := by simpa using heq
                  go_wp2
                  go_roundw
                  case rel => exact ⟨k + 1, _, _, by omega, by go_num, rfl, rfl, hn, hnew.out, hx.trans (x5.trans x6)⟩
                  case measure => simp [intOf]; omega
          · rw [List.take_of_length_le (by omega)] at HBB
            have HF := hid (show gfN xs q rule = s by rw [HN.out, show ((q : Nat) : Int).toNat = q from rfl, HBB.out])
            go_wp2
            go_ret
            exact ⟨by rw [HF.out]; rfl, hx⟩
end Go.Proofs.YtddjefbdekinbaaGreatDoor

namespace Go.Proofs.YtddjefbdekinbaaGreatDoor
open Go.RowKit

theorem Bld.keepR {α : Type} {R : RepO α} {w w2 : World} {base : Nat} {e : TypeId} {v : Value} {xs : List α} {F : List Nat} (h : Bld R w base e v xs F) (hF : ∀ b ∈ F, w2.heap[b]? = w.heap[b]?) (hv : ∀ g, v.ownBlock = some g → w2.heap[g]? = w.heap[g]?) : Bld R w2 base e v xs F := by
  obtain ⟨cs, h1, h2, h3, h4, h5⟩ := h
  refine ⟨cs, ⟨h1.1, ?_⟩, h2.keep hF, h3, h4, h5⟩
  rcases h1.2 with h | ⟨g', cap, cur, rfl, hb, hh, hr⟩
  · exact .inl h
  · exact .inr ⟨g', cap, cur, rfl, hb, (hv g' rfl).trans hh, hr⟩

set_option maxHeartbeats 400000 in
set_option maxRecDepth 20000 in
theorem one_rec5 (a b c : Int) (A : Option Addr) (n k : Nat) : ∀ u ∈ (#[Value.int .i64 a, .int .i64 b, .int .i64 c, .slice A n k] : Array Value).toList, u.oneCell' = true := by simp [Value.oneCell']
theorem four_snoc {xs : List Record} {r : Record} (h : ∀ x ∈ xs, x.fields.length = 4) (k : r.fields.length = 4) : ∀ x ∈ xs ++ [r], x.fields.length = 4 := fun x hx => by
  rcases List.mem_append.1 hx with hx | hx
  · exact h x hx
  · rw [List.mem_singleton] at hx; rw [hx]; exact k

set_option maxHeartbeats 2000000 in
set_option maxRecDepth 20000 in
theorem spec_l13Records (w0 w : World) (g : Nat) (hc : Cur w0 w g) :
    Calls Tryz.prog 16 #[.pointer (some ⟨g, 0, none⟩)] w fun e w2 => ∃ v2 xs F, e = .returned v2 ∧ Bld recordO w2 w.heap.size 34 v2 xs F ∧ xs.length ≤ 7 ∧ Cur w0 w2 g ∧ Kept g w w2 := by
  have hg := hc.base.2.2
  have h0w := hc.base.1.size
  have xa : Ext w (w.alloc (.cells #[] 34)) := (Ext.refl w).alloc _
  have hB0 : Bld recordO (w.alloc (.cells #[] 34)) w.heap.size 34 (.slice (some ⟨w.heap.size, 0, none⟩) 0 0) [] [] := Bld.lit w (Nat.le_refl _) _
  go_enter Tryz.func16, Tryz.ntmps16
  go_wp2_with fail
  refine (spec_l1Below w0 _ g 7 (by decide) (hc.ext xa)).mono ?_
  rintro e w2 ⟨x, rfl, hx, hc2, hk2⟩
  obtain ⟨n0, rfl⟩ : ∃ n : Nat, x = n := ⟨x.toNat, by omega⟩
  have hB2 := hB0.kept hg hk2
  have k2 := (xa.kept (g := g)).trans hk2
  clear hc hB0 hk2 xa
  go_wp2
  go_loopw [3, 4] (fun l i wr => ∃ (xs : List Record) (F : List Nat) (n : Nat), i = .int .i64 n ∧ xs.length + n ≤ 6 ∧ (∀ x ∈ xs, x.fields.length = 4) ∧ Bld recordO wr w.heap.size 34 l xs F ∧ Cur w0 wr g ∧ Kept g w wr) (fun _ i _ => (intOf i).toNat)
  case atStart => exact ⟨[], [], n0, rfl, by simp; omega, fun _ h => (by cases h), hB2, hc2, k2⟩
  case round =>
    clear hB2 hc2 k2 hx
    obtain ⟨xs, F, n, rfl, hn, h4, hB, hc, hk⟩ := hrel
    obtain ⟨A, cap, el, _⟩ := hB.sl.form
    subst el
    by_cases hn0 : 0 < n
    · go_wp2_with fail
      refine (spec_l8Record w0 _ g hc).mono ?_
      rintro e w3 ⟨b, r, rfl, rok, ro, rl, rb, hc3, hk3⟩
      have HG := hid (hB.fresh (G := [b]) ⟨by simp, fun q hq => by rw [List.mem_singleton] at hq; omega⟩ hk.1)
      have HX4 := hid h4
      have HR4 := hid rl
      have HOK := hid rok
      have hbl := ro.lt b (List.mem_singleton.2 rfl)
      have hbw : w.heap.size ≤ b := Nat.le_trans hk.1 rb
      have xb : Ext w3 (w3.alloc (.cells #[.int .i64 r.source, .int .i64 r.key, .int .i64 r.version, .slice (some ⟨b, 0, none⟩) 4 4] 34)) := (Ext.refl w3).alloc _
      have hBx := (hB.kept hg hk3).ext xb
      have rox := ro.ext xb
      have bx := Blk.new w3 34 #[.int .i64 r.source, .int .i64 r.key, .int .i64 r.version, .slice (some ⟨b, 0, none⟩) 4 4]
      have hcx := hc3.ext xb
      have hkx := (hk.trans hk3).trans (xb.kept (g := g))
      have hgx := hc3.base.2.2
      have hbx : ¬ w3.heap.size = b := by omega
      clear hB hc hk ro hc3 hk3 h4 rl rok xb rb
      by_cases hx0 : 0 < xs.length
      · have hx0' : (0 : Int) < (xs.length : Int) := by omega
        go_wp2_with fail
        refine (spec_l1Once w0 _ g 2 (by decide) hcx).mono ?_
        rintro e w4 ⟨t, rfl, hc4, hk4⟩
        have hB4 := hBx.kept hg hk4
        have ro4 := rox.kept (fun hm => by rw [List.mem_singleton] at hm; omega) hk4
        have b4 := bx.kept (Nat.ne_of_gt hgx) hk4
        have hk04 := hkx.trans hk4
        have hb4 := ro4.lt b (List.mem_singleton.2 rfl)
        clear hBx rox bx hcx hkx hk4
        cases t with
        | false =>
          have HBW := hid hB4
          have HOW := hid ro4
          have HCW := hid hc4
          have HKW := hid hk04
          have hsW : w.heap.size ≤ w4.heap.size := HKW.out.1
          obtain ⟨cL, fL⟩ := b4.cells
          clear hB4 ro4 hc4 hk04 b4
          go_wp2_with (at_builtin; go_loud (refine wpList_app1g elemRec (by decide) rfl _ _ rfl HBW.out rfl _ 1 rfl (by first | rfl | simp) (one_rec5 _ _ _ _ _ _) (y := (⟨r.source, r.key, r.version, r.fields⟩ : Record)) ⟨_, rfl, HOK.out, HOW.out⟩ HG.out (by omega) (by decide) hsW ?_); intro v9 w9 hB9 hE9 hs9 hk9)
          have HB9 := hid hB9
          have HC9 := hid (HCW.out.keep (hE9 w0 h0w HCW.out.base.1) (hk9 g hg))
          have HK9 := hid (show Kept g w w9 from ⟨Nat.le_trans HKW.out.1 (by omega), fun q hq hne => (hk9 q hq).trans (HKW.out.2 q hq hne)⟩)
          clear hB9 hE9 hs9 hk9 cL fL
          go_roundw
          case rel => exact ⟨xs ++ [(⟨r.source, r.key, r.version, r.fields⟩ : Record)], F ++ [b], n - 1, (by (have e9 : ((n - 1 : Nat) : Int) = (n : Int) - 1 := by omega); rw [e9]), by simp; omega, four_snoc HX4.out (by first | exact HR4.out | (rw [List.length_set]; exact HR4.out)), HB9.out, HC9.out, HK9.out⟩
          case measure => simp [intOf]; omega
        | true =>
          obtain ⟨bl, ol, _, _, eA, _⟩ := hB4.sl.record hx0
          subst eA
          have HBL := hid (show ∀ W, Kept g w4 W → Sl recordR W (.slice (some ⟨bl, ol, none⟩) xs.length cap) xs from fun W k => (hB4.kept hg k).sl)
          have HK := hid (show ∀ W, Kept g w4 W → W.cell? ⟨w3.heap.size, 3, none⟩ = some (.slice (some ⟨b, 0, none⟩) 4 4) from fun W k => (b4.kept (Nat.ne_of_gt hgx) k).cells.1 3)
          have HK2 := hid (show ∀ W u, Kept g w4 W → (W.setCell ⟨b, 0, none⟩ u).cell? ⟨w3.heap.size, 3, none⟩ = some (.slice (some ⟨b, 0, none⟩) 4 4) from fun W u k => ((b4.kept (Nat.ne_of_gt hgx) k).other hbx).cells.1 3)
          have hlt0 : 0 < r.fields.length := by have := HR4.out; omega
          obtain ⟨gb, offb, capb, eb, _, hcb, hfb, _⟩ := ro4.str_store (by simp) hlt0
          injection eb with eb en9 ec9
          clear en9 ec9
          injection eb with eb
          injection eb with eb1 eb2 _
          subst eb1; subst eb2
          rw [Nat.add_zero] at hcb hfb
          obtain ⟨s0, hs0⟩ : ∃ s, s = r.fields[0] := ⟨_, rfl⟩
          rw [← hs0] at hcb
          clear hs0
          have HKB := hid (show ∀ W, Kept g w4 W → W.cell? ⟨b, 0, none⟩ = some (.string s0) ∧ W.frozen? ⟨b, 0, none⟩ = false from fun W k => by
            have e := k.2 b hb4 (by omega)
            refine ⟨?_, ?_⟩
            · rw [← hcb]; unfold World.cell?; rw [e]
            · rw [← hfb]; unfold World.frozen?; rw [e])
          have hxl : (1 : Int) ≤ (xs.length : Int) ∧ (xs.length : Int) ≤ 256 := by omega
          have cw4 := HK.out w4 (Kept.refl _ _)
          clear hcb hfb hlt0
          go_wp2_with fail
          refine wp_region_J 13 (fun w' => w'.cell? ⟨w3.heap.size, 3, none⟩ = some (.slice (some ⟨b, 0, none⟩) 4 4)) (by kernel_rfl) ?_
          refine wpAnyJ_take (i := 0) (v := ?v0a) (by simp only [List.getElem?_toArray, List.getElem?_cons_succ, List.getElem?_cons_zero, Option.some.injEq]; exact rfl) (by kernel_rfl) (by kernel_rfl) (by kernel_rfl) (by kernel_rfl) (by exact fun _ _ _ h => h) (Or.inl ⟨by rfl, fun w9 hS9 => ?hy0a⟩) (by exact cw4) ?rest0a
          case hy0a => (try dsimp only at hS9); go_simp <;> with_reducible rfl
          try simp only [Act.put, List.setIfInBounds_toArray, List.set_cons_zero, List.set_cons_succ]
          refine wpAnyJ_take (i := 1) (v := ?v1a) (by simp only [List.getElem?_toArray, List.getElem?_cons_succ, List.getElem?_cons_zero, Option.some.injEq]; exact rfl) (by kernel_rfl) (by kernel_rfl) (by kernel_rfl) (by kernel_rfl) (by exact fun _ _ _ h => h) (Or.inl ⟨by rfl, fun w9 hS9 => ?hy1a⟩) (by exact cw4) ?rest1a
          case hy1a => (try dsimp only at hS9); go_simp <;> with_reducible rfl
          try simp only [Act.put, List.setIfInBounds_toArray, List.set_cons_zero, List.set_cons_succ]
          refine wpAnyJ_take (i := 2) (v := ?v2a) (by simp only [List.getElem?_toArray, List.getElem?_cons_succ, List.getElem?_cons_zero, Option.some.injEq]; exact rfl) (by kernel_rfl) (by kernel_rfl) (by kernel_rfl) (by kernel_rfl) (by exact fun _ _ _ h => h) (Or.inl ⟨by rfl, fun w9 hS9 => ?hy2a⟩) (by exact cw4) ?rest2a
          case hy2a => (try dsimp only at hS9); go_simp <;> with_reducible rfl
          try simp only [Act.put, List.setIfInBounds_toArray, List.set_cons_zero, List.set_cons_succ]
          refine wpAnyJ_take (i := 3) (v := ?v3a) (by simp only [List.getElem?_toArray, List.getElem?_cons_succ, List.getElem?_cons_zero, Option.some.injEq]; exact rfl) (by kernel_rfl) (by kernel_rfl) (by kernel_rfl) (by kernel_rfl) (by exact fun _ _ _ h => h) (Or.inl ⟨by rfl, fun w9 hS9 => ?hy3a⟩) (by exact cw4) ?rest3a
          case hy3a => (try dsimp only at hS9); go_simp <;> with_reducible rfl
          try simp only [Act.put, List.setIfInBounds_toArray, List.set_cons_zero, List.set_cons_succ]
          refine wpAnyJ_take (i := 4) (v := ?v4a) (by simp only [List.getElem?_toArray, List.getElem?_cons_succ, List.getElem?_cons_zero, Option.some.injEq]; exact rfl) (by kernel_rfl) (by kernel_rfl) (by kernel_rfl) (by kernel_rfl) (by exact fun _ _ _ h => h) (Or.inl ⟨by rfl, fun w9 hS9 => ?hy4a⟩) (by exact cw4) ?rest4a
          case hy4a => (try dsimp only at hS9); go_simp <;> with_reducible rfl
          try simp only [Act.put, List.setIfInBounds_toArray, List.set_cons_zero, List.set_cons_succ]
          refine wpAnyJ_take (i := 5) (v := ?v5a) (by simp only [List.getElem?_toArray, List.getElem?_cons_succ, List.getElem?_cons_zero, Option.some.injEq]; exact rfl) (by kernel_rfl) (by kernel_rfl) (by kernel_rfl) (by kernel_rfl) (by exact fun _ _ _ h => h) (Or.inl ⟨by rfl, fun w9 hS9 => ?hy5a⟩) (by exact cw4) ?rest5a
          case hy5a => (try dsimp only at hS9); go_simp <;> with_reducible rfl
          try simp only [Act.put, List.setIfInBounds_toArray, List.set_cons_zero, List.set_cons_succ]
          refine wpAnyJ_one (i := 6) (by simp only [List.getElem?_toArray, List.getElem?_cons_succ, List.getElem?_cons_zero, Option.some.injEq]; exact rfl) (by kernel_rfl) (fun K hK => ?_)
          go_simp
          refine (spec_l1Below w0 _ g xs.length hxl ?hcur).mono ?_
          case hcur => exact (by repeat (first | with_reducible assumption | with_reducible refine Cur.drew ?_ | with_reducible refine Cur.alloc ?_ _))
          rintro e w5 ⟨jj, rfl, hjj, hc5, hk5⟩
          have hk45 : Kept g w4 w5 := (by repeat (first | with_reducible exact Kept.refl _ _ | with_reducible assumption | with_reducible refine Kept.drew ?_ | with_reducible refine Kept.alloc ?_ _ | with_reducible refine Kept.trans ?_ (by with_reducible assumption)))
          obtain ⟨cb5, fb5⟩ := HKB.out w5 hk45
          obtain ⟨j, hj⟩ : ∃ j : Nat, jj = j := ⟨jj.toNat, by omega⟩
          subst hj
          have hjl : j < xs.length := by omega
          obtain ⟨bl2, ol2, A5, c5, eA, _, hs5, _, _, _, q3⟩ := (HBL.out w5 hk45).record hjl
          cases eA
          have e4 := HX4.out xs[j] (List.getElem_mem hjl)
          obtain ⟨bs, os, eS, hIs, qs⟩ := hs5.str (i := 0) (by omega)
          subst eS
          rw [e4] at q3
          obtain ⟨y, hy⟩ : ∃ y, y = xs[j].fields[0]'(by omega) := ⟨_, rfl⟩
          rw [← hy] at qs hIs
          rw [Nat.add_zero] at qs
          have cw5 := HK.out w5 hk45
          clear hs5 hy e4
          refine hK _ _ cw5 ?_
          try simp only [Act.put, List.setIfInBounds_toArray, List.set_cons_zero, List.set_cons_succ]
          clear hK K
          refine wpAnyJ_one (i := 7) (by simp only [List.getElem?_toArray, List.getElem?_cons_succ, List.getElem?_cons_zero, Option.some.injEq]; exact rfl) (by kernel_rfl) (fun K hK => ?_)
          go_simp
          refine hK _ _ cw5 ?_
          try simp only [Act.put, List.setIfInBounds_toArray, List.set_cons_zero, List.set_cons_succ]
          clear hK K
          refine wpAnyJ_one (i := 8) (by simp only [List.getElem?_toArray, List.getElem?_cons_succ, List.getElem?_cons_zero, Option.some.injEq]; exact rfl) (by kernel_rfl) (fun K hK => ?_)
          go_simp
          refine hK _ _ cw5 ?_
          try simp only [Act.put, List.setIfInBounds_toArray, List.set_cons_zero, List.set_cons_succ]
          clear hK K
          refine wpAnyJ_one (i := 9) (by simp only [List.getElem?_toArray, List.getElem?_cons_succ, List.getElem?_cons_zero, Option.some.injEq]; exact rfl) (by kernel_rfl) (fun K hK => ?_)
          go_simp
          refine hK _ _ cw5 ?_
          try simp only [Act.put, List.setIfInBounds_toArray, List.set_cons_zero, List.set_cons_succ]
          clear hK K
          refine wpAnyJ_one (i := 10) (by simp only [List.getElem?_toArray, List.getElem?_cons_succ, List.getElem?_cons_zero, Option.some.injEq]; exact rfl) (by kernel_rfl) (fun K hK => ?_)
          go_simp
          refine hK _ _ cw5 ?_
          try simp only [Act.put, List.setIfInBounds_toArray, List.set_cons_zero, List.set_cons_succ]
          clear hK K
          refine wpAnyJ_one (i := 11) (by simp only [List.getElem?_toArray, List.getElem?_cons_succ, List.getElem?_cons_zero, Option.some.injEq]; exact rfl) (by kernel_rfl) (fun K hK => ?_)
          go_simp
          refine hK _ _ cw5 ?_
          try simp only [Act.put, List.setIfInBounds_toArray, List.set_cons_zero, List.set_cons_succ]
          clear hK K
          refine wpAnyJ_one (i := 12) (by simp only [List.getElem?_toArray, List.getElem?_cons_succ, List.getElem?_cons_zero, Option.some.injEq]; exact rfl) (by kernel_rfl) (fun K hK => ?_)
          go_simp
          refine hK _ _ cw5 ?_
          try simp only [Act.put, List.setIfInBounds_toArray, List.set_cons_zero, List.set_cons_succ]
          clear hK K
          refine wpAnyJ_last (by simp only [List.getElem?_toArray, List.getElem?_cons_succ, List.getElem?_cons_zero, Option.some.injEq]; exact rfl) (by kernel_rfl) (by kernel_rfl) (fun K hK => ?_)
          go_simp
          refine hK _ _ ?_
          clear hK K
          have ro5 := ro4.kept (fun hm => by rw [List.mem_singleton] at hm; omega) hk45
          have b5 := (b4.kept (Nat.ne_of_gt hgx) hk45).other (i := 0) (u := .string y) hbx
          have kW : Kept g w (w5.setCell ⟨b, 0, none⟩ (.string y)) := (hk04.trans hk45).setN hbw _
          have cW : Cur w0 (w5.setCell ⟨b, 0, none⟩ (.string y)) g := hc5.setN (by show g < b; omega) _
          obtain ⟨gb, offb, capb, eb, _, hcb, hfb, hst⟩ := ro5.str_store (by simp) (i := 0) (by have := HR4.out; omega)
          injection eb with eb en9 ec9
          clear en9 ec9
          injection eb with eb
          injection eb with eb1 eb2 _
          subst eb1; subst eb2
          rw [Nat.add_zero] at hcb hfb hst
          have oW := hst y hIs
          have hB5 := hB4.kept hg hk45
          have hbne : b ∉ F ∧ (Value.slice (some ⟨bl, ol, none⟩) xs.length cap).ownBlock ≠ some b := HG.out.1 b (List.mem_singleton.2 rfl)
          have hBW : Bld recordO (w5.setCell ⟨b, 0, none⟩ (.string y)) w.heap.size 34 (.slice (some ⟨bl, ol, none⟩) xs.length cap) xs F := hB5.keepR (fun q hq => keep_setCell (by intro e; subst e; exact hbne.1 hq)) (fun q hq => keep_setCell (by intro e; subst e; exact hbne.2 hq))
          obtain ⟨wq, hwq⟩ : ∃ wq, wq = w5.setCell ⟨b, 0, none⟩ (.string y) := ⟨_, rfl⟩
          rw [← hwq] at b5 kW cW oW hBW ⊢
          clear hcb hfb hst ro4 ro5 b4 hk04 hk45 hc5 hc4 cb5 fb5 hB4 hB5 hwq q3 qs hbne HBL HK HK2 HKB
          have HBW := hid hBW
          have HOW := hid oW
          have HCW := hid cW
          have HKW := hid kW
          have hsW : w.heap.size ≤ wq.heap.size := HKW.out.1
          obtain ⟨cL, fL⟩ := b5.cells
          clear hBW oW cW kW b5
          go_wp2_with (at_builtin; go_loud (refine wpList_app1g elemRec (by decide) rfl _ _ rfl HBW.out rfl _ 1 rfl (by first | rfl | simp) (one_rec5 _ _ _ _ _ _) (y := (⟨r.source, r.key, r.version, r.fields.set 0 y⟩ : Record)) ⟨_, rfl, HOK.out, HOW.out⟩ HG.out (by omega) (by decide) hsW ?_); intro v9 w9 hB9 hE9 hs9 hk9)
          have HB9 := hid hB9
          have HC9 := hid (HCW.out.keep (hE9 w0 h0w HCW.out.base.1) (hk9 g hg))
          have HK9 := hid (show Kept g w w9 from ⟨Nat.le_trans HKW.out.1 (by omega), fun q hq hne => (hk9 q hq).trans (HKW.out.2 q hq hne)⟩)
          clear hB9 hE9 hs9 hk9 cL fL
          go_roundw
          case rel => exact ⟨xs ++ [(⟨r.source, r.key, r.version, r.fields.set 0 y⟩ : Record)], F ++ [b], n - 1, (by (have e9 : ((n - 1 : Nat) : Int) = (n : Int) - 1 := by omega); rw [e9]), by simp; omega, four_snoc HX4.out (by first | exact HR4.out | (rw [List.length_set]; exact HR4.out)), HB9.out, HC9.out, HK9.out⟩
          case measure => simp [intOf]; omega
      · have hxe : xs = [] := List.eq_nil_of_length_eq_zero (by omega)
        subst hxe
        replace hBx : Bld recordO (w3.alloc (.cells #[.int .i64 r.source, .int .i64 r.key, .int .i64 r.version, .slice (some ⟨b, 0, none⟩) 4 4] 34)) w.heap.size 34 (.slice A 0 cap) [] F := hBx
        clear hx0
        have HBW := hid hBx
        have HOW := hid rox
        have HCW := hid hcx
        have HKW := hid hkx
        have hsW : w.heap.size ≤ (w3.alloc (.cells #[.int .i64 r.source, .int .i64 r.key, .int .i64 r.version, .slice (some ⟨b, 0, none⟩) 4 4] 34)).heap.size := HKW.out.1
        obtain ⟨cL, fL⟩ := bx.cells
        clear hBx rox hcx hkx bx
        go_wp2_with (at_builtin; go_loud (refine wpList_app1g elemRec (by decide) rfl _ _ rfl HBW.out rfl _ 1 rfl (by first | rfl | simp) (one_rec5 _ _ _ _ _ _) (y := (⟨r.source, r.key, r.version, r.fields⟩ : Record)) ⟨_, rfl, HOK.out, HOW.out⟩ HG.out (by omega) (by decide) hsW ?_); intro v9 w9 hB9 hE9 hs9 hk9)
        have HB9 := hid hB9
        have HC9 := hid (HCW.out.keep (hE9 w0 h0w HCW.out.base.1) (hk9 g hg))
        have HK9 := hid (show Kept g w w9 from ⟨Nat.le_trans HKW.out.1 (by omega), fun q hq hne => (hk9 q hq).trans (HKW.out.2 q hq hne)⟩)
        clear hB9 hE9 hs9 hk9 cL fL
        go_roundw
        case rel => exact ⟨[] ++ [(⟨r.source, r.key, r.version, r.fields⟩ : Record)], F ++ [b], n - 1, (by (have e9 : ((n - 1 : Nat) : Int) = (n : Int) - 1 := by omega); rw [e9]), by simp; omega, four_snoc HX4.out (by first | exact HR4.out | (rw [List.length_set]; exact HR4.out)), HB9.out, HC9.out, HK9.out⟩
        case measure => simp [intOf]; omega
    · obtain rfl : n = 0 := by omega
      go_wp2_with fail
      refine (spec_l1Once w0 _ g 16 (by decide) hc).mono ?_
      rintro e w3 ⟨t, rfl, hc3, hk3⟩
      have hB3 := hB.kept hg hk3
      have hk03 := hk.trans hk3
      cases t with
      | false =>
        go_wp2
        go_ret
        exact ⟨_, xs, F, rfl, hB3, by omega, hc3, hk03⟩
      | true =>
        go_wp2_with fail
        refine (spec_l8Any w0 _ g hc3).mono ?_
        rintro e w4 ⟨v4, r, F4, rfl, ⟨f4, rfl, ok4, o4⟩, n4, hc4, hk4, _⟩
        obtain ⟨A4, c4, e4, _⟩ := o4.form
        subst e4
        have HG := hid (hB3.fresh n4 hk03.1)
        have hB4 := hB3.kept hg hk4
        have hk04 := hk03.trans hk4
        have hs4 := hk04.1
        go_wp2_with (at_builtin; go_loud (refine wpList_app1g elemRec (by decide) rfl _ _ rfl hB4 rfl w4.heap.size 1 rfl rfl (one_rec5 _ _ _ _ _ _) (y := r) ⟨_, rfl, ok4, o4⟩ HG.out (by omega) (by decide) hs4 ?_); intro v9 w9 hB9 hE9 hs9 hk9)
        go_ret
        exact ⟨v9, xs ++ [r], F ++ F4, rfl, hB9, by simp; omega, hc4.keep (hE9 w0 h0w hc4.base.1) (hk9 g hg), ⟨by omega, fun q hq hne => (hk9 q hq).trans (hk04.2 q hq hne)⟩⟩


set_option maxHeartbeats 1000000 in
set_option maxRecDepth 20000 in
theorem spec_l27Rules (w0 w : World) (g : Nat) (hc : Cur w0 w g) :
    Calls Tryz.prog 17 #[.pointer (some ⟨g, 0, none⟩)] w fun e w2 => ∃ v2 rs, e = .returned v2 ∧ Sl intR w2 v2 rs ∧ Cur w0 w2 g ∧ Kept g w w2 := by
  have hg := hc.base.2.2
  have h0w := hc.base.1.size
  have xa : Ext w (w.alloc (.cells #[] 3)) := (Ext.refl w).alloc _
  have hB0 := Bld.lit (R := intO) w (Nat.le_refl w.heap.size) 3
  go_enter Tryz.func17, Tryz.ntmps17
  go_wp2
  go_loopw [3, 4] (fun t i wr => ∃ rs : List Int, i = .int .i64 rs.length ∧ rs.length ≤ 4 ∧ Bld intO wr w.heap.size 3 t rs [] ∧ Cur w0 wr g ∧ Kept g w wr) (fun _ i _ => 4 - (intOf i).toNat)
  case atStart => exact ⟨[], rfl, by simp, hB0, hc.ext xa, xa.kept⟩
  case round =>
    clear hB0 hc xa
    obtain ⟨rs, rfl, hl, hB, hc, hk⟩ := hrel
    by_cases hlt : rs.length < 4
    · have hlt' : (rs.length : Int) < 4 := by omega
      go_wp2_with fail
      refine (spec_l1Below w0 _ g 4 (by decide) hc).mono ?_
      rintro e w3 ⟨x, rfl, hx, hc3, hk3⟩
      have hB3 := hB.kept hg hk3
      have hk03 := hk.trans hk3
      have hs := hk03.1
      have HI := hid (show I64 (1 + x) by unfold I64; omega)
      go_wp2_with (at_builtin; go_loud (refine wpList_app1g elemInt (by decide) rfl _ _ rfl hB3 rfl w3.heap.size 1 rfl rfl (one_int _) (own_int _ _ HI.out) fresh_nil (by omega) (by decide) hs ?_); intro v9 w9 hB9 hE9 hs9 hk9)
      go_roundw
      case rel => exact ⟨rs ++ [1 + x], by simp, by simp; omega, hB9, hc3.keep (hE9 w0 h0w hc3.base.1) (hk9 g hg), ⟨by omega, fun q hq hne => (hk9 q hq).trans (hk03.2 q hq hne)⟩⟩
      case measure => simp [intOf]; omega
    · have hl4 : rs.length = 4 := by omega
      go_wp2_with fail
      refine (spec_l1Once w0 _ g 14 (by decide) hc).mono ?_
      rintro e w3 ⟨t, rfl, hc3, hk3⟩
      obtain ⟨F, ho, hN, hF⟩ := (hB.kept hg hk3).done
      have hk03 := hk.trans hk3
      have hg3 := hc3.base.2.2
      have HL4 := hid hl4
      cases t with
      | false =>
        clear hl4
        go_wp2
        go_ret
        exact ⟨_, rs, rfl, ho.sl, hc3, hk03⟩
      | true =>
        obtain ⟨A, c, e9, _⟩ := ho.form
        subst e9
        have HO := hid (And.intro ho (And.intro hN hF))
        clear ho hN hF hB hl4
        go_wp2_with fail
        refine (spec_l1PickInt w0 _ g _ [0, 5] (by decide) (hc3.ext ((Ext.refl _).alloc _)) (fun w4 k4 => (lit_kept rfl (by simp [I64]) (by decide) hg3 k4).sl)).mono ?_
        rintro e w4 ⟨y, rfl, hI, hc4, hk4⟩
        have hk34 := (Ext.kept (g := g) ((Ext.refl _).alloc _)).trans hk4
        have hk04 := hk03.trans hk34
        have o4 := HO.out.1.kept (fun hm => by have := HO.out.2.2 _ hm; omega) hk34
        obtain ⟨gb, off, cap, e9, hgF, hcb, hfb, hst⟩ := o4.int_store HO.out.2.1 (i := 0) (by have := HL4.out; omega)
        have hgw := HO.out.2.2 gb hgF
        cases e9
        rw [Nat.add_zero] at hcb hfb hst
        have HS := hid (hst y hI)
        have hl0 : (0 : Int) < (rs.length : Int) := by have := HL4.out; omega
        clear hst o4
        go_wp2
        go_ret
        exact ⟨.slice (some ⟨gb, off, none⟩) rs.length c, rs.set 0 y, rfl, HS.out.sl, hc4.setN (by show g < gb; omega) _, hk04.setN hgw _⟩

set_option maxHeartbeats 1000000 in
set_option maxRecDepth 20000 in
theorem spec_DrawGoldenRecord (w : World) (v : Value) (bs : List Int) (h : Sl u8R w v bs) :
    Calls Tryz.prog 5 #[v] w fun e w2 => ∃ v1 v2 xs rs, e = .returned (.tuple #[v1, v2]) ∧ Sl recordR w2 v1 xs ∧ xs.length ≤ 7 ∧ Sl intR w2 v2 rs ∧ Ext w w2 := by
  obtain ⟨A, cap, rfl, hm⟩ := h.form
  go_enter Tryz.func5, Tryz.ntmps5
  go_wp2_with fail
  refine (spec_l1New w _ bs h).mono ?_
  rintro e w2 ⟨rfl, hc2, x2⟩
  obtain ⟨g, hg⟩ : ∃ g, g = w.heap.size := ⟨_, rfl⟩
  rw [← hg] at hc2 ⊢
  clear hg
  have hg2 := hc2.base.2.2
  go_wp2_with fail
  refine (spec_l13Records w _ g hc2).mono ?_
  rintro e w3 ⟨v3, xs, F, rfl, hB3, hl, hc3, hk3⟩
  go_wp2_with fail
  refine (spec_l27Rules w _ g hc3).mono ?_
  rintro e w4 ⟨v4, rs, rfl, s4, hc4, hk4⟩
  have s3 := (hB3.kept hg2 hk4).sl
  have x4 := hc4.base.1
  go_wp2
  refine bodyPost_ret (v := .tuple #[v3, v4]) (by simp [results, Tryz.results5, go_sem]) rfl ?_
  exact ⟨_, _, xs, rs, rfl, s3, hl, s4, x4⟩
end Go.Proofs.YtddjefbdekinbaaGreatDoor
