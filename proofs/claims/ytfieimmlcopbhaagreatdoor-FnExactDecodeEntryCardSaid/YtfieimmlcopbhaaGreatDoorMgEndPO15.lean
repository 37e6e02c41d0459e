/-
  SEVERAL SMALL TEXTS LAID TOGETHER: FmtR, OpS, MarkO.
-/
import Derived.Test.YtfieimmlcopbhaaGreatDoorMgEndPO5
import Derived.Test.YtfieimmlcopbhaaGreatDoorMgEndPO12
import Derived.Test.YtfieimmlcopbhaaGreatDoorMgEndPO0
import Derived.Deep.RegionHeld3
import Derived.Test.YtfieimmlcopbhaaGreatDoorMgEndPO14
import Derived.Test.YtfieimmlcopbhaaGreatDoorMgEndPO11

namespace Go.Proofs.YtfieimmlcopbhaaGreatDoor
open Go.RowKit

def letter (s : Int) : ByteArray := ⟨#[UInt8.ofNat (97 + s.toNat)]⟩
/-- the name of a record; its text -/
def orgN (s k : Int) : ByteArray := letter s ++ itoaS k
def recN (r : Record) : ByteArray := if okRec r = true then orgN r.source r.key else ⟨#[]⟩
def recT (r : Record) : ByteArray := orgN r.source r.key ++ ⟨#[46]⟩ ++ itoaS r.version ++ ⟨#[124]⟩ ++ joinS r.fields ⟨#[124]⟩
def fmtR (r : Record) : ByteArray := if okRec r = true then recT r else ⟨#[]⟩
theorem okH_bounds {r : Record} (h : okH r = true) : (0 ≤ r.source ∧ r.source ≤ 3) ∧ (1 ≤ r.key ∧ r.key ≤ 99) ∧ 1 ≤ r.version ∧ r.version ≤ 999 := by
  unfold okH inB at h
  simp only [Bool.and_eq_true, decide_eq_true_eq] at h
  exact ⟨h.1.1, h.1.2, h.2⟩
theorem okRec_H {r : Record} (h : okRec r = true) : okH r = true := by
  unfold okRec at h
  simp only [Bool.and_eq_true] at h
  exact h.1.1
theorem okRec_len {r : Record} (h : okRec r = true) : r.fields.length = 4 := by
  unfold okRec at h
  simp only [Bool.and_eq_true, beq_iff_eq] at h
  omega
theorem okRec_F {r : Record} (h : okRec r = true) : ∀ s ∈ r.fields, s.size ≤ 40 := fun s hs => by
  unfold okRec at h
  simp only [Bool.and_eq_true] at h
  have h1 := List.all_eq_true.1 h.2 s hs
  unfold okF okT at h1
  simp only [Bool.and_eq_true, decide_eq_true_eq] at h1
  exact h1.2.2
theorem letter_size (s : Int) : (letter s).size = 1 := rfl
theorem orgN_size {s k : Int} (h : I64 k) : (orgN s k).size ≤ 21 := by
  have := itoaS_size h
  unfold orgN
  rw [ByteArray.size_append, letter_size]; omega
theorem fields_size {r : Record} (h : okRec r = true) : (joinS r.fields ⟨#[124]⟩).size ≤ 164 := by
  have h1 := joinS_size 40 ⟨#[124]⟩ r.fields (okRec_F h)
  have e1 : (⟨#[124]⟩ : ByteArray).size = 1 := rfl
  rw [e1, okRec_len h] at h1
  omega

set_option maxHeartbeats 400000 in
set_option maxRecDepth 20000 in
theorem impl_originName (s k : Int) (w : World) (hs : 0 ≤ s ∧ s ≤ 3) (hk : I64 k) (T : Tab w) :
    Calls Tryz.prog 75 #[.int .i64 s, .int .i64 k] w fun e w2 => e = .returned (.string (orgN s k)) ∧ Ext w w2 := by
  have s1 := itoaS_size hk
  have TZ : ∀ q : ExtOf w, Tab q.1 := fun q => T.mono q.2
  have HK := hid hk
  clear hk
  have hc : s = 0 ∨ s = 1 ∨ s = 2 ∨ s = 3 := by omega
  clear hs
  rcases hc with rfl | rfl | rfl | rfl
  all_goals
    go_enter Tryz.func75, Tryz.ntmps75
    go_wp2_with fail
    refine wp_region_ext (by kernel_rfl) (by kernel_rfl) ?_
    repeat (go_big_quiet_step (((go_at_call 83; exact quiet_ext (impl_FormatInt _ _ HK.out (TZ _))))))
    refine wpQuiet_nil ?_
    rintro w1 ⟨⟨_, x1⟩, rfl⟩
    go_wp2
    go_ret
    exact ⟨rfl, (by repeat (first | with_reducible exact Ext.refl _ | with_reducible assumption | with_reducible refine Ext.drew ?_ | with_reducible refine Ext.alloc ?_ _ | with_reducible refine Ext.trans ?_ (by with_reducible assumption)))⟩

set_option maxHeartbeats 400000 in
set_option maxRecDepth 20000 in
theorem impl_formatRecord (v : Value) (r : Record) (w : World) (h : RecAt w v r) (hok : okRec r = true) (T : Tab w) :
    Calls Tryz.prog 72 #[v] w fun e w2 => e = .returned (.string (recT r)) ∧ Ext w w2 := by
  obtain ⟨f, rfl, ⟨i1, i2, i3⟩, hs⟩ := h
  obtain ⟨A, cap, rfl, hm⟩ := hs.form
  have hb := (okH_bounds (okRec_H hok)).1
  have s1 := orgN_size (s := r.source) i2
  have s2 := itoaS_size i3
  have s3 := fields_size hok
  have hl := okRec_len hok
  have z0 : ∀ q : ExtOf (w.alloc (.cells #[.int .i64 r.source, .int .i64 r.key, .int .i64 r.version, .slice A r.fields.length cap] 24)), q.1.cell? ⟨w.heap.size, 0, none⟩ = some (.int .i64 r.source) := fun q => q.2.box.1 0
  have z1 : ∀ q : ExtOf (w.alloc (.cells #[.int .i64 r.source, .int .i64 r.key, .int .i64 r.version, .slice A r.fields.length cap] 24)), q.1.cell? ⟨w.heap.size, 1, none⟩ = some (.int .i64 r.key) := fun q => q.2.box.1 1
  have z2 : ∀ q : ExtOf (w.alloc (.cells #[.int .i64 r.source, .int .i64 r.key, .int .i64 r.version, .slice A r.fields.length cap] 24)), q.1.cell? ⟨w.heap.size, 2, none⟩ = some (.int .i64 r.version) := fun q => q.2.box.1 2
  have z3 : ∀ q : ExtOf (w.alloc (.cells #[.int .i64 r.source, .int .i64 r.key, .int .i64 r.version, .slice A r.fields.length cap] 24)), q.1.cell? ⟨w.heap.size, 3, none⟩ = some (.slice A r.fields.length cap) := fun q => q.2.box.1 3
  have TZ : ∀ q : ExtOf (w.alloc (.cells #[.int .i64 r.source, .int .i64 r.key, .int .i64 r.version, .slice A r.fields.length cap] 24)), Tab q.1 := fun q => T.mono (((Ext.refl _).alloc _).trans q.2)
  have SZ : ∀ q : ExtOf (w.alloc (.cells #[.int .i64 r.source, .int .i64 r.key, .int .i64 r.version, .slice A r.fields.length cap] 24)), Sl strR q.1 (.slice A r.fields.length cap) r.fields := fun q => hs.mono (((Ext.refl _).alloc _).trans q.2)
  have HB := hid hb
  have H2 := hid i2
  have H3 := hid i3
  have HJ := hid (show r.fields.length ≤ 140737488355328 ∧ (joinS r.fields ⟨#[124]⟩).size ≤ 140737488355328 by omega)
  clear hb i1 i2 i3 hl hok
  go_enter Tryz.func72, Tryz.ntmps72
  go_wp2_with fail
  refine wp_region_ext (by kernel_rfl) (by kernel_rfl) ?_
  repeat (go_big_quiet_step (((first | (go_at_call 75; exact quiet_ext (impl_originName _ _ _ HB.out H2.out (TZ _))) | (go_at_call 83; exact quiet_ext (impl_FormatInt _ _ H3.out (TZ _))) | (go_at_call 118; exact quiet_ext (strings_Join_c _ r.fields ⟨#[124]⟩ _ (SZ _) HJ.out.1 HJ.out.2))))))
  refine wpQuiet_nil ?_
  rintro w1 ⟨⟨_, x1⟩, rfl⟩
  go_wp2
  go_ret
  exact ⟨rfl, (by repeat (first | with_reducible exact Ext.refl _ | with_reducible assumption | with_reducible refine Ext.drew ?_ | with_reducible refine Ext.alloc ?_ _ | with_reducible refine Ext.trans ?_ (by with_reducible assumption)))⟩

set_option maxHeartbeats 400000 in
set_option maxRecDepth 20000 in
theorem impl_RecordName (v : Value) (r : Record) (w : World) (h : RecAt w v r) (T : Tab w) :
    Calls Tryz.prog 31 #[v] w fun e w2 => e = .returned (.string (recN r)) ∧ Ext w w2 := by
  obtain ⟨f, rfl, hI, hs⟩ := h
  have HB := hid (show ∀ W, Ext (w.alloc (.cells #[.int .i64 r.source, .int .i64 r.key, .int .i64 r.version, f] 24)) W → W.cell? ⟨w.heap.size, 0, none⟩ = some (.int .i64 r.source) ∧ W.cell? ⟨w.heap.size, 1, none⟩ = some (.int .i64 r.key) from fun W z => ⟨z.box.1 0, z.box.1 1⟩)
  go_enter Tryz.func31, Tryz.ntmps31
  go_wp2_with fail
  refine (impl_IsValidRecord _ r _ ⟨_, rfl, hI, hs.mono (by repeat (first | with_reducible exact Ext.refl _ | with_reducible assumption | with_reducible refine Ext.drew ?_ | with_reducible refine Ext.alloc ?_ _ | (refine Ext.setCell ?_ (by simp) _) | with_reducible refine Ext.trans ?_ (by with_reducible assumption)))⟩).mono ?_
  rintro e w1 ⟨rfl, x1⟩
  obtain ⟨b0, b1⟩ := HB.out _ x1
  cases hok : okRec r with
  | false =>
    have hr := hid (show recN r = ⟨#[]⟩ by unfold recN; rw [if_neg (by simp [hok])])
    go_wp2
    go_ret
    exact ⟨by rw [hr.out]; rfl, (by repeat (first | with_reducible exact Ext.refl _ | with_reducible assumption | with_reducible refine Ext.drew ?_ | with_reducible refine Ext.alloc ?_ _ | with_reducible refine Ext.trans ?_ (by with_reducible assumption)))⟩
  | true =>
    have hr := hid (show recN r = orgN r.source r.key by unfold recN; rw [if_pos hok])
    have hb := hid (okH_bounds (okRec_H hok)).1
    have HI := hid hI
    clear hI hok
    go_wp2_with fail
    refine (impl_originName _ _ _ hb.out HI.out.2.1 (T.mono (by repeat (first | with_reducible exact Ext.refl _ | with_reducible assumption | with_reducible refine Ext.drew ?_ | with_reducible refine Ext.alloc ?_ _ | with_reducible refine Ext.trans ?_ (by with_reducible assumption))))).mono ?_
    rintro e w2 ⟨rfl, x2⟩
    go_wp2
    go_ret
    exact ⟨by rw [hr.out]; rfl, (by repeat (first | with_reducible exact Ext.refl _ | with_reducible assumption | with_reducible refine Ext.drew ?_ | with_reducible refine Ext.alloc ?_ _ | with_reducible refine Ext.trans ?_ (by with_reducible assumption)))⟩
end Go.Proofs.YtfieimmlcopbhaaGreatDoor

namespace Go.Proofs.YtfieimmlcopbhaaGreatDoor
open Go.RowKit

theorem Sl.op {w : World} {A : Option Addr} {n cap : Nat} {xs : List Op} (h : Sl opR w (.slice A n cap) xs) {i : Nat} (hi : i < xs.length) :
    ∃ b off A2 cap2, A = some ⟨b, off, none⟩ ∧ xs[i].ok ∧ Sl strR w (.slice A2 xs[i].record.fields.length cap2) xs[i].record.fields ∧ w.cell? ⟨b, off + i * 9, none⟩ = some (.int .i64 xs[i].kind) ∧ w.cell? ⟨b, off + i * 9 + 1, none⟩ = some (.int .i64 xs[i].record.source) ∧ w.cell? ⟨b, off + i * 9 + 2, none⟩ = some (.int .i64 xs[i].record.key) ∧ w.cell? ⟨b, off + i * 9 + 3, none⟩ = some (.int .i64 xs[i].record.version) ∧ w.cell? ⟨b, off + i * 9 + 4, none⟩ = some (.slice A2 xs[i].record.fields.length cap2) ∧ w.cell? ⟨b, off + i * 9 + 5, none⟩ = some (.int .i64 xs[i].verdict.a) ∧ w.cell? ⟨b, off + i * 9 + 6, none⟩ = some (.int .i64 xs[i].verdict.b) ∧ w.cell? ⟨b, off + i * 9 + 7, none⟩ = some (.bool xs[i].verdict.same) ∧ w.cell? ⟨b, off + i * 9 + 8, none⟩ = some (.int .i64 xs[i].verdict.time) := by
  obtain ⟨b, off, cs, rfl, ⟨m, rfl, hok, hs⟩, hc⟩ := h.at_ hi
  have hs' := hs
  obtain ⟨A2, cap2, rfl, _⟩ := hs
  exact ⟨b, off, A2, cap2, rfl, hok, hs', by simpa [opR, Op.cells] using hc 0 (by simp [opR]), by simpa [opR, Op.cells] using hc 1 (by simp [opR]), by simpa [opR, Op.cells] using hc 2 (by simp [opR]), by simpa [opR, Op.cells] using hc 3 (by simp [opR]), by simpa [opR, Op.cells] using hc 4 (by simp [opR]), by simpa [opR, Op.cells] using hc 5 (by simp [opR]), by simpa [opR, Op.cells] using hc 6 (by simp [opR]), by simpa [opR, Op.cells] using hc 7 (by simp [opR]), by simpa [opR, Op.cells] using hc 8 (by simp [opR])⟩

theorem infoOp : (Tryz.prog.info? 28).map (fun i => (i.zero, i.size, i.bytes)) = some (some (.agg #[.int .i64 0, .int .i64 0, .int .i64 0, .int .i64 0, .slice none 0 0, .int .i64 0, .int .i64 0, .bool false, .int .i64 0]), 9, 88) := by kernel_rfl
def opZ : List Value := [.int .i64 0, .int .i64 0, .int .i64 0, .int .i64 0, .slice none 0 0, .int .i64 0, .int .i64 0, .bool false, .int .i64 0]

set_option maxHeartbeats 400000 in
set_option maxRecDepth 20000 in
theorem eqOpS_c (v u : Value) (xs ys : List Op) (w : World) (h : Sl opR w v xs) (k : Sl opR w u ys) :
    Calls Tryz.prog 56 #[v, u] w fun e w2 => e = .returned (.bool (eqB xs ys)) ∧ Ext w w2 := by
  obtain ⟨A, cap, rfl, hm⟩ := h.form
  obtain ⟨B, cap2, rfl, hm2⟩ := k.form
  by_cases hl : xs.length = ys.length
  · have hl' : ((xs.length : Int) != (ys.length : Int)) = false := by simp [hl]
    have HL := hid hl
    clear hl
    go_enter Tryz.func56, Tryz.ntmps56
    go_wp2
    go_loopw [5] (fun i wr => ∃ k2 : Nat, k2 ≤ xs.length ∧ i = .int .i64 k2 ∧ xs.take k2 = ys.take k2 ∧ Ext w wr) (fun i _ => xs.length - (intOf i).toNat)
    case atStart => exact ⟨0, Nat.zero_le _, rfl, by simp, Ext.refl _⟩
    case round =>
      obtain ⟨k2, hk, rfl, he, hx⟩ := hrel
      have HE := hid he
      clear he
      by_cases hlt : k2 < xs.length
      · have hlt2 : k2 < ys.length := by have := HL.out; omega
        obtain ⟨b, off, A2, cap3, rfl, hok, hi, hc0, hc1, hc2, hc3, hc4, hc5, hc6, hc7, hc8⟩ := (h.mono hx).op hlt
        obtain ⟨b2, off2, A3, cap4, rfl, hok2, hi2, hd0, hd1, hd2, hd3, hd4, hd5, hd6, hd7, hd8⟩ := (k.mono hx).op hlt2
        have hcz0 : ∀ z : ExtOf wr, z.1.cell? ⟨b, off + k2 * 9, none⟩ = _ := fun z => z.2.cell hc0
        have hdz0 : ∀ z : ExtOf wr, z.1.cell? ⟨b2, off2 + k2 * 9, none⟩ = _ := fun z => z.2.cell hd0
        have hcz1 : ∀ z : ExtOf wr, z.1.cell? ⟨b, off + k2 * 9 + 1, none⟩ = _ := fun z => z.2.cell hc1
        have hdz1 : ∀ z : ExtOf wr, z.1.cell? ⟨b2, off2 + k2 * 9 + 1, none⟩ = _ := fun z => z.2.cell hd1
        have hcz2 : ∀ z : ExtOf wr, z.1.cell? ⟨b, off + k2 * 9 + 2, none⟩ = _ := fun z => z.2.cell hc2
        have hdz2 : ∀ z : ExtOf wr, z.1.cell? ⟨b2, off2 + k2 * 9 + 2, none⟩ = _ := fun z => z.2.cell hd2
        have hcz3 : ∀ z : ExtOf wr, z.1.cell? ⟨b, off + k2 * 9 + 3, none⟩ = _ := fun z => z.2.cell hc3
        have hdz3 : ∀ z : ExtOf wr, z.1.cell? ⟨b2, off2 + k2 * 9 + 3, none⟩ = _ := fun z => z.2.cell hd3
        have hcz4 : ∀ z : ExtOf wr, z.1.cell? ⟨b, off + k2 * 9 + 4, none⟩ = _ := fun z => z.2.cell hc4
        have hdz4 : ∀ z : ExtOf wr, z.1.cell? ⟨b2, off2 + k2 * 9 + 4, none⟩ = _ := fun z => z.2.cell hd4
        have hcz5 : ∀ z : ExtOf wr, z.1.cell? ⟨b, off + k2 * 9 + 5, none⟩ = _ := fun z => z.2.cell hc5
        have hdz5 : ∀ z : ExtOf wr, z.1.cell? ⟨b2, off2 + k2 * 9 + 5, none⟩ = _ := fun z => z.2.cell hd5
        have hcz6 : ∀ z : ExtOf wr, z.1.cell? ⟨b, off + k2 * 9 + 6, none⟩ = _ := fun z => z.2.cell hc6
        have hdz6 : ∀ z : ExtOf wr, z.1.cell? ⟨b2, off2 + k2 * 9 + 6, none⟩ = _ := fun z => z.2.cell hd6
        have hcz7 : ∀ z : ExtOf wr, z.1.cell? ⟨b, off + k2 * 9 + 7, none⟩ = _ := fun z => z.2.cell hc7
        have hdz7 : ∀ z : ExtOf wr, z.1.cell? ⟨b2, off2 + k2 * 9 + 7, none⟩ = _ := fun z => z.2.cell hd7
        have hcz8 : ∀ z : ExtOf wr, z.1.cell? ⟨b, off + k2 * 9 + 8, none⟩ = _ := fun z => z.2.cell hc8
        have hdz8 : ∀ z : ExtOf wr, z.1.cell? ⟨b2, off2 + k2 * 9 + 8, none⟩ = _ := fun z => z.2.cell hd8
        by_cases h0 : xs[k2] = ys[k2]
        · have H0 := hid h0
          clear h0
          go_wp2_with fail
          refine wp_region_ext (by kernel_rfl) (by kernel_rfl) ?_
          repeat (go_big_quiet_step (((go_at_call 10; exact quiet_ext (eqOp_c _ _ xs[k2] ys[k2] _ ⟨_, rfl, hok, hi.mono (Subtype.property _)⟩ ⟨_, rfl, hok2, hi2.mono (Subtype.property _)⟩)))))
          refine wpQuiet_nil ?_
          rintro w1 ⟨⟨_, x1⟩, rfl⟩
          rw [eqB_true H0.out]
          go_wp2
          go_roundw
          case rel => exact ⟨k2 + 1, by omega, by go_num, take_snoc_eq hlt hlt2 H0.out HE.out, hx.trans x1⟩
          case measure => simp [intOf]; omega
        · have H0 := hid h0
          clear h0
          go_wp2_with fail
          refine wp_region_ext (by kernel_rfl) (by kernel_rfl) ?_
          repeat (go_big_quiet_step (((go_at_call 10; exact quiet_ext (eqOp_c _ _ xs[k2] ys[k2] _ ⟨_, rfl, hok, hi.mono (Subtype.property _)⟩ ⟨_, rfl, hok2, hi2.mono (Subtype.property _)⟩)))))
          refine wpQuiet_nil ?_
          rintro w1 ⟨⟨_, x1⟩, rfl⟩
          rw [eqB_false H0.out]
          go_wp2
          go_ret
          exact ⟨ret_bool (eqB_false (ne_of_at hlt hlt2 H0.out)).symm, hx.trans x1⟩
      · go_wp2
        go_ret
        exact ⟨ret_bool (eqB_true (eq_of_take hlt HL.out HE.out)).symm, hx⟩
  · have hl' : ((xs.length : Int) != (ys.length : Int)) = true := by simp; omega
    go_enter Tryz.func56, Tryz.ntmps56
    go_wp2
    go_ret
    exact ⟨ret_bool (eqB_false fun e => hl (by rw [e])).symm, Ext.refl _⟩
end Go.Proofs.YtfieimmlcopbhaaGreatDoor

namespace Go.Proofs.YtfieimmlcopbhaaGreatDoor
open Go.RowKit

set_option maxHeartbeats 400000 in
theorem markRecord_t (r : Record) (f : Value) (F : List Nat) (k : Int) (w : World) (h : OwnSl strO w f r.fields F) (hN : F.Nodup) (h0 : 0 ≤ k) (hb : k + r.fields.length ≤ 1152921504606846976) :
    Calls Tryz.prog 50 #[.agg #[.int .i64 r.source, .int .i64 r.key, .int .i64 r.version, f], .int .i64 k] w fun e w2 => ∃ ys, e = .returned (.int .i64 (k + r.fields.length)) ∧ OwnSl strO w2 f ys F ∧ ys.length = r.fields.length ∧ MkS k ys ∧ Chg F w w2 := by
  obtain ⟨A, cap, rfl, hm⟩ := h.form
  have x1 : Ext w (w.alloc (.cells #[.int .i64 r.source, .int .i64 r.key, .int .i64 r.version, .slice A r.fields.length cap] 24)) := (Ext.refl w).alloc _
  go_enter Tryz.func50, Tryz.ntmps50
  go_wp2_with fail
  refine (markStringS_t _ r.fields F k _ (h.ext x1) hN h0 hb).mono ?_
  rintro e w2 ⟨ys, rfl, ho, hl, hk, hc⟩
  have HL := hid hl
  clear hl
  go_wp2
  go_ret
  exact ⟨ys, rfl, ho, HL.out, hk, (Chg.of_ext x1).trans hc⟩

set_option maxHeartbeats 400000 in
theorem heldRecord_t (r : Record) (f : Value) (ys : List ByteArray) (k : Int) (w : World) (h : Sl strR w f ys) (hi : MkS k ys) (h0 : 0 ≤ k) (hb : k + ys.length ≤ 1152921504606846976) :
    Calls Tryz.prog 51 #[.agg #[.int .i64 r.source, .int .i64 r.key, .int .i64 r.version, f], .int .i64 k] w fun e w2 => e = .returned (.int .i64 (k + ys.length)) ∧ Ext w w2 := by
  obtain ⟨A, cap, rfl, hm⟩ := h.form
  have x1 : Ext w (w.alloc (.cells #[.int .i64 r.source, .int .i64 r.key, .int .i64 r.version, .slice A ys.length cap] 24)) := (Ext.refl w).alloc _
  go_enter Tryz.func51, Tryz.ntmps51
  go_wp2_with fail
  refine (heldStringS_c _ ys k _ (h.mono x1) hi h0 hb).mono ?_
  rintro e w2 ⟨rfl, x2⟩
  have hnn : 0 ≤ k + (ys.length : Int) := by omega
  go_wp2
  go_ret
  exact ⟨rfl, x1.trans x2⟩

set_option maxHeartbeats 400000 in
theorem markOp_t (o : Op) (f : Value) (F : List Nat) (k : Int) (w : World) (h : OwnSl strO w f o.record.fields F) (hN : F.Nodup) (h0 : 0 ≤ k) (hb : k + o.record.fields.length ≤ 1152921504606846976) :
    Calls Tryz.prog 11 #[.agg #[.int .i64 o.kind, .int .i64 o.record.source, .int .i64 o.record.key, .int .i64 o.record.version, f, .int .i64 o.verdict.a, .int .i64 o.verdict.b, .bool o.verdict.same, .int .i64 o.verdict.time], .int .i64 k] w fun e w2 => ∃ ys, e = .returned (.int .i64 (k + o.record.fields.length)) ∧ OwnSl strO w2 f ys F ∧ ys.length = o.record.fields.length ∧ MkS k ys ∧ Chg F w w2 := by
  obtain ⟨A, cap, rfl, hm⟩ := h.form
  have x1 : Ext w (w.alloc (.cells #[.int .i64 o.kind, .int .i64 o.record.source, .int .i64 o.record.key, .int .i64 o.record.version, .slice A o.record.fields.length cap, .int .i64 o.verdict.a, .int .i64 o.verdict.b, .bool o.verdict.same, .int .i64 o.verdict.time] 28)) := (Ext.refl w).alloc _
  go_enter Tryz.func11, Tryz.ntmps11
  go_wp2_with fail
  refine (markRecord_t o.record _ F k _ (h.ext x1) hN h0 hb).mono ?_
  rintro e w2 ⟨ys, rfl, ho, hl, hk, hc⟩
  have HL := hid hl
  clear hl
  go_wp2
  go_ret
  exact ⟨ys, rfl, ho, HL.out, hk, (Chg.of_ext x1).trans hc⟩

set_option maxHeartbeats 400000 in
theorem heldOp_t (o : Op) (f : Value) (ys : List ByteArray) (k : Int) (w : World) (h : Sl strR w f ys) (hi : MkS k ys) (h0 : 0 ≤ k) (hb : k + ys.length ≤ 1152921504606846976) :
    Calls Tryz.prog 12 #[.agg #[.int .i64 o.kind, .int .i64 o.record.source, .int .i64 o.record.key, .int .i64 o.record.version, f, .int .i64 o.verdict.a, .int .i64 o.verdict.b, .bool o.verdict.same, .int .i64 o.verdict.time], .int .i64 k] w fun e w2 => e = .returned (.int .i64 (k + ys.length)) ∧ Ext w w2 := by
  obtain ⟨A, cap, rfl, hm⟩ := h.form
  have x1 : Ext w (w.alloc (.cells #[.int .i64 o.kind, .int .i64 o.record.source, .int .i64 o.record.key, .int .i64 o.record.version, .slice A ys.length cap, .int .i64 o.verdict.a, .int .i64 o.verdict.b, .bool o.verdict.same, .int .i64 o.verdict.time] 28)) := (Ext.refl w).alloc _
  go_enter Tryz.func12, Tryz.ntmps12
  go_wp2_with fail
  refine (heldRecord_t o.record _ ys k _ (h.mono x1) hi h0 hb).mono ?_
  rintro e w2 ⟨rfl, x2⟩
  have hnn : 0 ≤ k + (ys.length : Int) := by omega
  go_wp2
  go_ret
  exact ⟨rfl, x1.trans x2⟩
end Go.Proofs.YtfieimmlcopbhaaGreatDoor
