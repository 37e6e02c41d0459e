/-
  SEVERAL SMALL TEXTS LAID TOGETHER: FmtS, FmtO, PRl, POl, Ord.
-/
import Derived.Test.YtfieimmlcopbhaaGreatDoorMgEndFnRec16
import Derived.Test.YtfieimmlcopbhaaGreatDoorMgEndFnRec9
import Derived.Test.YtfieimmlcopbhaaGreatDoorMgEndFnRec18
import Derived.Test.YtfieimmlcopbhaaGreatDoorMgEndFnRec0
import Derived.Test.YtfieimmlcopbhaaGreatDoorMgEndFnRec11

namespace Go.Proofs.YtfieimmlcopbhaaGreatDoor
open Go.RowKit

/-- a bar and a field for each field -/
def barF (h : ByteArray) (l : List ByteArray) : ByteArray := l.foldl (fun s x => s ++ ⟨#[124]⟩ ++ x) h
theorem barF_step (h : ByteArray) (l : List ByteArray) (k : Nat) (hk : k < l.length) : barF h (l.take (k + 1)) = barF h (l.take k) ++ ⟨#[124]⟩ ++ l[k] := by
  unfold barF
  rw [List.take_succ_eq_append_getElem hk, List.foldl_append]; rfl
theorem barF_join (h : ByteArray) (l : List ByteArray) : ∀ k, 0 < k → k ≤ l.length → barF h (l.take k) = h ++ ⟨#[124]⟩ ++ joinS (l.take k) ⟨#[124]⟩ := by
  intro k
  induction k with
  | zero => intro h0; omega
  | succ k ih =>
    intro _ hk
    rw [barF_step h l k (by omega), joinS_step l k (by omega)]
    split
    · rename_i h0
      rw [ih h0 (by omega)]
      simp only [ByteArray.append_assoc]
    · rename_i h0
      have : k = 0 := by omega
      subst this
      rfl
theorem barF_size (h : ByteArray) (l : List ByteArray) (hl : ∀ s ∈ l, s.size ≤ 40) : ∀ k, k ≤ l.length → (barF h (l.take k)).size ≤ h.size + 41 * k := by
  intro k
  induction k with
  | zero => intro _; exact Nat.le_refl _
  | succ k ih =>
    intro hk
    rw [barF_step h l k (by omega), ByteArray.size_append, ByteArray.size_append]
    have h1 := ih (by omega)
    have h2 := hl l[k] (List.getElem_mem _)
    have e1 : (⟨#[124]⟩ : ByteArray).size = 1 := rfl
    omega
theorem recT_bar {r : Record} (h : okRec r = true) : recT r = barF (orgN r.source r.key ++ ⟨#[46]⟩ ++ itoaS r.version) (r.fields.take 4) := by
  have h4 := okRec_len h
  rw [barF_join _ _ 4 (by omega) (by omega), List.take_of_length_le (by omega)]
  rfl

set_option maxHeartbeats 400000 in
set_option maxRecDepth 20000 in
theorem spec_FormatRecord (v : Value) (r : Record) (w : World) (h : RecAt w v r) :
    Calls Tryz.prog 85 #[v] w fun e w2 => e = .returned (.string (fmtR r)) ∧ Ext w w2 := by
  obtain ⟨f, rfl, hI, hs⟩ := h
  obtain ⟨A, cap, rfl, hm⟩ := hs.form
  have HB := hid (show ∀ W, Ext (w.alloc (.cells #[.int .i64 r.source, .int .i64 r.key, .int .i64 r.version, .slice A r.fields.length cap] 24)) W → W.cell? ⟨w.heap.size, 0, none⟩ = some (.int .i64 r.source) ∧ W.cell? ⟨w.heap.size, 1, none⟩ = some (.int .i64 r.key) ∧ W.cell? ⟨w.heap.size, 2, none⟩ = some (.int .i64 r.version) ∧ W.cell? ⟨w.heap.size, 3, none⟩ = some (.slice A r.fields.length cap) from fun W z => ⟨z.box.1 0, z.box.1 1, z.box.1 2, z.box.1 3⟩)
  go_enter Tryz.func85, Tryz.ntmps85
  go_wp2_with fail
  refine (spec_IsValidRecord _ r _ ⟨_, rfl, hI, hs.mono (by repeat (first | with_reducible exact Ext.refl _ | with_reducible assumption | with_reducible refine Ext.drew ?_ | with_reducible refine Ext.alloc ?_ _ | (refine Ext.setCell ?_ (by simp) _) | with_reducible refine Ext.trans ?_ (by with_reducible assumption)))⟩).mono ?_
  rintro e w1 ⟨rfl, x1⟩
  have xw : Ext w w1 := ((Ext.refl _).alloc _).trans x1
  cases hok : okRec r with
  | false =>
    have hr := hid (show fmtR r = ⟨#[]⟩ by unfold fmtR; rw [if_neg (by simp [hok])])
    go_wp2
    go_ret
    exact ⟨by rw [hr.out]; rfl, xw⟩
  | true =>
    have hr := hid (show fmtR r = recT r by unfold fmtR; rw [if_pos hok])
    have hn := hid (show recN r = orgN r.source r.key by unfold recN; rw [if_pos hok])
    have hrt := hid (recT_bar hok)
    have hF := hid (okRec_F hok)
    have H4 := hid (okRec_len hok)
    have z0 : ∀ q : ExtOf w1, q.1.cell? ⟨w.heap.size, 0, none⟩ = some (.int .i64 r.source) := fun q => (HB.out _ (x1.trans q.2)).1
    have z1 : ∀ q : ExtOf w1, q.1.cell? ⟨w.heap.size, 1, none⟩ = some (.int .i64 r.key) := fun q => (HB.out _ (x1.trans q.2)).2.1
    have z2 : ∀ q : ExtOf w1, q.1.cell? ⟨w.heap.size, 2, none⟩ = some (.int .i64 r.version) := fun q => (HB.out _ (x1.trans q.2)).2.2.1
    have z3 : ∀ q : ExtOf w1, q.1.cell? ⟨w.heap.size, 3, none⟩ = some (.slice A r.fields.length cap) := fun q => (HB.out _ (x1.trans q.2)).2.2.2
    have RZ := hid (show ∀ q : ExtOf w1, RecAt q.1 (.agg #[.int .i64 r.source, .int .i64 r.key, .int .i64 r.version, .slice A r.fields.length cap]) r from fun q => ⟨_, rfl, hI, hs.mono (xw.trans q.2)⟩)
    have HI := hid hI
    have s1 := orgN_size (s := r.source) hI.2.1
    have s2 := itoaS_size hI.2.2
    rw [← hn.out] at s1
    have e46 : (⟨#[46]⟩ : ByteArray).size = 1 := rfl
    have q1 := run_cat (P := Tryz.prog) 9 (recN r) ⟨#[46]⟩ (by omega)
    have q2 := run_cat (P := Tryz.prog) 9 (recN r ++ ⟨#[46]⟩) (itoaS r.version) (by rw [ByteArray.size_append]; omega)
    clear hI hok
    go_wp2_with fail
    refine wp_region_ext (by kernel_rfl) (by kernel_rfl) ?_
    repeat (go_big_quiet_step (((first | (go_at_call 127; exact quiet_ext (spec_RecordName _ r _ (RZ.out _))) | (go_at_call 86; exact quiet_ext (spec_FormatInt _ _ HI.out.2.2))))))
    refine wpQuiet_nil ?_
    rintro w5 ⟨⟨_, x5⟩, rfl⟩
    have hy := x1.trans x5
    have HS0 := hid (show (recN r ++ ⟨#[46]⟩ ++ itoaS r.version).size ≤ 42 by rw [ByteArray.size_append, ByteArray.size_append]; omega)
    obtain ⟨hd, hhd⟩ : ∃ hd, recN r ++ ⟨#[46]⟩ ++ itoaS r.version = hd := ⟨_, rfl⟩
    rw [hhd] at HS0 ⊢
    have hrt2 : Hid (recT r = barF hd (r.fields.take 4)) := hid (by rw [← hhd, hn.out]; exact hrt.out)
    clear hhd q1 q2
    go_wp2
    go_loopw [3, 4] (fun t i wr => ∃ k : Nat, k ≤ r.fields.length ∧ i = .int .i64 k ∧ t = .string (barF hd (r.fields.take k)) ∧ Ext w1 wr) (fun _ i _ => r.fields.length - (intOf i).toNat)
    case atStart => exact ⟨0, Nat.zero_le _, rfl, rfl, x5⟩
    case round =>
      obtain ⟨k, hk, rfl, rfl, hx⟩ := hrel
      obtain ⟨b0, b1, b2, b3⟩ := HB.out _ (x1.trans hx)
      by_cases hlt : k < r.fields.length
      · obtain ⟨b, off, rfl, hi, hc0⟩ := hs.str hlt
        have hc := (xw.trans hx).cell hc0
        have hsz := barF_size hd r.fields hF.out k hk
        have hs0 := HS0.out
        have h4 := H4.out
        have hf4 := hF.out _ (List.getElem_mem hlt)
        have hk4 : k ≤ 4 := by omega
        have e124 : (⟨#[124]⟩ : ByteArray).size = 1 := rfl
        have hstep := hid (barF_step hd r.fields k hlt)
        clear h4 hc0
        go_wp2
        go_roundw
        case rel => exact ⟨k + 1, by omega, by go_num, by rw [hstep.out], hx⟩
        case measure => simp [intOf]; omega
      · have hk4 : Hid (k = 4) := hid (by have := H4.out; omega)
        go_wp2
        go_ret
        exact ⟨by rw [hr.out, hrt2.out, hk4.out]; rfl, xw.trans hx⟩
end Go.Proofs.YtfieimmlcopbhaaGreatDoor

namespace Go.Proofs.YtfieimmlcopbhaaGreatDoor
open Go.RowKit

/-- "put ", "delete ", "verdict ", "retract " -/
def wPut : ByteArray := ⟨#[112, 117, 116, 32]⟩
def wDel : ByteArray := ⟨#[100, 101, 108, 101, 116, 101, 32]⟩
def wVer : ByteArray := ⟨#[118, 101, 114, 100, 105, 99, 116, 32]⟩
def wRet : ByteArray := ⟨#[114, 101, 116, 114, 97, 99, 116, 32]⟩
/-- the text of an operation -/
noncomputable def fmtO (o : Op) : ByteArray :=
  if okOp o = true then
    if o.kind = 1 then wPut ++ recT o.record
    else if o.kind = 2 then wDel ++ orgN o.record.source o.record.key ++ ⟨#[46]⟩ ++ itoaS o.record.version
    else if o.kind = 3 then wVer ++ fmtV o.verdict
    else wRet ++ fmtV o.verdict
  else ⟨#[]⟩
theorem fmtO_no {o : Op} (h : ¬ okOp o = true) : fmtO o = ⟨#[]⟩ := by unfold fmtO; rw [if_neg h]
theorem fmtO_1 {o : Op} (h : okOp o = true) (k : o.kind = 1) : fmtO o = wPut ++ recT o.record := by unfold fmtO; rw [if_pos h, if_pos k]
theorem fmtO_2 {o : Op} (h : okOp o = true) (k : o.kind = 2) : fmtO o = wDel ++ orgN o.record.source o.record.key ++ ⟨#[46]⟩ ++ itoaS o.record.version := by unfold fmtO; rw [if_pos h, if_neg (by omega), if_pos k]
theorem fmtO_3 {o : Op} (h : okOp o = true) (k : o.kind = 3) : fmtO o = wVer ++ fmtV o.verdict := by unfold fmtO; rw [if_pos h, if_neg (by omega), if_neg (by omega), if_pos k]
theorem fmtO_4 {o : Op} (h : okOp o = true) (k : o.kind = 4) : fmtO o = wRet ++ fmtV o.verdict := by unfold fmtO; rw [if_pos h, if_neg (by omega), if_neg (by omega), if_neg (by omega)]
theorem okOp_kind {o : Op} (h : okOp o = true) : (o.kind = 1 ∧ okRec o.record = true) ∨ (o.kind = 2 ∧ okH o.record = true) ∨ (o.kind = 3 ∧ okV o.verdict = true) ∨ (o.kind = 4 ∧ okV o.verdict = true) := by
  by_cases h1 : o.kind = 1
  · rw [okOp_1 h1, Bool.and_eq_true] at h; exact .inl ⟨h1, h.1⟩
  · by_cases h2 : o.kind = 2
    · rw [okOp_2 h2, Bool.and_eq_true] at h
      refine .inr (.inl ⟨h2, ?_⟩)
      have := h.1
      unfold goneR at this
      rw [Bool.and_eq_true] at this
      exact this.1
    · by_cases h3 : o.kind = 3
      · rw [okOp_3 (.inl h3), Bool.and_eq_true] at h; exact .inr (.inr (.inl ⟨h3, h.1⟩))
      · by_cases h4 : o.kind = 4
        · rw [okOp_3 (.inr h4), Bool.and_eq_true] at h; exact .inr (.inr (.inr ⟨h4, h.1⟩))
        · rw [okOp_5 h1 h2 h3 h4] at h; cases h
theorem recT_size {r : Record} (h : okRec r = true) : (recT r).size ≤ 207 := by
  obtain ⟨_, h2, h3⟩ := okH_bounds (okRec_H h)
  have s1 := orgN_size (s := r.source) (k := r.key) (by unfold I64; omega)
  have s2 := itoaS_size (n := r.version) (by unfold I64; omega)
  have s3 := fields_size h
  have e1 : (⟨#[46]⟩ : ByteArray).size = 1 := rfl
  have e2 : (⟨#[124]⟩ : ByteArray).size = 1 := rfl
  unfold recT
  simp only [ByteArray.size_append, e1, e2]
  omega
theorem fmtO_size (o : Op) : (fmtO o).size ≤ 300 := by
  by_cases h : okOp o = true
  · have e1 : wPut.size = 4 := rfl
    have e2 : wDel.size = 7 := rfl
    have e3 : wVer.size = 8 := rfl
    have e4 : wRet.size = 8 := rfl
    have e5 : (⟨#[46]⟩ : ByteArray).size = 1 := rfl
    have hv := fmtV_size o.verdict
    rcases okOp_kind h with ⟨k, h1⟩ | ⟨k, h1⟩ | ⟨k, h1⟩ | ⟨k, h1⟩
    · rw [fmtO_1 h k, ByteArray.size_append]
      have := recT_size h1
      omega
    · rw [fmtO_2 h k]
      obtain ⟨_, h2, h3⟩ := okH_bounds h1
      have s1 := orgN_size (s := o.record.source) (k := o.record.key) (by unfold I64; omega)
      have s2 := itoaS_size (n := o.record.version) (by unfold I64; omega)
      simp only [ByteArray.size_append]
      omega
    · rw [fmtO_3 h k, ByteArray.size_append]; omega
    · rw [fmtO_4 h k, ByteArray.size_append]; omega
  · rw [fmtO_no h]; exact Nat.zero_le _

set_option maxHeartbeats 400000 in
set_option maxRecDepth 20000 in
theorem impl_FormatOp (v : Value) (o : Op) (w : World) (h : OpAt w v o) (T : Tab w) :
    Calls Tryz.prog 38 #[v] w fun e w2 => e = .returned (.string (fmtO o)) ∧ Ext w w2 := by
  obtain ⟨f, rfl, hok, hs⟩ := h
  go_enter Tryz.func38, Tryz.ntmps38
  go_wp2_with fail
  refine (impl_IsValidOp _ o _ ⟨_, rfl, hok, hs.mono (by repeat (first | with_reducible exact Ext.refl _ | with_reducible assumption | with_reducible refine Ext.drew ?_ | with_reducible refine Ext.alloc ?_ _ | (refine Ext.setCell ?_ (by simp) _) | with_reducible refine Ext.trans ?_ (by with_reducible assumption)))⟩).mono ?_
  rintro e w2 ⟨rfl, x2⟩
  have ck0 : w2.cell? ⟨w.heap.size, 0, none⟩ = some (.int .i64 o.kind) := x2.box.1 0
  obtain ⟨⟨c5, c6, c7, c8⟩, ⟨c1, c2, c3, c4⟩⟩ := Op.boxes (o := o) (f := f) (T := 28) (w := w) x2
  have xw : Ext w w2 := ((Ext.refl _).alloc _).trans x2
  by_cases hv : okOp o = true
  · rw [hv]
    rcases okOp_kind hv with ⟨k, h1⟩ | ⟨k, h1⟩ | ⟨k, h1⟩ | ⟨k, h1⟩
    · have HF := hid (fmtO_1 hv k)
      have s1 := recT_size h1
      have HR := hid h1
      have HO := hid hok
      rw [k] at ck0
      clear hv h1 hok
      go_wp2_with fail
      refine (impl_formatRecord _ o.record _ ⟨_, rfl, HO.out.2.1, hs.mono xw⟩ HR.out (T.mono xw)).mono ?_
      rintro e w3 ⟨rfl, x3⟩
      go_wp2
      go_ret
      exact ⟨by rw [HF.out]; rfl, (by repeat (first | with_reducible exact Ext.refl _ | with_reducible assumption | with_reducible refine Ext.drew ?_ | with_reducible refine Ext.alloc ?_ _ | with_reducible refine Ext.trans ?_ (by with_reducible assumption)))⟩
    · have HF := hid (fmtO_2 hv k)
      have HO := hid hok
      have hb := (okH_bounds h1).1
      have s1 := orgN_size (s := o.record.source) hok.2.1.2.1
      have s2 := itoaS_size hok.2.1.2.2
      have HB := hid hb
      have z1 : ∀ q : ExtOf w2, q.1.cell? ⟨w.heap.size, 1, none⟩ = some (.int .i64 o.record.source) := fun q => q.2.cell c1
      have z2 : ∀ q : ExtOf w2, q.1.cell? ⟨w.heap.size, 2, none⟩ = some (.int .i64 o.record.key) := fun q => q.2.cell c2
      have z3 : ∀ q : ExtOf w2, q.1.cell? ⟨w.heap.size, 3, none⟩ = some (.int .i64 o.record.version) := fun q => q.2.cell c3
      have TZ : ∀ q : ExtOf w2, Tab q.1 := fun q => T.mono (xw.trans q.2)
      rw [k] at ck0
      clear hv h1 hok hb c1 c2 c3 c4 c5 c6 c7 c8
      go_wp2_with fail
      refine wp_region_ext (by kernel_rfl) (by kernel_rfl) ?_
      repeat (go_big_quiet_step (((first | (go_at_call 75; exact quiet_ext (impl_originName _ _ _ HB.out HO.out.2.1.2.1 (TZ _))) | (go_at_call 83; exact quiet_ext (impl_FormatInt _ _ HO.out.2.1.2.2 (TZ _)))))))
      refine wpQuiet_nil ?_
      rintro w3 ⟨⟨_, x3⟩, rfl⟩
      go_wp2
      go_ret
      exact ⟨by rw [HF.out]; rfl, (by repeat (first | with_reducible exact Ext.refl _ | with_reducible assumption | with_reducible refine Ext.drew ?_ | with_reducible refine Ext.alloc ?_ _ | with_reducible refine Ext.trans ?_ (by with_reducible assumption)))⟩
    · have HF := hid (fmtO_3 hv k)
      have s1 := fmtV_size ⟨o.verdict.a, o.verdict.b, o.verdict.same, o.verdict.time⟩
      rw [k] at ck0
      clear hv h1 hok
      go_wp2_with fail
      refine (impl_FormatVerdict _ _ _ _ _ (T.mono xw)).mono ?_
      rintro e w3 ⟨rfl, x3⟩
      go_wp2
      go_ret
      exact ⟨by rw [HF.out]; rfl, (by repeat (first | with_reducible exact Ext.refl _ | with_reducible assumption | with_reducible refine Ext.drew ?_ | with_reducible refine Ext.alloc ?_ _ | with_reducible refine Ext.trans ?_ (by with_reducible assumption)))⟩
    · have HF := hid (fmtO_4 hv k)
      have s1 := fmtV_size ⟨o.verdict.a, o.verdict.b, o.verdict.same, o.verdict.time⟩
      rw [k] at ck0
      clear hv h1 hok
      go_wp2_with fail
      refine (impl_FormatVerdict _ _ _ _ _ (T.mono xw)).mono ?_
      rintro e w3 ⟨rfl, x3⟩
      go_wp2
      go_ret
      exact ⟨by rw [HF.out]; rfl, (by repeat (first | with_reducible exact Ext.refl _ | with_reducible assumption | with_reducible refine Ext.drew ?_ | with_reducible refine Ext.alloc ?_ _ | with_reducible refine Ext.trans ?_ (by with_reducible assumption)))⟩
  · have hv' : okOp o = false := by simpa using hv
    rw [hv']
    have HF := hid (fmtO_no hv)
    clear hv hv'
    go_wp2
    go_ret
    exact ⟨by rw [HF.out]; rfl, (by repeat (first | with_reducible exact Ext.refl _ | with_reducible assumption | with_reducible refine Ext.drew ?_ | with_reducible refine Ext.alloc ?_ _ | with_reducible refine Ext.trans ?_ (by with_reducible assumption)))⟩
end Go.Proofs.YtfieimmlcopbhaaGreatDoor

namespace Go.Proofs.YtfieimmlcopbhaaGreatDoor
open Go.RowKit

noncomputable def pR (s : ByteArray) : Record × Bool := ans okRec fmtR ⟨0, 0, 0, []⟩ s
/-- the name's bytes; the head's -/
def oHd (s k : Int) : List UInt8 := UInt8.ofNat (97 + s.toNat) :: Go.Lib.itoa k
def rHd (r : Record) : List UInt8 := oHd r.source r.key ++ 46 :: Go.Lib.itoa r.version
theorem orgN_data (s k : Int) : (orgN s k).data.toList = oHd s k := by unfold orgN letter oHd; rw [app_data, itoaS_data]; rfl
theorem barF_data (h : ByteArray) (l : List ByteArray) : (barF h l).data.toList = h.data.toList ++ ((l.map (·.data.toList)).map fun y => 124 :: y).flatten := by
  unfold barF
  induction l generalizing h with
  | nil => simp
  | cons x xs ih => rw [List.foldl_cons, ih, app_data, app_data]; simp
theorem R_data {r : Record} (h : okRec r = true) : (recT r).data.toList = rHd r ++ ((r.fields.map (·.data.toList)).map fun y => 124 :: y).flatten := by
  rw [recT_bar h, barF_data, List.take_of_length_le (by have := okRec_len h; omega)]
  rw [app_data, app_data, orgN_data, itoaS_data]
  unfold rHd; simp
theorem let_lt {s : Int} (h : 0 ≤ s ∧ s ≤ 3) : (UInt8.ofNat (97 + s.toNat)).toNat = 97 + s.toNat := by rw [UInt8.toNat_ofNat']; omega
theorem oHd_no {s k : Int} (h : 0 ≤ s ∧ s ≤ 3) (c : UInt8) (h1 : isDg c = false) (h2 : c ≠ 45) (h3 : c.toNat < 97 ∨ 100 < c.toNat) : c ∉ oHd s k := by
  unfold oHd
  rw [List.mem_cons]
  rintro (e | e)
  · have := let_lt h
    rw [← e] at this; omega
  · exact itoa_no c h1 h2 k e
theorem rHd_124 {r : Record} (h : 0 ≤ r.source ∧ r.source ≤ 3) : (124 : UInt8) ∉ rHd r := by
  unfold rHd
  rw [List.mem_append, List.mem_cons]
  rintro (e | e | e)
  · exact oHd_no h 124 (by decide) (by decide) (by decide) e
  · exact absurd e (by decide)
  · exact itoa_no 124 (by decide) (by decide) _ e
theorem okRec_124 {r : Record} (h : okRec r = true) : ∀ y ∈ r.fields.map (·.data.toList), (124 : UInt8) ∉ y := fun y hy hm => by
  obtain ⟨f, hf, rfl⟩ := List.mem_map.1 hy
  unfold okRec at h
  simp only [Bool.and_eq_true] at h
  have h1 := List.all_eq_true.1 h.2 f hf
  unfold okF at h1
  rw [Bool.and_eq_true] at h1
  have h2 := List.all_eq_true.1 h1.1 124 hm
  exact absurd h2 (by decide)
theorem map_bs (l : List ByteArray) : (l.map (·.data.toList)).map bs = l := by
  rw [List.map_map]
  conv => rhs; rw [← List.map_id l]
  exact List.map_congr_left fun x _ => bs_mk x
theorem fmtR_yes {r : Record} (h : okRec r = true) : fmtR r = recT r := by unfold fmtR; rw [if_pos h]
theorem fmtR_ok {r : Record} {s : ByteArray} (h : fmtR r = s) (hs : s ≠ ⟨#[]⟩) : okRec r = true := by
  cases hv : okRec r with
  | true => rfl
  | false => exact absurd (by rw [← h]; unfold fmtR; rw [if_neg (by simp [hv])]) hs
theorem R_cut {r : Record} {s : ByteArray} (h : okRec r = true) (e : fmtR r = s) : pcs 124 s = bs (rHd r) :: r.fields := by
  subst e
  rw [fmtR_yes h]
  unfold pcs
  rw [R_data h, cutL_join 124 _ _ (rHd_124 (okH_bounds (okRec_H h)).1) (okRec_124 h), List.map_cons, map_bs]
theorem rHd_cut {r : Record} (h : okH r = true) : pcs 46 (bs (rHd r)) = [bs (oHd r.source r.key), bs (Go.Lib.itoa r.version)] := by
  rw [pcs_bs]; unfold rHd
  rw [cutL_hit (oHd_no (okH_bounds h).1 46 (by decide) (by decide) (by decide)), cutL_all (itoa_no 46 (by decide) (by decide) _)]; rfl
theorem oHd_size (s k : Int) : 2 ≤ (bs (oHd s k)).size := by
  rw [bs_size]; unfold oHd
  rw [List.length_cons]
  have : 0 < (Go.Lib.itoa k).length := by
    by_cases hn : k < 0
    · rw [itoa_neg hn]; simp
    · rw [itoa_nn hn]; exact decDigits_pos _
  omega
theorem okH_r {r : Record} (h : okH r = true) : pI (bs (Go.Lib.itoa r.key)) = (r.key, true) ∧ pI (bs (Go.Lib.itoa r.version)) = (r.version, true) := by
  obtain ⟨h1, h2, h3⟩ := okH_bounds h
  exact ⟨pI_itoa (by omega), pI_itoa (by omega)⟩
/-! the reference's road -/
theorem pR_no1 {s l0 : ByteArray} {ls : List ByteArray} (h : pcs 124 s = l0 :: ls) (k : ¬ (pcs 46 l0).length = 2) : pR s = (⟨0, 0, 0, []⟩, false) :=
  ans_no fun x h1 h2 => by
    have e := (R_cut h1 h2).symm.trans h
    injection e with e1 _
    exact k (by rw [← e1, rHd_cut (okRec_H h1)]; rfl)
theorem pR_no2 {s l0 h0 h1 : ByteArray} {ls : List ByteArray} (h : pcs 124 s = l0 :: ls) (k : pcs 46 l0 = [h0, h1]) (hs : h0.size < 2) : pR s = (⟨0, 0, 0, []⟩, false) :=
  ans_no fun x q1 q2 => by
    have e := (R_cut q1 q2).symm.trans h
    injection e with e1 _
    have e3 := (rHd_cut (okRec_H q1)).symm.trans (e1 ▸ k)
    injection e3 with e3 _
    have := oHd_size x.source x.key
    rw [e3] at this; omega
theorem pR_A1 {s l0 h0 h1 : ByteArray} {ls : List ByteArray} (h : pcs 124 s = l0 :: ls) (k : pcs 46 l0 = [h0, h1]) (b : UInt8) (hb : h0.data.toList[0]? = some b) :
    ∀ x, okRec x = true → fmtR x = s → x = ⟨(b.toNat : Int) - 97, (pI (bs (h0.data.toList.drop 1))).1, (pI h1).1, ls⟩ := fun x q1 q2 => by
  have e := (R_cut q1 q2).symm.trans h
  injection e with e1 e2
  have e3 := (rHd_cut (okRec_H q1)).symm.trans (e1 ▸ k)
  injection e3 with e3 e4
  injection e4 with e4 _
  have hH := okRec_H q1
  obtain ⟨r1, r2⟩ := okH_r hH
  rw [← e3, bs_data] at hb
  have hb2 : UInt8.ofNat (97 + x.source.toNat) = b := by unfold oHd at hb; simpa using hb
  have hs := let_lt (okH_bounds hH).1
  rw [hb2] at hs
  have e5 : (bs (oHd x.source x.key)).data.toList.drop 1 = Go.Lib.itoa x.key := by rw [bs_data]; rfl
  rw [← e3, e5, ← e4, r1, r2, ← e2, hs]
  have h0 := (okH_bounds hH).1
  have : ((97 + x.source.toNat : Nat) : Int) - 97 = x.source := by omega
  rw [this]
/-! the program's road -/
/-- readOrigin's answer -/
noncomputable def rO (s : ByteArray) : Int × Int × Bool :=
  match s.data.toList with
  | [] => (0, 0, false)
  | b :: l => (Go.Lib.indexByte [97, 98, 99, 100] b, (pI (bs l)).1, (pI (bs l)).2 && decide (0 ≤ Go.Lib.indexByte [97, 98, 99, 100] b) && inB (pI (bs l)).1 1 99)
theorem rO_oHd {s k : Int} (h : 0 ≤ s ∧ s ≤ 3) (h2 : 1 ≤ k ∧ k ≤ 99) : rO (bs (oHd s k)) = (s, k, true) := by
  unfold rO
  rw [bs_data]
  unfold oHd
  simp only
  have hk : pI (bs (Go.Lib.itoa k)) = (k, true) := pI_itoa (by omega)
  have hi : Go.Lib.indexByte [97, 98, 99, 100] (UInt8.ofNat (97 + s.toNat)) = s := by
    have hc : s = 0 ∨ s = 1 ∨ s = 2 ∨ s = 3 := by omega
    rcases hc with rfl | rfl | rfl | rfl <;> decide
  have hin : inB k 1 99 = true := by unfold inB; rw [decide_eq_true_eq]; exact h2
  rw [hk, hi, hin]
  simp [h.1]
theorem R_road {r : Record} {s : ByteArray} (h : okRec r = true) (e : fmtR r = s) :
    (Go.Lib.cut s.data.toList [124]).1 = rHd r ∧ pcs 124 (bs (Go.Lib.cut s.data.toList [124]).2.1) = r.fields := by
  subst e
  rw [fmtR_yes h, R_data h]
  have h4 := okRec_len h
  have hno := okRec_124 h
  have hb := rHd_124 (okH_bounds (okRec_H h)).1
  obtain ⟨f, fs, hf⟩ : ∃ f fs, r.fields = f :: fs := by
    cases hf : r.fields with
    | nil => rw [hf] at h4; simp at h4
    | cons f fs => exact ⟨f, fs, rfl⟩
  rw [hf] at hno ⊢
  rw [List.map_cons, List.map_cons, List.flatten_cons, List.cons_append, libcut_hit hb]
  refine ⟨rfl, ?_⟩
  rw [List.map_cons] at hno
  rw [pcs_bs, cutL_join 124 _ _ (hno _ (List.mem_cons_self ..)) (fun y hy => hno y (List.mem_cons_of_mem _ hy)), ← List.map_cons (f := fun x : ByteArray => x.data.toList), map_bs]
theorem rHd_road {r : Record} (h : okH r = true) : Go.Lib.cut (rHd r) [46] = (oHd r.source r.key, Go.Lib.itoa r.version, true) := by
  unfold rHd
  rw [libcut_hit (oHd_no (okH_bounds h).1 46 (by decide) (by decide) (by decide))]
theorem pR_A2 {s hd rest nm vs : ByteArray} (h1 : hd = bs (Go.Lib.cut s.data.toList [124]).1) (h2 : rest = bs (Go.Lib.cut s.data.toList [124]).2.1) (h3 : nm = bs (Go.Lib.cut hd.data.toList [46]).1) (h4 : vs = bs (Go.Lib.cut hd.data.toList [46]).2.1) :
    ∀ x, okRec x = true → fmtR x = s → x = ⟨(rO nm).1, (rO nm).2.1, (pI vs).1, pcs 124 rest⟩ ∧ (rO nm).2.2 = true ∧ (pI vs).2 = true := fun x q1 q2 => by
  obtain ⟨e1, e2⟩ := R_road q1 q2
  have hH := okRec_H q1
  obtain ⟨b1, b2, b3⟩ := okH_bounds hH
  have hd2 : hd.data.toList = rHd x := by rw [h1, bs_data, e1]
  rw [hd2, rHd_road hH] at h3 h4
  simp only at h3 h4
  rw [h3, h4, h2, e2, rO_oHd b1 b2, (okH_r hH).2]
  exact ⟨rfl, rfl, rfl⟩
end Go.Proofs.YtfieimmlcopbhaaGreatDoor

namespace Go.Proofs.YtfieimmlcopbhaaGreatDoor
open Go.RowKit

def zrec : Record := ⟨0, 0, 0, []⟩
def zop : Op := ⟨0, zrec, zeroVer⟩
noncomputable def pO (s : ByteArray) : Op × Bool := ans okOp fmtO zop s
def lPut : List UInt8 := [112, 117, 116]
def lDel : List UInt8 := [100, 101, 108, 101, 116, 101]
def lVer : List UInt8 := [118, 101, 114, 100, 105, 99, 116]
def lRet : List UInt8 := [114, 101, 116, 114, 97, 99, 116]
theorem w_put : wPut.data.toList = lPut ++ [32] := rfl
theorem w_del : wDel.data.toList = lDel ++ [32] := rfl
theorem w_ver : wVer.data.toList = lVer ++ [32] := rfl
theorem w_ret : wRet.data.toList = lRet ++ [32] := rfl

/-! a parser reads back what the formatter writes -/
theorem pR_hit {r : Record} (h : okRec r = true) : pR (recT r) = (r, true) := by
  have e := fmtR_yes h
  have hA := pR_A2 (s := recT r) rfl rfl rfl rfl
  have hr := (hA r h e).1
  exact ans_yes (c := r) (fun x h1 h2 => (hA x h1 h2).1.trans hr.symm) h e
theorem pV_hit {v : Verdict} (h : okV v = true) : pV (fmtV v) = (v, true) := by
  have hi : ∀ x, okV x = true → fmtV x = fmtV v → (Go.Lib.itoa x.a).length = (Go.Lib.itoa v.a).length := fun x h1 h2 => by
    have e1 := V_idx h1 h2
    have e2 := V_idx h rfl
    rw [e2] at e1; omega
  have hx : (fmtV v).data.toList[(Go.Lib.itoa v.a).length]? = some (sgn v.same) := (V_road h rfl).2.1
  have hr := (pV_A3 hi hx v h rfl).1
  exact ans_yes (c := v) (fun x h1 h2 => ((pV_A3 hi hx x h1 h2).1).trans hr.symm) h rfl

/-- the form of a valid operation -/
theorem zeroRec_eq {r : Record} (h : zeroRec r = true) : r = zrec := by
  unfold zeroRec at h
  simp only [Bool.and_eq_true, decide_eq_true_eq, beq_iff_eq] at h
  obtain ⟨⟨⟨h1, h2⟩, h3⟩, h4⟩ := h
  have h5 : r.fields = [] := List.length_eq_zero_iff.1 (by omega)
  cases r
  simp only at h1 h2 h3 h5
  subst h1; subst h2; subst h3; subst h5
  rfl
theorem O_form {o : Op} (h : okOp o = true) :
    (okRec o.record = true ∧ o = ⟨1, o.record, zeroVer⟩ ∧ (fmtO o).data.toList = lPut ++ 32 :: (recT o.record).data.toList) ∨
    (okH o.record = true ∧ o = ⟨2, ⟨o.record.source, o.record.key, o.record.version, []⟩, zeroVer⟩ ∧ (fmtO o).data.toList = lDel ++ 32 :: rHd o.record) ∨
    (okV o.verdict = true ∧ o = ⟨3, zrec, o.verdict⟩ ∧ (fmtO o).data.toList = lVer ++ 32 :: (fmtV o.verdict).data.toList) ∨
    (okV o.verdict = true ∧ o = ⟨4, zrec, o.verdict⟩ ∧ (fmtO o).data.toList = lRet ++ 32 :: (fmtV o.verdict).data.toList) := by
  by_cases k1 : o.kind = 1
  · refine .inl ?_
    have hf := fmtO_1 h k1
    rw [okOp_1 k1, Bool.and_eq_true] at h
    have hv := (eqB_iff _ _).1 h.2
    refine ⟨h.1, ?_, by rw [hf, app_data, w_put]; simp⟩
    cases o; simp only at k1 hv; subst k1; subst hv; rfl
  · by_cases k2 : o.kind = 2
    · refine .inr (.inl ?_)
      have hf := fmtO_2 h k2
      rw [okOp_2 k2, Bool.and_eq_true] at h
      have hv := (eqB_iff _ _).1 h.2
      have hg := h.1
      unfold goneR at hg
      rw [Bool.and_eq_true, beq_iff_eq] at hg
      have h5 : o.record.fields = [] := List.length_eq_zero_iff.1 (by omega)
      refine ⟨hg.1, ?_, ?_⟩
      · rcases o with ⟨k, ⟨a, b, c, d⟩, v⟩
        simp only at k2 hv h5
        subst k2; subst hv; subst h5; rfl
      · rw [hf, app_data, app_data, app_data, w_del, orgN_data, itoaS_data]
        unfold rHd; simp
    · by_cases k3 : o.kind = 3
      · refine .inr (.inr (.inl ?_))
        have hf := fmtO_3 h k3
        rw [okOp_3 (.inl k3), Bool.and_eq_true] at h
        have hz := zeroRec_eq h.2
        refine ⟨h.1, ?_, by rw [hf, app_data, w_ver]; simp⟩
        cases o; simp only at k3 hz; subst k3; subst hz; rfl
      · by_cases k4 : o.kind = 4
        · refine .inr (.inr (.inr ?_))
          have hf := fmtO_4 h k4
          rw [okOp_3 (.inr k4), Bool.and_eq_true] at h
          have hz := zeroRec_eq h.2
          refine ⟨h.1, ?_, by rw [hf, app_data, w_ret]; simp⟩
          cases o; simp only at k4 hz; subst k4; subst hz; rfl
        · rw [okOp_5 k1 k2 k3 k4] at h; cases h
theorem word_inj {a b r q : List UInt8} (ha : (32 : UInt8) ∉ a) (hb : (32 : UInt8) ∉ b) (h : a ++ 32 :: r = b ++ 32 :: q) : a = b ∧ r = q := by
  have e1 := libcut_hit (r := r) ha
  have e2 := libcut_hit (r := q) hb
  rw [h, e2] at e1
  injection e1 with e1 e3
  injection e3 with e3 _
  exact ⟨e1.symm, e3.symm⟩
theorem fmtO_ok {o : Op} {s : ByteArray} (h : fmtO o = s) (hs : s ≠ ⟨#[]⟩) : okOp o = true := by
  cases hv : okOp o with
  | true => rfl
  | false => exact absurd (by rw [← h, fmtO_no (by simp [hv])]) hs
/-- what an operation's text says to a parser that knows the word and the rest -/
def OSays (word rest : List UInt8) (x : Op) : Prop :=
  (word = lPut ∧ x = ⟨1, (pR (bs rest)).1, zeroVer⟩ ∧ (pR (bs rest)).2 = true) ∨
  (word = lDel ∧ x = ⟨2, ⟨x.record.source, x.record.key, x.record.version, []⟩, zeroVer⟩ ∧ pR (bs (rest ++ [124, 124, 124, 124])) = (⟨x.record.source, x.record.key, x.record.version, [bs [], bs [], bs [], bs []]⟩, true) ∧
    rO (bs (Go.Lib.cut rest [46]).1) = (x.record.source, x.record.key, true) ∧ pI (bs (Go.Lib.cut rest [46]).2.1) = (x.record.version, true)) ∨
  (word = lVer ∧ x = ⟨3, zrec, (pV (bs rest)).1⟩ ∧ (pV (bs rest)).2 = true) ∨
  (word = lRet ∧ x = ⟨4, zrec, (pV (bs rest)).1⟩ ∧ (pV (bs rest)).2 = true)
theorem O_says {s : ByteArray} {word rest : List UInt8} (hs : s.data.toList = word ++ 32 :: rest) (hw : (32 : UInt8) ∉ word) (x : Op) (h : okOp x = true) (e : fmtO x = s) : OSays word rest x := by
  subst e
  rcases O_form h with ⟨k, e1, e2⟩ | ⟨k, e1, e2⟩ | ⟨k, e1, e2⟩ | ⟨k, e1, e2⟩
  · obtain ⟨ew, er⟩ := word_inj hw (by decide) (hs.symm.trans e2)
    refine .inl ⟨ew, ?_, ?_⟩
    · rw [er, bs_mk, pR_hit k]; exact e1
    · rw [er, bs_mk, pR_hit k]
  · obtain ⟨ew, er⟩ := word_inj hw (by decide) (hs.symm.trans e2)
    refine .inr (.inl ⟨ew, e1, ?_, ?_, ?_⟩)
    · have hk : okRec ⟨x.record.source, x.record.key, x.record.version, [bs [], bs [], bs [], bs []]⟩ = true := by
        unfold okRec
        rw [Bool.and_eq_true, Bool.and_eq_true]
        exact ⟨⟨by unfold okH at k ⊢; exact k, rfl⟩, rfl⟩
      have hh := pR_hit hk
      have hd := R_data hk
      rw [← hh, er]
      congr 1
      rw [← bs_mk (recT _), hd]
      congr 1
    · rw [er, rHd_road k, rO_oHd (okH_bounds k).1 (okH_bounds k).2.1]
    · rw [er, rHd_road k, (okH_r k).2]
  · obtain ⟨ew, er⟩ := word_inj hw (by decide) (hs.symm.trans e2)
    refine .inr (.inr (.inl ⟨ew, ?_, ?_⟩))
    · rw [er, bs_mk, pV_hit k]; exact e1
    · rw [er, bs_mk, pV_hit k]
  · obtain ⟨ew, er⟩ := word_inj hw (by decide) (hs.symm.trans e2)
    refine .inr (.inr (.inr ⟨ew, ?_, ?_⟩))
    · rw [er, bs_mk, pV_hit k]; exact e1
    · rw [er, bs_mk, pV_hit k]
theorem O_nosp {s : ByteArray} (hs : (32 : UInt8) ∉ s.data.toList) (x : Op) (h : okOp x = true) (e : fmtO x = s) : False := by
  subst e
  rcases O_form h with ⟨_, _, e2⟩ | ⟨_, _, e2⟩ | ⟨_, _, e2⟩ | ⟨_, _, e2⟩ <;> (rw [e2] at hs; simp at hs)
/-- no byte ';' in an operation's text -/
theorem vHd_59 (v : Verdict) : (59 : UInt8) ∉ vHd v := by
  unfold vHd
  rw [List.mem_append, List.mem_cons]
  rintro (h | h | h)
  · exact itoa_no 59 (by decide) (by decide) _ h
  · revert h; unfold sgn; split <;> decide
  · exact itoa_no 59 (by decide) (by decide) _ h
theorem fmtV_59 {v : Verdict} (h : okV v = true) : (59 : UInt8) ∉ (fmtV v).data.toList := by
  rw [V_data2 h, List.mem_append, List.mem_cons]
  rintro (e | e | e)
  · exact vHd_59 v e
  · exact absurd e (by decide)
  · exact itoa_no 59 (by decide) (by decide) _ e
theorem rHd_59 {r : Record} (h : okH r = true) : (59 : UInt8) ∉ rHd r := by
  unfold rHd
  rw [List.mem_append, List.mem_cons]
  rintro (e | e | e)
  · exact oHd_no (okH_bounds h).1 59 (by decide) (by decide) (by decide) e
  · exact absurd e (by decide)
  · exact itoa_no 59 (by decide) (by decide) _ e
theorem recT_59 {r : Record} (h : okRec r = true) : (59 : UInt8) ∉ (recT r).data.toList := by
  rw [R_data h, List.mem_append]
  rintro (e | e)
  · exact rHd_59 (okRec_H h) e
  · obtain ⟨l, hl, he⟩ := List.mem_flatten.1 e
    obtain ⟨y, hy, rfl⟩ := List.mem_map.1 hl
    rcases List.mem_cons.1 he with he | he
    · exact absurd he (by decide)
    · obtain ⟨f, hf, rfl⟩ := List.mem_map.1 hy
      unfold okRec at h
      simp only [Bool.and_eq_true] at h
      have h1 := List.all_eq_true.1 h.2 f hf
      unfold okF at h1
      rw [Bool.and_eq_true] at h1
      exact absurd (List.all_eq_true.1 h1.1 59 he) (by decide)
theorem fmtO_59 {o : Op} (h : okOp o = true) : (59 : UInt8) ∉ (fmtO o).data.toList := by
  have key : ∀ (w r : List UInt8), (59 : UInt8) ∉ w → (59 : UInt8) ∉ r → (59 : UInt8) ∉ w ++ 32 :: r := fun w r h1 h2 hm => by
    rw [List.mem_append, List.mem_cons] at hm
    rcases hm with e | e | e
    · exact h1 e
    · exact absurd e (by decide)
    · exact h2 e
  rcases O_form h with ⟨k, _, e2⟩ | ⟨k, _, e2⟩ | ⟨k, _, e2⟩ | ⟨k, _, e2⟩ <;> rw [e2]
  · exact key _ _ (by decide) (recT_59 k)
  · exact key _ _ (by decide) (rHd_59 k)
  · exact key _ _ (by decide) (fmtV_59 k)
  · exact key _ _ (by decide) (fmtV_59 k)
theorem pO_hit {o : Op} (h : okOp o = true) : pO (fmtO o) = (o, true) := by
  refine ans_yes (c := o) (fun x h1 h2 => ?_) h rfl
  have key : ∀ (w r : List UInt8), (fmtO o).data.toList = w ++ 32 :: r → (32 : UInt8) ∉ w → x = o := fun w r e1 e2 => by
    have a := O_says e1 e2 x h1 h2
    have b := O_says e1 e2 o h rfl
    have n1 : lPut ≠ lDel := by decide
    have n2 : lPut ≠ lVer := by decide
    have n3 : lPut ≠ lRet := by decide
    have n4 : lDel ≠ lVer := by decide
    have n5 : lDel ≠ lRet := by decide
    have n6 : lVer ≠ lRet := by decide
    rcases a with ⟨w1, a1, _⟩ | ⟨w1, a1, a2, _⟩ | ⟨w1, a1, _⟩ | ⟨w1, a1, _⟩ <;> rcases b with ⟨w2, b1, _⟩ | ⟨w2, b1, b2, _⟩ | ⟨w2, b1, _⟩ | ⟨w2, b1, _⟩ <;> rw [w1] at w2
    · exact a1.trans b1.symm
    · exact absurd w2 n1
    · exact absurd w2 n2
    · exact absurd w2 n3
    · exact absurd w2.symm n1
    · rw [a2] at b2
      injection b2 with b2 _
      injection b2 with c1 c2 c3 _
      rw [a1, b1, c1, c2, c3]
    · exact absurd w2 n4
    · exact absurd w2 n5
    · exact absurd w2.symm n2
    · exact absurd w2.symm n4
    · exact a1.trans b1.symm
    · exact absurd w2 n6
    · exact absurd w2.symm n3
    · exact absurd w2.symm n5
    · exact absurd w2.symm n6
    · exact a1.trans b1.symm
  rcases O_form h with ⟨_, _, e2⟩ | ⟨_, _, e2⟩ | ⟨_, _, e2⟩ | ⟨_, _, e2⟩
  · exact key _ _ e2 (by decide)
  · exact key _ _ e2 (by decide)
  · exact key _ _ e2 (by decide)
  · exact key _ _ e2 (by decide)
end Go.Proofs.YtfieimmlcopbhaaGreatDoor

namespace Go.Proofs.YtfieimmlcopbhaaGreatDoor
open Go.RowKit

theorem cmpI_anti (a b : Int) : cmpI b a = -cmpI a b := by unfold cmpI; split <;> split <;> (try split) <;> (try split) <;> omega
theorem bless_asym : ∀ {x y : List UInt8}, Op.bytesLess x y = true → Op.bytesLess y x = false
  | [], [], h => by simp [Op.bytesLess] at h
  | _ :: _, [], h => by simp [Op.bytesLess] at h
  | [], _ :: _, _ => by simp [Op.bytesLess]
  | a :: x, b :: y, h => by
    have ih := @bless_asym x y
    simp only [Op.bytesLess, Bool.or_eq_true, Bool.and_eq_true, decide_eq_true_eq, beq_iff_eq] at h
    simp only [Op.bytesLess, Bool.or_eq_false_iff, Bool.and_eq_false_iff, decide_eq_false_iff_not, beq_eq_false_iff_ne]
    rcases h with h | ⟨h, h2⟩
    · have h' := UInt8.lt_iff_toNat_lt.1 h
      exact ⟨fun k => by have := UInt8.lt_iff_toNat_lt.1 k; omega, .inl fun e => by rw [e] at h'; omega⟩
    · subst h
      exact ⟨fun k => by have := UInt8.lt_iff_toNat_lt.1 k; omega, .inr (ih h2)⟩
theorem bless_tri : ∀ {x y : List UInt8}, Op.bytesLess x y = false → ¬ x = y → Op.bytesLess y x = true
  | [], [], _, h => absurd rfl h
  | _ :: _, [], _, _ => by simp [Op.bytesLess]
  | [], _ :: _, h, _ => by simp [Op.bytesLess] at h
  | a :: x, b :: y, h, hn => by
    have ih := @bless_tri x y
    simp only [Op.bytesLess, Bool.or_eq_false_iff, Bool.and_eq_false_iff, decide_eq_false_iff_not, beq_eq_false_iff_ne] at h
    simp only [Op.bytesLess, Bool.or_eq_true, Bool.and_eq_true, decide_eq_true_eq, beq_iff_eq]
    by_cases e : a = b
    · subst e
      refine .inr ⟨rfl, ih ?_ fun e => hn (by rw [e])⟩
      rcases h.2 with h2 | h2
      · exact absurd rfl h2
      · exact h2
    · refine .inl (UInt8.lt_iff_toNat_lt.2 ?_)
      have h1 : ¬ a.toNat < b.toNat := fun k => h.1 (UInt8.lt_iff_toNat_lt.2 k)
      have h2 : ¬ a.toNat = b.toNat := fun k => e (UInt8.toNat_inj.1 k)
      omega
theorem toList_inj2 {a b : ByteArray} (h : a.toList = b.toList) : a = b := toList_inj (by simp [h])
theorem cmpS_anti (a b : ByteArray) : cmpS b a = -cmpS a b := by
  by_cases e : a = b
  · subst e; rw [cmpS_zero.2 rfl]; rfl
  · have hn : ¬ a.toList = b.toList := fun k => e (toList_inj2 k)
    cases h : Op.bytesLess a.toList b.toList with
    | true =>
      rw [cmpS_lt h, cmpS_gt (bless_asym h) (by rw [beq_eq_false_iff_ne]; exact fun k => hn k.symm)]; rfl
    | false => rw [cmpS_gt h (by rw [beq_eq_false_iff_ne]; exact hn), cmpS_lt (bless_tri h hn)]
theorem cmpSL_anti : ∀ xs ys : List ByteArray, cmpSL ys xs = -cmpSL xs ys
  | [], [] => rfl
  | [], _ :: _ => rfl
  | _ :: _, [] => rfl
  | x :: xs, y :: ys => by
    rw [cmpSL, cmpSL, cmpS_anti x y, cmpSL_anti xs ys]
    by_cases h : cmpS x y = 0
    · rw [if_pos h, if_pos (by omega)]
    · rw [if_neg h, if_neg (by omega)]
theorem firstNZ_anti (l : List Int) : firstNZ (l.map fun x => -x) = -firstNZ l := by
  induction l with
  | nil => rfl
  | cons a l ih =>
    rw [List.map_cons, firstNZ_cons, firstNZ_cons, ih]
    by_cases h : a = 0
    · rw [if_pos h, if_pos (by omega)]
    · rw [if_neg h, if_neg (by omega)]
theorem cmpO_anti (x y : Record) : cmpO y x = -cmpO x y := by
  unfold cmpO
  rw [← firstNZ_anti, cmpI_anti x.source, cmpI_anti x.key]; rfl
theorem cmpR_anti (x y : Record) : cmpR y x = -cmpR x y := by
  unfold cmpR
  rw [← firstNZ_anti, cmpO_anti x y, cmpI_anti x.version, cmpSL_anti x.fields]; rfl
theorem cmpSL_bd : ∀ (xs ys : List ByteArray), -1 ≤ cmpSL xs ys ∧ cmpSL xs ys ≤ 1
  | [], [] => by simp [cmpSL]
  | [], _ :: _ => by simp [cmpSL]
  | _ :: _, [] => by simp [cmpSL]
  | x :: xs, y :: ys => by
    have := cmpSL_bd xs ys
    rw [cmpSL]
    unfold cmpS
    split <;> (try split) <;> (try split) <;> omega
theorem firstNZ_bd1 : ∀ l : List Int, (∀ x ∈ l, -1 ≤ x ∧ x ≤ 1) → -1 ≤ firstNZ l ∧ firstNZ l ≤ 1
  | [], _ => by simp [firstNZ]
  | a :: l, h => by
    rw [firstNZ_cons]
    split
    · exact firstNZ_bd1 l fun x hx => h x (List.mem_cons_of_mem _ hx)
    · exact h a (List.mem_cons_self ..)
theorem cmpI_bd (a b : Int) : -1 ≤ cmpI a b ∧ cmpI a b ≤ 1 := by unfold cmpI; split <;> (try split) <;> omega
theorem cmpR_bd (x y : Record) : -1 ≤ cmpR x y ∧ cmpR x y ≤ 1 := by
  unfold cmpR cmpO
  refine firstNZ_bd1 _ fun z hz => ?_
  simp only [List.mem_cons, List.not_mem_nil, or_false] at hz
  rcases hz with rfl | rfl | rfl
  · refine firstNZ_bd1 _ fun z hz => ?_
    simp only [List.mem_cons, List.not_mem_nil, or_false] at hz
    rcases hz with rfl | rfl <;> exact cmpI_bd _ _
  · exact cmpI_bd _ _
  · exact cmpSL_bd _ _
/-- a right record is read back from its text -/
theorem pR_self {r : Record} (h : okRec r = true) : pR (fmtR r) = (r, true) := by
  have A := pR_A1 (R_cut h rfl) (rHd_cut (okRec_H h)) (UInt8.ofNat (97 + r.source.toNat)) (by rw [bs_data]; rfl)
  exact ans_yes (fun x h1 h2 => (A x h1 h2).trans (A r h rfl).symm) h rfl
theorem pR_nil : pR ⟨#[]⟩ = (⟨0, 0, 0, []⟩, false) := ans_no fun x h1 h2 => by
  have e := R_data h1
  rw [← fmtR_yes h1, h2] at e
  have : rHd x ≠ [] := by unfold rHd oHd; simp
  cases hr : rHd x with
  | nil => exact this hr
  | cons a l => rw [hr] at e; simp at e
theorem fmtR_no {r : Record} (h : okRec r = false) : fmtR r = ⟨#[]⟩ := by unfold fmtR; rw [if_neg (by simp [h])]
end Go.Proofs.YtfieimmlcopbhaaGreatDoor
