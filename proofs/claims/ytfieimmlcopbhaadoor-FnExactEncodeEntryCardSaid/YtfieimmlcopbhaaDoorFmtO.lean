/-
  WALKS: FormatOp (both).
-/
import Derived.Test.YtfieimmlcopbhaaDoorFmtR2
import Derived.Test.YtfieimmlcopbhaaDoorFmtV
import Derived.Test.YtfieimmlcopbhaaDoorVOp
namespace Go.Proofs.YtfieimmlcopbhaaDoor
open Go.RowKit

/-- "put ", "delete ", "verdict ", "retract " -/
def wPut : ByteArray := ⟨#[112, 117, 116, 32]⟩
def wDel : ByteArray := ⟨#[100, 101, 108, 101, 116, 101, 32]⟩
def wVer : ByteArray := ⟨#[118, 101, 114, 100, 105, 99, 116, 32]⟩
def wRet : ByteArray := ⟨#[114, 101, 116, 114, 97, 99, 116, 32]⟩
/-- the text of an operation -/
noncomputable def fmtO (o : Op) : ByteArray :=
  if okOp o = true then
    if o.kind = 1 then wPut ++ recT o.record
    else if o.kind = 2 then wDel ++ orgN o.record.source o.record.key ++ ⟨#[46]⟩ ++ itoaS o.record.version
    else if o.kind = 3 then wVer ++ fmtV o.verdict
    else wRet ++ fmtV o.verdict
  else ⟨#[]⟩
theorem fmtO_no {o : Op} (h : ¬ okOp o = true) : fmtO o = ⟨#[]⟩ := by unfold fmtO; rw [if_neg h]
theorem fmtO_1 {o : Op} (h : okOp o = true) (k : o.kind = 1) : fmtO o = wPut ++ recT o.record := by unfold fmtO; rw [if_pos h, if_pos k]
theorem fmtO_2 {o : Op} (h : okOp o = true) (k : o.kind = 2) : fmtO o = wDel ++ orgN o.record.source o.record.key ++ ⟨#[46]⟩ ++ itoaS o.record.version := by unfold fmtO; rw [if_pos h, if_neg (by omega), if_pos k]
theorem fmtO_3 {o : Op} (h : okOp o = true) (k : o.kind = 3) : fmtO o = wVer ++ fmtV o.verdict := by unfold fmtO; rw [if_pos h, if_neg (by omega), if_neg (by omega), if_pos k]
theorem fmtO_4 {o : Op} (h : okOp o = true) (k : o.kind = 4) : fmtO o = wRet ++ fmtV o.verdict := by unfold fmtO; rw [if_pos h, if_neg (by omega), if_neg (by omega), if_neg (by omega)]
theorem okOp_kind {o : Op} (h : okOp o = true) : (o.kind = 1 ∧ okRec o.record = true) ∨ (o.kind = 2 ∧ okH o.record = true) ∨ (o.kind = 3 ∧ okV o.verdict = true) ∨ (o.kind = 4 ∧ okV o.verdict = true) := by
  by_cases h1 : o.kind = 1
  · rw [okOp_1 h1, Bool.and_eq_true] at h; exact .inl ⟨h1, h.1⟩
  · by_cases h2 : o.kind = 2
    · rw [okOp_2 h2, Bool.and_eq_true] at h
      refine .inr (.inl ⟨h2, ?_⟩)
      have := h.1
      unfold goneR at this
      rw [Bool.and_eq_true] at this
      exact this.1
    · by_cases h3 : o.kind = 3
      · rw [okOp_3 (.inl h3), Bool.and_eq_true] at h; exact .inr (.inr (.inl ⟨h3, h.1⟩))
      · by_cases h4 : o.kind = 4
        · rw [okOp_3 (.inr h4), Bool.and_eq_true] at h; exact .inr (.inr (.inr ⟨h4, h.1⟩))
        · rw [okOp_5 h1 h2 h3 h4] at h; cases h
theorem recT_size {r : Record} (h : okRec r = true) : (recT r).size ≤ 207 := by
  obtain ⟨_, h2, h3⟩ := okH_bounds (okRec_H h)
  have s1 := orgN_size (s := r.source) (k := r.key) (by unfold I64; omega)
  have s2 := itoaS_size (n := r.version) (by unfold I64; omega)
  have s3 := fields_size h
  have e1 : (⟨#[46]⟩ : ByteArray).size = 1 := rfl
  have e2 : (⟨#[124]⟩ : ByteArray).size = 1 := rfl
  unfold recT
  simp only [ByteArray.size_append, e1, e2]
  omega
theorem fmtO_size (o : Op) : (fmtO o).size ≤ 300 := by
  by_cases h : okOp o = true
  · have e1 : wPut.size = 4 := rfl
    have e2 : wDel.size = 7 := rfl
    have e3 : wVer.size = 8 := rfl
    have e4 : wRet.size = 8 := rfl
    have e5 : (⟨#[46]⟩ : ByteArray).size = 1 := rfl
    have hv := fmtV_size o.verdict
    rcases okOp_kind h with ⟨k, h1⟩ | ⟨k, h1⟩ | ⟨k, h1⟩ | ⟨k, h1⟩
    · rw [fmtO_1 h k, ByteArray.size_append]
      have := recT_size h1
      omega
    · rw [fmtO_2 h k]
      obtain ⟨_, h2, h3⟩ := okH_bounds h1
      have s1 := orgN_size (s := o.record.source) (k := o.record.key) (by unfold I64; omega)
      have s2 := itoaS_size (n := o.record.version) (by unfold I64; omega)
      simp only [ByteArray.size_append]
      omega
    · rw [fmtO_3 h k, ByteArray.size_append]; omega
    · rw [fmtO_4 h k, ByteArray.size_append]; omega
  · rw [fmtO_no h]; exact Nat.zero_le _

set_option maxHeartbeats 400000 in
set_option maxRecDepth 20000 in
theorem impl_FormatOp (v : Value) (o : Op) (w : World) (h : OpAt w v o) (T : Tab w) :
    Calls Tryd.prog 56 #[v] w fun e w2 => e = .returned (.string (fmtO o)) ∧ Ext w w2 := by
  obtain ⟨f, rfl, hok, hs⟩ := h
  go_enter Tryd.func56, Tryd.ntmps56
  go_wp2_with fail
  refine (impl_IsValidOp _ o _ ⟨_, rfl, hok, hs.mono (by repeat (first | with_reducible exact Ext.refl _ | with_reducible assumption | with_reducible refine Ext.drew ?_ | with_reducible refine Ext.alloc ?_ _ | (refine Ext.setCell ?_ (by simp) _) | with_reducible refine Ext.trans ?_ (by with_reducible assumption)))⟩).mono ?_
  rintro e w2 ⟨rfl, x2⟩
  have ck0 : w2.cell? ⟨w.heap.size, 0, none⟩ = some (.int .i64 o.kind) := x2.box.1 0
  obtain ⟨⟨c5, c6, c7, c8⟩, ⟨c1, c2, c3, c4⟩⟩ := Op.boxes (o := o) (f := f) (T := 53) (w := w) x2
  have xw : Ext w w2 := ((Ext.refl _).alloc _).trans x2
  by_cases hv : okOp o = true
  · rw [hv]
    rcases okOp_kind hv with ⟨k, h1⟩ | ⟨k, h1⟩ | ⟨k, h1⟩ | ⟨k, h1⟩
    · have HF := hid (fmtO_1 hv k)
      have s1 := recT_size h1
      have HR := hid h1
      have HO := hid hok
      rw [k] at ck0
      clear hv h1 hok
      go_wp2_with fail
      refine (impl_formatRecord _ o.record _ ⟨_, rfl, HO.out.2.1, hs.mono xw⟩ HR.out (T.mono xw)).mono ?_
      rintro e w3 ⟨rfl, x3⟩
      go_wp2
      go_ret
      exact ⟨by rw [HF.out]; rfl, (by repeat (first | with_reducible exact Ext.refl _ | with_reducible assumption | with_reducible refine Ext.drew ?_ | with_reducible refine Ext.alloc ?_ _ | with_reducible refine Ext.trans ?_ (by with_reducible assumption)))⟩
    · have HF := hid (fmtO_2 hv k)
      have HO := hid hok
      have hb := (okH_bounds h1).1
      have s1 := orgN_size (s := o.record.source) hok.2.1.2.1
      have s2 := itoaS_size hok.2.1.2.2
      have HB := hid hb
      have z1 : ∀ q : ExtOf w2, q.1.cell? ⟨w.heap.size, 1, none⟩ = some (.int .i64 o.record.source) := fun q => q.2.cell c1
      have z2 : ∀ q : ExtOf w2, q.1.cell? ⟨w.heap.size, 2, none⟩ = some (.int .i64 o.record.key) := fun q => q.2.cell c2
      have z3 : ∀ q : ExtOf w2, q.1.cell? ⟨w.heap.size, 3, none⟩ = some (.int .i64 o.record.version) := fun q => q.2.cell c3
      have TZ : ∀ q : ExtOf w2, Tab q.1 := fun q => T.mono (xw.trans q.2)
      rw [k] at ck0
      clear hv h1 hok hb c1 c2 c3 c4 c5 c6 c7 c8
      go_wp2_with fail
      refine wp_region_ext (by kernel_rfl) (by kernel_rfl) ?_
      repeat (go_big_quiet_step (((first | (go_at_call 85; exact quiet_ext (impl_originName _ _ _ HB.out HO.out.2.1.2.1 (TZ _))) | (go_at_call 33; exact quiet_ext (impl_FormatInt _ _ HO.out.2.1.2.2 (TZ _)))))))
      refine wpQuiet_nil ?_
      rintro w3 ⟨⟨_, x3⟩, rfl⟩
      go_wp2
      go_ret
      exact ⟨by rw [HF.out]; rfl, (by repeat (first | with_reducible exact Ext.refl _ | with_reducible assumption | with_reducible refine Ext.drew ?_ | with_reducible refine Ext.alloc ?_ _ | with_reducible refine Ext.trans ?_ (by with_reducible assumption)))⟩
    · have HF := hid (fmtO_3 hv k)
      have s1 := fmtV_size ⟨o.verdict.a, o.verdict.b, o.verdict.same, o.verdict.time⟩
      rw [k] at ck0
      clear hv h1 hok
      go_wp2_with fail
      refine (impl_FormatVerdict _ _ _ _ _ (T.mono xw)).mono ?_
      rintro e w3 ⟨rfl, x3⟩
      go_wp2
      go_ret
      exact ⟨by rw [HF.out]; rfl, (by repeat (first | with_reducible exact Ext.refl _ | with_reducible assumption | with_reducible refine Ext.drew ?_ | with_reducible refine Ext.alloc ?_ _ | with_reducible refine Ext.trans ?_ (by with_reducible assumption)))⟩
    · have HF := hid (fmtO_4 hv k)
      have s1 := fmtV_size ⟨o.verdict.a, o.verdict.b, o.verdict.same, o.verdict.time⟩
      rw [k] at ck0
      clear hv h1 hok
      go_wp2_with fail
      refine (impl_FormatVerdict _ _ _ _ _ (T.mono xw)).mono ?_
      rintro e w3 ⟨rfl, x3⟩
      go_wp2
      go_ret
      exact ⟨by rw [HF.out]; rfl, (by repeat (first | with_reducible exact Ext.refl _ | with_reducible assumption | with_reducible refine Ext.drew ?_ | with_reducible refine Ext.alloc ?_ _ | with_reducible refine Ext.trans ?_ (by with_reducible assumption)))⟩
  · have hv' : okOp o = false := by simpa using hv
    rw [hv']
    have HF := hid (fmtO_no hv)
    clear hv hv'
    go_wp2
    go_ret
    exact ⟨by rw [HF.out]; rfl, (by repeat (first | with_reducible exact Ext.refl _ | with_reducible assumption | with_reducible refine Ext.drew ?_ | with_reducible refine Ext.alloc ?_ _ | with_reducible refine Ext.trans ?_ (by with_reducible assumption)))⟩
end Go.Proofs.YtfieimmlcopbhaaDoor
