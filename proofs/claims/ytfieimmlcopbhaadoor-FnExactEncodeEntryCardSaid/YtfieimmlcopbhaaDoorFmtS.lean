/-
  WALKS: the reference's FormatRecord.
-/
import Derived.Test.YtfieimmlcopbhaaDoorFmtR2
namespace Go.Proofs.YtfieimmlcopbhaaDoor
open Go.RowKit

/-- a bar and a field for each field -/
def barF (h : ByteArray) (l : List ByteArray) : ByteArray := l.foldl (fun s x => s ++ ⟨#[124]⟩ ++ x) h
theorem barF_step (h : ByteArray) (l : List ByteArray) (k : Nat) (hk : k < l.length) : barF h (l.take (k + 1)) = barF h (l.take k) ++ ⟨#[124]⟩ ++ l[k] := by
  unfold barF
  rw [List.take_succ_eq_append_getElem hk, List.foldl_append]; rfl
theorem barF_join (h : ByteArray) (l : List ByteArray) : ∀ k, 0 < k → k ≤ l.length → barF h (l.take k) = h ++ ⟨#[124]⟩ ++ joinS (l.take k) ⟨#[124]⟩ := by
  intro k
  induction k with
  | zero => intro h0; omega
  | succ k ih =>
    intro _ hk
    rw [barF_step h l k (by omega), joinS_step l k (by omega)]
    split
    · rename_i h0
      rw [ih h0 (by omega)]
      simp only [ByteArray.append_assoc]
    · rename_i h0
      have : k = 0 := by omega
      subst this
      rfl
theorem barF_size (h : ByteArray) (l : List ByteArray) (hl : ∀ s ∈ l, s.size ≤ 40) : ∀ k, k ≤ l.length → (barF h (l.take k)).size ≤ h.size + 41 * k := by
  intro k
  induction k with
  | zero => intro _; exact Nat.le_refl _
  | succ k ih =>
    intro hk
    rw [barF_step h l k (by omega), ByteArray.size_append, ByteArray.size_append]
    have h1 := ih (by omega)
    have h2 := hl l[k] (List.getElem_mem _)
    have e1 : (⟨#[124]⟩ : ByteArray).size = 1 := rfl
    omega
theorem recT_bar {r : Record} (h : okRec r = true) : recT r = barF (orgN r.source r.key ++ ⟨#[46]⟩ ++ itoaS r.version) (r.fields.take 4) := by
  have h4 := okRec_len h
  rw [barF_join _ _ 4 (by omega) (by omega), List.take_of_length_le (by omega)]
  rfl

set_option maxHeartbeats 400000 in
set_option maxRecDepth 20000 in
theorem spec_FormatRecord (v : Value) (r : Record) (w : World) (h : RecAt w v r) :
    Calls Tryd.prog 51 #[v] w fun e w2 => e = .returned (.string (fmtR r)) ∧ Ext w w2 := by
  obtain ⟨f, rfl, hI, hs⟩ := h
  obtain ⟨A, cap, rfl, hm⟩ := hs.form
  have HB := hid (show ∀ W, Ext (w.alloc (.cells #[.int .i64 r.source, .int .i64 r.key, .int .i64 r.version, .slice A r.fields.length cap] 51)) W → W.cell? ⟨w.heap.size, 0, none⟩ = some (.int .i64 r.source) ∧ W.cell? ⟨w.heap.size, 1, none⟩ = some (.int .i64 r.key) ∧ W.cell? ⟨w.heap.size, 2, none⟩ = some (.int .i64 r.version) ∧ W.cell? ⟨w.heap.size, 3, none⟩ = some (.slice A r.fields.length cap) from fun W z => ⟨z.box.1 0, z.box.1 1, z.box.1 2, z.box.1 3⟩)
  go_enter Tryd.func51, Tryd.ntmps51
  go_wp2_with fail
  refine (spec_IsValidRecord _ r _ ⟨_, rfl, hI, hs.mono (by repeat (first | with_reducible exact Ext.refl _ | with_reducible assumption | with_reducible refine Ext.drew ?_ | with_reducible refine Ext.alloc ?_ _ | (refine Ext.setCell ?_ (by simp) _) | with_reducible refine Ext.trans ?_ (by with_reducible assumption)))⟩).mono ?_
  rintro e w1 ⟨rfl, x1⟩
  have xw : Ext w w1 := ((Ext.refl _).alloc _).trans x1
  cases hok : okRec r with
  | false =>
    have hr := hid (show fmtR r = ⟨#[]⟩ by unfold fmtR; rw [if_neg (by simp [hok])])
    go_wp2
    go_ret
    exact ⟨by rw [hr.out]; rfl, xw⟩
  | true =>
    have hr := hid (show fmtR r = recT r by unfold fmtR; rw [if_pos hok])
    have hn := hid (show recN r = orgN r.source r.key by unfold recN; rw [if_pos hok])
    have hrt := hid (recT_bar hok)
    have hF := hid (okRec_F hok)
    have H4 := hid (okRec_len hok)
    have z0 : ∀ q : ExtOf w1, q.1.cell? ⟨w.heap.size, 0, none⟩ = some (.int .i64 r.source) := fun q => (HB.out _ (x1.trans q.2)).1
    have z1 : ∀ q : ExtOf w1, q.1.cell? ⟨w.heap.size, 1, none⟩ = some (.int .i64 r.key) := fun q => (HB.out _ (x1.trans q.2)).2.1
    have z2 : ∀ q : ExtOf w1, q.1.cell? ⟨w.heap.size, 2, none⟩ = some (.int .i64 r.version) := fun q => (HB.out _ (x1.trans q.2)).2.2.1
    have z3 : ∀ q : ExtOf w1, q.1.cell? ⟨w.heap.size, 3, none⟩ = some (.slice A r.fields.length cap) := fun q => (HB.out _ (x1.trans q.2)).2.2.2
    have RZ := hid (show ∀ q : ExtOf w1, RecAt q.1 (.agg #[.int .i64 r.source, .int .i64 r.key, .int .i64 r.version, .slice A r.fields.length cap]) r from fun q => ⟨_, rfl, hI, hs.mono (xw.trans q.2)⟩)
    have HI := hid hI
    have s1 := orgN_size (s := r.source) hI.2.1
    have s2 := itoaS_size hI.2.2
    rw [← hn.out] at s1
    have e46 : (⟨#[46]⟩ : ByteArray).size = 1 := rfl
    have q1 := run_cat (P := Tryd.prog) 9 (recN r) ⟨#[46]⟩ (by omega)
    have q2 := run_cat (P := Tryd.prog) 9 (recN r ++ ⟨#[46]⟩) (itoaS r.version) (by rw [ByteArray.size_append]; omega)
    clear hI hok
    go_wp2_with fail
    refine wp_region_ext (by kernel_rfl) (by kernel_rfl) ?_
    repeat (go_big_quiet_step (((first | (go_at_call 77; exact quiet_ext (spec_RecordName _ r _ (RZ.out _))) | (go_at_call 30; exact quiet_ext (spec_FormatInt _ _ HI.out.2.2))))))
    refine wpQuiet_nil ?_
    rintro w5 ⟨⟨_, x5⟩, rfl⟩
    have hy := x1.trans x5
    have HS0 := hid (show (recN r ++ ⟨#[46]⟩ ++ itoaS r.version).size ≤ 42 by rw [ByteArray.size_append, ByteArray.size_append]; omega)
    obtain ⟨hd, hhd⟩ : ∃ hd, recN r ++ ⟨#[46]⟩ ++ itoaS r.version = hd := ⟨_, rfl⟩
    rw [hhd] at HS0 ⊢
    have hrt2 : Hid (recT r = barF hd (r.fields.take 4)) := hid (by rw [← hhd, hn.out]; exact hrt.out)
    clear hhd q1 q2
    go_wp2
    go_loopw [3, 4] (fun t i wr => ∃ k : Nat, k ≤ r.fields.length ∧ i = .int .i64 k ∧ t = .string (barF hd (r.fields.take k)) ∧ Ext w1 wr) (fun _ i _ => r.fields.length - (intOf i).toNat)
    case atStart => exact ⟨0, Nat.zero_le _, rfl, rfl, x5⟩
    case round =>
      obtain ⟨k, hk, rfl, rfl, hx⟩ := hrel
      obtain ⟨b0, b1, b2, b3⟩ := HB.out _ (x1.trans hx)
      by_cases hlt : k < r.fields.length
      · obtain ⟨b, off, rfl, hi, hc0⟩ := hs.str hlt
        have hc := (xw.trans hx).cell hc0
        have hsz := barF_size hd r.fields hF.out k hk
        have hs0 := HS0.out
        have h4 := H4.out
        have hf4 := hF.out _ (List.getElem_mem hlt)
        have hk4 : k ≤ 4 := by omega
        have e124 : (⟨#[124]⟩ : ByteArray).size = 1 := rfl
        have hstep := hid (barF_step hd r.fields k hlt)
        clear h4 hc0
        go_wp2
        go_roundw
        case rel => exact ⟨k + 1, by omega, by go_num, by rw [hstep.out], hx⟩
        case measure => simp [intOf]; omega
      · have hk4 : Hid (k = 4) := hid (by have := H4.out; omega)
        go_wp2
        go_ret
        exact ⟨by rw [hr.out, hrt2.out, hk4.out]; rfl, xw.trans hx⟩
end Go.Proofs.YtfieimmlcopbhaaDoor
