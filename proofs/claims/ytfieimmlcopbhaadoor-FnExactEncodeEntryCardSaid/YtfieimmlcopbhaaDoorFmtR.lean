/-
  WALKS: originName, RecordName, FormatRecord (both).
-/
import Derived.Test.YtfieimmlcopbhaaDoorJoin
import Derived.Test.YtfieimmlcopbhaaDoorVRec
import Derived.Test.YtfieimmlcopbhaaDoorReg
import Derived.Deep.RegionHeld3
namespace Go.Proofs.YtfieimmlcopbhaaDoor
open Go.RowKit

def letter (s : Int) : ByteArray := ⟨#[UInt8.ofNat (97 + s.toNat)]⟩
/-- the name of a record; its text -/
def orgN (s k : Int) : ByteArray := letter s ++ itoaS k
def recN (r : Record) : ByteArray := if okRec r = true then orgN r.source r.key else ⟨#[]⟩
def recT (r : Record) : ByteArray := orgN r.source r.key ++ ⟨#[46]⟩ ++ itoaS r.version ++ ⟨#[124]⟩ ++ joinS r.fields ⟨#[124]⟩
def fmtR (r : Record) : ByteArray := if okRec r = true then recT r else ⟨#[]⟩
theorem okH_bounds {r : Record} (h : okH r = true) : (0 ≤ r.source ∧ r.source ≤ 3) ∧ (1 ≤ r.key ∧ r.key ≤ 99) ∧ 1 ≤ r.version ∧ r.version ≤ 999 := by
  unfold okH inB at h
  simp only [Bool.and_eq_true, decide_eq_true_eq] at h
  exact ⟨h.1.1, h.1.2, h.2⟩
theorem okRec_H {r : Record} (h : okRec r = true) : okH r = true := by
  unfold okRec at h
  simp only [Bool.and_eq_true] at h
  exact h.1.1
theorem okRec_len {r : Record} (h : okRec r = true) : r.fields.length = 4 := by
  unfold okRec at h
  simp only [Bool.and_eq_true, beq_iff_eq] at h
  omega
theorem okRec_F {r : Record} (h : okRec r = true) : ∀ s ∈ r.fields, s.size ≤ 40 := fun s hs => by
  unfold okRec at h
  simp only [Bool.and_eq_true] at h
  have h1 := List.all_eq_true.1 h.2 s hs
  unfold okF okT at h1
  simp only [Bool.and_eq_true, decide_eq_true_eq] at h1
  exact h1.2.2
theorem letter_size (s : Int) : (letter s).size = 1 := rfl
theorem orgN_size {s k : Int} (h : I64 k) : (orgN s k).size ≤ 21 := by
  have := itoaS_size h
  unfold orgN
  rw [ByteArray.size_append, letter_size]; omega
theorem fields_size {r : Record} (h : okRec r = true) : (joinS r.fields ⟨#[124]⟩).size ≤ 164 := by
  have h1 := joinS_size 40 ⟨#[124]⟩ r.fields (okRec_F h)
  have e1 : (⟨#[124]⟩ : ByteArray).size = 1 := rfl
  rw [e1, okRec_len h] at h1
  omega

set_option maxHeartbeats 400000 in
set_option maxRecDepth 20000 in
theorem impl_originName (s k : Int) (w : World) (hs : 0 ≤ s ∧ s ≤ 3) (hk : I64 k) (T : Tab w) :
    Calls Tryd.prog 85 #[.int .i64 s, .int .i64 k] w fun e w2 => e = .returned (.string (orgN s k)) ∧ Ext w w2 := by
  have s1 := itoaS_size hk
  have TZ : ∀ q : ExtOf w, Tab q.1 := fun q => T.mono q.2
  have HK := hid hk
  clear hk
  have hc : s = 0 ∨ s = 1 ∨ s = 2 ∨ s = 3 := by omega
  clear hs
  rcases hc with rfl | rfl | rfl | rfl
  all_goals
    go_enter Tryd.func85, Tryd.ntmps85
    go_wp2_with fail
    refine wp_region_ext (by kernel_rfl) (by kernel_rfl) ?_
    repeat (go_big_quiet_step (((go_at_call 33; exact quiet_ext (impl_FormatInt _ _ HK.out (TZ _))))))
    refine wpQuiet_nil ?_
    rintro w1 ⟨⟨_, x1⟩, rfl⟩
    go_wp2
    go_ret
    exact ⟨rfl, (by repeat (first | with_reducible exact Ext.refl _ | with_reducible assumption | with_reducible refine Ext.drew ?_ | with_reducible refine Ext.alloc ?_ _ | with_reducible refine Ext.trans ?_ (by with_reducible assumption)))⟩

set_option maxHeartbeats 400000 in
set_option maxRecDepth 20000 in
theorem impl_formatRecord (v : Value) (r : Record) (w : World) (h : RecAt w v r) (hok : okRec r = true) (T : Tab w) :
    Calls Tryd.prog 84 #[v] w fun e w2 => e = .returned (.string (recT r)) ∧ Ext w w2 := by
  obtain ⟨f, rfl, ⟨i1, i2, i3⟩, hs⟩ := h
  obtain ⟨A, cap, rfl, hm⟩ := hs.form
  have hb := (okH_bounds (okRec_H hok)).1
  have s1 := orgN_size (s := r.source) i2
  have s2 := itoaS_size i3
  have s3 := fields_size hok
  have hl := okRec_len hok
  have z0 : ∀ q : ExtOf (w.alloc (.cells #[.int .i64 r.source, .int .i64 r.key, .int .i64 r.version, .slice A r.fields.length cap] 51)), q.1.cell? ⟨w.heap.size, 0, none⟩ = some (.int .i64 r.source) := fun q => q.2.box.1 0
  have z1 : ∀ q : ExtOf (w.alloc (.cells #[.int .i64 r.source, .int .i64 r.key, .int .i64 r.version, .slice A r.fields.length cap] 51)), q.1.cell? ⟨w.heap.size, 1, none⟩ = some (.int .i64 r.key) := fun q => q.2.box.1 1
  have z2 : ∀ q : ExtOf (w.alloc (.cells #[.int .i64 r.source, .int .i64 r.key, .int .i64 r.version, .slice A r.fields.length cap] 51)), q.1.cell? ⟨w.heap.size, 2, none⟩ = some (.int .i64 r.version) := fun q => q.2.box.1 2
  have z3 : ∀ q : ExtOf (w.alloc (.cells #[.int .i64 r.source, .int .i64 r.key, .int .i64 r.version, .slice A r.fields.length cap] 51)), q.1.cell? ⟨w.heap.size, 3, none⟩ = some (.slice A r.fields.length cap) := fun q => q.2.box.1 3
  have TZ : ∀ q : ExtOf (w.alloc (.cells #[.int .i64 r.source, .int .i64 r.key, .int .i64 r.version, .slice A r.fields.length cap] 51)), Tab q.1 := fun q => T.mono (((Ext.refl _).alloc _).trans q.2)
  have SZ : ∀ q : ExtOf (w.alloc (.cells #[.int .i64 r.source, .int .i64 r.key, .int .i64 r.version, .slice A r.fields.length cap] 51)), Sl strR q.1 (.slice A r.fields.length cap) r.fields := fun q => hs.mono (((Ext.refl _).alloc _).trans q.2)
  have HB := hid hb
  have H2 := hid i2
  have H3 := hid i3
  have HJ := hid (show r.fields.length ≤ 140737488355328 ∧ (joinS r.fields ⟨#[124]⟩).size ≤ 140737488355328 by omega)
  clear hb i1 i2 i3 hl hok
  go_enter Tryd.func84, Tryd.ntmps84
  go_wp2_with fail
  refine wp_region_ext (by kernel_rfl) (by kernel_rfl) ?_
  repeat (go_big_quiet_step (((first | (go_at_call 85; exact quiet_ext (impl_originName _ _ _ HB.out H2.out (TZ _))) | (go_at_call 33; exact quiet_ext (impl_FormatInt _ _ H3.out (TZ _))) | (go_at_call 57; exact quiet_ext (strings_Join_c _ r.fields ⟨#[124]⟩ _ (SZ _) HJ.out.1 HJ.out.2))))))
  refine wpQuiet_nil ?_
  rintro w1 ⟨⟨_, x1⟩, rfl⟩
  go_wp2
  go_ret
  exact ⟨rfl, (by repeat (first | with_reducible exact Ext.refl _ | with_reducible assumption | with_reducible refine Ext.drew ?_ | with_reducible refine Ext.alloc ?_ _ | with_reducible refine Ext.trans ?_ (by with_reducible assumption)))⟩

end Go.Proofs.YtfieimmlcopbhaaDoor
