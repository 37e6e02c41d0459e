/-
  WALKS: EncodeEntry (both).
-/
import Derived.Test.YtfieimmlcopbhaaGreatDoorMgEndPB5
import Derived.Test.YtfieimmlcopbhaaGreatDoorMgEndPD0

namespace Go.Proofs.YtfieimmlcopbhaaGreatDoor
open Go.RowKit

/-- the text of an entry: version and batch, their checksum, a newline -/
noncomputable def encS (n : Int) (b : Batch) : ByteArray := itoaS n ++ batT b.ops
noncomputable def encE (n : Int) (b : Batch) : ByteArray :=
  if inB n 1 999 && okBat b then encS n b ++ itoaS (ck (encS n b).data.toList) ++ ⟨#[10]⟩ else ⟨#[]⟩
theorem encE_yes {n : Int} {b : Batch} (h : inB n 1 999 = true) (k : okBat b = true) : encE n b = encS n b ++ itoaS (ck (encS n b).data.toList) ++ ⟨#[10]⟩ := by unfold encE; rw [if_pos (by rw [h, k]; rfl)]
theorem encE_no1 {n : Int} {b : Batch} (h : inB n 1 999 = false) : encE n b = ⟨#[]⟩ := by unfold encE; rw [if_neg (by rw [h]; simp)]
theorem encE_no2 {n : Int} {b : Batch} (h : okBat b = false) : encE n b = ⟨#[]⟩ := by unfold encE; rw [if_neg (by rw [h]; simp)]
theorem batT_size {b : Batch} (h : okBat b = true) : (batT b.ops).size ≤ 1808 := by
  have hl := okBat_len h
  have hj := batJ_size b.ops hl b.ops.length
  rw [List.take_of_length_le (by rw [List.length_map]; omega)] at hj
  have e1 : (⟨#[91]⟩ : ByteArray).size = 1 := rfl
  have e2 : (⟨#[93]⟩ : ByteArray).size = 1 := rfl
  unfold batT
  simp only [ByteArray.size_append, e1, e2]
  omega

theorem fmtB_is {b : Batch} (h : okBat b = true) : fmtB b = batT b.ops := by unfold fmtB; rw [if_pos h]
theorem encS_size {n : Int} {b : Batch} (hn : I64 n) (h : okBat b = true) : (encS n b).size ≤ 1828 := by
  have h1 := batT_size h
  have h2 := itoaS_size hn
  unfold encS
  rw [ByteArray.size_append]; omega

set_option maxHeartbeats 400000 in
set_option maxRecDepth 20000 in
theorem spec_EncodeEntry (n : Int) (v : Value) (b : Batch) (w : World) (hn : I64 n) (h : BatAt w v b) :
    Calls Tryz.prog 60 #[.int .i64 n, v] w fun e w2 => e = .returned (.string (encE n b)) ∧ Ext w w2 := by
  obtain ⟨f, rfl, _, hs⟩ := h
  obtain ⟨A, cap, rfl, hm⟩ := hs.form
  have HN := hid hn
  have HB := hid (show ∀ W, Ext (w.alloc (.cells #[.slice A b.ops.length cap] 36)) W → W.cell? ⟨w.heap.size, 0, none⟩ = some (.slice A b.ops.length cap) from fun W z => z.box.1 0)
  have x0 : Ext w (w.alloc (.cells #[.slice A b.ops.length cap] 36)) := (Ext.refl _).alloc _
  have b00 := HB.out _ (Ext.refl _)
  clear hn
  go_enter Tryz.func60, Tryz.ntmps60
  go_wp2_with fail
  refine (spec_l1In _ _ _ _).mono ?_
  rintro e w0 ⟨rfl, rfl⟩
  cases hv : inB n 1 999 with
  | false =>
    have hr := hid (encE_no1 (b := b) hv)
    go_wp2
    go_ret
    exact ⟨by rw [hr.out]; rfl, x0⟩
  | true =>
    go_wp2_with fail
    refine (spec_IsValidBatch _ b _ ⟨_, rfl, trivial, hs.mono x0⟩).mono ?_
    rintro e w1 ⟨rfl, x1⟩
    have xw : Ext w w1 := x0.trans x1
    cases hok : okBat b with
    | false =>
      have hr := hid (encE_no2 (n := n) hok)
      go_wp2
      go_ret
      exact ⟨by rw [hr.out]; rfl, xw⟩
    | true =>
      have hr := hid (encE_yes hv hok)
      have s1 := itoaS_size HN.out
      have s2 := batT_size hok
      have s3 := encS_size HN.out hok
      have s4 := itoaS_size (n := ck (encS n b).data.toList) (by have := ck_bd (encS n b).data.toList; unfold I64; omega)
      have HC := hid (show I64 (ck (encS n b).data.toList) by have := ck_bd (encS n b).data.toList; unfold I64; omega)
      have HEN := hid (show itoaS n ++ batT b.ops = encS n b from rfl)
      have HFB := hid (fmtB_is hok)
      have HL6 := hid (okBat_len hok)
      have z0 : ∀ q : ExtOf w1, q.1.cell? ⟨w.heap.size, 0, none⟩ = some (.slice A b.ops.length cap) := fun q => HB.out _ (x1.trans q.2)
      have HS := hid (show ∀ q : ExtOf w1, Sl opR q.1 (.slice A b.ops.length cap) b.ops from fun q => hs.mono (xw.trans q.2))
      rw [← HFB.out] at s2 HEN
      clear hv hok hs hm
      go_wp2_with fail
      refine wp_region_ext (by kernel_rfl) (by kernel_rfl) ?_
      repeat (go_big_quiet_step (((first | (go_at_call 86; exact quiet_ext (spec_FormatInt _ _ HN.out)) | (go_at_call 34; exact quiet_ext (spec_FormatBatch _ b _ ⟨_, rfl, trivial, HS.out _⟩))))))
      refine wpQuiet_nil ?_
      rintro w2 ⟨⟨_, x2⟩, rfl⟩
      rw [HEN.out]
      have hck : (encS n b).size ≤ maxLen := by unfold maxLen; omega
      obtain ⟨E, hE⟩ : ∃ E, E = encS n b := ⟨_, rfl⟩
      rw [← hE] at s3 s4 HC hck ⊢
      have HE := hid hE
      clear hE
      go_wp2_with fail
      refine (spec_Checksum _ _ hck).mono ?_
      rintro e w3 ⟨rfl, rfl⟩
      go_wp2_with fail
      refine (spec_FormatInt _ _ HC.out).mono ?_
      rintro e w4 ⟨rfl, x4⟩
      go_wp2
      go_ret
      exact ⟨by rw [hr.out, ← HE.out]; rfl, (xw.trans x2).trans x4⟩

set_option maxHeartbeats 400000 in
set_option maxRecDepth 20000 in
theorem impl_EncodeEntry (n : Int) (v : Value) (b : Batch) (w : World) (hn : I64 n) (h : BatAt w v b) (T : Tab w) :
    Calls Tryz.prog 63 #[.int .i64 n, v] w fun e w2 => e = .returned (.string (encE n b)) ∧ Ext w w2 := by
  obtain ⟨f, rfl, _, hs⟩ := h
  obtain ⟨A, cap, rfl, hm⟩ := hs.form
  have HN := hid hn
  have HB := hid (show ∀ W, Ext (w.alloc (.cells #[.slice A b.ops.length cap] 36)) W → W.cell? ⟨w.heap.size, 0, none⟩ = some (.slice A b.ops.length cap) from fun W z => z.box.1 0)
  have x0 : Ext w (w.alloc (.cells #[.slice A b.ops.length cap] 36)) := (Ext.refl _).alloc _
  have b00 := HB.out _ (Ext.refl _)
  clear hn
  go_enter Tryz.func63, Tryz.ntmps63
  go_wp2_with fail
  refine (impl_within _ _ _ _).mono ?_
  rintro e w0 ⟨rfl, rfl⟩
  cases hv : inB n 1 999 with
  | false =>
    have hr := hid (encE_no1 (b := b) hv)
    go_wp2
    go_ret
    exact ⟨by rw [hr.out]; rfl, x0⟩
  | true =>
    go_wp2_with fail
    refine (impl_IsValidBatch _ b _ ⟨_, rfl, trivial, hs.mono x0⟩).mono ?_
    rintro e w1 ⟨rfl, x1⟩
    have xw : Ext w w1 := x0.trans x1
    cases hok : okBat b with
    | false =>
      have hr := hid (encE_no2 (n := n) hok)
      go_wp2
      go_ret
      exact ⟨by rw [hr.out]; rfl, xw⟩
    | true =>
      have hr := hid (encE_yes hv hok)
      have s1 := itoaS_size HN.out
      have s2 := batT_size hok
      have s3 := encS_size HN.out hok
      have s4 := itoaS_size (n := ck (encS n b).data.toList) (by have := ck_bd (encS n b).data.toList; unfold I64; omega)
      have HC := hid (show I64 (ck (encS n b).data.toList) by have := ck_bd (encS n b).data.toList; unfold I64; omega)
      have HEN := hid (show itoaS n ++ batT b.ops = encS n b from rfl)
      have HFB := hid (fmtB_is hok)
      have HL6 := hid (okBat_len hok)
      have z0 : ∀ q : ExtOf w1, q.1.cell? ⟨w.heap.size, 0, none⟩ = some (.slice A b.ops.length cap) := fun q => HB.out _ (x1.trans q.2)
      have HS := hid (show ∀ q : ExtOf w1, Sl opR q.1 (.slice A b.ops.length cap) b.ops from fun q => hs.mono (xw.trans q.2))
      have TZ : ∀ q : ExtOf w1, Tab q.1 := fun q => T.mono (xw.trans q.2)
      clear hv hok hs hm
      go_wp2_with fail
      refine wp_region_ext (by kernel_rfl) (by kernel_rfl) ?_
      repeat (go_big_quiet_step (((first | (go_at_call 83; exact quiet_ext (impl_FormatInt _ _ HN.out (TZ _))) | (go_at_call 78; exact quiet_ext (impl_formatBatch _ b _ ⟨_, rfl, trivial, HS.out _⟩ HL6.out (TZ _)))))))
      refine wpQuiet_nil ?_
      rintro w2 ⟨⟨_, x2⟩, rfl⟩
      rw [HEN.out]
      have hck : (encS n b).size ≤ maxLen := by unfold maxLen; omega
      obtain ⟨E, hE⟩ : ∃ E, E = encS n b := ⟨_, rfl⟩
      rw [← hE] at s3 s4 HC hck ⊢
      have HE := hid hE
      clear hE
      go_wp2_with fail
      refine (impl_Checksum _ _ hck).mono ?_
      rintro e w3 ⟨rfl, rfl⟩
      go_wp2_with fail
      refine (impl_FormatInt _ _ HC.out (T.mono (xw.trans x2))).mono ?_
      rintro e w4 ⟨rfl, x4⟩
      go_wp2
      go_ret
      exact ⟨by rw [hr.out, ← HE.out]; rfl, (xw.trans x2).trans x4⟩

theorem spec_EncodeEntryL (v : Value) (b : Batch) (n : Int) (w : World) (hn : I64 n) (h : BatAt w v b) :
    Calls Tryz.prog 60 #[.int .i64 n, v] w fun e w2 => e = .returned (.string (encE n b)) ∧ Ext w w2 := spec_EncodeEntry n v b w hn h
theorem impl_EncodeEntryL (v : Value) (b : Batch) (n : Int) (w : World) (hn : I64 n) (h : BatAt w v b) (T : Tab w) :
    Calls Tryz.prog 63 #[.int .i64 n, v] w fun e w2 => e = .returned (.string (encE n b)) ∧ Ext w w2 := impl_EncodeEntry n v b w hn h T
end Go.Proofs.YtfieimmlcopbhaaGreatDoor
