/-
  THE LAW'S WALK: FnRecords.
-/
import Derived.Test.YtfieimmlcopbhaaGreatDoorMgEndFnRec22
import Derived.Test.YtfieimmlcopbhaaGreatDoorMgEndFnRec19
import Derived.Test.YtfieimmlcopbhaaGreatDoorMgEndFnRec11
import Derived.Test.YtfieimmlcopbhaaGreatDoorMgEndFnRec20
import Derived.Test.YtfieimmlcopbhaaGreatDoorMgEndFnRec5

namespace Go.Proofs.YtfieimmlcopbhaaGreatDoor
open Go.RowKit

theorem fmtR_size (r : Record) : (fmtR r).size ≤ 207 := by
  cases h : okRec r with
  | false => rw [fmtR_no h]; exact Nat.zero_le _
  | true => rw [fmtR_yes h]; exact recT_size h
/-- what the law asks of what is read back -/
theorem pR_back (r : Record) : (pR (fmtR r)).2 = okRec r ∧ ((pR (fmtR r)).2 = true → (pR (fmtR r)).1 = r) := by
  cases h : okRec r with
  | false => rw [fmtR_no h, pR_nil]; exact ⟨rfl, fun e => by cases e⟩
  | true => rw [pR_self h]; exact ⟨rfl, fun _ => rfl⟩
theorem recN_empty (r : Record) : (recN r).toList.isEmpty = !okRec r := by
  unfold recN
  cases h : okRec r with
  | false => rw [if_neg (by simp)]; simp [Lib.toList_data]
  | true =>
    rw [if_pos rfl]
    have e : (orgN r.source r.key).toList = oHd r.source r.key := by rw [Lib.toList_data, orgN_data]
    rw [e]; rfl

set_option maxHeartbeats 400000 in
set_option maxRecDepth 20000 in
theorem law_FnRecords (v : Value) (bs : List Int) (w : World) (h : Sl u8R w v bs) (N : Env w) :
    Calls Tryz.prog 6 #[v] w fun e w2 => e = .returned (.bool true) ∧ Ext w w2 := by
  by_cases hbig : 1048576 < bs.length
  · go_enter Tryz.func6, Tryz.ntmps6
    go_wp2_with fail
    refine (laws_big _ bs w h).mono ?_
    rintro e w2 ⟨rfl, rfl⟩
    rw [decide_eq_true hbig]
    go_wp2
    go_ret
    exact ⟨rfl, Ext.refl _⟩
  · go_enter Tryz.func6, Tryz.ntmps6
    go_wp2_with fail
    refine (laws_big _ bs w h).mono ?_
    rintro e w2 ⟨rfl, rfl⟩
    rw [decide_eq_false hbig]
    go_wp2_with fail
    refine (spec_DrawCompareRecords w _ bs h).mono ?_
    rintro e w2 ⟨v1, v2, a, b, rfl, ha, hb, x2⟩
    have ha0 := ha
    have hb0 := hb
    obtain ⟨fa, e1, oka, sa⟩ := ha0
    obtain ⟨fb, e2, okb, sb⟩ := hb0
    obtain ⟨A1, cap1, e3, _⟩ := sa.form
    obtain ⟨A2, cap2, e4, _⟩ := sb.form
    subst e3; subst e4; subst e1; subst e2
    clear sa sb oka okb
    have xb : Ext w2 ((w2.alloc (.cells #[.int .i64 a.source, .int .i64 a.key, .int .i64 a.version, .slice A1 a.fields.length cap1] 24)).alloc (.cells #[.int .i64 b.source, .int .i64 b.key, .int .i64 b.version, .slice A2 b.fields.length cap2] 24)) := ((Ext.refl w2).alloc _).alloc _
    have b4 : Blk ((w2.alloc (.cells #[.int .i64 a.source, .int .i64 a.key, .int .i64 a.version, .slice A1 a.fields.length cap1] 24)).alloc (.cells #[.int .i64 b.source, .int .i64 b.key, .int .i64 b.version, .slice A2 b.fields.length cap2] 24)) w2.heap.size 24 [.int .i64 a.source, .int .i64 a.key, .int .i64 a.version, .slice A1 a.fields.length cap1] := (Blk.new w2 24 #[.int .i64 a.source, .int .i64 a.key, .int .i64 a.version, .slice A1 a.fields.length cap1]).ext ((Ext.refl _).alloc _)
    have b5 : Blk ((w2.alloc (.cells #[.int .i64 a.source, .int .i64 a.key, .int .i64 a.version, .slice A1 a.fields.length cap1] 24)).alloc (.cells #[.int .i64 b.source, .int .i64 b.key, .int .i64 b.version, .slice A2 b.fields.length cap2] 24)) (w2.heap.size + 1) 24 [.int .i64 b.source, .int .i64 b.key, .int .i64 b.version, .slice A2 b.fields.length cap2] := by
      have := Blk.new (w2.alloc (.cells #[.int .i64 a.source, .int .i64 a.key, .int .i64 a.version, .slice A1 a.fields.length cap1] 24)) 24 #[.int .i64 b.source, .int .i64 b.key, .int .i64 b.version, .slice A2 b.fields.length cap2]
      rwa [World.size_alloc] at this
    go_wp2_with fail
    obtain ⟨W4, hW4⟩ : ∃ W4, W4 = ((w2.alloc (.cells #[.int .i64 a.source, .int .i64 a.key, .int .i64 a.version, .slice A1 a.fields.length cap1] 24)).alloc (.cells #[.int .i64 b.source, .int .i64 b.key, .int .i64 b.version, .slice A2 b.fields.length cap2] 24)) := ⟨_, rfl⟩
    rw [← hW4] at b4 b5 xb ⊢
    clear hW4
    have HB := hid (show ∀ W, Ext W4 W → Blk W w2.heap.size 24 [.int .i64 a.source, .int .i64 a.key, .int .i64 a.version, .slice A1 a.fields.length cap1] ∧ Blk W (w2.heap.size + 1) 24 [.int .i64 b.source, .int .i64 b.key, .int .i64 b.version, .slice A2 b.fields.length cap2] from fun W x => ⟨b4.ext x, b5.ext x⟩)
    have HA := hid (show ∀ W, Ext W4 W → RecAt W (.agg #[.int .i64 a.source, .int .i64 a.key, .int .i64 a.version, .slice A1 a.fields.length cap1]) a ∧ RecAt W (.agg #[.int .i64 b.source, .int .i64 b.key, .int .i64 b.version, .slice A2 b.fields.length cap2]) b from fun W x => ⟨ha.mono (xb.trans x), hb.mono (xb.trans x)⟩)
    clear b4 b5 ha hb
    refine (impl_CompareRecords _ _ a b _ (HA.out _ (Ext.refl _)).1 (HA.out _ (Ext.refl _)).2).mono ?_
    rintro e w3 ⟨rfl, x3⟩
    have hanti := cmpR_anti a b
    have hbd := cmpR_bd a b
    have HCZ := hid (show cmpR a a = 0 from cmpR_zero.2 rfl)
    have HBK := hid (pR_back a)
    have HAN := hid hanti
    obtain ⟨C, hC⟩ : ∃ C, C = cmpR a b := ⟨_, rfl⟩
    rw [← hC] at hbd hanti ⊢
    have HC := hid hC
    have hneg : wrap64 (-C) = -C := by unfold wrap64; omega
    clear hC hanti hbd
    have ca0 : ∀ z : ExtOf w3, z.1.cell? ⟨w2.heap.size, 0, none⟩ = some (.int .i64 a.source) := fun z => ((HB.out _ (x3.trans z.2)).1.cells.1 0)
    have ca1 : ∀ z : ExtOf w3, z.1.cell? ⟨w2.heap.size, 1, none⟩ = some (.int .i64 a.key) := fun z => ((HB.out _ (x3.trans z.2)).1.cells.1 1)
    have ca2 : ∀ z : ExtOf w3, z.1.cell? ⟨w2.heap.size, 2, none⟩ = some (.int .i64 a.version) := fun z => ((HB.out _ (x3.trans z.2)).1.cells.1 2)
    have ca3 : ∀ z : ExtOf w3, z.1.cell? ⟨w2.heap.size, 3, none⟩ = some (.slice A1 a.fields.length cap1) := fun z => ((HB.out _ (x3.trans z.2)).1.cells.1 3)
    have cb0 : ∀ z : ExtOf w3, z.1.cell? ⟨w2.heap.size + 1, 0, none⟩ = some (.int .i64 b.source) := fun z => ((HB.out _ (x3.trans z.2)).2.cells.1 0)
    have cb1 : ∀ z : ExtOf w3, z.1.cell? ⟨w2.heap.size + 1, 1, none⟩ = some (.int .i64 b.key) := fun z => ((HB.out _ (x3.trans z.2)).2.cells.1 1)
    have cb2 : ∀ z : ExtOf w3, z.1.cell? ⟨w2.heap.size + 1, 2, none⟩ = some (.int .i64 b.version) := fun z => ((HB.out _ (x3.trans z.2)).2.cells.1 2)
    have cb3 : ∀ z : ExtOf w3, z.1.cell? ⟨w2.heap.size + 1, 3, none⟩ = some (.slice A2 b.fields.length cap2) := fun z => ((HB.out _ (x3.trans z.2)).2.cells.1 3)
    go_wp2_with fail
    refine wp_region_ext (by kernel_rfl) (by kernel_rfl) ?_
    repeat (go_big_quiet_step ((first | (go_at_call 23; exact quiet_ext (Calls.mono (spec_CompareRecords _ _ a b _ (HA.out _ (x3.trans (Subtype.property _))).1 (HA.out _ (x3.trans (Subtype.property _))).2) fun _ _ h9 => ⟨h9.1.trans (ret_int HC.out.symm), h9.2⟩)) | (go_at_call 22; exact quiet_ext (Calls.mono (impl_CompareRecords _ _ b a _ (HA.out _ (x3.trans (Subtype.property _))).2 (HA.out _ (x3.trans (Subtype.property _))).1) fun _ _ h9 => ⟨h9.1.trans (ret_int (show cmpR b a = -C from HAN.out.trans (congrArg Neg.neg HC.out.symm))), h9.2⟩)) | (go_at_call 24; exact quiet_ext (impl_SameOrigin _ _ a b _ (HA.out _ (x3.trans (Subtype.property _))).1 (HA.out _ (x3.trans (Subtype.property _))).2)) | (go_at_call 25; exact quiet_ext (spec_SameOrigin _ _ a b _ (HA.out _ (x3.trans (Subtype.property _))).1 (HA.out _ (x3.trans (Subtype.property _))).2)) | (go_at_call 26; exact quiet_ext (impl_RecordID _ a _ (HA.out _ (x3.trans (Subtype.property _))).1)) | (go_at_call 27; exact quiet_ext (spec_RecordID _ a _ (HA.out _ (x3.trans (Subtype.property _))).1)))))
    refine wpQuiet_nil ?_
    rintro w5 ⟨⟨_, x5⟩, rfl⟩
    have x35 := x3.trans x5
    have l0 : w5.cell? ⟨w2.heap.size, 0, none⟩ = some (.int .i64 a.source) := (HB.out _ (x35)).1.cells.1 0
    have l1 : w5.cell? ⟨w2.heap.size, 1, none⟩ = some (.int .i64 a.key) := (HB.out _ (x35)).1.cells.1 1
    have l2 : w5.cell? ⟨w2.heap.size, 2, none⟩ = some (.int .i64 a.version) := (HB.out _ (x35)).1.cells.1 2
    have l3 : w5.cell? ⟨w2.heap.size, 3, none⟩ = some (.slice A1 a.fields.length cap1) := (HB.out _ (x35)).1.cells.1 3
    clear ca0 cb0 ca1 cb1 ca2 cb2 ca3 cb3 x5
    go_wp2_with fail
    refine (impl_FormatRecord _ a _ (HA.out _ x35).1 (N.T.mono ((x2.trans xb).trans x35))).mono ?_
    rintro e w6 ⟨rfl, x6⟩
    have hsz := fmtR_size a
    go_wp2_with fail
    refine (impl_ParseRecord (fmtR a) _ (by omega) (N.mono ((x2.trans xb).trans (x35.trans x6)))).mono ?_
    rintro e w7 ⟨v7, F7, rfl, o7, n7, x7⟩
    have HNE := hid (recN_empty a)
    obtain ⟨hb1, hb2⟩ := HBK.out
    have x37 := (x35.trans x6).trans x7
    clear x35 x6 x7 n7 hsz l0 l1 l2 l3
    cases hok : okRec a with
    | false =>
      rw [hok] at hb1
      rw [hb1]
      have hp : (pR (fmtR a)).1 = ⟨0, 0, 0, []⟩ := by rw [fmtR_no hok, pR_nil]
      rw [hp] at o7
      obtain ⟨f7, rfl, _, o7⟩ := o7
      obtain ⟨A7, cap7, e7, _⟩ := o7.form
      subst e7
      have HE : Hid ((recN a).toList.isEmpty = true) := hid (by rw [HNE.out, hok]; rfl)
      have HO := hid hok
      clear hok hb1 hb2 hp
      have xo := (Ext.refl w7).alloc (.cells #[.int .i64 0, .int .i64 0, .int .i64 0, .slice A7 0 cap7] 24)
      have l0 : (w7.alloc (.cells #[.int .i64 0, .int .i64 0, .int .i64 0, .slice A7 0 cap7] 24)).cell? ⟨w2.heap.size, 0, none⟩ = some (.int .i64 a.source) := (HB.out _ (x37.trans xo)).1.cells.1 0
      have l1 : (w7.alloc (.cells #[.int .i64 0, .int .i64 0, .int .i64 0, .slice A7 0 cap7] 24)).cell? ⟨w2.heap.size, 1, none⟩ = some (.int .i64 a.key) := (HB.out _ (x37.trans xo)).1.cells.1 1
      have l2 : (w7.alloc (.cells #[.int .i64 0, .int .i64 0, .int .i64 0, .slice A7 0 cap7] 24)).cell? ⟨w2.heap.size, 2, none⟩ = some (.int .i64 a.version) := (HB.out _ (x37.trans xo)).1.cells.1 2
      have l3 : (w7.alloc (.cells #[.int .i64 0, .int .i64 0, .int .i64 0, .slice A7 0 cap7] 24)).cell? ⟨w2.heap.size, 3, none⟩ = some (.slice A1 a.fields.length cap1) := (HB.out _ (x37.trans xo)).1.cells.1 3
      go_wp2_with fail
      refine (spec_IsValidRecord _ a _ (HA.out _ (x37.trans xo)).1).mono ?_
      rintro e w9 ⟨rfl, x9⟩
      rw [HO.out]
      have x39 := (x37.trans xo).trans x9
      have k0 : w9.cell? ⟨w2.heap.size, 0, none⟩ = some (.int .i64 a.source) := (HB.out _ (x39)).1.cells.1 0
      have k1 : w9.cell? ⟨w2.heap.size, 1, none⟩ = some (.int .i64 a.key) := (HB.out _ (x39)).1.cells.1 1
      have k2 : w9.cell? ⟨w2.heap.size, 2, none⟩ = some (.int .i64 a.version) := (HB.out _ (x39)).1.cells.1 2
      have k3 : w9.cell? ⟨w2.heap.size, 3, none⟩ = some (.slice A1 a.fields.length cap1) := (HB.out _ (x39)).1.cells.1 3
      clear l0 l1 l2 l3
      go_wp2_with fail
      refine (impl_RecordName _ a _ (HA.out _ x39).1 (N.T.mono ((x2.trans xb).trans x39))).mono ?_
      rintro e w10 ⟨rfl, x10⟩
      have h10 := HE.out
      go_wp2
      go_ret
      exact ⟨ret_bool (by simp), (x2.trans xb).trans (x39.trans x10)⟩
    | true =>
      rw [hok] at hb1
      rw [hb1]
      have hp := hb2 hb1
      rw [hp] at o7
      obtain ⟨f7, rfl, ok7, o7⟩ := o7
      obtain ⟨A7, cap7, e7, _⟩ := o7.form
      subst e7
      have HE : Hid ((recN a).toList.isEmpty = false) := hid (by rw [HNE.out, hok]; rfl)
      have HO := hid hok
      clear hok hb1 hb2 hp
      have xo := (Ext.refl w7).alloc (.cells #[.int .i64 a.source, .int .i64 a.key, .int .i64 a.version, .slice A7 a.fields.length cap7] 24)
      have l0 : (w7.alloc (.cells #[.int .i64 a.source, .int .i64 a.key, .int .i64 a.version, .slice A7 a.fields.length cap7] 24)).cell? ⟨w2.heap.size, 0, none⟩ = some (.int .i64 a.source) := (HB.out _ (x37.trans xo)).1.cells.1 0
      have l1 : (w7.alloc (.cells #[.int .i64 a.source, .int .i64 a.key, .int .i64 a.version, .slice A7 a.fields.length cap7] 24)).cell? ⟨w2.heap.size, 1, none⟩ = some (.int .i64 a.key) := (HB.out _ (x37.trans xo)).1.cells.1 1
      have l2 : (w7.alloc (.cells #[.int .i64 a.source, .int .i64 a.key, .int .i64 a.version, .slice A7 a.fields.length cap7] 24)).cell? ⟨w2.heap.size, 2, none⟩ = some (.int .i64 a.version) := (HB.out _ (x37.trans xo)).1.cells.1 2
      have l3 : (w7.alloc (.cells #[.int .i64 a.source, .int .i64 a.key, .int .i64 a.version, .slice A7 a.fields.length cap7] 24)).cell? ⟨w2.heap.size, 3, none⟩ = some (.slice A1 a.fields.length cap1) := (HB.out _ (x37.trans xo)).1.cells.1 3
      go_wp2_with fail
      refine (spec_IsValidRecord _ a _ (HA.out _ (x37.trans xo)).1).mono ?_
      rintro e w9 ⟨rfl, x9⟩
      rw [HO.out]
      have x39 := (x37.trans xo).trans x9
      have k0 : w9.cell? ⟨w2.heap.size, 0, none⟩ = some (.int .i64 a.source) := (HB.out _ (x39)).1.cells.1 0
      have k1 : w9.cell? ⟨w2.heap.size, 1, none⟩ = some (.int .i64 a.key) := (HB.out _ (x39)).1.cells.1 1
      have k2 : w9.cell? ⟨w2.heap.size, 2, none⟩ = some (.int .i64 a.version) := (HB.out _ (x39)).1.cells.1 2
      have k3 : w9.cell? ⟨w2.heap.size, 3, none⟩ = some (.slice A1 a.fields.length cap1) := (HB.out _ (x39)).1.cells.1 3
      have b9 := (Blk.new w7 24 #[.int .i64 a.source, .int .i64 a.key, .int .i64 a.version, .slice A7 a.fields.length cap7]).ext x9
      obtain ⟨⟨j0, j1, j2, j3⟩, _⟩ := b9.c4
      have o9 := (o7.ext xo).ext x9
      clear l0 l1 l2 l3
      go_wp2_with fail
      refine (impl_CompareRecords _ _ a a _ ⟨_, rfl, ok7, o9.sl⟩ (HA.out _ x39).1).mono ?_
      rintro e w10 ⟨rfl, x10⟩
      rw [HCZ.out]
      have x310 := x39.trans x10
      have m0 : w10.cell? ⟨w2.heap.size, 0, none⟩ = some (.int .i64 a.source) := (HB.out _ (x310)).1.cells.1 0
      have m1 : w10.cell? ⟨w2.heap.size, 1, none⟩ = some (.int .i64 a.key) := (HB.out _ (x310)).1.cells.1 1
      have m2 : w10.cell? ⟨w2.heap.size, 2, none⟩ = some (.int .i64 a.version) := (HB.out _ (x310)).1.cells.1 2
      have m3 : w10.cell? ⟨w2.heap.size, 3, none⟩ = some (.slice A1 a.fields.length cap1) := (HB.out _ (x310)).1.cells.1 3
      clear k0 k1 k2 k3 j0 j1 j2 j3
      go_wp2_with fail
      refine (impl_RecordName _ a _ (HA.out _ x310).1 (N.T.mono ((x2.trans xb).trans x310))).mono ?_
      rintro e w11 ⟨rfl, x11⟩
      have h11 := HE.out
      go_wp2
      go_ret
      exact ⟨ret_bool (by simp), (x2.trans xb).trans (x310.trans x11)⟩
end Go.Proofs.YtfieimmlcopbhaaGreatDoor
