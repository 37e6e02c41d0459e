/-
  WALKS: IsValidStore (both).
-/
import Derived.Test.YtbhhbdilaihegaaVRec
import Derived.Test.YtbhhbdilaihegaaSto
import Derived.Test.YtbhhbdilaihegaaRid
import Derived.Test.YtbhhbdilaihegaaVers
namespace Go.Proofs.Ytbhhbdilaihegaa
open Go.RowKit

def rAt (xs : List Record) (k : Nat) : Record := xs.getD k ⟨0, 0, 0, []⟩
theorem rAt_at {xs : List Record} {k : Nat} (h : k < xs.length) : rAt xs k = xs[k] := by simp [rAt, List.getD, h]
def recOk (xs : List Record) (k : Nat) : Bool := okRec (rAt xs k) && (k == 0 || decide (recID (rAt xs (k - 1)) < recID (rAt xs k)))
def recsOK (xs : List Record) : Bool := (List.range xs.length).all (recOk xs)
def okSto (s : Store) : Bool := recsOK s.records && inB s.version 0 999 && decide (s.records.length ≤ 8) && areVers s.verdicts
theorem recs_no {xs : List Record} {k : Nat} (hk : k < xs.length) (h : recOk xs k = false) : recsOK xs = false :=
  List.all_eq_false.2 ⟨k, List.mem_range.2 hk, by simp [h]⟩
theorem recs_yes {xs : List Record} (h : ∀ j, j < xs.length → recOk xs j = true) : recsOK xs = true :=
  List.all_eq_true.2 fun j hj => h j (List.mem_range.1 hj)
theorem recOk_eq {xs : List Record} {k : Nat} (h : k < xs.length) : recOk xs k = (okRec xs[k] && (k == 0 || decide (recID (rAt xs (k - 1)) < recID xs[k]))) := by
  unfold recOk; rw [rAt_at h]
theorem okSto_no {s : Store} (h : recsOK s.records = false) : okSto s = false := by unfold okSto; rw [h]; rfl

set_option maxHeartbeats 2000000 in
set_option maxRecDepth 20000 in
theorem impl_IsValidStore (v : Value) (s : Store) (w : World) (h : StoAt w v s) :
    Calls Try.prog 58 #[v] w fun e w2 => e = .returned (.bool (okSto s)) ∧ Ext w w2 := by
  obtain ⟨r, d, rfl, hI, hr, hd⟩ := h
  obtain ⟨A, cap, rfl, hm⟩ := hr.form
  have HB := hid (show ∀ W, Ext (w.alloc (.cells #[.int .i64 s.version, .slice A s.records.length cap, d] 54)) W → W.cell? ⟨w.heap.size, 0, none⟩ = some (.int .i64 s.version) ∧ W.cell? ⟨w.heap.size, 1, none⟩ = some (.slice A s.records.length cap) ∧ W.cell? ⟨w.heap.size, 2, none⟩ = some d from fun W z => ⟨z.box.1 0, z.box.1 1, z.box.1 2⟩)
  have xB : Ext w (w.alloc (.cells #[.int .i64 s.version, .slice A s.records.length cap, d] 54)) := (Ext.refl _).alloc _
  go_enter Try.func58, Try.ntmps58
  go_wp2
  go_loopw [8] (fun i wr => ∃ k : Nat, k ≤ s.records.length ∧ i = .int .i64 k ∧ (∀ q, q < k → recOk s.records q = true) ∧ Ext (w.alloc (.cells #[.int .i64 s.version, .slice A s.records.length cap, d] 54)) wr) (fun i _ => s.records.length - (intOf i).toNat)
  case atStart => exact ⟨0, Nat.zero_le _, rfl, fun q hq => absurd hq (Nat.not_lt_zero _), Ext.refl _⟩
  case round =>
    obtain ⟨k, hk, rfl, hz, hx0⟩ := hrel
    have HZ := hid hz
    clear hz
    obtain ⟨cb0, cb1, cb2⟩ := HB.out _ hx0
    have hx : Ext w wr := xB.trans hx0
    have HX0 := hid hx0
    clear hx0 xB
    by_cases hlt : k < s.records.length
    · obtain ⟨b, off, A2, cap2, rfl, hok, hsl, hc0, hc1, hc2, hc3⟩ := (hr.mono hx).record hlt
      have HA := hid (recOk_eq hlt)
      have hs1 : ∀ z : ExtOf (wr.alloc (.cells #[.int .i64 s.records[k].source, .int .i64 s.records[k].key, .int .i64 s.records[k].version, .slice A2 s.records[k].fields.length cap2] 76)), z.1.cell? ⟨w.heap.size, 1, none⟩ = _ := fun z => (((Ext.refl _).alloc _).trans z.2).cell cb1
      have hzb : ∀ z : ExtOf (wr.alloc (.cells #[.int .i64 s.records[k].source, .int .i64 s.records[k].key, .int .i64 s.records[k].version, .slice A2 s.records[k].fields.length cap2] 76)), z.1.cell? ⟨wr.heap.size, 0, none⟩ = some (.int .i64 s.records[k].source) ∧ z.1.cell? ⟨wr.heap.size, 1, none⟩ = some (.int .i64 s.records[k].key) ∧ z.1.cell? ⟨wr.heap.size, 2, none⟩ = some (.int .i64 s.records[k].version) ∧ z.1.cell? ⟨wr.heap.size, 3, none⟩ = some (.slice A2 s.records[k].fields.length cap2) := fun z => ⟨z.2.box.1 0, z.2.box.1 1, z.2.box.1 2, z.2.box.1 3⟩
      have HR := hid (show ∀ z : ExtOf (wr.alloc (.cells #[.int .i64 s.records[k].source, .int .i64 s.records[k].key, .int .i64 s.records[k].version, .slice A2 s.records[k].fields.length cap2] 76)), RecAt z.1 (.agg #[.int .i64 s.records[k].source, .int .i64 s.records[k].key, .int .i64 s.records[k].version, .slice A2 s.records[k].fields.length cap2]) s.records[k] from fun z => ⟨_, rfl, hok, hsl.mono (((Ext.refl _).alloc _).trans z.2)⟩)
      clear hok hsl
      cases hin : okRec s.records[k] with
      | false =>
        go_wp2_with fail
        refine wp_region_ext (by kernel_rfl) (by kernel_rfl) ?_
        repeat (go_big_quiet_step ((first | (go_at_call 102; exact quiet_ext (Calls.mono (impl_IsValidRecord _ s.records[k] _ (HR.out _)) fun _ _ h9 => ⟨h9.1.trans (ret_bool hin), h9.2⟩)))))
        refine wpQuiet_nil ?_
        rintro w4 ⟨⟨_, x4⟩, rfl⟩
        go_wp2
        go_ret
        exact ⟨ret_bool (okSto_no (recs_no hlt (by rw [HA.out, hin]; rfl))).symm, (by repeat (first | with_reducible exact Ext.refl _ | with_reducible assumption | with_reducible refine Ext.drew ?_ | with_reducible refine Ext.alloc ?_ _ | with_reducible refine Ext.trans ?_ (by with_reducible assumption)))⟩
      | true =>
        have HI := hid hin
        by_cases hj0 : 0 < k
        · have hlt1 : k - 1 < s.records.length := by omega
          obtain ⟨b3, off3, A3, cap3, e3, hok3, hsl3, hd0, hd1, hd2, hd3⟩ := (hr.mono hx).record hlt1
          cases e3
          have hsub : ((k - 1 : Nat) : Int) = (k : Int) - 1 := by omega
          have hy0 : ∀ z : ExtOf (wr.alloc (.cells #[.int .i64 s.records[k].source, .int .i64 s.records[k].key, .int .i64 s.records[k].version, .slice A2 s.records[k].fields.length cap2] 76)), z.1.cell? ⟨b, off + (k - 1) * 4, none⟩ = _ := fun z => (((Ext.refl _).alloc _).trans z.2).cell hd0
          have hy1 : ∀ z : ExtOf (wr.alloc (.cells #[.int .i64 s.records[k].source, .int .i64 s.records[k].key, .int .i64 s.records[k].version, .slice A2 s.records[k].fields.length cap2] 76)), z.1.cell? ⟨b, off + (k - 1) * 4 + 1, none⟩ = _ := fun z => (((Ext.refl _).alloc _).trans z.2).cell hd1
          have hy2 : ∀ z : ExtOf (wr.alloc (.cells #[.int .i64 s.records[k].source, .int .i64 s.records[k].key, .int .i64 s.records[k].version, .slice A2 s.records[k].fields.length cap2] 76)), z.1.cell? ⟨b, off + (k - 1) * 4 + 2, none⟩ = _ := fun z => (((Ext.refl _).alloc _).trans z.2).cell hd2
          have hy3 : ∀ z : ExtOf (wr.alloc (.cells #[.int .i64 s.records[k].source, .int .i64 s.records[k].key, .int .i64 s.records[k].version, .slice A2 s.records[k].fields.length cap2] 76)), z.1.cell? ⟨b, off + (k - 1) * 4 + 3, none⟩ = _ := fun z => (((Ext.refl _).alloc _).trans z.2).cell hd3
          have HR3 := hid (show ∀ z : ExtOf (wr.alloc (.cells #[.int .i64 s.records[k].source, .int .i64 s.records[k].key, .int .i64 s.records[k].version, .slice A2 s.records[k].fields.length cap2] 76)), RecAt z.1 (.agg #[.int .i64 s.records[k - 1].source, .int .i64 s.records[k - 1].key, .int .i64 s.records[k - 1].version, .slice A3 s.records[k - 1].fields.length cap3]) s.records[k - 1] from fun z => ⟨_, rfl, hok3, hsl3.mono (((Ext.refl _).alloc _).trans z.2)⟩)
          clear hok3 hsl3
          have HGD := hid (rAt_at hlt1)
          by_cases hge : recID s.records[k] ≤ recID s.records[k - 1]
          · have HGE := hid (show decide (recID s.records[k - 1] < recID s.records[k]) = false by simpa using hge)
            go_wp2_with fail
            refine wp_region_ext (by kernel_rfl) (by kernel_rfl) ?_
            repeat (go_big_quiet_step ((first | (go_at_call 102; exact quiet_ext (Calls.mono (impl_IsValidRecord _ s.records[k] _ (HR.out _)) fun _ _ h9 => ⟨h9.1.trans (ret_bool hin), h9.2⟩)) | (go_at_call 85; exact quiet_ext (impl_RecordID _ s.records[k] _ (HR.out _))) | (go_at_call 85; exact quiet_ext (impl_RecordID _ s.records[k - 1] _ (HR3.out _))))))
            refine wpQuiet_nil ?_
            rintro w4 ⟨⟨_, x4⟩, rfl⟩
            go_wp2
            go_ret
            exact ⟨ret_bool (okSto_no (recs_no hlt (by rw [HA.out, HGD.out, HGE.out, show (k == 0) = false by simp; omega]; simp))).symm, (by repeat (first | with_reducible exact Ext.refl _ | with_reducible assumption | with_reducible refine Ext.drew ?_ | with_reducible refine Ext.alloc ?_ _ | with_reducible refine Ext.trans ?_ (by with_reducible assumption)))⟩
          · have hlt9 : recID s.records[k - 1] < recID s.records[k] := by omega
            have HGE := hid (show decide (recID s.records[k - 1] < recID s.records[k]) = true by simpa using hlt9)
            clear hge
            go_wp2_with fail
            refine wp_region_ext (by kernel_rfl) (by kernel_rfl) ?_
            repeat (go_big_quiet_step ((first | (go_at_call 102; exact quiet_ext (Calls.mono (impl_IsValidRecord _ s.records[k] _ (HR.out _)) fun _ _ h9 => ⟨h9.1.trans (ret_bool hin), h9.2⟩)) | (go_at_call 85; exact quiet_ext (impl_RecordID _ s.records[k] _ (HR.out _))) | (go_at_call 85; exact quiet_ext (impl_RecordID _ s.records[k - 1] _ (HR3.out _))))))
            refine wpQuiet_nil ?_
            rintro w4 ⟨⟨_, x4⟩, rfl⟩
            go_wp2
            go_roundw
            case rel => exact ⟨k + 1, by omega, by go_num, lt_succ_allV HZ.out (by rw [HA.out, HI.out, HGD.out, HGE.out, Bool.or_true]; rfl), HX0.out.trans (by repeat (first | with_reducible exact Ext.refl _ | with_reducible assumption | with_reducible refine Ext.drew ?_ | with_reducible refine Ext.alloc ?_ _ | with_reducible refine Ext.trans ?_ (by with_reducible assumption)))⟩
            case measure => simp [intOf]; omega
        · have hjd1 : decide (0 < k) = false := by simpa using hj0
          have hjd2 : decide ((0 : Int) < (k : Int)) = false := by simp; omega
          have HJ0 := hid (show (k == 0) = true by simp; omega)
          clear hj0
          go_wp2_with fail
          refine wp_region_ext (by kernel_rfl) (by kernel_rfl) ?_
          repeat (go_big_quiet_step ((first | (go_at_call 102; exact quiet_ext (Calls.mono (impl_IsValidRecord _ s.records[k] _ (HR.out _)) fun _ _ h9 => ⟨h9.1.trans (ret_bool hin), h9.2⟩)))))
          refine wpQuiet_nil ?_
          rintro w4 ⟨⟨_, x4⟩, rfl⟩
          go_wp2
          go_roundw
          case rel => exact ⟨k + 1, by omega, by go_num, lt_succ_allV HZ.out (by rw [HA.out, HI.out, HJ0.out]; rfl), HX0.out.trans (by repeat (first | with_reducible exact Ext.refl _ | with_reducible assumption | with_reducible refine Ext.drew ?_ | with_reducible refine Ext.alloc ?_ _ | with_reducible refine Ext.trans ?_ (by with_reducible assumption)))⟩
          case measure => simp [intOf]; omega
    · have HY := hid (recs_yes fun j hj => HZ.out j (by omega))
      have hdw := hd.mono hx
      cases hin : inB s.version 0 999 with
      | false =>
        go_wp2_with (go_at_call 109; refine (impl_within _ _ _ _).mono ?_; rintro e w2 ⟨rfl, rfl⟩; rw [hin])
        go_ret
        exact ⟨ret_bool (by unfold okSto; rw [hin]; simp), hx⟩
      | true =>
        by_cases h8 : s.records.length ≤ 8
        · have H8 := hid h8
          go_wp2_with (first | (go_at_call 109; refine (impl_within _ _ _ _).mono ?_; rintro e w2 ⟨rfl, rfl⟩; rw [hin]) | (go_at_call 19; refine (impl_AreVerdicts _ s.verdicts _ hdw).mono ?_; rintro e w2 ⟨rfl, x2⟩))
          go_ret
          exact ⟨ret_bool (by unfold okSto; rw [HY.out, hin, decide_eq_true H8.out]; simp), hx.trans x2⟩
        · have H8 := hid h8
          have h9 : 8 < s.records.length := by omega
          clear h8
          go_wp2_with (go_at_call 109; refine (impl_within _ _ _ _).mono ?_; rintro e w2 ⟨rfl, rfl⟩; rw [hin])
          go_ret
          exact ⟨ret_bool (by unfold okSto; rw [decide_eq_false H8.out]; simp), hx⟩

set_option maxHeartbeats 2000000 in
set_option maxRecDepth 20000 in
theorem spec_IsValidStore (v : Value) (s : Store) (w : World) (h : StoAt w v s) :
    Calls Try.prog 57 #[v] w fun e w2 => e = .returned (.bool (okSto s)) ∧ Ext w w2 := by
  obtain ⟨r, d, rfl, hI, hr, hd⟩ := h
  obtain ⟨A, cap, rfl, hm⟩ := hr.form
  have HB := hid (show ∀ W, Ext (w.alloc (.cells #[.int .i64 s.version, .slice A s.records.length cap, d] 54)) W → W.cell? ⟨w.heap.size, 0, none⟩ = some (.int .i64 s.version) ∧ W.cell? ⟨w.heap.size, 1, none⟩ = some (.slice A s.records.length cap) ∧ W.cell? ⟨w.heap.size, 2, none⟩ = some d from fun W z => ⟨z.box.1 0, z.box.1 1, z.box.1 2⟩)
  have xB : Ext w (w.alloc (.cells #[.int .i64 s.version, .slice A s.records.length cap, d] 54)) := (Ext.refl _).alloc _
  go_enter Try.func57, Try.ntmps57
  go_wp2
  go_loopw [3] (fun i wr => ∃ k : Nat, k ≤ s.records.length ∧ i = .int .i64 k ∧ (∀ q, q < k → recOk s.records q = true) ∧ Ext (w.alloc (.cells #[.int .i64 s.version, .slice A s.records.length cap, d] 54)) wr) (fun i _ => s.records.length - (intOf i).toNat)
  case atStart => exact ⟨0, Nat.zero_le _, rfl, fun q hq => absurd hq (Nat.not_lt_zero _), Ext.refl _⟩
  case round =>
    obtain ⟨k, hk, rfl, hz, hx0⟩ := hrel
    have HZ := hid hz
    clear hz
    obtain ⟨cb0, cb1, cb2⟩ := HB.out _ hx0
    have hx : Ext w wr := xB.trans hx0
    have HX0 := hid hx0
    clear hx0 xB
    by_cases hlt : k < s.records.length
    · obtain ⟨b, off, A2, cap2, rfl, hok, hsl, hc0, hc1, hc2, hc3⟩ := (hr.mono hx).record hlt
      have HA := hid (recOk_eq hlt)
      have hs1 : ∀ z : ExtOf wr, z.1.cell? ⟨w.heap.size, 1, none⟩ = _ := fun z => z.2.cell cb1
      have hz0 : ∀ z : ExtOf wr, z.1.cell? ⟨b, off + k * 4, none⟩ = _ := fun z => z.2.cell hc0
      have hz1 : ∀ z : ExtOf wr, z.1.cell? ⟨b, off + k * 4 + 1, none⟩ = _ := fun z => z.2.cell hc1
      have hz2 : ∀ z : ExtOf wr, z.1.cell? ⟨b, off + k * 4 + 2, none⟩ = _ := fun z => z.2.cell hc2
      have hz3 : ∀ z : ExtOf wr, z.1.cell? ⟨b, off + k * 4 + 3, none⟩ = _ := fun z => z.2.cell hc3
      have HR := hid (show ∀ z : ExtOf wr, RecAt z.1 (.agg #[.int .i64 s.records[k].source, .int .i64 s.records[k].key, .int .i64 s.records[k].version, .slice A2 s.records[k].fields.length cap2]) s.records[k] from fun z => ⟨_, rfl, hok, hsl.mono z.2⟩)
      clear hok hsl
      cases hin : okRec s.records[k] with
      | false =>
        go_wp2_with fail
        refine wp_region_ext (by kernel_rfl) (by kernel_rfl) ?_
        repeat (go_big_quiet_step ((first | (go_at_call 98; exact quiet_ext (Calls.mono (spec_IsValidRecord _ s.records[k] _ (HR.out _)) fun _ _ h9 => ⟨h9.1.trans (ret_bool hin), h9.2⟩)))))
        refine wpQuiet_nil ?_
        rintro w4 ⟨⟨_, x4⟩, rfl⟩
        go_wp2
        go_ret
        exact ⟨ret_bool (okSto_no (recs_no hlt (by rw [HA.out, hin]; rfl))).symm, (by repeat (first | with_reducible exact Ext.refl _ | with_reducible assumption | with_reducible refine Ext.drew ?_ | with_reducible refine Ext.alloc ?_ _ | with_reducible refine Ext.trans ?_ (by with_reducible assumption)))⟩
      | true =>
        have HI := hid hin
        by_cases hj0 : 0 < k
        · have hlt1 : k - 1 < s.records.length := by omega
          obtain ⟨b3, off3, A3, cap3, e3, hok3, hsl3, hd0, hd1, hd2, hd3⟩ := (hr.mono hx).record hlt1
          cases e3
          have hsub : ((k - 1 : Nat) : Int) = (k : Int) - 1 := by omega
          have hy0 : ∀ z : ExtOf wr, z.1.cell? ⟨b, off + (k - 1) * 4, none⟩ = _ := fun z => z.2.cell hd0
          have hy1 : ∀ z : ExtOf wr, z.1.cell? ⟨b, off + (k - 1) * 4 + 1, none⟩ = _ := fun z => z.2.cell hd1
          have hy2 : ∀ z : ExtOf wr, z.1.cell? ⟨b, off + (k - 1) * 4 + 2, none⟩ = _ := fun z => z.2.cell hd2
          have hy3 : ∀ z : ExtOf wr, z.1.cell? ⟨b, off + (k - 1) * 4 + 3, none⟩ = _ := fun z => z.2.cell hd3
          have HR3 := hid (show ∀ z : ExtOf wr, RecAt z.1 (.agg #[.int .i64 s.records[k - 1].source, .int .i64 s.records[k - 1].key, .int .i64 s.records[k - 1].version, .slice A3 s.records[k - 1].fields.length cap3]) s.records[k - 1] from fun z => ⟨_, rfl, hok3, hsl3.mono z.2⟩)
          clear hok3 hsl3
          have HGD := hid (rAt_at hlt1)
          by_cases hge : recID s.records[k] ≤ recID s.records[k - 1]
          · have HGE := hid (show decide (recID s.records[k - 1] < recID s.records[k]) = false by simpa using hge)
            go_wp2_with fail
            refine wp_region_ext (by kernel_rfl) (by kernel_rfl) ?_
            repeat (go_big_quiet_step ((first | (go_at_call 98; exact quiet_ext (Calls.mono (spec_IsValidRecord _ s.records[k] _ (HR.out _)) fun _ _ h9 => ⟨h9.1.trans (ret_bool hin), h9.2⟩)) | (go_at_call 81; exact quiet_ext (spec_RecordID _ s.records[k] _ (HR.out _))) | (go_at_call 81; exact quiet_ext (spec_RecordID _ s.records[k - 1] _ (HR3.out _))))))
            refine wpQuiet_nil ?_
            rintro w4 ⟨⟨_, x4⟩, rfl⟩
            go_wp2
            go_ret
            exact ⟨ret_bool (okSto_no (recs_no hlt (by rw [HA.out, HGD.out, HGE.out, show (k == 0) = false by simp; omega]; simp))).symm, (by repeat (first | with_reducible exact Ext.refl _ | with_reducible assumption | with_reducible refine Ext.drew ?_ | with_reducible refine Ext.alloc ?_ _ | with_reducible refine Ext.trans ?_ (by with_reducible assumption)))⟩
          · have hlt9 : recID s.records[k - 1] < recID s.records[k] := by omega
            have HGE := hid (show decide (recID s.records[k - 1] < recID s.records[k]) = true by simpa using hlt9)
            clear hge
            go_wp2_with fail
            refine wp_region_ext (by kernel_rfl) (by kernel_rfl) ?_
            repeat (go_big_quiet_step ((first | (go_at_call 98; exact quiet_ext (Calls.mono (spec_IsValidRecord _ s.records[k] _ (HR.out _)) fun _ _ h9 => ⟨h9.1.trans (ret_bool hin), h9.2⟩)) | (go_at_call 81; exact quiet_ext (spec_RecordID _ s.records[k] _ (HR.out _))) | (go_at_call 81; exact quiet_ext (spec_RecordID _ s.records[k - 1] _ (HR3.out _))))))
            refine wpQuiet_nil ?_
            rintro w4 ⟨⟨_, x4⟩, rfl⟩
            go_wp2
            go_roundw
            case rel => exact ⟨k + 1, by omega, by go_num, lt_succ_allV HZ.out (by rw [HA.out, HI.out, HGD.out, HGE.out, Bool.or_true]; rfl), HX0.out.trans (by repeat (first | with_reducible exact Ext.refl _ | with_reducible assumption | with_reducible refine Ext.drew ?_ | with_reducible refine Ext.alloc ?_ _ | with_reducible refine Ext.trans ?_ (by with_reducible assumption)))⟩
            case measure => simp [intOf]; omega
        · have hjd1 : decide (0 < k) = false := by simpa using hj0
          have hjd2 : decide ((0 : Int) < (k : Int)) = false := by simp; omega
          have HJ0 := hid (show (k == 0) = true by simp; omega)
          clear hj0
          go_wp2_with fail
          refine wp_region_ext (by kernel_rfl) (by kernel_rfl) ?_
          repeat (go_big_quiet_step ((first | (go_at_call 98; exact quiet_ext (Calls.mono (spec_IsValidRecord _ s.records[k] _ (HR.out _)) fun _ _ h9 => ⟨h9.1.trans (ret_bool hin), h9.2⟩)))))
          refine wpQuiet_nil ?_
          rintro w4 ⟨⟨_, x4⟩, rfl⟩
          go_wp2
          go_roundw
          case rel => exact ⟨k + 1, by omega, by go_num, lt_succ_allV HZ.out (by rw [HA.out, HI.out, HJ0.out]; rfl), HX0.out.trans (by repeat (first | with_reducible exact Ext.refl _ | with_reducible assumption | with_reducible refine Ext.drew ?_ | with_reducible refine Ext.alloc ?_ _ | with_reducible refine Ext.trans ?_ (by with_reducible assumption)))⟩
          case measure => simp [intOf]; omega
    · have HY := hid (recs_yes fun j hj => HZ.out j (by omega))
      have hdw := hd.mono hx
      cases hin : inB s.version 0 999 with
      | false =>
        go_wp2_with (go_at_call 108; refine (spec_l1In _ _ _ _).mono ?_; rintro e w2 ⟨rfl, rfl⟩; rw [hin])
        go_ret
        exact ⟨ret_bool (by unfold okSto; rw [hin]; simp), hx⟩
      | true =>
        by_cases h8 : s.records.length ≤ 8
        · have H8 := hid h8
          go_wp2_with (first | (go_at_call 108; refine (spec_l1In _ _ _ _).mono ?_; rintro e w2 ⟨rfl, rfl⟩; rw [hin]) | (go_at_call 17; refine (spec_AreVerdicts _ s.verdicts _ hdw).mono ?_; rintro e w2 ⟨rfl, x2⟩))
          go_ret
          exact ⟨ret_bool (by unfold okSto; rw [HY.out, hin, decide_eq_true H8.out]; simp), hx.trans x2⟩
        · have H8 := hid h8
          have h9 : 8 < s.records.length := by omega
          clear h8
          go_wp2_with (go_at_call 108; refine (spec_l1In _ _ _ _).mono ?_; rintro e w2 ⟨rfl, rfl⟩; rw [hin])
          go_ret
          exact ⟨ret_bool (by unfold okSto; rw [decide_eq_false H8.out]; simp), hx⟩


end Go.Proofs.Ytbhhbdilaihegaa
