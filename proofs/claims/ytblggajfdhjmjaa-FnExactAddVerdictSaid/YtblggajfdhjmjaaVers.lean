/-
  PLAIN LAW AND WALKS: AreVerdicts (both).
-/
import Derived.Test.YtblggajfdhjmjaaVerS
import Derived.Test.YtblggajfdhjmjaaV2
namespace Go.Proofs.Ytblggajfdhjmjaa
open Go.RowKit

def vAt (xs : List Verdict) (k : Nat) : Verdict := xs.getD k ⟨0, 0, false, 0⟩
theorem vAt_at {xs : List Verdict} {k : Nat} (h : k < xs.length) : vAt xs k = xs[k] := by simp [vAt, List.getD, h]
def verAt (xs : List Verdict) (k : Nat) : Bool := okV (vAt xs k) && (k == 0 || decide (cmpV (vAt xs (k - 1)) (vAt xs k) < 0))
def areVers (xs : List Verdict) : Bool := (List.range xs.length).all (verAt xs) && decide (xs.length ≤ 8)
theorem vers_no {xs : List Verdict} {k : Nat} (hk : k < xs.length) (h : verAt xs k = false) : areVers xs = false := by
  unfold areVers
  rw [List.all_eq_false.2 ⟨k, List.mem_range.2 hk, by simp [h]⟩]; rfl
theorem vers_yes {xs : List Verdict} (h : ∀ j, j < xs.length → verAt xs j = true) : areVers xs = decide (xs.length ≤ 8) := by
  unfold areVers
  rw [List.all_eq_true.2 fun j hj => h j (List.mem_range.1 hj)]; rfl
theorem verAt_eq {xs : List Verdict} {k : Nat} (h : k < xs.length) : verAt xs k = (okV xs[k] && (k == 0 || decide (cmpV (vAt xs (k - 1)) xs[k] < 0))) := by
  unfold verAt; rw [vAt_at h]
theorem firstNZ_64 : ∀ l : List Int, (∀ x ∈ l, I64 x) → I64 (firstNZ l)
  | [], _ => by simp [firstNZ, I64]
  | x :: l, h => by
    rw [firstNZ]; split
    · exact h x (List.mem_cons_self ..)
    · exact firstNZ_64 l fun y hy => h y (List.mem_cons_of_mem _ hy)
theorem cmpV_64 (x y : Verdict) : I64 (cmpV x y) := firstNZ_64 _ (by simp [cmpI_64, cmpB_64])
theorem lt_succ_allV {p : Nat → Prop} {k : Nat} (h : ∀ j, j < k → p j) (hk : p k) : ∀ j, j < k + 1 → p j := fun j hj => by
  by_cases e : j = k
  · subst e; exact hk
  · exact h j (by omega)
theorem spec_valid (x : Verdict) (w : World) : Calls Try.prog 23 #[.agg #[.int .i64 x.a, .int .i64 x.b, .bool x.same, .int .i64 x.time]] w fun e w2 => e = .returned (.bool (okV x)) ∧ Ext w w2 := spec_IsValidVerdict _ _ _ _ w
theorem impl_valid (x : Verdict) (w : World) : Calls Try.prog 25 #[.agg #[.int .i64 x.a, .int .i64 x.b, .bool x.same, .int .i64 x.time]] w fun e w2 => e = .returned (.bool (okV x)) ∧ Ext w w2 := impl_IsValidVerdict _ _ _ _ w
theorem spec_cmp (x y : Verdict) (w : World) : Calls Try.prog 24 #[.agg #[.int .i64 x.a, .int .i64 x.b, .bool x.same, .int .i64 x.time], .agg #[.int .i64 y.a, .int .i64 y.b, .bool y.same, .int .i64 y.time]] w fun e w2 => e = .returned (.int .i64 (cmpV x y)) ∧ Ext w w2 := spec_CompareVerdicts x y w
theorem impl_cmp (x y : Verdict) (w : World) : Calls Try.prog 27 #[.agg #[.int .i64 x.a, .int .i64 x.b, .bool x.same, .int .i64 x.time], .agg #[.int .i64 y.a, .int .i64 y.b, .bool y.same, .int .i64 y.time]] w fun e w2 => e = .returned (.int .i64 (cmpV x y)) ∧ Ext w w2 := impl_CompareVerdicts x y w

set_option maxHeartbeats 400000 in
set_option maxRecDepth 20000 in
theorem spec_AreVerdicts (v : Value) (xs : List Verdict) (w : World) (h : Sl verdictR w v xs) :
    Calls Try.prog 16 #[v] w fun e w2 => e = .returned (.bool (areVers xs)) ∧ Ext w w2 := by
  obtain ⟨A, cap, rfl, hm⟩ := h.form
  go_enter Try.func16, Try.ntmps16
  go_wp2
  go_loopw [3] (fun i wr => ∃ k : Nat, k ≤ xs.length ∧ i = .int .i64 k ∧ (∀ q, q < k → verAt xs q = true) ∧ Ext w wr) (fun i _ => xs.length - (intOf i).toNat)
  case atStart => exact ⟨0, Nat.zero_le _, rfl, fun q hq => absurd hq (Nat.not_lt_zero _), Ext.refl _⟩
  case round =>
    obtain ⟨k, hk, rfl, hz, hx⟩ := hrel
    have HZ := hid hz
    clear hz
    by_cases hlt : k < xs.length
    · obtain ⟨b, off, rfl, hok, hc0, hc1, hc2, hc3⟩ := (h.mono hx).verdict hlt
      clear hok
      have HA := hid (verAt_eq hlt)
      have hz0 : ∀ z : ExtOf wr, z.1.cell? ⟨b, off + k * 4, none⟩ = _ := fun z => z.2.cell hc0
      have hz1 : ∀ z : ExtOf wr, z.1.cell? ⟨b, off + k * 4 + 1, none⟩ = _ := fun z => z.2.cell hc1
      have hz2 : ∀ z : ExtOf wr, z.1.cell? ⟨b, off + k * 4 + 2, none⟩ = _ := fun z => z.2.cell hc2
      have hz3 : ∀ z : ExtOf wr, z.1.cell? ⟨b, off + k * 4 + 3, none⟩ = _ := fun z => z.2.cell hc3
      cases hin : okV xs[k] with
      | false =>
        go_wp2_with fail
        refine wp_region_ext (by kernel_rfl) (by kernel_rfl) ?_
        repeat (go_big_quiet_step ((first | (go_at_call 23; exact quiet_ext (Calls.mono (spec_valid xs[k] _) fun _ _ h9 => ⟨h9.1.trans (ret_bool hin), h9.2⟩)))))
        refine wpQuiet_nil ?_
        rintro w4 ⟨⟨_, x4⟩, rfl⟩
        go_wp2
        go_ret
        exact ⟨ret_bool (vers_no hlt (by rw [HA.out, hin]; rfl)).symm, hx.trans x4⟩
      | true =>
        have HI := hid hin
        by_cases hj0 : 0 < k
        · have hlt1 : k - 1 < xs.length := by omega
          obtain ⟨b3, off3, e3, hok3, hd0, hd1, hd2, hd3⟩ := (h.mono hx).verdict hlt1
          cases e3
          clear hok3
          have hsub : ((k - 1 : Nat) : Int) = (k : Int) - 1 := by omega
          have hy0 : ∀ z : ExtOf wr, z.1.cell? ⟨b, off + (k - 1) * 4, none⟩ = _ := fun z => z.2.cell hd0
          have hy1 : ∀ z : ExtOf wr, z.1.cell? ⟨b, off + (k - 1) * 4 + 1, none⟩ = _ := fun z => z.2.cell hd1
          have hy2 : ∀ z : ExtOf wr, z.1.cell? ⟨b, off + (k - 1) * 4 + 2, none⟩ = _ := fun z => z.2.cell hd2
          have hy3 : ∀ z : ExtOf wr, z.1.cell? ⟨b, off + (k - 1) * 4 + 3, none⟩ = _ := fun z => z.2.cell hd3
          have HGD := hid (vAt_at hlt1)
          have h64 := (cmpV_64 xs[k - 1] xs[k]).out
          by_cases hge : 0 ≤ cmpV xs[k - 1] xs[k]
          · have HGE := hid (show decide (cmpV xs[k - 1] xs[k] < 0) = false by simpa using hge)
            go_wp2_with fail
            refine wp_region_ext (by kernel_rfl) (by kernel_rfl) ?_
            repeat (go_big_quiet_step ((first | (go_at_call 23; exact quiet_ext (Calls.mono (spec_valid xs[k] _) fun _ _ h9 => ⟨h9.1.trans (ret_bool hin), h9.2⟩)) | (go_at_call 24; exact quiet_ext (spec_cmp xs[k - 1] xs[k] _)))))
            refine wpQuiet_nil ?_
            rintro w4 ⟨⟨_, x4⟩, rfl⟩
            go_wp2
            go_ret
            exact ⟨ret_bool (vers_no hlt (by rw [HA.out, HGD.out, HGE.out, show (k == 0) = false by simp; omega]; simp)).symm, hx.trans x4⟩
          · have hlt9 : cmpV xs[k - 1] xs[k] < 0 := by omega
            have HGE := hid (show decide (cmpV xs[k - 1] xs[k] < 0) = true by simpa using hlt9)
            clear hge
            go_wp2_with fail
            refine wp_region_ext (by kernel_rfl) (by kernel_rfl) ?_
            repeat (go_big_quiet_step ((first | (go_at_call 23; exact quiet_ext (Calls.mono (spec_valid xs[k] _) fun _ _ h9 => ⟨h9.1.trans (ret_bool hin), h9.2⟩)) | (go_at_call 24; exact quiet_ext (spec_cmp xs[k - 1] xs[k] _)))))
            refine wpQuiet_nil ?_
            rintro w4 ⟨⟨_, x4⟩, rfl⟩
            go_wp2
            go_roundw
            case rel => exact ⟨k + 1, by omega, by go_num, lt_succ_allV HZ.out (by rw [HA.out, HI.out, HGD.out, HGE.out, Bool.or_true]; rfl), hx.trans x4⟩
            case measure => simp [intOf]; omega
        · have hjd1 : decide (0 < k) = false := by simpa using hj0
          have hjd2 : decide ((0 : Int) < (k : Int)) = false := by simp; omega
          have HJ0 := hid (show (k == 0) = true by simp; omega)
          clear hj0
          go_wp2_with fail
          refine wp_region_ext (by kernel_rfl) (by kernel_rfl) ?_
          repeat (go_big_quiet_step ((first | (go_at_call 23; exact quiet_ext (Calls.mono (spec_valid xs[k] _) fun _ _ h9 => ⟨h9.1.trans (ret_bool hin), h9.2⟩)))))
          refine wpQuiet_nil ?_
          rintro w4 ⟨⟨_, x4⟩, rfl⟩
          go_wp2
          go_roundw
          case rel => exact ⟨k + 1, by omega, by go_num, lt_succ_allV HZ.out (by rw [HA.out, HI.out, HJ0.out]; rfl), hx.trans x4⟩
          case measure => simp [intOf]; omega
    · go_wp2
      go_ret
      exact ⟨ret_bool (by rw [vers_yes fun j hj => HZ.out j (by omega)]; exact decide_eq_decide.2 (by omega)), hx⟩

set_option maxHeartbeats 400000 in
set_option maxRecDepth 20000 in
theorem impl_AreVerdicts (v : Value) (xs : List Verdict) (w : World) (h : Sl verdictR w v xs) :
    Calls Try.prog 20 #[v] w fun e w2 => e = .returned (.bool (areVers xs)) ∧ Ext w w2 := by
  obtain ⟨A, cap, rfl, hm⟩ := h.form
  go_enter Try.func20, Try.ntmps20
  go_wp2
  go_loopw [7] (fun i wr => ∃ k : Nat, k ≤ xs.length ∧ i = .int .i64 k ∧ (∀ q, q < k → verAt xs q = true) ∧ Ext w wr) (fun i _ => xs.length - (intOf i).toNat)
  case atStart => exact ⟨0, Nat.zero_le _, rfl, fun q hq => absurd hq (Nat.not_lt_zero _), Ext.refl _⟩
  case round =>
    obtain ⟨k, hk, rfl, hz, hx⟩ := hrel
    have HZ := hid hz
    clear hz
    by_cases hlt : k < xs.length
    · obtain ⟨b, off, rfl, hok, hc0, hc1, hc2, hc3⟩ := (h.mono hx).verdict hlt
      clear hok
      have HA := hid (verAt_eq hlt)
      have hzb : ∀ z : ExtOf (wr.alloc (.cells #[.int .i64 xs[k].a, .int .i64 xs[k].b, .bool xs[k].same, .int .i64 xs[k].time] 30)), z.1.cell? ⟨wr.heap.size, 0, none⟩ = some (.int .i64 xs[k].a) ∧ z.1.cell? ⟨wr.heap.size, 1, none⟩ = some (.int .i64 xs[k].b) ∧ z.1.cell? ⟨wr.heap.size, 2, none⟩ = some (.bool xs[k].same) ∧ z.1.cell? ⟨wr.heap.size, 3, none⟩ = some (.int .i64 xs[k].time) := fun z => ⟨z.2.box.1 0, z.2.box.1 1, z.2.box.1 2, z.2.box.1 3⟩
      cases hin : okV xs[k] with
      | false =>
        go_wp2_with fail
        refine wp_region_ext (by kernel_rfl) (by kernel_rfl) ?_
        repeat (go_big_quiet_step ((first | (go_at_call 25; exact quiet_ext (Calls.mono (impl_valid xs[k] _) fun _ _ h9 => ⟨h9.1.trans (ret_bool hin), h9.2⟩)))))
        refine wpQuiet_nil ?_
        rintro w4 ⟨⟨_, x4⟩, rfl⟩
        go_wp2
        go_ret
        exact ⟨ret_bool (vers_no hlt (by rw [HA.out, hin]; rfl)).symm, (by repeat (first | with_reducible exact Ext.refl _ | with_reducible assumption | with_reducible refine Ext.drew ?_ | with_reducible refine Ext.alloc ?_ _ | with_reducible refine Ext.trans ?_ (by with_reducible assumption)))⟩
      | true =>
        have HI := hid hin
        by_cases hj0 : 0 < k
        · have hlt1 : k - 1 < xs.length := by omega
          obtain ⟨b3, off3, e3, hok3, hd0, hd1, hd2, hd3⟩ := (h.mono hx).verdict hlt1
          cases e3
          clear hok3
          have hsub : ((k - 1 : Nat) : Int) = (k : Int) - 1 := by omega
          have hy0 : ∀ z : ExtOf (wr.alloc (.cells #[.int .i64 xs[k].a, .int .i64 xs[k].b, .bool xs[k].same, .int .i64 xs[k].time] 30)), z.1.cell? ⟨b, off + (k - 1) * 4, none⟩ = _ := fun z => (((Ext.refl _).alloc _).trans z.2).cell hd0
          have hy1 : ∀ z : ExtOf (wr.alloc (.cells #[.int .i64 xs[k].a, .int .i64 xs[k].b, .bool xs[k].same, .int .i64 xs[k].time] 30)), z.1.cell? ⟨b, off + (k - 1) * 4 + 1, none⟩ = _ := fun z => (((Ext.refl _).alloc _).trans z.2).cell hd1
          have hy2 : ∀ z : ExtOf (wr.alloc (.cells #[.int .i64 xs[k].a, .int .i64 xs[k].b, .bool xs[k].same, .int .i64 xs[k].time] 30)), z.1.cell? ⟨b, off + (k - 1) * 4 + 2, none⟩ = _ := fun z => (((Ext.refl _).alloc _).trans z.2).cell hd2
          have hy3 : ∀ z : ExtOf (wr.alloc (.cells #[.int .i64 xs[k].a, .int .i64 xs[k].b, .bool xs[k].same, .int .i64 xs[k].time] 30)), z.1.cell? ⟨b, off + (k - 1) * 4 + 3, none⟩ = _ := fun z => (((Ext.refl _).alloc _).trans z.2).cell hd3
          have HGD := hid (vAt_at hlt1)
          have h64 := (cmpV_64 xs[k - 1] xs[k]).out
          by_cases hge : 0 ≤ cmpV xs[k - 1] xs[k]
          · have HGE := hid (show decide (cmpV xs[k - 1] xs[k] < 0) = false by simpa using hge)
            go_wp2_with fail
            refine wp_region_ext (by kernel_rfl) (by kernel_rfl) ?_
            repeat (go_big_quiet_step ((first | (go_at_call 25; exact quiet_ext (Calls.mono (impl_valid xs[k] _) fun _ _ h9 => ⟨h9.1.trans (ret_bool hin), h9.2⟩)) | (go_at_call 27; exact quiet_ext (impl_cmp xs[k - 1] xs[k] _)))))
            refine wpQuiet_nil ?_
            rintro w4 ⟨⟨_, x4⟩, rfl⟩
            go_wp2
            go_ret
            exact ⟨ret_bool (vers_no hlt (by rw [HA.out, HGD.out, HGE.out, show (k == 0) = false by simp; omega]; simp)).symm, (by repeat (first | with_reducible exact Ext.refl _ | with_reducible assumption | with_reducible refine Ext.drew ?_ | with_reducible refine Ext.alloc ?_ _ | with_reducible refine Ext.trans ?_ (by with_reducible assumption)))⟩
          · have hlt9 : cmpV xs[k - 1] xs[k] < 0 := by omega
            have HGE := hid (show decide (cmpV xs[k - 1] xs[k] < 0) = true by simpa using hlt9)
            clear hge
            go_wp2_with fail
            refine wp_region_ext (by kernel_rfl) (by kernel_rfl) ?_
            repeat (go_big_quiet_step ((first | (go_at_call 25; exact quiet_ext (Calls.mono (impl_valid xs[k] _) fun _ _ h9 => ⟨h9.1.trans (ret_bool hin), h9.2⟩)) | (go_at_call 27; exact quiet_ext (impl_cmp xs[k - 1] xs[k] _)))))
            refine wpQuiet_nil ?_
            rintro w4 ⟨⟨_, x4⟩, rfl⟩
            go_wp2
            go_roundw
            case rel => exact ⟨k + 1, by omega, by go_num, lt_succ_allV HZ.out (by rw [HA.out, HI.out, HGD.out, HGE.out, Bool.or_true]; rfl), (by repeat (first | with_reducible exact Ext.refl _ | with_reducible assumption | with_reducible refine Ext.drew ?_ | with_reducible refine Ext.alloc ?_ _ | with_reducible refine Ext.trans ?_ (by with_reducible assumption)))⟩
            case measure => simp [intOf]; omega
        · have hjd1 : decide (0 < k) = false := by simpa using hj0
          have hjd2 : decide ((0 : Int) < (k : Int)) = false := by simp; omega
          have HJ0 := hid (show (k == 0) = true by simp; omega)
          clear hj0
          go_wp2_with fail
          refine wp_region_ext (by kernel_rfl) (by kernel_rfl) ?_
          repeat (go_big_quiet_step ((first | (go_at_call 25; exact quiet_ext (Calls.mono (impl_valid xs[k] _) fun _ _ h9 => ⟨h9.1.trans (ret_bool hin), h9.2⟩)))))
          refine wpQuiet_nil ?_
          rintro w4 ⟨⟨_, x4⟩, rfl⟩
          go_wp2
          go_roundw
          case rel => exact ⟨k + 1, by omega, by go_num, lt_succ_allV HZ.out (by rw [HA.out, HI.out, HJ0.out]; rfl), (by repeat (first | with_reducible exact Ext.refl _ | with_reducible assumption | with_reducible refine Ext.drew ?_ | with_reducible refine Ext.alloc ?_ _ | with_reducible refine Ext.trans ?_ (by with_reducible assumption)))⟩
          case measure => simp [intOf]; omega
    · go_wp2
      go_ret
      exact ⟨ret_bool (by rw [vers_yes fun j hj => HZ.out j (by omega)]; exact decide_eq_decide.2 (by omega)), hx⟩
end Go.Proofs.Ytblggajfdhjmjaa
