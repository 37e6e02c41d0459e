/-
  PLAIN LAW AND WALKS: AreEntities (both).
-/
import Derived.Test.YtfcbapaojoecgabMgEndFnId6

namespace Go.Proofs.Ytfcbapaojoecgab
open Go.RowKit

def idsOf (xs : List Entity) : List Int := xs.map Entity.id
def entAt (ids : List Int) (k : Nat) : Bool := inB (ids.getD k 0) 1 9999 && (k == 0 || decide (ids.getD (k - 1) 0 < ids.getD k 0))
def areEnts (xs : List Entity) : Bool := (List.range xs.length).all (entAt (idsOf xs)) && areGroups (mems xs)
theorem idsOf_at {xs : List Entity} {k : Nat} (h : k < xs.length) : (idsOf xs).getD k 0 = xs[k].id := by
  rw [getD_at (by simpa [idsOf] using h)]; simp [idsOf]
theorem ents_no {xs : List Entity} {k : Nat} (hk : k < xs.length) (h : entAt (idsOf xs) k = false) : areEnts xs = false := by
  unfold areEnts
  rw [List.all_eq_false.2 ⟨k, List.mem_range.2 hk, by simp [h]⟩]; rfl
theorem ents_yes {xs : List Entity} (h : ∀ j, j < xs.length → entAt (idsOf xs) j = true) : areEnts xs = areGroups (mems xs) := by
  unfold areEnts
  rw [List.all_eq_true.2 fun j hj => h j (List.mem_range.1 hj)]; rfl
theorem entAt_eq {xs : List Entity} {k : Nat} (h : k < xs.length) : entAt (idsOf xs) k = (inB xs[k].id 1 9999 && (k == 0 || decide ((idsOf xs).getD (k - 1) 0 < xs[k].id))) := by
  unfold entAt; rw [idsOf_at h]
theorem sumLen_mems (xs : List Entity) : sumLen (mems xs) = sumMem xs := by
  unfold sumLen mems sumMem; rw [List.map_map]; rfl

set_option maxHeartbeats 400000 in
set_option maxRecDepth 20000 in
theorem spec_AreEntities (v : Value) (xs : List Entity) (w : World) (h : Sl entityR w v xs) (hb : msEnts xs ≤ 1048576) :
    Calls Try.prog 25 #[v] w fun e w2 => e = .returned (.bool (areEnts xs)) ∧ Ext w w2 := by
  obtain ⟨A, cap, rfl, hm⟩ := h.form
  go_enter Try.func25, Try.ntmps25
  go_wp2
  go_loopw [3] (fun i wr => ∃ k : Nat, k ≤ xs.length ∧ i = .int .i64 k ∧ (∀ q, q < k → entAt (idsOf xs) q = true) ∧ Ext w wr) (fun i _ => xs.length - (intOf i).toNat)
  case atStart => exact ⟨0, Nat.zero_le _, rfl, fun q hq => absurd hq (Nat.not_lt_zero _), Ext.refl _⟩
  case round =>
    obtain ⟨k, hk, rfl, hz, hx⟩ := hrel
    have HZ := hid hz
    clear hz
    by_cases hlt : k < xs.length
    · obtain ⟨b, off, A2, cap2, rfl, hI, hsl, hc0, hc1⟩ := (h.mono hx).ent hlt
      have HA := hid (entAt_eq hlt)
      have hcz1 : ∀ z : ExtOf wr, z.1.cell? ⟨b, off + k * 2, none⟩ = _ := fun z => z.2.cell hc0
      cases hin : inB xs[k].id 1 9999 with
      | false =>
        go_wp2_with fail
        refine wp_region_ext (by kernel_rfl) (by kernel_rfl) ?_
        repeat (go_big_quiet_step ((first | (go_at_call 29; exact quiet_same (Calls.mono (spec_l1In _ _ _ _) fun _ _ h9 => ⟨h9.1.trans (ret_bool hin), h9.2⟩)))))
        refine wpQuiet_nil ?_
        rintro w4 ⟨⟨_, x4⟩, rfl⟩
        go_wp2
        go_ret
        exact ⟨ret_bool (ents_no hlt (by rw [HA.out, hin]; rfl)).symm, hx.trans x4⟩
      | true =>
        have HI := hid hin
        by_cases hj0 : 0 < k
        · have hlt1 : k - 1 < xs.length := by omega
          obtain ⟨b3, off3, A3, cap3, e3, hI3, _, hd0, _⟩ := (h.mono hx).ent hlt1
          cases e3
          have hsub : ((k - 1 : Nat) : Int) = (k : Int) - 1 := by omega
          have hcz3 : ∀ z : ExtOf wr, z.1.cell? ⟨b, off + (k - 1) * 2, none⟩ = _ := fun z => z.2.cell hd0
          have HGD := hid (idsOf_at hlt1)
          by_cases hge : xs[k].id ≤ xs[k - 1].id
          · have hge2 : decide (xs[k - 1].id < xs[k].id) = false := by simpa using hge
            have HGE := hid hge2
            clear hge2
            go_wp2_with fail
            refine wp_region_ext (by kernel_rfl) (by kernel_rfl) ?_
            repeat (go_big_quiet_step ((first | (go_at_call 29; exact quiet_same (Calls.mono (spec_l1In _ _ _ _) fun _ _ h9 => ⟨h9.1.trans (ret_bool hin), h9.2⟩)))))
            refine wpQuiet_nil ?_
            rintro w4 ⟨⟨_, x4⟩, rfl⟩
            go_wp2
            go_ret
            exact ⟨ret_bool (ents_no hlt (by rw [HA.out, HGD.out, HGE.out, show (k == 0) = false by simp; omega]; simp)).symm, hx.trans x4⟩
          · have hge2 : decide (xs[k - 1].id < xs[k].id) = true := by simpa using hge
            have hge3 : decide (xs[k].id ≤ xs[k - 1].id) = false := by simpa using hge
            have HGE := hid hge2
            clear hge2 hge
            go_wp2_with fail
            refine wp_region_ext (by kernel_rfl) (by kernel_rfl) ?_
            repeat (go_big_quiet_step ((first | (go_at_call 29; exact quiet_same (Calls.mono (spec_l1In _ _ _ _) fun _ _ h9 => ⟨h9.1.trans (ret_bool hin), h9.2⟩)))))
            refine wpQuiet_nil ?_
            rintro w4 ⟨⟨_, x4⟩, rfl⟩
            go_wp2
            go_roundw
            case rel => exact ⟨k + 1, by omega, by go_num, lt_succ_all HZ.out (by rw [HA.out, HI.out, HGD.out, HGE.out, Bool.or_true]; rfl), hx.trans x4⟩
            case measure => simp [intOf]; omega
        · have hjd1 : decide (0 < k) = false := by simpa using hj0
          have hjd2 : decide ((0 : Int) < (k : Int)) = false := by simp; omega
          have HJ0 := hid (show (k == 0) = true by simp; omega)
          clear hj0
          go_wp2_with fail
          refine wp_region_ext (by kernel_rfl) (by kernel_rfl) ?_
          repeat (go_big_quiet_step ((first | (go_at_call 29; exact quiet_same (Calls.mono (spec_l1In _ _ _ _) fun _ _ h9 => ⟨h9.1.trans (ret_bool hin), h9.2⟩)))))
          refine wpQuiet_nil ?_
          rintro w4 ⟨⟨_, x4⟩, rfl⟩
          go_wp2
          go_roundw
          case rel => exact ⟨k + 1, by omega, by go_num, lt_succ_all HZ.out (by rw [HA.out, HI.out, HJ0.out]; rfl), hx.trans x4⟩
          case measure => simp [intOf]; omega
    · have HB := hid hb
      unfold msEnts at hb
      go_wp2_with fail
      refine (spec_l26Groups _ xs _ (h.mono hx) (by omega) (by omega)).mono ?_
      rintro e w2 ⟨v2, rfl, hs2, x2⟩
      go_wp2_with fail
      refine (spec_AreGroups _ (mems xs) _ hs2 (by rw [sumLen_mems]; omega)).mono ?_
      rintro e w3 ⟨rfl, x3⟩
      go_wp2
      go_ret
      exact ⟨ret_bool (ents_yes fun j hj => HZ.out j (by omega)).symm, (by repeat (first | with_reducible exact Ext.refl _ | with_reducible assumption | with_reducible refine Ext.drew ?_ | with_reducible refine Ext.alloc ?_ _ | with_reducible refine Ext.trans ?_ (by with_reducible assumption)))⟩

set_option maxHeartbeats 400000 in
set_option maxRecDepth 20000 in
theorem impl_AreEntities (v : Value) (xs : List Entity) (w : World) (h : Sl entityR w v xs) (hb : msEnts xs ≤ 1048576) :
    Calls Try.prog 20 #[v] w fun e w2 => e = .returned (.bool (areEnts xs)) ∧ Ext w w2 := by
  obtain ⟨A, cap, rfl, hm⟩ := h.form
  go_enter Try.func20, Try.ntmps20
  go_wp2
  go_loopw [7] (fun i wr => ∃ k : Nat, k ≤ xs.length ∧ i = .int .i64 k ∧ (∀ q, q < k → entAt (idsOf xs) q = true) ∧ Ext w wr) (fun i _ => xs.length - (intOf i).toNat)
  case atStart => exact ⟨0, Nat.zero_le _, rfl, fun q hq => absurd hq (Nat.not_lt_zero _), Ext.refl _⟩
  case round =>
    obtain ⟨k, hk, rfl, hz, hx⟩ := hrel
    have HZ := hid hz
    clear hz
    by_cases hlt : k < xs.length
    · obtain ⟨b, off, A2, cap2, rfl, hI, hsl, hc0, hc1⟩ := (h.mono hx).ent hlt
      have HA := hid (entAt_eq hlt)
      have hcz0 : ∀ z : ExtOf (wr.alloc (.cells #[.int .i64 xs[k].id, .slice A2 xs[k].members.length cap2] 42)), z.1.cell? ⟨wr.heap.size, 0, none⟩ = some (.int .i64 xs[k].id) := fun z => z.2.box.1 0
      cases hin : inB xs[k].id 1 9999 with
      | false =>
        go_wp2_with fail
        refine wp_region_ext (by kernel_rfl) (by kernel_rfl) ?_
        repeat (go_big_quiet_step ((first | (go_at_call 38; exact quiet_same (Calls.mono (impl_within _ _ _ _) fun _ _ h9 => ⟨h9.1.trans (ret_bool hin), h9.2⟩)))))
        refine wpQuiet_nil ?_
        rintro w4 ⟨⟨_, x4⟩, rfl⟩
        go_wp2
        go_ret
        exact ⟨ret_bool (ents_no hlt (by rw [HA.out, hin]; rfl)).symm, (by repeat (first | with_reducible exact Ext.refl _ | with_reducible assumption | with_reducible refine Ext.drew ?_ | with_reducible refine Ext.alloc ?_ _ | with_reducible refine Ext.trans ?_ (by with_reducible assumption)))⟩
      | true =>
        have HI := hid hin
        by_cases hj0 : 0 < k
        · have hlt1 : k - 1 < xs.length := by omega
          obtain ⟨b3, off3, A3, cap3, e3, hI3, _, hd0, _⟩ := (h.mono hx).ent hlt1
          cases e3
          have hsub : ((k - 1 : Nat) : Int) = (k : Int) - 1 := by omega
          have hcz3 : ∀ z : ExtOf (wr.alloc (.cells #[.int .i64 xs[k].id, .slice A2 xs[k].members.length cap2] 42)), z.1.cell? ⟨b, off + (k - 1) * 2, none⟩ = _ := fun z => (((Ext.refl _).alloc _).trans z.2).cell hd0
          have HGD := hid (idsOf_at hlt1)
          by_cases hge : xs[k].id ≤ xs[k - 1].id
          · have hge2 : decide (xs[k - 1].id < xs[k].id) = false := by simpa using hge
            have HGE := hid hge2
            clear hge2
            go_wp2_with fail
            refine wp_region_ext (by kernel_rfl) (by kernel_rfl) ?_
            repeat (go_big_quiet_step ((first | (go_at_call 38; exact quiet_same (Calls.mono (impl_within _ _ _ _) fun _ _ h9 => ⟨h9.1.trans (ret_bool hin), h9.2⟩)))))
            refine wpQuiet_nil ?_
            rintro w4 ⟨⟨_, x4⟩, rfl⟩
            go_wp2
            go_ret
            exact ⟨ret_bool (ents_no hlt (by rw [HA.out, HGD.out, HGE.out, show (k == 0) = false by simp; omega]; simp)).symm, (by repeat (first | with_reducible exact Ext.refl _ | with_reducible assumption | with_reducible refine Ext.drew ?_ | with_reducible refine Ext.alloc ?_ _ | with_reducible refine Ext.trans ?_ (by with_reducible assumption)))⟩
          · have hge2 : decide (xs[k - 1].id < xs[k].id) = true := by simpa using hge
            have hge3 : decide (xs[k].id ≤ xs[k - 1].id) = false := by simpa using hge
            have HGE := hid hge2
            clear hge2 hge
            go_wp2_with fail
            refine wp_region_ext (by kernel_rfl) (by kernel_rfl) ?_
            repeat (go_big_quiet_step ((first | (go_at_call 38; exact quiet_same (Calls.mono (impl_within _ _ _ _) fun _ _ h9 => ⟨h9.1.trans (ret_bool hin), h9.2⟩)))))
            refine wpQuiet_nil ?_
            rintro w4 ⟨⟨_, x4⟩, rfl⟩
            go_wp2
            go_roundw
            case rel => exact ⟨k + 1, by omega, by go_num, lt_succ_all HZ.out (by rw [HA.out, HI.out, HGD.out, HGE.out, Bool.or_true]; rfl), (by repeat (first | with_reducible exact Ext.refl _ | with_reducible assumption | with_reducible refine Ext.drew ?_ | with_reducible refine Ext.alloc ?_ _ | with_reducible refine Ext.trans ?_ (by with_reducible assumption)))⟩
            case measure => simp [intOf]; omega
        · have hjd1 : decide (0 < k) = false := by simpa using hj0
          have hjd2 : decide ((0 : Int) < (k : Int)) = false := by simp; omega
          have HJ0 := hid (show (k == 0) = true by simp; omega)
          clear hj0
          go_wp2_with fail
          refine wp_region_ext (by kernel_rfl) (by kernel_rfl) ?_
          repeat (go_big_quiet_step ((first | (go_at_call 38; exact quiet_same (Calls.mono (impl_within _ _ _ _) fun _ _ h9 => ⟨h9.1.trans (ret_bool hin), h9.2⟩)))))
          refine wpQuiet_nil ?_
          rintro w4 ⟨⟨_, x4⟩, rfl⟩
          go_wp2
          go_roundw
          case rel => exact ⟨k + 1, by omega, by go_num, lt_succ_all HZ.out (by rw [HA.out, HI.out, HJ0.out]; rfl), (by repeat (first | with_reducible exact Ext.refl _ | with_reducible assumption | with_reducible refine Ext.drew ?_ | with_reducible refine Ext.alloc ?_ _ | with_reducible refine Ext.trans ?_ (by with_reducible assumption)))⟩
          case measure => simp [intOf]; omega
    · have HB := hid hb
      unfold msEnts at hb
      go_wp2_with fail
      refine (impl_membersOf _ xs _ (h.mono hx) (by omega)).mono ?_
      rintro e w2 ⟨v2, rfl, hs2, x2⟩
      go_wp2_with fail
      refine (impl_AreGroups _ (mems xs) _ hs2 (by rw [sumLen_mems]; omega)).mono ?_
      rintro e w3 ⟨rfl, x3⟩
      go_wp2
      go_ret
      exact ⟨ret_bool (ents_yes fun j hj => HZ.out j (by omega)).symm, (by repeat (first | with_reducible exact Ext.refl _ | with_reducible assumption | with_reducible refine Ext.drew ?_ | with_reducible refine Ext.alloc ?_ _ | with_reducible refine Ext.trans ?_ (by with_reducible assumption)))⟩
end Go.Proofs.Ytfcbapaojoecgab
