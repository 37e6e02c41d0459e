/-
  WALKS: IsAssignment, AssignmentValue (both).
-/
import Derived.Test.YtenfgmpndpgbhaaMat
import Derived.Test.YtenfgmpndpgbhaaFind
namespace Go.Proofs.Ytenfgmpndpgbhaa
open Go.RowKit

def pickOk (r : List Int) (prev : List Int) (x : Int) : Bool := x == -1 || (inB x 0 ((r.length : Int) - 1) && !(r.getD x.toNat 0 == 0) && !hasI x prev)
def pickAt (m : List (List Int)) (a : List Int) (j : Nat) : Bool := pickOk (m.getD j []) (a.take j) (a.getD j 0)
def okAsg (m : List (List Int)) (a : List Int) : Bool := okMat m && a.length == m.length && (List.range a.length).all (pickAt m a)
theorem okAsg_false {m : List (List Int)} {a : List Int} {k : Nat} (hk : k < a.length) (h : pickAt m a k = false) : okAsg m a = false := by
  unfold okAsg
  have : (List.range a.length).all (pickAt m a) = false := List.all_eq_false.2 ⟨k, List.mem_range.2 hk, by simp [h]⟩
  rw [this, Bool.and_false]
theorem okAsg_true {m : List (List Int)} {a : List Int} (hm : okMat m = true) (hl : a.length = m.length) (h : ∀ j, j < a.length → pickAt m a j = true) : okAsg m a = true := by
  unfold okAsg
  rw [hm, List.all_eq_true.2 (fun j hj => h j (List.mem_range.1 hj))]
  simp [hl]
theorem inB_iff {x a b : Int} : inB x a b = true ↔ a ≤ x ∧ x ≤ b := by simp [inB]
theorem getD_at {α : Type} {l : List α} {k : Nat} {d : α} (h : k < l.length) : l.getD k d = l[k] := by simp [List.getD, h]
theorem pickAt_eq {m : List (List Int)} {a : List Int} {k : Nat} (hm : k < m.length) (ha : k < a.length) : pickAt m a k = pickOk m[k] (a.take k) a[k] := by
  unfold pickAt
  rw [getD_at hm, getD_at ha]
theorem pick_m1 {r prev : List Int} {x : Int} (h : x = -1) : pickOk r prev x = true := by simp [pickOk, h]
theorem pick_out {r prev : List Int} {x : Int} (h : ¬ x = -1) (hi : inB x 0 ((r.length : Int) - 1) = false) : pickOk r prev x = false := by simp [pickOk, h, hi]
theorem pick_zero {r prev : List Int} {x : Int} (h : ¬ x = -1) (hr : x.toNat < r.length) (hz : r[x.toNat] = 0) : pickOk r prev x = false := by
  unfold pickOk; rw [getD_at hr, hz]; simp [h]
theorem pick_has {r prev : List Int} {x : Int} (h : ¬ x = -1) (hh : hasI x prev = true) : pickOk r prev x = false := by simp [pickOk, h, hh]
theorem pick_ok {r prev : List Int} {x : Int} (hi : inB x 0 ((r.length : Int) - 1) = true) (hr : x.toNat < r.length) (hz : ¬ r[x.toNat] = 0) (hh : hasI x prev = false) : pickOk r prev x = true := by
  unfold pickOk; rw [getD_at hr, hi, hh]; simp [hz]
theorem lt_succ_all {p : Nat → Prop} {k : Nat} (h : ∀ j, j < k → p j) (hk : p k) : ∀ j, j < k + 1 → p j := fun j hj => by
  by_cases e : j = k
  · subst e; exact hk
  · exact h j (by omega)

set_option maxHeartbeats 400000 in
theorem spec_IsAssignment (v u : Value) (m : List (List Int)) (a : List Int) (w : World) (h : Sl (slR intR) w v m) (h2 : Sl intR w u a) :
    Calls Try.prog 18 #[v, u] w fun e w2 => e = .returned (.bool (okAsg m a)) ∧ Ext w w2 := by
  obtain ⟨A, cap, rfl, hm⟩ := h.form
  obtain ⟨B, cap2, rfl, hm2⟩ := h2.form
  go_enter Try.func18, Try.ntmps18
  go_wp2_with fail
  refine (spec_IsOverlapMatrix _ m _ h).mono ?_
  rintro e w1 ⟨rfl, x1⟩
  by_cases hok : okMat m = true
  · rw [hok]
    have HO := hid hok
    clear hok
    by_cases hl : a.length = m.length
    · have hl' : ((a.length : Int) != (m.length : Int)) = false := by simp [hl]
      have HL := hid hl
      clear hl
      go_wp2_with fail
      go_loopw [5] (fun i wr => ∃ k : Nat, k ≤ a.length ∧ i = .int .i64 k ∧ (∀ j, j < k → pickAt m a j = true) ∧ Ext w wr) (fun i _ => a.length - (intOf i).toNat)
      case atStart => exact ⟨0, Nat.zero_le _, rfl, fun j hj => absurd hj (Nat.not_lt_zero _), x1⟩
      case round =>
        obtain ⟨k, hk, rfl, hz, hx⟩ := hrel
        have HZ := hid hz
        clear hz
        by_cases hlt : k < a.length
        · have hltm : k < m.length := by have := HL.out; omega
          obtain ⟨b, off, rfl, hi, hc⟩ := (h2.mono hx).int hlt
          obtain ⟨b2, off2, A3, cap3, rfl, hs3, hc2⟩ := (h.mono hx).sl hltm
          have hcz : ∀ z : ExtOf wr, z.1.cell? ⟨b, off + k, none⟩ = _ := fun z => z.2.cell hc
          have hcz2 : ∀ z : ExtOf wr, z.1.cell? ⟨b2, off2 + k, none⟩ = _ := fun z => z.2.cell hc2
          have hcap := h2.cap_
          have hln : m[k].length ≤ 9223372036854775807 := by
            obtain ⟨_, _, _, h9⟩ := hs3.form
            exact h9
          have HP := hid (pickAt_eq hltm hlt)
          by_cases hm1 : a[k] = -1
          · have hm1' : (a[k] == -1) = true := by simp [hm1]
            have H1 := hid hm1
            clear hm1
            go_wp2
            go_roundw
            case rel => exact ⟨k + 1, by omega, by go_num, lt_succ_all HZ.out (by rw [HP.out]; exact pick_m1 H1.out), hx⟩
            case measure => simp [intOf]; omega
          · have hm1' : (a[k] == -1) = false := by simp [hm1]
            have H1 := hid hm1
            clear hm1
            by_cases hin : inB a[k] 0 ((m[k].length : Int) - 1) = true
            · have hin2 := inB_iff.1 hin
              have hrl : a[k].toNat < m[k].length := by omega
              obtain ⟨b3, off3, rfl, hi3, hc3⟩ := hs3.int hrl
              have hcz3 : ∀ z : ExtOf wr, z.1.cell? ⟨b3, off3 + a[k].toNat, none⟩ = _ := fun z => z.2.cell hc3
              have HI := hid hin
              by_cases hzr : m[k][a[k].toNat] = 0
              · have hzr' : (m[k][a[k].toNat] == 0) = true := by simp [hzr]
                have HR := hid hzr
                clear hzr
                go_wp2_with fail
                refine wp_region_ext (by kernel_rfl) (by kernel_rfl) ?_
                repeat (go_big_quiet_step ((first | (go_at_call 63; exact quiet_same (Calls.mono (spec_l1In _ _ _ _) fun _ _ h9 => ⟨h9.1.trans (ret_bool hin), h9.2⟩)))))
                refine wpQuiet_nil ?_
                rintro w2 ⟨⟨_, x2⟩, rfl⟩
                go_wp2
                go_ret
                exact ⟨ret_bool (okAsg_false hlt (by rw [HP.out]; exact pick_zero H1.out hrl HR.out)).symm, hx.trans x2⟩
              · have hzr' : (m[k][a[k].toNat] == 0) = false := by simp [hzr]
                have HR := hid hzr
                clear hzr
                have hbd := idxI_bd a[k] (a.take k)
                have hnn := hid (idxI_nn a[k] (a.take k))
                by_cases hh : hasI a[k] (a.take k) = true
                · have h0 : 0 ≤ idxI a[k] (a.take k) := by have := hnn.out; rw [hh] at this; simpa using this
                  have HH := hid hh
                  clear hh
                  go_wp2_with fail
                  refine wp_region_ext (by kernel_rfl) (by kernel_rfl) ?_
                  repeat (go_big_quiet_step ((first | (go_at_call 63; exact quiet_same (Calls.mono (spec_l1In _ _ _ _) fun _ _ h9 => ⟨h9.1.trans (ret_bool hin), h9.2⟩)) | (go_at_call 64; exact quiet_same (spec_l24Find _ (a.take k) _ _ ((h2.mono (hx.trans (Subtype.property _))).take (by omega)))))))
                  refine wpQuiet_nil ?_
                  rintro w2 ⟨⟨_, x2⟩, rfl⟩
                  go_wp2
                  go_ret
                  exact ⟨ret_bool (okAsg_false hlt (by rw [HP.out]; exact pick_has H1.out HH.out)).symm, hx.trans x2⟩
                · have hh' : hasI a[k] (a.take k) = false := by simpa using hh
                  have h0 : idxI a[k] (a.take k) < 0 := by have := hnn.out; rw [hh'] at this; simpa using this
                  have HH := hid hh'
                  clear hh hh'
                  go_wp2_with fail
                  refine wp_region_ext (by kernel_rfl) (by kernel_rfl) ?_
                  repeat (go_big_quiet_step ((first | (go_at_call 63; exact quiet_same (Calls.mono (spec_l1In _ _ _ _) fun _ _ h9 => ⟨h9.1.trans (ret_bool hin), h9.2⟩)) | (go_at_call 64; exact quiet_same (spec_l24Find _ (a.take k) _ _ ((h2.mono (hx.trans (Subtype.property _))).take (by omega)))))))
                  refine wpQuiet_nil ?_
                  rintro w2 ⟨⟨_, x2⟩, rfl⟩
                  go_wp2
                  go_roundw
                  case rel => exact ⟨k + 1, by omega, by go_num, lt_succ_all HZ.out (by rw [HP.out]; exact pick_ok HI.out hrl HR.out HH.out), hx.trans x2⟩
                  case measure => simp [intOf]; omega
            · have hin' : inB a[k] 0 ((m[k].length : Int) - 1) = false := by simpa using hin
              have HI := hid hin'
              clear hin
              go_wp2_with fail
              refine wp_region_ext (by kernel_rfl) (by kernel_rfl) ?_
              repeat (go_big_quiet_step (((go_at_call 63; exact quiet_same (Calls.mono (spec_l1In _ _ _ _) fun _ _ h9 => ⟨h9.1.trans (ret_bool hin'), h9.2⟩)))))
              refine wpQuiet_nil ?_
              rintro w2 ⟨⟨_, x2⟩, rfl⟩
              go_wp2
              go_ret
              exact ⟨ret_bool (okAsg_false hlt (by rw [HP.out]; exact pick_out H1.out HI.out)).symm, hx.trans x2⟩
        · go_wp2
          go_ret
          exact ⟨ret_bool (okAsg_true HO.out HL.out fun j hj => HZ.out j (by omega)).symm, hx⟩
    · have hl' : ((a.length : Int) != (m.length : Int)) = true := by simp; omega
      have HL := hid hl
      clear hl
      go_wp2
      go_ret
      exact ⟨ret_bool (by symm; unfold okAsg; simp [HL.out]), x1⟩
  · have hok' : okMat m = false := by simpa using hok
    rw [hok']
    have HO := hid hok'
    clear hok hok'
    go_wp2
    go_ret
    exact ⟨ret_bool (by symm; unfold okAsg; rw [HO.out]; rfl), x1⟩
set_option maxHeartbeats 400000 in
theorem impl_IsAssignment (v u : Value) (m : List (List Int)) (a : List Int) (w : World) (h : Sl (slR intR) w v m) (h2 : Sl intR w u a) :
    Calls Try.prog 21 #[v, u] w fun e w2 => e = .returned (.bool (okAsg m a)) ∧ Ext w w2 := by
  obtain ⟨A, cap, rfl, hm⟩ := h.form
  obtain ⟨B, cap2, rfl, hm2⟩ := h2.form
  go_enter Try.func21, Try.ntmps21
  go_wp2_with fail
  refine (impl_IsOverlapMatrix _ m _ h).mono ?_
  rintro e w1 ⟨rfl, x1⟩
  by_cases hok : okMat m = true
  · rw [hok]
    have HO := hid hok
    clear hok
    by_cases hl : a.length = m.length
    · have hl' : ((a.length : Int) != (m.length : Int)) = false := by simp [hl]
      have HL := hid hl
      clear hl
      go_wp2_with fail
      go_loopw [19] (fun i wr => ∃ k : Nat, k ≤ a.length ∧ i = .int .i64 k ∧ (∀ j, j < k → pickAt m a j = true) ∧ Ext w wr) (fun i _ => a.length - (intOf i).toNat)
      case atStart => exact ⟨0, Nat.zero_le _, rfl, fun j hj => absurd hj (Nat.not_lt_zero _), x1⟩
      case round =>
        obtain ⟨k, hk, rfl, hz, hx⟩ := hrel
        have HZ := hid hz
        clear hz
        by_cases hlt : k < a.length
        · have hltm : k < m.length := by have := HL.out; omega
          obtain ⟨b, off, rfl, hi, hc⟩ := (h2.mono hx).int hlt
          obtain ⟨b2, off2, A3, cap3, rfl, hs3, hc2⟩ := (h.mono hx).sl hltm
          have hcz : ∀ z : ExtOf wr, z.1.cell? ⟨b, off + k, none⟩ = _ := fun z => z.2.cell hc
          have hcz2 : ∀ z : ExtOf wr, z.1.cell? ⟨b2, off2 + k, none⟩ = _ := fun z => z.2.cell hc2
          have hcap := h2.cap_
          have hln : m[k].length ≤ 9223372036854775807 := by
            obtain ⟨_, _, _, h9⟩ := hs3.form
            exact h9
          have HP := hid (pickAt_eq hltm hlt)
          by_cases hm1 : a[k] = -1
          · have hm1' : (a[k] == -1) = true := by simp [hm1]
            have H1 := hid hm1
            clear hm1
            go_wp2
            go_roundw
            case rel => exact ⟨k + 1, by omega, by go_num, lt_succ_all HZ.out (by rw [HP.out]; exact pick_m1 H1.out), hx⟩
            case measure => simp [intOf]; omega
          · have hm1' : (a[k] == -1) = false := by simp [hm1]
            have H1 := hid hm1
            clear hm1
            by_cases hin : inB a[k] 0 ((m[k].length : Int) - 1) = true
            · have hin2 := inB_iff.1 hin
              have hrl : a[k].toNat < m[k].length := by omega
              obtain ⟨b3, off3, rfl, hi3, hc3⟩ := hs3.int hrl
              have hcz3 : ∀ z : ExtOf wr, z.1.cell? ⟨b3, off3 + a[k].toNat, none⟩ = _ := fun z => z.2.cell hc3
              have HI := hid hin
              by_cases hzr : m[k][a[k].toNat] = 0
              · have hzr' : (m[k][a[k].toNat] == 0) = true := by simp [hzr]
                have HR := hid hzr
                clear hzr
                go_wp2_with (go_at_call 66; refine (impl_within _ _ _ _).mono ?_; rintro e w2 ⟨rfl, rfl⟩; rw [hin])
                have x2 := Ext.refl wr
                go_ret
                exact ⟨ret_bool (okAsg_false hlt (by rw [HP.out]; exact pick_zero H1.out hrl HR.out)).symm, hx.trans x2⟩
              · have hzr' : (m[k][a[k].toNat] == 0) = false := by simp [hzr]
                have HR := hid hzr
                clear hzr
                have hbd := idxI_bd a[k] (a.take k)
                have hnn := hid (idxI_nn a[k] (a.take k))
                by_cases hh : hasI a[k] (a.take k) = true
                · have h0 : 0 ≤ idxI a[k] (a.take k) := by have := hnn.out; rw [hh] at this; simpa using this
                  have HH := hid hh
                  clear hh
                  go_wp2_with (first | (go_at_call 66; refine (impl_within _ _ _ _).mono ?_; rintro e w2 ⟨rfl, rfl⟩; rw [hin]) | (go_at_call 67; refine (slices_Contains _ (a.take k) _ _ ((h2.mono hx).take (by omega))).mono ?_; rintro e w2 ⟨rfl, rfl⟩; rw [HH.out]))
                  have x2 := Ext.refl wr
                  go_ret
                  exact ⟨ret_bool (okAsg_false hlt (by rw [HP.out]; exact pick_has H1.out HH.out)).symm, hx.trans x2⟩
                · have hh' : hasI a[k] (a.take k) = false := by simpa using hh
                  have h0 : idxI a[k] (a.take k) < 0 := by have := hnn.out; rw [hh'] at this; simpa using this
                  have HH := hid hh'
                  clear hh hh'
                  go_wp2_with (first | (go_at_call 66; refine (impl_within _ _ _ _).mono ?_; rintro e w2 ⟨rfl, rfl⟩; rw [hin]) | (go_at_call 67; refine (slices_Contains _ (a.take k) _ _ ((h2.mono hx).take (by omega))).mono ?_; rintro e w2 ⟨rfl, rfl⟩; rw [HH.out]))
                  have x2 := Ext.refl wr
                  go_roundw
                  case rel => exact ⟨k + 1, by omega, by go_num, lt_succ_all HZ.out (by rw [HP.out]; exact pick_ok HI.out hrl HR.out HH.out), hx.trans x2⟩
                  case measure => simp [intOf]; omega
            · have hin' : inB a[k] 0 ((m[k].length : Int) - 1) = false := by simpa using hin
              have HI := hid hin'
              clear hin
              go_wp2_with (go_at_call 66; refine (impl_within _ _ _ _).mono ?_; rintro e w2 ⟨rfl, rfl⟩; rw [hin'])
              have x2 := Ext.refl wr
              go_ret
              exact ⟨ret_bool (okAsg_false hlt (by rw [HP.out]; exact pick_out H1.out HI.out)).symm, hx.trans x2⟩
        · go_wp2
          go_ret
          exact ⟨ret_bool (okAsg_true HO.out HL.out fun j hj => HZ.out j (by omega)).symm, hx⟩
    · have hl' : ((a.length : Int) != (m.length : Int)) = true := by simp; omega
      have HL := hid hl
      clear hl
      go_wp2
      go_ret
      exact ⟨ret_bool (by symm; unfold okAsg; simp [HL.out]), x1⟩
  · have hok' : okMat m = false := by simpa using hok
    rw [hok']
    have HO := hid hok'
    clear hok hok'
    go_wp2
    go_ret
    exact ⟨ret_bool (by symm; unfold okAsg; rw [HO.out]; rfl), x1⟩
end Go.Proofs.Ytenfgmpndpgbhaa
