/-
  WALKS: AssignmentValue (both).
-/
import Derived.Test.YtenfgmpndpgbhaaAsg
namespace Go.Proofs.Ytenfgmpndpgbhaa
open Go.RowKit

def valAt (m : List (List Int)) (a : List Int) (j : Nat) : Int := if 0 ≤ a.getD j 0 then (m.getD j []).getD (a.getD j 0).toNat 0 else 0
def sumTo (m : List (List Int)) (a : List Int) : Nat → Int
  | 0 => 0
  | k + 1 => sumTo m a k + valAt m a k
noncomputable def asgVal (m : List (List Int)) (a : List Int) : Int := if okAsg m a then sumTo m a a.length else -1

theorem okMat_at {m : List (List Int)} (h : okMat m = true) {i : Nat} (hi : i < m.length) : m[i].length = width m ∧ m[i].length ≤ 8 ∧ ∀ x ∈ m[i], 0 ≤ x ∧ x ≤ 100 := by
  unfold okMat at h
  rw [Bool.and_eq_true] at h
  have := List.all_eq_true.1 h.1 m[i] (List.getElem_mem hi)
  simp only [okRow, Bool.and_eq_true, beq_iff_eq, decide_eq_true_eq] at this
  exact ⟨this.1.1, this.1.2, fun x hx => inB_iff.1 (List.all_eq_true.1 this.2 x hx)⟩
theorem okMat_len {m : List (List Int)} (h : okMat m = true) : m.length ≤ 8 := by
  unfold okMat at h
  rw [Bool.and_eq_true] at h
  simpa using h.2
theorem getD_bd {l : List Int} (h : ∀ x ∈ l, 0 ≤ x ∧ x ≤ 100) (k : Nat) : 0 ≤ l.getD k 0 ∧ l.getD k 0 ≤ 100 := by
  by_cases hk : k < l.length
  · rw [getD_at hk]; exact h _ (List.getElem_mem hk)
  · simp [List.getD, hk]
theorem valAt_bd {m : List (List Int)} (h : okMat m = true) (a : List Int) (j : Nat) : 0 ≤ valAt m a j ∧ valAt m a j ≤ 100 := by
  unfold valAt
  split
  · by_cases hj : j < m.length
    · rw [getD_at hj]; exact getD_bd (okMat_at h hj).2.2 _
    · simp [List.getD, hj]
  · omega
theorem sumTo_bd {m : List (List Int)} (h : okMat m = true) (a : List Int) (k : Nat) : 0 ≤ sumTo m a k ∧ sumTo m a k ≤ 100 * k := by
  induction k with
  | zero => simp [sumTo]
  | succ k ih =>
    have := valAt_bd h a k
    simp only [sumTo]; omega
theorem okAsg_parts {m : List (List Int)} {a : List Int} (h : okAsg m a = true) : okMat m = true ∧ a.length = m.length ∧ ∀ j, j < a.length → pickAt m a j = true := by
  unfold okAsg at h
  simp only [Bool.and_eq_true, beq_iff_eq] at h
  exact ⟨h.1.1, h.1.2, fun j hj => List.all_eq_true.1 h.2 j (List.mem_range.2 hj)⟩
theorem pick_in {r prev : List Int} {x : Int} (h : pickOk r prev x = true) (h0 : 0 ≤ x) : x.toNat < r.length := by
  unfold pickOk at h
  simp only [Bool.or_eq_true, beq_iff_eq, Bool.and_eq_true] at h
  rcases h with h | h
  · omega
  · have := inB_iff.1 h.1.1; omega
theorem valAt_yes {m : List (List Int)} {a : List Int} {k : Nat} (hm : k < m.length) (ha : k < a.length) (h0 : 0 ≤ a[k]) (hr : a[k].toNat < m[k].length) : valAt m a k = m[k][a[k].toNat] := by
  unfold valAt; rw [getD_at hm, getD_at ha, if_pos h0, getD_at hr]
theorem valAt_no {m : List (List Int)} {a : List Int} {k : Nat} (ha : k < a.length) (h0 : ¬ 0 ≤ a[k]) : valAt m a k = 0 := by
  unfold valAt; rw [getD_at ha, if_neg h0]

set_option maxHeartbeats 400000 in
theorem spec_AssignmentValue (v u : Value) (m : List (List Int)) (a : List Int) (w : World) (h : Sl (slR intR) w v m) (h2 : Sl intR w u a) :
    Calls Try.prog 30 #[v, u] w fun e w2 => e = .returned (.int .i64 (asgVal m a)) ∧ Ext w w2 := by
  obtain ⟨A, cap, rfl, hm⟩ := h.form
  obtain ⟨B, cap2, rfl, hm2⟩ := h2.form
  go_enter Try.func30, Try.ntmps30
  go_wp2_with fail
  refine (spec_IsAssignment _ _ m a _ h h2).mono ?_
  rintro e w1 ⟨rfl, x1⟩
  by_cases hok : okAsg m a = true
  · obtain ⟨hom, hl, hpk⟩ := okAsg_parts hok
    have hm8 := okMat_len hom
    rw [hok]
    have HO := hid hok
    have HM := hid hom
    have HL := hid hl
    have HP := hid hpk
    clear hok hom hl hpk
    go_wp2_with fail
    go_loopw [5, 6] (fun s i wr => ∃ k : Nat, k ≤ a.length ∧ i = .int .i64 k ∧ s = .int .i64 (sumTo m a k) ∧ Ext w wr) (fun _ i _ => a.length - (intOf i).toNat)
    case atStart => exact ⟨0, Nat.zero_le _, rfl, rfl, x1⟩
    case round =>
      obtain ⟨k, hk, rfl, rfl, hx⟩ := hrel
      have hsb := sumTo_bd HM.out a k
      by_cases hlt : k < a.length
      · have hltm : k < m.length := by have := HL.out; omega
        have hk8 : k ≤ 8 := by omega
        obtain ⟨b, off, rfl, hi, hc⟩ := (h2.mono hx).int hlt
        by_cases h0 : 0 ≤ a[k]
        · obtain ⟨b2, off2, A3, cap3, rfl, hs3, hc2⟩ := (h.mono hx).sl hltm
          have hln : m[k].length ≤ 9223372036854775807 := by
            obtain ⟨_, _, _, h9⟩ := hs3.form
            exact h9
          have hrl : a[k].toNat < m[k].length := pick_in (by have := HP.out k hlt; rwa [pickAt_eq hltm hlt] at this) h0
          have hrl2 : a[k] < (m[k].length : Int) := by omega
          obtain ⟨b3, off3, rfl, hi3, hc3⟩ := hs3.int hrl
          have hcz : ∀ z : ExtOf wr, z.1.cell? ⟨b, off + k, none⟩ = _ := fun z => z.2.cell hc
          have hcz2 : ∀ z : ExtOf wr, z.1.cell? ⟨b2, off2 + k, none⟩ = _ := fun z => z.2.cell hc2
          have hcz3 : ∀ z : ExtOf wr, z.1.cell? ⟨b3, off3 + a[k].toNat, none⟩ = _ := fun z => z.2.cell hc3
          have hvb : 0 ≤ m[k][a[k].toNat] ∧ m[k][a[k].toNat] ≤ 100 := (okMat_at HM.out hltm).2.2 _ (List.getElem_mem hrl)
          go_wp2_with fail
          refine wp_region_ext (by kernel_rfl) (by kernel_rfl) ?_
          repeat (go_big_quiet_step ((fail)))
          refine wpQuiet_nil ?_
          rintro w2 ⟨⟨_, x2⟩, rfl⟩
          go_wp2
          go_roundw
          case rel => exact ⟨k + 1, by omega, by go_num, by simp only [sumTo]; rw [valAt_yes hltm hlt h0 hrl], hx.trans x2⟩
          case measure => simp [intOf]; omega
        · go_wp2
          go_roundw
          case rel => exact ⟨k + 1, by omega, by go_num, by simp only [sumTo]; rw [valAt_no hlt (by omega)]; simp, hx⟩
          case measure => simp [intOf]; omega
      · go_wp2
        go_ret
        exact ⟨ret_int (by unfold asgVal; rw [if_pos HO.out, show a.length = k by omega]), hx⟩
  · have hok' : okAsg m a = false := by simpa using hok
    rw [hok']
    have HO := hid hok'
    clear hok hok'
    go_wp2
    go_ret
    exact ⟨ret_int (by unfold asgVal; rw [HO.out]; rfl), x1⟩

set_option maxHeartbeats 400000 in
theorem impl_AssignmentValue (v u : Value) (m : List (List Int)) (a : List Int) (w : World) (h : Sl (slR intR) w v m) (h2 : Sl intR w u a) :
    Calls Try.prog 31 #[v, u] w fun e w2 => e = .returned (.int .i64 (asgVal m a)) ∧ Ext w w2 := by
  obtain ⟨A, cap, rfl, hm⟩ := h.form
  obtain ⟨B, cap2, rfl, hm2⟩ := h2.form
  go_enter Try.func31, Try.ntmps31
  go_wp2_with fail
  refine (impl_IsAssignment _ _ m a _ h h2).mono ?_
  rintro e w1 ⟨rfl, x1⟩
  by_cases hok : okAsg m a = true
  · obtain ⟨hom, hl, hpk⟩ := okAsg_parts hok
    have hm8 := okMat_len hom
    rw [hok]
    have HO := hid hok
    have HM := hid hom
    have HL := hid hl
    have HP := hid hpk
    clear hok hom hl hpk
    go_wp2_with fail
    go_loopw [5, 14] (fun s i wr => ∃ k : Nat, k ≤ a.length ∧ i = .int .i64 k ∧ s = .int .i64 (sumTo m a k) ∧ Ext w wr) (fun _ i _ => a.length - (intOf i).toNat)
    case atStart => exact ⟨0, Nat.zero_le _, rfl, rfl, x1⟩
    case round =>
      obtain ⟨k, hk, rfl, rfl, hx⟩ := hrel
      have hsb := sumTo_bd HM.out a k
      by_cases hlt : k < a.length
      · have hltm : k < m.length := by have := HL.out; omega
        have hk8 : k ≤ 8 := by omega
        obtain ⟨b, off, rfl, hi, hc⟩ := (h2.mono hx).int hlt
        by_cases h0 : 0 ≤ a[k]
        · obtain ⟨b2, off2, A3, cap3, rfl, hs3, hc2⟩ := (h.mono hx).sl hltm
          have hln : m[k].length ≤ 9223372036854775807 := by
            obtain ⟨_, _, _, h9⟩ := hs3.form
            exact h9
          have hrl : a[k].toNat < m[k].length := pick_in (by have := HP.out k hlt; rwa [pickAt_eq hltm hlt] at this) h0
          have hrl2 : a[k] < (m[k].length : Int) := by omega
          obtain ⟨b3, off3, rfl, hi3, hc3⟩ := hs3.int hrl
          have hcz : ∀ z : ExtOf wr, z.1.cell? ⟨b, off + k, none⟩ = _ := fun z => z.2.cell hc
          have hcz2 : ∀ z : ExtOf wr, z.1.cell? ⟨b2, off2 + k, none⟩ = _ := fun z => z.2.cell hc2
          have hcz3 : ∀ z : ExtOf wr, z.1.cell? ⟨b3, off3 + a[k].toNat, none⟩ = _ := fun z => z.2.cell hc3
          have hvb : 0 ≤ m[k][a[k].toNat] ∧ m[k][a[k].toNat] ≤ 100 := (okMat_at HM.out hltm).2.2 _ (List.getElem_mem hrl)
          have x2 := Ext.refl wr
          go_wp2
          go_roundw
          case rel => exact ⟨k + 1, by omega, by go_num, by simp only [sumTo]; rw [valAt_yes hltm hlt h0 hrl], hx.trans x2⟩
          case measure => simp [intOf]; omega
        · go_wp2
          go_roundw
          case rel => exact ⟨k + 1, by omega, by go_num, by simp only [sumTo]; rw [valAt_no hlt (by omega)]; simp, hx⟩
          case measure => simp [intOf]; omega
      · go_wp2
        go_ret
        exact ⟨ret_int (by unfold asgVal; rw [if_pos HO.out, show a.length = k by omega]), hx⟩
  · have hok' : okAsg m a = false := by simpa using hok
    rw [hok']
    have HO := hid hok'
    clear hok hok'
    go_wp2
    go_ret
    exact ⟨ret_int (by unfold asgVal; rw [HO.out]; rfl), x1⟩
end Go.Proofs.Ytenfgmpndpgbhaa
