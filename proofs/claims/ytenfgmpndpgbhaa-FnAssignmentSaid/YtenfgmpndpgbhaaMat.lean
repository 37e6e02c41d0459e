/-
  WALKS: IsOverlapMatrix (both).
-/
import Derived.Test.YtenfgmpndpgbhaaFn
import Derived.Test.YtenfgmpndpgbhaaIntss
import Derived.Test.YtenfgmpndpgbhaaBase
namespace Go.Proofs.Ytenfgmpndpgbhaa
open Go.RowKit

def okRow (n : Nat) (r : List Int) : Bool := r.length == n && decide (r.length ≤ 8) && r.all fun x => inB x 0 100
def width (m : List (List Int)) : Nat := (m.headD []).length
def okMat (m : List (List Int)) : Bool := m.all (okRow (width m)) && decide (m.length ≤ 8)
theorem width_eq (m : List (List Int)) (h : 0 < m.length) : width m = m[0].length := by
  cases m with
  | nil => simp at h
  | cons r m => rfl

set_option maxHeartbeats 400000 in
theorem impl_IsOverlapMatrix_1 (x : Int) (w : World) :
    Calls Try.prog 104 #[.int .i64 x] w fun e w2 => e = .returned (.bool (!inB x 0 100)) ∧ Ext w w2 := by
  go_enter Try.func104, Try.ntmps104
  go_wp2_with (go_at_call 66; refine (impl_within _ _ _ _).mono ?_; rintro e w2 ⟨rfl, rfl⟩)
  go_ret
  exact ⟨rfl, Ext.refl _⟩

theorem all_take {α : Type} (p : α → Bool) (xs : List α) (k : Nat) (hk : ¬ k < xs.length) (hz : ∀ x ∈ xs.take k, p x = true) : xs.all p = true := by
  rw [List.take_of_length_le (by omega)] at hz
  exact List.all_eq_true.2 hz
theorem all_not {α : Type} (p : α → Bool) (xs : List α) (k : Nat) (hk : k < xs.length) (h : ¬ p xs[k] = true) : xs.all p = false :=
  List.all_eq_false.2 ⟨_, List.getElem_mem hk, h⟩

set_option maxHeartbeats 400000 in
theorem impl_IsOverlapMatrix (v : Value) (m : List (List Int)) (w : World) (h : Sl (slR intR) w v m) :
    Calls Try.prog 65 #[v] w fun e w2 => e = .returned (.bool (okMat m)) ∧ Ext w w2 := by
  obtain ⟨A, cap, rfl, hm⟩ := h.form
  go_enter Try.func65, Try.ntmps65
  go_wp2
  go_loopw [7] (fun i wr => ∃ k : Nat, k ≤ m.length ∧ i = .int .i64 k ∧ (∀ r ∈ m.take k, okRow (width m) r = true) ∧ Ext w wr) (fun i _ => m.length - (intOf i).toNat)
  case atStart => exact ⟨0, Nat.zero_le _, rfl, by simp, Ext.refl _⟩
  case round =>
    obtain ⟨k, hk, rfl, hz, hx⟩ := hrel
    have HZ := hid hz
    clear hz
    by_cases hlt : k < m.length
    · obtain ⟨b, off, A2, cap2, rfl, hi, hc⟩ := (h.mono hx).sl hlt
      obtain ⟨_, _, A0, cap0, e0, hi0, hc0⟩ := (h.mono hx).sl (show 0 < m.length by omega)
      cases e0
      rw [← width_eq m (by omega)] at hi0 hc0
      rw [Nat.add_zero] at hc0
      have hl0 : width m ≤ 9223372036854775807 := by
        rw [width_eq m (by omega)]
        obtain ⟨_, _, e, h9⟩ := hi0.form
        exact h9
      by_cases h1 : 8 < m[k].length
      · go_wp2
        go_ret
        exact ⟨ret_bool (by symm; unfold okMat; rw [all_not _ _ k hlt (by simp [okRow]; intro _ _; omega)]; rfl), hx⟩
      · by_cases h2 : m[k].length = width m
        · have h2' : ((m[k].length : Int) != (width m : Int)) = false := by simp [h2]
          have H2 := hid h2
          clear h2
          go_wp2_with fail
          refine (ContainsFunc_int _ m[k] (fun x => !inB x 0 100) 104 #[] _ hi (fun _ _ => by kernel_rfl) (fun wz _ x _ => impl_IsOverlapMatrix_1 x wz)).mono ?_
          rintro e w2 ⟨rfl, x2⟩
          by_cases h3 : m[k].any (fun x => !inB x 0 100) = true
          · have H3 := hid h3
            rw [h3]
            clear h3
            go_wp2
            go_ret
            exact ⟨ret_bool (by symm; unfold okMat; rw [all_not _ _ k hlt (by have := H3.out; rw [← List.not_all_eq_any_not] at this; simp [okRow] at this ⊢; intro _ _; exact this)]; rfl), hx.trans x2⟩
          · have h3' : m[k].any (fun x => !inB x 0 100) = false := by simpa using h3
            have H3 := hid h3'
            rw [h3']
            clear h3 h3'
            go_wp2
            go_roundw
            case rel => exact ⟨k + 1, by omega, by go_num, take_snoc_all _ m k hlt HZ.out (by have := H3.out; rw [← List.not_all_eq_any_not] at this; simp [okRow, H2.out] at this ⊢; exact ⟨by have := H2.out; omega, this⟩), hx.trans x2⟩
            case measure => simp [intOf]; omega
        · have h2' : ((m[k].length : Int) != (width m : Int)) = true := by simp; omega
          go_wp2
          go_ret
          exact ⟨ret_bool (by symm; unfold okMat; rw [all_not _ _ k hlt (by simp [okRow, h2])]; rfl), hx⟩
    · go_wp2
      go_ret
      exact ⟨ret_bool (by unfold okMat; rw [all_take _ _ k hlt HZ.out]; rw [Bool.eq_iff_iff]; simp; omega), hx⟩

set_option maxHeartbeats 400000 in
theorem spec_IsOverlapMatrix (v : Value) (m : List (List Int)) (w : World) (h : Sl (slR intR) w v m) :
    Calls Try.prog 59 #[v] w fun e w2 => e = .returned (.bool (okMat m)) ∧ Ext w w2 := by
  obtain ⟨A, cap, rfl, hm⟩ := h.form
  go_enter Try.func59, Try.ntmps59
  go_wp2
  go_loopw [3, 4] (fun i _ wr => ∃ k : Nat, k ≤ m.length ∧ i = .int .i64 k ∧ (∀ r ∈ m.take k, okRow (width m) r = true) ∧ Ext w wr) (fun i _ _ => m.length - (intOf i).toNat)
  case atStart => exact ⟨0, Nat.zero_le _, rfl, by simp, Ext.refl _⟩
  case round =>
    obtain ⟨k, hk, rfl, hz, hx⟩ := hrel
    have HZ := hid hz
    clear hz
    obtain ⟨wo, rfl⟩ : ∃ wo : World, wo = wr := ⟨_, rfl⟩
    by_cases hlt : k < m.length
    · obtain ⟨b, off, A2, cap2, rfl, hi, hc⟩ := (h.mono hx).sl hlt
      obtain ⟨_, _, A0, cap0, e0, hi0, hc0⟩ := (h.mono hx).sl (show 0 < m.length by omega)
      cases e0
      rw [← width_eq m (by omega)] at hi0 hc0
      rw [Nat.add_zero] at hc0
      have hl0 : width m ≤ 9223372036854775807 := by
        rw [width_eq m (by omega)]
        obtain ⟨_, _, e, h9⟩ := hi0.form
        exact h9
      have hlk : m[k].length ≤ 9223372036854775807 := by
        obtain ⟨_, _, e, h9⟩ := hi.form
        exact h9
      have hmp : 0 < m.length := by omega
      have hcz : ∀ z : ExtOf wo, z.1.cell? ⟨b, off + k, none⟩ = _ := fun z => z.2.cell hc
      have hcz0 : ∀ z : ExtOf wo, z.1.cell? ⟨b, off, none⟩ = _ := fun z => z.2.cell hc0
      by_cases h2 : m[k].length = width m
      · have h2' : ((m[k].length : Int) != (width m : Int)) = false := by simp [h2]
        have H2 := hid h2
        clear h2
        by_cases h1 : 8 < m[k].length
        · have h1' : decide ((8 : Int) < (m[k].length : Int)) = true := by simp; omega
          go_wp2_with fail
          refine wp_region_ext (by kernel_rfl) (by kernel_rfl) ?_
          repeat (go_big_quiet_step ((fail)))
          refine wpQuiet_nil ?_
          rintro w1 ⟨⟨_, x1⟩, rfl⟩
          go_wp2
          go_ret
          exact ⟨ret_bool (by symm; unfold okMat; rw [all_not _ _ k hlt (by simp [okRow]; intro _ _; omega)]; rfl), hx.trans x1⟩
        · have h1' : decide ((8 : Int) < (m[k].length : Int)) = false := by simp; omega
          go_wp2_with fail
          refine wp_region_ext (by kernel_rfl) (by kernel_rfl) ?_
          repeat (go_big_quiet_step ((fail)))
          refine wpQuiet_nil ?_
          rintro w1 ⟨⟨_, x1⟩, rfl⟩
          go_wp2_with fail
          go_loopw [4] (fun j wr => ∃ j2 : Nat, j2 ≤ m[k].length ∧ j = .int .i64 j2 ∧ (∀ x ∈ m[k].take j2, inB x 0 100 = true) ∧ Ext w1 wr) (fun j _ => m[k].length - (intOf j).toNat)
          case atStart => exact ⟨0, Nat.zero_le _, rfl, by simp, Ext.refl _⟩
          case round =>
            obtain ⟨j2, hj, rfl, hzj, hxj⟩ := hrel
            have HJ := hid hzj
            clear hzj
            have hck := (x1.trans hxj).cell hc
            by_cases hjt : j2 < m[k].length
            · obtain ⟨b3, off3, rfl, hi3, hc3⟩ := (hi.mono (x1.trans hxj)).int hjt
              by_cases h3 : inB m[k][j2] 0 100 = true
              · have H3 := hid h3
                clear h3
                go_wp2_with (go_at_call 63; refine (spec_l1In _ _ _ _).mono ?_; rintro e w2 ⟨rfl, rfl⟩; rw [H3.out])
                go_roundw
                case rel => exact ⟨j2 + 1, by omega, by go_num, take_snoc_all _ m[k] j2 hjt HJ.out H3.out, hxj⟩
                case measure => simp [intOf]; omega
              · have h3' : inB m[k][j2] 0 100 = false := by simpa using h3
                go_wp2_with (go_at_call 63; refine (spec_l1In _ _ _ _).mono ?_; rintro e w2 ⟨rfl, rfl⟩; rw [h3'])
                go_ret
                exact ⟨ret_bool (by symm; unfold okMat; rw [all_not _ _ k hlt (by simp only [okRow, Bool.and_eq_true]; rintro ⟨_, h9⟩; rw [all_not _ _ j2 hjt h3] at h9; cases h9)]; rfl), (hx.trans x1).trans hxj⟩
            · go_wp2
              go_roundw
              case rel => exact ⟨k + 1, by omega, by go_num, take_snoc_all _ m k hlt HZ.out (by have h9 := all_take _ _ j2 hjt HJ.out; have := H2.out; simp only [okRow, h9, Bool.and_true, Bool.and_eq_true, beq_iff_eq, decide_eq_true_eq]; omega), (hx.trans x1).trans hxj⟩
              case measure => simp [intOf]; omega
      · have h2' : ((m[k].length : Int) != (width m : Int)) = true := by simp; omega
        go_wp2_with fail
        refine wp_region_ext (by kernel_rfl) (by kernel_rfl) ?_
        repeat (go_big_quiet_step ((fail)))
        refine wpQuiet_nil ?_
        rintro w1 ⟨⟨_, x1⟩, rfl⟩
        go_wp2
        go_ret
        exact ⟨ret_bool (by symm; unfold okMat; rw [all_not _ _ k hlt (by simp [okRow, h2])]; rfl), hx.trans x1⟩
    · go_wp2
      go_ret
      exact ⟨ret_bool (by unfold okMat; rw [all_take _ _ k hlt HZ.out]; rw [Bool.eq_iff_iff]; simp; omega), hx⟩
end Go.Proofs.Ytenfgmpndpgbhaa
