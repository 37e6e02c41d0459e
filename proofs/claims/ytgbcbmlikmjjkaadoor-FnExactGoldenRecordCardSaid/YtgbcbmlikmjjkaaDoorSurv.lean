/-
  WALKS: AreSurvivorRules (both).
-/
import Derived.Test.YtgbcbmlikmjjkaaDoorFn
import Derived.Test.YtgbcbmlikmjjkaaDoorBase
namespace Go.Proofs.YtgbcbmlikmjjkaaDoor
open Go.RowKit

def survRules (xs : List Int) : Bool := xs.length == 4 && xs.all fun x => inB x 1 4

set_option maxHeartbeats 400000 in
theorem impl_isSurvivorRule (x : Int) (w : World) :
    Calls Tryd.prog 92 #[.int .i64 x] w fun e w2 => e = .returned (.bool (inB x 1 4)) ∧ w = w2 := by
  go_enter Tryd.func92, Tryd.ntmps92
  go_wp2_with (go_at_call 78; refine (impl_within _ _ _ _).mono ?_; rintro e w2 ⟨rfl, rfl⟩)
  go_ret
  exact ⟨rfl, rfl⟩

set_option maxHeartbeats 400000 in
theorem impl_AreSurvivorRules_1 (x : Int) (w : World) :
    Calls Tryd.prog 132 #[.int .i64 x] w fun e w2 => e = .returned (.bool (!inB x 1 4)) ∧ w = w2 := by
  go_enter Tryd.func132, Tryd.ntmps132
  go_wp2_with (go_at_call 92; refine (impl_isSurvivorRule _ _).mono ?_; rintro e w2 ⟨rfl, rfl⟩)
  go_ret
  exact ⟨rfl, rfl⟩

set_option maxHeartbeats 400000 in
theorem impl_AreSurvivorRules (v : Value) (xs : List Int) (w : World) (h : Sl intR w v xs) :
    Calls Tryd.prog 95 #[v] w fun e w2 => e = .returned (.bool (survRules xs)) ∧ Ext w w2 := by
  obtain ⟨A, cap, rfl, hm⟩ := h.form
  by_cases hl : xs.length = 4
  · have hl' : ((xs.length : Int) == 4) = true := by simp; omega
    have hs : survRules xs = !(xs.any fun x => !inB x 1 4) := by simp [survRules, hl, List.all_eq_not_any_not]
    have HS := hid hs
    clear hl hs
    go_enter Tryd.func95, Tryd.ntmps95
    go_wp2_with fail
    refine (ContainsFunc_int _ xs (fun x => !inB x 1 4) 132 #[] w h (fun _ _ => by kernel_rfl) (fun wz _ x _ => (impl_AreSurvivorRules_1 x wz).mono fun e w2 ⟨h1, h2⟩ => ⟨h1, .of_eq h2⟩)).mono ?_
    rintro e w2 ⟨rfl, x2⟩
    go_wp2
    go_ret
    exact ⟨by rw [HS.out]; rfl, x2⟩
  · have hl' : ((xs.length : Int) == 4) = false := by simp; omega
    go_enter Tryd.func95, Tryd.ntmps95
    go_wp2
    go_ret
    exact ⟨ret_bool (by simp [survRules, hl]), Ext.refl _⟩

set_option maxHeartbeats 400000 in
theorem spec_AreSurvivorRules (v : Value) (xs : List Int) (w : World) (h : Sl intR w v xs) :
    Calls Tryd.prog 94 #[v] w fun e w2 => e = .returned (.bool (survRules xs)) ∧ Ext w w2 := by
  obtain ⟨A, cap, rfl, hm⟩ := h.form
  go_enter Tryd.func94, Tryd.ntmps94
  go_wp2
  go_loopw [3] (fun i wr => ∃ k : Nat, k ≤ xs.length ∧ i = .int .i64 k ∧ (∀ x ∈ xs.take k, inB x 1 4 = true) ∧ Ext w wr) (fun i _ => xs.length - (intOf i).toNat)
  case atStart => exact ⟨0, Nat.zero_le _, rfl, by simp, Ext.refl _⟩
  case round =>
    obtain ⟨k, hk, rfl, hz, hx⟩ := hrel
    have HZ := hid hz
    clear hz
    by_cases hlt : k < xs.length
    · obtain ⟨b, off, rfl, hi, hc⟩ := (h.mono hx).int hlt
      by_cases hp : inB xs[k] 1 4 = true
      · have HP := hid hp
        clear hp
        go_wp2_with (go_at_call 76; refine (spec_l1In _ _ _ _).mono ?_; rintro e w2 ⟨rfl, rfl⟩; rw [HP.out])
        go_roundw
        case rel => exact ⟨k + 1, by omega, by go_num, take_snoc_all _ xs k hlt HZ.out HP.out, hx⟩
        case measure => simp [intOf]; omega
      · have hp' : inB xs[k] 1 4 = false := by simpa using hp
        go_wp2_with (go_at_call 76; refine (spec_l1In _ _ _ _).mono ?_; rintro e w2 ⟨rfl, rfl⟩; rw [hp'])
        go_ret
        exact ⟨ret_bool (by symm; simp only [survRules, Bool.and_eq_false_iff]; right; exact List.all_eq_false.2 ⟨_, List.getElem_mem hlt, hp⟩), hx⟩
    · go_wp2
      go_ret
      have ha : xs.all (fun x => inB x 1 4) = true := by
        have := HZ.out
        rw [List.take_of_length_le (by omega)] at this
        exact List.all_eq_true.2 this
      exact ⟨ret_bool (by simp only [survRules, ha, Bool.and_true]; rw [Bool.eq_iff_iff]; simp; omega), hx⟩
end Go.Proofs.YtgbcbmlikmjjkaaDoor
