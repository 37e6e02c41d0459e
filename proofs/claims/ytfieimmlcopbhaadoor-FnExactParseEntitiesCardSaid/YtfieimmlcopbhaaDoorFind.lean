/-
  WALKS: l24Find, slices.Index, slices.Contains at []int.
-/
import Derived.Test.YtfieimmlcopbhaaDoorFn
namespace Go.Proofs.YtfieimmlcopbhaaDoor
open Go.RowKit

def idxI (x : Int) (xs : List Int) : Int := idxF (fun y => y == x) 0 xs
def hasI (x : Int) (xs : List Int) : Bool := xs.any fun y => y == x
theorem hasI_iff (x : Int) (xs : List Int) : hasI x xs = true ↔ x ∈ xs := by simp [hasI]
theorem idxI_nn (x : Int) (xs : List Int) : decide (0 ≤ idxI x xs) = hasI x xs := idxF_any _ _ _
theorem idxF_lt {α : Type} (p : α → Bool) (xs : List α) (k : Nat) : -1 ≤ idxF p k xs ∧ idxF p k xs < k + xs.length := by
  induction xs generalizing k with
  | nil => simp [idxF]; omega
  | cons x xs ih =>
    simp only [idxF, List.length_cons]
    split
    · omega
    · have := ih (k + 1); omega
theorem idxI_bd (x : Int) (xs : List Int) : -1 ≤ idxI x xs ∧ idxI x xs < xs.length := by
  have := idxF_lt (fun y => y == x) xs 0
  unfold idxI; omega

set_option maxHeartbeats 400000 in
theorem spec_l24Find (v : Value) (xs : List Int) (x : Int) (w : World) (h : Sl intR w v xs) :
    Calls Tryd.prog 118 #[v, .int .i64 x] w fun e w2 => e = .returned (.int .i64 (idxI x xs)) ∧ w = w2 := by
  obtain ⟨A, cap, rfl, hm⟩ := h.form
  go_enter Tryd.func118, Tryd.ntmps118
  go_wp2
  go_loop [5] (fun i => ∃ k : Nat, k ≤ xs.length ∧ i = .int .i64 k ∧ ∀ y ∈ xs.take k, (y == x) = false) (fun i => xs.length - (intOf i).toNat)
  case atStart => exact ⟨0, Nat.zero_le _, rfl, by simp⟩
  case round =>
    obtain ⟨k, hk, rfl, hz⟩ := hrel
    have HZ := hid hz
    clear hz
    by_cases hlt : k < xs.length
    · obtain ⟨b, off, rfl, hb, hc⟩ := h.int hlt
      by_cases h0 : xs[k] = x
      · have h1 : (xs[k] == x) = true := by simp [h0]
        have H0 := hid h0
        clear h0
        go_wp2
        go_ret
        exact ⟨ret_int (idxF_at (fun y => y == x) xs k hlt HZ.out (by simp [H0.out])).symm, rfl⟩
      · have h1 : (xs[k] == x) = false := by rw [beq_eq_false_iff_ne]; first | exact h0 | exact fun e => h0 e.symm
        have H0 := hid h0
        clear h0
        go_wp2
        go_round
        case rel => exact ⟨k + 1, by omega, by go_num, take_snoc_all _ xs k hlt HZ.out (by simp [H0.out])⟩
        case measure => simp [intOf]; omega
    · go_wp2
      go_ret
      exact ⟨ret_int (idxF_all _ xs k hlt HZ.out).symm, rfl⟩
set_option maxHeartbeats 400000 in
theorem slices_Index (v : Value) (xs : List Int) (x : Int) (w : World) (h : Sl intR w v xs) :
    Calls Tryd.prog 144 #[v, .int .i64 x] w fun e w2 => e = .returned (.int .i64 (idxI x xs)) ∧ w = w2 := by
  obtain ⟨A, cap, rfl, hm⟩ := h.form
  go_enter Tryd.func144, Tryd.ntmps144
  go_wp2
  go_loop [8] (fun i => ∃ k : Nat, k ≤ xs.length ∧ i = .int .i64 k ∧ ∀ y ∈ xs.take k, (y == x) = false) (fun i => xs.length - (intOf i).toNat)
  case atStart => exact ⟨0, Nat.zero_le _, rfl, by simp⟩
  case round =>
    obtain ⟨k, hk, rfl, hz⟩ := hrel
    have HZ := hid hz
    clear hz
    by_cases hlt : k < xs.length
    · obtain ⟨b, off, rfl, hb, hc⟩ := h.int hlt
      by_cases h0 : xs[k] = x
      · have h1 : (x == xs[k]) = true := by simp [h0]
        have H0 := hid h0
        clear h0
        go_wp2
        go_ret
        exact ⟨ret_int (idxF_at (fun y => y == x) xs k hlt HZ.out (by simp [H0.out])).symm, rfl⟩
      · have h1 : (x == xs[k]) = false := by rw [beq_eq_false_iff_ne]; first | exact h0 | exact fun e => h0 e.symm
        have H0 := hid h0
        clear h0
        go_wp2
        go_round
        case rel => exact ⟨k + 1, by omega, by go_num, take_snoc_all _ xs k hlt HZ.out (by simp [H0.out])⟩
        case measure => simp [intOf]; omega
    · go_wp2
      go_ret
      exact ⟨ret_int (idxF_all _ xs k hlt HZ.out).symm, rfl⟩

set_option maxHeartbeats 400000 in
theorem slices_Contains (v : Value) (xs : List Int) (x : Int) (w : World) (h : Sl intR w v xs) :
    Calls Tryd.prog 127 #[v, .int .i64 x] w fun e w2 => e = .returned (.bool (hasI x xs)) ∧ w = w2 := by
  have hb := idxI_bd x xs
  have hn := idxI_nn x xs
  have HN := hid hn
  clear hn
  go_enter Tryd.func127, Tryd.ntmps127
  go_wp2_with fail
  refine (slices_Index v xs x w h).mono ?_
  rintro e w2 ⟨rfl, rfl⟩
  generalize idxI x xs = L at hb HN ⊢
  go_wp2
  go_ret
  exact ⟨by rw [← HN.out]; rfl, rfl⟩
end Go.Proofs.YtfieimmlcopbhaaDoor
