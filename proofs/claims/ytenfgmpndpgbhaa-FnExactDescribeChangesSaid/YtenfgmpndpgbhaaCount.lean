/-
  WALKS: l25Count.
-/
import Derived.Test.YtenfgmpndpgbhaaFind
import Derived.Test.YtenfgmpndpgbhaaApp
import Derived.Test.YtenfgmpndpgbhaaIntss
namespace Go.Proofs.Ytenfgmpndpgbhaa
open Go.RowKit

def cntIn (xs ys : List Int) : Nat := (xs.filter fun n => hasI n ys).length
theorem cntIn_step (xs ys : List Int) (k : Nat) (h : k < xs.length) : cntIn (xs.take (k + 1)) ys = cntIn (xs.take k) ys + if hasI xs[k] ys then 1 else 0 := by
  unfold cntIn
  rw [List.take_succ_eq_append_getElem h, List.filter_append, List.length_append]
  by_cases e : hasI xs[k] ys = true
  · simp [List.filter, e]
  · simp [List.filter, e]
theorem cntIn_le (xs ys : List Int) : cntIn xs ys ≤ xs.length := List.length_filter_le _ _

set_option maxHeartbeats 400000 in
theorem spec_l25Count (v u : Value) (xs ys : List Int) (w : World) (h : Sl intR w v xs) (h2 : Sl intR w u ys) :
    Calls Try.prog 70 #[v, u] w fun e w2 => e = .returned (.int .i64 (cntIn xs ys : Nat)) ∧ w = w2 := by
  obtain ⟨A, cap, rfl, hm⟩ := h.form
  obtain ⟨B, cap2, rfl, hm2⟩ := h2.form
  go_enter Try.func70, Try.ntmps70
  go_wp2
  go_loop [5, 6] (fun n i => ∃ k : Nat, k ≤ xs.length ∧ i = .int .i64 k ∧ n = .int .i64 (cntIn (xs.take k) ys : Nat)) (fun _ i => xs.length - (intOf i).toNat)
  case atStart => exact ⟨0, Nat.zero_le _, rfl, by simp [cntIn]⟩
  case round =>
    obtain ⟨k, hk, rfl, rfl⟩ := hrel
    by_cases hlt : k < xs.length
    · obtain ⟨b, off, rfl, hi, hc⟩ := h.int hlt
      have hst := cntIn_step xs ys k hlt
      have hle := cntIn_le (xs.take k) ys
      rw [List.length_take] at hle
      have HS := hid hst
      clear hst
      go_wp2_with fail
      refine (spec_l24Find _ ys xs[k] _ h2).mono ?_
      rintro e w2 ⟨rfl, rfl⟩
      have hn := idxI_nn xs[k] ys
      have hb := idxI_bd xs[k] ys
      generalize idxI xs[k] ys = L at hn hb ⊢
      by_cases h0 : 0 ≤ L
      · have HN := hid hn
        clear hn
        go_wp2
        go_round
        case rel => exact ⟨k + 1, by omega, by go_num, by rw [HS.out, if_pos (by rw [← HN.out]; simpa using h0)]; go_num⟩
        case measure => simp [intOf]; omega
      · have HN := hid hn
        clear hn
        go_wp2
        go_round
        case rel => exact ⟨k + 1, by omega, by go_num, by rw [HS.out, if_neg (by rw [← HN.out]; simpa using h0), Nat.add_zero]⟩
        case measure => simp [intOf]; omega
    · go_wp2
      go_ret
      exact ⟨ret_int (by rw [List.take_of_length_le (by omega)]), rfl⟩

def ovRow (b : List (List Int)) (x : List Int) : List Int := b.map fun y => min 100 (cntIn x y : Int)
def ovMat (a b : List (List Int)) : List (List Int) := if 8 < a.length ∨ 8 < b.length then [] else a.map (ovRow b)
theorem ovRow_len (b : List (List Int)) (x : List Int) : (ovRow b x).length = b.length := by simp [ovRow]
theorem ovRow_step (b : List (List Int)) (x : List Int) (k : Nat) (h : k < b.length) : ovRow (b.take (k + 1)) x = ovRow (b.take k) x ++ [min 100 (cntIn x b[k] : Int)] := by
  unfold ovRow; rw [List.take_succ_eq_append_getElem h, List.map_append]; rfl
end Go.Proofs.Ytenfgmpndpgbhaa
