/-
  WALKS: the laws' szIntS, szIntSS, toIntSS, eqIntSS.
-/
import Derived.Test.YtenfgmpndpgbhaaInts
namespace Go.Proofs.Ytenfgmpndpgbhaa
open Go.RowKit

/-- what is left of a measure: -1 where it does not fit -/
def szv (n left : Int) : Int := if left < n then -1 else left - n
def Small (x : Int) : Prop := -1 ≤ x ∧ x ≤ 1048576
theorem szv_neg {n left : Int} (h : left < n) : szv n left = -1 := by unfold szv; rw [if_pos h]
theorem szv_nn {n left : Int} (h : ¬ left < n) : 0 ≤ szv n left := by unfold szv; rw [if_neg h]; omega
theorem szv_le {n left : Int} (h : 0 ≤ n) (h0 : 0 ≤ left) : szv n left ≤ left := by unfold szv; split <;> omega
theorem szv_small {n left : Int} (h : 0 ≤ n) (hl : Small left) : Small (szv n left) := by unfold Small szv at *; split <;> omega

set_option maxHeartbeats 400000 in
theorem szIntS_c (v : Value) (xs : List Int) (left : Int) (w : World) (h : Sl intR w v xs) (h0 : 0 ≤ left) (h1 : left ≤ 1048576) :
    Calls Try.prog 62 #[v, .int .i64 left] w fun e w2 => e = .returned (.int .i64 (szv xs.length left)) ∧ w = w2 := by
  obtain ⟨A, cap, rfl, hm⟩ := h.form
  by_cases hlt : left < xs.length
  · go_enter Try.func62, Try.ntmps62
    go_wp2
    go_ret
    exact ⟨ret_int (by unfold szv; rw [if_pos (by omega)]), rfl⟩
  · go_enter Try.func62, Try.ntmps62
    go_wp2
    go_ret
    exact ⟨ret_int (by unfold szv; rw [if_neg (by omega)]), rfl⟩

def sumLen {α : Type} (xs : List (List α)) : Nat := (xs.map List.length).sum
theorem sumLen_take {α : Type} (xs : List (List α)) (k : Nat) (h : k < xs.length) : sumLen (xs.take (k + 1)) = sumLen (xs.take k) + xs[k].length := by
  rw [List.take_succ_eq_append_getElem h]; unfold sumLen; rw [List.map_append, List.sum_append]; simp
theorem sumLen_le {α : Type} (xs : List (List α)) (k : Nat) : sumLen (xs.take k) ≤ sumLen xs := by
  have h := List.take_append_drop k xs
  have : sumLen xs = sumLen (xs.take k) + sumLen (xs.drop k) := by
    unfold sumLen; rw [← List.sum_append, ← List.map_append, h]
  omega
theorem sumLen_at {α : Type} (xs : List (List α)) (k : Nat) (h : k < xs.length) : sumLen (xs.take k) + xs[k].length ≤ sumLen xs := by
  rw [← sumLen_take xs k h]; exact sumLen_le _ _

set_option maxHeartbeats 400000 in
theorem szIntSS_c (v : Value) (xs : List (List Int)) (left : Int) (w : World) (h : Sl (slR intR) w v xs) (h0 : 0 ≤ left) (h1 : left ≤ 1048576) :
    Calls Try.prog 17 #[v, .int .i64 left] w fun e w2 => e = .returned (.int .i64 (szv ((xs.length + sumLen xs : Nat) : Int) left)) ∧ Ext w w2 := by
  obtain ⟨A, cap, rfl, hm⟩ := h.form
  by_cases hlt : left < xs.length
  · go_enter Try.func17, Try.ntmps17
    go_wp2
    go_ret
    exact ⟨ret_int (by symm; unfold szv; rw [if_pos (by omega)]), Ext.refl _⟩
  · go_enter Try.func17, Try.ntmps17
    go_wp2
    go_loopw [1, 5] (fun l i wr => ∃ k : Nat, k ≤ xs.length ∧ i = .int .i64 k ∧ sumLen (xs.take k) + xs.length ≤ left ∧ l = .int .i64 (left - xs.length - (sumLen (xs.take k) : Nat)) ∧ Ext w wr) (fun _ i _ => xs.length - (intOf i).toNat)
    case atStart => exact ⟨0, Nat.zero_le _, rfl, by simp [sumLen]; omega, by simp [sumLen], Ext.refl _⟩
    case round =>
      obtain ⟨k, hk, rfl, hs, rfl, hx⟩ := hrel
      by_cases hlk : k < xs.length
      · obtain ⟨b, off, A2, cap2, rfl, hsl, hc⟩ := (h.mono hx).sl hlk
        have hst := sumLen_take xs k hlk
        have hsa := sumLen_at xs k hlk
        have HS := hid hst
        clear hst
        go_wp2_with fail
        refine (szIntS_c _ xs[k] _ _ hsl (by omega) (by omega)).mono ?_
        rintro e w2 ⟨rfl, rfl⟩
        by_cases hfit : left - xs.length - (sumLen (xs.take k) : Nat) < xs[k].length
        · rw [show szv (xs[k].length : Int) (left - xs.length - (sumLen (xs.take k) : Nat)) = -1 by simp [szv, hfit]]
          go_wp2
          go_ret
          exact ⟨ret_int (by symm; unfold szv; rw [if_pos (by omega)]), hx⟩
        · rw [show szv (xs[k].length : Int) (left - xs.length - (sumLen (xs.take k) : Nat)) = left - xs.length - (sumLen (xs.take k) : Nat) - xs[k].length by simp [szv, hfit]]
          go_wp2
          go_roundw
          case rel => exact ⟨k + 1, by omega, by go_num, by rw [HS.out]; omega, by rw [HS.out]; congr 1; omega, hx⟩
          case measure => simp [intOf]; omega
      · go_wp2
        go_ret
        rw [List.take_of_length_le (by omega)] at hs
        exact ⟨ret_int (by rw [List.take_of_length_le (by omega)]; unfold szv; rw [if_neg (by omega)]; omega), hx⟩

theorem infoInts : (Try.prog.info? 23).map (fun i => (i.zero, i.size, i.bytes)) = some (some (.slice none 0 0), 1, 24) := by kernel_rfl

set_option maxHeartbeats 400000 in
theorem toIntSS_c (v : Value) (xs : List (List Int)) (w : World) (h : Sl (slR intR) w v xs) (hb : xs.length + sumLen xs ≤ 1048576) :
    Calls Try.prog 19 #[v] w fun e w2 => ∃ v2 F, e = .returned v2 ∧ OwnSl (slO intO) w2 v2 xs F ∧ NewF w F ∧ Ext w w2 := by
  obtain ⟨A, cap, rfl, hm⟩ := h.form
  obtain ⟨i0, hi0, hz0, hz1, hz2⟩ := info_parts infoInts
  have hmk := run_mk (P := Try.prog) 22 23 i0 _ [.slice none 0 0] 24 Try.underlying22 hi0 hz0 rfl hz1 hz2 xs.length (by omega) hm
  rw [flat_rep] at hmk
  go_enter Try.func19, Try.ntmps19
  go_wp2
  go_loopw [4] (fun i wr => ∃ (k : Nat) (done : List Value) (F : List Nat), k ≤ xs.length ∧ i = .int .i64 k ∧ Blk wr w.heap.size 23 (done ++ List.replicate (xs.length - k) (.slice none 0 0)) ∧
    OwnCells (slO intO) wr done (xs.take k) F ∧ FromF w.heap.size F ∧ Ext w wr) (fun i _ => xs.length - (intOf i).toNat)
  case atStart => exact ⟨0, [], [], Nat.zero_le _, rfl, by simpa using Blk.new w 23 (Array.replicate xs.length (.slice none 0 0)), .nil, .nil _, (Ext.refl _).alloc _⟩
  case round =>
    obtain ⟨k, done, F, hk, rfl, hblk, hown, hF, hx⟩ := hrel
    by_cases hlt : k < xs.length
    · obtain ⟨b, off, A2, cap2, rfl, hsl, hc⟩ := (h.mono hx).sl hlt
      have hz : List.replicate (xs.length - k) (Value.slice none 0 0) = .slice none 0 0 :: List.replicate (xs.length - (k + 1)) (.slice none 0 0) := by
        rw [show xs.length - k = (xs.length - (k + 1)) + 1 by omega, List.replicate_succ]
      rw [hz] at hblk
      clear hz
      have hl : done.length = k := by rw [hown.length]; simp [slO, slR]; omega
      have hgl := block_lt hblk.out
      have HL := hid hl
      clear hl
      go_wp2_with fail
      refine (toIntS_c _ xs[k] _ hsl (by have := sumLen_at xs k hlt; omega)).mono ?_
      rintro e w2 ⟨v2, F2, rfl, ho, hn, x2⟩
      have hblk2 := hblk.ext x2
      obtain ⟨hcell, hfr⟩ := hblk2.at_ HL.out
      have hst := hblk2.store HL.out v2
      obtain ⟨A3, cap3, e3, _⟩ := ho.form
      subst e3
      obtain ⟨ho3, hF3⟩ := hown.step (w3 := w2.setCell ⟨w.heap.size, k, none⟩ (.slice A3 xs[k].length cap3)) (R := slO intO) hF x2 ⟨_, rfl, ho⟩ hn hgl (fun b hb => keep_setCell hb)
      clear hblk hblk2 HL
      go_wp2
      go_roundw
      case rel => exact ⟨k + 1, _, _, by omega, by go_num, hst, by rw [List.take_succ_eq_append_getElem hlt]; exact ho3, hF3, (hx.trans x2).setCell (by simp) _⟩
      case measure => simp [intOf]; omega
    · go_wp2
      go_ret
      rw [show xs.length - k = 0 by omega, List.replicate_zero, List.append_nil] at hblk
      rw [List.take_of_length_le (by omega)] at hown
      exact ⟨_, _, rfl, OwnSl.of_blk hblk (by unfold maxLen; omega) hown, hF.new rfl, hx⟩

set_option maxHeartbeats 400000 in
theorem eqIntSS_c (v u : Value) (xs ys : List (List Int)) (w : World) (h : Sl (slR intR) w v xs) (k : Sl (slR intR) w u ys) :
    Calls Try.prog 22 #[v, u] w fun e w2 => e = .returned (.bool (eqB xs ys)) ∧ Ext w w2 := by
  obtain ⟨A, cap, rfl, hm⟩ := h.form
  obtain ⟨B, cap2, rfl, hm2⟩ := k.form
  by_cases hl : xs.length = ys.length
  · have hl' : ((xs.length : Int) != (ys.length : Int)) = false := by simp [hl]
    have HL := hid hl
    clear hl
    go_enter Try.func22, Try.ntmps22
    go_wp2
    go_loopw [5] (fun i wr => ∃ k2 : Nat, k2 ≤ xs.length ∧ i = .int .i64 k2 ∧ xs.take k2 = ys.take k2 ∧ Ext w wr) (fun i _ => xs.length - (intOf i).toNat)
    case atStart => exact ⟨0, Nat.zero_le _, rfl, by simp, Ext.refl _⟩
    case round =>
      obtain ⟨k2, hk, rfl, he, hx⟩ := hrel
      have HE := hid he
      clear he
      by_cases hlt : k2 < xs.length
      · have hlt2 : k2 < ys.length := by have := HL.out; omega
        obtain ⟨b, off, A2, cap3, rfl, hi, hc⟩ := (h.mono hx).sl hlt
        obtain ⟨b2, off2, A3, cap4, rfl, hi2, hc2⟩ := (k.mono hx).sl hlt2
        have hcz : ∀ z : ExtOf wr, z.1.cell? ⟨b, off + k2, none⟩ = _ := fun z => z.2.cell hc
        have hcz2 : ∀ z : ExtOf wr, z.1.cell? ⟨b2, off2 + k2, none⟩ = _ := fun z => z.2.cell hc2
        by_cases h0 : xs[k2] = ys[k2]
        · have H0 := hid h0
          clear h0
          go_wp2_with fail
          refine wp_region_ext (by kernel_rfl) (by kernel_rfl) ?_
          repeat (go_big_quiet_step (((go_at_call 23; exact quiet_ext (eqIntS_c _ _ _ _ _ (hi.mono (Subtype.property _)) (hi2.mono (Subtype.property _)))))))
          refine wpQuiet_nil ?_
          rintro w1 ⟨⟨_, x1⟩, rfl⟩
          rw [eqB_true H0.out]
          go_wp2
          go_roundw
          case rel => exact ⟨k2 + 1, by omega, by go_num, take_snoc_eq hlt hlt2 H0.out HE.out, hx.trans x1⟩
          case measure => simp [intOf]; omega
        · have H0 := hid h0
          clear h0
          go_wp2_with fail
          refine wp_region_ext (by kernel_rfl) (by kernel_rfl) ?_
          repeat (go_big_quiet_step (((go_at_call 23; exact quiet_ext (eqIntS_c _ _ _ _ _ (hi.mono (Subtype.property _)) (hi2.mono (Subtype.property _)))))))
          refine wpQuiet_nil ?_
          rintro w1 ⟨⟨_, x1⟩, rfl⟩
          rw [eqB_false H0.out]
          go_wp2
          go_ret
          exact ⟨ret_bool (eqB_false (ne_of_at hlt hlt2 H0.out)).symm, hx.trans x1⟩
      · go_wp2
        go_ret
        exact ⟨ret_bool (eqB_true (eq_of_take hlt HL.out HE.out)).symm, hx⟩
  · have hl' : ((xs.length : Int) != (ys.length : Int)) = true := by simp; omega
    go_enter Try.func22, Try.ntmps22
    go_wp2
    go_ret
    exact ⟨ret_bool (eqB_false fun e => hl (by rw [e])).symm, Ext.refl _⟩
theorem sumLen_mem {α : Type} {xs : List (List α)} {x : List α} (h : x ∈ xs) : x.length ≤ sumLen xs := by
  obtain ⟨i, hi, rfl⟩ := List.getElem_of_mem h
  have := sumLen_at xs i hi
  omega
end Go.Proofs.Ytenfgmpndpgbhaa
