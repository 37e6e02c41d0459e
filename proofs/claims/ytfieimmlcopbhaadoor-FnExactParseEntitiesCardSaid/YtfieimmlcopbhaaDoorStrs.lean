/-
  WALKS: the laws' szStringS, toStringS, eqStringS.
-/
import Derived.Test.YtfieimmlcopbhaaDoorIntss
namespace Go.Proofs.YtfieimmlcopbhaaDoor
open Go.RowKit

def sumSize (xs : List ByteArray) : Nat := (xs.map ByteArray.size).sum
theorem sumSize_take (xs : List ByteArray) (k : Nat) (h : k < xs.length) : sumSize (xs.take (k + 1)) = sumSize (xs.take k) + xs[k].size := by
  rw [List.take_succ_eq_append_getElem h]; unfold sumSize; rw [List.map_append, List.sum_append]; simp
theorem sumSize_le (xs : List ByteArray) (k : Nat) : sumSize (xs.take k) ≤ sumSize xs := by
  have h := List.take_append_drop k xs
  have : sumSize xs = sumSize (xs.take k) + sumSize (xs.drop k) := by
    unfold sumSize; rw [← List.sum_append, ← List.map_append, h]
  omega
theorem sumSize_at (xs : List ByteArray) (k : Nat) (h : k < xs.length) : sumSize (xs.take k) + xs[k].size ≤ sumSize xs := by
  rw [← sumSize_take xs k h]; exact sumSize_le _ _
theorem sumSize_mem {xs : List ByteArray} {x : ByteArray} (h : x ∈ xs) : x.size ≤ sumSize xs := by
  obtain ⟨i, hi, rfl⟩ := List.getElem_of_mem h
  have := sumSize_at xs i hi
  omega

set_option maxHeartbeats 400000 in
theorem szStringS_c (v : Value) (xs : List ByteArray) (left : Int) (w : World) (h : Sl strR w v xs) (h0 : 0 ≤ left) (h1 : left ≤ 1048576) :
    Calls Tryd.prog 106 #[v, .int .i64 left] w fun e w2 => e = .returned (.int .i64 (szv ((xs.length + sumSize xs : Nat) : Int) left)) ∧ Ext w w2 := by
  obtain ⟨A, cap, rfl, hm⟩ := h.form
  by_cases hlt : left < xs.length
  · go_enter Tryd.func106, Tryd.ntmps106
    go_wp2
    go_ret
    exact ⟨ret_int (by symm; unfold szv; rw [if_pos (by omega)]), Ext.refl _⟩
  · go_enter Tryd.func106, Tryd.ntmps106
    go_wp2
    go_loopw [1, 5] (fun l i wr => ∃ k : Nat, k ≤ xs.length ∧ i = .int .i64 k ∧ sumSize (xs.take k) + xs.length ≤ left ∧ l = .int .i64 (left - xs.length - (sumSize (xs.take k) : Nat)) ∧ Ext w wr) (fun _ i _ => xs.length - (intOf i).toNat)
    case atStart => exact ⟨0, Nat.zero_le _, rfl, by simp [sumSize]; omega, by simp [sumSize], Ext.refl _⟩
    case round =>
      obtain ⟨k, hk, rfl, hs, rfl, hx⟩ := hrel
      by_cases hlk : k < xs.length
      · obtain ⟨b, off, rfl, hsl, hc⟩ := (h.mono hx).str hlk
        unfold maxLen at hsl
        have hst := sumSize_take xs k hlk
        have hsa := sumSize_at xs k hlk
        have HS := hid hst
        clear hst
        by_cases hfit : left - xs.length - (sumSize (xs.take k) : Nat) < xs[k].size
        · go_wp2
          go_ret
          exact ⟨ret_int (by symm; unfold szv; rw [if_pos (by omega)]), hx⟩
        · go_wp2
          go_roundw
          case rel => exact ⟨k + 1, by omega, by go_num, by rw [HS.out]; omega, by rw [HS.out]; congr 1; omega, hx⟩
          case measure => simp [intOf]; omega
      · go_wp2
        go_ret
        rw [List.take_of_length_le (by omega)] at hs
        exact ⟨ret_int (by rw [List.take_of_length_le (by omega)]; unfold szv; rw [if_neg (by omega)]; omega), hx⟩

theorem infoStr : (Tryd.prog.info? 9).map (fun i => (i.zero, i.size, i.bytes)) = some (some (.string ByteArray.empty), 1, 16) := by kernel_rfl

theorem strs_cells (w : World) (xs : List ByteArray) (h : ∀ x ∈ xs, x.size ≤ maxLen) : OwnCells strO w (xs.map Value.string) xs [] := by
  induction xs with
  | nil => exact .nil
  | cons x xs ih => exact ⟨[.string x], xs.map Value.string, [], [], rfl, rfl, ⟨⟨rfl, h x (List.mem_cons_self ..)⟩, rfl⟩, ih fun y hy => h y (List.mem_cons_of_mem _ hy)⟩
theorem Sl.strlen {w : World} {v : Value} {xs : List ByteArray} (h : Sl strR w v xs) : ∀ x ∈ xs, x.size ≤ maxLen := by
  intro x hx
  obtain ⟨A, cap, rfl, _⟩ := h.form
  obtain ⟨i, hi, rfl⟩ := List.getElem_of_mem hx
  obtain ⟨_, _, _, hb, _⟩ := h.str hi
  exact hb

set_option maxHeartbeats 400000 in
theorem toStringS_c (v : Value) (xs : List ByteArray) (w : World) (h : Sl strR w v xs) (hb : xs.length ≤ 1048576) :
    Calls Tryd.prog 108 #[v] w fun e w2 => ∃ v2 F, e = .returned v2 ∧ OwnSl strO w2 v2 xs F ∧ NewF w F ∧ Ext w w2 := by
  obtain ⟨A, cap, rfl, hm⟩ := h.form
  obtain ⟨i0, hi0, hz0, hz1, hz2⟩ := info_parts infoStr
  have hmk := run_mk (P := Tryd.prog) 49 9 i0 _ [.string ByteArray.empty] 16 Tryd.underlying49 hi0 hz0 rfl hz1 hz2 xs.length (by omega) hm
  rw [flat_rep] at hmk
  go_enter Tryd.func108, Tryd.ntmps108
  go_wp2
  go_loopw [4] (fun i wr => ∃ k : Nat, k ≤ xs.length ∧ i = .int .i64 k ∧ Blk wr w.heap.size 9 ((xs.take k).map Value.string ++ List.replicate (xs.length - k) (.string ByteArray.empty)) ∧ Ext w wr) (fun i _ => xs.length - (intOf i).toNat)
  case atStart => exact ⟨0, Nat.zero_le _, rfl, by simpa using Blk.new w 9 (Array.replicate xs.length (.string ByteArray.empty)), (Ext.refl _).alloc _⟩
  case round =>
    obtain ⟨k, hk, rfl, hblk, hx⟩ := hrel
    by_cases hlt : k < xs.length
    · obtain ⟨b, off, rfl, hi, hc⟩ := (h.mono hx).str hlt
      have hz : List.replicate (xs.length - k) (Value.string ByteArray.empty) = .string ByteArray.empty :: List.replicate (xs.length - (k + 1)) (.string ByteArray.empty) := by
        rw [show xs.length - k = (xs.length - (k + 1)) + 1 by omega, List.replicate_succ]
      rw [hz] at hblk
      clear hz
      have hl : ((xs.take k).map Value.string).length = k := by simp; omega
      obtain ⟨hcell, hfr⟩ := hblk.at_ hl
      have hst := hblk.store hl (.string xs[k])
      have HL := hid hl
      clear hl hblk
      go_wp2
      go_roundw
      case rel => exact ⟨k + 1, by omega, by go_num, by rw [List.take_succ_eq_append_getElem hlt, List.map_append]; exact hst, hx.setCell (by simp) _⟩
      case measure => simp [intOf]; omega
    · go_wp2
      go_ret
      rw [show xs.length - k = 0 by omega, List.take_of_length_le (by omega), List.replicate_zero, List.append_nil] at hblk
      exact ⟨_, _, rfl, OwnSl.of_blk hblk (by unfold maxLen; omega) (strs_cells _ _ h.strlen), ⟨by simp, by simp⟩, hx⟩

set_option maxHeartbeats 400000 in
theorem eqStringS_c (v u : Value) (xs ys : List ByteArray) (w : World) (h : Sl strR w v xs) (k : Sl strR w u ys) :
    Calls Tryd.prog 114 #[v, u] w fun e w2 => e = .returned (.bool (eqB xs ys)) ∧ Ext w w2 := by
  obtain ⟨A, cap, rfl, hm⟩ := h.form
  obtain ⟨B, cap2, rfl, hm2⟩ := k.form
  by_cases hl : xs.length = ys.length
  · have hl' : ((xs.length : Int) != (ys.length : Int)) = false := by simp [hl]
    have HL := hid hl
    clear hl
    go_enter Tryd.func114, Tryd.ntmps114
    go_wp2
    go_loopw [5] (fun i wr => ∃ k2 : Nat, k2 ≤ xs.length ∧ i = .int .i64 k2 ∧ xs.take k2 = ys.take k2 ∧ Ext w wr) (fun i _ => xs.length - (intOf i).toNat)
    case atStart => exact ⟨0, Nat.zero_le _, rfl, by simp, Ext.refl _⟩
    case round =>
      obtain ⟨k2, hk, rfl, he, hx⟩ := hrel
      have HE := hid he
      clear he
      by_cases hlt : k2 < xs.length
      · have hlt2 : k2 < ys.length := by have := HL.out; omega
        obtain ⟨b, off, rfl, hi, hc⟩ := (h.mono hx).str hlt
        obtain ⟨b2, off2, rfl, hi2, hc2⟩ := (k.mono hx).str hlt2
        have hcz : ∀ z : ExtOf wr, z.1.cell? ⟨b, off + k2, none⟩ = _ := fun z => z.2.cell hc
        have hcz2 : ∀ z : ExtOf wr, z.1.cell? ⟨b2, off2 + k2, none⟩ = _ := fun z => z.2.cell hc2
        by_cases h0 : xs[k2] = ys[k2]
        · have h0' := str_eq h0
          have H0 := hid h0
          clear h0
          go_wp2_with fail
          refine wp_region_ext (by kernel_rfl) (by kernel_rfl) ?_
          repeat (go_big_quiet_step ((fail)))
          refine wpQuiet_nil ?_
          rintro w1 ⟨⟨_, x1⟩, rfl⟩
          go_wp2
          go_roundw
          case rel => exact ⟨k2 + 1, by omega, by go_num, take_snoc_eq hlt hlt2 H0.out HE.out, hx.trans x1⟩
          case measure => simp [intOf]; omega
        · have h0' := str_ne h0
          go_wp2_with fail
          refine wp_region_ext (by kernel_rfl) (by kernel_rfl) ?_
          repeat (go_big_quiet_step ((fail)))
          refine wpQuiet_nil ?_
          rintro w1 ⟨⟨_, x1⟩, rfl⟩
          go_wp2
          go_ret
          exact ⟨ret_bool (eqB_false (ne_of_at hlt hlt2 h0)).symm, hx.trans x1⟩
      · go_wp2
        go_ret
        exact ⟨ret_bool (eqB_true (eq_of_take hlt HL.out HE.out)).symm, hx⟩
  · have hl' : ((xs.length : Int) != (ys.length : Int)) = true := by simp; omega
    go_enter Tryd.func114, Tryd.ntmps114
    go_wp2
    go_ret
    exact ⟨ret_bool (eqB_false fun e => hl (by rw [e])).symm, Ext.refl _⟩
end Go.Proofs.YtfieimmlcopbhaaDoor
