/-
  WALKS: formatBatch, FormatBatch (the program's).
-/
import Derived.Test.YtfieimmlcopbhaaGreatDoorMgEndFnBat4

namespace Go.Proofs.YtfieimmlcopbhaaGreatDoor
open Go.RowKit

set_option maxHeartbeats 400000 in
set_option maxRecDepth 20000 in
theorem impl_formatBatch (v : Value) (b : Batch) (w : World) (h : BatAt w v b) (hl6 : b.ops.length ≤ 6) (T : Tab w) :
    Calls Tryz.prog 78 #[v] w fun e w2 => e = .returned (.string (batT b.ops)) ∧ Ext w w2 := by
  obtain ⟨f, rfl, _, hs⟩ := h
  obtain ⟨A, cap, rfl, hm⟩ := hs.form
  obtain ⟨i0, hi0, hz0, hz1, hz2⟩ := info_parts infoStr
  have hmk := run_mk (P := Tryz.prog) 22 9 i0 _ [.string ByteArray.empty] 16 Tryz.underlying22 hi0 hz0 rfl hz1 hz2 b.ops.length (by omega) hm
  rw [flat_rep] at hmk
  have xw : Ext w (w.alloc (.cells #[.slice A b.ops.length cap] 36)) := (Ext.refl _).alloc _
  have c0 : (w.alloc (.cells #[.slice A b.ops.length cap] 36)).cell? ⟨w.heap.size, 0, none⟩ = some (.slice A b.ops.length cap) := (Ext.refl _).box.1 0
  have c1 : ((w.alloc (.cells #[.slice A b.ops.length cap] 36)).alloc (.cells (Array.replicate b.ops.length (.string ByteArray.empty)) 9)).cell? ⟨w.heap.size, 0, none⟩ = some (.slice A b.ops.length cap) := ((Ext.refl _).alloc _).cell c0
  have HJ := hid (batJ_size b.ops hl6 b.ops.length)
  go_enter Tryz.func78, Tryz.ntmps78
  go_wp2
  go_loopw [13] (fun i wr => ∃ k : Nat, k ≤ b.ops.length ∧ i = .int .i64 k ∧ Blk wr (w.heap.size + 1) 9 (((b.ops.map fmtO).take k).map Value.string ++ List.replicate (b.ops.length - k) (.string ByteArray.empty)) ∧ Ext w wr) (fun i _ => b.ops.length - (intOf i).toNat)
  case atStart => exact ⟨0, Nat.zero_le _, rfl, by simpa using Blk.new (w.alloc (.cells #[.slice A b.ops.length cap] 36)) 9 (Array.replicate b.ops.length (.string ByteArray.empty)), xw.alloc _⟩
  case round =>
    obtain ⟨k, hk, rfl, hblk, hx⟩ := hrel
    by_cases hlt : k < b.ops.length
    · obtain ⟨g, off, A2, cap2, rfl, hok, hsl, hc0, hc1, hc2, hc3, hc4, hc5, hc6, hc7, hc8⟩ := (hs.mono hx).op hlt
      have hz : List.replicate (b.ops.length - k) (Value.string ByteArray.empty) = .string ByteArray.empty :: List.replicate (b.ops.length - (k + 1)) (.string ByteArray.empty) := by
        rw [show b.ops.length - k = (b.ops.length - (k + 1)) + 1 by omega, List.replicate_succ]
      rw [hz] at hblk
      clear hz
      have hl : (((b.ops.map fmtO).take k).map Value.string).length = k := by simp; omega
      have HBK := hid hblk
      have HLK := hid hl
      have HO := hid (And.intro hok hsl)
      clear hl hblk hok hsl
      go_wp2_with fail
      refine (impl_FormatOp _ b.ops[k] _ ⟨_, rfl, HO.out.1, HO.out.2.mono (by repeat (first | with_reducible exact Ext.refl _ | with_reducible assumption | with_reducible refine Ext.drew ?_ | with_reducible refine Ext.alloc ?_ _ | (refine Ext.setCell ?_ (by simp) _) | with_reducible refine Ext.trans ?_ (by with_reducible assumption)))⟩ (T.mono (hx.trans (by repeat (first | with_reducible exact Ext.refl _ | with_reducible assumption | with_reducible refine Ext.drew ?_ | with_reducible refine Ext.alloc ?_ _ | (refine Ext.setCell ?_ (by simp) _) | with_reducible refine Ext.trans ?_ (by with_reducible assumption)))))).mono ?_
      rintro e w3 ⟨rfl, x3⟩
      have x4 : Ext wr w3 := (by repeat (first | with_reducible exact Ext.refl _ | with_reducible assumption | with_reducible refine Ext.drew ?_ | with_reducible refine Ext.alloc ?_ _ | (refine Ext.setCell ?_ (by simp) _) | with_reducible refine Ext.trans ?_ (by with_reducible assumption)))
      have hblk := HBK.out.ext x4
      obtain ⟨hcell, hfr⟩ := hblk.at_ HLK.out
      have hst := hid (hblk.store HLK.out (.string (fmtO b.ops[k])))
      clear hblk
      go_wp2
      go_roundw
      case rel => exact ⟨k + 1, by omega, by go_num, by rw [List.take_succ_eq_append_getElem (by rw [List.length_map]; exact hlt), List.map_append, List.getElem_map]; exact hst.out, (hx.trans x4).setCell (by simp) _⟩
      case measure => simp [intOf]; omega
    · rw [show b.ops.length - k = 0 by omega, List.take_of_length_le (by rw [List.length_map]; omega), List.replicate_zero, List.append_nil] at hblk
      have hsl := hid (show Sl strR _ (.slice (some ⟨w.heap.size + 1, 0, none⟩) (b.ops.map fmtO).length (b.ops.map fmtO).length) (b.ops.map fmtO) from (OwnSl.of_blk hblk (by unfold maxLen; rw [List.length_map]; omega) (strs_cells _ _ fun s hs => by obtain ⟨o, _, rfl⟩ := List.mem_map.1 hs; have := fmtO_size o; unfold maxLen; omega)).sl)
      have hj := HJ.out
      rw [List.take_of_length_le (by rw [List.length_map]; omega)] at hj
      go_wp2_with fail
      refine (strings_Join_c _ (b.ops.map fmtO) _ _ (by have := hsl.out; rw [List.length_map] at this; exact this) (by rw [List.length_map]; omega) (by omega)).mono ?_
      rintro e w2 ⟨rfl, x2⟩
      go_wp2
      go_ret
      exact ⟨rfl, hx.trans x2⟩

set_option maxHeartbeats 400000 in
set_option maxRecDepth 20000 in
theorem impl_FormatBatch (v : Value) (b : Batch) (w : World) (h : BatAt w v b) (T : Tab w) :
    Calls Tryz.prog 33 #[v] w fun e w2 => e = .returned (.string (fmtB b)) ∧ Ext w w2 := by
  obtain ⟨f, rfl, _, hs⟩ := h
  obtain ⟨A, cap, rfl, hm⟩ := hs.form
  have HB := hid (show ∀ W, Ext (w.alloc (.cells #[.slice A b.ops.length cap] 36)) W → W.cell? ⟨w.heap.size, 0, none⟩ = some (.slice A b.ops.length cap) from fun W z => z.box.1 0)
  go_enter Tryz.func33, Tryz.ntmps33
  go_wp2_with fail
  refine (impl_IsValidBatch _ b _ ⟨_, rfl, trivial, hs.mono (by repeat (first | with_reducible exact Ext.refl _ | with_reducible assumption | with_reducible refine Ext.drew ?_ | with_reducible refine Ext.alloc ?_ _ | (refine Ext.setCell ?_ (by simp) _) | with_reducible refine Ext.trans ?_ (by with_reducible assumption)))⟩).mono ?_
  rintro e w1 ⟨rfl, x1⟩
  have xw : Ext w w1 := ((Ext.refl _).alloc _).trans x1
  have b0 := HB.out _ x1
  cases hok : okBat b with
  | false =>
    have hr := hid (show fmtB b = ⟨#[]⟩ by unfold fmtB; rw [if_neg (by simp [hok])])
    go_wp2
    go_ret
    exact ⟨by rw [hr.out]; rfl, xw⟩
  | true =>
    have hr := hid (show fmtB b = batT b.ops by unfold fmtB; rw [if_pos hok])
    have hl := okBat_len hok
    clear hok
    go_wp2_with fail
    refine (impl_formatBatch _ b _ ⟨_, rfl, trivial, hs.mono xw⟩ hl (T.mono xw)).mono ?_
    rintro e w2 ⟨rfl, x2⟩
    go_wp2
    go_ret
    exact ⟨by rw [hr.out]; rfl, xw.trans x2⟩
end Go.Proofs.YtfieimmlcopbhaaGreatDoor
