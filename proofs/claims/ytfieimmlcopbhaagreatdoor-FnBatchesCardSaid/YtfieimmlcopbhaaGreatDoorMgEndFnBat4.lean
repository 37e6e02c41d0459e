/-
  WALKS: FormatBatch (the reference's).
-/
import Derived.Test.YtfieimmlcopbhaaGreatDoorMgEndFnBat1
import Derived.Test.YtfieimmlcopbhaaGreatDoorMgEndFnBat2

namespace Go.Proofs.YtfieimmlcopbhaaGreatDoor
open Go.RowKit

/-- the text of a batch -/
noncomputable def batT (xs : List Op) : ByteArray := ⟨#[91]⟩ ++ joinS (xs.map fmtO) ⟨#[59]⟩ ++ ⟨#[93]⟩
noncomputable def fmtB (b : Batch) : ByteArray := if okBat b = true then batT b.ops else ⟨#[]⟩
theorem batJ_size (xs : List Op) (h : xs.length ≤ 6) (k : Nat) : (joinS ((xs.map fmtO).take k) ⟨#[59]⟩).size ≤ 1806 := by
  have h1 := joinS_size 300 ⟨#[59]⟩ ((xs.map fmtO).take k) fun s hs => by
    obtain ⟨o, _, rfl⟩ := List.mem_map.1 (List.mem_of_mem_take hs)
    exact fmtO_size o
  have e1 : (⟨#[59]⟩ : ByteArray).size = 1 := rfl
  have h2 : ((xs.map fmtO).take k).length ≤ 6 := by rw [List.length_take, List.length_map]; omega
  rw [e1] at h1
  have := Nat.mul_le_mul_right 301 h2
  omega
theorem okBat_len {b : Batch} (h : okBat b = true) : b.ops.length ≤ 6 := by
  unfold okBat at h
  simp only [Bool.and_eq_true, decide_eq_true_eq] at h
  exact h.1

set_option maxHeartbeats 400000 in
set_option maxRecDepth 20000 in
theorem spec_FormatBatch (v : Value) (b : Batch) (w : World) (h : BatAt w v b) :
    Calls Tryz.prog 34 #[v] w fun e w2 => e = .returned (.string (fmtB b)) ∧ Ext w w2 := by
  obtain ⟨f, rfl, _, hs⟩ := h
  obtain ⟨A, cap, rfl, hm⟩ := hs.form
  have HB := hid (show ∀ W, Ext (w.alloc (.cells #[.slice A b.ops.length cap] 36)) W → W.cell? ⟨w.heap.size, 0, none⟩ = some (.slice A b.ops.length cap) from fun W z => z.box.1 0)
  go_enter Tryz.func34, Tryz.ntmps34
  go_wp2_with fail
  refine (spec_IsValidBatch _ b _ ⟨_, rfl, trivial, hs.mono (by repeat (first | with_reducible exact Ext.refl _ | with_reducible assumption | with_reducible refine Ext.drew ?_ | with_reducible refine Ext.alloc ?_ _ | (refine Ext.setCell ?_ (by simp) _) | with_reducible refine Ext.trans ?_ (by with_reducible assumption)))⟩).mono ?_
  rintro e w1 ⟨rfl, x1⟩
  have xw : Ext w w1 := ((Ext.refl _).alloc _).trans x1
  cases hok : okBat b with
  | false =>
    have hr := hid (show fmtB b = ⟨#[]⟩ by unfold fmtB; rw [if_neg (by simp [hok])])
    go_wp2
    go_ret
    exact ⟨by rw [hr.out]; rfl, xw⟩
  | true =>
    have hr := hid (show fmtB b = batT b.ops by unfold fmtB; rw [if_pos hok])
    have hl := okBat_len hok
    have HJ := hid (batJ_size b.ops hl)
    clear hok
    go_wp2
    go_loopw [3, 4] (fun t i wr => ∃ k : Nat, k ≤ b.ops.length ∧ i = .int .i64 k ∧ t = .string (⟨#[91]⟩ ++ joinS ((b.ops.map fmtO).take k) ⟨#[59]⟩) ∧ Ext w1 wr) (fun _ i _ => b.ops.length - (intOf i).toNat)
    case atStart => exact ⟨0, Nat.zero_le _, rfl, rfl, Ext.refl _⟩
    case round =>
      obtain ⟨k, hk, rfl, rfl, hx⟩ := hrel
      have b0 := HB.out _ (x1.trans hx)
      have hj := HJ.out k
      have e91 : (⟨#[91]⟩ : ByteArray).size = 1 := rfl
      have hsz : (⟨#[91]⟩ ++ joinS ((b.ops.map fmtO).take k) ⟨#[59]⟩ : ByteArray).size ≤ 1807 := by rw [ByteArray.size_append]; omega
      by_cases hlt : k < b.ops.length
      · obtain ⟨g, off, A2, cap2, rfl, hok, hsl, hc0, hc1, hc2, hc3, hc4, hc5, hc6, hc7, hc8⟩ := (hs.mono (xw.trans hx)).op hlt
        have hstep := hid (joinS_step (b.ops.map fmtO) k (by rw [List.length_map]; exact hlt) ⟨#[59]⟩)
        have hfs := fmtO_size b.ops[k]
        obtain ⟨s, hse⟩ : ∃ s, joinS ((b.ops.map fmtO).take k) ⟨#[59]⟩ = s := ⟨_, rfl⟩
        rw [hse] at hstep hsz hj ⊢
        have HSE := hid hse
        clear hse
        by_cases h0 : 0 < k
        · have hnew := hid (show joinS ((b.ops.map fmtO).take (k + 1)) ⟨#[59]⟩ = s ++ ⟨#[59]⟩ ++ fmtO b.ops[k] by rw [hstep.out, if_pos h0, List.getElem_map])
          have q1 := run_cat (P := Tryz.prog) 9 (⟨#[91]⟩ ++ s) ⟨#[59]⟩ (by have e59 : (⟨#[59]⟩ : ByteArray).size = 1 := rfl; omega)
          have q2 := run_cat (P := Tryz.prog) 9 (⟨#[91]⟩ ++ s ++ ⟨#[59]⟩) (fmtO b.ops[k]) (by rw [ByteArray.size_append]; have e59 : (⟨#[59]⟩ : ByteArray).size = 1 := rfl; omega)
          have HO := hid (And.intro hok hsl)
          have t1 : ¬ 9223372036854775807 < 1 + s.size + 1 + (fmtO b.ops[k]).size := by rw [ByteArray.size_append] at hsz; omega
          clear hok hsl
          go_wp2_with fail
          refine (spec_FormatOp _ b.ops[k] _ ⟨_, rfl, HO.out.1, HO.out.2⟩).mono ?_
          rintro e w3 ⟨rfl, x3⟩
          go_wp2
          go_roundw
          case rel => exact ⟨k + 1, by omega, by go_num, by rw [hnew.out]; simp only [ByteArray.append_assoc], hx.trans x3⟩
          case measure => simp [intOf]; omega
        · have hnew := hid (show joinS ((b.ops.map fmtO).take (k + 1)) ⟨#[59]⟩ = fmtO b.ops[k] by rw [hstep.out, if_neg h0, List.getElem_map])
          have hk0 : k = 0 := by omega
          subst hk0
          simp only [Nat.zero_mul, Nat.add_zero] at hc0 hc1 hc2 hc3 hc4 hc5 hc6 hc7 hc8
          have hs0 : s = ⟨#[]⟩ := HSE.out.symm
          subst hs0
          have HO := hid (And.intro hok hsl)
          clear hok hsl
          go_wp2_with fail
          refine (spec_FormatOp _ b.ops[0] _ ⟨_, rfl, HO.out.1, HO.out.2⟩).mono ?_
          rintro e w3 ⟨rfl, x3⟩
          go_wp2
          go_roundw
          case rel => exact ⟨1, by omega, by go_num, by rw [hnew.out]; first | rfl | (congr 1; simp) | simp [ByteArray.append_assoc], hx.trans x3⟩
          case measure => simp [intOf]; omega
      · rw [List.take_of_length_le (by rw [List.length_map]; omega)]
        rw [List.take_of_length_le (by rw [List.length_map]; omega)] at hsz hj
        go_wp2
        go_ret
        exact ⟨by rw [hr.out]; rfl, xw.trans hx⟩
end Go.Proofs.YtfieimmlcopbhaaGreatDoor
