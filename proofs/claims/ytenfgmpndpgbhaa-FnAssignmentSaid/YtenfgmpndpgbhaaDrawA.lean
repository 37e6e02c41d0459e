/-
  WALKS: l25Pair, DrawAssignmentValue; the laws' sameInts, big.
-/
import Derived.Test.YtenfgmpndpgbhaaDrawM
import Derived.Test.YtenfgmpndpgbhaaOpt
namespace Go.Proofs.Ytenfgmpndpgbhaa
open Go.RowKit

theorem best_len (m : List (List Int)) : (bestAsg m).length ≤ 8 := by
  unfold bestAsg; split
  · rename_i h; rw [asgFrom_len]; exact okMat_len h
  · simp

set_option maxHeartbeats 400000 in
set_option maxRecDepth 20000 in
theorem spec_l25Pair (w : World) (v : Value) (bs : List Int) (h : Sl u8R w v bs) :
    Calls Try.prog 97 #[v] w fun e w2 => ∃ v1 v2 m a, e = .returned (.tuple #[v1, v2]) ∧ Sl (slR intR) w2 v1 m ∧ Sl intR w2 v2 a ∧ Ext w w2 := by
  go_enter Try.func97, Try.ntmps97
  go_wp2_with fail
  refine (spec_l1New w v bs h).mono ?_
  rintro e w1 ⟨rfl, hc1, x1⟩
  go_wp2_with fail
  refine (spec_l25Matrix w w1 w.heap.size hc1).mono ?_
  rintro e w2 ⟨v2, m, F, rfl, hm, hn, hc2, hk2⟩
  have hg1 := hc1.base.2.2
  have hg2 := hc2.base.2.2
  have hgF : w.heap.size ∉ F := fun hb => by have := hn.2 _ hb; omega
  go_wp2_with fail
  refine (spec_BestAssignment v2 m _ hm.sl).mono ?_
  rintro e w3 ⟨v3, F3, rfl, ho, hn3, x3⟩
  have hc3 := hc2.ext x3
  have hm3 := hm.ext x3
  have hb8 := best_len m
  have hgF3 : w.heap.size ∉ F3 := fun hb => by have := hn3.2 _ hb; omega
  generalize bestAsg m = a at ho hb8
  obtain ⟨A, cap, e3, hA⟩ := ho.form
  subst e3
  by_cases h0 : 0 < a.length
  · go_wp2_with fail
    refine (spec_l1Once w w3 w.heap.size 3 (by decide) hc3).mono ?_
    rintro e w4 ⟨x, rfl, hc4, hk4⟩
    have hm4 := hm3.kept hgF hk4
    have ho4 := ho.kept hgF3 hk4
    cases x with
    | false =>
      go_wp2
      refine bodyPost_ret (v := .tuple #[v2, .slice A a.length cap]) (by simp [results, Try.results97, go_sem]) rfl ?_
      exact ⟨_, _, m, a, rfl, hm4.sl, ho4.sl, hc4.base.1⟩
    | true =>
      go_wp2_with fail
      refine (spec_l1Below w w4 w.heap.size a.length (by omega) hc4).mono ?_
      rintro e w5 ⟨x, rfl, hx, hc5, hk5⟩
      obtain ⟨j, rfl⟩ : ∃ j : Nat, x = j := ⟨x.toNat, by omega⟩
      go_wp2_with fail
      refine (spec_l1Below w w5 w.heap.size 5 (by decide) hc5).mono ?_
      rintro e w6 ⟨y, rfl, hy, hc6, hk6⟩
      have hk := hk5.trans hk6
      have hm6 := hm4.kept hgF hk
      have ho6 := ho4.kept hgF3 hk
      have hj : j < a.length := by omega
      obtain ⟨b, off, cap2, e6, hbF, hcell, hfr, hst⟩ := ho6.int_store hn3.1 hj
      injection e6 with q1 q2 q3
      subst q1
      subst q3
      have hst1 := hst (y - 1) (by unfold I64; omega)
      have hbF2 : b ∉ F := fun hb => by have := hm.lt _ hb; have := hn3.2 _ hbF; omega
      have hb3 := hn3.2 _ hbF
      have HX := hid (show Ext w (w6.setCell ⟨b, off + j, none⟩ (.int .i64 (y - 1))) from hc6.base.1.setCell (by show w.heap.size ≤ b; omega) _)
      have HM := hid (hm6.setCell (p := ⟨b, off + j, none⟩) hbF2 (.int .i64 (y - 1)))
      clear hst
      go_wp2
      refine bodyPost_ret (v := .tuple #[v2, .slice (some ⟨b, off, none⟩) a.length cap]) (by simp [results, Try.results97, go_sem]) rfl ?_
      exact ⟨_, _, m, a.set j (y - 1), rfl, HM.out.sl, hst1.sl, HX.out⟩
  · go_wp2
    refine bodyPost_ret (v := .tuple #[v2, .slice A a.length cap]) (by simp [results, Try.results97, go_sem]) rfl ?_
    exact ⟨_, _, m, a, rfl, hm3.sl, ho.sl, hc3.base.1⟩

set_option maxHeartbeats 400000 in
theorem spec_DrawAssignmentValue (w : World) (v : Value) (bs : List Int) (h : Sl u8R w v bs) :
    Calls Try.prog 57 #[v] w fun e w2 => ∃ v1 v2 m a, e = .returned (.tuple #[v1, v2]) ∧ Sl (slR intR) w2 v1 m ∧ Sl intR w2 v2 a ∧ Ext w w2 := by
  go_enter Try.func57, Try.ntmps57
  go_wp2_with fail
  refine (spec_l25Pair w v bs h).mono ?_
  rintro e w2 ⟨v1, v2, m, a, rfl, hm, ha, x2⟩
  go_wp2
  refine bodyPost_ret (v := .tuple #[v1, v2]) (by simp [results, Try.results57, go_sem]) rfl ?_
  exact ⟨_, _, m, a, rfl, hm, ha, x2⟩

set_option maxHeartbeats 400000 in
theorem laws_big (v : Value) (bs : List Int) (w : World) (h : Sl u8R w v bs) :
    Calls Try.prog 56 #[v] w fun e w2 => e = .returned (.bool (decide (1048576 < bs.length))) ∧ w = w2 := by
  obtain ⟨A, cap, rfl, hm⟩ := h.form
  go_enter Try.func56, Try.ntmps56
  go_wp2
  go_ret
  exact ⟨ret_bool (by simp; try omega), rfl⟩

set_option maxHeartbeats 400000 in
theorem laws_sameInts (v u : Value) (xs ys : List Int) (w : World) (h : Sl intR w v xs) (k : Sl intR w u ys) :
    Calls Try.prog 58 #[v, u] w fun e w2 => e = .returned (.bool (eqB xs ys)) ∧ Ext w w2 := by
  obtain ⟨A, cap, rfl, hm⟩ := h.form
  obtain ⟨B, cap2, rfl, hm2⟩ := k.form
  by_cases hl : xs.length = ys.length
  · have hl' : ((xs.length : Int) != (ys.length : Int)) = false := by simp [hl]
    have HL := hid hl
    clear hl
    go_enter Try.func58, Try.ntmps58
    go_wp2
    go_loopw [5] (fun i wr => ∃ k2 : Nat, k2 ≤ xs.length ∧ i = .int .i64 k2 ∧ xs.take k2 = ys.take k2 ∧ Ext w wr) (fun i _ => xs.length - (intOf i).toNat)
    case atStart => exact ⟨0, Nat.zero_le _, rfl, by simp, Ext.refl _⟩
    case round =>
      obtain ⟨k2, hk, rfl, he, hx⟩ := hrel
      have HE := hid he
      clear he
      by_cases hlt : k2 < xs.length
      · have hlt2 : k2 < ys.length := by have := HL.out; omega
        obtain ⟨b, off, rfl, hi, hc⟩ := (h.mono hx).int hlt
        obtain ⟨b2, off2, rfl, hi2, hc2⟩ := (k.mono hx).int hlt2
        have hcz : ∀ z : ExtOf wr, z.1.cell? ⟨b, off + k2, none⟩ = _ := fun z => z.2.cell hc
        have hcz2 : ∀ z : ExtOf wr, z.1.cell? ⟨b2, off2 + k2, none⟩ = _ := fun z => z.2.cell hc2
        by_cases h0 : xs[k2] = ys[k2]
        · have h0' : (xs[k2] != ys[k2]) = false := by simp [h0]
          have H0 := hid h0
          clear h0
          go_wp2_with fail
          refine wp_region_ext (by kernel_rfl) (by kernel_rfl) ?_
          repeat (go_big_quiet_step ((fail)))
          refine wpQuiet_nil ?_
          rintro w1 ⟨⟨_, x1⟩, rfl⟩
          go_wp2
          go_roundw
          case rel => exact ⟨k2 + 1, by omega, by go_num, take_snoc_eq hlt hlt2 H0.out HE.out, hx.trans x1⟩
          case measure => simp [intOf]; omega
        · have h0' : (xs[k2] != ys[k2]) = true := by simp [h0]
          have H0 := hid h0
          clear h0
          go_wp2_with fail
          refine wp_region_ext (by kernel_rfl) (by kernel_rfl) ?_
          repeat (go_big_quiet_step ((fail)))
          refine wpQuiet_nil ?_
          rintro w1 ⟨⟨_, x1⟩, rfl⟩
          go_wp2
          go_ret
          exact ⟨ret_bool (eqB_false (ne_of_at hlt hlt2 H0.out)).symm, hx.trans x1⟩
      · go_wp2
        go_ret
        exact ⟨ret_bool (eqB_true (eq_of_take hlt HL.out HE.out)).symm, hx⟩
  · have hl' : ((xs.length : Int) != (ys.length : Int)) = true := by simp; omega
    go_enter Try.func58, Try.ntmps58
    go_wp2
    go_ret
    exact ⟨ret_bool (eqB_false fun e => hl (by rw [e])).symm, Ext.refl _⟩
end Go.Proofs.Ytenfgmpndpgbhaa
