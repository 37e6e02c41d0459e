/-
  WALKS: the program's OverlapMatrix.
-/
import Derived.Test.YtenfgmpndpgbhaaOvS
namespace Go.Proofs.Ytenfgmpndpgbhaa
open Go.RowKit

theorem set_mid {α : Type} (l r : List α) (x y : α) (k : Nat) (h : l.length = k) : (l ++ x :: r).set k y = l ++ y :: r := by
  subst h
  rw [List.set_append_right _ _ (Nat.le_refl _), Nat.sub_self, List.set_cons_zero]
theorem get_mid {α : Type} (l r : List α) (x : α) (k : Nat) (h : l.length = k) (hk : k < (l ++ x :: r).length) : (l ++ x :: r)[k] = x := by
  subst h
  rw [List.getElem_append_right (Nat.le_refl _)]
  simp
theorem zeros_own2 (W : World) (n : Nat) (T : TypeId) (hn : n ≤ maxLen) : OwnSl intO (W.alloc (.cells (List.replicate n (Value.int .i64 0)).toArray T)) (.slice (some ⟨W.heap.size, 0, none⟩) n n) (List.replicate n (0 : Int)) [W.heap.size] := by
  have hc : ∀ n : Nat, OwnCells intO (W.alloc (.cells (List.replicate n (Value.int .i64 0)).toArray T)) (List.replicate n (.int .i64 0)) (List.replicate n (0 : Int)) [] := by
    intro n
    generalize W.alloc (.cells (List.replicate n (Value.int .i64 0)).toArray T) = W2
    induction n with
    | zero => exact .nil
    | succ n ih =>
      simp only [List.replicate_succ]
      exact ⟨[.int .i64 0], _, [], [], rfl, rfl, ⟨⟨rfl, by unfold I64; omega⟩, rfl⟩, ih⟩
  have h := OwnSl.of_blk (R := intO) (xs := List.replicate n (0 : Int)) (F2 := []) (Blk.new W T (List.replicate n (.int .i64 0)).toArray) (by simpa using hn) (hc n)
  simpa using h

set_option maxHeartbeats 400000 in
set_option maxRecDepth 20000 in
theorem impl_overlapMatrix (v u : Value) (a b : List (List Int)) (w : World) (h : Sl (slR intR) w v a) (h2 : Sl (slR intR) w u b) (ha : a.length ≤ 8) (hb : b.length ≤ 8) :
    Calls Try.prog 71 #[v, u] w fun e w2 => ∃ v2 F, e = .returned v2 ∧ OwnSl (slO intO) w2 v2 (a.map (ovRow b)) F ∧ NewF w F ∧ Ext w w2 := by
  obtain ⟨A, cap, rfl, hm⟩ := h.form
  obtain ⟨B, cap2, rfl, hm2⟩ := h2.form
  obtain ⟨i1, hi1, hz3, hz4, hz5⟩ := info_parts infoInt
  have hmk := run_mk (P := Try.prog) 23 3 i1 _ [.int .i64 0] 8 Try.underlying23 hi1 hz3 rfl hz4 hz5 b.length (by omega) (by omega)
  rw [flat_rep] at hmk
  obtain ⟨Z, hZ⟩ : ∃ Z, Z = (List.replicate b.length (Value.int .i64 0)).toArray := ⟨_, rfl⟩
  rw [← hZ] at hmk
  have HZ := hid hZ
  clear hZ
  go_enter Try.func71, Try.ntmps71
  go_wp2
  go_loopw [5, 15] (fun t i wr => ∃ (k : Nat) (F : List Nat), k ≤ a.length ∧ i = .int .i64 k ∧ Bld (slO intO) wr w.heap.size 23 t ((a.take k).map (ovRow b)) F ∧ Ext w wr) (fun _ i _ => a.length - (intOf i).toNat)
  case atStart => exact ⟨0, [], Nat.zero_le _, rfl, by simpa using Bld.nil w _ _, Ext.refl _⟩
  case round =>
    obtain ⟨k, F, hk, rfl, hB, hx⟩ := hrel
    by_cases hlt : k < a.length
    · obtain ⟨b1, off1, A1, cap1, rfl, hs1, hc1⟩ := (h.mono hx).sl hlt
      have ho : OwnSl intO (wr.alloc (.cells Z 3)) (.slice (some ⟨wr.heap.size, 0, none⟩) b.length b.length) (List.replicate b.length 0) [wr.heap.size] := by rw [HZ.out]; exact zeros_own2 wr b.length _ (by unfold maxLen; omega)
      have HO := hid ho
      clear ho
      go_wp2
      obtain ⟨wo, hwo⟩ : ∃ wo : World, wo = wr := ⟨_, rfl⟩
      go_loopw [24] (fun i w3 => ∃ (j : Nat), j ≤ b.length ∧ i = .int .i64 j ∧ OwnSl intO w3 (.slice (some ⟨wo.heap.size, 0, none⟩) b.length b.length) (ovRow (b.take j) a[k] ++ List.replicate (b.length - j) 0) [wo.heap.size] ∧ Ext wo w3) (fun i _ => b.length - (intOf i).toNat)
      case atStart => exact ⟨0, Nat.zero_le _, rfl, by rw [hwo]; simpa [ovRow] using HO.out, by rw [hwo]; exact (Ext.refl _).alloc _⟩
      case round =>
        obtain ⟨j, hj, rfl, hB2, hx2⟩ := hrel
        rw [← hwo] at hB hx hs1 ⊢
        clear hwo HO
        have hN1 : [wo.heap.size].Nodup := by simp
        by_cases hltb : j < b.length
        · obtain ⟨b2, off2, A2, cap2', rfl, hs2, hc20⟩ := h2.sl hltb
          have hc2 := (hx.trans hx2).cell hc20
          have hst := ovRow_step b a[k] j hltb
          have HS := hid hst
          clear hst
          have hrl : (ovRow (b.take j) a[k]).length = j := by rw [ovRow_len, List.length_take]; omega
          have HR := hid hrl
          rw [show b.length - j = (b.length - (j + 1)) + 1 by omega, List.replicate_succ] at hB2
          clear hrl
          obtain ⟨L, hL⟩ : ∃ L, L = ovRow (b.take j) a[k] := ⟨_, rfl⟩
          rw [← hL] at hB2
          have HL := hid hL
          clear hL
          obtain ⟨r, hr⟩ : ∃ r, r = List.replicate (b.length - (j + 1)) (0 : Int) := ⟨_, rfl⟩
          rw [← hr] at hB2
          have HR2 := hid hr
          clear hr
          have hlen : ∀ c : Int, j < (L ++ c :: r).length := fun c => by rw [List.length_append, List.length_cons, HL.out, HR.out]; omega
          go_wp2
          go_loopw [31] (fun i w4 => ∃ n : Nat, n ≤ a[k].length ∧ i = .int .i64 n ∧ OwnSl intO w4 (.slice (some ⟨wo.heap.size, 0, none⟩) b.length b.length) (L ++ ((cntIn (a[k].take n) b[j] : Nat) : Int) :: r) [wo.heap.size] ∧ Ext wo w4) (fun i _ => a[k].length - (intOf i).toNat)
          case atStart => exact ⟨0, Nat.zero_le _, rfl, by simpa [cntIn] using hB2, hx2⟩
          case round =>
            clear hB2 hx2 hc2
            obtain ⟨n, hn, rfl, hB2, hx2⟩ := hrel
            have hle := cntIn_le (a[k].take n) b[j]
            rw [List.length_take] at hle
            have hak : a[k].length ≤ 9223372036854775807 := by
              obtain ⟨_, _, _, h9⟩ := hs1.form
              exact h9
            obtain ⟨g, off, cp, e9, hgF, hcell, hfr, hst⟩ := hB2.int_store hN1 (hlen _)
            injection e9 with e1 e2 e3
            injection e1 with e1
            injection e1 with e4 e5
            subst e4; subst e5
            clear e2 e3
            rw [get_mid L r _ j (by rw [HL.out, HR.out])] at hcell
            rw [Nat.zero_add] at hcell hfr hst
            by_cases hln : n < a[k].length
            · obtain ⟨b3, off3, rfl, hi3, hc3⟩ := (hs1.mono hx2).int hln
              have hst2 := cntIn_step a[k] b[j] n hln
              have HC := hid hst2
              clear hst2
              go_wp2_with fail
              refine (slices_Contains _ b[j] a[k][n] _ (hs2.mono (by repeat (first | with_reducible exact Ext.refl _ | with_reducible assumption | with_reducible refine Ext.drew ?_ | with_reducible refine Ext.alloc ?_ _ | with_reducible refine Ext.trans ?_ (by with_reducible assumption))))).mono ?_
              rintro e w9 ⟨rfl, rfl⟩
              cases hhas : hasI a[k][n] b[j] with
              | true =>
                have hs9 := hst (((cntIn (a[k].take n) b[j] : Nat) : Int) + 1) (by unfold I64; omega)
                rw [set_mid L r _ _ j (by rw [HL.out, HR.out])] at hs9
                have HS9 := hid hs9
                have HH := hid hhas
                clear hst hs9 hhas
                go_wp2
                go_roundw
                case rel => exact ⟨n + 1, by omega, by go_num, by rw [HC.out, HH.out, if_pos rfl, Int.natCast_add]; exact HS9.out, hx2.setCell (by simp) _⟩
                case measure => simp [intOf]; omega
              | false =>
                have HH := hid hhas
                clear hst hhas
                go_wp2
                go_roundw
                case rel => exact ⟨n + 1, by omega, by go_num, by rw [HC.out, HH.out]; exact hB2, hx2⟩
                case measure => simp [intOf]; omega
            · rw [List.take_of_length_le (by omega)] at hB2 hst hcell
              have hs9 := hst (if 100 < ((cntIn a[k] b[j] : Nat) : Int) then 100 else ((cntIn a[k] b[j] : Nat) : Int)) (by unfold I64; split <;> omega)
              rw [set_mid L r _ _ j (by rw [HL.out, HR.out])] at hs9
              have HS9 := hid hs9
              clear hst hs9
              go_wp2
              go_roundw
              case rel =>
                refine ⟨j + 1, by omega, by go_num, ?_, hx2.setCell (by simp) _⟩
                rw [HS.out, ← HL.out, ← HR2.out, show min (100 : Int) (cntIn a[k] b[j]) = if 100 < ((cntIn a[k] b[j] : Nat) : Int) then 100 else ((cntIn a[k] b[j] : Nat) : Int) by split <;> omega, List.append_assoc]
                exact HS9.out
              case measure => simp [intOf]; omega
        · rw [List.take_of_length_le (by omega), show b.length - j = 0 by omega, List.replicate_zero, List.append_nil] at hB2
          have hn : NewF wo [wo.heap.size] := ⟨by simp, by simp⟩
          have hBx := hB.ext hx2
          have hG := hB.fresh hn hx.size
          have hlen : ((a.take k).map (ovRow b)).length ≤ 8 := by rw [List.length_map, List.length_take]; omega
          go_wp2_with (at_builtin; refine wpList_app1 elemInts (by decide) rfl _ _ rfl hBx rfl wr.heap.size 1 rfl rfl (one_slice _ _ _) (y := ovRow b a[k]) ⟨_, rfl, hB2⟩ hG (by omega) (by decide) (Nat.le_trans hx.size hx2.size) ?_; intro v2 w2 hB3 hE3)
          go_roundw
          case rel => exact ⟨k + 1, _, by omega, by go_num, by rw [List.take_succ_eq_append_getElem hlt, List.map_append]; exact hB3, hE3 w (Nat.le_refl _) (hx.trans hx2)⟩
          case measure => simp [intOf]; omega
    · go_wp2
      go_ret
      rw [List.take_of_length_le (by omega)] at hB
      obtain ⟨F', d1, d2, d3⟩ := hB.done
      exact ⟨_, F', rfl, d1, ⟨d2, d3⟩, hx⟩
set_option maxHeartbeats 400000 in
theorem impl_OverlapMatrix (v u : Value) (a b : List (List Int)) (w : World) (h : Sl (slR intR) w v a) (h2 : Sl (slR intR) w u b) :
    Calls Try.prog 27 #[v, u] w fun e w2 => ∃ v2 F, e = .returned v2 ∧ OwnSl (slO intO) w2 v2 (ovMat a b) F ∧ NewF w F ∧ Ext w w2 := by
  obtain ⟨A, cap, rfl, hm⟩ := h.form
  obtain ⟨B, cap2, rfl, hm2⟩ := h2.form
  by_cases hbig : 8 < a.length ∨ 8 < b.length
  · have hov : ovMat a b = [] := by unfold ovMat; rw [if_pos hbig]
    rw [hov]
    clear hov
    have hd : OwnSl (slO intO) w (.slice none 0 0) [] [] := .inl ⟨rfl, rfl, none, 0, rfl, Nat.zero_le _⟩
    by_cases ha : 8 < a.length
    · go_enter Try.func27, Try.ntmps27
      go_wp2
      go_ret
      first | exact ⟨_, [], rfl, hd, .nil _, (by repeat (first | with_reducible exact Ext.refl _ | with_reducible assumption | with_reducible refine Ext.drew ?_ | with_reducible refine Ext.alloc ?_ _ | with_reducible refine Ext.trans ?_ (by with_reducible assumption)))⟩ | exact ⟨_, rfl, [], hd, .nil _, (by repeat (first | with_reducible exact Ext.refl _ | with_reducible assumption | with_reducible refine Ext.drew ?_ | with_reducible refine Ext.alloc ?_ _ | with_reducible refine Ext.trans ?_ (by with_reducible assumption)))⟩
    · have hb : 8 < b.length := by omega
      go_enter Try.func27, Try.ntmps27
      go_wp2
      go_ret
      first | exact ⟨_, [], rfl, hd, .nil _, (by repeat (first | with_reducible exact Ext.refl _ | with_reducible assumption | with_reducible refine Ext.drew ?_ | with_reducible refine Ext.alloc ?_ _ | with_reducible refine Ext.trans ?_ (by with_reducible assumption)))⟩ | exact ⟨_, rfl, [], hd, .nil _, (by repeat (first | with_reducible exact Ext.refl _ | with_reducible assumption | with_reducible refine Ext.drew ?_ | with_reducible refine Ext.alloc ?_ _ | with_reducible refine Ext.trans ?_ (by with_reducible assumption)))⟩
  · have hov : ovMat a b = a.map (ovRow b) := by unfold ovMat; rw [if_neg hbig]
    rw [hov]
    clear hov
    have ha : ¬ 8 < a.length := by omega
    have hb : ¬ 8 < b.length := by omega
    clear hbig
    go_enter Try.func27, Try.ntmps27
    go_wp2_with fail
    refine (impl_overlapMatrix _ _ a b _ h h2 (by omega) (by omega)).mono ?_
    rintro e w2 ⟨v2, F, rfl, ho, hn, hx⟩
    go_wp2
    go_ret
    exact ⟨_, F, rfl, ho, hn, hx⟩
end Go.Proofs.Ytenfgmpndpgbhaa
