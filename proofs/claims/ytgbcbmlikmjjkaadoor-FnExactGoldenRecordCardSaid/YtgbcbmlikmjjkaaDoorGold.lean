/-
  WALKS: support, FieldSupport, rank, GoldenField (both).
-/
import Derived.Test.YtgbcbmlikmjjkaaDoorSrc
import Derived.Test.YtgbcbmlikmjjkaaDoorNormX
namespace Go.Proofs.YtgbcbmlikmjjkaaDoor
open Go.RowKit

open Classical in
/-- how many records have the value? -/
noncomputable def supC (f : Nat) (s : ByteArray) (xs : List Record) : Nat := xs.foldl (fun n r => if normS (fldAt f r) = normS s then n + 1 else n) 0
theorem supC_yes (f : Nat) (s : ByteArray) (xs : List Record) (k : Nat) (h : k < xs.length) (e : normS (fldAt f xs[k]) = normS s) : supC f s (xs.take (k + 1)) = supC f s (xs.take k) + 1 := by
  unfold supC
  rw [List.take_succ_eq_append_getElem h, List.foldl_append]
  simp only [List.foldl_cons, List.foldl_nil]
  rw [if_pos e]
theorem supC_no (f : Nat) (s : ByteArray) (xs : List Record) (k : Nat) (h : k < xs.length) (e : ¬ normS (fldAt f xs[k]) = normS s) : supC f s (xs.take (k + 1)) = supC f s (xs.take k) := by
  unfold supC
  rw [List.take_succ_eq_append_getElem h, List.foldl_append]
  simp only [List.foldl_cons, List.foldl_nil]
  rw [if_neg e]
open Classical in
noncomputable def fsupN (xs : List Record) (f : Int) (s : ByteArray) : Int := if goodRecs xs = true ∧ inB f 0 3 = true then ((supC f.toNat s xs : Nat) : Int) else 0
theorem fsupN_yes {xs : List Record} {f : Int} {s : ByteArray} (h : goodRecs xs = true) (k : inB f 0 3 = true) : fsupN xs f s = (supC f.toNat s xs : Nat) := by unfold fsupN; rw [if_pos ⟨h, k⟩]
theorem fsupN_no {xs : List Record} {f : Int} {s : ByteArray} (h : ¬ (goodRecs xs = true ∧ inB f 0 3 = true)) : fsupN xs f s = 0 := by unfold fsupN; rw [if_neg h]
theorem goldRecs_ok (xs : List Record) : ∀ r ∈ goldRecs xs, okRec r = true := fun r hr => by
  unfold goldRecs at hr
  split at hr
  · rename_i hg; exact goodRecs_at hg hr
  · cases hr
theorem goldRecs_len (xs : List Record) : (goldRecs xs).length ≤ 12 := by
  unfold goldRecs
  split
  · rename_i hg; exact goodRecs_len hg
  · exact Nat.zero_le _

set_option maxHeartbeats 400000 in
set_option maxRecDepth 20000 in
theorem impl_support (v : Value) (xs : List Record) (q : Nat) (s : ByteArray) (w : World) (h : Sl recordR w v xs) (hg : ∀ r ∈ xs, okRec r = true) (hl : xs.length ≤ 12) (hq : q ≤ 3) (hs : s.size ≤ 1073741824) (M : ML w) :
    Calls Tryd.prog 88 #[v, .int .i64 (q : Nat), .string s] w fun e w2 => e = .returned (.int .i64 (supC q s xs : Nat)) ∧ Ext w w2 := by
  obtain ⟨A, cap, rfl, hm⟩ := h.form
  have HOK := hid hg
  clear hg
  go_enter Tryd.func88, Tryd.ntmps88
  go_wp2
  go_loopw [7, 12] (fun c i wr => ∃ (k n : Nat), k ≤ xs.length ∧ i = .int .i64 k ∧ c = .int .i64 n ∧ n ≤ k ∧ n = supC q s (xs.take k) ∧ Ext w wr) (fun _ i _ => xs.length - (intOf i).toNat)
  case atStart => exact ⟨0, 0, Nat.zero_le _, rfl, rfl, Nat.le_refl _, rfl, Ext.refl _⟩
  case round =>
    obtain ⟨k, n, hk, rfl, rfl, hn, hb, hx⟩ := hrel
    have HBB := hid hb
    clear hb
    by_cases hlt : k < xs.length
    · obtain ⟨b1, off, A2, cap2, rfl, hok, hsl, hd0, hd1, hd2, hd3⟩ := h.record hlt
      have hc0 := hx.cell hd0
      have hc1 := hx.cell hd1
      have hc2 := hx.cell hd2
      have hc3 := hx.cell hd3
      clear hd0 hd1 hd2 hd3
      have hq4 : q < xs[k].fields.length := by have := okRec_len (HOK.out _ (List.getElem_mem hlt)); omega
      obtain ⟨b2, off2, e2, hf1, hf2⟩ := hsl.str hq4
      subst e2
      have hfe := hid (fldAt_eq hq4)
      have hsz : xs[k].fields[q].size ≤ 40 := okRec_F (HOK.out _ (List.getElem_mem hlt)) _ (List.getElem_mem hq4)
      have hX : Ext wr (wr.alloc (.cells #[.int .i64 xs[k].source, .int .i64 xs[k].key, .int .i64 xs[k].version, .slice (some ⟨b2, off2, none⟩) xs[k].fields.length cap2] 38)) := (Ext.refl _).alloc _
      have hf3 := (hx.trans hX).cell hf2
      have hM := M.mono (hx.trans hX)
      have HX := hid (hx.trans hX)
      clear hf2 hX hok hsl
      go_wp2_with fail
      refine (impl_Normalize _ _ (by omega) hM).mono ?_
      rintro e w4 ⟨rfl, x4⟩
      go_wp2_with fail
      refine (impl_Normalize _ _ (by omega) (hM.mono x4)).mono ?_
      rintro e w5 ⟨rfl, x5⟩
      by_cases he : normS (fldAt q xs[k]) = normS s
      · have he' : ((normS xs[k].fields[q]).toList == (normS s).toList) = true := str_eq (hfe.out ▸ he)
        have hnew := hid (supC_yes q s xs k hlt he)
        clear he
        go_wp2
        go_roundw
        case rel => exact ⟨k + 1, n + 1, by omega, by go_num, by go_num, by omega, by rw [hnew.out, ← HBB.out], HX.out.trans (x4.trans x5)⟩
        case measure => simp [intOf]; omega
      · have he' : ((normS xs[k].fields[q]).toList == (normS s).toList) = false := str_ne (hfe.out ▸ he)
        have hnew := hid (supC_no q s xs k hlt he)
        clear he
        go_wp2
        go_roundw
        case rel => exact ⟨k + 1, n, by omega, by go_num, rfl, by omega, by rw [hnew.out, ← HBB.out], HX.out.trans (x4.trans x5)⟩
        case measure => simp [intOf]; omega
    · rw [List.take_of_length_le (by omega)] at HBB
      go_wp2
      go_ret
      exact ⟨by rw [← HBB.out]; rfl, (by repeat (first | with_reducible exact Ext.refl _ | with_reducible assumption | with_reducible refine Ext.drew ?_ | with_reducible refine Ext.alloc ?_ _ | with_reducible refine Ext.trans ?_ (by with_reducible assumption)))⟩

set_option maxHeartbeats 400000 in
theorem impl_FieldSupport (v : Value) (xs : List Record) (f : Int) (s : ByteArray) (w : World) (h : Sl recordR w v xs) (_hf : I64 f) (hs : s.size ≤ 1073741824) (M : ML w) :
    Calls Tryd.prog 35 #[v, .int .i64 f, .string s] w fun e w2 => e = .returned (.int .i64 (fsupN xs f s)) ∧ Ext w w2 := by
  cases hin : inB f 0 3 with
  | false =>
    have HN := hid (fsupN_no (xs := xs) (f := f) (s := s) (by simp [hin]))
    go_enter Tryd.func35, Tryd.ntmps35
    go_wp2_with fail
    refine (impl_isFieldIndex _ _).mono ?_
    rintro e w2 ⟨rfl, rfl⟩
    rw [hin]
    clear hin
    go_wp2
    go_ret
    exact ⟨by rw [HN.out]; rfl, (by repeat (first | with_reducible exact Ext.refl _ | with_reducible assumption | with_reducible refine Ext.drew ?_ | with_reducible refine Ext.alloc ?_ _ | with_reducible refine Ext.trans ?_ (by with_reducible assumption)))⟩
  | true =>
    obtain ⟨q, rfl, hq⟩ : ∃ q : Nat, f = q ∧ q ≤ 3 := by
      unfold inB at hin
      simp only [decide_eq_true_eq] at hin
      exact ⟨f.toNat, by omega, by omega⟩
    have HIN := hid hin
    go_enter Tryd.func35, Tryd.ntmps35
    go_wp2_with fail
    refine (impl_isFieldIndex _ _).mono ?_
    rintro e w2 ⟨rfl, rfl⟩
    rw [hin]
    clear hin
    go_wp2_with fail
    refine (impl_goldenRecords _ xs _ h).mono ?_
    rintro e w3 ⟨gv, rfl, hgv0, x3⟩
    have hgv := hgv0.sl (h.mono x3)
    go_wp2_with fail
    refine (impl_support _ (goldRecs xs) q s _ hgv (goldRecs_ok xs) (goldRecs_len xs) hq hs (M.mono x3)).mono ?_
    rintro e w4 ⟨rfl, x4⟩
    have HN := hid (show fsupN xs q s = (supC q s (goldRecs xs) : Nat) by
      by_cases hg : goodRecs xs = true
      · rw [fsupN_yes hg HIN.out]
        unfold goldRecs
        rw [if_pos hg]; rfl
      · rw [fsupN_no (fun h => hg h.1)]
        unfold goldRecs
        rw [if_neg hg]; rfl)
    go_wp2
    go_ret
    exact ⟨by rw [HN.out]; rfl, (by repeat (first | with_reducible exact Ext.refl _ | with_reducible assumption | with_reducible refine Ext.drew ?_ | with_reducible refine Ext.alloc ?_ _ | with_reducible refine Ext.trans ?_ (by with_reducible assumption)))⟩

set_option maxHeartbeats 400000 in
set_option maxRecDepth 20000 in
theorem spec_FieldSupport (v : Value) (xs : List Record) (f : Int) (s : ByteArray) (w : World) (h : Sl recordR w v xs) (_hf : I64 f) (hs : s.size ≤ 1073741824) :
    Calls Tryd.prog 34 #[v, .int .i64 f, .string s] w fun e w2 => e = .returned (.int .i64 (fsupN xs f s)) ∧ Ext w w2 := by
  obtain ⟨A, cap, rfl, hm⟩ := h.form
  go_enter Tryd.func34, Tryd.ntmps34
  go_wp2
  go_loopw [7, 8] (fun c i wr => ∃ (k n : Nat), k ≤ xs.length ∧ i = .int .i64 k ∧ c = .int .i64 n ∧ n ≤ k ∧ (0 < k → goodRecs xs = true ∧ inB f 0 3 = true) ∧ n = supC f.toNat s (xs.take k) ∧ Ext w wr) (fun _ i _ => xs.length - (intOf i).toNat)
  case atStart => exact ⟨0, 0, Nat.zero_le _, rfl, rfl, Nat.le_refl _, fun h => absurd h (Nat.lt_irrefl _), rfl, Ext.refl _⟩
  case round =>
    obtain ⟨k, n, hk, rfl, rfl, hn, hp, hb, hx⟩ := hrel
    have HBB := hid hb
    have HP := hid hp
    clear hb hp
    by_cases hlt : k < xs.length
    · go_wp2_with fail
      refine (spec_l13Good _ xs _ (h.mono hx)).mono ?_
      rintro e w3 ⟨rfl, x3⟩
      have hend : ¬ (goodRecs xs = true ∧ inB f 0 3 = true) → n = 0 ∧ fsupN xs f s = 0 := fun hn => by
        have hk0 : k = 0 := by
          rcases Nat.eq_zero_or_pos k with h | h
          · exact h
          · exact absurd (HP.out h) hn
        refine ⟨?_, fsupN_no hn⟩
        rw [HBB.out, hk0]; rfl
      have HEND := hid hend
      clear hend
      cases hg : goodRecs xs with
      | false =>
        obtain ⟨rfl, hN⟩ := HEND.out (by simp [hg])
        have HN := hid hN
        clear hN hg
        go_wp2
        go_ret
        exact ⟨by rw [HN.out]; rfl, (by repeat (first | with_reducible exact Ext.refl _ | with_reducible assumption | with_reducible refine Ext.drew ?_ | with_reducible refine Ext.alloc ?_ _ | with_reducible refine Ext.trans ?_ (by with_reducible assumption)))⟩
      | true =>
        have HG := hid hg
        have hl12 := goodRecs_len hg
        clear hg
        go_wp2_with fail
        refine (spec_l1In _ _ _ _).mono ?_
        rintro e w4 ⟨rfl, rfl⟩
        cases hin : inB f 0 3 with
        | false =>
          obtain ⟨rfl, hN⟩ := HEND.out (by simp [hin])
          have HN := hid hN
          clear hN hin
          go_wp2
          go_ret
          exact ⟨by rw [HN.out]; rfl, (by repeat (first | with_reducible exact Ext.refl _ | with_reducible assumption | with_reducible refine Ext.drew ?_ | with_reducible refine Ext.alloc ?_ _ | with_reducible refine Ext.trans ?_ (by with_reducible assumption)))⟩
        | true =>
          obtain ⟨q, rfl, hq⟩ : ∃ q : Nat, f = q ∧ q ≤ 3 := by
            unfold inB at hin
            simp only [decide_eq_true_eq] at hin
            exact ⟨f.toNat, by omega, by omega⟩
          have HIN := hid hin
          clear hin HEND
          obtain ⟨b1, off, A2, cap2, rfl, hok, hsl, hd0, hd1, hd2, hd3⟩ := h.record hlt
          have hq4 : q < xs[k].fields.length := by have := okRec_len (goodRecs_at HG.out (List.getElem_mem hlt)); omega
          have hsz : xs[k].fields[q].size ≤ 40 := okRec_F (goodRecs_at HG.out (List.getElem_mem hlt)) _ (List.getElem_mem hq4)
          obtain ⟨b2, off2, rfl, hf1, hf2⟩ := hsl.str hq4
          have hfe := hid (fldAt_eq hq4)
          have hy := hx.trans x3
          have z3 := hy.cell hd3
          have z4 := hy.cell hf2
          clear hd0 hd1 hd2 hd3 hf2 hok hsl
          go_wp2_with fail
          refine (spec_Normalize _ _ (by omega)).mono ?_
          rintro e w5 ⟨rfl, x5⟩
          go_wp2_with fail
          refine (spec_Normalize _ _ (by omega)).mono ?_
          rintro e w6 ⟨rfl, x6⟩
          by_cases he : normS (fldAt q xs[k]) = normS s
          · have he' : ((normS xs[k].fields[q]).toList == (normS s).toList) = true := str_eq (hfe.out ▸ he)
            have hnew := hid (supC_yes q s xs k hlt he)
            clear he
            go_wp2
            go_roundw
            case rel => exact ⟨k + 1, n + 1, by omega, by go_num, by go_num, by omega, fun _ => ⟨HG.out, HIN.out⟩, by rw [show (q : Int).toNat = q from rfl, hnew.out]; rw [HBB.out]; rfl, hy.trans (x5.trans x6)⟩
            case measure => simp [intOf]; omega
          · have he' : ((normS xs[k].fields[q]).toList == (normS s).toList) = false := str_ne (hfe.out ▸ he)
            have hnew := hid (supC_no q s xs k hlt he)
            clear he
            go_wp2
            go_roundw
            case rel => exact ⟨k + 1, n, by omega, by go_num, rfl, by omega, fun _ => ⟨HG.out, HIN.out⟩, by rw [show (q : Int).toNat = q from rfl, hnew.out]; rw [HBB.out]; rfl, hy.trans (x5.trans x6)⟩
            case measure => simp [intOf]; omega
    · rw [List.take_of_length_le (by omega)] at HBB
      have hN : fsupN xs f s = (n : Nat) := by
        by_cases hc : goodRecs xs = true ∧ inB f 0 3 = true
        · rw [fsupN_yes hc.1 hc.2, HBB.out]
        · rw [fsupN_no hc, HBB.out]
          rcases Nat.eq_zero_or_pos k with h0 | h0
          · have : xs = [] := List.eq_nil_of_length_eq_zero (by omega)
            rw [this]; rfl
          · exact absurd (HP.out h0) hc
      have HN := hid hN
      clear hN
      go_wp2
      go_ret
      exact ⟨by rw [HN.out]; rfl, (by repeat (first | with_reducible exact Ext.refl _ | with_reducible assumption | with_reducible refine Ext.drew ?_ | with_reducible refine Ext.alloc ?_ _ | with_reducible refine Ext.trans ?_ (by with_reducible assumption)))⟩
end Go.Proofs.YtgbcbmlikmjjkaaDoor
