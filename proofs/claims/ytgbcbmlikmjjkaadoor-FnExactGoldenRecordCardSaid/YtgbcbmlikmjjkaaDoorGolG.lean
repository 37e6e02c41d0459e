/-
  WALKS: GoldenField (both).
-/
import Derived.Test.YtgbcbmlikmjjkaaDoorGolF
import Derived.Test.YtgbcbmlikmjjkaaDoorSurv
namespace Go.Proofs.YtgbcbmlikmjjkaaDoor
open Go.RowKit

set_option maxHeartbeats 400000 in
set_option maxRecDepth 20000 in
theorem impl_GoldenField (v : Value) (xs : List Record) (f rule : Int) (w : World) (h : Sl recordR w v xs) (_hf : I64 f) (_hr : I64 rule) (M : ML w) :
    Calls Tryd.prog 39 #[v, .int .i64 f, .int .i64 rule] w fun e w2 => e = .returned (.string (gfN xs f rule)) ∧ Ext w w2 := by
  cases hin : inB f 0 3 with
  | false =>
    have HN := hid (gfN_no (xs := xs) (f := f) (rule := rule) (by simp [hin]))
    go_enter Tryd.func39, Tryd.ntmps39
    go_wp2_with fail
    refine (impl_isFieldIndex _ _).mono ?_
    rintro e w2 ⟨rfl, rfl⟩
    rw [hin]
    clear hin
    go_wp2
    go_ret
    exact ⟨by rw [HN.out]; rfl, (by repeat (first | with_reducible exact Ext.refl _ | with_reducible assumption | with_reducible refine Ext.drew ?_ | with_reducible refine Ext.alloc ?_ _ | with_reducible refine Ext.trans ?_ (by with_reducible assumption)))⟩
  | true =>
    obtain ⟨q, rfl, hq⟩ : ∃ q : Nat, f = q ∧ q ≤ 3 := by
      have := inB_cases hin
      exact ⟨f.toNat, by omega, by omega⟩
    have HIN := hid hin
    go_enter Tryd.func39, Tryd.ntmps39
    go_wp2_with fail
    refine (impl_isFieldIndex _ _).mono ?_
    rintro e w2 ⟨rfl, rfl⟩
    rw [hin]
    clear hin
    go_wp2_with fail
    refine (impl_isSurvivorRule _ _).mono ?_
    rintro e w2 ⟨rfl, rfl⟩
    cases hru : inB rule 1 4 with
    | false =>
      have HN := hid (gfN_no (xs := xs) (f := (q : Nat)) (rule := rule) (by simp [hru]))
      clear hru
      go_wp2
      go_ret
      exact ⟨by rw [HN.out]; rfl, (by repeat (first | with_reducible exact Ext.refl _ | with_reducible assumption | with_reducible refine Ext.drew ?_ | with_reducible refine Ext.alloc ?_ _ | with_reducible refine Ext.trans ?_ (by with_reducible assumption)))⟩
    | true =>
      have HRU := hid hru
      clear hru
      go_wp2_with fail
      refine (impl_goldenRecords _ xs _ h).mono ?_
      rintro e w3 ⟨gv, rfl, hgv0, x3⟩
      have hgv := hgv0.sl (h.mono x3)
      clear hgv0
      obtain ⟨A3, cap3, rfl, hm3⟩ := hgv.form
      have HOK := hid (goldRecs_ok xs)
      have hgl := goldRecs_len xs
      have HN := hid (show gfN xs q rule = (gfF (goldRecs xs) q rule (goldRecs xs)).1 by
        by_cases hg : goodRecs xs = true
        · rw [gfN_yes hg HIN.out HRU.out]
          unfold goldRecs
          rw [if_pos hg]; rfl
        · rw [gfN_no (fun h => hg h.1)]
          unfold goldRecs
          rw [if_neg hg]; rfl)
      go_wp2
      go_loopw [7, 8, 25] (fun c m i wr => ∃ (k : Nat) (s : ByteArray) (n : Int), k ≤ (goldRecs xs).length ∧ i = .int .i64 k ∧ c = .string s ∧ m = .int .i64 n ∧ (-1 ≤ n ∧ n ≤ 1000) ∧ gfF (goldRecs xs) q rule ((goldRecs xs).take k) = (s, n) ∧ Ext w3 wr) (fun _ _ i _ => (goldRecs xs).length - (intOf i).toNat)
      case atStart => exact ⟨0, ⟨#[]⟩, -1, Nat.zero_le _, rfl, rfl, rfl, by omega, rfl, Ext.refl _⟩
      case round =>
        obtain ⟨k, s, n, hk, rfl, rfl, rfl, hn, hb, hx⟩ := hrel
        have HBB := hid hb
        clear hb
        by_cases hlt : k < (goldRecs xs).length
        · obtain ⟨b1, off, A2, cap2, rfl, hok, hsl, hd0, hd1, hd2, hd3⟩ := hgv.record hlt
          have hc0 := hx.cell hd0
          have hc1 := hx.cell hd1
          have hc2 := hx.cell hd2
          have hc3 := hx.cell hd3
          clear hd0 hd1 hd2 hd3
          have hor := HOK.out _ (List.getElem_mem hlt)
          have hq4 : q < (goldRecs xs)[k].fields.length := by have := okRec_len hor; omega
          obtain ⟨b2, off2, e2, hf1, hf2⟩ := hsl.str hq4
          subst e2
          have hfe := hid (fldAt_eq hq4)
          have hsz : (goldRecs xs)[k].fields[q].size ≤ 40 := okRec_F hor _ (List.getElem_mem hq4)
          have hX : Ext wr (wr.alloc (.cells #[.int .i64 (goldRecs xs)[k].source, .int .i64 (goldRecs xs)[k].key, .int .i64 (goldRecs xs)[k].version, .slice (some ⟨b2, off2, none⟩) (goldRecs xs)[k].fields.length cap2] 38)) := (Ext.refl _).alloc _
          have hf3 := (hx.trans hX).cell hf2
          have hM := M.mono (x3.trans (hx.trans hX))
          have HX := hid (hx.trans hX)
          have hstep := hid (gfF_step (goldRecs xs) q rule (goldRecs xs) k hlt)
          have HR := hid (show RecAt w3 _ (goldRecs xs)[k] from ⟨_, rfl, hok, hsl⟩)
          have HOR := hid hor
          clear hf2 hX hok hsl hor
          go_wp2_with fail
          refine (impl_Normalize _ _ (by omega) hM).mono ?_
          rintro e w4 ⟨rfl, x4⟩
          rw [← hfe.out]
          by_cases he : normS (fldAt q (goldRecs xs)[k]) = ⟨#[]⟩
          · obtain ⟨f1, f5⟩ := emp_yes he
            have hnew := hid (show gfF (goldRecs xs) q rule ((goldRecs xs).take (k + 1)) = (s, n) by rw [hstep.out, HBB.out, gf_skip he])
            clear he
            go_wp2
            go_roundw
            case rel => exact ⟨k + 1, _, _, by omega, by go_num, rfl, rfl, hn, hnew.out, HX.out.trans x4⟩
            case measure => simp [intOf]; omega
          · obtain ⟨f1, f5⟩ := emp_no he
            have HE := hid he
            have c0 := x4.box.1 0
            have c1 := x4.box.1 1
            have c2 := x4.box.1 2
            have c3 := x4.box.1 3
            simp only [List.getElem?_toArray, List.getElem?_cons_zero, List.getElem?_cons_succ] at c0 c1 c2 c3
            clear he
            go_wp2_with fail
            refine (impl_rank _ _ (goldRecs xs) (goldRecs xs)[k] q rule _ (hgv.mono (HX.out.trans x4)) (HR.out.mono (HX.out.trans x4)) HOK.out hgl HOR.out hq HRU.out (hM.mono x4)).mono ?_
            rintro e w5 ⟨rfl, x5⟩
            have hrb := rkN_64 (goldRecs xs) q rule (goldRecs xs)[k] HOR.out hq hgl
            obtain ⟨p, hp⟩ : ∃ p, rkN (goldRecs xs) q rule (goldRecs xs)[k] = p := ⟨_, rfl⟩
            rw [hp] at hrb ⊢
            have HP := hid hp
            clear hp
            by_cases hgt : n < p
            · have hnew := hid (show gfF (goldRecs xs) q rule ((goldRecs xs).take (k + 1)) = (fldAt q (goldRecs xs)[k], p) by rw [hstep.out, HBB.out, gf_more HE.out (by rw [HP.out]; exact hgt), HP.out])
              go_wp2
              go_roundw
              case rel => exact ⟨k + 1, _, _, by omega, by go_num, rfl, rfl, by omega, hnew.out, HX.out.trans (x4.trans x5)⟩
              case measure => simp [intOf]; omega
            · by_cases heq : p = n
              · cases hbl : Op.bytesLess (fldAt q (goldRecs xs)[k]).toList s.toList with
                | true =>
                  have hnew := hid (show gfF (goldRecs xs) q rule ((goldRecs xs).take (k + 1)) = (fldAt q (goldRecs xs)[k], p) by rw [hstep.out, HBB.out, gf_less HE.out (by rw [HP.out]; exact heq) hbl, HP.out])
                  have h9 : (p == n) = true := by simpa using heq
                  have HQ := hid heq
                  clear heq
                  go_wp2
                  go_roundw
                  case rel => exact ⟨k + 1, _, _, by omega, by go_num, rfl, rfl, by omega, hnew.out, HX.out.trans (x4.trans x5)⟩
                  case measure => simp [intOf]; omega
                | false =>
                  have hnew := hid (show gfF (goldRecs xs) q rule ((goldRecs xs).take (k + 1)) = (s, n) by rw [hstep.out, HBB.out, gf_keep (by rw [HP.out]; exact hgt) (by rw [hbl]; simp)])
                  have h9 : (p == n) = true := by simpa using heq
                  have HQ := hid heq
                  clear heq
                  go_wp2
                  go_roundw
                  case rel => exact ⟨k + 1, _, _, by omega, by go_num, rfl, rfl, hn, hnew.out, HX.out.trans (x4.trans x5)⟩
                  case measure => simp [intOf]; omega
              · have hnew := hid (show gfF (goldRecs xs) q rule ((goldRecs xs).take (k + 1)) = (s, n) by rw [hstep.out, HBB.out, gf_keep (by rw [HP.out]; exact hgt) (by rw [HP.out]; simp [heq])])
                have h9 : (p == n) = false := by simpa using heq
                go_wp2
                go_roundw
                case rel => exact ⟨k + 1, _, _, by omega, by go_num, rfl, rfl, hn, hnew.out, HX.out.trans (x4.trans x5)⟩
                case measure => simp [intOf]; omega
        · rw [List.take_of_length_le (by omega)] at HBB
          have HF := hid (show gfN xs q rule = s by rw [HN.out, HBB.out])
          go_wp2
          go_ret
          exact ⟨by rw [HF.out]; rfl, x3.trans hx⟩

set_option maxHeartbeats 400000 in
set_option maxRecDepth 20000 in
theorem spec_GoldenField (v : Value) (xs : List Record) (f rule : Int) (w : World) (h : Sl recordR w v xs) (_hf : I64 f) (_hr : I64 rule) :
    Calls Tryd.prog 38 #[v, .int .i64 f, .int .i64 rule] w fun e w2 => e = .returned (.string (gfN xs f rule)) ∧ Ext w w2 := by
  obtain ⟨A, cap, rfl, hm⟩ := h.form
  go_enter Tryd.func38, Tryd.ntmps38
  go_wp2_with fail
  refine (spec_l13Good _ xs _ h).mono ?_
  rintro e w3 ⟨rfl, x3⟩
  cases hg : goodRecs xs with
  | false =>
    have HN := hid (gfN_no (xs := xs) (f := f) (rule := rule) (by simp [hg]))
    clear hg
    go_wp2
    go_ret
    exact ⟨by rw [HN.out]; rfl, (by repeat (first | with_reducible exact Ext.refl _ | with_reducible assumption | with_reducible refine Ext.drew ?_ | with_reducible refine Ext.alloc ?_ _ | with_reducible refine Ext.trans ?_ (by with_reducible assumption)))⟩
  | true =>
    have HG := hid hg
    have hl := goodRecs_len hg
    clear hg
    go_wp2_with fail
    refine (spec_l1In _ _ _ _).mono ?_
    rintro e w4 ⟨rfl, rfl⟩
    cases hin : inB f 0 3 with
    | false =>
      have HN := hid (gfN_no (xs := xs) (f := f) (rule := rule) (by simp [hin]))
      clear hin
      go_wp2
      go_ret
      exact ⟨by rw [HN.out]; rfl, (by repeat (first | with_reducible exact Ext.refl _ | with_reducible assumption | with_reducible refine Ext.drew ?_ | with_reducible refine Ext.alloc ?_ _ | with_reducible refine Ext.trans ?_ (by with_reducible assumption)))⟩
    | true =>
      obtain ⟨q, rfl, hq⟩ : ∃ q : Nat, f = q ∧ q ≤ 3 := by
        have := inB_cases hin
        exact ⟨f.toNat, by omega, by omega⟩
      have HIN := hid hin
      clear hin
      go_wp2_with fail
      refine (spec_l1In _ _ _ _).mono ?_
      rintro e w4 ⟨rfl, rfl⟩
      cases hru : inB rule 1 4 with
      | false =>
        have HN := hid (gfN_no (xs := xs) (f := (q : Nat)) (rule := rule) (by simp [hru]))
        clear hru
        go_wp2
        go_ret
        exact ⟨by rw [HN.out]; rfl, (by repeat (first | with_reducible exact Ext.refl _ | with_reducible assumption | with_reducible refine Ext.drew ?_ | with_reducible refine Ext.alloc ?_ _ | with_reducible refine Ext.trans ?_ (by with_reducible assumption)))⟩
      | true =>
        have HRU := hid hru
        clear hru
        have HN := hid (gfN_yes HG.out HIN.out HRU.out)
        go_wp2
        go_loopw [7, 8, 9] (fun c m i wr => ∃ (k : Nat) (s : ByteArray) (n : Int), k ≤ xs.length ∧ i = .int .i64 k ∧ c = .string s ∧ m = .int .i64 n ∧ (-1 ≤ n ∧ n ≤ 1000) ∧ gfF xs q rule (xs.take k) = (s, n) ∧ Ext w wr) (fun _ _ i _ => xs.length - (intOf i).toNat)
        case atStart => exact ⟨0, ⟨#[]⟩, -1, Nat.zero_le _, rfl, rfl, rfl, by omega, rfl, x3⟩
        case round =>
          obtain ⟨k, s, n, hk, rfl, rfl, rfl, hn, hb, hx⟩ := hrel
          have HBB := hid hb
          clear hb
          by_cases hlt : k < xs.length
          · obtain ⟨b1, off, A2, cap2, rfl, hok, hsl, hd0, hd1, hd2, hd3⟩ := h.record hlt
            have hc3 := hx.cell hd3
            clear hd0 hd1 hd2 hd3
            have hor := goodRecs_at HG.out (List.getElem_mem hlt)
            have hq4 : q < xs[k].fields.length := by have := okRec_len hor; omega
            obtain ⟨b2, off2, e2, hf1, hf2⟩ := hsl.str hq4
            subst e2
            have hfe := hid (fldAt_eq hq4)
            have hsz : xs[k].fields[q].size ≤ 40 := okRec_F hor _ (List.getElem_mem hq4)
            have hf3 := hx.cell hf2
            have hstep := hid (gfF_step xs q rule xs k hlt)
            have HOR := hid hor
            clear hf2 hok hsl hor
            go_wp2_with fail
            refine (spec_l27Rank _ xs k q rule _ (h.mono hx) hlt HG.out hq HRU.out).mono ?_
            rintro e w5 ⟨rfl, x5⟩
            have hrb := rkN_64 xs q rule xs[k] HOR.out hq hl
            obtain ⟨p, hp⟩ : ∃ p, rkN xs q rule xs[k] = p := ⟨_, rfl⟩
            rw [hp] at hrb ⊢
            have HP := hid hp
            clear hp
            go_wp2_with fail
            refine (spec_Normalize _ _ (by omega)).mono ?_
            rintro e w6 ⟨rfl, x6⟩
            rw [← hfe.out]
            by_cases he : normS (fldAt q xs[k]) = ⟨#[]⟩
            · obtain ⟨f1, f5⟩ := emp_yes he
              have hnew := hid (show gfF xs q rule (xs.take (k + 1)) = (s, n) by rw [hstep.out, HBB.out, gf_skip he])
              clear he
              go_wp2
              go_roundw
              case rel => exact ⟨k + 1, _, _, by omega, by go_num, rfl, rfl, hn, hnew.out, hx.trans (x5.trans x6)⟩
              case measure => simp [intOf]; omega
            · obtain ⟨f1, f5⟩ := emp_no he
              have HE := hid he
              clear he
              by_cases hgt : n < p
              · have hnew := hid (show gfF xs q rule (xs.take (k + 1)) = (fldAt q xs[k], p) by rw [hstep.out, HBB.out, gf_more HE.out (by rw [HP.out]; exact hgt), HP.out])
                go_wp2
                go_roundw
                case rel => exact ⟨k + 1, _, _, by omega, by go_num, rfl, rfl, by omega, hnew.out, hx.trans (x5.trans x6)⟩
                case measure => simp [intOf]; omega
              · by_cases heq : p = n
                · cases hbl : Op.bytesLess (fldAt q xs[k]).toList s.toList with
                  | true =>
                    have hnew := hid (show gfF xs q rule (xs.take (k + 1)) = (fldAt q xs[k], p) by rw [hstep.out, HBB.out, gf_less HE.out (by rw [HP.out]; exact heq) hbl, HP.out])
                    have h9 : (p == n) = true := by simpa using heq
                    have HQ := hid heq
                    clear heq
                    go_wp2
                    go_roundw
                    case rel => exact ⟨k + 1, _, _, by omega, by go_num, rfl, rfl, by omega, hnew.out, hx.trans (x5.trans x6)⟩
                    case measure => simp [intOf]; omega
                  | false =>
                    have hnew := hid (show gfF xs q rule (xs.take (k + 1)) = (s, n) by rw [hstep.out, HBB.out, gf_keep (by rw [HP.out]; exact hgt) (by rw [hbl]; simp)])
                    have h9 : (p == n) = true := by simpa using heq
                    have HQ := hid heq
                    clear heq
                    go_wp2
                    go_roundw
                    case rel => exact ⟨k + 1, _, _, by omega, by go_num, rfl, rfl, hn, hnew.out, hx.trans (x5.trans x6)⟩
                    case measure => simp [intOf]; omega
                · have hnew := hid (show gfF xs q rule (xs.take (k + 1)) = (s, n) by rw [hstep.out, HBB.out, gf_keep (by rw [HP.out]; exact hgt) (by rw [HP.out]; simp [heq])])
                  have h9 : (p == n) = false := by simpa using heq
                  go_wp2
                  go_roundw
                  case rel => exact ⟨k + 1, _, _, by omega, by go_num, rfl, rfl, hn, hnew.out, hx.trans (x5.trans x6)⟩
                  case measure => simp [intOf]; omega
          · rw [List.take_of_length_le (by omega)] at HBB
            have HF := hid (show gfN xs q rule = s by rw [HN.out, show ((q : Nat) : Int).toNat = q from rfl, HBB.out])
            go_wp2
            go_ret
            exact ⟨by rw [HF.out]; rfl, hx⟩
end Go.Proofs.YtgbcbmlikmjjkaaDoor
