/-
  WALKS: IsUnanimous (both).
-/
import Derived.Test.YtgbcbmlikmjjkaaDoorGold
namespace Go.Proofs.YtgbcbmlikmjjkaaDoor
open Go.RowKit

open Classical in
/-- one record more: the first value that is not empty; none: two differ -/
noncomputable def unStep (f : Nat) (b : Option ByteArray) (r : Record) : Option ByteArray :=
  match b with
  | none => none
  | some s => if normS (fldAt f r) ≠ ⟨#[]⟩ ∧ s ≠ ⟨#[]⟩ ∧ normS (fldAt f r) ≠ s then none else some (if s = ⟨#[]⟩ then normS (fldAt f r) else s)
noncomputable def unF (f : Nat) (xs : List Record) : Option ByteArray := xs.foldl (unStep f) (some ⟨#[]⟩)
theorem unF_step (f : Nat) (xs : List Record) (k : Nat) (h : k < xs.length) : unF f (xs.take (k + 1)) = unStep f (unF f (xs.take k)) xs[k] := by
  unfold unF
  rw [List.take_succ_eq_append_getElem h, List.foldl_append]; rfl
theorem un_none (f : Nat) (xs : List Record) : xs.foldl (unStep f) none = none := by
  induction xs with
  | nil => rfl
  | cons x xs ih => exact ih
theorem unF_stop (f : Nat) (xs : List Record) (k : Nat) (h : unF f (xs.take k) = none) : unF f xs = none := by
  unfold unF at h ⊢
  rw [← List.take_append_drop k xs, List.foldl_append, h, un_none]
theorem un_empty {f : Nat} {s : ByteArray} {r : Record} (h : normS (fldAt f r) = ⟨#[]⟩) : unStep f (some s) r = some s := by
  simp only [unStep]
  rw [if_neg (by simp [h])]
  by_cases e : s = ⟨#[]⟩
  · rw [if_pos e, h, e]
  · rw [if_neg e]
theorem un_first {f : Nat} {s : ByteArray} {r : Record} (h : s = ⟨#[]⟩) : unStep f (some s) r = some (normS (fldAt f r)) := by
  simp only [unStep]
  rw [if_neg (by simp [h]), if_pos h]
theorem un_same {f : Nat} {s : ByteArray} {r : Record} (h : normS (fldAt f r) = s) : unStep f (some s) r = some s := by
  simp only [unStep]
  rw [if_neg (by simp [h])]
  by_cases e : s = ⟨#[]⟩
  · rw [if_pos e, h]
  · rw [if_neg e]
theorem un_two {f : Nat} {s : ByteArray} {r : Record} (h : ¬ normS (fldAt f r) = ⟨#[]⟩) (k : ¬ s = ⟨#[]⟩) (m : ¬ normS (fldAt f r) = s) : unStep f (some s) r = none := by
  simp only [unStep]
  rw [if_pos ⟨h, k, m⟩]
noncomputable def unN (xs : List Record) (f : Int) : Bool := goodRecs xs && inB f 0 3 && (unF f.toNat xs).isSome
theorem unN_no {xs : List Record} {f : Int} (h : ¬ (goodRecs xs = true ∧ inB f 0 3 = true)) : unN xs f = false := by
  unfold unN
  cases hg : goodRecs xs with
  | false => rfl
  | true =>
    cases hi : inB f 0 3 with
    | false => rfl
    | true => exact absurd ⟨hg, hi⟩ h
theorem unN_some {xs : List Record} {q : Nat} {s : ByteArray} (h : goodRecs xs = true) (k : inB (q : Nat) 0 3 = true) (e : unF q xs = some s) : unN xs q = true := by
  unfold unN; rw [h, k, show (q : Int).toNat = q from rfl, e]; rfl
theorem unN_none {xs : List Record} {q : Nat} (e : unF q xs = none) : unN xs q = false := by
  unfold unN; rw [show (q : Int).toNat = q from rfl, e]; simp
theorem nil_toList : (⟨#[]⟩ : ByteArray).toList = [] := by simp
theorem emp_yes {a : ByteArray} (h : a = ⟨#[]⟩) : a.toList.isEmpty = true ∧ a.toList = [] := by
  have e : a.toList = [] := by rw [h]; exact nil_toList
  exact ⟨by rw [e]; rfl, e⟩
theorem emp_no {a : ByteArray} (h : ¬ a = ⟨#[]⟩) : a.toList.isEmpty = false ∧ ¬ a.toList = [] := by
  have h1 := str_ne h
  rw [nil_toList] at h1
  cases hl : a.toList with
  | nil => rw [hl] at h1; exact absurd h1 (by simp)
  | cons x l => exact ⟨rfl, List.cons_ne_nil _ _⟩

set_option maxHeartbeats 400000 in
set_option maxRecDepth 20000 in
theorem impl_IsUnanimous (v : Value) (xs : List Record) (f : Int) (w : World) (h : Sl recordR w v xs) (_hf : I64 f) (M : ML w) :
    Calls Tryd.prog 37 #[v, .int .i64 f] w fun e w2 => e = .returned (.bool (unN xs f)) ∧ Ext w w2 := by
  obtain ⟨A, cap, rfl, hm⟩ := h.form
  cases hin : inB f 0 3 with
  | false =>
    have HN := hid (unN_no (xs := xs) (f := f) (by simp [hin]))
    go_enter Tryd.func37, Tryd.ntmps37
    go_wp2_with fail
    refine (impl_isFieldIndex _ _).mono ?_
    rintro e w2 ⟨rfl, rfl⟩
    rw [hin]
    clear hin
    go_wp2
    go_ret
    exact ⟨by rw [HN.out]; rfl, (by repeat (first | with_reducible exact Ext.refl _ | with_reducible assumption | with_reducible refine Ext.drew ?_ | with_reducible refine Ext.alloc ?_ _ | with_reducible refine Ext.trans ?_ (by with_reducible assumption)))⟩
  | true =>
    obtain ⟨q, rfl, hq⟩ : ∃ q : Nat, f = q ∧ q ≤ 3 := by
      unfold inB at hin
      simp only [decide_eq_true_eq] at hin
      exact ⟨f.toNat, by omega, by omega⟩
    have HIN := hid hin
    go_enter Tryd.func37, Tryd.ntmps37
    go_wp2_with fail
    refine (impl_isFieldIndex _ _).mono ?_
    rintro e w2 ⟨rfl, rfl⟩
    rw [hin]
    clear hin
    by_cases hl : xs.length ≤ 12
    · go_wp2_with fail
      refine (impl_areRecords _ xs _ h).mono ?_
      rintro e w2 ⟨rfl, x2⟩
      cases ha : xs.all okRec with
      | false =>
        have HN := hid (unN_no (xs := xs) (f := (q : Nat)) (by unfold goodRecs; simp [ha]))
        clear ha
        go_wp2
        go_ret
        exact ⟨by rw [HN.out]; rfl, (by repeat (first | with_reducible exact Ext.refl _ | with_reducible assumption | with_reducible refine Ext.drew ?_ | with_reducible refine Ext.alloc ?_ _ | with_reducible refine Ext.trans ?_ (by with_reducible assumption)))⟩
      | true =>
        have HG := hid (show goodRecs xs = true by unfold goodRecs; simp [ha, hl])
        clear ha
        go_wp2
        go_loopw [5, 24] (fun c i wr => ∃ (k : Nat) (s : ByteArray), k ≤ xs.length ∧ i = .int .i64 k ∧ c = .string s ∧ unF q (xs.take k) = some s ∧ Ext w wr) (fun _ i _ => xs.length - (intOf i).toNat)
        case atStart => exact ⟨0, ⟨#[]⟩, Nat.zero_le _, rfl, rfl, rfl, x2⟩
        case round =>
          obtain ⟨k, s, hk, rfl, rfl, hb, hx⟩ := hrel
          have HBB := hid hb
          clear hb
          by_cases hlt : k < xs.length
          · obtain ⟨b1, off, A2, cap2, rfl, hok, hsl, hd0, hd1, hd2, hd3⟩ := h.record hlt
            have hc0 := hx.cell hd0
            have hc1 := hx.cell hd1
            have hc2 := hx.cell hd2
            have hc3 := hx.cell hd3
            clear hd0 hd1 hd2 hd3
            have hq4 : q < xs[k].fields.length := by have := okRec_len (goodRecs_at HG.out (List.getElem_mem hlt)); omega
            obtain ⟨b2, off2, e2, hf1, hf2⟩ := hsl.str hq4
            subst e2
            have hfe := hid (fldAt_eq hq4)
            have hsz : xs[k].fields[q].size ≤ 40 := okRec_F (goodRecs_at HG.out (List.getElem_mem hlt)) _ (List.getElem_mem hq4)
            have hX : Ext wr (wr.alloc (.cells #[.int .i64 xs[k].source, .int .i64 xs[k].key, .int .i64 xs[k].version, .slice (some ⟨b2, off2, none⟩) xs[k].fields.length cap2] 38)) := (Ext.refl _).alloc _
            have hf3 := (hx.trans hX).cell hf2
            have hM := M.mono (hx.trans hX)
            have HX := hid (hx.trans hX)
            have hstep := hid (unF_step q xs k hlt)
            clear hf2 hX hok hsl
            go_wp2_with fail
            refine (impl_Normalize _ _ (by omega) hM).mono ?_
            rintro e w4 ⟨rfl, x4⟩
            rw [← hfe.out]
            by_cases he : normS (fldAt q xs[k]) = ⟨#[]⟩
            · have hnew := hid (show unF q (xs.take (k + 1)) = some s by rw [hstep.out, HBB.out, un_empty he])
              obtain ⟨f1, f5⟩ := emp_yes he
              by_cases hs0 : s = ⟨#[]⟩
              · obtain ⟨f3, f6⟩ := emp_yes hs0
                have hnew2 := hid (show unF q (xs.take (k + 1)) = some (normS (fldAt q xs[k])) by rw [hnew.out, he, hs0])
                clear he hs0
                go_wp2
                go_roundw
                case rel => exact ⟨k + 1, _, by omega, by go_num, rfl, hnew2.out, HX.out.trans x4⟩
                case measure => simp [intOf]; omega
              · obtain ⟨f3, f6⟩ := emp_no hs0
                clear he hs0
                go_wp2
                go_roundw
                case rel => exact ⟨k + 1, _, by omega, by go_num, rfl, hnew.out, HX.out.trans x4⟩
                case measure => simp [intOf]; omega
            · obtain ⟨f1, f5⟩ := emp_no he
              by_cases hs0 : s = ⟨#[]⟩
              · obtain ⟨f3, f6⟩ := emp_yes hs0
                have hnew := hid (show unF q (xs.take (k + 1)) = some (normS (fldAt q xs[k])) by rw [hstep.out, HBB.out, un_first hs0])
                clear he hs0
                go_wp2
                go_roundw
                case rel => exact ⟨k + 1, _, by omega, by go_num, rfl, hnew.out, HX.out.trans x4⟩
                case measure => simp [intOf]; omega
              · obtain ⟨f3, f6⟩ := emp_no hs0
                by_cases hs : normS (fldAt q xs[k]) = s
                · have f4 := str_eq hs
                  have hnew := hid (show unF q (xs.take (k + 1)) = some s by rw [hstep.out, HBB.out, un_same hs])
                  clear he hs0 hs
                  go_wp2
                  go_roundw
                  case rel => exact ⟨k + 1, _, by omega, by go_num, rfl, hnew.out, HX.out.trans x4⟩
                  case measure => simp [intOf]; omega
                · have f4 := str_ne hs
                  have HN := hid (unN_none (unF_stop q xs (k + 1) (by rw [hstep.out, HBB.out, un_two he hs0 hs])))
                  clear he hs0 hs
                  go_wp2
                  go_ret
                  exact ⟨by rw [HN.out]; rfl, HX.out.trans x4⟩
          · rw [List.take_of_length_le (by omega)] at HBB
            have HN := hid (unN_some HG.out HIN.out HBB.out)
            go_wp2
            go_ret
            exact ⟨by rw [HN.out]; rfl, (by repeat (first | with_reducible exact Ext.refl _ | with_reducible assumption | with_reducible refine Ext.drew ?_ | with_reducible refine Ext.alloc ?_ _ | with_reducible refine Ext.trans ?_ (by with_reducible assumption)))⟩
    · have HN := hid (unN_no (xs := xs) (f := (q : Nat)) (by unfold goodRecs; simp [hl]))
      go_wp2
      go_ret
      exact ⟨by rw [HN.out]; rfl, (by repeat (first | with_reducible exact Ext.refl _ | with_reducible assumption | with_reducible refine Ext.drew ?_ | with_reducible refine Ext.alloc ?_ _ | with_reducible refine Ext.trans ?_ (by with_reducible assumption)))⟩

set_option maxHeartbeats 400000 in
set_option maxRecDepth 20000 in
theorem spec_IsUnanimous (v : Value) (xs : List Record) (f : Int) (w : World) (h : Sl recordR w v xs) (_hf : I64 f) :
    Calls Tryd.prog 36 #[v, .int .i64 f] w fun e w2 => e = .returned (.bool (unN xs f)) ∧ Ext w w2 := by
  obtain ⟨A, cap, rfl, hm⟩ := h.form
  go_enter Tryd.func36, Tryd.ntmps36
  go_wp2_with fail
  refine (spec_l13Good _ xs _ h).mono ?_
  rintro e w3 ⟨rfl, x3⟩
  cases hg : goodRecs xs with
  | false =>
    have HN := hid (unN_no (xs := xs) (f := f) (by simp [hg]))
    clear hg
    go_wp2
    go_ret
    exact ⟨by rw [HN.out]; rfl, (by repeat (first | with_reducible exact Ext.refl _ | with_reducible assumption | with_reducible refine Ext.drew ?_ | with_reducible refine Ext.alloc ?_ _ | with_reducible refine Ext.trans ?_ (by with_reducible assumption)))⟩
  | true =>
    have HG := hid hg
    have hl := goodRecs_len hg
    clear hg
    go_wp2_with fail
    refine (spec_l1In _ _ _ _).mono ?_
    rintro e w4 ⟨rfl, rfl⟩
    cases hin : inB f 0 3 with
    | false =>
      have HN := hid (unN_no (xs := xs) (f := f) (by simp [hin]))
      clear hin
      go_wp2
      go_ret
      exact ⟨by rw [HN.out]; rfl, (by repeat (first | with_reducible exact Ext.refl _ | with_reducible assumption | with_reducible refine Ext.drew ?_ | with_reducible refine Ext.alloc ?_ _ | with_reducible refine Ext.trans ?_ (by with_reducible assumption)))⟩
    | true =>
      obtain ⟨q, rfl, hq⟩ : ∃ q : Nat, f = q ∧ q ≤ 3 := by
        unfold inB at hin
        simp only [decide_eq_true_eq] at hin
        exact ⟨f.toNat, by omega, by omega⟩
      have HIN := hid hin
      clear hin
      go_wp2
      go_loopw [5, 6] (fun c i wr => ∃ (k : Nat) (s : ByteArray), k ≤ xs.length ∧ i = .int .i64 k ∧ c = .string s ∧ unF q (xs.take k) = some s ∧ Ext w wr) (fun _ i _ => xs.length - (intOf i).toNat)
      case atStart => exact ⟨0, ⟨#[]⟩, Nat.zero_le _, rfl, rfl, rfl, x3⟩
      case round =>
        obtain ⟨k, s, hk, rfl, rfl, hb, hx⟩ := hrel
        have HBB := hid hb
        clear hb
        by_cases hlt : k < xs.length
        · obtain ⟨b1, off, A2, cap2, rfl, hok, hsl, hd0, hd1, hd2, hd3⟩ := h.record hlt
          have hc3 := hx.cell hd3
          clear hd0 hd1 hd2 hd3
          have hq4 : q < xs[k].fields.length := by have := okRec_len (goodRecs_at HG.out (List.getElem_mem hlt)); omega
          obtain ⟨b2, off2, e2, hf1, hf2⟩ := hsl.str hq4
          subst e2
          have hfe := hid (fldAt_eq hq4)
          have hsz : xs[k].fields[q].size ≤ 40 := okRec_F (goodRecs_at HG.out (List.getElem_mem hlt)) _ (List.getElem_mem hq4)
          have hf3 := hx.cell hf2
          have hstep := hid (unF_step q xs k hlt)
          clear hf2 hok hsl
          go_wp2_with fail
          refine (spec_Normalize _ _ (by omega)).mono ?_
          rintro e w4 ⟨rfl, x4⟩
          rw [← hfe.out]
          by_cases he : normS (fldAt q xs[k]) = ⟨#[]⟩
          · have hnew := hid (show unF q (xs.take (k + 1)) = some s by rw [hstep.out, HBB.out, un_empty he])
            obtain ⟨f1, f5⟩ := emp_yes he
            clear he
            go_wp2
            go_roundw
            case rel => exact ⟨k + 1, _, by omega, by go_num, rfl, hnew.out, hx.trans x4⟩
            case measure => simp [intOf]; omega
          · obtain ⟨f1, f5⟩ := emp_no he
            by_cases hs0 : s = ⟨#[]⟩
            · obtain ⟨f3, f6⟩ := emp_yes hs0
              have hnew := hid (show unF q (xs.take (k + 1)) = some (normS (fldAt q xs[k])) by rw [hstep.out, HBB.out, un_first hs0])
              clear he hs0
              go_wp2
              go_roundw
              case rel => exact ⟨k + 1, _, by omega, by go_num, rfl, hnew.out, hx.trans x4⟩
              case measure => simp [intOf]; omega
            · obtain ⟨f3, f6⟩ := emp_no hs0
              by_cases hs : normS (fldAt q xs[k]) = s
              · have f4 := str_eq hs
                have hnew := hid (show unF q (xs.take (k + 1)) = some (normS (fldAt q xs[k])) by rw [hstep.out, HBB.out, un_same hs, hs])
                clear he hs0 hs
                go_wp2
                go_roundw
                case rel => exact ⟨k + 1, _, by omega, by go_num, rfl, hnew.out, hx.trans x4⟩
                case measure => simp [intOf]; omega
              · have f4 := str_ne hs
                have HN := hid (unN_none (unF_stop q xs (k + 1) (by rw [hstep.out, HBB.out, un_two he hs0 hs])))
                clear he hs0 hs
                go_wp2
                go_ret
                exact ⟨by rw [HN.out]; rfl, hx.trans x4⟩
        · rw [List.take_of_length_le (by omega)] at HBB
          have HN := hid (unN_some HG.out HIN.out HBB.out)
          go_wp2
          go_ret
          exact ⟨by rw [HN.out]; rfl, (by repeat (first | with_reducible exact Ext.refl _ | with_reducible assumption | with_reducible refine Ext.drew ?_ | with_reducible refine Ext.alloc ?_ _ | with_reducible refine Ext.trans ?_ (by with_reducible assumption)))⟩
end Go.Proofs.YtgbcbmlikmjjkaaDoor
