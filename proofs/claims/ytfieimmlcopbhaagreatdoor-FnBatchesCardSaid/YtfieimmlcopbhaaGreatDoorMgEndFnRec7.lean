/-
  WALKS: ParseInt (both), parseInts.
-/
import Derived.Test.YtfieimmlcopbhaaGreatDoorMgEndFnRec5
import Derived.Test.YtfieimmlcopbhaaGreatDoorMgEndFnRec0

namespace Go.Proofs.YtfieimmlcopbhaaGreatDoor
open Go.RowKit

theorem impl_ParseInt (s : ByteArray) (w : World) (hs : s.size ≤ 1048600) (N : Env w) :
    Calls Tryz.prog 46 #[.string s] w fun e w2 => e = .returned (.tuple #[.int .i64 (pI s).1, .bool (pI s).2]) ∧ Ext w w2 := by
  by_cases hok : ∃ v, Go.Lib.atoiAll s.data.toList = .ok v
  · obtain ⟨v, hv⟩ := hok
    have hI : I64 v := Go.Lib.atoiAll_bounds hv
    have HI := hid hI
    have HV := hid hv
    by_cases h1 : itoaS v = s
    · have hq := str_eq h1
      have hq2 : (itoaS v).toList = s.toList := by rw [h1]
      by_cases h2 : inB v (-999999999) 999999999 = true
      · have hp := hid (pI_hit (s := s) (n := v) ⟨by unfold inB at h2; exact of_decide_eq_true h2, h1⟩)
        have H1 := hid h1
        clear hv h1 hI
        go_enter Tryz.func46, Tryz.ntmps46
        go_wp2_with fail
        refine (strconv_Atoi_ok_c s v _ hs HV.out).mono ?_
        rintro e w2 ⟨rfl, x2⟩
        go_wp2_with fail
        refine (impl_FormatInt _ _ HI.out (N.T.mono x2)).mono ?_
        rintro e w3 ⟨rfl, x3⟩
        go_wp2_with fail
        refine (impl_within _ _ _ _).mono ?_
        rintro e w4 ⟨rfl, rfl⟩
        rw [h2]
        go_wp2
        refine bodyPost_ret (v := .tuple #[.int .i64 v, .bool true]) (by simp [results, Tryz.results46, go_sem]) rfl ?_
        exact ⟨by rw [hp.out], x2.trans x3⟩
      · have h2' : inB v (-999999999) 999999999 = false := by simpa using h2
        have hp := hid (pI_no (s := s) fun n hn => h2 (by
          have := hn.atoi.symm.trans hv
          injection this with this
          subst this
          unfold inB
          exact decide_eq_true hn.1))
        have H1 := hid h1
        clear hv h1 hI h2
        go_enter Tryz.func46, Tryz.ntmps46
        go_wp2_with fail
        refine (strconv_Atoi_ok_c s v _ hs HV.out).mono ?_
        rintro e w2 ⟨rfl, x2⟩
        go_wp2_with fail
        refine (impl_FormatInt _ _ HI.out (N.T.mono x2)).mono ?_
        rintro e w3 ⟨rfl, x3⟩
        go_wp2_with fail
        refine (impl_within _ _ _ _).mono ?_
        rintro e w4 ⟨rfl, rfl⟩
        rw [h2']
        go_wp2
        refine bodyPost_ret (v := .tuple #[.int .i64 0, .bool false]) (by simp [results, Tryz.results46, go_sem]) rfl ?_
        exact ⟨by rw [hp.out], x2.trans x3⟩
    · have hq := str_ne h1
      have hp := hid (pI_no (s := s) fun n hn => h1 (by
        have := hn.atoi.symm.trans hv
        injection this with this
        subst this
        exact hn.2))
      have H1 := hid h1
      clear hv h1 hI
      go_enter Tryz.func46, Tryz.ntmps46
      go_wp2_with fail
      refine (strconv_Atoi_ok_c s v _ hs HV.out).mono ?_
      rintro e w2 ⟨rfl, x2⟩
      go_wp2_with fail
      refine (impl_FormatInt _ _ HI.out (N.T.mono x2)).mono ?_
      rintro e w3 ⟨rfl, x3⟩
      go_wp2
      refine bodyPost_ret (v := .tuple #[.int .i64 0, .bool false]) (by simp [results, Tryz.results46, go_sem]) rfl ?_
      exact ⟨by rw [hp.out], x2.trans x3⟩
  · have hno : ∀ v, Go.Lib.atoiAll s.data.toList ≠ .ok v := fun v hv => hok ⟨v, hv⟩
    have hp := hid (pI_no (s := s) fun n hn => hok ⟨n, hn.atoi⟩)
    have HN := hid hno
    clear hno hok
    go_enter Tryz.func46, Tryz.ntmps46
    go_wp2_with fail
    refine (strconv_Atoi_err_c s _ hs HN.out N.V).mono ?_
    rintro e w2 ⟨n, t, p, rfl, hn, x2⟩
    go_wp2
    refine bodyPost_ret (v := .tuple #[.int .i64 0, .bool false]) (by simp [results, Tryz.results46, go_sem]) rfl ?_
    exact ⟨by rw [hp.out], x2⟩
theorem take_sB (s : ByteArray) (k : Nat) (h : k < s.size) : s.data.toList.take (k + 1) = s.data.toList.take k ++ [s[k]] := by
  rw [List.take_succ_eq_append_getElem (by simpa using h)]; rfl
theorem dk_le (l : List UInt8) : dk l ≤ l.length := List.countP_le_length
theorem pI_len {s : ByteArray} (h : 10 < s.size) : pI s = (0, false) := pI_no fun n hn => by have := hn.sgv.2.2; omega
theorem pI_dk {s : ByteArray} (h : 9 < dk s.data.toList) : pI s = (0, false) := pI_no fun n hn => by have := hn.sgv.2.1; omega
theorem pI_ne {s : ByteArray} (h : ¬ itoaS (sgv s.data.toList) = s) : pI s = (0, false) := pI_no fun n hn => h (by rw [hn.sgv.1]; exact hn.2)
theorem sgv_neg {s : ByteArray} (h : 0 < s.size) (k : s[0] = 45) : sgv s.data.toList = -(dvF 0 s.data.toList : Int) := by
  unfold sgv
  have e := Go.Lib.data_getElem? s 0 h
  rw [k] at e
  rw [if_pos (by rw [List.head?_eq_getElem?]; exact e)]
theorem sgv_pos {s : ByteArray} (h : 0 < s.size) (k : ¬ s[0] = 45) : sgv s.data.toList = (dvF 0 s.data.toList : Int) := by
  unfold sgv
  have e := Go.Lib.data_getElem? s 0 h
  rw [if_neg (by rw [List.head?_eq_getElem?, e]; intro h9; injection h9 with h9; exact k h9)]
theorem sgv_emp {s : ByteArray} (h : ¬ 0 < s.size) : sgv s.data.toList = (dvF 0 s.data.toList : Int) := by
  have e : s.data.toList = [] := List.length_eq_zero_iff.1 (by rw [Array.length_toList]; exact Nat.eq_zero_of_not_pos h)
  rw [e]; rfl

set_option maxHeartbeats 400000 in
set_option maxRecDepth 20000 in
theorem spec_ParseInt (s : ByteArray) (w : World) (hs : s.size ≤ 1048600) :
    Calls Tryz.prog 59 #[.string s] w fun e w2 => e = .returned (.tuple #[.int .i64 (pI s).1, .bool (pI s).2]) ∧ Ext w w2 := by
  go_enter Tryz.func59, Tryz.ntmps59
  go_wp2
  go_loop [4, 5, 6] (fun n k i => ∃ j : Nat, j ≤ s.size ∧ j ≤ 11 ∧ i = .int .i64 j ∧ n = .int .i64 (dvF 0 (s.data.toList.take j) : Nat) ∧ k = .int .i64 (dk (s.data.toList.take j) : Nat)) (fun _ _ i => s.size - (intOf i).toNat)
  case atStart => exact ⟨0, Nat.zero_le _, Nat.zero_le _, rfl, rfl, rfl⟩
  case round =>
    obtain ⟨j, hj, hj11, rfl, rfl, rfl⟩ := hrel
    have hK : dk (s.data.toList.take j) ≤ j := Nat.le_trans (dk_le _) (List.length_take_le _ _)
    have hD0 := dv_lt (s.data.toList.take j)
    have hD1 : 10 ^ dk (s.data.toList.take j) ≤ 10 ^ 11 := Nat.pow_le_pow_right (by decide) (by omega)
    have e11 : (10 : Nat) ^ 11 = 100000000000 := by decide
    rw [e11] at hD1
    have hD : dvF 0 (s.data.toList.take j) < 100000000000 := Nat.lt_of_lt_of_le hD0 hD1
    clear hD0 hD1 e11
    by_cases hlt : j < s.size ∧ j < 11
    · obtain ⟨hl1, hl2⟩ := hlt
      have hb := s[j].toNat_lt
      have hsn := take_sB s j hl1
      by_cases h1 : s[j].toNat < 48
      · have hnd : ¬ isDg s[j] = true := fun e => by have := isDg_out e; omega
        have HD := hid (show dvF 0 (s.data.toList.take (j + 1)) = dvF 0 (s.data.toList.take j) by rw [hsn, dvF_snoc, if_neg hnd])
        have HK := hid (show dk (s.data.toList.take (j + 1)) = dk (s.data.toList.take j) by rw [hsn, dk_snoc, if_neg hnd]; rfl)
        clear hnd hsn
        go_wp2
        go_round
        case rel => exact ⟨j + 1, by omega, by omega, by go_num, by rw [HD.out], by rw [HK.out]⟩
        case measure => simp [intOf]; omega
      · by_cases h2 : 57 < s[j].toNat
        · have hnd : ¬ isDg s[j] = true := fun e => by have := isDg_out e; omega
          have HD := hid (show dvF 0 (s.data.toList.take (j + 1)) = dvF 0 (s.data.toList.take j) by rw [hsn, dvF_snoc, if_neg hnd])
          have HK := hid (show dk (s.data.toList.take (j + 1)) = dk (s.data.toList.take j) by rw [hsn, dk_snoc, if_neg hnd]; rfl)
          clear hnd hsn
          go_wp2
          go_round
          case rel => exact ⟨j + 1, by omega, by omega, by go_num, by rw [HD.out], by rw [HK.out]⟩
          case measure => simp [intOf]; omega
        · have hnd : isDg s[j] = true := by unfold isDg; exact decide_eq_true ⟨by omega, by omega⟩
          have HD := hid (show ((dvF 0 (s.data.toList.take (j + 1)) : Nat) : Int) = (dvF 0 (s.data.toList.take j) : Int) * 10 + ((s[j].toNat : Int) - 48) by rw [hsn, dvF_snoc, if_pos hnd]; omega)
          have HK := hid (show ((dk (s.data.toList.take (j + 1)) : Nat) : Int) = (dk (s.data.toList.take j) : Int) + 1 by rw [hsn, dk_snoc, if_pos hnd]; rfl)
          clear hnd hsn
          go_wp2
          go_round
          case rel => exact ⟨j + 1, by omega, by omega, by go_num, by rw [HD.out], by rw [HK.out]⟩
          case measure => simp [intOf]; omega
    · by_cases h11 : 10 < s.size
      · have HP := hid (pI_len h11)
        have h0 : 0 < s.size := by omega
        have hb := s[0].toNat_lt
        by_cases hjs : j < s.size <;> by_cases h45 : s[0].toNat = 45 <;> by_cases hk9 : 9 < dk (s.data.toList.take j)
        all_goals
          go_wp2
          refine bodyPost_ret (v := .tuple #[.int .i64 (0), .bool false]) (by simp [results, Tryz.results59, go_sem]) rfl ?_
          exact ⟨by rw [HP.out], Ext.refl _⟩
      · have hjs : ¬ j < s.size := by omega
        have ht : s.data.toList.take j = s.data.toList := List.take_of_length_le (by rw [Array.length_toList]; exact Nat.le_of_not_lt hjs)
        rw [ht] at hK hD ⊢
        clear ht
        by_cases hk9 : 9 < dk s.data.toList
        · have HP := hid (pI_dk hk9)
          by_cases h0 : 0 < s.size
          · have hb := s[0].toNat_lt
            by_cases h45 : s[0].toNat = 45
            · go_wp2
              refine bodyPost_ret (v := .tuple #[.int .i64 (0), .bool false]) (by simp [results, Tryz.results59, go_sem]) rfl ?_
              exact ⟨by rw [HP.out], Ext.refl _⟩
            · go_wp2
              refine bodyPost_ret (v := .tuple #[.int .i64 (0), .bool false]) (by simp [results, Tryz.results59, go_sem]) rfl ?_
              exact ⟨by rw [HP.out], Ext.refl _⟩
          · exfalso; omega
        · have HK9 := hid (show dk s.data.toList ≤ 9 by omega)
          by_cases h0 : 0 < s.size
          · have hb := s[0].toNat_lt
            by_cases h45 : s[0].toNat = 45
            · have HG := hid (sgv_neg h0 (UInt8.toNat_inj.1 h45))
              go_wp2_with fail
              refine (spec_FormatInt _ _ (by unfold I64; omega)).mono ?_
              rintro e w2 ⟨rfl, x2⟩
              by_cases hq : itoaS (-(dvF 0 s.data.toList : Int)) = s
              · have hq1 := str_eq hq
                have hq2 : (itoaS (-(dvF 0 s.data.toList : Int))).toList = s.toList := by rw [hq]
                have HP := hid (pI_hit (sgv_num (s := s) (by rw [HG.out]; exact hq) HK9.out))
                have HQ := hid hq
                clear hq
                go_wp2
                refine bodyPost_ret (v := .tuple #[.int .i64 (-(dvF 0 s.data.toList : Int)), .bool true]) (by simp [results, Tryz.results59, go_sem]) rfl ?_
                exact ⟨by rw [HP.out, HG.out], x2⟩
              · have hq1 := str_ne hq
                have HP := hid (pI_ne (s := s) (by rw [HG.out]; exact hq))
                have HQ := hid hq
                clear hq
                go_wp2
                refine bodyPost_ret (v := .tuple #[.int .i64 (0), .bool false]) (by simp [results, Tryz.results59, go_sem]) rfl ?_
                exact ⟨by rw [HP.out], x2⟩
            · have HG := hid (sgv_pos h0 (fun e => h45 (by rw [e]; rfl)))
              go_wp2_with fail
              refine (spec_FormatInt _ _ (by unfold I64; omega)).mono ?_
              rintro e w2 ⟨rfl, x2⟩
              by_cases hq : itoaS ((dvF 0 s.data.toList : Int)) = s
              · have hq1 := str_eq hq
                have hq2 : (itoaS ((dvF 0 s.data.toList : Int))).toList = s.toList := by rw [hq]
                have HP := hid (pI_hit (sgv_num (s := s) (by rw [HG.out]; exact hq) HK9.out))
                have HQ := hid hq
                clear hq
                go_wp2
                refine bodyPost_ret (v := .tuple #[.int .i64 ((dvF 0 s.data.toList : Int)), .bool true]) (by simp [results, Tryz.results59, go_sem]) rfl ?_
                exact ⟨by rw [HP.out, HG.out], x2⟩
              · have hq1 := str_ne hq
                have HP := hid (pI_ne (s := s) (by rw [HG.out]; exact hq))
                have HQ := hid hq
                clear hq
                go_wp2
                refine bodyPost_ret (v := .tuple #[.int .i64 (0), .bool false]) (by simp [results, Tryz.results59, go_sem]) rfl ?_
                exact ⟨by rw [HP.out], x2⟩
          · have HG := hid (sgv_emp h0)
            go_wp2_with fail
            refine (spec_FormatInt _ _ (by unfold I64; omega)).mono ?_
            rintro e w2 ⟨rfl, x2⟩
            by_cases hq : itoaS ((dvF 0 s.data.toList : Int)) = s
            · have hq1 := str_eq hq
              have hq2 : (itoaS ((dvF 0 s.data.toList : Int))).toList = s.toList := by rw [hq]
              have HP := hid (pI_hit (sgv_num (s := s) (by rw [HG.out]; exact hq) HK9.out))
              have HQ := hid hq
              clear hq
              go_wp2
              refine bodyPost_ret (v := .tuple #[.int .i64 ((dvF 0 s.data.toList : Int)), .bool true]) (by simp [results, Tryz.results59, go_sem]) rfl ?_
              exact ⟨by rw [HP.out, HG.out], x2⟩
            · have hq1 := str_ne hq
              have HP := hid (pI_ne (s := s) (by rw [HG.out]; exact hq))
              have HQ := hid hq
              clear hq
              go_wp2
              refine bodyPost_ret (v := .tuple #[.int .i64 (0), .bool false]) (by simp [results, Tryz.results59, go_sem]) rfl ?_
              exact ⟨by rw [HP.out], x2⟩
end Go.Proofs.YtfieimmlcopbhaaGreatDoor
