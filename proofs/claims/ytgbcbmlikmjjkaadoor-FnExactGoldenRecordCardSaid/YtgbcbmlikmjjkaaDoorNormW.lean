/-
  WALKS: FoldCase, StripMarks, CollapseSpaces, Normalize (both).
-/
import Derived.Test.YtgbcbmlikmjjkaaDoorNorm
import Derived.Test.YtgbcbmlikmjjkaaDoorMax
namespace Go.Proofs.YtgbcbmlikmjjkaaDoor
open Go.RowKit

theorem foldB_up {b : UInt8} (h1 : 65 ≤ b.toNat) (h2 : b.toNat ≤ 90) : ((b.toNat : Int) + 32) = ((foldB b).toNat : Int) := by
  unfold foldB
  rw [if_pos ⟨h1, h2⟩, UInt8.toNat_add]
  have : (32 : UInt8).toNat = 32 := rfl
  rw [this]
  omega
theorem foldB_no {b : UInt8} (h : ¬ (65 ≤ b.toNat ∧ b.toNat ≤ 90)) : foldB b = b := by unfold foldB; rw [if_neg h]
theorem map_take {α : Type} (p : UInt8 → α) (s : ByteArray) (k : Nat) (h : k < s.size) : (s.data.toList.take (k + 1)).map p = (s.data.toList.take k).map p ++ [p s[k]] := by rw [bytes_take s k h, List.map_append]; rfl

set_option maxHeartbeats 400000 in
set_option maxRecDepth 20000 in
theorem spec_FoldCase (s : ByteArray) (w : World) (hs : s.size ≤ 1099511627775) :
    Calls Tryd.prog 125 #[.string s] w fun e w2 => e = .returned (.string ⟨(s.data.toList.map foldB).toArray⟩) ∧ Ext w w2 := by
  have HS := hid hs
  have hs2 : s.size ≤ 9223372036854775807 := by omega
  clear hs
  go_enter Tryd.func125, Tryd.ntmps125
  go_wp2
  go_loopw [3, 4] (fun o i wr => ∃ (k : Nat), k ≤ s.size ∧ i = .int .i64 k ∧ Bld u8O wr w.heap.size 5 o ((s.data.toList.take k).map foldB) [] ∧ Ext w wr) (fun _ i _ => s.size - (intOf i).toNat)
  case atStart => exact ⟨0, Nat.zero_le _, rfl, by simpa using Bld.lit w (Nat.le_refl _) _, (Ext.refl _).alloc _⟩
  case round =>
    obtain ⟨k, hk, rfl, hB, hx⟩ := hrel
    by_cases hlt : k < s.size
    · have hb := s[k].toNat_lt
      have HM := hid (map_take foldB s k hlt)
      have HL := hid (show ((s.data.toList.take k).map foldB).length + 1 ≤ 1099511627776 by have := HS.out; rw [List.length_map, List.length_take]; omega)
      by_cases hc : 65 ≤ s[k].toNat ∧ s[k].toNat ≤ 90
      · have hf := hid (foldB_up hc.1 hc.2)
        go_wp2_with (at_builtin; refine wpList_app1 elemU8 (by decide) rfl _ _ rfl hB rfl wr.heap.size 1 rfl rfl (one_u8 _) (own_u8 _ (foldB s[k]) hf.out) fresh_nil HL.out (by decide) hx.size ?_; intro v9 w9 hB9 hE9)
        go_roundw
        case rel => exact ⟨k + 1, by omega, by go_num, by rw [HM.out]; exact hB9, hE9 _ (Nat.le_refl _) hx⟩
        case measure => simp [intOf]; omega
      · have hf := hid (foldB_no hc)
        rcases Nat.lt_or_ge s[k].toNat 65 with h65 | h65
        all_goals (try have h90 : 90 < s[k].toNat := by omega)
        all_goals
          go_wp2_with (at_builtin; refine wpList_app1 elemU8 (by decide) rfl _ _ rfl hB rfl wr.heap.size 1 rfl rfl (one_u8 _) (own_u8 _ (foldB s[k]) (by rw [hf.out])) fresh_nil HL.out (by decide) hx.size ?_; intro v9 w9 hB9 hE9)
          go_roundw
          case rel => exact ⟨k + 1, by omega, by go_num, by rw [HM.out]; exact hB9, hE9 _ (Nat.le_refl _) hx⟩
          case measure => simp [intOf]; omega
    · rw [List.take_of_length_le (by simp; omega)] at hB
      have hcv := conv_bld hB
      go_wp2
      go_ret
      exact ⟨rfl, hx⟩

/-! ### mapped -/
set_option maxHeartbeats 400000 in
set_option maxRecDepth 20000 in
theorem impl_mapped (s : ByteArray) (p : UInt8 → UInt8) (fn : FuncId) (w : World) (hs : s.size ≤ 1099511627775)
    (hfn : ∀ (args : Array Value) (W : World), Sem.run Tryd.prog (callFunc fn args) W = .ok (.enter fn args) W)
    (hf : ∀ (b : UInt8) (W : World), Calls Tryd.prog fn #[.int .u8 b.toNat] W fun e w2 => e = .returned (.int .u8 (p b).toNat) ∧ W = w2) :
    Calls Tryd.prog 149 #[.string s, .func (.func fn) #[] #[]] w fun e w2 => e = .returned (.string ⟨(s.data.toList.map p).toArray⟩) ∧ Ext w w2 := by
  have HS := hid hs
  have hs2 : s.size ≤ 9223372036854775807 := by omega
  clear hs
  obtain ⟨cap, W0, hcv, hrow, hx0⟩ := conv_str w s
  go_enter Tryd.func149, Tryd.ntmps149
  go_wp2
  go_loopw [6, 7, 12] (fun _ _ i wr => ∃ (k : Nat), k ≤ s.size ∧ i = .int .i64 k ∧ ByteRow wr w.heap.size ((s.data.toList.take k).map p ++ s.data.toList.drop k) ∧ Ext w wr) (fun _ _ i _ => s.size - (intOf i).toNat)
  case atStart => exact ⟨0, Nat.zero_le _, rfl, by simpa using hrow, hx0⟩
  case round =>
    obtain ⟨k, hk, rfl, hR, hx⟩ := hrel
    have hlen : ((s.data.toList.take k).map p ++ s.data.toList.drop k).length = s.size := by
      rw [List.length_append, List.length_map, List.length_take, List.length_drop, Array.length_toList]
      have : s.data.size = s.size := rfl
      omega
    by_cases hlt : k < s.size
    · have hat : ((s.data.toList.take k).map p ++ s.data.toList.drop k)[k]'(by omega) = s[k] := by
        rw [List.getElem_append_right (by simp; omega)]
        simp
        congr 1
        omega
      have hset : ((s.data.toList.take k).map p ++ s.data.toList.drop k).set k (p s[k]) = (s.data.toList.take (k + 1)).map p ++ s.data.toList.drop (k + 1) := by
        rw [map_take p s k hlt, List.set_append_right _ _ (by simp; omega)]
        have e1 : ((s.data.toList.take k).map p).length = k := by simp; omega
        have e2 : s.data.toList.drop k = s[k] :: s.data.toList.drop (k + 1) := by rw [List.drop_eq_getElem_cons (by simpa using hlt)]; rfl
        rw [e1, e2]
        simp
      obtain ⟨c0, q0⟩ := hR k (by omega)
      rw [hat] at c0
      have HST := hid (fun W (e : Ext wr W) => hset ▸ (hR.ext e).store (show k < _ by omega) (p s[k]))
      have HR := hid hR
      have HLN := hid hlen
      clear hset hat hR hlen
      go_wp2_with fail
      refine (hf s[k] _).mono ?_
      rintro e w2 ⟨rfl, rfl⟩
      have hst := hid (HST.out wr (Ext.refl _))
      go_wp2
      go_roundw
      case rel => exact ⟨k + 1, by omega, by go_num, hst.out, hx.setCell (by simp) _⟩
      case measure => simp [intOf]; omega
    · rw [List.take_of_length_le (by simp; omega), List.drop_of_length_le (by simp; omega), List.append_nil] at hR
      have hcv2 := conv_row (cap := cap) (n := s.size) (l := s.data.toList.map p) (by simp) hR
      go_wp2
      go_ret
      exact ⟨rfl, hx⟩

set_option maxHeartbeats 400000 in
theorem impl_FoldCase_1 (b : UInt8) (w : World) :
    Calls Tryd.prog 153 #[.int .u8 b.toNat] w fun e w2 => e = .returned (.int .u8 (foldB b).toNat) ∧ w = w2 := by
  have hb := b.toNat_lt
  by_cases hc : 65 ≤ b.toNat ∧ b.toNat ≤ 90
  · have hf := hid (foldB_up hc.1 hc.2)
    go_enter Tryd.func153, Tryd.ntmps153
    go_wp2
    go_ret
    exact ⟨by rw [← hf.out]; rfl, rfl⟩
  · have hf := hid (foldB_no hc)
    rcases Nat.lt_or_ge b.toNat 65 with h65 | h65
    all_goals (try have h90 : 90 < b.toNat := by omega)
    all_goals
      go_enter Tryd.func153, Tryd.ntmps153
      go_wp2
      go_ret
      exact ⟨by rw [hf.out]; rfl, rfl⟩
set_option maxHeartbeats 400000 in
theorem impl_FoldCase (s : ByteArray) (w : World) (hs : s.size ≤ 1099511627775) :
    Calls Tryd.prog 130 #[.string s] w fun e w2 => e = .returned (.string ⟨(s.data.toList.map foldB).toArray⟩) ∧ Ext w w2 := by
  go_enter Tryd.func130, Tryd.ntmps130
  go_wp2_with fail
  refine (impl_mapped s foldB 153 _ hs (fun _ _ => by kernel_rfl) (fun b W => impl_FoldCase_1 b W)).mono ?_
  rintro e w2 ⟨rfl, x2⟩
  go_wp2
  go_ret
  exact ⟨rfl, x2⟩

/-! ### StripMarks -/
set_option maxHeartbeats 400000 in
theorem spec_l2Word (b : UInt8) (w : World) :
    Calls Tryd.prog 146 #[.int .u8 b.toNat] w fun e w2 => e = .returned (.bool (wordB b)) ∧ w = w2 := by
  go_enter Tryd.func146, Tryd.ntmps146
  go_wp2
  all_goals go_ret
  all_goals refine ⟨ret_bool ?_, rfl⟩
  all_goals (unfold wordB; rw [Bool.eq_iff_iff]; simp; try omega)
set_option maxHeartbeats 400000 in
theorem impl_isSmall (b : UInt8) (w : World) :
    Calls Tryd.prog 166 #[.int .u8 b.toNat] w fun e w2 => e = .returned (.bool (decide (97 ≤ b.toNat ∧ b.toNat ≤ 122))) ∧ w = w2 := by
  go_enter Tryd.func166, Tryd.ntmps166
  go_wp2
  all_goals go_ret
  all_goals refine ⟨ret_bool ?_, rfl⟩
  all_goals (rw [Bool.eq_iff_iff]; simp; try omega)
set_option maxHeartbeats 400000 in
theorem impl_isDigit (b : UInt8) (w : World) :
    Calls Tryd.prog 167 #[.int .u8 b.toNat] w fun e w2 => e = .returned (.bool (decide (48 ≤ b.toNat ∧ b.toNat ≤ 57))) ∧ w = w2 := by
  go_enter Tryd.func167, Tryd.ntmps167
  go_wp2
  all_goals go_ret
  all_goals refine ⟨ret_bool ?_, rfl⟩
  all_goals (rw [Bool.eq_iff_iff]; simp; try omega)
set_option maxHeartbeats 400000 in
theorem impl_isWordByte (b : UInt8) (w : World) :
    Calls Tryd.prog 152 #[.int .u8 b.toNat] w fun e w2 => e = .returned (.bool (wordB b)) ∧ w = w2 := by
  go_enter Tryd.func152, Tryd.ntmps152
  go_wp2_with (first | (go_at_call 166; refine (impl_isSmall _ _).mono ?_; rintro e w2 ⟨rfl, rfl⟩) | (go_at_call 167; refine (impl_isDigit _ _).mono ?_; rintro e w2 ⟨rfl, rfl⟩))
  all_goals go_ret
  all_goals refine ⟨ret_bool ?_, rfl⟩
  all_goals (unfold wordB; rw [Bool.eq_iff_iff]; simp_all; try omega)
set_option maxHeartbeats 400000 in
theorem impl_StripMarks_1 (b : UInt8) (w : World) :
    Calls Tryd.prog 151 #[.int .u8 b.toNat] w fun e w2 => e = .returned (.int .u8 (markB b).toNat) ∧ w = w2 := by
  go_enter Tryd.func151, Tryd.ntmps151
  go_wp2_with fail
  refine (impl_isWordByte _ _).mono ?_
  rintro e w2 ⟨rfl, rfl⟩
  cases h : wordB b with
  | true =>
    have hm := hid (show markB b = b by unfold markB; rw [if_pos h])
    go_wp2
    go_ret
    exact ⟨by rw [hm.out]; rfl, rfl⟩
  | false =>
    have hm := hid (show markB b = 32 by unfold markB; rw [if_neg (by simp [h])])
    go_wp2
    go_ret
    exact ⟨by rw [hm.out]; rfl, rfl⟩
theorem xRepl : Builder.Extra Tryd.prog lShRepl_ren :=
  { sizeBuilder := by kernel_rfl, liesBuilder := by kernel_rfl, t5 := Tryd.underlying5, a5 := Tryd.isAgg5, z5 := Tryd.sizeOf5, v5 := Tryd.zeroValue5, infoByte := by kernel_rfl, cellsByte := by kernel_rfl, sizeByte := by kernel_rfl, neB5 := by decide }
theorem countB_bound (s : ByteArray) : Go.Lib.countB s ⟨#[39]⟩ * (⟨#[]⟩ : ByteArray).size = 0 := Nat.mul_zero _
theorem strings_ReplaceAll_c (s : ByteArray) (w : World) (hs : s.size < 4294967281) (M : ML w) :
    Calls Tryd.prog 150 #[.string s, .string ⟨#[39]⟩, .string ⟨#[]⟩] w fun e w2 => e = .returned (.string ⟨(s.data.toList.filter fun b => !(b == 39)).toArray⟩) ∧ Ext w w2 := by
  obtain ⟨m, hm⟩ := M
  refine (Any.strings_ReplaceAll lShRepl xRepl s ⟨#[39]⟩ ⟨#[]⟩ m w hs hm (Nat.le_refl 1) (by rw [countB_bound]; omega)).mono fun e w2 ⟨he, hx⟩ => ⟨?_, hx⟩
  rw [he]
  congr 2
  exact congrArg (fun l : List UInt8 => (⟨l.toArray⟩ : ByteArray)) (replaceAll_one s.data.toList 39)
theorem filter_size (s : ByteArray) (p : UInt8 → Bool) : (⟨(s.data.toList.filter p).toArray⟩ : ByteArray).size ≤ s.size := by
  have := List.length_filter_le p s.data.toList
  rw [Array.length_toList] at this
  simpa [ByteArray.size_mk'] using this
set_option maxHeartbeats 400000 in
theorem impl_StripMarks (s : ByteArray) (w : World) (hs : s.size ≤ 1073741824) (M : ML w) :
    Calls Tryd.prog 129 #[.string s] w fun e w2 => e = .returned (.string ⟨(stripL s.data.toList).toArray⟩) ∧ Ext w w2 := by
  have hz := filter_size s fun b => !(b == 39)
  go_enter Tryd.func129, Tryd.ntmps129
  go_wp2_with fail
  refine (strings_ReplaceAll_c s _ (by omega) M).mono ?_
  rintro e w2 ⟨rfl, x2⟩
  go_wp2_with fail
  refine (impl_mapped _ markB 151 _ (by omega) (fun _ _ => by kernel_rfl) (fun b W => impl_StripMarks_1 b W)).mono ?_
  rintro e w3 ⟨rfl, x3⟩
  go_wp2
  go_ret
  exact ⟨rfl, x2.trans x3⟩

theorem strip_step (s : ByteArray) (k : Nat) (h : k < s.size) : stripL (s.data.toList.take (k + 1)) = stripL (s.data.toList.take k) ++ (if s[k] = 39 then [] else [markB s[k]]) := by
  rw [bytes_take s k h]
  unfold stripL
  rw [List.filter_append, List.map_append]
  by_cases h : s[k] = 39 <;> simp [h]
theorem strip_len (l : List UInt8) : (stripL l).length ≤ l.length := by
  unfold stripL
  rw [List.length_map]
  exact List.length_filter_le _ _
theorem u8_eq {b c : UInt8} : b = c ↔ b.toNat = c.toNat := ⟨fun h => by rw [h], fun h => UInt8.toNat_inj.1 h⟩

set_option maxHeartbeats 400000 in
set_option maxRecDepth 20000 in
theorem spec_StripMarks (s : ByteArray) (w : World) (hs : s.size ≤ 1099511627775) :
    Calls Tryd.prog 124 #[.string s] w fun e w2 => e = .returned (.string ⟨(stripL s.data.toList).toArray⟩) ∧ Ext w w2 := by
  have HS := hid hs
  have hs2 : s.size ≤ 9223372036854775807 := by omega
  clear hs
  go_enter Tryd.func124, Tryd.ntmps124
  go_wp2
  go_loopw [3, 4] (fun o i wr => ∃ (k : Nat), k ≤ s.size ∧ i = .int .i64 k ∧ Bld u8O wr w.heap.size 5 o (stripL (s.data.toList.take k)) [] ∧ Ext w wr) (fun _ i _ => s.size - (intOf i).toNat)
  case atStart => exact ⟨0, Nat.zero_le _, rfl, by simpa [stripL] using Bld.lit w (Nat.le_refl _) _, (Ext.refl _).alloc _⟩
  case round =>
    obtain ⟨k, hk, rfl, hB, hx⟩ := hrel
    by_cases hlt : k < s.size
    · have hb := s[k].toNat_lt
      have HM := hid (strip_step s k hlt)
      have HL := hid (show (stripL (s.data.toList.take k)).length + 1 ≤ 1099511627776 by have := HS.out; have := strip_len (s.data.toList.take k); rw [List.length_take] at this; omega)
      go_wp2_with fail
      refine (spec_l2Word _ _).mono ?_
      rintro e w2 ⟨rfl, rfl⟩
      cases hw : wordB s[k] with
      | true =>
        have h39 : ¬ s[k] = 39 := fun e => by rw [e] at hw; revert hw; decide
        have hm := hid (show (if s[k] = 39 then [] else [markB s[k]]) = [s[k]] by rw [if_neg h39]; unfold markB; rw [if_pos hw])
        clear hw h39
        go_wp2_with (at_builtin; refine wpList_app1 elemU8 (by decide) rfl _ _ rfl hB rfl wr.heap.size 1 rfl rfl (one_u8 _) (own_u8 _ s[k] rfl) fresh_nil HL.out (by decide) hx.size ?_; intro v9 w9 hB9 hE9)
        go_roundw
        case rel => exact ⟨k + 1, by omega, by go_num, by rw [HM.out, hm.out]; exact hB9, hE9 _ (Nat.le_refl _) hx⟩
        case measure => simp [intOf]; omega
      | false =>
        by_cases h32 : s[k].toNat = 32
        · have h39 : ¬ s[k] = 39 := fun e => by rw [e] at h32; revert h32; decide
          have he : s[k] = 32 := u8_eq.2 h32
          have hm := hid (show (if s[k] = 39 then [] else [markB s[k]]) = [s[k]] by rw [if_neg h39]; unfold markB; rw [if_neg (by simp [hw]), he])
          clear hw h39 he
          go_wp2_with (at_builtin; refine wpList_app1 elemU8 (by decide) rfl _ _ rfl hB rfl wr.heap.size 1 rfl rfl (one_u8 _) (own_u8 _ s[k] (by first | rfl | (rw [h32]; rfl))) fresh_nil HL.out (by decide) hx.size ?_; intro v9 w9 hB9 hE9)
          go_roundw
          case rel => exact ⟨k + 1, by omega, by go_num, by rw [HM.out, hm.out]; exact hB9, hE9 _ (Nat.le_refl _) hx⟩
          case measure => simp [intOf]; omega
        · by_cases h39 : s[k].toNat = 39
          · have he : s[k] = 39 := u8_eq.2 h39
            have hm := hid (show (if s[k] = 39 then [] else [markB s[k]]) = [] by rw [if_pos he])
            clear hw he
            go_wp2
            go_roundw
            case rel => exact ⟨k + 1, by omega, by go_num, by rw [HM.out, hm.out, List.append_nil]; exact hB, hx⟩
            case measure => simp [intOf]; omega
          · have he : ¬ s[k] = 39 := fun e => h39 (by rw [e]; rfl)
            have hm := hid (show (if s[k] = 39 then [] else [markB s[k]]) = [32] by rw [if_neg he]; unfold markB; rw [if_neg (by simp [hw])])
            clear hw he
            go_wp2_with (at_builtin; refine wpList_app1 elemU8 (by decide) rfl _ _ rfl hB rfl wr.heap.size 1 rfl rfl (one_u8 _) (own_u8 _ 32 rfl) fresh_nil HL.out (by decide) hx.size ?_; intro v9 w9 hB9 hE9)
            go_roundw
            case rel => exact ⟨k + 1, by omega, by go_num, by rw [HM.out, hm.out]; exact hB9, hE9 _ (Nat.le_refl _) hx⟩
            case measure => simp [intOf]; omega
    · rw [List.take_of_length_le (by simp; omega)] at hB
      have hcv := conv_bld hB
      go_wp2
      go_ret
      exact ⟨rfl, hx⟩

/-! ### CollapseSpaces -/
theorem strings_TrimSuffix_c (l : List UInt8) (w : World) (hs : l.length ≤ 9223372036854775807) :
    Calls Tryd.prog 148 #[.string ⟨l.toArray⟩, .string ⟨#[32]⟩] w fun e w2 => e = .returned (.string ⟨(Go.Lib.trimSuffix l [32]).toArray⟩) ∧ w = w2 :=
  (Any.strings_TrimSuffix lShTrimS ⟨l.toArray⟩ ⟨#[32]⟩ w (by simpa [ByteArray.size_mk'] using hs)).mono fun _ _ ⟨he, hw⟩ => ⟨by rw [he], hw.symm⟩

set_option maxHeartbeats 400000 in
set_option maxRecDepth 20000 in
theorem impl_CollapseSpaces (s : ByteArray) (w : World) (hs : s.size ≤ 1099511627775) :
    Calls Tryd.prog 128 #[.string s] w fun e w2 => e = .returned (.string ⟨(colP s.data.toList).1.toArray⟩) ∧ Ext w w2 := by
  have HS := hid hs
  have hs2 : s.size ≤ 9223372036854775807 := by omega
  clear hs
  go_enter Tryd.func128, Tryd.ntmps128
  go_wp2
  go_loopw [3, 4, 7] (fun o _ i wr => ∃ (k : Nat), k ≤ s.size ∧ i = .int .i64 k ∧ Bld u8O wr w.heap.size 5 o (colI (s.data.toList.take k)) [] ∧ Ext w wr) (fun _ _ i _ => s.size - (intOf i).toNat)
  case atStart => exact ⟨0, Nat.zero_le _, rfl, by simpa [colI, colP] using Bld.nil w w.heap.size _, Ext.refl _⟩
  case round =>
    obtain ⟨k, hk, rfl, hB, hx⟩ := hrel
    by_cases hlt : k < s.size
    · have hb := s[k].toNat_lt
      have HT := hid (bytes_take s k hlt)
      have HL := hid (show (colI (s.data.toList.take k)).length + 1 ≤ 1099511627776 by have := HS.out; have := colI_len (s.data.toList.take k); rw [List.length_take] at this; omega)
      generalize hL : colI (s.data.toList.take k) = L at hB HL
      have HLL := hid hL
      clear hL
      obtain ⟨A, cap, rfl⟩ := hB.form
      by_cases h32 : s[k].toNat = 32
      · have he := hid (show s[k] = 32 from u8_eq.2 h32)
        by_cases h0 : L.length = 0
        · have hn := hid (show colI (s.data.toList.take k ++ [32]) = L by rw [← HLL.out]; exact colI_skip (.inl (by rw [HLL.out]; exact List.eq_nil_of_length_eq_zero h0)))
          go_wp2
          go_roundw
          case rel => exact ⟨k + 1, by omega, by go_num, by rw [HT.out, he.out, hn.out]; exact hB, hx⟩
          case measure => simp [intOf]; omega
        · obtain ⟨g, rfl, hc⟩ := hB.u8_at (show L.length - 1 < L.length by omega)
          have hlast : L.getLast? = some L[L.length - 1] := by rw [List.getLast?_eq_getElem?, List.getElem?_eq_getElem]
          generalize hq : L[L.length - 1] = q at hc hlast
          clear hq
          obtain ⟨n, hn1⟩ : ∃ n, L.length = n + 1 := ⟨L.length - 1, by omega⟩
          have hn9 : L.length - 1 = n := by omega
          rw [hn9] at hc
          have HB := hid hB
          have hqb := q.toNat_lt
          have hnb : n ≤ 1099511627775 := by have := HL.out; omega
          clear h0 hB hn9
          by_cases hq32 : q.toNat = 32
          · have hn := hid (show colI (s.data.toList.take k ++ [32]) = L by rw [← HLL.out]; exact colI_skip (.inr (by rw [HLL.out, hlast, u8_eq.2 (show q.toNat = (32 : UInt8).toNat from hq32)])))
            clear hlast
            go_wp2
            go_roundw
            case rel => exact ⟨k + 1, by omega, by go_num, by rw [HT.out, he.out, hn.out]; first | exact HB.out | (rw [hn1] at HB; exact HB.out), hx⟩
            case measure => simp [intOf]; omega
          · have hn := hid (show colI (s.data.toList.take k ++ [32]) = L ++ [32] by
              rw [← HLL.out]
              refine colI_space (fun h9 => ?_) (fun h9 => ?_)
              · rw [HLL.out] at h9
                rw [h9] at hn1
                simp at hn1
              · rw [HLL.out, hlast] at h9
                injection h9 with h9
                exact hq32 (by rw [h9]; rfl))
            clear hlast
            go_wp2_with (at_builtin; refine wpList_app1 elemU8 (by decide) rfl _ _ rfl (by first | exact HB.out | (rw [hn1] at HB; exact HB.out)) rfl wr.heap.size 1 rfl rfl (one_u8 _) (own_u8 _ 32 (by first | rfl | (rw [h32]; rfl))) fresh_nil HL.out (by decide) hx.size ?_; intro v9 w9 hB9 hE9)
            go_roundw
            case rel => exact ⟨k + 1, by omega, by go_num, by rw [HT.out, he.out, hn.out]; exact hB9, hE9 _ (Nat.le_refl _) hx⟩
            case measure => simp [intOf]; omega
      · have hn := hid (show colI (s.data.toList.take k ++ [s[k]]) = L ++ [s[k]] by rw [← HLL.out]; exact colI_word (fun e => h32 (by rw [e]; rfl)))
        go_wp2_with (at_builtin; refine wpList_app1 elemU8 (by decide) rfl _ _ rfl hB rfl wr.heap.size 1 rfl rfl (one_u8 _) (own_u8 _ s[k] rfl) fresh_nil HL.out (by decide) hx.size ?_; intro v9 w9 hB9 hE9)
        go_roundw
        case rel => exact ⟨k + 1, by omega, by go_num, by rw [HT.out, hn.out]; exact hB9, hE9 _ (Nat.le_refl _) hx⟩
        case measure => simp [intOf]; omega
    · rw [List.take_of_length_le (by simp; omega)] at hB
      have hcv := conv_bld hB
      have hl := colI_len s.data.toList
      have hl2 : s.data.toList.length = s.size := Array.length_toList
      have HTR := hid (colI_trim s.data.toList)
      have HL2 := hid (show (colI s.data.toList).length ≤ 9223372036854775807 by omega)
      clear hl hl2
      go_wp2_with fail
      refine (strings_TrimSuffix_c _ _ HL2.out).mono ?_
      rintro e w2 ⟨rfl, rfl⟩
      rw [HTR.out]
      go_wp2
      go_ret
      exact ⟨rfl, hx⟩
end Go.Proofs.YtgbcbmlikmjjkaaDoor
