/-
  WALKS: the reference's CollapseSpaces; Normalize (both).
-/
import Derived.Test.YtgbcbmlikmjjkaaDoorNormW
namespace Go.Proofs.YtgbcbmlikmjjkaaDoor
open Go.RowKit

theorem col_word {l : List UInt8} {b : UInt8} (h : ¬ b = 32) : (colP (l ++ [b])).1 = (if (colP l).1 ≠ [] ∧ (colP l).2 = true then (colP l).1 ++ [32] else (colP l).1) ++ [b] := by
  rw [colP_step]; unfold colStep; rw [if_neg h]
theorem col_blank (l : List UInt8) : (colP (l ++ [32])).1 = (colP l).1 := by rw [colP_step]; unfold colStep; rw [if_pos rfl]
theorem colP_len (l : List UInt8) : (colP l).1.length ≤ l.length := by have := col_len l; split at this <;> omega

set_option maxHeartbeats 400000 in
set_option maxRecDepth 20000 in
theorem spec_CollapseSpaces (s : ByteArray) (w : World) (hs : s.size ≤ 1099511627770) :
    Calls Tryd.prog 123 #[.string s] w fun e w2 => e = .returned (.string ⟨(colP s.data.toList).1.toArray⟩) ∧ Ext w w2 := by
  have HS := hid hs
  have hs2 : s.size ≤ 9223372036854775807 := by omega
  clear hs
  go_enter Tryd.func123, Tryd.ntmps123
  go_wp2
  go_loopw [3, 4] (fun o i wr => ∃ (k : Nat), k ≤ s.size ∧ i = .int .i64 k ∧ Bld u8O wr w.heap.size 5 o (colP (s.data.toList.take k)).1 [] ∧ Ext w wr) (fun _ i _ => s.size - (intOf i).toNat)
  case atStart => exact ⟨0, Nat.zero_le _, rfl, by simpa [colP] using Bld.lit w (Nat.le_refl _) _, (Ext.refl _).alloc _⟩
  case round =>
    obtain ⟨k, hk, rfl, hB, hx⟩ := hrel
    by_cases hlt : k < s.size
    · have hb := s[k].toNat_lt
      have HT := hid (bytes_take s k hlt)
      have HL := hid (show (colP (s.data.toList.take k)).1.length + 2 ≤ 1099511627776 by have := HS.out; have := colP_len (s.data.toList.take k); rw [List.length_take] at this; omega)
      have hsp := col_space (s.data.toList.take k)
      generalize hL : (colP (s.data.toList.take k)).1 = L at hB HL
      have HLL := hid hL
      clear hL
      obtain ⟨A, cap, rfl⟩ := hB.form
      by_cases h32 : s[k].toNat = 32
      · have he := hid (show s[k] = 32 from u8_eq.2 h32)
        have hn := hid (show (colP (s.data.toList.take k ++ [32])).1 = L by rw [col_blank, HLL.out])
        clear hsp
        go_wp2
        go_roundw
        case rel => exact ⟨k + 1, by omega, by go_num, by rw [HT.out, he.out, hn.out]; exact hB, hx⟩
        case measure => simp [intOf]; omega
      · have hne := hid (show ¬ s[k] = 32 from fun e => h32 (by rw [e]; rfl))
        by_cases h0 : L.length = 0
        · have hn := hid (show (colP (s.data.toList.take k ++ [s[k]])).1 = L ++ [s[k]] by
            rw [col_word hne.out, HLL.out, if_neg]
            intro h9
            exact h9.1 (List.eq_nil_of_length_eq_zero h0))
          clear hsp
          go_wp2_with (at_builtin; refine wpList_app1 elemU8 (by decide) rfl _ _ rfl hB rfl wr.heap.size 1 rfl rfl (one_u8 _) (own_u8 _ s[k] rfl) fresh_nil (by have := HL.out; omega) (by decide) hx.size ?_; intro v9 w9 hB9 hE9)
          go_roundw
          case rel => exact ⟨k + 1, by omega, by go_num, by rw [HT.out, hn.out]; exact hB9, hE9 _ (Nat.le_refl _) hx⟩
          case measure => simp [intOf]; omega
        · have hk0 : 0 < k := by
            rcases Nat.eq_zero_or_pos k with h | h
            · subst h
              rw [List.take_zero] at HLL
              exact absurd (by rw [← HLL.out]; rfl) h0
            · exact h
          obtain ⟨j, rfl⟩ : ∃ j, k = j + 1 := ⟨k - 1, by omega⟩
          have hlast : (s.data.toList.take (j + 1)).getLast? = some s[j] := by rw [bytes_take s j (by omega)]; simp
          rw [hlast] at hsp
          have hw : wrap64 ((j : Int) + 1 - 1) = (j : Int) := by unfold wrap64; omega
          have hcast : ((j + 1 : Nat) : Int) - 1 = (j : Int) := by omega
          by_cases hp : s[j].toNat = 32
          · have hn := hid (show (colP (s.data.toList.take (j + 1) ++ [s[j + 1]])).1 = (L ++ [32]) ++ [s[j + 1]] by
              rw [col_word hne.out, HLL.out, if_pos]
              refine ⟨fun h9 => h0 (by rw [h9]; rfl), ?_⟩
              rw [hsp, u8_eq.2 (show s[j].toNat = (32 : UInt8).toNat from hp)]
              rfl)
            clear hsp hlast
            go_wp2_with (first | (at_builtin; refine wpList_app1 elemU8 (by decide) rfl _ _ rfl hB9 rfl w9.heap.size 1 rfl rfl (one_u8 _) (own_u8 _ s[j + 1] rfl) fresh_nil (by have := HL.out; rw [List.length_append, List.length_singleton]; omega) (by decide) (hE9 _ (Nat.le_refl _) hx).size ?_; intro v8 w8 hB8 hE8) | (at_builtin; refine wpList_app1 elemU8 (by decide) rfl _ _ rfl hB rfl wr.heap.size 1 rfl rfl (one_u8 _) (own_u8 _ 32 rfl) fresh_nil (by have := HL.out; omega) (by decide) hx.size ?_; intro v9 w9 hB9 hE9))
            go_roundw
            case rel => exact ⟨j + 2, by omega, by go_num, by rw [HT.out, hn.out]; exact hB8, hE8 _ (Nat.le_refl _) (hE9 _ (Nat.le_refl _) hx)⟩
            case measure => simp [intOf]; omega
          · have hn := hid (show (colP (s.data.toList.take (j + 1) ++ [s[j + 1]])).1 = L ++ [s[j + 1]] by
              rw [col_word hne.out, HLL.out, if_neg]
              intro h9
              have := h9.2
              rw [hsp, decide_eq_true_eq] at this
              injection this with this
              exact hp (by rw [this]; rfl))
            clear hsp hlast
            go_wp2_with (at_builtin; refine wpList_app1 elemU8 (by decide) rfl _ _ rfl hB rfl wr.heap.size 1 rfl rfl (one_u8 _) (own_u8 _ s[j + 1] rfl) fresh_nil (by have := HL.out; omega) (by decide) hx.size ?_; intro v9 w9 hB9 hE9)
            go_roundw
            case rel => exact ⟨j + 2, by omega, by go_num, by rw [HT.out, hn.out]; exact hB9, hE9 _ (Nat.le_refl _) hx⟩
            case measure => simp [intOf]; omega
    · rw [List.take_of_length_le (by simp; omega)] at hB
      have hcv := conv_bld hB
      go_wp2
      go_ret
      exact ⟨rfl, hx⟩

/-! ### Normalize -/
theorem normS_eq (s : ByteArray) : normS s = ⟨(colP (stripL (s.data.toList.map foldB))).1.toArray⟩ := rfl
theorem mk_size (l : List UInt8) : (⟨l.toArray⟩ : ByteArray).size = l.length := by simp [ByteArray.size_mk']
theorem fold_size (s : ByteArray) : (⟨(s.data.toList.map foldB).toArray⟩ : ByteArray).size = s.size := by
  rw [mk_size, List.length_map]; exact Array.length_toList
theorem strip_size (s : ByteArray) : (⟨(stripL (s.data.toList.map foldB)).toArray⟩ : ByteArray).size ≤ s.size := by
  rw [mk_size]
  have := strip_len (s.data.toList.map foldB)
  rw [List.length_map] at this
  have h2 : s.data.toList.length = s.size := Array.length_toList
  omega
theorem norm_size (s : ByteArray) : (normS s).size ≤ s.size := by
  rw [normS_eq, mk_size]
  have := colP_len (stripL (s.data.toList.map foldB))
  have h := strip_size s
  rw [mk_size] at h
  omega
set_option maxHeartbeats 400000 in
theorem spec_Normalize (s : ByteArray) (w : World) (hs : s.size ≤ 1073741824) :
    Calls Tryd.prog 87 #[.string s] w fun e w2 => e = .returned (.string (normS s)) ∧ Ext w w2 := by
  have e1 := fold_size s
  have e2 := strip_size s
  go_enter Tryd.func87, Tryd.ntmps87
  go_wp2_with fail
  refine (spec_FoldCase s _ (by omega)).mono ?_
  rintro e w2 ⟨rfl, x2⟩
  go_wp2_with fail
  refine (spec_StripMarks _ _ (by omega)).mono ?_
  rintro e w3 ⟨rfl, x3⟩
  go_wp2_with fail
  refine (spec_CollapseSpaces _ _ (by omega)).mono ?_
  rintro e w4 ⟨rfl, x4⟩
  go_wp2
  go_ret
  exact ⟨rfl, (by repeat (first | with_reducible exact Ext.refl _ | with_reducible assumption | with_reducible refine Ext.drew ?_ | with_reducible refine Ext.alloc ?_ _ | with_reducible refine Ext.trans ?_ (by with_reducible assumption)))⟩
set_option maxHeartbeats 400000 in
theorem impl_Normalize (s : ByteArray) (w : World) (hs : s.size ≤ 1073741824) (M : ML w) :
    Calls Tryd.prog 90 #[.string s] w fun e w2 => e = .returned (.string (normS s)) ∧ Ext w w2 := by
  have e1 := fold_size s
  have e2 := strip_size s
  go_enter Tryd.func90, Tryd.ntmps90
  go_wp2_with fail
  refine (impl_FoldCase s _ (by omega)).mono ?_
  rintro e w2 ⟨rfl, x2⟩
  go_wp2_with fail
  refine (impl_StripMarks _ _ (by omega) (M.mono x2)).mono ?_
  rintro e w3 ⟨rfl, x3⟩
  go_wp2_with fail
  refine (impl_CollapseSpaces _ _ (by omega)).mono ?_
  rintro e w4 ⟨rfl, x4⟩
  go_wp2
  go_ret
  exact ⟨rfl, (by repeat (first | with_reducible exact Ext.refl _ | with_reducible assumption | with_reducible refine Ext.drew ?_ | with_reducible refine Ext.alloc ?_ _ | with_reducible refine Ext.trans ?_ (by with_reducible assumption)))⟩
end Go.Proofs.YtgbcbmlikmjjkaaDoor
