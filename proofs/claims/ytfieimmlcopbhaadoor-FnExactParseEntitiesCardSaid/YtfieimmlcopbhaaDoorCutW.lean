/-
  WALKS: the reference's l2Cut.
-/
import Derived.Test.YtfieimmlcopbhaaDoorPar
import Derived.Test.YtfieimmlcopbhaaDoorStrs
import Derived.Test.YtfieimmlcopbhaaDoorApp
import Derived.Test.YtfieimmlcopbhaaDoorTypes
namespace Go.Proofs.YtfieimmlcopbhaaDoor
open Go.RowKit

theorem elemStrC : ElemT Tryd.prog 49 9 strO.n 16 := by
  obtain ⟨i, h1, h2, h3, h4⟩ := info_parts infoStr
  exact ⟨Tryd.underlying49, i, _, h1, h2, h3, h4, rfl⟩
theorem one_strC (s : ByteArray) : ∀ u ∈ (#[Value.string s] : Array Value).toList, u.oneCell' = true := by simp [Value.oneCell']
theorem own_strC (W : World) (s : ByteArray) (h : s.size ≤ maxLen) : strO.own W (#[Value.string s] : Array Value).toList s [] := ⟨⟨rfl, h⟩, rfl⟩

theorem drop_len (s : ByteArray) (j : Nat) : (s.data.toList.drop j).length = s.size - j := by
  rw [List.length_drop]
  have e : s.data.toList.length = s.size := Array.length_toList
  omega
theorem no_step {s : ByteArray} {c : UInt8} {j k : Nat} (hjk : j ≤ k) (hk : k < s.size) (hc : ¬ s[k] = c) (hn : c ∉ (s.data.toList.drop j).take (k - j)) : c ∉ (s.data.toList.drop j).take (k + 1 - j) := by
  have e1 : k + 1 - j = (k - j) + 1 := by omega
  have hl : k - j < (s.data.toList.drop j).length := by rw [drop_len]; omega
  have e2 : (s.data.toList.drop j)[k - j] = s[k] := by
    have h9 : (s.data.toList.drop j)[k - j]? = some s[k] := by
      rw [List.getElem?_drop, show j + (k - j) = k by omega]
      exact Go.Lib.data_getElem? s k hk
    rw [List.getElem?_eq_getElem hl] at h9
    exact Option.some.inj h9
  rw [e1, List.take_succ_eq_append_getElem hl, List.mem_append, List.mem_singleton, e2]
  rintro (h | h)
  · exact hn h
  · exact hc h.symm
theorem pcs_hit {s : ByteArray} {c : UInt8} {j k : Nat} (hjk : j ≤ k) (hk : k < s.size) (hc : s[k] = c) (hn : c ∉ (s.data.toList.drop j).take (k - j)) : pcs c (bs (s.data.toList.drop j)) = s.extract j k :: pcs c (bs (s.data.toList.drop (k + 1))) := by
  have hl : k < s.data.toList.length := by rw [Array.length_toList]; exact hk
  have e1 : s.data.toList.drop j = (s.data.toList.drop j).take (k - j) ++ c :: s.data.toList.drop (k + 1) := by
    conv => lhs; rw [← List.take_append_drop (k - j) (s.data.toList.drop j)]
    rw [List.drop_drop, show j + (k - j) = k by omega, List.drop_eq_getElem_cons hl]
    have : s.data.toList[k] = c := hc
    rw [this]
  rw [pcs_bs, pcs_bs]
  conv => lhs; rw [e1]
  rw [cutL_hit hn, List.map_cons, Go.Lib.extract_eq]; rfl
theorem pcs_end {s : ByteArray} {c : UInt8} {j k : Nat} (hk : ¬ k < s.size) (hn : c ∉ (s.data.toList.drop j).take (k - j)) : pcs c (bs (s.data.toList.drop j)) = [s.extract j s.size] := by
  have hl := drop_len s j
  rw [List.take_of_length_le (by rw [hl]; omega)] at hn
  rw [pcs_bs, cutL_all hn, Go.Lib.extract_eq, List.take_of_length_le (by rw [hl]; omega)]; rfl

set_option maxHeartbeats 400000 in
set_option maxRecDepth 20000 in
theorem spec_l2Cut (s : ByteArray) (c : UInt8) (w : World) (hs : s.size ≤ 1048600) :
    Calls Tryd.prog 35 #[.string s, .int .u8 c.toNat] w fun e w2 => ∃ v F, e = .returned v ∧ OwnSl strO w2 v (pcs c s) F ∧ NewF w F ∧ Ext w w2 := by
  have H0 := hid (show pcs c (bs (s.data.toList.drop 0)) = pcs c s by rw [List.drop_zero, bs_mk])
  have HM := hid (pcs_len c s)
  go_enter Tryd.func35, Tryd.ntmps35
  go_wp2
  go_loopw [5, 6, 7] (fun o f i wr => ∃ (j k : Nat) (ps : List ByteArray), j ≤ k ∧ k ≤ s.size ∧ f = .int .i64 j ∧ i = .int .i64 k ∧ Bld strO wr w.heap.size 9 o ps [] ∧ Ext w wr ∧ Hid (ps ++ pcs c (bs (s.data.toList.drop j)) = pcs c s) ∧ Hid (c ∉ (s.data.toList.drop j).take (k - j))) (fun _ _ i _ => s.size - (intOf i).toNat)
  case atStart => exact ⟨0, 0, [], Nat.le_refl _, Nat.zero_le _, rfl, rfl, Bld.lit w (Nat.le_refl _) _, (Ext.refl _).alloc _, hid (by rw [List.nil_append]; exact H0.out), hid (by simp)⟩
  case round =>
    obtain ⟨j, k, ps, hjk, hk, rfl, rfl, hB, hx, hP, hN⟩ := hrel
    have hbs := hx.size
    have hpl : ps.length ≤ s.size + 1 := by
      have e := congrArg List.length hP.out
      rw [List.length_append] at e
      have := HM.out
      omega
    by_cases hlt : k < s.size
    · have hb := s[k].toNat_lt
      by_cases hc : s[k] = c
      · have h1 : ((s[k].toNat : Int) == (c.toNat : Int)) = true := by rw [hc]; simp
        have hz : (s.extract j k).size ≤ maxLen := by rw [ByteArray.size_extract]; unfold maxLen; omega
        have HZ := hid hz
        have hnew := hid (show (ps ++ [s.extract j k]) ++ pcs c (bs (s.data.toList.drop (k + 1))) = pcs c s by rw [List.append_assoc, List.singleton_append, ← pcs_hit hjk hlt hc hN.out]; exact hP.out)
        clear hc hz
        go_wp2_with (at_builtin; refine wpList_app1 elemStrC (by decide) rfl _ _ rfl hB rfl wr.heap.size 1 rfl rfl (one_strC _) (own_strC _ _ HZ.out) fresh_nil (by omega) (by decide) hbs ?_; intro v9 w9 hB9 hE9)
        go_roundw
        case rel => exact ⟨k + 1, k + 1, ps ++ [s.extract j k], Nat.le_refl _, by omega, by go_num, by go_num, hB9, hE9 _ (Nat.le_refl _) hx, hnew, hid (by simp)⟩
        case measure => simp [intOf]; omega
      · have h1 : ((s[k].toNat : Int) == (c.toNat : Int)) = false := by
          rw [beq_eq_false_iff_ne]
          intro e
          exact hc (UInt8.toNat_inj.1 (by omega))
        have hnew := hid (no_step hjk hlt hc hN.out)
        clear hc
        go_wp2
        go_roundw
        case rel => exact ⟨j, k + 1, ps, by omega, by omega, rfl, by go_num, hB, hx, hP, hnew⟩
        case measure => simp [intOf]; omega
    · have hz : (s.extract j s.size).size ≤ maxLen := by rw [ByteArray.size_extract]; unfold maxLen; omega
      have HZ := hid hz
      have hnew := hid (show ps ++ [s.extract j s.size] = pcs c s by rw [← pcs_end hlt hN.out]; exact hP.out)
      clear hz
      go_wp2_with (at_builtin; refine wpList_app1 elemStrC (by decide) rfl _ _ rfl hB rfl wr.heap.size 1 rfl rfl (one_strC _) (own_strC _ _ HZ.out) fresh_nil (by omega) (by decide) hbs ?_; intro v9 w9 hB9 hE9)
      go_ret
      rw [hnew.out] at hB9
      obtain ⟨F, hF, hN, hb⟩ := hB9.done
      exact ⟨_, F, rfl, hF, ⟨hN, hb⟩, hE9 _ (Nat.le_refl _) hx⟩
theorem spec_l2CutN (s : ByteArray) (c : UInt8) (n : Int) (w : World) (hn : n = c.toNat) (hs : s.size ≤ 1048600) :
    Calls Tryd.prog 35 #[.string s, .int .u8 n] w fun e w2 => ∃ v F, e = .returned v ∧ OwnSl strO w2 v (pcs c s) F ∧ NewF w F ∧ Ext w w2 := by
  subst hn
  exact spec_l2Cut s c w hs
end Go.Proofs.YtfieimmlcopbhaaDoor
