/-
  WALKS: the laws' markText.
-/
import Derived.Test.YtbhhbdilaihegaaChg
import Derived.Test.YtbhhbdilaihegaaStrs
import Derived.Laws.IdiomStrings
import Derived.Laws.Concat
namespace Go.Proofs.Ytbhhbdilaihegaa
open Go.RowKit

set_option maxHeartbeats 400000 in
set_option maxRecDepth 20000 in
theorem markText_c (k : Int) (w : World) (h0 : 0 ≤ k) (h1 : k ≤ 1152921504606846976) :
    Calls Try.prog 151 #[.int .i64 k] w fun e w2 => ∃ s : ByteArray, e = .returned (.string s) ∧ s.size ≤ maxLen ∧ Ext w w2 := by
  by_cases hz : k ≤ 0
  · go_enter Try.func151, Try.ntmps151
    go_wp2
    go_ret
    exact ⟨_, rfl, by decide, Ext.refl _⟩
  · go_enter Try.func151, Try.ntmps151
    go_wp2
    go_loopw [0, 3] (fun n o wr => ∃ (j : Nat) (s : ByteArray), n = .int .i64 j ∧ o = .string s ∧ s.size + j ≤ 1152921504606846976 ∧ Ext w wr) (fun n _ _ => (intOf n).toNat)
    case atStart => exact ⟨k.toNat, ByteArray.empty, by rw [Int.toNat_of_nonneg h0], rfl, by simp; omega, Ext.refl _⟩
    case round =>
      obtain ⟨j, s, rfl, rfl, hs, hx⟩ := hrel
      by_cases hj : 0 < j
      · have hcv : (convert 159 9 (.slice (some ⟨wr.heap.size, 0, none⟩) 1 1)).run Try.prog (wr.alloc (.cells #[.int .u8 (48 + (j : Int) % 10)] 5)) = .ok (.string ⟨#[UInt8.ofNat (48 + (j : Int) % 10).toNat]⟩) (wr.alloc (.cells #[.int .u8 (48 + (j : Int) % 10)] 5)) :=
          run_convert_bytes_back (P := Try.prog) (wr.alloc (.cells #[.int .u8 (48 + (j : Int) % 10)] 5)) 159 9 5 ⟨wr.heap.size, 0, none⟩ 1 [UInt8.ofNat (48 + (j : Int) % 10).toNat] Try.underlying159 Try.underlying5 Try.underlying9 (fun i hi => by
            have hi0 : i = 0 := by simpa using hi
            subst hi0
            have hu : (UInt8.ofNat (48 + (j : Int) % 10).toNat).toNat = (48 + (j : Int) % 10).toNat := by simp; omega
            have e := (Ext.refl (wr.alloc (.cells #[.int .u8 (48 + (j : Int) % 10)] 5))).box.1 0
            rw [add_eq, Nat.zero_add]
            simp only [List.getElem_cons_zero, hu]
            rw [e, Int.toNat_of_nonneg (by omega)]
            rfl)
        have HL := hid (show (j : Int) / 10 < j by omega)
        have hs2 : s.size ≤ 1152921504606846976 := by omega
        generalize hx9 : UInt8.ofNat (48 + (j : Int) % 10).toNat = x9 at hcv
        clear hx9
        have hsz : (⟨#[x9]⟩ : ByteArray).size = 1 := rfl
        go_wp2
        go_roundw
        case rel => exact ⟨j / 10, ⟨#[x9]⟩ ++ s, by go_num, rfl, by rw [ByteArray.size_append, hsz]; omega, hx.alloc _⟩
        case measure => have := HL.out; simp [intOf]; omega
      · go_wp2
        go_ret
        exact ⟨_, rfl, by rw [ByteArray.size_append]; unfold maxLen; have : (⟨#[109]⟩ : ByteArray).size = 1 := rfl; omega, hx⟩
end Go.Proofs.Ytbhhbdilaihegaa
