/-
  WALKS: FormatInt (both): the decimal numeral.
-/
import Derived.Test.YtfieimmlcopbhaaGreatDoorMgEndFnRec0
import Derived.Laws.IdiomStrings
import Derived.Laws.Concat
import Derived.Lib.LaidTab

namespace Go.Proofs.YtfieimmlcopbhaaGreatDoor
open Go.RowKit

/-- the table of powers of ten stands as the program lays it -/
def Tab (w : World) : Prop := Go.Lib.TabIs Tryz.prog w "internal/strconv.uint64pow10" .u64 Go.Lib.pow10Tab
theorem Tab.mono {w w2 : World} (e : Ext w w2) (h : Tab w) : Tab w2 := by
  unfold Tab Go.Lib.TabIs World.var? at h ⊢
  revert h
  cases hg : Tryz.prog.globalNamed "internal/strconv.uint64pow10" with
  | none => exact fun h => h
  | some g =>
    intro h
    have hlt : g < w.heap.size := by
      by_cases hl : g < w.heap.size
      · exact hl
      · exfalso
        have hn : w.heap[g]? = none := Array.getElem?_eq_none (by omega)
        simp [hn] at h
    simpa [e.block hlt] using h
theorem ext_grow (w : World) (k : Nat) (os : Array Obj) : Ext w (Go.Sort.grow (w.drewN k) os) := by
  refine ⟨rfl, rfl, rfl, by simp [Go.Sort.grow, World.drewN], fun b hb => ?_⟩
  simp only [Go.Sort.grow, World.drewN]
  exact Array.getElem?_append_left hb
theorem strconv_Itoa_c (n : Int) (w : World) (hn : I64 n) (T : Tab w) :
    Calls Tryz.prog 126 #[.int .i64 n] w fun e w2 => e = .returned (.string (itoaS n)) ∧ Ext w w2 :=
  (Any.strconv_Itoa lShItoa n hn.out.1 hn.out.2 w T).mono fun _ _ ⟨he, k, os, hw⟩ => ⟨he, by rw [hw]; exact ext_grow w k os⟩

set_option maxHeartbeats 400000 in
theorem impl_FormatInt (n : Int) (w : World) (hn : I64 n) (T : Tab w) :
    Calls Tryz.prog 83 #[.int .i64 n] w fun e w2 => e = .returned (.string (itoaS n)) ∧ Ext w w2 := by
  go_enter Tryz.func83, Tryz.ntmps83
  go_wp2_with (go_at_call 126; refine (strconv_Itoa_c _ _ hn T).mono ?_; rintro e w2 ⟨rfl, x2⟩)
  go_ret
  exact ⟨rfl, x2⟩

theorem conv_digit : ∀ (wr : World) (j : Nat) (d : Int), j < 10 → d = j → (convert 43 9 (.slice (some ⟨wr.heap.size, 0, none⟩) 1 1)).run Tryz.prog (wr.alloc (.cells #[.int .u8 (48 + d)] 5)) = .ok (.string ⟨#[UInt8.ofNat (48 + j)]⟩) (wr.alloc (.cells #[.int .u8 (48 + d)] 5)) := fun wr j d hj hd =>
  run_convert_bytes_back (P := Tryz.prog) (wr.alloc (.cells #[.int .u8 (48 + d)] 5)) 43 9 5 ⟨wr.heap.size, 0, none⟩ 1 [UInt8.ofNat (48 + j)] Tryz.underlying43 Tryz.underlying5 Tryz.underlying9 (fun i hi => by
    have hi0 : i = 0 := by simpa using hi
    subst hi0
    subst hd
    have hu : (UInt8.ofNat (48 + j)).toNat = 48 + j := by rw [UInt8.toNat_ofNat']; omega
    have e := (Ext.refl (wr.alloc (.cells #[.int .u8 (48 + (j : Int))] 5))).box.1 0
    rw [add_eq, Nat.zero_add]
    simp only [List.getElem_cons_zero, hu]
    rw [e]
    simp)

set_option maxHeartbeats 400000 in
set_option maxRecDepth 20000 in
theorem spec_FormatInt_neg (n : Int) (w : World) (H63 : Hid (n.natAbs ≤ 9223372036854775808)) (hneg : n < 0)  (hlen : (Go.Lib.decDigits n.natAbs).length ≤ 20) :
    Calls Tryz.prog 86 #[.int .i64 n] w fun e w2 => e = .returned (.string (itoaS n)) ∧ Ext w w2 := by
  have HPOS := hid (show 0 < n.natAbs by omega)
  go_enter Tryz.func86, Tryz.ntmps86
  go_wp2
  go_loopw [0, 3] (fun m o wr => ∃ (j : Nat) (s : ByteArray), m = .int .i64 (-(j : Int)) ∧ o = .string s ∧ Hid (j ≤ 9223372036854775808) ∧ dgs j ++ s.data.toList = Go.Lib.decDigits n.natAbs ∧ Ext w wr) (fun m _ _ => (-(intOf m)).toNat)
  case atStart => exact ⟨n.natAbs, ⟨#[]⟩, by congr 1; omega, rfl, H63, by rw [dgs_pos HPOS.out]; simp, Ext.refl _⟩
  case round =>
    obtain ⟨j, s, rfl, rfl, hj9, hs, hx⟩ := hrel
    have HS := hid hs
    have hsz : s.size + (dgs j).length ≤ 20 := by
      have e := congrArg List.length hs
      rw [List.length_append] at e
      have e2 : s.data.toList.length = s.size := Array.length_toList
      omega
    clear hs
    by_cases hj : 0 < j
    · have hcv := conv_digit wr (j % 10) ((j : Int) % 10) (by omega) (by omega)
      have hcv0 := conv_digit wr (j % 10) 0
      rw [Int.add_zero] at hcv0
      have r1 : (-(j : Int)).tmod 10 = -((j : Int) % 10) := by rw [Int.neg_tmod]; rfl
      have r2 : (-(j : Int)).tdiv 10 = -((j : Int) / 10) := by rw [Int.neg_tdiv]; rfl
      have r3 : wrap64 (-((j : Int) / 10)) = -((j : Int) / 10) := by unfold wrap64; have := hj9.out; omega
      have HL := hid (show j / 10 < j by omega)
      have hst := dgs_step hj
      have hs2 : s.size ≤ 19 := by rw [hst] at hsz; simp at hsz; omega
      have HS2 : dgs (j / 10) ++ ((⟨#[UInt8.ofNat (48 + j % 10)]⟩ : ByteArray) ++ s).data.toList = Go.Lib.decDigits n.natAbs := by
        rw [← HS.out, hst]; simp
      have HS3 := hid HS2
      clear HS2 hst hsz
      generalize hx9 : UInt8.ofNat (48 + j % 10) = x9 at hcv hcv0 HS3
      clear hx9
      by_cases hm : (j : Int) % 10 = 0
      · have hcv1 := hcv0 (by omega) (by omega)
        clear hcv0
        go_wp2
        go_roundw
        case rel => exact ⟨j / 10, ⟨#[x9]⟩ ++ s, by go_num, rfl, hid (by have := hj9.out; omega), HS3.out, hx.alloc _⟩
        case measure => have := HL.out; simp [intOf]; omega
      · clear hcv0
        go_wp2
        go_roundw
        case rel => exact ⟨j / 10, ⟨#[x9]⟩ ++ s, by go_num, rfl, hid (by have := hj9.out; omega), HS3.out, hx.alloc _⟩
        case measure => have := HL.out; simp [intOf]; omega
    · have hj0 : j = 0 := by omega
      have e0 : (-(j : Int)) = 0 := by omega
      rw [e0]
      subst hj0
      have HE : itoaS n = (⟨#[45]⟩ : ByteArray) ++ s := by
        unfold itoaS
        rw [itoa_neg hneg, ← HS.out, dgs_zero, bytes_cons]; rfl
      have hs2 : s.size ≤ 20 := by omega
      clear hsz
      go_wp2
      go_ret
      exact ⟨by rw [HE]; rfl, (by repeat (first | with_reducible exact Ext.refl _ | with_reducible assumption | with_reducible refine Ext.drew ?_ | with_reducible refine Ext.alloc ?_ _ | with_reducible refine Ext.trans ?_ (by with_reducible assumption)))⟩

set_option maxHeartbeats 400000 in
set_option maxRecDepth 20000 in
theorem spec_FormatInt_pos (n : Int) (w : World) (H63 : Hid (n.natAbs ≤ 9223372036854775807)) (hp : 0 < n)  (hlen : (Go.Lib.decDigits n.natAbs).length ≤ 20) :
    Calls Tryz.prog 86 #[.int .i64 n] w fun e w2 => e = .returned (.string (itoaS n)) ∧ Ext w w2 := by
  have HPOS := hid (show 0 < n.natAbs by omega)
  go_enter Tryz.func86, Tryz.ntmps86
  go_wp2
  go_loopw [0, 3] (fun m o wr => ∃ (j : Nat) (s : ByteArray), m = .int .i64 (j : Int) ∧ o = .string s ∧ Hid (j ≤ 9223372036854775807) ∧ dgs j ++ s.data.toList = Go.Lib.decDigits n.natAbs ∧ Ext w wr) (fun m _ _ => (intOf m).toNat)
  case atStart => exact ⟨n.natAbs, ⟨#[]⟩, by congr 1; omega, rfl, H63, by rw [dgs_pos HPOS.out]; simp, Ext.refl _⟩
  case round =>
    obtain ⟨j, s, rfl, rfl, hj9, hs, hx⟩ := hrel
    have HS := hid hs
    have hsz : s.size + (dgs j).length ≤ 20 := by
      have e := congrArg List.length hs
      rw [List.length_append] at e
      have e2 : s.data.toList.length = s.size := Array.length_toList
      omega
    clear hs
    by_cases hj : 0 < j
    · have hcv := conv_digit wr (j % 10) ((j : Int) % 10) (by omega) (by omega)
      have hjb := hj9.out
      have HL := hid (show j / 10 < j by omega)
      have hst := dgs_step hj
      have hs2 : s.size ≤ 19 := by rw [hst] at hsz; simp at hsz; omega
      have HS2 : dgs (j / 10) ++ ((⟨#[UInt8.ofNat (48 + j % 10)]⟩ : ByteArray) ++ s).data.toList = Go.Lib.decDigits n.natAbs := by
        rw [← HS.out, hst]; simp
      have HS3 := hid HS2
      clear HS2 hst hsz
      generalize hx9 : UInt8.ofNat (48 + j % 10) = x9 at hcv HS3
      clear hx9
      go_wp2
      go_roundw
      case rel => exact ⟨j / 10, ⟨#[x9]⟩ ++ s, by go_num, rfl, hid (by have := hj9.out; omega), HS3.out, hx.alloc _⟩
      case measure => have := HL.out; simp [intOf]; omega
    · have hj0 : j = 0 := by omega
      subst hj0
      have HE : itoaS n = s := by
        unfold itoaS
        rw [itoa_nn (by omega), show n.toNat = n.natAbs by omega, ← HS.out, dgs_zero, List.nil_append, bytes_mk]
      have hs2 : s.size ≤ 20 := by omega
      clear hsz
      go_wp2
      go_ret
      exact ⟨by rw [HE]; rfl, (by repeat (first | with_reducible exact Ext.refl _ | with_reducible assumption | with_reducible refine Ext.drew ?_ | with_reducible refine Ext.alloc ?_ _ | with_reducible refine Ext.trans ?_ (by with_reducible assumption)))⟩

set_option maxHeartbeats 400000 in
theorem spec_FormatInt (n : Int) (w : World) (hn : I64 n) :
    Calls Tryz.prog 86 #[.int .i64 n] w fun e w2 => e = .returned (.string (itoaS n)) ∧ Ext w w2 := by
  have hb := hn.out
  by_cases h0 : n = 0
  · subst h0
    go_enter Tryz.func86, Tryz.ntmps86
    go_wp2
    go_ret
    exact ⟨by unfold itoaS; rw [itoa_nn (by decide), Go.Lib.decDigits]; rfl, Ext.refl _⟩
  · have hlen : (Go.Lib.decDigits n.natAbs).length ≤ 20 := decDigits_len 19 _ (by omega)
    by_cases hneg : n < 0
    · exact spec_FormatInt_neg n w (hid (by omega)) hneg hlen
    · exact spec_FormatInt_pos n w (hid (by omega)) (by omega) hlen
end Go.Proofs.YtfieimmlcopbhaaGreatDoor
