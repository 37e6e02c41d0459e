/-
  WALKS: l25Table.
-/
import Derived.Test.YtenfgmpndpgbhaaTabI
namespace Go.Proofs.Ytenfgmpndpgbhaa
open Go.RowKit

set_option maxHeartbeats 400000 in
set_option maxRecDepth 20000 in
theorem spec_l25Table (v : Value) (m : List (List Int)) (w : World) (h : Sl (slR intR) w v m) (hok : okMat m = true) :
    Calls Try.prog 68 #[v] w fun e w2 => ∃ g off cap f F, e = .returned (.slice (some ⟨g, off, none⟩) (m.length + 1 : Nat) cap) ∧ OwnSl (slO intO) w2 (.slice (some ⟨g, off, none⟩) (m.length + 1) cap) (tab (m.length + 1) (2 ^ width m) f) F ∧
      (∀ j ≤ m.length, ∀ s < 2 ^ width m, f j s = bv (m.drop j) s) ∧ NewF w F ∧ Ext w w2 := by
  obtain ⟨A, cap, rfl, hm⟩ := h.form
  have hm8 := okMat_len hok
  have HM := hid hok
  have hwd8 : width m ≤ 8 := by
    by_cases h0 : 0 < m.length
    · rw [width_eq m h0]; exact (okMat_at hok h0).2.1
    · rw [List.eq_nil_of_length_eq_zero (by omega : m.length = 0)]; decide
  clear hok
  obtain ⟨i0, hi0, hz0, hz1, hz2⟩ := info_parts infoInts
  obtain ⟨i1, hi1, hz3, hz4, hz5⟩ := info_parts infoInt
  obtain ⟨N, hN⟩ : ∃ N, N = 2 ^ width m := ⟨_, rfl⟩
  have hN1 : 0 < N ∧ N ≤ 256 := by
    rw [hN]; exact ⟨Nat.pow_pos (by decide), Nat.le_trans (Nat.pow_le_pow_right (by decide) hwd8) (by decide)⟩
  have hNw : wrap64 (2 ^ width m) = (N : Int) := by rw [wrap64_pow (by omega), hN, Int.natCast_pow]; rfl
  have hmk := run_mk (P := Try.prog) 23 3 i1 _ [.int .i64 0] 8 Try.underlying23 hi1 hz3 rfl hz4 hz5 N (by omega) (by omega)
  rw [flat_rep] at hmk
  rw [← hN]
  have HN := hid hN
  clear hN
  obtain ⟨Z, hZ⟩ : ∃ Z, Z = (List.replicate N (Value.int .i64 0)).toArray := ⟨_, rfl⟩
  rw [← hZ] at hmk
  have HZ := hid hZ
  clear hZ
  obtain ⟨row, hR⟩ : ∃ row, row = List.replicate N (0 : Int) := ⟨_, rfl⟩
  have HR := hid hR
  clear hR
  by_cases h0 : 0 < m.length
  · obtain ⟨b, off, A0, cap0, rfl, hs0, hc0⟩ := h.sl h0
    rw [← width_eq m h0] at hs0 hc0
    rw [Nat.add_zero] at hc0
    go_enter Try.func68, Try.ntmps68
    go_wp2
    go_loopw [4, 5] (fun t i wr => ∃ (k : Nat) (F : List Nat), k ≤ m.length + 1 ∧ i = .int .i64 k ∧ Bld (slO intO) wr w.heap.size 23 t (List.replicate k row) F ∧ Ext w wr) (fun _ i _ => m.length + 1 - (intOf i).toNat)
    case atStart => exact ⟨0, [], by omega, rfl, Bld.lit w (Nat.le_refl _) _, (Ext.refl _).alloc _⟩
    case round =>
      obtain ⟨k, F, hk, rfl, hB, hx⟩ := hrel
      by_cases hlt : k < m.length + 1
      · have x1 : Ext wr (wr.alloc (.cells Z 3)) := (Ext.refl _).alloc _
        have ho : OwnSl intO (wr.alloc (.cells Z 3)) (.slice (some ⟨wr.heap.size, 0, none⟩) N N) row [wr.heap.size] := by rw [HZ.out, HR.out]; exact ownInts wr N _ (by unfold maxLen; omega)
        have hn : NewF wr [wr.heap.size] := ⟨by simp, by simp⟩
        have x2 : Ext wr ((wr.alloc (.cells Z 3)).alloc (.cells #[.slice (some ⟨wr.heap.size, 0, none⟩) N N] 23)) := x1.alloc _
        have hcc := cell_one_new (wr.alloc (.cells Z 3)) (.slice (some ⟨wr.heap.size, 0, none⟩) N N) 23
        have hl : (List.replicate k row).length = k := List.length_replicate
        rw [World.size_alloc] at hcc
        go_wp2_with (at_builtin; refine wpList_app rfl _ _ 22 rfl w.heap.size 23 i0 (.slice none 0 0) 24 Try.underlying22 hi0 hz0 hz1 hz2 rfl (by decide) (hB.ext x2) rfl ⟨wr.heap.size + 1, 0, none⟩ 1 rfl hcc (by simp [Value.oneCell']) (y := row) ⟨_, rfl, ho.ext ((Ext.refl _).alloc _)⟩ (hB.fresh hn hx.size) (by rw [hl]; unfold maxLen; omega) (by rw [hl]; omega) (Nat.le_trans hx.size x2.size) ?_; intro v2 w2 hB2 hE2)
        go_roundw
        case rel => exact ⟨k + 1, _, by omega, by go_num, by rw [List.replicate_succ']; exact hB2, hE2 w (Nat.le_refl _) (hx.trans x2)⟩
        case measure => simp [intOf]; omega
      · have hkk : k = m.length + 1 := by omega
        rw [hkk, HR.out, tab_zero] at hB
        obtain ⟨G, hT, hN3, hN4⟩ := hB.done
        have hNF : NewF w G := ⟨hN3, hN4⟩
        clear hN3 hN4 hB
        rcases hT with ⟨h9, _⟩ | hT9
        · have := congrArg List.length h9
          rw [tab_len] at this
          simp at this
        have hT : OwnSl (slO intO) wr _ _ _ := .inr hT9
        obtain ⟨g, off, capt, _, _, _, rfl, _⟩ := hT9
        rw [tab_len] at hT
        rw [tab_len]
        go_wp2
        go_loopw [6] (fun i w2 => ∃ (k : Nat) (f : Nat → Nat → Int), k ≤ m.length ∧ i = .int .i64 ((k : Int) - 1) ∧ OwnSl (slO intO) w2 (.slice (some ⟨g, off, none⟩) (m.length + 1) capt) (tab (m.length + 1) N f) G ∧
          (∀ j, k ≤ j → j ≤ m.length → ∀ s < N, f j s = bv (m.drop j) s) ∧ Ext w w2) (fun i _ => (intOf i + 1).toNat)
        case atStart => exact ⟨m.length, _, Nat.le_refl _, rfl, hT, fun j h1 h2 s _ => by rw [show j = m.length by omega, bv_end], hx⟩
        case round =>
          obtain ⟨k1, f, hk1, rfl, hT, hf, hx1⟩ := hrel
          cases k1 with
          | zero =>
            go_wp2
            go_ret
            exact ⟨_, _, _, f, G, by simp, hT, fun j hj => hf j (Nat.zero_le _) hj, hNF, hx1⟩
          | succ p =>
            have hp1 : ((p + 1 : Nat) : Int) - 1 = (p : Int) := by omega
            rw [hp1]
            clear hp1
            go_wp2
            go_loopw [7] (fun i w2 => ∃ (s : Nat) (f : Nat → Nat → Int), s ≤ N ∧ i = .int .i64 s ∧ OwnSl (slO intO) w2 (.slice (some ⟨g, off, none⟩) (m.length + 1) capt) (tab (m.length + 1) N f) G ∧
              (∀ j, p + 1 ≤ j → j ≤ m.length → ∀ s < N, f j s = bv (m.drop j) s) ∧ (∀ u < s, f p u = bv (m.drop p) u) ∧ Ext w w2) (fun i _ => N - (intOf i).toNat)
            case atStart => exact ⟨0, f, by omega, rfl, hT, hf, fun u hu => by omega, hx1⟩
            case round =>
              clear hT hx1 hf
              obtain ⟨s, f, hs, rfl, hT, hf, hfp, hx1⟩ := hrel
              by_cases hlt : s < N
              · obtain ⟨b1, o1, c1, hc1, _, _, hc2, _, _⟩ := tab_at hT hNF.1 (show p + 1 < m.length + 1 by omega) hlt
                have hfs := hf (p + 1) (by omega) (by omega) s hlt
                have HFS := hid hfs
                have HF := hid hf
                have HP := hid hfp
                clear hf hfp hfs
                go_wp2
                obtain ⟨b2, off2, A2, cap2, e2, hsl, hc3⟩ := h.sl (show p < m.length by omega)
                cases e2
                have HR2 := bv_step m p (by omega) s
                have HB := okMat_at HM.out (show p < m.length by omega)
                have hbb := bv_bd (m.drop (p + 1)) s (fun r hr => (okMat_mem HM.out (List.mem_of_mem_drop hr)))
                rw [List.length_drop] at hbb
                obtain ⟨wo, hwo⟩ : ∃ wo : World, wo = wr := ⟨_, rfl⟩
                rw [← hwo] at hT hx1
                go_loopw [8, 9] (fun bb i w2 => ∃ (c : Nat), c ≤ m[p].length ∧ i = .int .i64 c ∧ bb = .int .i64 (bvRow (bv (m.drop (p + 1))) s 0 (m[p].take c) (bv (m.drop (p + 1)) s)) ∧ Ext wo w2) (fun _ i _ => m[p].length - (intOf i).toNat)
                case atStart => exact ⟨0, Nat.zero_le _, rfl, by rw [HFS.out]; rfl, Ext.of_eq hwo⟩
                case round =>
                  clear hwo hc1 hc2
                  obtain ⟨c, hc, rfl, rfl, hx2⟩ := hrel
                  have hw9 := HB.1
                  by_cases hcl : c < m[p].length
                  · have hcw : c < width m := by omega
                    obtain ⟨b3, off3, rfl, hi3, hc5⟩ := (hsl.mono (hx1.trans hx2)).int hcl
                    have hc4 := (hx1.trans hx2).cell hc3
                    have hbt := bit_test (s := s) (c := c) (by omega)
                    have hvb := HB.2.2 _ (List.getElem_mem hcl)
                    have hc8 : c < 8 := by have := HB.2.1; omega
                    have hlc : (m[p].take c).length = c := by rw [List.length_take]; omega
                    have hsn := bvRow_snoc (bv (m.drop (p + 1))) s (m[p].take c) 0 (bv (m.drop (p + 1)) s) m[p][c]
                    rw [← List.take_succ_eq_append_getElem hcl, hlc, Nat.zero_add] at hsn
                    have HS := hid hsn
                    have HC := hid hlc
                    have HW9 := hid hw9
                    clear hsn hlc hw9
                    cases hbit : s.testBit c with
                    | true =>
                      rw [hbit, Bool.not_true] at hbt
                      have HV := hid hbit
                      clear hbit
                      go_wp2
                      go_roundw
                      case rel => exact ⟨c + 1, by omega, by go_num, by rw [HS.out, if_neg]; rw [HV.out]; simp, hx2⟩
                      case measure => simp [intOf]; omega
                    | false =>
                      rw [hbit, Bool.not_false] at hbt
                      have HV := hid hbit
                      clear hbit
                      by_cases hv : 0 < m[p][c]
                      · have hls : s ||| 1 <<< c < N := by rw [HN.out]; exact bit_set_lt (by rw [← HN.out]; exact hlt) hcw
                        have hor := bit_setw (s := s) (c := c) (by omega) (by omega)
                        obtain ⟨t, ht⟩ : ∃ t, t = s ||| 1 <<< c := ⟨_, rfl⟩
                        rw [← ht] at hls hor
                        have HT := hid ht
                        clear ht
                        have hcz4 : ∀ z : ExtOf wr, z.1.cell? ⟨b, _, none⟩ = _ := fun z => z.2.cell hc4
                        have hcz5 : ∀ z : ExtOf wr, z.1.cell? ⟨b3, off3 + c, none⟩ = _ := fun z => z.2.cell hc5
                        obtain ⟨b', o2', c2', hc6, _, _, hc7, _, _⟩ := tab_at (hT.ext hx2) hNF.1 (show p + 1 < m.length + 1 by omega) hls
                        have hcz6 : ∀ z : ExtOf wr, z.1.cell? ⟨g, off + (p + 1), none⟩ = _ := fun z => z.2.cell hc6
                        have hcz7 : ∀ z : ExtOf wr, z.1.cell? ⟨b', o2' + t, none⟩ = _ := fun z => z.2.cell hc7
                        have h1 := bv_bd (m.drop (p + 1)) t (fun r hr => (okMat_mem HM.out (List.mem_of_mem_drop hr)))
                        rw [← HF.out (p + 1) (by omega) (by omega) t hls, List.length_drop] at h1
                        obtain ⟨acc, hacc⟩ : ∃ acc, acc = bvRow (bv (m.drop (p + 1))) s 0 (m[p].take c) (bv (m.drop (p + 1)) s) := ⟨_, rfl⟩
                        rw [← hacc]
                        have HA := hid hacc
                        clear hacc
                        go_wp2_with fail
                        refine wp_region_ext (by kernel_rfl) (by kernel_rfl) ?_
                        repeat (go_big_quiet_step ((fail)))
                        refine wpQuiet_nil ?_
                        rintro w3 ⟨⟨_, x3⟩, rfl⟩
                        go_wp2
                        go_roundw
                        case rel =>
                          refine ⟨c + 1, by omega, by go_num, ?_, hx2.trans x3⟩
                          rw [HS.out, if_pos (And.intro hv HV.out), ← HA.out, ← HT.out, ← HF.out (p + 1) (by omega) (by omega) t hls, Int.max_def]
                          congr 1
                          split <;> split <;> omega
                        case measure => simp [intOf]; omega
                      · go_wp2
                        go_roundw
                        case rel => exact ⟨c + 1, by omega, by go_num, by rw [HS.out, if_neg (fun e => hv e.1)], hx2⟩
                        case measure => simp [intOf]; omega
                  · have hcw : ¬ c < width m := by omega
                    rw [List.take_of_length_le (show m[p].length ≤ c by omega), ← HR2]
                    clear HR2
                    obtain ⟨b8, o8, c8, hc8, hbG, _, _, hfr, hst⟩ := tab_at (hT.ext hx2) hNF.1 (show p < m.length + 1 by omega) hlt
                    have hI : I64 (bv (m.drop p) s) := by have := bv_bd (m.drop p) s (fun r hr => (okMat_mem HM.out (List.mem_of_mem_drop hr))); have := List.length_drop (i := p) (l := m); unfold I64; omega
                    have hT8 := hst _ hI
                    have HT8 := hid hT8
                    clear hT8 hst
                    go_wp2
                    go_roundw
                    case rel =>
                      refine ⟨s + 1, _, by omega, by go_num, HT8.out, fun j h1 h2 u hu => ?_, fun u hu => ?_, (hx1.trans hx2).setCell (hNF.2 b8 hbG) _⟩
                      · rw [upd_other _ _ (by omega)]; exact HF.out j h1 h2 u hu
                      · by_cases h9 : u = s
                        · rw [h9, upd_same]
                        · rw [upd_other _ _ (by omega)]; exact HP.out u (by omega)
                    case measure => simp [intOf]; omega
              · go_wp2
                go_roundw
                case rel => exact ⟨p, f, by omega, rfl, hT, fun j h1 h2 u hu => by
                  rcases Nat.lt_or_ge p j with h9 | h9
                  · exact hf j h9 h2 u hu
                  · rw [show j = p by omega]; exact hfp u (by omega), hx1⟩
                case measure => simp [intOf]
  · have hm0 : m = [] := List.eq_nil_of_length_eq_zero (by omega)
    have hN9 : N = 1 := by rw [HN.out, hm0]; rfl
    have HM0 := hid hm0
    clear hm0 hN1 hNw
    subst hN9
    have hl0 : m.length = 0 := by omega
    rw [show ((1 : Nat) : Int) = 1 from rfl] at hmk
    rw [hl0]
    clear h0
    simp only [hl0] at h hm hm8
    go_enter Try.func68, Try.ntmps68
    go_wp2
    go_loopw [4, 5] (fun t i wr => ∃ (k : Nat) (F : List Nat), k ≤ 1 ∧ i = .int .i64 k ∧ Bld (slO intO) wr w.heap.size 23 t (List.replicate k row) F ∧ Ext w wr) (fun _ i _ => 1 - (intOf i).toNat)
    case atStart => exact ⟨0, [], by omega, rfl, Bld.lit w (Nat.le_refl _) _, (Ext.refl _).alloc _⟩
    case round =>
      obtain ⟨k, F, hk, rfl, hB, hx⟩ := hrel
      by_cases hlt : k < 1
      · have x1 : Ext wr (wr.alloc (.cells Z 3)) := (Ext.refl _).alloc _
        have ho : OwnSl intO (wr.alloc (.cells Z 3)) (.slice (some ⟨wr.heap.size, 0, none⟩) 1 1) row [wr.heap.size] := by rw [HZ.out, HR.out]; exact ownInts wr 1 _ (by unfold maxLen; omega)
        have hn : NewF wr [wr.heap.size] := ⟨by simp, by simp⟩
        have x2 : Ext wr ((wr.alloc (.cells Z 3)).alloc (.cells #[.slice (some ⟨wr.heap.size, 0, none⟩) 1 1] 23)) := x1.alloc _
        have hcc := cell_one_new (wr.alloc (.cells Z 3)) (.slice (some ⟨wr.heap.size, 0, none⟩) 1 1) 23
        have hl : (List.replicate k row).length = k := List.length_replicate
        rw [World.size_alloc] at hcc
        go_wp2_with (at_builtin; refine wpList_app rfl _ _ 22 rfl w.heap.size 23 i0 (.slice none 0 0) 24 Try.underlying22 hi0 hz0 hz1 hz2 rfl (by decide) (hB.ext x2) rfl ⟨wr.heap.size + 1, 0, none⟩ 1 rfl hcc (by simp [Value.oneCell']) (y := row) ⟨_, rfl, ho.ext ((Ext.refl _).alloc _)⟩ (hB.fresh hn hx.size) (by rw [hl]; unfold maxLen; omega) (by rw [hl]; omega) (Nat.le_trans hx.size x2.size) ?_; intro v2 w2 hB2 hE2)
        go_roundw
        case rel => exact ⟨k + 1, _, by omega, by go_num, by rw [List.replicate_succ']; exact hB2, hE2 w (Nat.le_refl _) (hx.trans x2)⟩
        case measure => simp [intOf]; omega
      · have hkk : k = 0 + 1 := by omega
        rw [hkk, HR.out, tab_zero] at hB
        obtain ⟨G, hT, hN3, hN4⟩ := hB.done
        have hNF : NewF w G := ⟨hN3, hN4⟩
        clear hN3 hN4 hB
        rcases hT with ⟨h9, _⟩ | hT9
        · have := congrArg List.length h9
          rw [tab_len] at this
          simp at this
        have hT : OwnSl (slO intO) wr _ _ _ := .inr hT9
        obtain ⟨g, off, capt, _, _, _, rfl, _⟩ := hT9
        rw [tab_len] at hT
        rw [tab_len]
        go_wp2
        go_loopw [6] (fun i w2 => i = .int .i64 (-1) ∧ w2 = wr) (fun _ _ => 0)
        case atStart => exact ⟨rfl, rfl⟩
        case round =>
          obtain ⟨rfl, rfl⟩ := hrel
          go_wp2
          go_ret
          exact ⟨_, _, _, _, G, rfl, hT, fun j hj s _ => by rw [HM0.out, List.drop_nil, bv], hNF, hx⟩
end Go.Proofs.Ytenfgmpndpgbhaa
