/-
  WALKS: bestValues.
-/
import Derived.Test.YtenfgmpndpgbhaaTab
import Derived.Test.YtenfgmpndpgbhaaBit
namespace Go.Proofs.Ytenfgmpndpgbhaa
open Go.RowKit

theorem zeros_own (W : World) : ∀ n : Nat, OwnCells intO W (List.replicate n (.int .i64 0)) (List.replicate n (0 : Int)) []
  | 0 => .nil
  | n + 1 => by
    simp only [List.replicate_succ]
    exact ⟨[.int .i64 0], _, [], [], rfl, rfl, ⟨⟨rfl, by unfold I64; omega⟩, rfl⟩, zeros_own W n⟩
theorem ownInts (W : World) (n : Nat) (T : TypeId) (hn : n ≤ maxLen) : OwnSl intO (W.alloc (.cells (List.replicate n (.int .i64 0)).toArray T)) (.slice (some ⟨W.heap.size, 0, none⟩) n n) (List.replicate n (0 : Int)) [W.heap.size] := by
  have h := OwnSl.of_blk (R := intO) (xs := List.replicate n (0 : Int)) (F2 := []) (Blk.new W T (List.replicate n (.int .i64 0)).toArray) (by simpa using hn) (zeros_own _ n)
  simpa using h

set_option maxHeartbeats 400000 in
set_option maxRecDepth 20000 in
theorem impl_bestValues (v : Value) (m : List (List Int)) (w : World) (h : Sl (slR intR) w v m) (hok : okMat m = true) :
    Calls Try.prog 69 #[v] w fun e w2 => ∃ g off cap f F, e = .returned (.slice (some ⟨g, off, none⟩) (m.length + 1 : Nat) cap) ∧ OwnSl (slO intO) w2 (.slice (some ⟨g, off, none⟩) (m.length + 1) cap) (tab (m.length + 1) 256 f) F ∧
      (∀ j ≤ m.length, ∀ s < 256, f j s = bv (m.drop j) s) ∧ NewF w F ∧ Ext w w2 := by
  obtain ⟨A, cap, rfl, hm⟩ := h.form
  have hm8 := okMat_len hok
  have HM := hid hok
  clear hok
  obtain ⟨i0, hi0, hz0, hz1, hz2⟩ := info_parts infoInts
  obtain ⟨i1, hi1, hz3, hz4, hz5⟩ := info_parts infoInt
  have hmk := run_mk (P := Try.prog) 22 23 i0 _ [.slice none 0 0] 24 Try.underlying22 hi0 hz0 rfl hz1 hz2 (m.length + 1) (by omega) (by omega)
  rw [flat_rep] at hmk
  simp only [Int.natCast_add, Int.natCast_one] at hmk
  have hmk2 := run_mk (P := Try.prog) 23 3 i1 _ [.int .i64 0] 8 Try.underlying23 hi1 hz3 rfl hz4 hz5 256 (by omega) (by omega)
  rw [flat_rep] at hmk2
  rw [show (((256 : Nat) : Int)) = 256 from rfl] at hmk2
  obtain ⟨Z, hZ⟩ : ∃ Z, Z = (List.replicate 256 (Value.int .i64 0)).toArray := ⟨_, rfl⟩
  rw [← hZ] at hmk2
  have HZ := hid hZ
  obtain ⟨row, hR⟩ : ∃ row, row = List.replicate 256 (0 : Int) := ⟨_, rfl⟩
  have HR := hid hR
  clear hR
  clear hZ
  go_enter Try.func69, Try.ntmps69
  go_wp2
  go_loopw [15] (fun i wr => ∃ (k : Nat) (done : List Value) (F : List Nat), k ≤ m.length + 1 ∧ i = .int .i64 k ∧ Blk wr w.heap.size 23 (done ++ List.replicate (m.length + 1 - k) (.slice none 0 0)) ∧
    OwnCells (slO intO) wr done (List.replicate k row) F ∧ FromF w.heap.size F ∧ Ext w wr) (fun i _ => m.length + 1 - (intOf i).toNat)
  case atStart => exact ⟨0, [], [], Nat.zero_le _, rfl, by rw [List.nil_append, Nat.sub_zero]; have := Blk.new w 23 (Array.replicate (m.length + 1) (.slice none 0 0)); rwa [Array.toList_replicate] at this, .nil, .nil _, (Ext.refl _).alloc _⟩
  case round =>
    obtain ⟨k, done, F, hk, rfl, hblk, hown, hF, hx⟩ := hrel
    by_cases hlt : k < m.length + 1
    · have hz : List.replicate (m.length + 1 - k) (Value.slice none 0 0) = .slice none 0 0 :: List.replicate (m.length + 1 - (k + 1)) (.slice none 0 0) := by
        rw [show m.length + 1 - k = (m.length + 1 - (k + 1)) + 1 by omega, List.replicate_succ]
      rw [hz] at hblk
      clear hz
      have hl : done.length = k := by rw [hown.length, List.length_replicate]; exact Nat.mul_one k
      have hgl := block_lt hblk.out
      have HL := hid hl
      clear hl
      have x2 : Ext wr (wr.alloc (.cells Z 3)) := (Ext.refl _).alloc _
      have ho : OwnSl intO (wr.alloc (.cells Z 3)) (.slice (some ⟨wr.heap.size, 0, none⟩) 256 256) row [wr.heap.size] := by rw [HZ.out, HR.out]; exact ownInts wr 256 _ (by decide)
      have hn : NewF wr [wr.heap.size] := ⟨by simp, by simp⟩
      have hblk2 := hblk.ext x2
      obtain ⟨hcell, hfr⟩ := hblk2.at_ HL.out
      have hst := hblk2.store HL.out (.slice (some ⟨wr.heap.size, 0, none⟩) 256 256)
      obtain ⟨ho3, hF3⟩ := hown.step (w3 := (wr.alloc (.cells Z 3)).setCell ⟨w.heap.size, k, none⟩ (.slice (some ⟨wr.heap.size, 0, none⟩) 256 256)) (R := slO intO) hF x2 ⟨_, rfl, ho⟩ hn hgl (fun b hb => keep_setCell hb)
      clear hblk hblk2 HL
      have hx3 : Ext w ((wr.alloc (.cells Z 3)).setCell ⟨w.heap.size, k, none⟩ (.slice (some ⟨wr.heap.size, 0, none⟩) 256 256)) := (hx.trans x2).setCell (by simp) _
      rw [World.setCell_alloc_past _ _ k _ hgl] at hst ho3 hx3
      have HO := hid ho3
      have HS := hid hst
      have HX := hid hx3
      clear ho3 hst ho hn hx3
      go_wp2
      go_roundw
      case rel => exact ⟨k + 1, _, _, by omega, by go_num, HS.out, by rw [List.replicate_succ']; exact HO.out, hF3, HX.out⟩
      case measure => simp [intOf]; omega
    · have hkk : k = m.length + 1 := by omega
      rw [show m.length + 1 - k = 0 by omega, List.replicate_zero, List.append_nil] at hblk
      rw [hkk, HR.out, tab_zero] at hown
      have hT : OwnSl (slO intO) wr (.slice (some ⟨w.heap.size, 0, none⟩) (m.length + 1) (m.length + 1)) (tab (m.length + 1) 256 fun _ _ => 0) (w.heap.size :: F) := by
        have := OwnSl.of_blk hblk (by rw [tab_len]; unfold maxLen; omega) hown
        rwa [tab_len] at this
      have hNF := hF.new (w := w) rfl
      clear hblk hown hF
      obtain ⟨G, hG⟩ : ∃ G, G = w.heap.size :: F := ⟨_, rfl⟩
      rw [← hG] at hT hNF
      clear hG
      go_wp2
      go_loopw [5] (fun i w2 => ∃ (k : Nat) (f : Nat → Nat → Int), k ≤ m.length ∧ i = .int .i64 ((k : Int) - 1) ∧ OwnSl (slO intO) w2 (.slice (some ⟨w.heap.size, 0, none⟩) (m.length + 1) (m.length + 1)) (tab (m.length + 1) 256 f) G ∧
        (∀ j, k ≤ j → j ≤ m.length → ∀ s < 256, f j s = bv (m.drop j) s) ∧ Ext w w2) (fun i _ => (intOf i + 1).toNat)
      case atStart => exact ⟨m.length, _, Nat.le_refl _, rfl, hT, fun j h1 h2 s _ => by rw [show j = m.length by omega, bv_end], hx⟩
      case round =>
        obtain ⟨k1, f, hk1, rfl, hT, hf, hx1⟩ := hrel
        cases k1 with
        | zero =>
          go_wp2
          go_ret
          exact ⟨_, _, _, f, G, by simp, hT, fun j hj => hf j (Nat.zero_le _) hj, hNF, hx1⟩
        | succ p =>
          have HF := hid hf
          clear hf
          have hp1 : ((p + 1 : Nat) : Int) - 1 = (p : Int) := by omega
          rw [hp1]
          clear hp1
          obtain ⟨b, o2, c2, hc1, hbG, hgb, _, _, _⟩ := tab_at hT hNF.1 (show p < m.length + 1 by omega) (show 0 < 256 by omega)
          rw [Nat.zero_add] at hc1
          go_wp2
          obtain ⟨wo, hwo⟩ : ∃ wo : World, wo = wr := ⟨_, rfl⟩
          go_loopw [35] (fun i w2 => ∃ (s : Nat) (f : Nat → Nat → Int), s ≤ 256 ∧ i = .int .i64 s ∧ OwnSl (slO intO) w2 (.slice (some ⟨w.heap.size, 0, none⟩) (m.length + 1) (m.length + 1)) (tab (m.length + 1) 256 f) G ∧
            (∀ j, p + 1 ≤ j → j ≤ m.length → ∀ s < 256, f j s = bv (m.drop j) s) ∧ (∀ u < s, f p u = bv (m.drop p) u) ∧ Ext w w2) (fun i _ => 256 - (intOf i).toNat)
          case atStart => exact ⟨0, f, by omega, rfl, hT, HF.out, fun u hu => by omega, hx1⟩
          case round =>
            clear hT hc1 hx1 HF
            obtain ⟨s, f, hs, rfl, hT, hf, hfp, hx1⟩ := hrel
            by_cases hlt : s < 256
            · have HF := hid hf
              have HP := hid hfp
              clear hf hfp
              obtain ⟨wd, hwd⟩ : ∃ wd : World, wd = wr.drew := ⟨_, rfl⟩
              have xd : Ext wr wd := by rw [hwd]; exact (Ext.refl _).drew
              obtain ⟨b, o2, c2, hc1, hbG, hgb, hc2, hfr, hst⟩ := tab_at (hT.ext xd) hNF.1 (show p < m.length + 1 by omega) hlt
              obtain ⟨b', o2', c2', hc3, _, _, hc4, _, _⟩ := tab_at (hT.ext xd) hNF.1 (show p + 1 < m.length + 1 by omega) hlt
              rw [Nat.zero_add] at hc1 hc3
              have HS := hid hst
              have HW := hid hwd
              clear hwd
              clear hst
              go_wp2_with fail
              refine wp_region_tail 14 HW.out (by kernel_rfl) (by kernel_rfl) ?_
              simp only [List.take_succ_cons, List.take_zero, List.drop_succ_cons, List.drop_zero]
              repeat (first | go_big_quiet_step ((fail)) | (go_big_quiet_want; go_big_quiet_op; apply Exists.intro; refine ⟨?_, ?_⟩; (fail); go_big_quiet_on))
              refine wpQuiet_nil ?_
              have x3 : ∀ x, Ext w (wd.setCell ⟨b, o2 + s, none⟩ x) := fun x => (hx1.trans xd).setCell (hNF.2 b hbG) x
              obtain ⟨A0, off0, A2, cap2, rfl, hsl, hc0⟩ := h.sl (show p < m.length by omega)
              have hc5 := (x3 (.int .i64 (f (p + 1) s))).cell hc0
              go_wp2
              have hI : I64 (f (p + 1) s) := by rw [HF.out (p + 1) (by omega) (by omega) s hlt]; have := bv_bd (m.drop (p + 1)) s (fun r hr => (okMat_mem HM.out (List.mem_of_mem_drop hr))); have := List.length_drop (i := p + 1) (l := m); unfold I64; omega
              have hT5 := HS.out _ hI
              have x5 := x3 (.int .i64 (f (p + 1) s))
              obtain ⟨w5, hw5⟩ : ∃ w5, w5 = wd.setCell ⟨b, o2 + s, none⟩ (.int .i64 (f (p + 1) s)) := ⟨_, rfl⟩
              rw [← hw5] at hT5 x5 ⊢
              clear hc1 hc2 hc3 hc4 hc5 hfr HS hw5
              have HR := bv_step m p (by omega) s
              have HB := okMat_at HM.out (show p < m.length by omega)
              go_loopw [57] (fun i w2 => ∃ (c : Nat) (f : Nat → Nat → Int), c ≤ m[p].length ∧ i = .int .i64 c ∧ OwnSl (slO intO) w2 (.slice (some ⟨w.heap.size, 0, none⟩) (m.length + 1) (m.length + 1)) (tab (m.length + 1) 256 f) G ∧
                (∀ j, p + 1 ≤ j → j ≤ m.length → ∀ s < 256, f j s = bv (m.drop j) s) ∧ (∀ u < s, f p u = bv (m.drop p) u) ∧ f p s = bvRow (bv (m.drop (p + 1))) s 0 (m[p].take c) (bv (m.drop (p + 1)) s) ∧ Ext w w2) (fun i _ => m[p].length - (intOf i).toNat)
              case atStart =>
                exact ⟨0, _, Nat.zero_le _, rfl, hT5, fun j h1 h2 t ht => by rw [upd_other _ _ (by omega)]; exact HF.out j h1 h2 t ht, fun u hu => by rw [upd_other _ _ (by omega)]; exact HP.out u hu,
                  by rw [upd_same, HF.out (p + 1) (by omega) (by omega) s hlt]; rfl, x5⟩
              case round =>
                clear hT hT5 x5 hx1 HF HP xd hbG hgb x3
                obtain ⟨c, f, hc, rfl, hT, hf, hfp, hfs, hx1⟩ := hrel
                by_cases hcl : c < m[p].length
                · have HF := hid hf
                  have HP := hid hfp
                  have HQ := hid hfs
                  clear hf hfp hfs
                  obtain ⟨b3, off3, rfl, hi3, hc3⟩ := (hsl.mono hx1).int hcl
                  by_cases hv : 0 < m[p][c]
                  · have hbt := bit_test (s := s) (c := c) (by omega)
                    have hc8 : c < 8 := by have := HB.2.1; omega
                    have hvb := HB.2.2 _ (List.getElem_mem hcl)
                    cases hbit : s.testBit c with
                    | true =>
                      rw [hbit, Bool.not_true] at hbt
                      have HV := hid hbit
                      clear hbit
                      go_wp2
                      go_roundw
                      case rel => exact ⟨c + 1, f, by omega, by go_num, hT, HF.out, HP.out, by rw [HQ.out, List.take_succ_eq_append_getElem hcl, bvRow_snoc, if_neg]; rw [List.length_take, Nat.min_eq_left (by omega), Nat.zero_add, HV.out]; simp, hx1⟩
                      case measure => simp [intOf]; omega
                    | false =>
                      rw [hbit, Bool.not_false] at hbt
                      have HV := hid hbit
                      clear hbit
                      have hls : s ||| 1 <<< c < 256 := bit_set_lt (n := 8) hlt hc8
                      have hor := bit_setw (s := s) (c := c) (by omega) (by omega)
                      obtain ⟨t, ht⟩ : ∃ t, t = s ||| 1 <<< c := ⟨_, rfl⟩
                      rw [← ht] at hls hor
                      have HT := hid ht
                      clear ht
                      obtain ⟨wd, hwd⟩ : ∃ wd : World, wd = wr.drew := ⟨_, rfl⟩
                      have xd : Ext wr wd := by rw [hwd]; exact (Ext.refl _).drew
                      obtain ⟨b, o2, c2, hc1, hbG, hgb, hc2, hfr, hst⟩ := tab_at (hT.ext xd) hNF.1 (show p < m.length + 1 by omega) hlt
                      obtain ⟨b', o2', c2', hc6, _, _, hc4, _, _⟩ := tab_at (hT.ext xd) hNF.1 (show p + 1 < m.length + 1 by omega) hls
                      rw [Nat.zero_add] at hc1 hc6
                      have h1 := bv_bd (m.drop (p + 1)) t (fun r hr => (okMat_mem HM.out (List.mem_of_mem_drop hr)))
                      rw [← HF.out (p + 1) (by omega) (by omega) t hls, List.length_drop] at h1
                      have h2 := bvRow_bd (B := 800) (next := bv (m.drop (p + 1))) (fun t => by have := bv_bd (m.drop (p + 1)) t (fun r hr => (okMat_mem HM.out (List.mem_of_mem_drop hr))); have := List.length_drop (i := p + 1) (l := m); omega) s (m[p].take c) 0 (bv (m.drop (p + 1)) s)
                        (fun x hx => HB.2.2 x (List.mem_of_mem_take hx)) (by have := bv_bd (m.drop (p + 1)) s (fun r hr => (okMat_mem HM.out (List.mem_of_mem_drop hr))); have := List.length_drop (i := p + 1) (l := m); omega)
                        (by have := bv_bd (m.drop (p + 1)) s (fun r hr => (okMat_mem HM.out (List.mem_of_mem_drop hr))); have := List.length_drop (i := p + 1) (l := m); omega)
                      rw [← HQ.out] at h2
                      have HS := hid hst
                      have HW := hid hwd
                      clear hwd hst
                      go_wp2_with fail
                      refine wp_region_tail 27 HW.out (by kernel_rfl) (by kernel_rfl) ?_
                      simp only [List.take_succ_cons, List.take_zero, List.drop_succ_cons, List.drop_zero]
                      repeat (first | go_big_quiet_step ((fail)) | (go_big_quiet_want; go_big_quiet_op; apply Exists.intro; refine ⟨?_, ?_⟩; (fail); go_big_quiet_on))
                      refine wpQuiet_nil ?_
                      go_wp2
                      go_roundw
                      case rel =>
                        refine ⟨c + 1, upd f p s _, by omega, by go_num, HS.out _ (by unfold I64; split <;> omega), fun j h1 h2 u hu => ?_, fun u hu => ?_, ?_, (hx1.trans xd).setCell (hNF.2 b hbG) _⟩
                        · rw [upd_other _ _ (by omega)]; exact HF.out j h1 h2 u hu
                        · rw [upd_other _ _ (by omega)]; exact HP.out u hu
                        · have hlc : (m[p].take c).length = c := by rw [List.length_take]; omega
                          rw [upd_same, List.take_succ_eq_append_getElem hcl, bvRow_snoc, hlc, Nat.zero_add, if_pos (And.intro hv HV.out), ← HQ.out, ← HT.out, ← HF.out (p + 1) (by omega) (by omega) t hls, Int.max_def]
                          split <;> split <;> omega
                      case measure => simp [intOf]; omega
                  · go_wp2
                    go_roundw
                    case rel => exact ⟨c + 1, f, by omega, by go_num, hT, HF.out, HP.out, by rw [HQ.out, List.take_succ_eq_append_getElem hcl, bvRow_snoc, if_neg (fun e => hv e.1)], hx1⟩
                    case measure => simp [intOf]; omega
                · go_wp2
                  go_roundw
                  case rel => exact ⟨s + 1, f, by omega, by go_num, hT, hf, fun u hu => by
                    rcases Nat.lt_or_ge u s with h9 | h9
                    · exact hfp u h9
                    · rw [show u = s by omega, hfs, HR, List.take_of_length_le (by omega)], hx1⟩
                  case measure => simp [intOf]; omega
            · go_wp2
              go_roundw
              case rel => exact ⟨p, f, by omega, rfl, hT, fun j h1 h2 u hu => by
                rcases Nat.lt_or_ge p j with h9 | h9
                · exact hf j h9 h2 u hu
                · rw [show j = p by omega]; exact hfp u (by omega), hx1⟩
              case measure => simp [intOf]
end Go.Proofs.Ytenfgmpndpgbhaa
