/-
  WALKS: DecodeEntry (the reference's).
-/
import Derived.Test.YtfieimmlcopbhaaGreatDoorMgEndPD4
import Derived.Test.YtfieimmlcopbhaaGreatDoorMgEndPB7

namespace Go.Proofs.YtfieimmlcopbhaaGreatDoor
open Go.RowKit

set_option maxHeartbeats 4000000 in
set_option maxRecDepth 20000 in
theorem spec_DecodeEntry (s : ByteArray) (w : World) (hs : s.size ≤ 1048576) :
    Calls Tryz.prog 18 #[.string s] w (DecOut w · · (pD s)) := by
  go_enter Tryz.func18, Tryz.ntmps18
  go_wp2
  go_loopw [5] (fun i wr => ∃ a : Nat, a ≤ s.size ∧ i = .int .i64 a ∧ Hid ((91 : UInt8) ∉ s.data.toList.take a) ∧ Blk wr w.heap.size 36 [.slice none 0 0] ∧ Ext w wr) (fun i _ => s.size - (intOf i).toNat)
  case atStart => exact ⟨0, Nat.zero_le _, rfl, hid (by simp), Blk.new w 36 #[.slice none 0 0], (Ext.refl w).alloc _⟩
  case round =>
    obtain ⟨a, hlt9, rfl, hno, bR0, xw0⟩ := hrel
    by_cases hlt : a < s.size
    · have hb := s[a].toNat_lt
      by_cases h91 : s[a] = 91
      · have h91n : s[a].toNat = 91 := by rw [h91]; rfl
        have ha1 : s.data.toList[a]? = some 91 := by rw [Go.Lib.data_getElem? s a hlt, h91]
        have ha := Nat.le_of_lt hlt
        have HNO := hid hno.out
        have HA1 := hid ha1
        clear hno
        have hzr0 : (-1 : Int) ≤ (s.size : Int) - 1 := by omega
        go_wp2
        go_loopw [6] (fun i wr => ∃ z : Int, i = .int .i64 z ∧ -1 ≤ z ∧ z < s.size ∧ Hid (∀ j : Nat, z < j → s.data.toList[j]? ≠ some 93) ∧ Blk wr w.heap.size 36 [.slice none 0 0] ∧ Ext w wr) (fun i _ => (intOf i + 1).toNat)
        case atStart => exact ⟨(s.size : Int) - 1, by go_num, by omega, by omega, hid fun j hj e => by
          obtain ⟨h9, _⟩ := List.getElem?_eq_some_iff.1 e
          rw [Array.length_toList] at h9
          have h8 : j < s.size := h9
          omega, bR0, xw0⟩
        case round =>
          clear bR0 xw0
          obtain ⟨zi, rfl, hzi0, hzi1, HNZ, bR0, xw0⟩ := hrel
          by_cases hza : (a : Int) < zi
          · obtain ⟨z, rfl⟩ : ∃ z : Nat, zi = z := ⟨zi.toNat, by omega⟩
            have hzs : z < s.size := by omega
            have haz : a < z := by omega
            have hb2 := s[z].toNat_lt
            by_cases h93 : s[z] = 93
            · have h93n : s[z].toNat = 93 := by rw [h93]; rfl
              have hz1 : s.data.toList[z]? = some 93 := by rw [Go.Lib.data_getElem? s z hzs, h93]
              replace HNZ := hid (show ∀ j : Nat, z < j → s.data.toList[j]? ≠ some 93 from fun j hj => HNZ.out j (by omega))
              clear h93
              have HA := hid (D_A ha1 HNO.out hz1 HNZ.out)
              have hz : z + 1 ≤ s.size := hzs
              have hne : s ≠ ⟨#[]⟩ := fun e => by rw [e] at hz; exact absurd hz (Nat.not_succ_le_zero _)
              clear hz1
              have hz1 : (s.extract 0 a).size ≤ 1048600 := by rw [ByteArray.size_extract]; omega
              have hz2 : (s.extract a (z + 1)).size ≤ 1048576 := by rw [ByteArray.size_extract]; omega
              go_wp2_with fail
              refine (spec_ParseInt (s.extract 0 a) _ hz1).mono ?_
              rintro e w1 ⟨rfl, x1⟩
              have hI := pI_64 (s.extract 0 a)
              obtain ⟨⟨n, q1⟩, hn⟩ : ∃ r, r = pI (s.extract 0 a) := ⟨_, rfl⟩
              rw [← hn] at HA hI ⊢
              clear hn hz1
              dsimp only at hI ⊢
              have bR1 := bR0.ext x1
              have xw1 := xw0.trans x1
              clear bR0 xw0 x1
              go_wp2_with fail
              refine (spec_ParseBatch (s.extract a (z + 1)) _ hz2).mono ?_
              rintro e w2 ⟨vb, G, rfl, ⟨fv, rfl, _, oG⟩, nG, x2⟩
              obtain ⟨⟨b, q2⟩, hb⟩ : ∃ r, r = pB (s.extract a (z + 1)) := ⟨_, rfl⟩
              rw [← hb] at HA oG ⊢
              clear hb hz2
              dsimp only at oG ⊢
              obtain ⟨Af, cf, rfl, _⟩ := oG.form
              have y2 : Ext w2 (w2.alloc (.cells #[.slice Af b.ops.length cf] 36)) := (Ext.refl w2).alloc _
              have bO := Blk.new w2 36 #[.slice Af b.ops.length cf]
              have bR2 := bR1.ext (x2.trans y2)
              have oG2 := oG.ext y2
              have HLW := hid (show w.heap.size < w2.heap.size from block_lt (bR1.ext x2))
              have nGw := nG.ext xw1
              have hgG : w.heap.size ∉ G := fun h => by have h9 := nG.2 _ h; have h8 := block_lt bR1; omega
              have xw2 := xw1.trans (x2.trans y2)
              clear bR1 xw1 x2 y2 oG nG
              obtain ⟨cO, fO⟩ := bO.cells
              cases q1 with
              | false =>
                have HP := hid (show pD s = ((0, ⟨[]⟩), false) from ans_no fun x k1 k2 => by have h9 := (HA.out x k1 k2).2.1; cases h9)
                clear bO
                obtain ⟨cR, fR⟩ := bR2.cells
                go_wp2
                have b9 : Blk ((w2.alloc (.cells #[.slice Af b.ops.length cf] 36)).setCell ⟨w.heap.size, 0, none⟩ (.slice none 0 0)) w.heap.size 36 [.slice none 0 0] := bR2.setAt 0 (by show 0 < 1; decide) (.slice none 0 0)
                have r0 : ((w2.alloc (.cells #[.slice Af b.ops.length cf] 36)).setCell ⟨w.heap.size, 0, none⟩ (.slice none 0 0)).cell? ⟨w.heap.size, 0, none⟩ = some (.slice none 0 0) := b9.cells.1 0
                have x9 : Ext w ((w2.alloc (.cells #[.slice Af b.ops.length cf] 36)).setCell ⟨w.heap.size, 0, none⟩ (.slice none 0 0)) := xw2.setCell (Nat.le_refl _) _
                refine bodyPost_ret (v := .tuple #[.int .i64 (0), .agg #[.slice none 0 0], .bool false]) (by simp [results, Tryz.results18, go_sem, r0]) rfl ?_
                exact ⟨_, _, by rw [HP.out], by rw [HP.out]; exact ⟨_, rfl, trivial, OwnSl.nilS _ _⟩, NewF.nil _, x9⟩
              | true =>
                cases q2 with
                | false =>
                  have HP := hid (show pD s = ((0, ⟨[]⟩), false) from ans_no fun x k1 k2 => by have h9 := (HA.out x k1 k2).2.2; cases h9)
                  clear bO
                  obtain ⟨cR, fR⟩ := bR2.cells
                  go_wp2
                  have b9 : Blk ((w2.alloc (.cells #[.slice Af b.ops.length cf] 36)).setCell ⟨w.heap.size, 0, none⟩ (.slice none 0 0)) w.heap.size 36 [.slice none 0 0] := bR2.setAt 0 (by show 0 < 1; decide) (.slice none 0 0)
                  have r0 : ((w2.alloc (.cells #[.slice Af b.ops.length cf] 36)).setCell ⟨w.heap.size, 0, none⟩ (.slice none 0 0)).cell? ⟨w.heap.size, 0, none⟩ = some (.slice none 0 0) := b9.cells.1 0
                  have x9 : Ext w ((w2.alloc (.cells #[.slice Af b.ops.length cf] 36)).setCell ⟨w.heap.size, 0, none⟩ (.slice none 0 0)) := xw2.setCell (Nat.le_refl _) _
                  refine bodyPost_ret (v := .tuple #[.int .i64 (0), .agg #[.slice none 0 0], .bool false]) (by simp [results, Tryz.results18, go_sem, r0]) rfl ?_
                  exact ⟨_, _, by rw [HP.out], by rw [HP.out]; exact ⟨_, rfl, trivial, OwnSl.nilS _ _⟩, NewF.nil _, x9⟩
                | true =>
                  go_wp2_with fail
                  refine (spec_EncodeEntry n _ b _ hI ⟨_, rfl, trivial, oG2.sl⟩).mono ?_
                  rintro e w3 ⟨rfl, x3⟩
                  have bO3 := bO.ext x3
                  have bR3 := bR2.ext x3
                  have oG3 := oG2.ext x3
                  have xw3 := xw2.trans x3
                  clear bO bR2 oG2 xw2 x3 cO fO
                  obtain ⟨cO, fO⟩ := bO3.cells
                  by_cases hq : encE n b = s
                  · have hq1 := str_eq hq
                    have hq2 : (encE n b).toList = s.toList := by rw [hq]
                    have HPP := hid (show pD s = ((n, b), true) from ans_yes (fun x k1 k2 => (HA.out x k1 k2).1) (fmtEn_ok hq hne) hq)
                    clear hq
                    obtain ⟨cR, fR⟩ := bR3.cells
                    have hn1 : ¬ w.heap.size = w2.heap.size := Nat.ne_of_lt HLW.out
                    have hn2 : ¬ w2.heap.size = w.heap.size := fun e => hn1 e.symm
                    have c0 := cO 0
                    have c1 := cR 0
                    have f1 := fR 0
                    go_wp2
                    go_region
                    have b9 := (bR3.setAt 0 (by show 0 < 1; decide) (.slice Af b.ops.length cf)).ext (Ext.refl _).drew
                    have r0 : ((w3.setCell ⟨w.heap.size, 0, none⟩ (.slice Af b.ops.length cf)).drew).cell? ⟨w.heap.size, 0, none⟩ = some (.slice Af b.ops.length cf) := b9.cells.1 0
                    have x9 : Ext w ((w3.setCell ⟨w.heap.size, 0, none⟩ (.slice Af b.ops.length cf)).drew) := (xw3.setCell (Nat.le_refl _) _).drew
                    have o9 := (oG3.setCell (p := ⟨w.heap.size, 0, none⟩) hgG (.slice Af b.ops.length cf)).ext (Ext.refl _).drew
                    clear b9 bO3 bR3 oG3 xw3 c0 c1 f1 cO fO cR fR hn1 hn2
                    go_wp2
                    refine bodyPost_ret (v := .tuple #[.int .i64 n, .agg #[.slice Af b.ops.length cf], .bool true]) (by simp [results, Tryz.results18, go_sem, r0]) rfl ?_
                    exact ⟨_, _, by rw [HPP.out], by rw [HPP.out]; exact ⟨_, rfl, trivial, o9⟩, nGw, x9⟩
                  · have hq1 := str_ne hq
                    have HPP := hid (show pD s = ((0, ⟨[]⟩), false) from ans_end (fun x k1 k2 => (HA.out x k1 k2).1) hq)
                    clear hq bO3
                    obtain ⟨cR, fR⟩ := bR3.cells
                    go_wp2
                    have b9 : Blk (w3.setCell ⟨w.heap.size, 0, none⟩ (.slice none 0 0)) w.heap.size 36 [.slice none 0 0] := bR3.setAt 0 (by show 0 < 1; decide) (.slice none 0 0)
                    have r0 : (w3.setCell ⟨w.heap.size, 0, none⟩ (.slice none 0 0)).cell? ⟨w.heap.size, 0, none⟩ = some (.slice none 0 0) := b9.cells.1 0
                    have x9 : Ext w (w3.setCell ⟨w.heap.size, 0, none⟩ (.slice none 0 0)) := xw3.setCell (Nat.le_refl _) _
                    refine bodyPost_ret (v := .tuple #[.int .i64 (0), .agg #[.slice none 0 0], .bool false]) (by simp [results, Tryz.results18, go_sem, r0]) rfl ?_
                    exact ⟨_, _, by rw [HPP.out], by rw [HPP.out]; exact ⟨_, rfl, trivial, OwnSl.nilS _ _⟩, NewF.nil _, x9⟩
            · have h93n : ¬ s[z].toNat = 93 := fun e => h93 (UInt8.toNat_inj.1 e)
              have hnew := hid (show ∀ j : Nat, (z : Int) - 1 < j → s.data.toList[j]? ≠ some 93 from fun j hj => by
                by_cases hj2 : j = z
                · subst hj2
                  rw [Go.Lib.data_getElem? s j hzs]
                  exact fun e => h93 (Option.some.inj e)
                · exact HNZ.out j (by omega))
              clear h93
              go_wp2
              go_roundw
              case rel => exact ⟨(z : Int) - 1, by go_num, by omega, by omega, hnew, bR0, xw0⟩
              case measure => simp [intOf] <;> omega
          · have HP := hid (D_noLt (z := a) HNO.out (fun j hj => HNZ.out j (by omega)) (Nat.le_refl a))
            clear HNZ
            obtain ⟨cR, fR⟩ := bR0.cells
            go_wp2
            have b9 : Blk (wr.setCell ⟨w.heap.size, 0, none⟩ (.slice none 0 0)) w.heap.size 36 [.slice none 0 0] := bR0.setAt 0 (by show 0 < 1; decide) (.slice none 0 0)
            have r0 : (wr.setCell ⟨w.heap.size, 0, none⟩ (.slice none 0 0)).cell? ⟨w.heap.size, 0, none⟩ = some (.slice none 0 0) := b9.cells.1 0
            have x9 : Ext w (wr.setCell ⟨w.heap.size, 0, none⟩ (.slice none 0 0)) := xw0.setCell (Nat.le_refl _) _
            refine bodyPost_ret (v := .tuple #[.int .i64 (0), .agg #[.slice none 0 0], .bool false]) (by simp [results, Tryz.results18, go_sem, r0]) rfl ?_
            exact ⟨_, _, by rw [HP.out], by rw [HP.out]; exact ⟨_, rfl, trivial, OwnSl.nilS _ _⟩, NewF.nil _, x9⟩
      · have h91n : ¬ s[a].toNat = 91 := fun e => h91 (UInt8.toNat_inj.1 e)
        have hnew := hid (show (91 : UInt8) ∉ s.data.toList.take (a + 1) from by
          rw [take_sB s a hlt, List.mem_append, List.mem_singleton]
          rintro (h | h)
          · exact hno.out h
          · exact h91 h.symm)
        clear h91
        go_wp2
        go_roundw
        case rel => exact ⟨a + 1, by omega, by go_num, hnew, bR0, xw0⟩
        case measure => simp [intOf]; omega
    · have hae : a = s.size := by omega
      have ha := hlt9
      have HNO := hid hno.out
      have HA1 := hid True.intro
      clear hno
      have hzr0 : (-1 : Int) ≤ (s.size : Int) - 1 := by omega
      go_wp2
      go_loopw [6] (fun i wr => ∃ z : Int, i = .int .i64 z ∧ -1 ≤ z ∧ z < s.size ∧ Hid (∀ j : Nat, z < j → s.data.toList[j]? ≠ some 93) ∧ Blk wr w.heap.size 36 [.slice none 0 0] ∧ Ext w wr) (fun i _ => (intOf i + 1).toNat)
      case atStart => exact ⟨(s.size : Int) - 1, by go_num, by omega, by omega, hid fun j hj e => by
        obtain ⟨h9, _⟩ := List.getElem?_eq_some_iff.1 e
        rw [Array.length_toList] at h9
        have h8 : j < s.size := h9
        omega, bR0, xw0⟩
      case round =>
        clear bR0 xw0
        obtain ⟨zi, rfl, hzi0, hzi1, HNZ, bR0, xw0⟩ := hrel
        by_cases hza : (a : Int) < zi
        · exfalso; omega
        · have HP := hid (D_noLt (z := a) HNO.out (fun j hj => HNZ.out j (by omega)) (Nat.le_refl a))
          clear HNZ
          obtain ⟨cR, fR⟩ := bR0.cells
          go_wp2
          have b9 : Blk (wr.setCell ⟨w.heap.size, 0, none⟩ (.slice none 0 0)) w.heap.size 36 [.slice none 0 0] := bR0.setAt 0 (by show 0 < 1; decide) (.slice none 0 0)
          have r0 : (wr.setCell ⟨w.heap.size, 0, none⟩ (.slice none 0 0)).cell? ⟨w.heap.size, 0, none⟩ = some (.slice none 0 0) := b9.cells.1 0
          have x9 : Ext w (wr.setCell ⟨w.heap.size, 0, none⟩ (.slice none 0 0)) := xw0.setCell (Nat.le_refl _) _
          refine bodyPost_ret (v := .tuple #[.int .i64 (0), .agg #[.slice none 0 0], .bool false]) (by simp [results, Tryz.results18, go_sem, r0]) rfl ?_
          exact ⟨_, _, by rw [HP.out], by rw [HP.out]; exact ⟨_, rfl, trivial, OwnSl.nilS _ _⟩, NewF.nil _, x9⟩

end Go.Proofs.YtfieimmlcopbhaaGreatDoor
