/-
  WALKS: DecodeEntry (the program's).
-/
import Derived.Test.YtfieimmlcopbhaaGreatDoorMgEndPD3
import Derived.Test.YtfieimmlcopbhaaGreatDoorMgEndPB6
import Derived.Test.YtfieimmlcopbhaaGreatDoorMgEndPO0
import Derived.Test.YtfieimmlcopbhaaGreatDoorMgEndPD0

namespace Go.Proofs.YtfieimmlcopbhaaGreatDoor
open Go.RowKit

/-- what DecodeEntry hands back -/
def DecOut (w : World) (e : Ending) (w2 : World) (r : (Int × Batch) × Bool) : Prop := ∃ v F, e = .returned (.tuple #[.int .i64 r.1.1, v, .bool r.2]) ∧ BatOwn w2 v r.1.2 F ∧ NewF w F ∧ Ext w w2
theorem strings_IndexByte_c (s : ByteArray) (c : UInt8) (n : Int) (w : World) (hn : n = c.toNat) :
    Calls Tryz.prog 61 #[.string s, .int .u8 n] w fun e w2 => e = .returned (.int .i64 (Go.Lib.indexByte s.data.toList c)) ∧ w2 = w := by
  subst hn
  have h := Any.strings_IndexByte lShIdxB s c.toNat w
  have e : (c.toNat : Int).toNat.toUInt8 = c := by simp
  rw [e] at h
  exact h
theorem strings_LastIndexByte_c (s : ByteArray) (c : Int) (w : World) (hs : s.size < 4611686018427387904) :
    Calls Tryz.prog 62 #[.string s, .int .u8 c] w fun e w2 => e = .returned (.int .i64 (Go.Lib.lastIndexByte s c)) ∧ w2 = w := Any.strings_LastIndexByte lShLastB s c hs w

set_option maxHeartbeats 4000000 in
set_option maxRecDepth 20000 in
theorem impl_DecodeEntry (s : ByteArray) (w : World) (hs : s.size ≤ 1048576) (N : Env w) :
    Calls Tryz.prog 19 #[.string s] w (DecOut w · · (pD s)) := by
  have xw0 : Ext w (w.alloc (.cells #[.slice none 0 0] 36)) := (Ext.refl w).alloc _
  have bR0 := Blk.new w 36 #[.slice none 0 0]
  go_enter Tryz.func19, Tryz.ntmps19
  rcases idx_cases s.data.toList 91 with ⟨e1, hno⟩ | ⟨a, e1, ha1, hta⟩
  · have HP := hid (D_no91 hno)
    clear hno
    rcases last_cases s with ⟨e2, _⟩ | ⟨z, e2, _, _, _⟩
    all_goals
      go_wp2_with fail
      refine (strings_IndexByte_c s 91 91 _ (by rfl)).mono ?_
      rintro e w1 ⟨rfl, rfl⟩
      rw [e1]
      go_wp2_with fail
      refine (strings_LastIndexByte_c s 93 _ (by omega)).mono ?_
      rintro e w1 ⟨rfl, rfl⟩
      rw [e2]
      obtain ⟨cR, fR⟩ := bR0.cells
      have r0 : (w.alloc (.cells #[.slice none 0 0] 36)).cell? ⟨w.heap.size, 0, none⟩ = some (.slice none 0 0) := bR0.cells.1 0
      go_wp2
      refine bodyPost_ret (v := .tuple #[.int .i64 (0), .agg #[.slice none 0 0], .bool false]) (by simp [results, Tryz.results19, go_sem, r0]) rfl ?_
      exact ⟨_, _, by rw [HP.out], by rw [HP.out]; exact ⟨_, rfl, trivial, OwnSl.nilS _ _⟩, NewF.nil _, xw0⟩
  · rcases last_cases s with ⟨e2, hno⟩ | ⟨z, e2, hzs, hz1, htz⟩
    · have HP := hid (D_no93 hno)
      clear hno
      have hlt : (-1 : Int) < (a : Int) := by omega
      go_wp2_with fail
      refine (strings_IndexByte_c s 91 91 _ (by rfl)).mono ?_
      rintro e w1 ⟨rfl, rfl⟩
      rw [e1]
      go_wp2_with fail
      refine (strings_LastIndexByte_c s 93 _ (by omega)).mono ?_
      rintro e w1 ⟨rfl, rfl⟩
      rw [e2]
      obtain ⟨cR, fR⟩ := bR0.cells
      have r0 : (w.alloc (.cells #[.slice none 0 0] 36)).cell? ⟨w.heap.size, 0, none⟩ = some (.slice none 0 0) := bR0.cells.1 0
      go_wp2
      refine bodyPost_ret (v := .tuple #[.int .i64 (0), .agg #[.slice none 0 0], .bool false]) (by simp [results, Tryz.results19, go_sem, r0]) rfl ?_
      exact ⟨_, _, by rw [HP.out], by rw [HP.out]; exact ⟨_, rfl, trivial, OwnSl.nilS _ _⟩, NewF.nil _, xw0⟩
    · by_cases hlt : z < a
      · have HP := hid (D_noLt hta htz (by omega))
        clear hta htz
        go_wp2_with fail
        refine (strings_IndexByte_c s 91 91 _ (by rfl)).mono ?_
        rintro e w1 ⟨rfl, rfl⟩
        rw [e1]
        go_wp2_with fail
        refine (strings_LastIndexByte_c s 93 _ (by omega)).mono ?_
        rintro e w1 ⟨rfl, rfl⟩
        rw [e2]
        obtain ⟨cR, fR⟩ := bR0.cells
        have r0 : (w.alloc (.cells #[.slice none 0 0] 36)).cell? ⟨w.heap.size, 0, none⟩ = some (.slice none 0 0) := bR0.cells.1 0
        go_wp2
        refine bodyPost_ret (v := .tuple #[.int .i64 (0), .agg #[.slice none 0 0], .bool false]) (by simp [results, Tryz.results19, go_sem, r0]) rfl ?_
        exact ⟨_, _, by rw [HP.out], by rw [HP.out]; exact ⟨_, rfl, trivial, OwnSl.nilS _ _⟩, NewF.nil _, xw0⟩
      · have HA := hid (D_A ha1 hta hz1 htz)
        have haz : a < z := by
          rcases Nat.lt_or_ge a z with h | h
          · exact h
          · exfalso
            have : a = z := by omega
            subst this
            rw [ha1] at hz1
            revert hz1; decide
        have ha : a ≤ s.size := by omega
        have hz : z + 1 ≤ s.size := hzs
        have hne : s ≠ ⟨#[]⟩ := fun e => by rw [e] at hz; exact absurd hz (Nat.not_succ_le_zero _)
        clear hta htz ha1 hz1
        go_wp2_with fail
        refine (strings_IndexByte_c s 91 91 _ (by rfl)).mono ?_
        rintro e w1 ⟨rfl, rfl⟩
        rw [e1]
        go_wp2_with fail
        refine (strings_LastIndexByte_c s 93 _ (by omega)).mono ?_
        rintro e w1 ⟨rfl, rfl⟩
        rw [e2]
        clear e1 e2
        have hz1 : (s.extract 0 a).size ≤ 1048600 := by rw [ByteArray.size_extract]; omega
        have hz2 : (s.extract a (z + 1)).size ≤ 1048576 := by rw [ByteArray.size_extract]; omega
        go_wp2_with fail
        refine (impl_ParseInt (s.extract 0 a) _ hz1 (N.mono xw0)).mono ?_
        rintro e w1 ⟨rfl, x1⟩
        have hI := pI_64 (s.extract 0 a)
        obtain ⟨⟨n, q1⟩, hn⟩ : ∃ r, r = pI (s.extract 0 a) := ⟨_, rfl⟩
        rw [← hn] at HA hI ⊢
        clear hn hz1
        dsimp only at hI ⊢
        have bR1 := bR0.ext x1
        have xw1 := xw0.trans x1
        clear bR0 xw0 x1
        go_wp2_with fail
        refine (impl_ParseBatch (s.extract a (z + 1)) _ hz2 (N.mono xw1)).mono ?_
        rintro e w2 ⟨vb, G, rfl, ⟨fv, rfl, _, oG⟩, nG, x2⟩
        obtain ⟨⟨b, q2⟩, hb⟩ : ∃ r, r = pB (s.extract a (z + 1)) := ⟨_, rfl⟩
        rw [← hb] at HA oG ⊢
        clear hb hz2
        dsimp only at oG ⊢
        obtain ⟨Af, cf, rfl, _⟩ := oG.form
        have y2 : Ext w2 (w2.alloc (.cells #[.slice Af b.ops.length cf] 36)) := (Ext.refl w2).alloc _
        have bO := Blk.new w2 36 #[.slice Af b.ops.length cf]
        have bR2 := bR1.ext (x2.trans y2)
        have oG2 := oG.ext y2
        have HLW := hid (show w.heap.size < w2.heap.size from block_lt (bR1.ext x2))
        have nGw := nG.ext xw1
        have hgG : w.heap.size ∉ G := fun h => by have h9 := nG.2 _ h; have h8 := block_lt bR1; omega
        have xw2 := xw1.trans (x2.trans y2)
        clear bR1 xw1 x2 y2 oG nG
        obtain ⟨cO, fO⟩ := bO.cells
        cases q1 with
        | false =>
          have HP := hid (show pD s = ((0, ⟨[]⟩), false) from ans_no fun x k1 k2 => by have h9 := (HA.out x k1 k2).2.1; cases h9)
          clear bO
          obtain ⟨cR, fR⟩ := bR2.cells
          go_wp2
          have b9 : Blk ((w2.alloc (.cells #[.slice Af b.ops.length cf] 36)).setCell ⟨w.heap.size, 0, none⟩ (.slice none 0 0)) w.heap.size 36 [.slice none 0 0] := bR2.setAt 0 (by show 0 < 1; decide) (.slice none 0 0)
          have r0 : ((w2.alloc (.cells #[.slice Af b.ops.length cf] 36)).setCell ⟨w.heap.size, 0, none⟩ (.slice none 0 0)).cell? ⟨w.heap.size, 0, none⟩ = some (.slice none 0 0) := b9.cells.1 0
          have x9 : Ext w ((w2.alloc (.cells #[.slice Af b.ops.length cf] 36)).setCell ⟨w.heap.size, 0, none⟩ (.slice none 0 0)) := xw2.setCell (Nat.le_refl _) _
          refine bodyPost_ret (v := .tuple #[.int .i64 (0), .agg #[.slice none 0 0], .bool false]) (by simp [results, Tryz.results19, go_sem, r0]) rfl ?_
          exact ⟨_, _, by rw [HP.out], by rw [HP.out]; exact ⟨_, rfl, trivial, OwnSl.nilS _ _⟩, NewF.nil _, x9⟩
        | true =>
          cases q2 with
          | false =>
            have HP := hid (show pD s = ((0, ⟨[]⟩), false) from ans_no fun x k1 k2 => by have h9 := (HA.out x k1 k2).2.2; cases h9)
            clear bO
            obtain ⟨cR, fR⟩ := bR2.cells
            go_wp2
            have b9 : Blk ((w2.alloc (.cells #[.slice Af b.ops.length cf] 36)).setCell ⟨w.heap.size, 0, none⟩ (.slice none 0 0)) w.heap.size 36 [.slice none 0 0] := bR2.setAt 0 (by show 0 < 1; decide) (.slice none 0 0)
            have r0 : ((w2.alloc (.cells #[.slice Af b.ops.length cf] 36)).setCell ⟨w.heap.size, 0, none⟩ (.slice none 0 0)).cell? ⟨w.heap.size, 0, none⟩ = some (.slice none 0 0) := b9.cells.1 0
            have x9 : Ext w ((w2.alloc (.cells #[.slice Af b.ops.length cf] 36)).setCell ⟨w.heap.size, 0, none⟩ (.slice none 0 0)) := xw2.setCell (Nat.le_refl _) _
            refine bodyPost_ret (v := .tuple #[.int .i64 (0), .agg #[.slice none 0 0], .bool false]) (by simp [results, Tryz.results19, go_sem, r0]) rfl ?_
            exact ⟨_, _, by rw [HP.out], by rw [HP.out]; exact ⟨_, rfl, trivial, OwnSl.nilS _ _⟩, NewF.nil _, x9⟩
          | true =>
            go_wp2_with fail
            refine (impl_EncodeEntry n _ b _ hI ⟨_, rfl, trivial, oG2.sl⟩ (N.T.mono xw2)).mono ?_
            rintro e w3 ⟨rfl, x3⟩
            have bO3 := bO.ext x3
            have bR3 := bR2.ext x3
            have oG3 := oG2.ext x3
            have xw3 := xw2.trans x3
            clear bO bR2 oG2 xw2 x3 cO fO
            obtain ⟨cO, fO⟩ := bO3.cells
            by_cases hq : encE n b = s
            · have hq1 := str_eq hq
              have hq2 : (encE n b).toList = s.toList := by rw [hq]
              have HPP := hid (show pD s = ((n, b), true) from ans_yes (fun x k1 k2 => (HA.out x k1 k2).1) (fmtEn_ok hq hne) hq)
              clear hq
              obtain ⟨cR, fR⟩ := bR3.cells
              have hn1 : ¬ w.heap.size = w2.heap.size := Nat.ne_of_lt HLW.out
              have hn2 : ¬ w2.heap.size = w.heap.size := fun e => hn1 e.symm
              have c0 := cO 0
              have c1 := cR 0
              have f1 := fR 0
              go_wp2
              go_region
              have b9 := (bR3.setAt 0 (by show 0 < 1; decide) (.slice Af b.ops.length cf)).ext (Ext.refl _).drew
              have r0 : ((w3.setCell ⟨w.heap.size, 0, none⟩ (.slice Af b.ops.length cf)).drew).cell? ⟨w.heap.size, 0, none⟩ = some (.slice Af b.ops.length cf) := b9.cells.1 0
              have x9 : Ext w ((w3.setCell ⟨w.heap.size, 0, none⟩ (.slice Af b.ops.length cf)).drew) := (xw3.setCell (Nat.le_refl _) _).drew
              have o9 := (oG3.setCell (p := ⟨w.heap.size, 0, none⟩) hgG (.slice Af b.ops.length cf)).ext (Ext.refl _).drew
              clear b9 bO3 bR3 oG3 xw3 c0 c1 f1 cO fO cR fR hn1 hn2
              go_wp2
              refine bodyPost_ret (v := .tuple #[.int .i64 n, .agg #[.slice Af b.ops.length cf], .bool true]) (by simp [results, Tryz.results19, go_sem, r0]) rfl ?_
              exact ⟨_, _, by rw [HPP.out], by rw [HPP.out]; exact ⟨_, rfl, trivial, o9⟩, nGw, x9⟩
            · have hq1 := str_ne hq
              have HPP := hid (show pD s = ((0, ⟨[]⟩), false) from ans_end (fun x k1 k2 => (HA.out x k1 k2).1) hq)
              clear hq bO3
              obtain ⟨cR, fR⟩ := bR3.cells
              go_wp2
              have b9 : Blk (w3.setCell ⟨w.heap.size, 0, none⟩ (.slice none 0 0)) w.heap.size 36 [.slice none 0 0] := bR3.setAt 0 (by show 0 < 1; decide) (.slice none 0 0)
              have r0 : (w3.setCell ⟨w.heap.size, 0, none⟩ (.slice none 0 0)).cell? ⟨w.heap.size, 0, none⟩ = some (.slice none 0 0) := b9.cells.1 0
              have x9 : Ext w (w3.setCell ⟨w.heap.size, 0, none⟩ (.slice none 0 0)) := xw3.setCell (Nat.le_refl _) _
              refine bodyPost_ret (v := .tuple #[.int .i64 (0), .agg #[.slice none 0 0], .bool false]) (by simp [results, Tryz.results19, go_sem, r0]) rfl ?_
              exact ⟨_, _, by rw [HPP.out], by rw [HPP.out]; exact ⟨_, rfl, trivial, OwnSl.nilS _ _⟩, NewF.nil _, x9⟩

end Go.Proofs.YtfieimmlcopbhaaGreatDoor
