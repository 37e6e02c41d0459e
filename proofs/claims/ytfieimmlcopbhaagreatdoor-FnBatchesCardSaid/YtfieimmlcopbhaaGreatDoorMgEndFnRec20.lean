/-
  WALKS: readOrigin, ParseRecord (the program's).
-/
import Derived.Test.YtfieimmlcopbhaaGreatDoorMgEndFnRec7
import Derived.Test.YtfieimmlcopbhaaGreatDoorMgEndFnRec19
import Derived.Test.YtfieimmlcopbhaaGreatDoorMgEndFnRec11
import Derived.Test.YtfieimmlcopbhaaGreatDoorMgEndFnRec13
import Derived.Test.YtfieimmlcopbhaaGreatDoorMgEndFnRec16
import Derived.Test.YtfieimmlcopbhaaGreatDoorMgEndFnRec0
import Derived.Deep.RegionHeld3

namespace Go.Proofs.YtfieimmlcopbhaaGreatDoor
open Go.Shelf Go.RowKit

theorem bytes_nil {s : ByteArray} (h : ¬ 0 < s.size) : s = ⟨#[]⟩ := by
  rw [← bs_mk s, List.length_eq_zero_iff.1 (show s.data.toList.length = 0 by rw [Array.length_toList]; exact Nat.eq_zero_of_not_pos h)]; rfl
theorem bytes_tail {s : ByteArray} (h : 0 < s.size) : s.data.toList = s[0] :: (s.extract 1 s.size).data.toList := by
  rw [Lib.extract_to_end]
  have e := Lib.data_getElem? s 0 h
  cases hl : s.data.toList with
  | nil => rw [hl] at e; cases e
  | cons x l => rw [hl] at e; simp at e; rw [e]; rfl
theorem rO_empty : rO ⟨#[]⟩ = (0, 0, false) := rfl
theorem rO_cons {s : ByteArray} (h : 0 < s.size) : rO s = (Lib.indexByte [97, 98, 99, 100] s[0], (pI (s.extract 1 s.size)).1, (pI (s.extract 1 s.size)).2 && decide (0 ≤ Lib.indexByte [97, 98, 99, 100] s[0]) && inB (pI (s.extract 1 s.size)).1 1 99) := by
  unfold rO
  rw [bytes_tail h]
  simp only [bs_mk]
  rfl

set_option maxHeartbeats 400000 in
set_option maxRecDepth 20000 in
theorem impl_readOrigin (s : ByteArray) (w : World) (hs : s.size ≤ 1048600) (N : Env w) :
    Calls Tryz.prog 45 #[.string s] w fun e w2 => e = .returned (.tuple #[.int .i64 (rO s).1, .int .i64 (rO s).2.1, .bool (rO s).2.2]) ∧ Ext w w2 := by
  by_cases h0 : 0 < s.size
  · have HR := hid (rO_cons h0)
    have he : s.toList.isEmpty = false := by
      rw [Lib.toList_data, bytes_tail h0]; rfl
    have hb := s[0].toNat_lt
    have hi : ∀ x : UInt8, -1 ≤ Lib.indexByte [97, 98, 99, 100] x ∧ Lib.indexByte [97, 98, 99, 100] x ≤ 3 := fun x => by
      refine ⟨Lib.indexByte_ge _ _, ?_⟩
      unfold Lib.indexByte Lib.indexByte Lib.indexByte Lib.indexByte Lib.indexByte
      repeat' split
      all_goals omega
    have hback : ((s[0].toNat : Int)).toNat.toUInt8 = s[0] := by simp
    have hz : (s.extract 1 s.size).size ≤ 1048600 := by rw [ByteArray.size_extract]; omega
    go_enter Tryz.func45, Tryz.ntmps45
    go_wp2_with fail
    refine (Any.strings_IndexByte lShIdxB _ _ _).mono ?_
    rintro e w1 ⟨rfl, hw⟩
    rw [hw, hback]
    clear hw hback
    have hi0 := hi s[0]
    obtain ⟨x, hx⟩ : ∃ x, x = Lib.indexByte [97, 98, 99, 100] s[0] := ⟨_, rfl⟩
    have hx2 : Lib.indexByte (⟨#[97, 98, 99, 100]⟩ : ByteArray).data.toList s[0] = x := hx.symm
    rw [hx2]
    rw [← hx] at hi0 HR
    clear hx hx2 hi
    go_wp2_with fail
    refine (impl_ParseInt (s.extract 1 s.size) _ hz N).mono ?_
    rintro e w2 ⟨rfl, x2⟩
    obtain ⟨⟨n, q⟩, hn⟩ : ∃ r, r = pI (s.extract 1 s.size) := ⟨_, rfl⟩
    rw [← hn] at HR ⊢
    clear hn
    cases q with
    | false =>
      go_wp2
      refine bodyPost_ret (v := .tuple #[.int .i64 x, .int .i64 n, .bool false]) (by simp [results, Tryz.results45, go_sem]) rfl ?_
      exact ⟨by rw [HR.out]; simp, x2⟩
    | true =>
      by_cases hx0 : 0 ≤ x
      · go_wp2_with fail
        refine (impl_within _ _ _ _).mono ?_
        rintro e w3 ⟨rfl, rfl⟩
        go_wp2
        refine bodyPost_ret (v := .tuple #[.int .i64 x, .int .i64 n, .bool (inB n 1 99)]) (by simp [results, Tryz.results45, go_sem]) rfl ?_
        exact ⟨by rw [HR.out]; simp [hx0], x2⟩
      · go_wp2
        refine bodyPost_ret (v := .tuple #[.int .i64 x, .int .i64 n, .bool false]) (by simp [results, Tryz.results45, go_sem]) rfl ?_
        exact ⟨by rw [HR.out]; simp; intro h9; exfalso; omega, x2⟩
  · have e := bytes_nil h0
    subst e
    go_enter Tryz.func45, Tryz.ntmps45
    go_wp2
    refine bodyPost_ret (v := .tuple #[.int .i64 0, .int .i64 0, .bool false]) (by simp [results, Tryz.results45, go_sem]) rfl ?_
    exact ⟨by rw [rO_empty], Ext.refl _⟩

/-- what ParseRecord hands back: the record, in memory of its own -/
def RecOut (w : World) (e : Ending) (w2 : World) (r : Record × Bool) : Prop := ∃ v F, e = .returned (.tuple #[v, .bool r.2]) ∧ RecOwn w2 v r.1 F ∧ NewF w F ∧ Ext w w2
theorem okZ : Record.ok ⟨0, 0, 0, []⟩ := ⟨⟨by decide, by decide⟩, ⟨by decide, by decide⟩, ⟨by decide, by decide⟩⟩
theorem rO_64 (s : ByteArray) : I64 (rO s).1 ∧ I64 (rO s).2.1 := by
  by_cases h0 : 0 < s.size
  · rw [rO_cons h0]
    refine ⟨?_, pI_64 _⟩
    have h1 := Lib.indexByte_ge [97, 98, 99, 100] s[0]
    have h2 : Lib.indexByte [97, 98, 99, 100] s[0] ≤ 3 := by
      unfold Lib.indexByte Lib.indexByte Lib.indexByte Lib.indexByte Lib.indexByte
      repeat' split
      all_goals omega
    unfold I64; simp only; omega
  · rw [bytes_nil h0, rO_empty]
    exact ⟨by unfold I64; simp, by unfold I64; simp⟩
theorem Lib_cut_le (l : List UInt8) (c : UInt8) : (Go.Lib.cut l [c]).1.length ≤ l.length ∧ (Go.Lib.cut l [c]).2.1.length ≤ l.length := by
  rcases cut_of c l with ⟨a, r, ha, rfl⟩ | h
  · rw [libcut_hit ha]; simp; omega
  · rw [libcut_none h]; simp

set_option maxHeartbeats 400000 in
set_option maxRecDepth 20000 in
theorem impl_FormatRecord (v : Value) (r : Record) (w : World) (h : RecAt w v r) (T : Tab w) :
    Calls Tryz.prog 28 #[v] w fun e w2 => e = .returned (.string (fmtR r)) ∧ Ext w w2 := by
  obtain ⟨f, rfl, hI, hs⟩ := h
  obtain ⟨A, cap, rfl, hm⟩ := hs.form
  have HB := hid (show ∀ W, Ext (w.alloc (.cells #[.int .i64 r.source, .int .i64 r.key, .int .i64 r.version, .slice A r.fields.length cap] 24)) W → W.cell? ⟨w.heap.size, 0, none⟩ = some (.int .i64 r.source) ∧ W.cell? ⟨w.heap.size, 1, none⟩ = some (.int .i64 r.key) ∧ W.cell? ⟨w.heap.size, 2, none⟩ = some (.int .i64 r.version) ∧ W.cell? ⟨w.heap.size, 3, none⟩ = some (.slice A r.fields.length cap) from fun W z => ⟨z.box.1 0, z.box.1 1, z.box.1 2, z.box.1 3⟩)
  go_enter Tryz.func28, Tryz.ntmps28
  go_wp2_with fail
  refine (impl_IsValidRecord _ r _ ⟨_, rfl, hI, hs.mono (by repeat (first | with_reducible exact Ext.refl _ | with_reducible assumption | with_reducible refine Ext.drew ?_ | with_reducible refine Ext.alloc ?_ _ | (refine Ext.setCell ?_ (by simp) _) | with_reducible refine Ext.trans ?_ (by with_reducible assumption)))⟩).mono ?_
  rintro e w1 ⟨rfl, x1⟩
  have xw : Ext w w1 := ((Ext.refl _).alloc _).trans x1
  obtain ⟨c0, c1, c2, c3⟩ := HB.out _ x1
  cases hok : okRec r with
  | false =>
    have hr := hid (show fmtR r = ⟨#[]⟩ by unfold fmtR; rw [if_neg (by simp [hok])])
    go_wp2
    go_ret
    exact ⟨by rw [hr.out]; rfl, xw⟩
  | true =>
    have hr := hid (fmtR_yes hok)
    have HOK := hid hok
    clear hok
    go_wp2_with fail
    refine (impl_formatRecord _ r _ ⟨_, rfl, hI, hs.mono xw⟩ HOK.out (T.mono xw)).mono ?_
    rintro e w2 ⟨rfl, x2⟩
    go_wp2
    go_ret
    exact ⟨by rw [hr.out]; rfl, xw.trans x2⟩

set_option maxHeartbeats 400000 in
set_option maxRecDepth 20000 in
theorem impl_ParseRecord (s : ByteArray) (w : World) (hs : s.size ≤ 1048590) (N : Env w) :
    Calls Tryz.prog 29 #[.string s] w (RecOut w · · (pR s)) := by
  obtain ⟨hd, hhd⟩ : ∃ x, x = bs (Go.Lib.cut s.data.toList [124]).1 := ⟨_, rfl⟩
  obtain ⟨rest, hrest⟩ : ∃ x, x = bs (Go.Lib.cut s.data.toList [124]).2.1 := ⟨_, rfl⟩
  obtain ⟨nm, hnm⟩ : ∃ x, x = bs (Go.Lib.cut hd.data.toList [46]).1 := ⟨_, rfl⟩
  obtain ⟨vs, hvs⟩ : ∃ x, x = bs (Go.Lib.cut hd.data.toList [46]).2.1 := ⟨_, rfl⟩
  have HA := hid (pR_A2 hhd hrest hnm hvs)
  have e0 : s.data.toList.length = s.size := Array.length_toList
  have z1 : hd.size ≤ s.size := by have := (Lib_cut_le s.data.toList 124).1; rw [hhd, bs_size]; omega
  have z2 : rest.size ≤ s.size := by have := (Lib_cut_le s.data.toList 124).2; rw [hrest, bs_size]; omega
  have e1 : hd.data.toList.length = hd.size := Array.length_toList
  have z3 : nm.size ≤ s.size := by have := (Lib_cut_le hd.data.toList 46).1; rw [hnm, bs_size]; omega
  have z4 : vs.size ≤ s.size := by have := (Lib_cut_le hd.data.toList 46).2; rw [hvs, bs_size]; omega
  clear e0 e1
  have xa : Ext w (w.alloc (.cells #[.int .i64 0, .int .i64 0, .int .i64 0, .slice none 0 0] 24)) := (Ext.refl w).alloc _
  go_enter Tryz.func29, Tryz.ntmps29
  go_wp2_with fail
  refine (strings_Cut_c s 124 _ (by omega) (N.M.mono xa)).mono ?_
  rintro e w1 ⟨rfl, x1⟩
  rw [← hhd, ← hrest]
  have br1 := (Blk.new w 24 #[.int .i64 0, .int .i64 0, .int .i64 0, .slice none 0 0]).ext x1
  have xw1 := xa.trans x1
  clear x1 xa hhd hrest
  go_wp2_with fail
  refine (strings_Cut_c hd 46 _ (by omega) (N.M.mono xw1)).mono ?_
  rintro e w2 ⟨rfl, x2⟩
  rw [← hnm, ← hvs]
  have br2 := br1.ext x2
  have xw2 := xw1.trans x2
  clear x2 br1 xw1 hnm hvs
  go_wp2_with fail
  refine (impl_readOrigin nm _ (by omega) (N.mono xw2)).mono ?_
  rintro e w3 ⟨rfl, x3⟩
  have br3 := br2.ext x3
  have xw3 := xw2.trans x3
  clear x3 br2 xw2
  go_wp2_with fail
  refine (impl_ParseInt vs _ (by omega) (N.mono xw3)).mono ?_
  rintro e w4 ⟨rfl, x4⟩
  have br4 : Blk w4 w.heap.size 24 [.int .i64 0, .int .i64 0, .int .i64 0, .slice none 0 0] := br3.ext x4
  have xw4 := xw3.trans x4
  clear x4 br3 xw3
  by_cases hok : (rO nm).2.2 = true ∧ (pI vs).2 = true
  · obtain ⟨hk1, hk2⟩ := hok
    have hne : s ≠ ⟨#[]⟩ := fun e => by
      have hr := hk1
      have : nm.size ≤ 0 := by rw [e] at z3; exact z3
      rw [bytes_nil (show ¬ 0 < nm.size by omega), rO_empty] at hr
      cases hr
    go_wp2_with fail
    refine (strings_Split_c rest 124 _ (by omega) (N.M.mono xw4)).mono ?_
    rintro e w5 ⟨v5, F5, rfl, o5, n5, x5⟩
    obtain ⟨A5, c5, rfl, _⟩ := o5.form
    have br5 := br4.ext x5
    have xw5 := xw4.trans x5
    have n5w := n5.ext xw4
    have hg5 : w.heap.size ∉ F5 := fun hm => by have h9 := n5.2 _ hm; have h8 := block_lt br4; omega
    clear x5 br4 xw4 hk1 hk2
    have hI : I64 (rO nm).1 ∧ I64 (rO nm).2.1 ∧ I64 (pI vs).1 := ⟨(rO_64 nm).1, (rO_64 nm).2, pI_64 vs⟩
    have bn := Blk.new w5 24 #[.int .i64 (rO nm).1, .int .i64 (rO nm).2.1, .int .i64 (pI vs).1, .slice A5 (pcs 124 rest).length c5]
    have x56 : Ext w5 (w5.alloc (.cells #[.int .i64 (rO nm).1, .int .i64 (rO nm).2.1, .int .i64 (pI vs).1, .slice A5 (pcs 124 rest).length c5] 24)) := (Ext.refl w5).alloc _
    have xw6 := xw5.trans x56
    obtain ⟨⟨k0, k1, k2, k3⟩, _⟩ := Blk.c4 bn
    go_wp2_with fail
    refine (impl_FormatRecord _ ⟨(rO nm).1, (rO nm).2.1, (pI vs).1, pcs 124 rest⟩ _ ⟨_, rfl, hI, (o5.ext x56).sl⟩ (N.T.mono xw6)).mono ?_
    rintro e w7 ⟨rfl, x7⟩
    have br7 := br5.ext (x56.trans x7)
    have bn7 := bn.ext x7
    have o7 := o5.ext (x56.trans x7)
    have xw7 := xw6.trans x7
    clear k0 k1 k2 k3 bn x56 x7 br5 o5 xw5 xw6
    obtain ⟨⟨k0, k1, k2, k3⟩, _⟩ := Blk.c4 bn7
    have HI := hid hI
    clear hI
    by_cases hq : fmtR ⟨(rO nm).1, (rO nm).2.1, (pI vs).1, pcs 124 rest⟩ = s
    · have hq1 := str_eq hq
      have hq2 : (fmtR ⟨(rO nm).1, (rO nm).2.1, (pI vs).1, pcs 124 rest⟩).toList = s.toList := by rw [hq]
      have HP := hid (show pR s = (⟨(rO nm).1, (rO nm).2.1, (pI vs).1, pcs 124 rest⟩, true) from ans_yes (fun v h1 h2 => (HA.out v h1 h2).1) (fmtR_ok hq hne) hq)
      clear hq bn7
      obtain ⟨⟨s0, y0⟩, ⟨s1, y1⟩, ⟨s2, y2⟩, ⟨s3, y3⟩, b9⟩ := Blk.store4 br7 (.int .i64 (rO nm).1) (.int .i64 (rO nm).2.1) (.int .i64 (pI vs).1) (.slice A5 (pcs 124 rest).length c5)
      obtain ⟨⟨r0, r1, r2, r3⟩, _⟩ := b9.c4
      have x9 : Ext w ((((w7.setCell ⟨w.heap.size, 0, none⟩ (.int .i64 (rO nm).1)).setCell ⟨w.heap.size, 1, none⟩ (.int .i64 (rO nm).2.1)).setCell ⟨w.heap.size, 2, none⟩ (.int .i64 (pI vs).1)).setCell ⟨w.heap.size, 3, none⟩ (.slice A5 (pcs 124 rest).length c5)) := (((xw7.setCell (Nat.le_refl _) _).setCell (Nat.le_refl _) _).setCell (Nat.le_refl _) _).setCell (Nat.le_refl _) _
      have o9 := (((((o7).setCell (p := ⟨w.heap.size, 0, none⟩) hg5 (.int .i64 (rO nm).1)).setCell (p := ⟨w.heap.size, 1, none⟩) hg5 (.int .i64 (rO nm).2.1)).setCell (p := ⟨w.heap.size, 2, none⟩) hg5 (.int .i64 (pI vs).1)).setCell (p := ⟨w.heap.size, 3, none⟩) hg5 (.slice A5 (pcs 124 rest).length c5))
      clear b9
      go_wp2
      refine bodyPost_ret (v := .tuple #[.agg #[.int .i64 (rO nm).1, .int .i64 (rO nm).2.1, .int .i64 (pI vs).1, .slice A5 (pcs 124 rest).length c5], .bool true]) (by simp [results, Tryz.results29, go_sem, r0, r1, r2, r3]) rfl ?_
      exact ⟨_, _, by rw [HP.out], by rw [HP.out]; exact ⟨_, rfl, HI.out, o9⟩, n5w, x9⟩
    · have hq1 := str_ne hq
      have HP := hid (show pR s = (⟨0, 0, 0, []⟩, false) from ans_end (fun v h1 h2 => (HA.out v h1 h2).1) hq)
      clear hq bn7
      obtain ⟨⟨s0, y0⟩, ⟨s1, y1⟩, ⟨s2, y2⟩, ⟨s3, y3⟩, b9⟩ := Blk.store4 br7 (.int .i64 0) (.int .i64 0) (.int .i64 0) (.slice none 0 0)
      obtain ⟨⟨r0, r1, r2, r3⟩, _⟩ := b9.c4
      have x9 : Ext w ((((w7.setCell ⟨w.heap.size, 0, none⟩ (.int .i64 0)).setCell ⟨w.heap.size, 1, none⟩ (.int .i64 0)).setCell ⟨w.heap.size, 2, none⟩ (.int .i64 0)).setCell ⟨w.heap.size, 3, none⟩ (.slice none 0 0)) := (((xw7.setCell (Nat.le_refl _) _).setCell (Nat.le_refl _) _).setCell (Nat.le_refl _) _).setCell (Nat.le_refl _) _
      have o9 : OwnSl strO ((((w7.setCell ⟨w.heap.size, 0, none⟩ (.int .i64 0)).setCell ⟨w.heap.size, 1, none⟩ (.int .i64 0)).setCell ⟨w.heap.size, 2, none⟩ (.int .i64 0)).setCell ⟨w.heap.size, 3, none⟩ (.slice none 0 0)) (.slice none 0 0) ([] : List ByteArray) [] := OwnSl.nilS _ _
      clear b9
      go_wp2
      refine bodyPost_ret (v := .tuple #[.agg #[.int .i64 0, .int .i64 0, .int .i64 0, .slice none 0 0], .bool false]) (by simp [results, Tryz.results29, go_sem, r0, r1, r2, r3]) rfl ?_
      exact ⟨_, _, by rw [HP.out], by rw [HP.out]; exact ⟨_, rfl, okZ, o9⟩, NewF.nil _, x9⟩
  · have HP := hid (show pR s = (⟨0, 0, 0, []⟩, false) from ans_no fun v h1 h2 => hok (HA.out v h1 h2).2)
    have hc : (rO nm).2.2 = false ∨ ((rO nm).2.2 = true ∧ (pI vs).2 = false) := by
      cases h1 : (rO nm).2.2 with
      | false => exact .inl rfl
      | true =>
        cases h2 : (pI vs).2 with
        | false => exact .inr ⟨rfl, rfl⟩
        | true => exact absurd ⟨h1, h2⟩ hok
    clear hok
    rcases hc with hc1 | ⟨hc1, hc2⟩
    all_goals
      obtain ⟨⟨s0, y0⟩, ⟨s1, y1⟩, ⟨s2, y2⟩, ⟨s3, y3⟩, b9⟩ := Blk.store4 br4 (.int .i64 0) (.int .i64 0) (.int .i64 0) (.slice none 0 0)
      obtain ⟨⟨r0, r1, r2, r3⟩, _⟩ := b9.c4
      have x9 : Ext w ((((w4.setCell ⟨w.heap.size, 0, none⟩ (.int .i64 0)).setCell ⟨w.heap.size, 1, none⟩ (.int .i64 0)).setCell ⟨w.heap.size, 2, none⟩ (.int .i64 0)).setCell ⟨w.heap.size, 3, none⟩ (.slice none 0 0)) := (((xw4.setCell (Nat.le_refl _) _).setCell (Nat.le_refl _) _).setCell (Nat.le_refl _) _).setCell (Nat.le_refl _) _
      have o9 : OwnSl strO ((((w4.setCell ⟨w.heap.size, 0, none⟩ (.int .i64 0)).setCell ⟨w.heap.size, 1, none⟩ (.int .i64 0)).setCell ⟨w.heap.size, 2, none⟩ (.int .i64 0)).setCell ⟨w.heap.size, 3, none⟩ (.slice none 0 0)) (.slice none 0 0) ([] : List ByteArray) [] := OwnSl.nilS _ _
      clear b9
      go_wp2
      refine bodyPost_ret (v := .tuple #[.agg #[.int .i64 0, .int .i64 0, .int .i64 0, .slice none 0 0], .bool false]) (by simp [results, Tryz.results29, go_sem, r0, r1, r2, r3]) rfl ?_
      exact ⟨_, _, by rw [HP.out], by rw [HP.out]; exact ⟨_, rfl, okZ, o9⟩, NewF.nil _, x9⟩

end Go.Proofs.YtfieimmlcopbhaaGreatDoor
