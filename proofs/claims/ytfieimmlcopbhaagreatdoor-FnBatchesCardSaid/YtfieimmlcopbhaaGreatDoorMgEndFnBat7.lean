/-
  WALKS: ParseBatch (the program's).
-/
import Derived.Test.YtfieimmlcopbhaaGreatDoorMgEndFnBat5
import Derived.Test.YtfieimmlcopbhaaGreatDoorMgEndFnRec21
import Derived.Test.YtfieimmlcopbhaaGreatDoorMgEndFnBat6
import Derived.Test.YtfieimmlcopbhaaGreatDoorMgEndFnBat0

namespace Go.Proofs.YtfieimmlcopbhaaGreatDoor
open Go.RowKit

/-- what ParseBatch hands back -/
def BatOut (w : World) (e : Ending) (w2 : World) (r : Batch × Bool) : Prop := ∃ v F, e = .returned (.tuple #[v, .bool r.2]) ∧ BatOwn w2 v r.1 F ∧ NewF w F ∧ Ext w w2
theorem elemOp : ElemT Tryz.prog 34 28 opO.n 88 := by
  obtain ⟨i, h1, h2, h3, h4⟩ := info_parts infoOp
  exact ⟨Tryz.underlying34, i, _, h1, h2, h3, h4, rfl⟩
theorem one_op (o : Op) (A : Option Addr) (n c : Nat) : ∀ u ∈ (#[.int .i64 o.kind, .int .i64 o.record.source, .int .i64 o.record.key, .int .i64 o.record.version, .slice A n c, .int .i64 o.verdict.a, .int .i64 o.verdict.b, .bool o.verdict.same, .int .i64 o.verdict.time] : Array Value).toList, u.oneCell' = true := by simp [Value.oneCell']
theorem pO_emp : pO ⟨#[]⟩ = (zop, false) := ans_no fun x q1 q2 => O_nosp (by simp) x q1 q2
theorem trimP_len (l p : List UInt8) : (Go.Lib.trimPrefix l p).length ≤ l.length := by
  unfold Go.Lib.trimPrefix
  split
  · rw [List.length_drop]; omega
  · exact Nat.le_refl _
theorem trimS_len (l p : List UInt8) : (Go.Lib.trimSuffix l p).length ≤ l.length := by
  unfold Go.Lib.trimSuffix
  split
  · rw [List.length_take]; omega
  · exact Nat.le_refl _
theorem strings_TrimPrefix_c (s : ByteArray) (c : UInt8) (w : World) :
    Calls Tryz.prog 55 #[.string s, .string ⟨#[c]⟩] w fun e w2 => e = .returned (.string (bs (Go.Lib.trimPrefix s.data.toList [c]))) ∧ w2 = w := Any.strings_TrimPrefix lShTrimP s ⟨#[c]⟩ w
theorem strings_TrimSuffix_c (s : ByteArray) (c : UInt8) (w : World) (hs : s.size ≤ 9223372036854775807) :
    Calls Tryz.prog 54 #[.string s, .string ⟨#[c]⟩] w fun e w2 => e = .returned (.string (bs (Go.Lib.trimSuffix s.data.toList [c]))) ∧ w2 = w := Any.strings_TrimSuffix lShTrimS s ⟨#[c]⟩ w hs

set_option maxHeartbeats 4000000 in
set_option maxRecDepth 20000 in
theorem impl_ParseBatch (s : ByteArray) (w : World) (hs : s.size ≤ 1048576) (N : Env w) :
    Calls Tryz.prog 14 #[.string s] w (BatOut w · · (pB s)) := by
  have xa : Ext w (w.alloc (.cells #[.slice none 0 0] 36)) := (Ext.refl w).alloc _
  have bR0 := (Blk.new w 36 #[.slice none 0 0]).ext ((Ext.refl (w.alloc (.cells #[.slice none 0 0] 36))).alloc (.cells #[.slice none 0 0] 36))
  have bL0 := Blk.new1 w (.cells #[.slice none 0 0] 36) 36 #[.slice none 0 0]
  obtain ⟨W0, hW0⟩ : ∃ W, W = (w.alloc (.cells #[.slice none 0 0] 36)).alloc (.cells #[.slice none 0 0] 36) := ⟨_, rfl⟩
  have xw0 : Ext w W0 := by rw [hW0]; exact xa.alloc _
  have hz0 : W0.heap.size = w.heap.size + 2 := by rw [hW0]; simp
  clear xa
  go_enter Tryz.func14, Tryz.ntmps14
  by_cases hE : s = sEmp
  · have hq := lit_eq hE
    have HP := hid (show pB s = (⟨[]⟩, true) by rw [hE]; exact pB_emp)
    obtain ⟨cL, fL⟩ := bL0.cells
    rw [hW0] at xw0
    clear hW0 hz0 hE
    obtain ⟨cR, fR⟩ := bR0.cells
    have r0 : ((w.alloc (.cells #[.slice none 0 0] 36)).alloc (.cells #[.slice none 0 0] 36)).cell? ⟨w.heap.size, 0, none⟩ = some (.slice none 0 0) := bR0.cells.1 0
    go_wp2
    refine bodyPost_ret (v := .tuple #[.agg #[.slice none 0 0], .bool true]) (by simp [results, Tryz.results14, go_sem, r0]) rfl ?_
    exact ⟨_, _, by rw [HP.out], by rw [HP.out]; exact ⟨_, rfl, trivial, OwnSl.nilS _ _⟩, NewF.nil _, xw0⟩
  · have hq := lit_ne hE
    have HE := hid hE
    clear hE
    go_wp2_with fail
    rw [← hW0] at bR0 bL0 ⊢
    clear hW0
    refine (strings_TrimPrefix_c s 91 _).mono ?_
    rintro e w1 ⟨rfl, rfl⟩
    go_wp2_with fail
    refine (strings_TrimSuffix_c _ 93 _ (by rw [bs_size]; exact Nat.le_trans (trimP_len _ _) (Nat.le_trans (Nat.le_of_eq Array.length_toList) (Nat.le_trans hs (by decide))))).mono ?_
    rintro e w2 ⟨rfl, rfl⟩
    rw [bs_data]
    obtain ⟨T, hT⟩ : ∃ T, T = bs (Go.Lib.trimSuffix (Go.Lib.trimPrefix s.data.toList [91]) [93]) := ⟨_, rfl⟩
    rw [← hT]
    have hTz : T.size ≤ s.size := by rw [hT, bs_size]; exact Nat.le_trans (trimS_len _ _) (Nat.le_trans (trimP_len _ _) (Nat.le_of_eq Array.length_toList))
    have HT := hid hT
    clear hT
    go_wp2_with fail
    refine (strings_Split_c T 59 _ (by omega) (N.M.mono xw0)).mono ?_
    rintro e w1 ⟨vs, FS, rfl, oS, nS, x1⟩
    have HPS := hid (fun p (h : p ∈ pcs 59 T) => Nat.le_trans (pcs_size h) (Nat.le_trans hTz hs))
    have hpl := Nat.le_trans (pcs_len 59 T) (Nat.add_le_add_right hTz 1)
    have HA := hid (pB_A (s := s) (ps := pcs 59 T) HE.out fun b _ h2 => by rw [HT.out, mid_impl h2, bs_mk])
    have HQ := hid (show s = ⟨#[]⟩ → pcs 59 T = [⟨#[]⟩] from fun e => by rw [HT.out, e]; rfl)
    obtain ⟨ps, hps⟩ : ∃ ps, ps = pcs 59 T := ⟨_, rfl⟩
    rw [← hps] at oS HPS hpl HA HQ
    clear hps HT hTz
    obtain ⟨AS, cS, rfl, _⟩ := oS.form
    have HFS := hid (show w.heap.size + 1 ∉ FS from fun hm => by have := nS.2 _ hm; omega)
    have bR1 := bR0.ext x1
    have bL1 := bL0.ext x1
    have xw1 := xw0.trans x1
    clear bR0 bL0 xw0 nS
    go_wp2
    go_loopw [17] (fun i wr => ∃ (k : Nat) (v : Value) (F : List Nat), k ≤ ps.length ∧ i = .int .i64 k ∧ Blk wr w.heap.size 36 [.slice none 0 0] ∧ Blk wr (w.heap.size + 1) 36 [v] ∧ Bld opO wr (w.heap.size + 2) 28 v ((ps.take k).map fun p => (pO p).1) F ∧ OwnSl strO wr (.slice AS ps.length cS) ps FS ∧ Hid ((∀ p ∈ ps.take k, (pO p).2 = true) ∧ (∀ b ∈ FS, v.ownBlock ≠ some b) ∧ w.heap.size + 2 ≤ wr.heap.size) ∧ Ext w wr) (fun i _ => ps.length - (intOf i).toNat)
    case atStart => exact ⟨0, _, [], Nat.zero_le _, rfl, bR1, bL1, by simpa using Bld.nil _ (w.heap.size + 2) _, oS, hid ⟨by simp, by simp [Value.ownBlock], by have := x1.size; omega⟩, xw1⟩
    case round =>
      clear bR1 bL1 oS x1 xw1
      obtain ⟨k, v, F, hk, rfl, bR, bL, hB, oS, HD, hx⟩ := hrel
      by_cases hlt : k < ps.length
      · obtain ⟨b0, off, e1, hz9, hc⟩ := oS.sl.str hlt
        clear hz9
        subst e1
        have HS := hid (HPS.out _ (List.getElem_mem hlt))
        go_wp2_with fail
        refine (impl_ParseOp ps[k] _ HS.out (N.mono hx)).mono ?_
        rintro e w2 ⟨vo, G, rfl, ⟨f, rfl, ok, oG⟩, nG, x2⟩
        obtain ⟨⟨o, q⟩, ho⟩ : ∃ r, r = pO ps[k] := ⟨_, rfl⟩
        rw [← ho] at ok oG ⊢
        dsimp only at ok oG ⊢
        obtain ⟨Af, cf, rfl, _⟩ := oG.form
        have y2 : Ext w2 (w2.alloc (.cells #[.int .i64 o.kind, .int .i64 o.record.source, .int .i64 o.record.key, .int .i64 o.record.version, .slice Af o.record.fields.length cf, .int .i64 o.verdict.a, .int .i64 o.verdict.b, .bool o.verdict.same, .int .i64 o.verdict.time] 28)) := (Ext.refl w2).alloc _
        have bO := Blk.new w2 28 #[.int .i64 o.kind, .int .i64 o.record.source, .int .i64 o.record.key, .int .i64 o.record.version, .slice Af o.record.fields.length cf, .int .i64 o.verdict.a, .int .i64 o.verdict.b, .bool o.verdict.same, .int .i64 o.verdict.time]
        have bRW := bR.ext (x2.trans y2)
        have bLW := bL.ext (x2.trans y2)
        have oSW := oS.ext (x2.trans y2)
        have hBW := hB.ext (x2.trans y2)
        have xW := hx.trans (x2.trans y2)
        have oGW := oG.ext y2
        have hfr := hB.fresh nG HD.out.2.2
        have hbase := Nat.le_trans HD.out.2.2 (x2.trans y2).size
        clear y2 x2 nG oG hx bR bL hB
        cases q with
        | false =>
          have HP := hid (show pB s = (⟨[]⟩, false) from ans_no fun b h1 h2 => by
            have h9 := (HA.out b h1 h2).2.1 ps[k] (List.getElem_mem hlt)
            rw [← ho] at h9
            cases h9)
          clear ok oGW hfr hbase ho hBW oS oSW hc HS
          obtain ⟨cO, fO⟩ := bO.cells
          obtain ⟨cR, fR⟩ := bRW.cells
          go_wp2
          have b9 : Blk ((w2.alloc (.cells #[.int .i64 o.kind, .int .i64 o.record.source, .int .i64 o.record.key, .int .i64 o.record.version, .slice Af o.record.fields.length cf, .int .i64 o.verdict.a, .int .i64 o.verdict.b, .bool o.verdict.same, .int .i64 o.verdict.time] 28)).setCell ⟨w.heap.size, 0, none⟩ (.slice none 0 0)) w.heap.size 36 [.slice none 0 0] := bRW.setAt 0 (by show 0 < 1; decide) (.slice none 0 0)
          have r0 : ((w2.alloc (.cells #[.int .i64 o.kind, .int .i64 o.record.source, .int .i64 o.record.key, .int .i64 o.record.version, .slice Af o.record.fields.length cf, .int .i64 o.verdict.a, .int .i64 o.verdict.b, .bool o.verdict.same, .int .i64 o.verdict.time] 28)).setCell ⟨w.heap.size, 0, none⟩ (.slice none 0 0)).cell? ⟨w.heap.size, 0, none⟩ = some (.slice none 0 0) := b9.cells.1 0
          have x9 : Ext w ((w2.alloc (.cells #[.int .i64 o.kind, .int .i64 o.record.source, .int .i64 o.record.key, .int .i64 o.record.version, .slice Af o.record.fields.length cf, .int .i64 o.verdict.a, .int .i64 o.verdict.b, .bool o.verdict.same, .int .i64 o.verdict.time] 28)).setCell ⟨w.heap.size, 0, none⟩ (.slice none 0 0)) := xW.setCell (Nat.le_refl _) _
          refine bodyPost_ret (v := .tuple #[.agg #[.slice none 0 0], .bool false]) (by simp [results, Tryz.results14, go_sem, r0]) rfl ?_
          exact ⟨_, _, by rw [HP.out], by rw [HP.out]; exact ⟨_, rfl, trivial, OwnSl.nilS _ _⟩, NewF.nil _, x9⟩
        | true =>
          have HO := hid (And.intro ok oGW)
          have hnew := hid (show ∀ p ∈ ps.take (k + 1), (pO p).2 = true from fun p hm => by
            rw [List.take_succ_eq_append_getElem hlt, List.mem_append, List.mem_singleton] at hm
            rcases hm with hm | rfl
            · exact HD.out.1 p hm
            · rw [← ho])
          have HO2 := hid (show (ps.take (k + 1)).map (fun p => (pO p).1) = (ps.take k).map (fun p => (pO p).1) ++ [o] by
            rw [List.take_succ_eq_append_getElem hlt, List.map_append, List.map_singleton, ← ho])
          have HK1 := hid (show ((ps.take k).map (fun p => (pO p).1) ++ [o]).length = k + 1 by rw [← HO2.out, List.length_map, List.length_take]; omega)
          have HFR := hid hfr
          have HB9 := hid hBW
          have HBS := hid hbase
          have HRW := hid bRW
          have HSW := hid oSW
          have hll : ((ps.take k).map (fun p => (pO p).1)).length ≤ 1048600 := by rw [List.length_map, List.length_take]; omega
          obtain ⟨cO, fO⟩ := bO.cells
          obtain ⟨cL, fL⟩ := bLW.cells
          have HLW := hid bLW
          have HXW := hid xW
          clear ho ok oGW hfr hBW oS oSW bRW hbase bLW bO xW
          go_wp2_with (at_builtin; refine wpList_app1k (R := opO) elemOp (by decide) rfl _ _ rfl HB9.out rfl _ 1 rfl (by simp) (one_op _ _ _ _) (y := o) (G := G) ⟨_, rfl, HO.out.1, HO.out.2⟩ HFR.out (Nat.le_trans (Nat.add_le_add_right hll 1) (by decide)) (by decide) HBS.out ?_; intro v9 w9 hB9 hE9 hK9; obtain ⟨F88, o88, n88, m88⟩ := hB9.done; obtain ⟨A99, c99, e99, m99⟩ := o88.form; rw [HK1.out] at e99; subst e99; clear o88 n88 m88 m99; have b9 := HLW.out.keep ((hK9 [w.heap.size + 1] (fun b hb => by rw [List.mem_singleton] at hb; rw [hb]; exact block_lt HLW.out) (fun b hb e => by rw [List.mem_singleton] at hb; have h8 := (HB9.out.lt.2 b e).2; omega)).1 _ (by simp)); have b8 := HRW.out.keep ((hK9 [w.heap.size] (fun b hb => by rw [List.mem_singleton] at hb; rw [hb]; exact block_lt HRW.out) (fun b hb e => by rw [List.mem_singleton] at hb; have h8 := (HB9.out.lt.2 b e).2; omega)).1 _ (by simp)); have hkS := hK9 FS (fun b hb => HSW.out.lt b hb) HD.out.2.1; have o8 := HSW.out.keep hkS.1; have HNO := hid hkS.2; have HXE := hid (hE9 w (by omega) HXW.out); clear cO fO cL fL hkS hK9 hE9; obtain ⟨cL, fL⟩ := b9.cells)
          go_roundw
          case rel =>
            refine ⟨k + 1, _, F ++ G, by omega, by go_num, b8.other (by omega), b9.setAt 0 (by show 0 < 1; decide) _, ?_, o8.setCell (p := ⟨w.heap.size + 1, 0, none⟩) HFS.out _, hid ⟨hnew.out, HNO.out, ?_⟩, HXE.out.setCell (Nat.le_succ _) _⟩
            · rw [HO2.out]
              exact hB9.keep fun b hb _ => keep_setCell (p := ⟨w.heap.size + 1, 0, none⟩) (fun e => by simp only at e; omega)
            · have h9 := block_lt b9; have h9 := block_lt b9; rw [World.size_setCell]; omega
          case measure => simp [intOf]; omega
      · have hall : ∀ p ∈ ps, (pO p).2 = true := by have := HD.out.1; rwa [List.take_of_length_le (by omega)] at this
        have hne : s ≠ ⟨#[]⟩ := fun e => by
          have h9 := hall ⟨#[]⟩ (by rw [HQ.out e]; exact List.mem_singleton.2 rfl)
          rw [pO_emp] at h9
          cases h9
        rw [List.take_of_length_le (by omega)] at hB
        have HAE := hid (show ∀ b, okBat b = true → fmtB b = s → b = ⟨ps.map fun p => (pO p).1⟩ from fun b h1 h2 => (HA.out b h1 h2).1)
        clear hall
        obtain ⟨F8, oB, nB, hbF⟩ := hB.done
        obtain ⟨A8, c8, rfl, _⟩ := oB.form
        obtain ⟨cL, fL⟩ := bL.cells
        have nF : NewF w F8 := ⟨nB, fun b hb => by have := hbF b hb; omega⟩
        have hgF : w.heap.size ∉ F8 := fun hm => by have := hbF _ hm; omega
        obtain ⟨ol, hol⟩ : ∃ l, l = ps.map fun p => (pO p).1 := ⟨_, rfl⟩
        rw [← hol] at oB HAE cL bL
        clear hol hbF nB hB oS
        go_wp2_with fail
        refine (impl_FormatBatch _ ⟨ol⟩ _ ⟨_, rfl, trivial, oB.sl⟩ (N.T.mono hx)).mono ?_
        rintro e w9 ⟨rfl, y9⟩
        have bR9 := bR.ext y9
        have bL9 := bL.ext y9
        have oB9 := oB.ext y9
        have xw9 := hx.trans y9
        clear bR bL oB hx y9 cL fL
        obtain ⟨cL, fL⟩ := bL9.cells
        by_cases hq : fmtB ⟨ol⟩ = s
        · have hq1 := str_eq hq
          have hq2 : (fmtB ⟨ol⟩).toList = s.toList := by rw [hq]
          have HPP := hid (show pB s = (⟨ol⟩, true) from ans_yes HAE.out (fmtB_ok hq hne) hq)
          clear hq bL9
          obtain ⟨cR, fR⟩ := bR9.cells
          go_wp2
          have b9 : Blk (w9.setCell ⟨w.heap.size, 0, none⟩ (.slice A8 ol.length c8)) w.heap.size 36 [.slice A8 ol.length c8] := bR9.setAt 0 (by show 0 < 1; decide) (.slice A8 ol.length c8)
          have r0 : (w9.setCell ⟨w.heap.size, 0, none⟩ (.slice A8 ol.length c8)).cell? ⟨w.heap.size, 0, none⟩ = some (.slice A8 ol.length c8) := b9.cells.1 0
          have x9 : Ext w (w9.setCell ⟨w.heap.size, 0, none⟩ (.slice A8 ol.length c8)) := xw9.setCell (Nat.le_refl _) _
          refine bodyPost_ret (v := .tuple #[.agg #[.slice A8 ol.length c8], .bool true]) (by simp [results, Tryz.results14, go_sem, r0]) rfl ?_
          exact ⟨_, _, by rw [HPP.out], by rw [HPP.out]; exact ⟨_, rfl, trivial, (oB9.setCell (p := ⟨w.heap.size, 0, none⟩) hgF _)⟩, nF, x9⟩
        · have hq1 := str_ne hq
          have HPP := hid (show pB s = (⟨[]⟩, false) from ans_end HAE.out hq)
          clear hq bL9
          obtain ⟨cR, fR⟩ := bR9.cells
          go_wp2
          have b9 : Blk (w9.setCell ⟨w.heap.size, 0, none⟩ (.slice none 0 0)) w.heap.size 36 [.slice none 0 0] := bR9.setAt 0 (by show 0 < 1; decide) (.slice none 0 0)
          have r0 : (w9.setCell ⟨w.heap.size, 0, none⟩ (.slice none 0 0)).cell? ⟨w.heap.size, 0, none⟩ = some (.slice none 0 0) := b9.cells.1 0
          have x9 : Ext w (w9.setCell ⟨w.heap.size, 0, none⟩ (.slice none 0 0)) := xw9.setCell (Nat.le_refl _) _
          refine bodyPost_ret (v := .tuple #[.agg #[.slice none 0 0], .bool false]) (by simp [results, Tryz.results14, go_sem, r0]) rfl ?_
          exact ⟨_, _, by rw [HPP.out], by rw [HPP.out]; exact ⟨_, rfl, trivial, OwnSl.nilS _ _⟩, NewF.nil _, x9⟩

end Go.Proofs.YtfieimmlcopbhaaGreatDoor
