/-
  THE LAW'S WALK: FnVerdicts.
-/
import Derived.Test.YtblggajfdhjmjaaDoorMgEndFnVer10
import Derived.Test.YtblggajfdhjmjaaDoorMgEndFnVer8
import Derived.Test.YtblggajfdhjmjaaDoorMgEndFnVer9
import Derived.Test.YtblggajfdhjmjaaDoorMgEndFnVer5

namespace Go.Proofs.YtblggajfdhjmjaaDoor
open Go.RowKit

set_option maxHeartbeats 2000000 in
set_option maxRecDepth 20000 in
theorem law_FnVerdicts (v : Value) (bs : List Int) (w : World) (h : Sl u8R w v bs) (N : Env w) :
    Calls Tryd.prog 3 #[v] w fun e w2 => e = .returned (.bool true) ∧ Ext w w2 := by
  by_cases hbig : 1048576 < bs.length
  · go_enter Tryd.func3, Tryd.ntmps3
    go_wp2_with fail
    refine (laws_big _ bs w h).mono ?_
    rintro e w2 ⟨rfl, rfl⟩
    rw [decide_eq_true hbig]
    go_wp2
    go_ret
    exact ⟨rfl, Ext.refl _⟩
  · go_enter Tryd.func3, Tryd.ntmps3
    go_wp2_with fail
    refine (laws_big _ bs w h).mono ?_
    rintro e w2 ⟨rfl, rfl⟩
    rw [decide_eq_false hbig]
    go_wp2_with fail
    refine (spec_DrawAddVerdict w _ bs h).mono ?_
    rintro e w2 ⟨v1, xs, x, rfl, hs0, hl, hok, x2⟩
    obtain ⟨A, c, e1, _⟩ := hs0.form
    subst e1
    have xb : Ext w2 (w2.alloc (.cells #[.int .i64 x.a, .int .i64 x.b, .bool x.same, .int .i64 x.time] 26)) := (Ext.refl w2).alloc _
    have b3 : Blk (w2.alloc (.cells #[.int .i64 x.a, .int .i64 x.b, .bool x.same, .int .i64 x.time] 26)) w2.heap.size 26 [.int .i64 x.a, .int .i64 x.b, .bool x.same, .int .i64 x.time] := Blk.new w2 26 #[.int .i64 x.a, .int .i64 x.b, .bool x.same, .int .i64 x.time]
    have HB := hid (show ∀ W, Ext (w2.alloc (.cells #[.int .i64 x.a, .int .i64 x.b, .bool x.same, .int .i64 x.time] 26)) W → Sl verdictR W (.slice A xs.length c) xs ∧ W.cell? ⟨w2.heap.size, 0, none⟩ = some (.int .i64 x.a) ∧ W.cell? ⟨w2.heap.size, 1, none⟩ = some (.int .i64 x.b) ∧ W.cell? ⟨w2.heap.size, 2, none⟩ = some (.bool x.same) ∧ W.cell? ⟨w2.heap.size, 3, none⟩ = some (.int .i64 x.time) from fun W k => ⟨(hs0.mono xb).mono k, (b3.ext k).cells.1 0, (b3.ext k).cells.1 1, (b3.ext k).cells.1 2, (b3.ext k).cells.1 3⟩)
    have HX := hid (x2.trans xb)
    have HOK := hid hok
    clear hs0 b3 hok x2
    go_wp2_with fail
    refine (impl_AddVerdict _ xs x _ (HB.out _ (Ext.refl _)).1 (by omega)).mono ?_
    rintro e w3 ⟨v3, F3, rfl, o3, n3, x3⟩
    obtain ⟨A3, c3, e3, _⟩ := o3.form
    subst e3
    have S3 := hid o3.sl
    have al := addV_len xs x
    obtain ⟨i0, i1, i2, i3⟩ := (HB.out _ x3).2
    clear o3 n3
    go_wp2_with fail
    refine (spec_AddVerdict _ xs x _ (HB.out _ x3).1 (by omega)).mono ?_
    rintro e w4 ⟨v4, F4, rfl, o4, n4, x4⟩
    obtain ⟨A4, c4, e4, _⟩ := o4.form
    subst e4
    have x34 := x3.trans x4
    have qb : ((addV xs x).2 != (addV xs x).2) = false := by simp
    clear o4 n4 i0 i1 i2 i3
    go_wp2_with fail
    refine (impl_AreVerdicts _ xs _ (HB.out _ x34).1).mono ?_
    rintro e w5 ⟨rfl, x5⟩
    have x35 := x34.trans x5
    go_wp2_with fail
    refine (spec_AreVerdicts _ xs _ (HB.out _ x35).1).mono ?_
    rintro e w6 ⟨rfl, x6⟩
    have x36 := x35.trans x6
    have x46 := (x4.trans x5).trans x6
    have qa : (areVers xs != areVers xs) = false := by simp
    clear x3 x4 x5 x6 x34 x35
    cases had : (addV xs x).2 with
    | true =>
      have HAD := hid (add_back had)
      rw [had] at qb
      clear had
      obtain ⟨i0, i1, i2, i3⟩ := (HB.out _ x36).2
      go_wp2_with fail
      refine (impl_RemoveVerdict _ (addV xs x).1 x _ (S3.out.mono x46) (by omega)).mono ?_
      rintro e w7 ⟨v7, F7, rfl, o7, n7, x7⟩
      obtain ⟨A7, c7, e7, _⟩ := o7.form
      subst e7
      clear o7 n7
      have hl7 := HAD.out.2.2.1
      rw [HAD.out.2.1, hl7]
      clear hl7 i0 i1 i2 i3
      have x47 := x46.trans x7
      go_wp2_with fail
      refine (impl_AreVerdicts _ (addV xs x).1 _ (S3.out.mono x47)).mono ?_
      rintro e w8 ⟨rfl, x8⟩
      have hq8 := HAD.out.1
      rw [hq8]
      clear hq8
      have x48 := x47.trans x8
      have x38 := (x36.trans x7).trans x8
      clear x46 x47 x7 x8 x36
      obtain ⟨ys, hys⟩ : ∃ ys, ys = (addV xs x).1 := ⟨_, rfl⟩
      rw [← hys] at S3 al ⊢
      have HYS := hid hys
      clear hys
      have S7 := hid (show ∀ W, Ext w8 W → Sl verdictR W (.slice A3 ys.length c3) ys from fun W k => S3.out.mono (x48.trans k))
      go_wp2_with fail
      refine (impl_CurrentVerdicts _ ys _ (S7.out _ (Ext.refl _))).mono ?_
      rintro e w9 ⟨v9, F9, rfl, o9, n9, x9⟩
      obtain ⟨AC, cC, eC, _⟩ := o9.form
      subst eC
      have SC := hid o9.sl
      clear o9 n9
      go_wp2_with fail
      refine (spec_CurrentVerdicts _ ys _ (S7.out _ x9)).mono ?_
      rintro e w10 ⟨v10, F10, rfl, o10, n10, x10⟩
      obtain ⟨AD, cD, eD, _⟩ := o10.form
      subst eD
      have SD := hid o10.sl
      clear o10 n10
      have X9 := hid (HX.out.trans (x38.trans (x9.trans x10)))
      have HZ := hid (show ∀ W, Ext w10 W → Sl verdictR W (.slice A3 ys.length c3) ys ∧ Sl verdictR W (.slice AC (curV ys).length cC) (curV ys) ∧ Sl verdictR W (.slice AD (curV ys).length cD) (curV ys) ∧ W.cell? ⟨w2.heap.size, 0, none⟩ = some (.int .i64 x.a) ∧ W.cell? ⟨w2.heap.size, 1, none⟩ = some (.int .i64 x.b) ∧ W.cell? ⟨w2.heap.size, 2, none⟩ = some (.bool x.same) ∧ W.cell? ⟨w2.heap.size, 3, none⟩ = some (.int .i64 x.time) from fun W y => ⟨S7.out _ ((x9.trans x10).trans y), SC.out.mono (x10.trans y), SD.out.mono y, (HB.out _ ((x38.trans (x9.trans x10)).trans y)).2⟩)
      clear x9 x10 x38 x48 h HB S7 SC SD S3 HX HOK HAD qb qa HYS
      obtain ⟨W, hW⟩ : ∃ W, W = w10 := ⟨_, rfl⟩
      rw [← hW] at X9 HZ ⊢
      clear hW
      go_wp2_with fail
      go_loopw [13] (fun i wr => ∃ k : Nat, k ≤ (curV ys).length ∧ i = .int .i64 k ∧ Ext W wr) (fun i _ => (curV ys).length - (intOf i).toNat)
      case atStart => exact ⟨0, Nat.zero_le _, rfl, Ext.refl _⟩
      case round =>
        obtain ⟨k, hk, rfl, hx⟩ := hrel
        by_cases hlt : k < (curV ys).length
        · have HLT := hid (fun q (hq : q < ys.length) => cur_late (List.getElem_mem hlt) (List.getElem_mem hq))
          obtain ⟨b, off, eC, hok, c0, c1, c2, c3⟩ := (HZ.out _ hx).2.1.verdict hlt
          subst eC
          obtain ⟨b2, off2, eD, hok2, d0, d1, d2, d3⟩ := (HZ.out _ hx).2.2.1.verdict hlt
          subst eD
          clear hok hok2
          have y0 : ∀ z : ExtOf wr, z.1.cell? ⟨b, off + k * 4, none⟩ = _ := fun z => z.2.cell c0
          have y1 : ∀ z : ExtOf wr, z.1.cell? ⟨b, off + k * 4 + 1, none⟩ = _ := fun z => z.2.cell c1
          have y2 : ∀ z : ExtOf wr, z.1.cell? ⟨b, off + k * 4 + 2, none⟩ = _ := fun z => z.2.cell c2
          have y3 : ∀ z : ExtOf wr, z.1.cell? ⟨b, off + k * 4 + 3, none⟩ = _ := fun z => z.2.cell c3
          have z0 : ∀ z : ExtOf wr, z.1.cell? ⟨b2, off2 + k * 4, none⟩ = _ := fun z => z.2.cell d0
          have z1 : ∀ z : ExtOf wr, z.1.cell? ⟨b2, off2 + k * 4 + 1, none⟩ = _ := fun z => z.2.cell d1
          have z2 : ∀ z : ExtOf wr, z.1.cell? ⟨b2, off2 + k * 4 + 2, none⟩ = _ := fun z => z.2.cell d2
          have z3 : ∀ z : ExtOf wr, z.1.cell? ⟨b2, off2 + k * 4 + 3, none⟩ = _ := fun z => z.2.cell d3
          clear d0 d1 d2 d3 c2
          go_wp2_with fail
          refine wp_region_ext (by kernel_rfl) (by kernel_rfl) ?_
          repeat (go_big_quiet_step ((fail)))
          refine wpQuiet_nil ?_
          rintro w31 ⟨⟨_, x31⟩, rfl⟩
          have HC := hid (show ∀ W2, Ext w31 W2 → W2.cell? ⟨b, off + k * 4, none⟩ = _ ∧ W2.cell? ⟨b, off + k * 4 + 1, none⟩ = _ ∧ W2.cell? ⟨b, off + k * 4 + 3, none⟩ = _ from fun W2 y => ⟨(x31.trans y).cell c0, (x31.trans y).cell c1, (x31.trans y).cell c3⟩)
          have HX := hid (hx.trans x31)
          clear c0 c1 c3 y0 y1 y2 y3 z0 z1 z2 z3 hx x31
          go_wp2_with fail
          go_loopw [14] (fun i w3 => ∃ q : Nat, q ≤ ys.length ∧ i = .int .i64 q ∧ Ext w31 w3) (fun i _ => ys.length - (intOf i).toNat)
          case atStart => exact ⟨0, Nat.zero_le _, rfl, Ext.refl _⟩
          case round =>
            obtain ⟨q, hq, rfl, hx3⟩ := hrel
            by_cases hlq : q < ys.length
            · obtain ⟨b3, off3, e3, hok3, e0, e1, e2, e4⟩ := (HZ.out _ (HX.out.trans hx3)).1.verdict hlq
              subst e3
              clear hok3 e2
              have HQ := hid (HLT.out q hlq)
              have y0 : ∀ z : ExtOf wr, z.1.cell? ⟨b, off + k * 4, none⟩ = _ := fun z => (HC.out _ (hx3.trans z.2)).1
              have y1 : ∀ z : ExtOf wr, z.1.cell? ⟨b, off + k * 4 + 1, none⟩ = _ := fun z => (HC.out _ (hx3.trans z.2)).2.1
              have y3 : ∀ z : ExtOf wr, z.1.cell? ⟨b, off + k * 4 + 3, none⟩ = _ := fun z => (HC.out _ (hx3.trans z.2)).2.2
              have z0 : ∀ z : ExtOf wr, z.1.cell? ⟨b3, off3 + q * 4, none⟩ = _ := fun z => z.2.cell e0
              have z1 : ∀ z : ExtOf wr, z.1.cell? ⟨b3, off3 + q * 4 + 1, none⟩ = _ := fun z => z.2.cell e1
              have z3 : ∀ z : ExtOf wr, z.1.cell? ⟨b3, off3 + q * 4 + 3, none⟩ = _ := fun z => z.2.cell e4
              clear e0 e1 e4
              by_cases ha : ys[q].a = (curV ys)[k].a
              · have ha1 : (ys[q].a == (curV ys)[k].a) = true := by simp [ha]
                by_cases hb : ys[q].b = (curV ys)[k].b
                · have hb1 : (ys[q].b == (curV ys)[k].b) = true := by simp [hb]
                  have ht := HQ.out ha hb
                  have ht1 : decide ((curV ys)[k].time < ys[q].time) = false := by simp; omega
                  clear ha hb
                  go_wp2_with fail
                  refine wp_region_ext (by kernel_rfl) (by kernel_rfl) ?_
                  repeat (go_big_quiet_step ((fail)))
                  refine wpQuiet_nil ?_
                  rintro w32 ⟨⟨_, x32⟩, rfl⟩
                  go_wp2
                  go_roundw
                  case rel => exact ⟨q + 1, by omega, by go_num, hx3.trans x32⟩
                  case measure => simp [intOf]; omega
                · have hb1 : (ys[q].b == (curV ys)[k].b) = false := by simp [hb]
                  clear ha hb
                  go_wp2_with fail
                  refine wp_region_ext (by kernel_rfl) (by kernel_rfl) ?_
                  repeat (go_big_quiet_step ((fail)))
                  refine wpQuiet_nil ?_
                  rintro w32 ⟨⟨_, x32⟩, rfl⟩
                  go_wp2
                  go_roundw
                  case rel => exact ⟨q + 1, by omega, by go_num, hx3.trans x32⟩
                  case measure => simp [intOf]; omega
              · have ha1 : (ys[q].a == (curV ys)[k].a) = false := by simp [ha]
                clear ha
                go_wp2_with fail
                refine wp_region_ext (by kernel_rfl) (by kernel_rfl) ?_
                repeat (go_big_quiet_step ((fail)))
                refine wpQuiet_nil ?_
                rintro w32 ⟨⟨_, x32⟩, rfl⟩
                go_wp2
                go_roundw
                case rel => exact ⟨q + 1, by omega, by go_num, hx3.trans x32⟩
                case measure => simp [intOf]; omega
            · go_wp2
              go_roundw
              case rel => exact ⟨k + 1, by omega, by go_num, HX.out.trans hx3⟩
              case measure => simp [intOf]; omega
        · obtain ⟨i0, i1, i2, i3⟩ := (HZ.out _ hx).2.2.2
          go_wp2_with fail
          refine (impl_FormatVerdict _ _ _ _ _ (N.T.mono (X9.out.trans hx))).mono ?_
          rintro e wf ⟨rfl, xf⟩
          rw [show (⟨x.a, x.b, x.same, x.time⟩ : Verdict) = x from rfl]
          have hsz := fmtV_size x
          obtain ⟨hb1, hb2⟩ := pV_back x
          have xg := hx.trans xf
          clear i0 i1 i2 i3 hx xf
          go_wp2_with fail
          refine (impl_ParseVerdict (fmtV x) _ (by omega) (N.mono (X9.out.trans xg))).mono ?_
          rintro e wp ⟨rfl, xp⟩
          have xh := xg.trans xp
          clear xg xp hsz
          cases hok : okV x with
          | false =>
            rw [hok] at hb1
            rw [hb1]
            obtain ⟨v0, hv0⟩ : ∃ v0, v0 = (pV (fmtV x)).1 := ⟨_, rfl⟩
            rw [← hv0]
            clear hb1 hb2 hv0
            have xo := (Ext.refl wp).alloc (.cells #[.int .i64 v0.a, .int .i64 v0.b, .bool v0.same, .int .i64 v0.time] 26)
            obtain ⟨i0, i1, i2, i3⟩ := (HZ.out _ (xh.trans xo)).2.2.2
            have HOK := hid hok
            clear hok
            unfold verV
            go_wp2_with fail
            refine (spec_valid x _).mono ?_
            rintro e wv ⟨rfl, xv⟩
            rw [HOK.out]
            have xi := xh.trans (xo.trans xv)
            clear i0 i1 i2 i3
            obtain ⟨i0, i1, i2, i3⟩ := (HZ.out _ xi).2.2.2
            have hz := cmpV_zero (x := x) (y := x) |>.2 rfl
            go_wp2_with fail
            refine (impl_cmp x x _).mono ?_
            rintro e wz ⟨rfl, xz⟩
            rw [hz]
            clear hz
            go_wp2
            go_ret
            exact ⟨rfl, X9.out.trans (xi.trans xz)⟩
          | true =>
            rw [hok] at hb1
            rw [hb1, hb2 hok]
            clear hb1 hb2
            have xo := (Ext.refl wp).alloc (.cells #[.int .i64 x.a, .int .i64 x.b, .bool x.same, .int .i64 x.time] 26)
            obtain ⟨i0, i1, i2, i3⟩ := (HZ.out _ (xh.trans xo)).2.2.2
            have HOK := hid hok
            clear hok
            unfold verV
            go_wp2_with fail
            refine (spec_valid x _).mono ?_
            rintro e wv ⟨rfl, xv⟩
            rw [HOK.out]
            have xi := xh.trans (xo.trans xv)
            clear i0 i1 i2 i3
            obtain ⟨i0, i1, i2, i3⟩ := (HZ.out _ xi).2.2.2
            obtain ⟨j0, j1, j2, j3⟩ := (⟨xv.box.1 0, xv.box.1 1, xv.box.1 2, xv.box.1 3⟩ : _ ∧ _ ∧ _ ∧ _)
            have hz := cmpV_zero (x := x) (y := x) |>.2 rfl
            go_wp2_with fail
            refine (impl_cmp x x _).mono ?_
            rintro e wz ⟨rfl, xz⟩
            rw [hz]
            clear hz
            go_wp2
            go_ret
            exact ⟨rfl, X9.out.trans (xi.trans xz)⟩
    | false =>
      have HAD := hid had
      rw [had] at qb
      clear had
      obtain ⟨ys, hys⟩ : ∃ ys, ys = (addV xs x).1 := ⟨_, rfl⟩
      rw [← hys] at S3 al ⊢
      have HYS := hid hys
      clear hys
      have S7 := hid (show ∀ W, Ext w6 W → Sl verdictR W (.slice A3 ys.length c3) ys from fun W k => S3.out.mono (x46.trans k))
      go_wp2_with fail
      refine (impl_CurrentVerdicts _ ys _ (S7.out _ (Ext.refl _))).mono ?_
      rintro e w7 ⟨v7, F7, rfl, o7, n7, x7⟩
      obtain ⟨AC, cC, eC, _⟩ := o7.form
      subst eC
      have SC := hid o7.sl
      clear o7 n7
      go_wp2_with fail
      refine (spec_CurrentVerdicts _ ys _ (S7.out _ x7)).mono ?_
      rintro e w8 ⟨v8, F8, rfl, o8, n8, x8⟩
      obtain ⟨AD, cD, eD, _⟩ := o8.form
      subst eD
      have SD := hid o8.sl
      clear o8 n8
      have X9 := hid (HX.out.trans (x36.trans (x7.trans x8)))
      have HZ := hid (show ∀ W, Ext w8 W → Sl verdictR W (.slice A3 ys.length c3) ys ∧ Sl verdictR W (.slice AC (curV ys).length cC) (curV ys) ∧ Sl verdictR W (.slice AD (curV ys).length cD) (curV ys) ∧ W.cell? ⟨w2.heap.size, 0, none⟩ = some (.int .i64 x.a) ∧ W.cell? ⟨w2.heap.size, 1, none⟩ = some (.int .i64 x.b) ∧ W.cell? ⟨w2.heap.size, 2, none⟩ = some (.bool x.same) ∧ W.cell? ⟨w2.heap.size, 3, none⟩ = some (.int .i64 x.time) from fun W y => ⟨S7.out _ ((x7.trans x8).trans y), SC.out.mono (x8.trans y), SD.out.mono y, (HB.out _ ((x36.trans (x7.trans x8)).trans y)).2⟩)
      clear x7 x8 x36 x46 h HB S7 SC SD S3 HX HOK HAD qb qa HYS
      obtain ⟨W, hW⟩ : ∃ W, W = w8 := ⟨_, rfl⟩
      rw [← hW] at X9 HZ ⊢
      clear hW
      go_wp2_with fail
      go_loopw [13] (fun i wr => ∃ k : Nat, k ≤ (curV ys).length ∧ i = .int .i64 k ∧ Ext W wr) (fun i _ => (curV ys).length - (intOf i).toNat)
      case atStart => exact ⟨0, Nat.zero_le _, rfl, Ext.refl _⟩
      case round =>
        obtain ⟨k, hk, rfl, hx⟩ := hrel
        by_cases hlt : k < (curV ys).length
        · have HLT := hid (fun q (hq : q < ys.length) => cur_late (List.getElem_mem hlt) (List.getElem_mem hq))
          obtain ⟨b, off, eC, hok, c0, c1, c2, c3⟩ := (HZ.out _ hx).2.1.verdict hlt
          subst eC
          obtain ⟨b2, off2, eD, hok2, d0, d1, d2, d3⟩ := (HZ.out _ hx).2.2.1.verdict hlt
          subst eD
          clear hok hok2
          have y0 : ∀ z : ExtOf wr, z.1.cell? ⟨b, off + k * 4, none⟩ = _ := fun z => z.2.cell c0
          have y1 : ∀ z : ExtOf wr, z.1.cell? ⟨b, off + k * 4 + 1, none⟩ = _ := fun z => z.2.cell c1
          have y2 : ∀ z : ExtOf wr, z.1.cell? ⟨b, off + k * 4 + 2, none⟩ = _ := fun z => z.2.cell c2
          have y3 : ∀ z : ExtOf wr, z.1.cell? ⟨b, off + k * 4 + 3, none⟩ = _ := fun z => z.2.cell c3
          have z0 : ∀ z : ExtOf wr, z.1.cell? ⟨b2, off2 + k * 4, none⟩ = _ := fun z => z.2.cell d0
          have z1 : ∀ z : ExtOf wr, z.1.cell? ⟨b2, off2 + k * 4 + 1, none⟩ = _ := fun z => z.2.cell d1
          have z2 : ∀ z : ExtOf wr, z.1.cell? ⟨b2, off2 + k * 4 + 2, none⟩ = _ := fun z => z.2.cell d2
          have z3 : ∀ z : ExtOf wr, z.1.cell? ⟨b2, off2 + k * 4 + 3, none⟩ = _ := fun z => z.2.cell d3
          clear d0 d1 d2 d3 c2
          go_wp2_with fail
          refine wp_region_ext (by kernel_rfl) (by kernel_rfl) ?_
          repeat (go_big_quiet_step ((fail)))
          refine wpQuiet_nil ?_
          rintro w31 ⟨⟨_, x31⟩, rfl⟩
          have HC := hid (show ∀ W2, Ext w31 W2 → W2.cell? ⟨b, off + k * 4, none⟩ = _ ∧ W2.cell? ⟨b, off + k * 4 + 1, none⟩ = _ ∧ W2.cell? ⟨b, off + k * 4 + 3, none⟩ = _ from fun W2 y => ⟨(x31.trans y).cell c0, (x31.trans y).cell c1, (x31.trans y).cell c3⟩)
          have HX := hid (hx.trans x31)
          clear c0 c1 c3 y0 y1 y2 y3 z0 z1 z2 z3 hx x31
          go_wp2_with fail
          go_loopw [14] (fun i w3 => ∃ q : Nat, q ≤ ys.length ∧ i = .int .i64 q ∧ Ext w31 w3) (fun i _ => ys.length - (intOf i).toNat)
          case atStart => exact ⟨0, Nat.zero_le _, rfl, Ext.refl _⟩
          case round =>
            obtain ⟨q, hq, rfl, hx3⟩ := hrel
            by_cases hlq : q < ys.length
            · obtain ⟨b3, off3, e3, hok3, e0, e1, e2, e4⟩ := (HZ.out _ (HX.out.trans hx3)).1.verdict hlq
              subst e3
              clear hok3 e2
              have HQ := hid (HLT.out q hlq)
              have y0 : ∀ z : ExtOf wr, z.1.cell? ⟨b, off + k * 4, none⟩ = _ := fun z => (HC.out _ (hx3.trans z.2)).1
              have y1 : ∀ z : ExtOf wr, z.1.cell? ⟨b, off + k * 4 + 1, none⟩ = _ := fun z => (HC.out _ (hx3.trans z.2)).2.1
              have y3 : ∀ z : ExtOf wr, z.1.cell? ⟨b, off + k * 4 + 3, none⟩ = _ := fun z => (HC.out _ (hx3.trans z.2)).2.2
              have z0 : ∀ z : ExtOf wr, z.1.cell? ⟨b3, off3 + q * 4, none⟩ = _ := fun z => z.2.cell e0
              have z1 : ∀ z : ExtOf wr, z.1.cell? ⟨b3, off3 + q * 4 + 1, none⟩ = _ := fun z => z.2.cell e1
              have z3 : ∀ z : ExtOf wr, z.1.cell? ⟨b3, off3 + q * 4 + 3, none⟩ = _ := fun z => z.2.cell e4
              clear e0 e1 e4
              by_cases ha : ys[q].a = (curV ys)[k].a
              · have ha1 : (ys[q].a == (curV ys)[k].a) = true := by simp [ha]
                by_cases hb : ys[q].b = (curV ys)[k].b
                · have hb1 : (ys[q].b == (curV ys)[k].b) = true := by simp [hb]
                  have ht := HQ.out ha hb
                  have ht1 : decide ((curV ys)[k].time < ys[q].time) = false := by simp; omega
                  clear ha hb
                  go_wp2_with fail
                  refine wp_region_ext (by kernel_rfl) (by kernel_rfl) ?_
                  repeat (go_big_quiet_step ((fail)))
                  refine wpQuiet_nil ?_
                  rintro w32 ⟨⟨_, x32⟩, rfl⟩
                  go_wp2
                  go_roundw
                  case rel => exact ⟨q + 1, by omega, by go_num, hx3.trans x32⟩
                  case measure => simp [intOf]; omega
                · have hb1 : (ys[q].b == (curV ys)[k].b) = false := by simp [hb]
                  clear ha hb
                  go_wp2_with fail
                  refine wp_region_ext (by kernel_rfl) (by kernel_rfl) ?_
                  repeat (go_big_quiet_step ((fail)))
                  refine wpQuiet_nil ?_
                  rintro w32 ⟨⟨_, x32⟩, rfl⟩
                  go_wp2
                  go_roundw
                  case rel => exact ⟨q + 1, by omega, by go_num, hx3.trans x32⟩
                  case measure => simp [intOf]; omega
              · have ha1 : (ys[q].a == (curV ys)[k].a) = false := by simp [ha]
                clear ha
                go_wp2_with fail
                refine wp_region_ext (by kernel_rfl) (by kernel_rfl) ?_
                repeat (go_big_quiet_step ((fail)))
                refine wpQuiet_nil ?_
                rintro w32 ⟨⟨_, x32⟩, rfl⟩
                go_wp2
                go_roundw
                case rel => exact ⟨q + 1, by omega, by go_num, hx3.trans x32⟩
                case measure => simp [intOf]; omega
            · go_wp2
              go_roundw
              case rel => exact ⟨k + 1, by omega, by go_num, HX.out.trans hx3⟩
              case measure => simp [intOf]; omega
        · obtain ⟨i0, i1, i2, i3⟩ := (HZ.out _ hx).2.2.2
          go_wp2_with fail
          refine (impl_FormatVerdict _ _ _ _ _ (N.T.mono (X9.out.trans hx))).mono ?_
          rintro e wf ⟨rfl, xf⟩
          rw [show (⟨x.a, x.b, x.same, x.time⟩ : Verdict) = x from rfl]
          have hsz := fmtV_size x
          obtain ⟨hb1, hb2⟩ := pV_back x
          have xg := hx.trans xf
          clear i0 i1 i2 i3 hx xf
          go_wp2_with fail
          refine (impl_ParseVerdict (fmtV x) _ (by omega) (N.mono (X9.out.trans xg))).mono ?_
          rintro e wp ⟨rfl, xp⟩
          have xh := xg.trans xp
          clear xg xp hsz
          cases hok : okV x with
          | false =>
            rw [hok] at hb1
            rw [hb1]
            obtain ⟨v0, hv0⟩ : ∃ v0, v0 = (pV (fmtV x)).1 := ⟨_, rfl⟩
            rw [← hv0]
            clear hb1 hb2 hv0
            have xo := (Ext.refl wp).alloc (.cells #[.int .i64 v0.a, .int .i64 v0.b, .bool v0.same, .int .i64 v0.time] 26)
            obtain ⟨i0, i1, i2, i3⟩ := (HZ.out _ (xh.trans xo)).2.2.2
            have HOK := hid hok
            clear hok
            unfold verV
            go_wp2_with fail
            refine (spec_valid x _).mono ?_
            rintro e wv ⟨rfl, xv⟩
            rw [HOK.out]
            have xi := xh.trans (xo.trans xv)
            clear i0 i1 i2 i3
            obtain ⟨i0, i1, i2, i3⟩ := (HZ.out _ xi).2.2.2
            have hz := cmpV_zero (x := x) (y := x) |>.2 rfl
            go_wp2_with fail
            refine (impl_cmp x x _).mono ?_
            rintro e wz ⟨rfl, xz⟩
            rw [hz]
            clear hz
            go_wp2
            go_ret
            exact ⟨rfl, X9.out.trans (xi.trans xz)⟩
          | true =>
            rw [hok] at hb1
            rw [hb1, hb2 hok]
            clear hb1 hb2
            have xo := (Ext.refl wp).alloc (.cells #[.int .i64 x.a, .int .i64 x.b, .bool x.same, .int .i64 x.time] 26)
            obtain ⟨i0, i1, i2, i3⟩ := (HZ.out _ (xh.trans xo)).2.2.2
            have HOK := hid hok
            clear hok
            unfold verV
            go_wp2_with fail
            refine (spec_valid x _).mono ?_
            rintro e wv ⟨rfl, xv⟩
            rw [HOK.out]
            have xi := xh.trans (xo.trans xv)
            clear i0 i1 i2 i3
            obtain ⟨i0, i1, i2, i3⟩ := (HZ.out _ xi).2.2.2
            obtain ⟨j0, j1, j2, j3⟩ := (⟨xv.box.1 0, xv.box.1 1, xv.box.1 2, xv.box.1 3⟩ : _ ∧ _ ∧ _ ∧ _)
            have hz := cmpV_zero (x := x) (y := x) |>.2 rfl
            go_wp2_with fail
            refine (impl_cmp x x _).mono ?_
            rintro e wz ⟨rfl, xz⟩
            rw [hz]
            clear hz
            go_wp2
            go_ret
            exact ⟨rfl, X9.out.trans (xi.trans xz)⟩
end Go.Proofs.YtblggajfdhjmjaaDoor
