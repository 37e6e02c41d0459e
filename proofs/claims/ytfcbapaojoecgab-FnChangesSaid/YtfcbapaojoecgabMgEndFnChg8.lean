/-
  THE LAW'S WALK: FnChanges.
-/
import Derived.Test.YtfcbapaojoecgabMgEndFnChg7
import Derived.Test.YtfcbapaojoecgabMgEndFnChg6
import Derived.Test.YtfcbapaojoecgabMgEndFnChg0
import Derived.Test.YtfcbapaojoecgabMgEndFnChg3

namespace Go.Proofs.Ytfcbapaojoecgab
open Go.RowKit

set_option maxHeartbeats 4000000 in
set_option maxRecDepth 20000 in
theorem law_FnChanges (v : Value) (bs : List Int) (w : World) (h : Sl u8R w v bs) :
    Calls Try.prog 5 #[v] w fun e w2 => e = .returned (.bool true) ∧ Ext w w2 := by
  by_cases hbig : 1048576 < bs.length
  · go_enter Try.func5, Try.ntmps5
    go_wp2_with fail
    refine (laws_big _ bs w h).mono ?_
    rintro e w2 ⟨rfl, rfl⟩
    rw [decide_eq_true hbig]
    go_wp2
    go_ret
    exact ⟨rfl, Ext.refl _⟩
  · go_enter Try.func5, Try.ntmps5
    go_wp2_with fail
    refine (laws_big _ bs w h).mono ?_
    rintro e w2 ⟨rfl, rfl⟩
    rw [decide_eq_false hbig]
    go_wp2_with fail
    refine (spec_DrawDescribeChanges w _ bs h).mono ?_
    rintro e w2 ⟨v1, v2, xs, ys, rfl, s1, s2, m1, m2, x2⟩
    obtain ⟨A1, c1, e1, _⟩ := s1.form
    subst e1
    obtain ⟨A2, c2, e2, _⟩ := s2.form
    subst e2
    go_wp2_with fail
    refine (impl_DescribeChanges _ _ xs ys _ s1 s2 (by omega) (by omega)).mono ?_
    rintro e w3 ⟨v3, F3, rfl, o3, n3, x3⟩
    go_wp2_with fail
    refine (spec_DescribeChanges _ _ xs ys _ (s1.mono x3) (s2.mono x3) (by omega) (by omega)).mono ?_
    rintro e w4 ⟨v4, F4, rfl, o4, n4, x4⟩
    have s3 := o3.sl.mono x4
    have s4 := o4.sl
    have S1 := hid ((s1.mono x3).mono x4)
    have S2 := hid ((s2.mono x3).mono x4)
    have xw := (x2.trans x3).trans x4
    obtain ⟨l, hl⟩ : ∃ l, l = desc xs ys := ⟨_, rfl⟩
    rw [← hl] at s3 s4
    have HL := hid hl
    have HSM := hid (show msEnts xs ≤ 100 ∧ msEnts ys ≤ 100 from ⟨m1, m2⟩)
    obtain ⟨A3, c3, e3, _⟩ := s3.form
    subst e3
    obtain ⟨A4, c4, e4, _⟩ := s4.form
    subst e4
    clear o3 o4 n3 n4 x2 x3 x4 hl s1 s2 m1 m2
    go_wp2
    go_loopw [7] (fun i wr => ∃ k : Nat, k ≤ l.length ∧ i = .int .i64 k ∧ Ext w4 wr) (fun i _ => l.length - (intOf i).toNat)
    case atStart => exact ⟨0, Nat.zero_le _, rfl, Ext.refl _⟩
    case round =>
      obtain ⟨k, hk, rfl, hx⟩ := hrel
      by_cases hlt : k < l.length
      · obtain ⟨b, off, eA, _, q0, q1, q2⟩ := (s3.mono hx).change hlt
        cases eA
        obtain ⟨b2, off2, eB, _, r0, r1, r2⟩ := (s4.mono hx).change hlt
        cases eB
        have z0 : ∀ z : ExtOf wr, z.1.cell? ⟨b, off + k * 3, none⟩ = _ := fun z => z.2.cell q0
        have z1 : ∀ z : ExtOf wr, z.1.cell? ⟨b, off + k * 3 + 1, none⟩ = _ := fun z => z.2.cell q1
        have z2 : ∀ z : ExtOf wr, z.1.cell? ⟨b, off + k * 3 + 2, none⟩ = _ := fun z => z.2.cell q2
        have y0 : ∀ z : ExtOf wr, z.1.cell? ⟨b2, off2 + k * 3, none⟩ = _ := fun z => z.2.cell r0
        have y1 : ∀ z : ExtOf wr, z.1.cell? ⟨b2, off2 + k * 3 + 1, none⟩ = _ := fun z => z.2.cell r1
        have y2 : ∀ z : ExtOf wr, z.1.cell? ⟨b2, off2 + k * 3 + 2, none⟩ = _ := fun z => z.2.cell r2
        clear q0 q1 q2 r0 r1 r2
        go_wp2_with fail
        refine wp_region_ext (by kernel_rfl) (by kernel_rfl) ?_
        repeat (go_big_quiet_step ((fail)))
        refine wpQuiet_nil ?_
        rintro w5 ⟨⟨_, x5⟩, rfl⟩
        go_wp2
        go_roundw
        case rel => exact ⟨k + 1, by omega, by go_num, hx.trans x5⟩
        case measure => simp [intOf]; omega
      · have t1 := S1.out.mono hx
        have t2 := S2.out.mono hx
        have t3 := s3.mono hx
        have xw2 := xw.trans hx
        clear s3 s4 S1 S2 xw
        go_wp2_with fail
        refine (spec_AreEntities _ xs _ t1 (by have := HSM.out.1; omega)).mono ?_
        rintro e w5 ⟨rfl, x5⟩
        replace t1 := t1.mono x5
        replace t2 := t2.mono x5
        replace t3 := t3.mono x5
        replace xw2 := xw2.trans x5
        clear x5 hx
        cases ha : areEnts xs with
        | false =>
          have HN := hid (show l.length = 0 by rw [HL.out, desc_no (fun hh => by rw [ha] at hh; cases hh.1)]; rfl)
          have e0 : ((l.length : Int) == 0) = true := by have := HN.out; simp [this]
          clear ha
          go_wp2
          go_ret
          exact ⟨rfl, xw2⟩
        | true =>
          have HA := hid ha
          clear ha
          go_wp2_with fail
          refine (spec_AreEntities _ ys _ t2 (by have := HSM.out.2; omega)).mono ?_
          rintro e w6 ⟨rfl, x6⟩
          replace t1 := t1.mono x6
          replace t2 := t2.mono x6
          replace t3 := t3.mono x6
          replace xw2 := xw2.trans x6
          clear x6
          cases hb : areEnts ys with
          | false =>
            have HN := hid (show l.length = 0 by rw [HL.out, desc_no (fun hh => by rw [hb] at hh; cases hh.2)]; rfl)
            have e0 : ((l.length : Int) == 0) = true := by have := HN.out; simp [this]
            clear hb
            go_wp2
            go_ret
            exact ⟨rfl, xw2⟩
          | true =>
            have HB := hid hb
            clear hb
            go_wp2
            go_loopw [8] (fun i wr => ∃ k : Nat, k ≤ xs.length ∧ i = .int .i64 k ∧ Ext w6 wr) (fun i _ => xs.length - (intOf i).toNat)
            case atStart => exact ⟨0, Nat.zero_le _, rfl, Ext.refl _⟩
            case round =>
              obtain ⟨k, hk, rfl, hx⟩ := hrel
              by_cases hlt : k < xs.length
              · obtain ⟨e, he⟩ : ∃ e, e = xs[k] := ⟨_, rfl⟩
                have HT := hid (show toldB l e.id = !sameB ys e from by rw [HL.out]; exact told_same HA.out HB.out (by rw [he]; exact List.getElem_mem hlt))
                have HEK := hid he
                clear he
                go_wp2
                obtain ⟨wi, hwi⟩ : ∃ wi : World, wi = wr := ⟨_, rfl⟩
                go_loopw [9, 10] (fun t q wq => ∃ p : Nat, p ≤ l.length ∧ q = .int .i64 p ∧ t = .bool (toldB (l.take p) e.id) ∧ Ext wi wq) (fun _ q _ => l.length - (intOf q).toNat)
                case atStart => exact ⟨0, Nat.zero_le _, rfl, rfl, by rw [hwi]; exact Ext.refl _⟩
                case round =>
                  obtain ⟨p, hp, rfl, rfl, hxq⟩ := hrel
                  rw [← hwi] at hx
                  have hxx := hx.trans hxq
                  by_cases hpl : p < l.length
                  · have HST := hid (toldB_take (x := e.id) hpl)
                    obtain ⟨b, off, eA, _, _, q1, _⟩ := (t3.mono hxx).change hpl
                    cases eA
                    obtain ⟨b2, off2, A5, c5, eE, hI, hs5, d0, d1⟩ := (t1.mono hxx).ent hlt
                    cases eE
                    rw [← HEK.out] at d0
                    have z1 : ∀ z : ExtOf wr, z.1.cell? ⟨b, off + p * 3 + 1, none⟩ = _ := fun z => z.2.cell q1
                    have y0 : ∀ z : ExtOf wr, z.1.cell? ⟨b2, off2 + k * 2, none⟩ = _ := fun z => z.2.cell d0
                    clear q1 d0 d1 hs5 hI
                    cases ht : toldB (l.take p) e.id with
                    | true =>
                      have HH := hid ht
                      clear ht
                      go_wp2_with fail
                      refine wp_region_ext (by kernel_rfl) (by kernel_rfl) ?_
                      repeat (go_big_quiet_step ((fail)))
                      refine wpQuiet_nil ?_
                      rintro w5 ⟨⟨_, x5⟩, rfl⟩
                      go_wp2
                      go_roundw
                      case rel => exact ⟨p + 1, by omega, by go_num, by rw [HST.out, HH.out]; rfl, hxq.trans x5⟩
                      case measure => simp [intOf]; omega
                    | false =>
                      have HH := hid ht
                      clear ht
                      obtain ⟨d, hd⟩ : ∃ d, d = (l[p].id == e.id) := ⟨_, rfl⟩
                      have HD := hid hd
                      have hd2 : (l[p].id == e.id) = d := hd.symm
                      clear hd
                      go_wp2_with fail
                      refine wp_region_ext (by kernel_rfl) (by kernel_rfl) ?_
                      repeat (go_big_quiet_step ((fail)))
                      refine wpQuiet_nil ?_
                      rintro w5 ⟨⟨_, x5⟩, rfl⟩
                      go_wp2
                      go_roundw
                      case rel => exact ⟨p + 1, by omega, by go_num, by rw [HST.out, HH.out, Bool.false_or, HD.out], hxq.trans x5⟩
                      case measure => simp [intOf]; omega
                  · rw [List.take_of_length_le (by omega)]
                    obtain ⟨told, htold⟩ : ∃ t, t = toldB l e.id := ⟨_, rfl⟩
                    rw [← htold]
                    have HTO := hid htold
                    clear htold
                    go_wp2
                    clear hpl hp
                    obtain ⟨wj, hwj⟩ : ∃ wj : World, wj = wr := ⟨_, rfl⟩
                    go_loopw [11, 12] (fun t q wq => ∃ p : Nat, p ≤ ys.length ∧ q = .int .i64 p ∧ t = .bool (sameB (ys.take p) e) ∧ Ext wj wq) (fun _ q _ => ys.length - (intOf q).toNat)
                    case atStart => exact ⟨0, Nat.zero_le _, rfl, rfl, by rw [hwj]; exact Ext.refl _⟩
                    case round =>
                      obtain ⟨p, hp, rfl, rfl, hxr⟩ := hrel
                      rw [← hwj] at hxx
                      have hxy := hxx.trans hxr
                      by_cases hpl : p < ys.length
                      · have HST := hid (sameB_take (e := e) hpl)
                        obtain ⟨b, off, A6, c6, eA, _, hs6, q0, q1⟩ := (t2.mono hxy).ent hpl
                        cases eA
                        obtain ⟨b2, off2, A5, c5, eE, _, hs5, d0, d1⟩ := (t1.mono hxy).ent hlt
                        cases eE
                        rw [← HEK.out] at d0 d1 hs5
                        have z0 : ∀ z : ExtOf wr, z.1.cell? ⟨b, off + p * 2, none⟩ = _ := fun z => z.2.cell q0
                        have z1 : ∀ z : ExtOf wr, z.1.cell? ⟨b, off + p * 2 + 1, none⟩ = _ := fun z => z.2.cell q1
                        have y0 : ∀ z : ExtOf wr, z.1.cell? ⟨b2, off2 + k * 2, none⟩ = _ := fun z => z.2.cell d0
                        have y1 : ∀ z : ExtOf wr, z.1.cell? ⟨b2, off2 + k * 2 + 1, none⟩ = _ := fun z => z.2.cell d1
                        clear q0 q1 d0 d1
                        cases ht : sameB (ys.take p) e with
                        | true =>
                          have HH := hid ht
                          clear ht
                          go_wp2_with fail
                          refine wp_region_ext (by kernel_rfl) (by kernel_rfl) ?_
                          repeat (go_big_quiet_step ((fail)))
                          refine wpQuiet_nil ?_
                          rintro w5 ⟨⟨_, x5⟩, rfl⟩
                          go_wp2
                          go_roundw
                          case rel => exact ⟨p + 1, by omega, by go_num, by rw [HST.out, HH.out]; rfl, hxr.trans x5⟩
                          case measure => simp [intOf]; omega
                        | false =>
                          have HH := hid ht
                          clear ht
                          by_cases hq : ys[p].id = e.id
                          · have e1 : (ys[p].id == e.id) = true := by simp [hq]
                            have HQ := hid e1
                            clear hq
                            go_wp2_with fail
                            refine wp_region_ext (by kernel_rfl) (by kernel_rfl) ?_
                            repeat (go_big_quiet_step ((first | (go_at_call 21; exact quiet_ext (laws_sameInts _ _ e.members ys[p].members _ (hs5.mono (Subtype.property _)) (hs6.mono (Subtype.property _)))))))
                            refine wpQuiet_nil ?_
                            rintro w5 ⟨⟨_, x5⟩, rfl⟩
                            go_wp2
                            go_roundw
                            case rel => exact ⟨p + 1, by omega, by go_num, by rw [HST.out, HH.out, HQ.out]; rfl, hxr.trans x5⟩
                            case measure => simp [intOf]; omega
                          · have e1 : (ys[p].id == e.id) = false := by simp [hq]
                            have HQ := hid e1
                            clear hq
                            go_wp2_with fail
                            refine wp_region_ext (by kernel_rfl) (by kernel_rfl) ?_
                            repeat (go_big_quiet_step ((fail)))
                            refine wpQuiet_nil ?_
                            rintro w5 ⟨⟨_, x5⟩, rfl⟩
                            go_wp2
                            go_roundw
                            case rel => exact ⟨p + 1, by omega, by go_num, by rw [HST.out, HH.out, HQ.out]; rfl, hxr.trans x5⟩
                            case measure => simp [intOf]; omega
                      · rw [List.take_of_length_le (by omega)]
                        have e1 : (told == sameB ys e) = false := by rw [HTO.out, HT.out]; cases sameB ys e <;> rfl
                        go_wp2
                        go_roundw
                        case rel => exact ⟨k + 1, by omega, by go_num, hxy⟩
                        case measure => simp [intOf]; omega
              · have t9 := t1.mono hx
                go_wp2_with fail
                refine (impl_DescribeChanges _ _ xs xs _ t9 t9 (by have := HSM.out.1; omega) (by have := HSM.out.1; omega)).mono ?_
                rintro e w9 ⟨v9, F9, rfl, o9, _, x9⟩
                rw [desc_self] at o9
                obtain ⟨A9, c9, e9, _⟩ := o9.form
                subst e9
                clear o9
                go_wp2
                go_ret
                exact ⟨rfl, (xw2.trans hx).trans x9⟩
end Go.Proofs.Ytfcbapaojoecgab
