/-
  WALKS: CurrentVerdicts (both).
-/
import Derived.Test.YtmembjjgkideeaaMgEndSpl9

namespace Go.Proofs.Ytmembjjgkideeaa
open Go.RowKit

set_option maxHeartbeats 400000 in
set_option maxRecDepth 100000 in
theorem spec_CurrentVerdicts (v : Value) (xs : List Verdict) (w : World) (h : Sl verdictR w v xs) :
    Calls Try.prog 9 #[v] w fun e w2 => ∃ v2 F, e = .returned v2 ∧ OwnSl verdictO w2 v2 (curV xs) F ∧ NewF w F ∧ Ext w w2 := by
  obtain ⟨A, cap, rfl, hm⟩ := h.form
  go_enter Try.func9, Try.ntmps9
  go_wp2_with fail
  go_loopw [3, 4] (fun t i wr => ∃ (k : Nat) (out : List Verdict), k ≤ xs.length ∧ i = .int .i64 k ∧ Bld verdictO wr w.heap.size 32 t out [] ∧ out = (xs.take k).foldl curStep [] ∧ (0 < k → areVers xs = true) ∧ Ext w wr) (fun _ i _ => xs.length - (intOf i).toNat)
  case atStart => exact ⟨0, [], Nat.zero_le _, rfl, Bld.lit w (Nat.le_refl _) _, rfl, fun h0 => by omega, (Ext.refl _).alloc _⟩
  case round =>
    obtain ⟨k, out, hk, rfl, hB, ho, hpos, hx⟩ := hrel
    have HO := hid ho
    have HP := hid hpos
    clear ho hpos
    by_cases hlt : k < xs.length
    · have HST := hid (cur_step xs k hlt)
      have hol : out.length ≤ k := by rw [HO.out]; exact cur_len xs k hk
      obtain ⟨A9, cap9, e9, _⟩ := hB.sl.form
      obtain ⟨n9, hn9⟩ : ∃ n, n = out.length := ⟨_, rfl⟩
      rw [← hn9] at e9
      subst e9
      go_wp2_with fail
      refine (spec_AreVerdicts _ xs _ (h.mono hx)).mono ?_
      rintro e w2 ⟨rfl, x2⟩
      by_cases hv : areVers xs = true
      · rw [hv]
        have HV := hid hv
        have hl8 := vers_len hv
        clear hv
        have hB2 := hB.ext x2
        have hx2 := hx.trans x2
        clear hB hx x2
        obtain ⟨b, off, rfl, hok, hc0, hc1, hc2, hc3⟩ := (h.mono hx2).verdict hlt
        have HOK := hid hok
        clear hok
        rcases List.eq_nil_or_concat out with rfl | ⟨init, l, rfl⟩
        · have hn0 : n9 = 0 := by simpa using hn9
          subst hn0
          clear hn9
          go_wp2_with fail
          refine wp_region_ext (by kernel_rfl) (by kernel_rfl) ?_
          repeat (go_big_quiet_step ((fail)))
          refine wpQuiet_nil ?_
          rintro w4 ⟨⟨_, x4⟩, rfl⟩
          have d0 := x4.cell hc0
          have d1 := x4.cell hc1
          have d2 := x4.cell hc2
          have d3 := x4.cell hc3
          go_wp2_with (at_builtin; refine wpList_app1 (R := verdictO) elemVer (by decide) rfl _ _ rfl (hB2.ext x4) rfl _ 1 rfl (by simp) (one_ver _ _ _ _) (y := xs[k]) ⟨⟨rfl, HOK.out⟩, rfl⟩ fresh_nil (by simp) (by decide) (Nat.le_trans hx2.size x4.size) ?_; intro v9 w9 hB9 hE9)
          go_roundw
          case rel => exact ⟨k + 1, _, by omega, by go_num, hB9, by rw [HST.out, ← HO.out]; rfl, fun _ => HV.out, hE9 w (Nat.le_refl _) (hx2.trans x4)⟩
          case measure => simp [intOf]; omega
        · rw [List.concat_eq_append] at hB2 hn9 HO hol
          obtain ⟨hn, g, eg, hg1, hg2, ⟨l0, l1, l2, l3⟩, _, _⟩ := hB2.ver_last
          subst hn
          subst eg
          clear hn9
          have hbl : (init ++ [l]).length + 1 ≤ 1099511627776 := by omega
          have hil : init.length ≤ 9223372036854775806 := by rw [List.length_append, List.length_singleton] at hol; omega
          have hne0 : ((init.length : Int) + 1 == 0) = false := by simp; omega
          have y0 : ∀ z : ExtOf w2, z.1.cell? ⟨b, off + k * 4, none⟩ = _ := fun z => z.2.cell hc0
          have y1 : ∀ z : ExtOf w2, z.1.cell? ⟨b, off + k * 4 + 1, none⟩ = _ := fun z => z.2.cell hc1
          have z0 : ∀ z : ExtOf w2, z.1.cell? ⟨g, init.length * 4, none⟩ = _ := fun z => z.2.cell l0
          have z1 : ∀ z : ExtOf w2, z.1.cell? ⟨g, init.length * 4 + 1, none⟩ = _ := fun z => z.2.cell l1
          by_cases ha : l.a = xs[k].a
          · have ha1 : (l.a != xs[k].a) = false := by simp [ha]
            by_cases hb : l.b = xs[k].b
            · have hb1 : (l.b != xs[k].b) = false := by simp [hb]
              have HA := hid ha
              have HB := hid hb
              clear ha hb
              go_wp2_with fail
              refine wp_region_ext (by kernel_rfl) (by kernel_rfl) ?_
              repeat (go_big_quiet_step ((fail)))
              refine wpQuiet_nil ?_
              rintro w4 ⟨⟨_, x4⟩, rfl⟩
              have u3 : ∀ z : ExtOf w4, z.1.cell? ⟨b, off + k * 4 + 3, none⟩ = _ := fun z => (x4.trans z.2).cell hc3
              have t3 : ∀ z : ExtOf w4, z.1.cell? ⟨g, init.length * 4 + 3, none⟩ = _ := fun z => (x4.trans z.2).cell l3
              by_cases ht : l.time < xs[k].time
              · go_wp2_with fail
                refine wp_region_ext (by kernel_rfl) (by kernel_rfl) ?_
                repeat (go_big_quiet_step ((fail)))
                refine wpQuiet_nil ?_
                rintro w5 ⟨⟨_, x5⟩, rfl⟩
                have x6 := x4.trans x5
                have d0 := x6.cell hc0
                have d1 := x6.cell hc1
                have d2 := x6.cell hc2
                have d3 := x6.cell hc3
                obtain ⟨_, g', eg', _, _, ⟨q0, q1, q2, q3⟩, hfr, hset⟩ := (hB2.ext x6).ver_last
                injection eg' with eg'
                injection eg' with eg1 eg2 eg3
                subst eg1
                have hnew := hset xs[k] HOK.out
                have HNEW := hid hnew
                have hxn : Ext w ((((w5.setCell ⟨g, init.length * 4, none⟩ (.int .i64 xs[k].a)).setCell ⟨g, init.length * 4 + 1, none⟩ (.int .i64 xs[k].b)).setCell ⟨g, init.length * 4 + 2, none⟩ (.bool xs[k].same)).setCell ⟨g, init.length * 4 + 3, none⟩ (.int .i64 xs[k].time)) :=
                  ((((hx2.trans x6).setCell hg1 _).setCell hg1 _).setCell hg1 _).setCell hg1 _
                have HXN := hid hxn
                clear hset hnew hxn hB2
                go_wp2
                go_roundw
                case rel => exact ⟨k + 1, _, by omega, by go_num, HNEW.out, by rw [HST.out, ← HO.out, curStep_set HA.out HB.out ht], fun _ => HV.out, HXN.out⟩
                case measure => simp [intOf]; omega
              · go_wp2_with fail
                refine wp_region_ext (by kernel_rfl) (by kernel_rfl) ?_
                repeat (go_big_quiet_step ((fail)))
                refine wpQuiet_nil ?_
                rintro w5 ⟨⟨_, x5⟩, rfl⟩
                go_wp2
                go_roundw
                case rel => exact ⟨k + 1, _, by omega, by go_num, hB2.ext (x4.trans x5), by rw [HST.out, ← HO.out, curStep_old HA.out HB.out (by omega)], fun _ => HV.out, hx2.trans (x4.trans x5)⟩
                case measure => simp [intOf]; omega
            · have hb1 : (l.b != xs[k].b) = true := by simp [hb]
              have HB := hid hb
              clear ha hb
              go_wp2_with fail
              refine wp_region_ext (by kernel_rfl) (by kernel_rfl) ?_
              repeat (go_big_quiet_step ((fail)))
              refine wpQuiet_nil ?_
              rintro w4 ⟨⟨_, x4⟩, rfl⟩
              have d0 := x4.cell hc0
              have d1 := x4.cell hc1
              have d2 := x4.cell hc2
              have d3 := x4.cell hc3
              go_wp2_with (at_builtin; refine wpList_app1 (R := verdictO) elemVer (by decide) rfl _ _ rfl (hB2.ext x4) rfl _ 1 rfl (by simp) (one_ver _ _ _ _) (y := xs[k]) ⟨⟨rfl, HOK.out⟩, rfl⟩ fresh_nil (hbl) (by decide) (Nat.le_trans hx2.size x4.size) ?_; intro v9 w9 hB9 hE9)
              go_roundw
              case rel => exact ⟨k + 1, _, by omega, by go_num, hB9, by rw [HST.out, ← HO.out, curStep_new fun h9 => HB.out h9.2], fun _ => HV.out, hE9 w (Nat.le_refl _) (hx2.trans x4)⟩
              case measure => simp [intOf]; omega
          · have ha1 : (l.a != xs[k].a) = true := by simp [ha]
            have HA := hid ha
            clear ha
            go_wp2_with fail
            refine wp_region_ext (by kernel_rfl) (by kernel_rfl) ?_
            repeat (go_big_quiet_step ((fail)))
            refine wpQuiet_nil ?_
            rintro w4 ⟨⟨_, x4⟩, rfl⟩
            have d0 := x4.cell hc0
            have d1 := x4.cell hc1
            have d2 := x4.cell hc2
            have d3 := x4.cell hc3
            go_wp2_with (at_builtin; refine wpList_app1 (R := verdictO) elemVer (by decide) rfl _ _ rfl (hB2.ext x4) rfl _ 1 rfl (by simp) (one_ver _ _ _ _) (y := xs[k]) ⟨⟨rfl, HOK.out⟩, rfl⟩ fresh_nil (hbl) (by decide) (Nat.le_trans hx2.size x4.size) ?_; intro v9 w9 hB9 hE9)
            go_roundw
            case rel => exact ⟨k + 1, _, by omega, by go_num, hB9, by rw [HST.out, ← HO.out, curStep_new fun h9 => HA.out h9.1], fun _ => HV.out, hE9 w (Nat.le_refl _) (hx2.trans x4)⟩
            case measure => simp [intOf]; omega
      · have hv' : areVers xs = false := by simpa using hv
        rw [hv']
        have hk0 : k = 0 := by
          by_cases h0 : 0 < k
          · exact absurd (HP.out h0) hv
          · omega
        have hout : out = [] := by rw [HO.out, hk0]; rfl
        subst hout
        have hn0 : n9 = 0 := by simpa using hn9
        subst hn0
        clear hn9
        have HD := hid (show curV xs = [] by unfold curV; rw [hv']; rfl)
        clear hv hv' hk0
        obtain ⟨F', d1, d2, d3⟩ := (hB.ext x2).done
        go_wp2
        go_ret
        exact ⟨_, F', rfl, by rw [HD.out]; exact d1, ⟨d2, d3⟩, hx.trans x2⟩
    · have HR : curV xs = out := by
        rw [HO.out, List.take_of_length_le (by omega)]
        unfold curV
        by_cases h0 : 0 < k
        · rw [HP.out h0]; rfl
        · have : xs = [] := List.eq_nil_of_length_eq_zero (by omega)
          subst this; split <;> rfl
      have HRR := hid HR
      clear HR
      obtain ⟨F', d1, d2, d3⟩ := hB.done
      go_wp2
      go_ret
      exact ⟨_, F', rfl, by rw [HRR.out]; exact d1, ⟨d2, d3⟩, hx⟩

set_option maxHeartbeats 400000 in
set_option maxRecDepth 100000 in
theorem impl_CurrentVerdicts (v : Value) (xs : List Verdict) (w : World) (h : Sl verdictR w v xs) :
    Calls Try.prog 20 #[v] w fun e w2 => ∃ v2 F, e = .returned v2 ∧ OwnSl verdictO w2 v2 (curV xs) F ∧ NewF w F ∧ Ext w w2 := by
  obtain ⟨A, cap, rfl, hm⟩ := h.form
  have HN := hid (show ∀ W : World, OwnSl verdictO W (.slice none 0 0) [] [] from fun W => .inl ⟨rfl, rfl, none, 0, rfl, Nat.zero_le _⟩)
  go_enter Try.func20, Try.ntmps20
  go_wp2_with fail
  refine (impl_AreVerdicts _ xs _ h).mono ?_
  rintro e w1 ⟨rfl, x1⟩
  by_cases hv : areVers xs = true
  · rw [hv]
    have HV := hid hv
    have hl8 := vers_len hv
    clear hv
    go_wp2_with fail
    go_loopw [3, 12] (fun t i wr => ∃ (k : Nat) (out : List Verdict), k ≤ xs.length ∧ i = .int .i64 k ∧ Bld verdictO wr w.heap.size 32 t out [] ∧ out = (xs.take k).foldl curStep [] ∧ Ext w wr) (fun _ i _ => xs.length - (intOf i).toNat)
    case atStart => exact ⟨0, [], Nat.zero_le _, rfl, Bld.nil w1 _ _, rfl, x1⟩
    case round =>
      obtain ⟨k, out, hk, rfl, hB, ho, hx⟩ := hrel
      have HO := hid ho
      clear ho
      by_cases hlt : k < xs.length
      · have HST := hid (cur_step xs k hlt)
        have hol : out.length ≤ k := by rw [HO.out]; exact cur_len xs k hk
        obtain ⟨A9, cap9, e9, _⟩ := hB.sl.form
        obtain ⟨n9, hn9⟩ : ∃ n, n = out.length := ⟨_, rfl⟩
        rw [← hn9] at e9
        subst e9
        obtain ⟨b, off, rfl, hok, hc0, hc1, hc2, hc3⟩ := (h.mono hx).verdict hlt
        have HOK := hid hok
        clear hok
        have xb : Ext wr (wr.alloc (.cells #[.int .i64 xs[k].a, .int .i64 xs[k].b, .bool xs[k].same, .int .i64 xs[k].time] 32)) := (Ext.refl _).alloc _
        have HBX := hid (show ∀ W, Ext (wr.alloc (.cells #[.int .i64 xs[k].a, .int .i64 xs[k].b, .bool xs[k].same, .int .i64 xs[k].time] 32)) W → W.cell? ⟨wr.heap.size, 0, none⟩ = some (.int .i64 xs[k].a) ∧ W.cell? ⟨wr.heap.size, 1, none⟩ = some (.int .i64 xs[k].b) ∧ W.cell? ⟨wr.heap.size, 2, none⟩ = some (.bool xs[k].same) ∧ W.cell? ⟨wr.heap.size, 3, none⟩ = some (.int .i64 xs[k].time) from fun W z => ⟨z.box.1 0, z.box.1 1, z.box.1 2, z.box.1 3⟩)
        rcases List.eq_nil_or_concat out with rfl | ⟨init, l, rfl⟩
        · have hn0 : n9 = 0 := by simpa using hn9
          subst hn0
          clear hn9
          go_wp2_with fail
          refine wp_region_ext (by kernel_rfl) (by kernel_rfl) ?_
          repeat (go_big_quiet_step ((fail)))
          refine wpQuiet_nil ?_
          rintro w4 ⟨⟨_, x4⟩, rfl⟩
          obtain ⟨d0, d1, d2, d3⟩ := HBX.out _ x4
          have x5 := xb.trans x4
          go_wp2_with (at_builtin; refine wpList_app1 (R := verdictO) elemVer (by decide) rfl _ _ rfl (hB.ext x5) rfl _ 1 rfl (by simp) (one_ver _ _ _ _) (y := xs[k]) ⟨⟨rfl, HOK.out⟩, rfl⟩ fresh_nil (by simp) (by decide) (Nat.le_trans hx.size x5.size) ?_; intro v9 w9 hB9 hE9)
          go_roundw
          case rel => exact ⟨k + 1, _, by omega, by go_num, hB9, by rw [HST.out, ← HO.out]; rfl, hE9 w (Nat.le_refl _) (hx.trans x5)⟩
          case measure => simp [intOf]; omega
        · rw [List.concat_eq_append] at hB hn9 HO hol
          obtain ⟨hn, g, eg, hg1, hg2, ⟨l0, l1, l2, l3⟩, _, _⟩ := hB.ver_last
          subst hn
          subst eg
          clear hn9
          have hbl : (init ++ [l]).length + 1 ≤ 1099511627776 := by omega
          have hil : init.length ≤ 9223372036854775806 := by rw [List.length_append, List.length_singleton] at hol; omega
          have hng : decide ((init.length : Int) < 0) = false := by simp
          have y0 : ∀ z : ExtOf (wr.alloc (.cells #[.int .i64 xs[k].a, .int .i64 xs[k].b, .bool xs[k].same, .int .i64 xs[k].time] 32)), z.1.cell? ⟨wr.heap.size, 0, none⟩ = some (.int .i64 xs[k].a) ∧ z.1.cell? ⟨wr.heap.size, 1, none⟩ = some (.int .i64 xs[k].b) := fun z => ⟨(HBX.out _ z.2).1, (HBX.out _ z.2).2.1⟩
          have z0 : ∀ z : ExtOf (wr.alloc (.cells #[.int .i64 xs[k].a, .int .i64 xs[k].b, .bool xs[k].same, .int .i64 xs[k].time] 32)), z.1.cell? ⟨g, init.length * 4, none⟩ = _ := fun z => (xb.trans z.2).cell l0
          have z1 : ∀ z : ExtOf (wr.alloc (.cells #[.int .i64 xs[k].a, .int .i64 xs[k].b, .bool xs[k].same, .int .i64 xs[k].time] 32)), z.1.cell? ⟨g, init.length * 4 + 1, none⟩ = _ := fun z => (xb.trans z.2).cell l1
          by_cases ha : l.a = xs[k].a
          · have ha1 : (l.a != xs[k].a) = false := by simp [ha]
            by_cases hb : l.b = xs[k].b
            · have hb1 : (l.b != xs[k].b) = false := by simp [hb]
              have HA := hid ha
              have HB := hid hb
              clear ha hb
              go_wp2_with fail
              refine wp_region_ext (by kernel_rfl) (by kernel_rfl) ?_
              repeat (go_big_quiet_step ((fail)))
              refine wpQuiet_nil ?_
              rintro w4 ⟨⟨_, x4⟩, rfl⟩
              have u3 : ∀ z : ExtOf w4, z.1.cell? ⟨wr.heap.size, 3, none⟩ = some (.int .i64 xs[k].time) := fun z => (HBX.out _ (x4.trans z.2)).2.2.2
              have t3 : ∀ z : ExtOf w4, z.1.cell? ⟨g, init.length * 4 + 3, none⟩ = _ := fun z => (xb.trans (x4.trans z.2)).cell l3
              by_cases ht : l.time < xs[k].time
              · go_wp2_with fail
                refine wp_region_ext (by kernel_rfl) (by kernel_rfl) ?_
                repeat (go_big_quiet_step ((fail)))
                refine wpQuiet_nil ?_
                rintro w5 ⟨⟨_, x5⟩, rfl⟩
                obtain ⟨d0, d1, d2, d3⟩ := HBX.out _ (x4.trans x5)
                have x6 := xb.trans (x4.trans x5)
                obtain ⟨_, g', eg', _, _, ⟨q0, q1, q2, q3⟩, hfr, hset⟩ := (hB.ext x6).ver_last
                injection eg' with eg'
                injection eg' with eg1 eg2 eg3
                subst eg1
                have hnew := hset xs[k] HOK.out
                have HNEW := hid hnew
                have hxn : Ext w ((((w5.setCell ⟨g, init.length * 4, none⟩ (.int .i64 xs[k].a)).setCell ⟨g, init.length * 4 + 1, none⟩ (.int .i64 xs[k].b)).setCell ⟨g, init.length * 4 + 2, none⟩ (.bool xs[k].same)).setCell ⟨g, init.length * 4 + 3, none⟩ (.int .i64 xs[k].time)) :=
                  ((((hx.trans x6).setCell hg1 _).setCell hg1 _).setCell hg1 _).setCell hg1 _
                have HXN := hid hxn
                clear hset hnew hxn hB
                go_wp2
                go_roundw
                case rel => exact ⟨k + 1, _, by omega, by go_num, HNEW.out, by rw [HST.out, ← HO.out, curStep_set HA.out HB.out ht], HXN.out⟩
                case measure => simp [intOf]; omega
              · go_wp2_with fail
                refine wp_region_ext (by kernel_rfl) (by kernel_rfl) ?_
                repeat (go_big_quiet_step ((fail)))
                refine wpQuiet_nil ?_
                rintro w5 ⟨⟨_, x5⟩, rfl⟩
                go_wp2
                go_roundw
                case rel => exact ⟨k + 1, _, by omega, by go_num, hB.ext (xb.trans (x4.trans x5)), by rw [HST.out, ← HO.out, curStep_old HA.out HB.out (by omega)], hx.trans (xb.trans (x4.trans x5))⟩
                case measure => simp [intOf]; omega
            · have hb1 : (l.b != xs[k].b) = true := by simp [hb]
              have HB := hid hb
              clear ha hb
              go_wp2_with fail
              refine wp_region_ext (by kernel_rfl) (by kernel_rfl) ?_
              repeat (go_big_quiet_step ((fail)))
              refine wpQuiet_nil ?_
              rintro w4 ⟨⟨_, x4⟩, rfl⟩
              obtain ⟨d0, d1, d2, d3⟩ := HBX.out _ x4
              have x5 := xb.trans x4
              go_wp2_with (at_builtin; refine wpList_app1 (R := verdictO) elemVer (by decide) rfl _ _ rfl (hB.ext x5) rfl _ 1 rfl (by simp) (one_ver _ _ _ _) (y := xs[k]) ⟨⟨rfl, HOK.out⟩, rfl⟩ fresh_nil (hbl) (by decide) (Nat.le_trans hx.size x5.size) ?_; intro v9 w9 hB9 hE9)
              go_roundw
              case rel => exact ⟨k + 1, _, by omega, by go_num, hB9, by rw [HST.out, ← HO.out, curStep_new fun h9 => HB.out h9.2], hE9 w (Nat.le_refl _) (hx.trans x5)⟩
              case measure => simp [intOf]; omega
          · have ha1 : (l.a != xs[k].a) = true := by simp [ha]
            have HA := hid ha
            clear ha
            go_wp2_with fail
            refine wp_region_ext (by kernel_rfl) (by kernel_rfl) ?_
            repeat (go_big_quiet_step ((fail)))
            refine wpQuiet_nil ?_
            rintro w4 ⟨⟨_, x4⟩, rfl⟩
            obtain ⟨d0, d1, d2, d3⟩ := HBX.out _ x4
            have x5 := xb.trans x4
            go_wp2_with (at_builtin; refine wpList_app1 (R := verdictO) elemVer (by decide) rfl _ _ rfl (hB.ext x5) rfl _ 1 rfl (by simp) (one_ver _ _ _ _) (y := xs[k]) ⟨⟨rfl, HOK.out⟩, rfl⟩ fresh_nil (hbl) (by decide) (Nat.le_trans hx.size x5.size) ?_; intro v9 w9 hB9 hE9)
            go_roundw
            case rel => exact ⟨k + 1, _, by omega, by go_num, hB9, by rw [HST.out, ← HO.out, curStep_new fun h9 => HA.out h9.1], hE9 w (Nat.le_refl _) (hx.trans x5)⟩
            case measure => simp [intOf]; omega
      · have HR := hid (show curV xs = out by rw [HO.out, List.take_of_length_le (by omega)]; unfold curV; rw [HV.out]; rfl)
        obtain ⟨F', d1, d2, d3⟩ := hB.done
        go_wp2
        go_ret
        exact ⟨_, F', rfl, by rw [HR.out]; exact d1, ⟨d2, d3⟩, hx⟩
  · have hv' : areVers xs = false := by simpa using hv
    rw [hv']
    have HD := hid (show curV xs = [] by unfold curV; rw [hv']; rfl)
    clear hv hv'
    go_wp2
    go_ret
    first | exact ⟨_, [], rfl, by rw [HD.out]; exact HN.out _, .nil _, x1⟩ | exact ⟨_, rfl, [], by rw [HD.out]; exact HN.out _, .nil _, x1⟩
end Go.Proofs.Ytmembjjgkideeaa
