/-
  WALK: l28Sort (the reference's).
-/
import Derived.Test.YtmembjjgkideeaaMgEndSpl9

namespace Go.Proofs.Ytmembjjgkideeaa
open Go.RowKit

set_option maxHeartbeats 4000000 in
set_option maxRecDepth 20000 in
theorem spec_l28Sort (v : Value) (xs : List Verdict) (w : World) (h : Sl verdictR w v xs) (hl : xs.length ≤ 1048576) :
    Calls Try.prog 32 #[v] w fun e w2 => ∃ v2, e = .returned v2 ∧ Bld verdictO w2 w.heap.size 32 v2 (sortS xs) [] ∧ Ext w w2 := by
  obtain ⟨A, cap, rfl, hm⟩ := h.form
  go_enter Try.func32, Try.ntmps32
  go_wp2_with fail
  go_loopw [3, 4] (fun t i wr => ∃ (k : Nat) (bo oo co : Nat) (out : List Verdict), k ≤ xs.length ∧ i = .int .i64 k ∧ t = .slice (some ⟨bo, oo, none⟩) out.length co ∧ Bld verdictO wr w.heap.size 32 t out [] ∧ sortS (xs.take k) = out ∧ Ext w wr) (fun _ i _ => xs.length - (intOf i).toNat)
  case atStart => exact ⟨0, _, _, _, [], Nat.zero_le _, rfl, rfl, (Bld.lit w (Nat.le_refl _) _), rfl, (Ext.refl _).alloc _⟩
  case round =>
    obtain ⟨k, bo, oo, co, out, hk, rfl, rfl, hB, hout, hx⟩ := hrel
    have hol : out.length ≤ 1048576 := by rw [← hout, sortS_len, List.length_take]; omega
    have HOUT := hid hout
    clear hout
    by_cases hlt : k < xs.length
    · obtain ⟨b, off, eA, hok, c0, c1, c2, c3⟩ := (h.mono hx).verdict hlt
      subst eA
      obtain ⟨w0, hw0⟩ : ∃ w0, w0 = wr := ⟨_, rfl⟩
      rw [← hw0] at hB hx c0 c1 c2 c3 ⊢
      clear hw0
      have HCK := hid (show ∀ W, Ext w0 W → W.cell? ⟨b, off + k * 4, none⟩ = some (.int .i64 xs[k].a) ∧ W.cell? ⟨b, off + k * 4 + 1, none⟩ = some (.int .i64 xs[k].b) ∧ W.cell? ⟨b, off + k * 4 + 2, none⟩ = some (.bool xs[k].same) ∧ W.cell? ⟨b, off + k * 4 + 3, none⟩ = some (.int .i64 xs[k].time) from fun W y => ⟨y.cell c0, y.cell c1, y.cell c2, y.cell c3⟩)
      have HOKX := hid hok
      have HSO := hid (show ∀ W, Ext w0 W → Sl verdictR W (.slice (some ⟨bo, oo, none⟩) out.length co) out from fun W y => (hB.ext y).sl)
      have HX := hid hx
      clear hB hx c0 c1 c2 c3 hok
      go_wp2_with fail
      go_loopw [5] (fun j wi => ∃ q : Nat, q ≤ out.length ∧ j = .int .i64 q ∧ (∀ x ∈ out.drop q, 0 < cmpV x xs[k]) ∧ Ext w0 wi) (fun j _ => (intOf j).toNat)
      case atStart => exact ⟨out.length, Nat.le_refl _, rfl, (fun x hx => by rw [List.drop_length] at hx; cases hx), Ext.refl _⟩
      case round =>
        obtain ⟨q, hq, rfl, hal, hxi⟩ := hrel
        have HAL := hid hal
        clear hal
        by_cases hq0 : 0 < q
        · have hlt1 : q - 1 < out.length := by omega
          obtain ⟨b2, off2, e2, _, d0, d1, d2, d3⟩ := (HSO.out _ hxi).verdict hlt1
          injection e2 with e2
          injection e2 with e3 e4 _
          subst e3; subst e4
          have hsub : ((q - 1 : Nat) : Int) = (q : Int) - 1 := by omega
          have h64 := (cmpV_64 out[q - 1] xs[k]).out
          have HCM := hid (fun (W : World) => spec_cmp out[q - 1] xs[k] W)
          obtain ⟨cm, hcm⟩ : ∃ cm, cm = cmpV out[q - 1] xs[k] := ⟨_, rfl⟩
          rw [← hcm] at h64
          have HCMP := hid (show ∀ W : World, Calls Try.prog 55 #[.agg #[.int .i64 out[q - 1].a, .int .i64 out[q - 1].b, .bool out[q - 1].same, .int .i64 out[q - 1].time], .agg #[.int .i64 xs[k].a, .int .i64 xs[k].b, .bool xs[k].same, .int .i64 xs[k].time]] W fun e w2 => e = .returned (.int .i64 cm) ∧ Ext W w2 from fun W => by rw [hcm]; exact HCM.out W)
          have HC := hid hcm
          clear hcm HCM
          have y0 : ∀ z : ExtOf wr, z.1.cell? ⟨b, off + k * 4, none⟩ = _ := fun z => (HCK.out _ (hxi.trans z.2)).1
          have y1 : ∀ z : ExtOf wr, z.1.cell? ⟨b, off + k * 4 + 1, none⟩ = _ := fun z => (HCK.out _ (hxi.trans z.2)).2.1
          have y2 : ∀ z : ExtOf wr, z.1.cell? ⟨b, off + k * 4 + 2, none⟩ = _ := fun z => (HCK.out _ (hxi.trans z.2)).2.2.1
          have y3 : ∀ z : ExtOf wr, z.1.cell? ⟨b, off + k * 4 + 3, none⟩ = _ := fun z => (HCK.out _ (hxi.trans z.2)).2.2.2
          have z0 : ∀ z : ExtOf wr, z.1.cell? ⟨bo, oo + (q - 1) * 4, none⟩ = _ := fun z => z.2.cell d0
          have z1 : ∀ z : ExtOf wr, z.1.cell? ⟨bo, oo + (q - 1) * 4 + 1, none⟩ = _ := fun z => z.2.cell d1
          have z2 : ∀ z : ExtOf wr, z.1.cell? ⟨bo, oo + (q - 1) * 4 + 2, none⟩ = _ := fun z => z.2.cell d2
          have z3 : ∀ z : ExtOf wr, z.1.cell? ⟨bo, oo + (q - 1) * 4 + 3, none⟩ = _ := fun z => z.2.cell d3
          clear d0 d1 d2 d3
          by_cases hpos : 0 < cm
          · have hpB : decide (0 < cm) = true := by simp [hpos]
            have HDR := hid (show ∀ x ∈ out.drop (q - 1), 0 < cmpV x xs[k] from by
              intro x hx
              have e : out.drop (q - 1) = out[q - 1] :: out.drop q := by
                rw [← List.getElem_cons_drop (h := hlt1)]; congr 2; omega
              rw [e] at hx
              rcases List.mem_cons.1 hx with rfl | hx
              · rw [← HC.out]; exact hpos
              · exact HAL.out x hx)
            clear hpos
            go_wp2_with fail
            refine wp_region_ext (by kernel_rfl) (by kernel_rfl) ?_
            repeat (go_big_quiet_step (((go_at_call 55; exact quiet_ext (HCMP.out _)))))
            refine wpQuiet_nil ?_
            rintro w6 ⟨⟨_, x6⟩, rfl⟩
            go_wp2
            go_roundw
            case rel => exact ⟨q - 1, by omega, by rw [hsub]; try go_num, HDR.out, hxi.trans x6⟩
            case measure => simp [intOf]; omega
          · have hpB : decide (0 < cm) = false := by simp [hpos]
            have HCN := hid (cntS_eq (v := xs[k]) hq HAL.out (fun _ => by rw [← HC.out]; exact hpos))
            clear hpos
            go_wp2_with fail
            refine wp_region_ext (by kernel_rfl) (by kernel_rfl) ?_
            repeat (go_big_quiet_step (((go_at_call 55; exact quiet_ext (HCMP.out _)))))
            refine wpQuiet_nil ?_
            rintro w6 ⟨⟨_, x6⟩, rfl⟩
            clear y0 y1 y2 y3 z0 z1 z2 z3 hpB
            have hal : True := trivial
            have HCNT := hid (show insS out xs[k] = out.take q ++ [xs[k]] ++ out.drop q from by
              have := HCN.out
              unfold insS
              rw [this]
              simp)
            clear hal
            obtain ⟨wq, hwq⟩ : ∃ wq, wq = w6 := ⟨_, rfl⟩
            rw [← hwq] at x6 ⊢
            clear hwq
            have xq : Ext w0 wq := hxi.trans x6
            have HBQ := hid (show ∀ W, Ext wq W → W.cell? ⟨b, off + k * 4, none⟩ = some (.int .i64 xs[k].a) ∧ W.cell? ⟨b, off + k * 4 + 1, none⟩ = some (.int .i64 xs[k].b) ∧ W.cell? ⟨b, off + k * 4 + 2, none⟩ = some (.bool xs[k].same) ∧ W.cell? ⟨b, off + k * 4 + 3, none⟩ = some (.int .i64 xs[k].time) from fun W y => HCK.out _ (xq.trans y))
            have hcap := (HSO.out wq xq).cap_
            have HTK := hid (fun (W : World) (y : Ext wq W) => (HSO.out W (xq.trans y)).take (k := q) hq)
            obtain ⟨A2, hA2, HTD⟩ := (HSO.out wq xq).tailv q hq
            have HL1 := hid (show ([] : List Verdict).length + (out.take q).length ≤ 1099511627776 by simp only [List.length_nil, List.length_take]; omega)
            have HL2 := hid (show (out.take q).length + 1 ≤ 1099511627776 by rw [List.length_take]; omega)
            have HL3 := hid (show (out.take q ++ [xs[k]]).length + (out.drop q).length ≤ 1099511627776 by simp only [List.length_append, List.length_take, List.length_drop, List.length_cons, List.length_nil]; omega)
            have a1 : q ≤ co := by omega
            have a2 : (q : Int) ≤ (out.length : Int) := by omega
            have a3 : (q : Int) ≤ (co : Int) := by omega
            have HX9 := hid (HX.out.trans xq)
            have HQ := hid hq
            have HWS := hid (Nat.le_trans (HX.out.trans xq).size (Nat.le_refl wq.heap.size))
            clear hcap x6 hq hxi xq
            go_wp2_with fail
            have HE1 := hid (show (wq.alloc (.cells #[] 32)).heap[wq.heap.size]? = some (.cells #[] 32 (0, 0)) from heap_alloc_new wq _)
            have HE2 := hid (show ((wq.alloc (.cells #[] 32)).alloc (.cells #[.int .i64 xs[k].a, .int .i64 xs[k].b, .bool xs[k].same, .int .i64 xs[k].time] 32)).heap[wq.heap.size]? = some (.cells #[] 32 (0, 0)) from (((Ext.refl (wq.alloc (.cells #[] 32))).alloc _).block (by simp)).trans (heap_alloc_new wq _))
            have HV2 := hid (show ((wq.alloc (.cells #[] 32)).alloc (.cells #[.int .i64 xs[k].a, .int .i64 xs[k].b, .bool xs[k].same, .int .i64 xs[k].time] 32)).heap[wq.heap.size + 1]? = some (.cells #[.int .i64 xs[k].a, .int .i64 xs[k].b, .bool xs[k].same, .int .i64 xs[k].time] 32 (0, 0)) from by have := heap_alloc_new (wq.alloc (.cells #[] 32)) (.cells #[.int .i64 xs[k].a, .int .i64 xs[k].b, .bool xs[k].same, .int .i64 xs[k].time] 32); rwa [World.size_alloc] at this)
            have HE3 := hid (show ((wq.alloc (.cells #[.int .i64 xs[k].a, .int .i64 xs[k].b, .bool xs[k].same, .int .i64 xs[k].time] 32)).alloc (.cells #[] 32)).heap[wq.heap.size + 1]? = some (.cells #[] 32 (0, 0)) from by have := heap_alloc_new (wq.alloc (.cells #[.int .i64 xs[k].a, .int .i64 xs[k].b, .bool xs[k].same, .int .i64 xs[k].time] 32)) (.cells #[] 32); rwa [World.size_alloc] at this)
            have HV3 := hid (show ((wq.alloc (.cells #[.int .i64 xs[k].a, .int .i64 xs[k].b, .bool xs[k].same, .int .i64 xs[k].time] 32)).alloc (.cells #[] 32)).heap[wq.heap.size]? = some (.cells #[.int .i64 xs[k].a, .int .i64 xs[k].b, .bool xs[k].same, .int .i64 xs[k].time] 32 (0, 0)) from (((Ext.refl (wq.alloc (.cells #[.int .i64 xs[k].a, .int .i64 xs[k].b, .bool xs[k].same, .int .i64 xs[k].time] 32))).alloc _).block (by simp)).trans (heap_alloc_new wq _))
            go_region_held3 (fun w' => w'.cell? ⟨b, off + k * 4, none⟩ = some (.int .i64 xs[k].a) ∧ w'.cell? ⟨b, off + k * 4 + 1, none⟩ = some (.int .i64 xs[k].b) ∧ w'.cell? ⟨b, off + k * 4 + 2, none⟩ = some (.bool xs[k].same) ∧ w'.cell? ⟨b, off + k * 4 + 3, none⟩ = some (.int .i64 xs[k].time)) (exact HBQ.out _ (by repeat (first | with_reducible exact Ext.refl _ | with_reducible assumption | with_reducible refine Ext.drew ?_ | with_reducible refine Ext.alloc ?_ _ | with_reducible refine Ext.trans ?_ (by with_reducible assumption)))) (first | (have hsecond := hB2; refine step_appv elemVer (by decide) rfl _ _ rfl hB2 rfl rfl (HTD.out _ (by repeat (first | with_reducible exact Ext.refl _ | with_reducible assumption | with_reducible refine Ext.drew ?_ | with_reducible refine Ext.alloc ?_ _ | with_reducible refine Ext.trans ?_ (by with_reducible assumption)))) HL3.out xs2.size (w0 := wq) (Nat.le_refl _) xs2 ?_; intro v6 w6 hB3 xs3 _) | (refine step_app1 (R := verdictO) elemVer (by decide) rfl _ _ rfl (hB1.ext ((Ext.refl w4).alloc (.cells #[.int .i64 xs[k].a, .int .i64 xs[k].b, .bool xs[k].same, .int .i64 xs[k].time] 32))) rfl w4.heap.size 1 rfl (heap_alloc_new w4 _) (one_ver _ _ _ _) (y := xs[k]) ⟨⟨rfl, HOKX.out⟩, rfl⟩ fresh_nil HL2.out (by decide) (by rw [World.size_alloc]; have := xs1.size; omega) (w0 := wq) (Nat.le_refl _) (by repeat (first | with_reducible exact Ext.refl _ | with_reducible assumption | with_reducible refine Ext.drew ?_ | with_reducible refine Ext.alloc ?_ _ | with_reducible refine Ext.trans ?_ (by with_reducible assumption))) ?_; intro v5 w5 hB2 xs2) | (refine step_app1 (R := verdictO) elemVer (by decide) rfl _ _ rfl (hB1) rfl (wq.heap.size + 1) 1 rfl ((hk1 _ (by simp <;> omega) (by simp [Value.ownBlock])).trans HV2.out) (one_ver _ _ _ _) (y := xs[k]) ⟨⟨rfl, HOKX.out⟩, rfl⟩ fresh_nil HL2.out (by decide) xs1.size (w0 := wq) (Nat.le_refl _) (by repeat (first | with_reducible exact Ext.refl _ | with_reducible assumption | with_reducible refine Ext.drew ?_ | with_reducible refine Ext.alloc ?_ _ | with_reducible refine Ext.trans ?_ (by with_reducible assumption))) ?_; intro v5 w5 hB2 xs2) | (refine step_app1 (R := verdictO) elemVer (by decide) rfl _ _ rfl (hB1) rfl wq.heap.size 1 rfl ((hk1 _ (by simp <;> omega) (by simp [Value.ownBlock])).trans HV3.out) (one_ver _ _ _ _) (y := xs[k]) ⟨⟨rfl, HOKX.out⟩, rfl⟩ fresh_nil HL2.out (by decide) xs1.size (w0 := wq) (Nat.le_refl _) (by repeat (first | with_reducible exact Ext.refl _ | with_reducible assumption | with_reducible refine Ext.drew ?_ | with_reducible refine Ext.alloc ?_ _ | with_reducible refine Ext.trans ?_ (by with_reducible assumption))) ?_; intro v5 w5 hB2 xs2) | (refine step_appv elemVer (by decide) rfl _ _ rfl (Bld.empv (R := verdictO) (base := wq.heap.size) (Nat.le_refl _) HE1.out) rfl rfl (HTK.out _ (by repeat (first | with_reducible exact Ext.refl _ | with_reducible assumption | with_reducible refine Ext.drew ?_ | with_reducible refine Ext.alloc ?_ _ | with_reducible refine Ext.trans ?_ (by with_reducible assumption)))) HL1.out (by simp <;> omega) (w0 := wq) (Nat.le_refl _) (by repeat (first | with_reducible exact Ext.refl _ | with_reducible assumption | with_reducible refine Ext.drew ?_ | with_reducible refine Ext.alloc ?_ _ | with_reducible refine Ext.trans ?_ (by with_reducible assumption))) ?_; intro v4 w4 hB1 xs1 hk1; rw [List.nil_append] at hB1) | (refine step_appv elemVer (by decide) rfl _ _ rfl (Bld.empv (R := verdictO) (base := wq.heap.size) (Nat.le_refl _) HE2.out) rfl rfl (HTK.out _ (by repeat (first | with_reducible exact Ext.refl _ | with_reducible assumption | with_reducible refine Ext.drew ?_ | with_reducible refine Ext.alloc ?_ _ | with_reducible refine Ext.trans ?_ (by with_reducible assumption)))) HL1.out (by simp <;> omega) (w0 := wq) (Nat.le_refl _) (by repeat (first | with_reducible exact Ext.refl _ | with_reducible assumption | with_reducible refine Ext.drew ?_ | with_reducible refine Ext.alloc ?_ _ | with_reducible refine Ext.trans ?_ (by with_reducible assumption))) ?_; intro v4 w4 hB1 xs1 hk1; rw [List.nil_append] at hB1) | (refine step_appv elemVer (by decide) rfl _ _ rfl (Bld.empv (R := verdictO) (base := wq.heap.size) (Nat.le_succ _) HE3.out) rfl rfl (HTK.out _ (by repeat (first | with_reducible exact Ext.refl _ | with_reducible assumption | with_reducible refine Ext.drew ?_ | with_reducible refine Ext.alloc ?_ _ | with_reducible refine Ext.trans ?_ (by with_reducible assumption)))) HL1.out (by simp <;> omega) (w0 := wq) (Nat.le_refl _) (by repeat (first | with_reducible exact Ext.refl _ | with_reducible assumption | with_reducible refine Ext.drew ?_ | with_reducible refine Ext.alloc ?_ _ | with_reducible refine Ext.trans ?_ (by with_reducible assumption))) ?_; intro v4 w4 hB1 xs1 hk1; rw [List.nil_append] at hB1))

            all_goals
              obtain ⟨A6, c6, e6, _⟩ := hB3.sl.form
              subst e6
              have HNE := hid (show ∃ b6 o6, A6 = some ⟨b6, o6, none⟩ from by
                have hlen : 0 < (out.take q ++ [xs[k]] ++ out.drop q).length := by simp only [List.length_append, List.length_cons, List.length_nil]; omega
                obtain ⟨b6, o6, _, e, _⟩ := hB3.sl.at_ hlen
                exact ⟨b6, o6, e⟩)
              obtain ⟨b6, o6, e9⟩ := HNE.out
              subst e9
              clear HNE
              have HB3 := hid (hB3.lowv HWS.out)
              have HX6 := hid (HX9.out.trans xs3)
              clear hB3 xs3
              go_wp2
              go_roundw
              case rel => exact ⟨k + 1, b6, o6, c6, insS out xs[k], by omega, by go_num, by rw [HCNT.out], by rw [HCNT.out]; exact HB3.out, by rw [sortS_step xs k hlt, HOUT.out], HX6.out⟩
              case measure => simp [intOf]; omega
        · have hq00 : q = 0 := by omega
          have hjd1 : decide (0 < q) = false := by simpa using hq0
          have hjd2 : decide ((0 : Int) < (q : Int)) = false := by simp; omega
          have HCN := hid (cntS_eq (v := xs[k]) hq HAL.out (fun h => absurd h hq0))
          clear hq0 hq00
          go_wp2_with fail
          refine wp_region_ext (by kernel_rfl) (by kernel_rfl) ?_
          repeat (go_big_quiet_step ((fail)))
          refine wpQuiet_nil ?_
          rintro w6 ⟨⟨_, x6⟩, rfl⟩
          clear hjd1 hjd2
          have hal : True := trivial
          have HCNT := hid (show insS out xs[k] = out.take q ++ [xs[k]] ++ out.drop q from by
            have := HCN.out
            unfold insS
            rw [this]
            simp)
          clear hal
          obtain ⟨wq, hwq⟩ : ∃ wq, wq = w6 := ⟨_, rfl⟩
          rw [← hwq] at x6 ⊢
          clear hwq
          have xq : Ext w0 wq := hxi.trans x6
          have HBQ := hid (show ∀ W, Ext wq W → W.cell? ⟨b, off + k * 4, none⟩ = some (.int .i64 xs[k].a) ∧ W.cell? ⟨b, off + k * 4 + 1, none⟩ = some (.int .i64 xs[k].b) ∧ W.cell? ⟨b, off + k * 4 + 2, none⟩ = some (.bool xs[k].same) ∧ W.cell? ⟨b, off + k * 4 + 3, none⟩ = some (.int .i64 xs[k].time) from fun W y => HCK.out _ (xq.trans y))
          have hcap := (HSO.out wq xq).cap_
          have HTK := hid (fun (W : World) (y : Ext wq W) => (HSO.out W (xq.trans y)).take (k := q) hq)
          obtain ⟨A2, hA2, HTD⟩ := (HSO.out wq xq).tailv q hq
          have HL1 := hid (show ([] : List Verdict).length + (out.take q).length ≤ 1099511627776 by simp only [List.length_nil, List.length_take]; omega)
          have HL2 := hid (show (out.take q).length + 1 ≤ 1099511627776 by rw [List.length_take]; omega)
          have HL3 := hid (show (out.take q ++ [xs[k]]).length + (out.drop q).length ≤ 1099511627776 by simp only [List.length_append, List.length_take, List.length_drop, List.length_cons, List.length_nil]; omega)
          have a1 : q ≤ co := by omega
          have a2 : (q : Int) ≤ (out.length : Int) := by omega
          have a3 : (q : Int) ≤ (co : Int) := by omega
          have HX9 := hid (HX.out.trans xq)
          have HQ := hid hq
          have HWS := hid (Nat.le_trans (HX.out.trans xq).size (Nat.le_refl wq.heap.size))
          clear hcap x6 hq hxi xq
          go_wp2_with fail
          have HE1 := hid (show (wq.alloc (.cells #[] 32)).heap[wq.heap.size]? = some (.cells #[] 32 (0, 0)) from heap_alloc_new wq _)
          have HE2 := hid (show ((wq.alloc (.cells #[] 32)).alloc (.cells #[.int .i64 xs[k].a, .int .i64 xs[k].b, .bool xs[k].same, .int .i64 xs[k].time] 32)).heap[wq.heap.size]? = some (.cells #[] 32 (0, 0)) from (((Ext.refl (wq.alloc (.cells #[] 32))).alloc _).block (by simp)).trans (heap_alloc_new wq _))
          have HV2 := hid (show ((wq.alloc (.cells #[] 32)).alloc (.cells #[.int .i64 xs[k].a, .int .i64 xs[k].b, .bool xs[k].same, .int .i64 xs[k].time] 32)).heap[wq.heap.size + 1]? = some (.cells #[.int .i64 xs[k].a, .int .i64 xs[k].b, .bool xs[k].same, .int .i64 xs[k].time] 32 (0, 0)) from by have := heap_alloc_new (wq.alloc (.cells #[] 32)) (.cells #[.int .i64 xs[k].a, .int .i64 xs[k].b, .bool xs[k].same, .int .i64 xs[k].time] 32); rwa [World.size_alloc] at this)
          have HE3 := hid (show ((wq.alloc (.cells #[.int .i64 xs[k].a, .int .i64 xs[k].b, .bool xs[k].same, .int .i64 xs[k].time] 32)).alloc (.cells #[] 32)).heap[wq.heap.size + 1]? = some (.cells #[] 32 (0, 0)) from by have := heap_alloc_new (wq.alloc (.cells #[.int .i64 xs[k].a, .int .i64 xs[k].b, .bool xs[k].same, .int .i64 xs[k].time] 32)) (.cells #[] 32); rwa [World.size_alloc] at this)
          have HV3 := hid (show ((wq.alloc (.cells #[.int .i64 xs[k].a, .int .i64 xs[k].b, .bool xs[k].same, .int .i64 xs[k].time] 32)).alloc (.cells #[] 32)).heap[wq.heap.size]? = some (.cells #[.int .i64 xs[k].a, .int .i64 xs[k].b, .bool xs[k].same, .int .i64 xs[k].time] 32 (0, 0)) from (((Ext.refl (wq.alloc (.cells #[.int .i64 xs[k].a, .int .i64 xs[k].b, .bool xs[k].same, .int .i64 xs[k].time] 32))).alloc _).block (by simp)).trans (heap_alloc_new wq _))
          go_region_held3 (fun w' => w'.cell? ⟨b, off + k * 4, none⟩ = some (.int .i64 xs[k].a) ∧ w'.cell? ⟨b, off + k * 4 + 1, none⟩ = some (.int .i64 xs[k].b) ∧ w'.cell? ⟨b, off + k * 4 + 2, none⟩ = some (.bool xs[k].same) ∧ w'.cell? ⟨b, off + k * 4 + 3, none⟩ = some (.int .i64 xs[k].time)) (exact HBQ.out _ (by repeat (first | with_reducible exact Ext.refl _ | with_reducible assumption | with_reducible refine Ext.drew ?_ | with_reducible refine Ext.alloc ?_ _ | with_reducible refine Ext.trans ?_ (by with_reducible assumption)))) (first | (have hsecond := hB2; refine step_appv elemVer (by decide) rfl _ _ rfl hB2 rfl rfl (HTD.out _ (by repeat (first | with_reducible exact Ext.refl _ | with_reducible assumption | with_reducible refine Ext.drew ?_ | with_reducible refine Ext.alloc ?_ _ | with_reducible refine Ext.trans ?_ (by with_reducible assumption)))) HL3.out xs2.size (w0 := wq) (Nat.le_refl _) xs2 ?_; intro v6 w6 hB3 xs3 _) | (refine step_app1 (R := verdictO) elemVer (by decide) rfl _ _ rfl (hB1.ext ((Ext.refl w4).alloc (.cells #[.int .i64 xs[k].a, .int .i64 xs[k].b, .bool xs[k].same, .int .i64 xs[k].time] 32))) rfl w4.heap.size 1 rfl (heap_alloc_new w4 _) (one_ver _ _ _ _) (y := xs[k]) ⟨⟨rfl, HOKX.out⟩, rfl⟩ fresh_nil HL2.out (by decide) (by rw [World.size_alloc]; have := xs1.size; omega) (w0 := wq) (Nat.le_refl _) (by repeat (first | with_reducible exact Ext.refl _ | with_reducible assumption | with_reducible refine Ext.drew ?_ | with_reducible refine Ext.alloc ?_ _ | with_reducible refine Ext.trans ?_ (by with_reducible assumption))) ?_; intro v5 w5 hB2 xs2) | (refine step_app1 (R := verdictO) elemVer (by decide) rfl _ _ rfl (hB1) rfl (wq.heap.size + 1) 1 rfl ((hk1 _ (by simp <;> omega) (by simp [Value.ownBlock])).trans HV2.out) (one_ver _ _ _ _) (y := xs[k]) ⟨⟨rfl, HOKX.out⟩, rfl⟩ fresh_nil HL2.out (by decide) xs1.size (w0 := wq) (Nat.le_refl _) (by repeat (first | with_reducible exact Ext.refl _ | with_reducible assumption | with_reducible refine Ext.drew ?_ | with_reducible refine Ext.alloc ?_ _ | with_reducible refine Ext.trans ?_ (by with_reducible assumption))) ?_; intro v5 w5 hB2 xs2) | (refine step_app1 (R := verdictO) elemVer (by decide) rfl _ _ rfl (hB1) rfl wq.heap.size 1 rfl ((hk1 _ (by simp <;> omega) (by simp [Value.ownBlock])).trans HV3.out) (one_ver _ _ _ _) (y := xs[k]) ⟨⟨rfl, HOKX.out⟩, rfl⟩ fresh_nil HL2.out (by decide) xs1.size (w0 := wq) (Nat.le_refl _) (by repeat (first | with_reducible exact Ext.refl _ | with_reducible assumption | with_reducible refine Ext.drew ?_ | with_reducible refine Ext.alloc ?_ _ | with_reducible refine Ext.trans ?_ (by with_reducible assumption))) ?_; intro v5 w5 hB2 xs2) | (refine step_appv elemVer (by decide) rfl _ _ rfl (Bld.empv (R := verdictO) (base := wq.heap.size) (Nat.le_refl _) HE1.out) rfl rfl (HTK.out _ (by repeat (first | with_reducible exact Ext.refl _ | with_reducible assumption | with_reducible refine Ext.drew ?_ | with_reducible refine Ext.alloc ?_ _ | with_reducible refine Ext.trans ?_ (by with_reducible assumption)))) HL1.out (by simp <;> omega) (w0 := wq) (Nat.le_refl _) (by repeat (first | with_reducible exact Ext.refl _ | with_reducible assumption | with_reducible refine Ext.drew ?_ | with_reducible refine Ext.alloc ?_ _ | with_reducible refine Ext.trans ?_ (by with_reducible assumption))) ?_; intro v4 w4 hB1 xs1 hk1; rw [List.nil_append] at hB1) | (refine step_appv elemVer (by decide) rfl _ _ rfl (Bld.empv (R := verdictO) (base := wq.heap.size) (Nat.le_refl _) HE2.out) rfl rfl (HTK.out _ (by repeat (first | with_reducible exact Ext.refl _ | with_reducible assumption | with_reducible refine Ext.drew ?_ | with_reducible refine Ext.alloc ?_ _ | with_reducible refine Ext.trans ?_ (by with_reducible assumption)))) HL1.out (by simp <;> omega) (w0 := wq) (Nat.le_refl _) (by repeat (first | with_reducible exact Ext.refl _ | with_reducible assumption | with_reducible refine Ext.drew ?_ | with_reducible refine Ext.alloc ?_ _ | with_reducible refine Ext.trans ?_ (by with_reducible assumption))) ?_; intro v4 w4 hB1 xs1 hk1; rw [List.nil_append] at hB1) | (refine step_appv elemVer (by decide) rfl _ _ rfl (Bld.empv (R := verdictO) (base := wq.heap.size) (Nat.le_succ _) HE3.out) rfl rfl (HTK.out _ (by repeat (first | with_reducible exact Ext.refl _ | with_reducible assumption | with_reducible refine Ext.drew ?_ | with_reducible refine Ext.alloc ?_ _ | with_reducible refine Ext.trans ?_ (by with_reducible assumption)))) HL1.out (by simp <;> omega) (w0 := wq) (Nat.le_refl _) (by repeat (first | with_reducible exact Ext.refl _ | with_reducible assumption | with_reducible refine Ext.drew ?_ | with_reducible refine Ext.alloc ?_ _ | with_reducible refine Ext.trans ?_ (by with_reducible assumption))) ?_; intro v4 w4 hB1 xs1 hk1; rw [List.nil_append] at hB1))

          all_goals
            obtain ⟨A6, c6, e6, _⟩ := hB3.sl.form
            subst e6
            have HNE := hid (show ∃ b6 o6, A6 = some ⟨b6, o6, none⟩ from by
              have hlen : 0 < (out.take q ++ [xs[k]] ++ out.drop q).length := by simp only [List.length_append, List.length_cons, List.length_nil]; omega
              obtain ⟨b6, o6, _, e, _⟩ := hB3.sl.at_ hlen
              exact ⟨b6, o6, e⟩)
            obtain ⟨b6, o6, e9⟩ := HNE.out
            subst e9
            clear HNE
            have HB3 := hid (hB3.lowv HWS.out)
            have HX6 := hid (HX9.out.trans xs3)
            clear hB3 xs3
            go_wp2
            go_roundw
            case rel => exact ⟨k + 1, b6, o6, c6, insS out xs[k], by omega, by go_num, by rw [HCNT.out], by rw [HCNT.out]; exact HB3.out, by rw [sortS_step xs k hlt, HOUT.out], HX6.out⟩
            case measure => simp [intOf]; omega
    · have HFIN := hid (show sortS xs = out by rw [← HOUT.out, List.take_of_length_le (by omega)])
      have HB9 := hid hB
      clear hB
      go_wp2
      go_ret
      exact ⟨_, rfl, by rw [HFIN.out]; exact HB9.out, hx⟩

end Go.Proofs.Ytmembjjgkideeaa
