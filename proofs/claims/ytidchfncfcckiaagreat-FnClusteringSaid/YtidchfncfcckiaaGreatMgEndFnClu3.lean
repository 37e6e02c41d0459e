/-
  THE LAW'S WALK: FnClustering.
-/
import Derived.Test.YtidchfncfcckiaaGreatMgEndFnClu0
import Derived.Test.YtidchfncfcckiaaGreatMgEndClu11
import Derived.Test.YtidchfncfcckiaaGreatMgEndClu12
import Derived.Test.YtidchfncfcckiaaGreatMgEndFnClu2

namespace Go.Proofs.YtidchfncfcckiaaGreat
open Go.RowKit

set_option maxHeartbeats 400000 in
theorem laws_sameI (v u : Value) (xs : List Int) (w : World) (h : Sl intR w v xs) (k : Sl intR w u xs) :
    Calls Tryz.prog 11 #[v, u] w fun e w2 => e = .returned (.bool true) ∧ Ext w w2 := by
  have key : ∀ ys : List Int, Sl intR w u ys → Calls Tryz.prog 11 #[v, u] w fun e w2 => e = .returned (.bool (eqB xs ys)) ∧ Ext w w2 := fun ys k => by
    obtain ⟨A, cap, rfl, hm⟩ := h.form
    obtain ⟨B, cap2, rfl, hm2⟩ := k.form
    by_cases hl : xs.length = ys.length
    · have hl' : ((xs.length : Int) != (ys.length : Int)) = false := by simp [hl]
      have HL := hid hl
      clear hl
      go_enter Tryz.func11, Tryz.ntmps11
      go_wp2
      go_loopw [5] (fun i wr => ∃ k2 : Nat, k2 ≤ xs.length ∧ i = .int .i64 k2 ∧ xs.take k2 = ys.take k2 ∧ Ext w wr) (fun i _ => xs.length - (intOf i).toNat)
      case atStart => exact ⟨0, Nat.zero_le _, rfl, by simp, Ext.refl _⟩
      case round =>
        obtain ⟨k2, hk, rfl, he, hx⟩ := hrel
        have HE := hid he
        clear he
        by_cases hlt : k2 < xs.length
        · have hlt2 : k2 < ys.length := by have := HL.out; omega
          obtain ⟨b, off, rfl, hi, hc⟩ := (h.mono hx).int hlt
          obtain ⟨b2, off2, rfl, hi2, hc2⟩ := (k.mono hx).int hlt2
          have hcz : ∀ z : ExtOf wr, z.1.cell? ⟨b, off + k2, none⟩ = _ := fun z => z.2.cell hc
          have hcz2 : ∀ z : ExtOf wr, z.1.cell? ⟨b2, off2 + k2, none⟩ = _ := fun z => z.2.cell hc2
          by_cases h0 : xs[k2] = ys[k2]
          · have h0' : (xs[k2] != ys[k2]) = false := by simp [h0]
            have H0 := hid h0
            clear h0
            go_wp2_with fail
            refine wp_region_ext (by kernel_rfl) (by kernel_rfl) ?_
            repeat (go_big_quiet_step ((fail)))
            refine wpQuiet_nil ?_
            rintro w1 ⟨⟨_, x1⟩, rfl⟩
            go_wp2
            go_roundw
            case rel => exact ⟨k2 + 1, by omega, by go_num, take_snoc_eq hlt hlt2 H0.out HE.out, hx.trans x1⟩
            case measure => simp [intOf]; omega
          · have h0' : (xs[k2] != ys[k2]) = true := by simp [h0]
            have H0 := hid h0
            clear h0
            go_wp2_with fail
            refine wp_region_ext (by kernel_rfl) (by kernel_rfl) ?_
            repeat (go_big_quiet_step ((fail)))
            refine wpQuiet_nil ?_
            rintro w1 ⟨⟨_, x1⟩, rfl⟩
            go_wp2
            go_ret
            exact ⟨ret_bool (eqB_false (ne_of_at hlt hlt2 H0.out)).symm, hx.trans x1⟩
        · go_wp2
          go_ret
          exact ⟨ret_bool (eqB_true (eq_of_take hlt HL.out HE.out)).symm, hx⟩
    · have hl' : ((xs.length : Int) != (ys.length : Int)) = true := by simp; omega
      go_enter Tryz.func11, Tryz.ntmps11
      go_wp2
      go_ret
      exact ⟨ret_bool (eqB_false fun e => hl (by rw [e])).symm, Ext.refl _⟩
  have := key xs k
  rwa [eqB_self] at this
set_option maxHeartbeats 4000000 in
set_option maxRecDepth 20000 in
theorem law_FnClustering (v : Value) (bs : List Int) (w : World) (h : Sl u8R w v bs) :
    Calls Tryz.prog 3 #[v] w fun e w2 => e = .returned (.bool true) ∧ Ext w w2 := by
  have HH := hid h
  obtain ⟨A0, cap0, rfl, hm0⟩ := h.form
  have HBG := hid (laws_big _ bs _ h)
  by_cases hb : 1048576 < bs.length
  · rw [decide_eq_true hb] at HBG
    clear h hb
    go_enter Tryz.func3, Tryz.ntmps3
    go_wp2_with fail
    refine (HBG.out).mono ?_
    rintro e w1 ⟨rfl, rfl⟩
    go_wp2
    go_ret
    exact ⟨rfl, Ext.refl _⟩
  rw [decide_eq_false hb] at HBG
  clear h hb
  go_enter Tryz.func3, Tryz.ntmps3
  go_wp2_with fail
  refine (HBG.out).mono ?_
  rintro e w1 ⟨rfl, rfl⟩
  go_wp2_with fail
  refine (spec_DrawClusterItems _ _ bs HH.out).mono ?_
  rintro e w1 ⟨v1, u1, m, l, rfl, hm, hl, x1⟩
  have HM := hid hm
  have HL := hid hl
  have HX1 := hid x1
  obtain ⟨A, cap, rfl, _⟩ := hm.form
  obtain ⟨B, cap2, rfl, _⟩ := hl.form
  have HCI := hid (impl_ClusterItems _ _ m l w1 hm hl)
  have HCS := hid (fun (W : World) (y : Ext w1 W) => spec_ClusterItems _ _ m l W (hm.mono y) (hl.mono y))
  have HPI := hid (fun (W : World) (y : Ext w1 W) => impl_SearchParts _ _ m l W (hm.mono y) (hl.mono y))
  have HPS := hid (fun (W : World) (y : Ext w1 W) => spec_SearchParts _ _ m l W (hm.mono y) (hl.mono y))
  obtain ⟨P, hP⟩ : ∃ P, P = searchP m l := ⟨_, rfl⟩
  obtain ⟨C, hC⟩ : ∃ C, C = clusterP m l := ⟨_, rfl⟩
  rw [← hC] at HCI HCS
  obtain ⟨⟨L, cost, ex, gap⟩, told⟩ := C
  have HT := hid (clus_told hC.symm)
  rw [← hP] at HPI HPS HT
  dsimp only at HCI HCS
  clear hC hP hm hl x1
  have htn : (told != told) = false := by simp
  have htt : (told == told) = true := by simp
  go_wp2_with fail
  refine (HCI.out).mono ?_
  rintro e w2 ⟨v2, F2, rfl, o2, n2, x2⟩
  obtain ⟨A2, c2, e2, _⟩ := o2.form
  subst e2
  obtain ⟨w3, hw3⟩ : ∃ W, W = w2.alloc (.cells #[.slice A2 L.length c2, .int .i64 cost, .bool ex, .int .i64 gap] 30) := ⟨_, rfl⟩
  have y3 : Ext w2 w3 := by rw [hw3]; exact (Ext.refl _).alloc _
  have bC := Blk.new w2 30 #[.slice A2 L.length c2, .int .i64 cost, .bool ex, .int .i64 gap]
  rw [← hw3] at bC
  obtain ⟨g5, hg5⟩ : ∃ g, g = w2.heap.size := ⟨_, rfl⟩
  rw [← hg5] at bC
  have HW3 := hid (And.intro hw3 hg5)
  have HX3 := hid (x2.trans y3)
  have HO2 := hid (o2.sl.mono y3)
  have HBC := hid bC
  clear hw3 hg5 o2 n2 x2 y3 bC
  go_wp2_with fail
  rw [← HW3.out.1, ← HW3.out.2]
  refine (HCS.out w3 HX3.out).mono ?_
  rintro e w4 ⟨v4, F4, rfl, o4, n4, x4⟩
  obtain ⟨A4, c4, e4, _⟩ := o4.form
  subst e4
  obtain ⟨w5, hw5⟩ : ∃ W, W = w4.alloc (.cells #[.slice A4 L.length c4, .int .i64 cost, .bool ex, .int .i64 gap] 30) := ⟨_, rfl⟩
  have y5 : Ext w4 w5 := by rw [hw5]; exact (Ext.refl _).alloc _
  have bD := Blk.new w4 30 #[.slice A4 L.length c4, .int .i64 cost, .bool ex, .int .i64 gap]
  rw [← hw5] at bD
  obtain ⟨g7, hg7⟩ : ∃ g, g = w4.heap.size := ⟨_, rfl⟩
  rw [← hg7] at bD
  have HW5 := hid (And.intro hw5 hg7)
  have HX5 := hid (HX3.out.trans (x4.trans y5))
  have HO2 := hid (HO2.out.mono (x4.trans y5))
  have HO4 := hid (o4.sl.mono y5)
  have HBC := hid (HBC.out.ext (x4.trans y5))
  have HBD := hid bD
  clear hw5 hg7 o4 n4 x4 y5 bD
  go_wp2_with fail
  rw [← HW5.out.1, ← HW5.out.2]
  refine (HPI.out w5 HX5.out).mono ?_
  rintro e w6 ⟨v6, F6, rfl, o6, n6, x6⟩
  obtain ⟨A6, c6, e6, _⟩ := o6.form
  subst e6
  have HX6 := hid (HX5.out.trans x6)
  have HO6 := hid o6.sl
  have HO2 := hid (HO2.out.mono x6)
  have HO4 := hid (HO4.out.mono x6)
  have HBC := hid (HBC.out.ext x6)
  have HBD := hid (HBD.out.ext x6)
  clear o6 n6 x6
  obtain ⟨p0, p1, p2, p3⟩ := HBC.out.c4.1
  obtain ⟨q0, q1, q2, q3⟩ := HBD.out.c4.1
  have HEC := hid (impl_EqualClusterings _ _ ⟨L, cost, ex, gap⟩ w6 HO2.out HO4.out)
  go_wp2_with fail
  refine (HEC.out).mono ?_
  rintro e w7 ⟨rfl, x7⟩
  clear p0 p1 p2 p3 q0 q1 q2 q3
  go_wp2_with fail
  refine (HPS.out w7 (HX6.out.trans x7)).mono ?_
  rintro e w8 ⟨v8, F8, rfl, o8, n8, x8⟩
  have HX8 := hid (HX6.out.trans (x7.trans x8))
  have HO6 := hid (HO6.out.mono (x7.trans x8))
  have HO2 := hid (HO2.out.mono (x7.trans x8))
  have HBC := hid (HBC.out.ext (x7.trans x8))
  have HSI := hid (laws_sameI _ _ P w8 HO6.out o8.sl)
  clear o8 n8 x7 x8
  go_wp2_with fail
  refine (HSI.out).mono ?_
  rintro e w9 ⟨rfl, x9⟩
  have HX9 := hid (HX8.out.trans x9)
  have HO6 := hid (HO6.out.mono x9)
  have HO2 := hid (HO2.out.mono x9)
  have HBC := hid (HBC.out.ext x9)
  have HDR := hid (spec_DrawCheckClustering w9 _ bs (HH.out.mono (HX1.out.trans HX9.out)))
  clear x9
  go_wp2_with fail
  refine (HDR.out).mono ?_
  rintro e wa ⟨va, ua, za, m2, l2, c, rfl, hm2, hl2, hz2, xa⟩
  obtain ⟨Aa, ca, rfl, _⟩ := hm2.form
  obtain ⟨Ba, cb, rfl, _⟩ := hl2.form
  obtain ⟨Za, cz, rfl, _⟩ := hz2.form
  obtain ⟨wb, hwb⟩ : ∃ W, W = wa.alloc (.cells #[.slice Za c.labels.length cz, .int .i64 c.cost, .bool c.exact, .int .i64 c.gap] 30) := ⟨_, rfl⟩
  have yb : Ext wa wb := by rw [hwb]; exact (Ext.refl _).alloc _
  have bE := Blk.new wa 30 #[.slice Za c.labels.length cz, .int .i64 c.cost, .bool c.exact, .int .i64 c.gap]
  rw [← hwb] at bE
  obtain ⟨g12, hg12⟩ : ∃ g, g = wa.heap.size := ⟨_, rfl⟩
  rw [← hg12] at bE
  have HWB := hid (And.intro hwb hg12)
  have HXB := hid (HX9.out.trans (xa.trans yb))
  have HO6 := hid (HO6.out.mono (xa.trans yb))
  have HO2 := hid (HO2.out.mono (xa.trans yb))
  have HBC := hid (HBC.out.ext (xa.trans yb))
  have HKI := hid (fun (z : ExtOf wb) => impl_CheckClustering _ _ _ m2 l2 c z.1 (hm2.mono (yb.trans z.2)) (hl2.mono (yb.trans z.2)) (hz2.mono (yb.trans z.2)))
  have HKS := hid (fun (z : ExtOf wb) => spec_CheckClustering _ _ _ m2 l2 c z.1 (hm2.mono (yb.trans z.2)) (hl2.mono (yb.trans z.2)) (hz2.mono (yb.trans z.2)))
  obtain ⟨k, hk⟩ : ∃ k, k = checkP m2 l2 c := ⟨_, rfl⟩
  rw [← hk] at HKI HKS
  have hkn : (k != k) = false := by simp
  have hkk : (k == k) = true := by simp
  obtain ⟨cl, cc, ce, cg⟩ := c
  dsimp only at bE HKI HKS HWB
  have e0 : ∀ z : ExtOf wb, z.1.cell? ⟨g12, 0, none⟩ = some (.slice Za cl.length cz) := fun z => (bE.ext z.2).cells.1 0
  have e1 : ∀ z : ExtOf wb, z.1.cell? ⟨g12, 1, none⟩ = some (.int .i64 cc) := fun z => (bE.ext z.2).cells.1 1
  have e2 : ∀ z : ExtOf wb, z.1.cell? ⟨g12, 2, none⟩ = some (.bool ce) := fun z => (bE.ext z.2).cells.1 2
  have e3 : ∀ z : ExtOf wb, z.1.cell? ⟨g12, 3, none⟩ = some (.int .i64 cg) := fun z => (bE.ext z.2).cells.1 3
  clear hwb hg12 yb xa hk hm2 hl2 hz2 bE
  go_wp2_with fail
  rw [← HWB.out.1, ← HWB.out.2]
  refine wp_region_ext (by kernel_rfl) (by kernel_rfl) ?_
  repeat (go_big_quiet_step ((first | (go_at_call 14; exact quiet_ext (HKI.out _)) | (go_at_call 15; exact quiet_ext (HKS.out _)))))
  refine wpQuiet_nil ?_
  rintro w5 ⟨⟨_, x5⟩, rfl⟩
  clear e0 e1 e2 e3
  have HXC := hid (HXB.out.trans x5)
  have HO6 := hid (HO6.out.mono x5)
  have HO2 := hid (HO2.out.mono x5)
  have bC := HBC.out.ext x5
  have HBC := hid bC
  clear x5
  cases told with
  | false =>
    have hL0 := HT.out.1 rfl
    subst hL0
    obtain ⟨p0, p1, p2, p3⟩ := bC.c4.1
    clear bC
    go_wp2
    go_ret
    exact ⟨rfl, HX1.out.trans HXC.out⟩
  | true =>
    obtain ⟨t1, t2, t3, t4⟩ := HT.out.2 rfl
    have HCK := hid (fun (z : ExtOf w5) => impl_CheckClustering _ _ _ m l ⟨L, cost, ex, gap⟩ z.1 (HM.out.mono (HXC.out.trans z.2)) (HL.out.mono (HXC.out.trans z.2)) (HO2.out.mono z.2))
    rw [t1] at HCK
    have HRF := hid (fun (z : ExtOf w5) => impl_RefinesPartition _ _ L P z.1 (HO2.out.mono z.2) (HO6.out.mono z.2) t2)
    rw [t3, eqB_self] at HRF
    have HBS := hid (fun (z : ExtOf w5) => impl_BestCost _ _ m l z.1 (HM.out.mono (HXC.out.trans z.2)) (HL.out.mono (HXC.out.trans z.2)))
    have y0 : ∀ z : ExtOf w5, z.1.cell? ⟨g5, 0, none⟩ = some (.slice A2 L.length c2) := fun z => (bC.ext z.2).cells.1 0
    have y1 : ∀ z : ExtOf w5, z.1.cell? ⟨g5, 1, none⟩ = some (.int .i64 cost) := fun z => (bC.ext z.2).cells.1 1
    have y2 : ∀ z : ExtOf w5, z.1.cell? ⟨g5, 2, none⟩ = some (.bool ex) := fun z => (bC.ext z.2).cells.1 2
    have y3 : ∀ z : ExtOf w5, z.1.cell? ⟨g5, 3, none⟩ = some (.int .i64 gap) := fun z => (bC.ext z.2).cells.1 3
    clear bC t1 t2 t3
    dsimp only at HCK
    cases ex with
    | false =>
      clear t4 HBS
      go_wp2_with fail
      refine wp_region_ext (by kernel_rfl) (by kernel_rfl) ?_
      repeat (go_big_quiet_step ((first | (go_at_call 14; exact quiet_ext (HCK.out _)) | (go_at_call 16; exact quiet_ext (HRF.out _)))))
      refine wpQuiet_nil ?_
      rintro w6 ⟨⟨_, x6⟩, rfl⟩
      go_wp2
      go_ret
      exact ⟨rfl, HX1.out.trans (HXC.out.trans x6)⟩
    | true =>
      rw [t4 rfl] at HBS
      have hcc : (cost == cost) = true := by simp
      clear t4
      go_wp2_with fail
      refine wp_region_ext (by kernel_rfl) (by kernel_rfl) ?_
      repeat (go_big_quiet_step ((first | (go_at_call 14; exact quiet_ext (HCK.out _)) | (go_at_call 16; exact quiet_ext (HRF.out _)) | (go_at_call 17; exact quiet_ext (HBS.out _)))))
      refine wpQuiet_nil ?_
      rintro w6 ⟨⟨_, x6⟩, rfl⟩
      go_wp2
      go_ret
      exact ⟨rfl, HX1.out.trans (HXC.out.trans x6)⟩
end Go.Proofs.YtidchfncfcckiaaGreat
