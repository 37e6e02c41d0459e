/-
  THE LAW'S WALK: FnExactStoreItems.
-/
import Derived.Test.YtbhhbdilaihegaaItems
import Derived.Test.YtbhhbdilaihegaaMarkR
import Derived.Test.YtbhhbdilaihegaaMark
import Derived.Deep.RegionHeld3
namespace Go.Proofs.Ytbhhbdilaihegaa
open Go.RowKit

set_option maxHeartbeats 400000 in
set_option maxRecDepth 20000 in
theorem law_StoreItems (v0 : Value) (s : Store) (w : World) (h0 : StoAt w v0 s) :
    Calls Try.prog 14 #[v0] w fun e w2 => e = .returned (.bool true) ∧ Ext w w2 := by
  have hbd : (lstMk intMk).cnt (itemsOf s) ≤ 8 := by rw [show (lstMk intMk).cnt (itemsOf s) = (itemsOf s).length from intMk_sum _]; exact items_len s
  have HBD := hid hbd
  clear hbd
  obtain ⟨s0_0, s0_1, rfl, hI0, g0_0, g0_1⟩ := h0
  go_enter Try.func14, Try.ntmps14
  go_wp2_with fail
  have xw : Ext w (w.alloc (.cells #[.int .i64 s.version, s0_0, s0_1] 49)) := (by repeat (first | with_reducible exact Ext.refl _ | with_reducible assumption | with_reducible refine Ext.drew ?_ | with_reducible refine Ext.alloc ?_ _ | (refine Ext.setCell ?_ (by simp) _) | with_reducible refine Ext.trans ?_ (by with_reducible assumption)))
  have z0 : StoAt (w.alloc (.cells #[.int .i64 s.version, s0_0, s0_1] 49)) (.agg #[.int .i64 s.version, s0_0, s0_1]) s := ⟨_, _, rfl, hI0, g0_0.mono xw, g0_1.mono xw⟩
  have HB0 := hid (show ∀ W, Ext (w.alloc (.cells #[.int .i64 s.version, s0_0, s0_1] 49)) W → W.cell? ⟨w.heap.size, 0, none⟩ = some (.int .i64 s.version) ∧ W.cell? ⟨w.heap.size, 1, none⟩ = some (s0_0) ∧ W.cell? ⟨w.heap.size, 2, none⟩ = some (s0_1) from fun W y => ⟨y.box.1 0, y.box.1 1, y.box.1 2⟩)
  have hW := Ext.refl (w.alloc (.cells #[.int .i64 s.version, s0_0, s0_1] 49))
  refine (szStore_c _ s _ _ (z0.mono hW) (by omega) (by omega)).mono ?_
  rintro e w1 ⟨rfl, x1⟩
  replace hW := hW.trans x1
  clear x1
  by_cases hs0 : 1048576 < (((msSto s) : Nat) : Int)
  · rw [szv_neg hs0]
    go_wp2
    go_ret
    exact ⟨rfl, xw.trans hW⟩
  · have hl0 := szv_nn hs0
    have hu0 := szv_le (n := (((msSto s) : Nat) : Int)) (left := 1048576) (by omega) (by omega)
    generalize szv (((msSto s) : Nat) : Int) 1048576 = L0 at hl0 hu0 ⊢
    have HS0 : msSto s ≤ 1048576 := by omega
    clear hs0
    obtain ⟨c1_0, c1_1, c1_2⟩ := HB0.out _ hW
    go_wp2_with fail
    refine (toStore_c _ s _ (z0.mono hW) HS0).mono ?_
    rintro e w2 ⟨v2, F2, rfl, o2, n2, x2⟩
    replace hW := hW.trans x2
    clear x2
    go_wp2_with fail
    refine (spec_StoreItems _ s _ o2.at_).mono ?_
    rintro e w3 ⟨v3m, F3, rfl, o3, n3, x3⟩
    clear o2 n2 n3
    replace hW := hW.trans x3
    clear x3
    clear c1_0 c1_1 c1_2
    obtain ⟨c2_0, c2_1, c2_2⟩ := HB0.out _ hW
    go_wp2_with fail
    refine (toStore_c _ s _ (z0.mono hW) HS0).mono ?_
    rintro e w4 ⟨v4, F4, rfl, o4, n4, x4⟩
    have d3_4 : Dis F3 F4 := Dis.new o3.lt n4
    have b4 := fun x (hx : x ∈ F4) => Nat.le_trans hW.size (n4.2 x hx)
    have N4 := n4.1
    have l4 := o4.lt
    clear n4
    replace hW := hW.trans x4
    replace o3 := o3.ext x4
    clear x4
    obtain ⟨a4_0, a4_1, P4_0, P4_1, rfl, hI4, u4_0, u4_1, hF4⟩ := o4
    obtain ⟨A4_0, cap4_0, e4_0, _⟩ := u4_0.form
    subst e4_0
    obtain ⟨A4_1, cap4_1, e4_1, _⟩ := u4_1.form
    subst e4_1
    have HX0 := hid (show ∀ W, Ext (w4.alloc (.cells #[.int .i64 s.version, .slice A4_0 s.records.length cap4_0, .slice A4_1 s.verdicts.length cap4_1] 54)) W → W.cell? ⟨w4.heap.size, 0, none⟩ = some (.int .i64 s.version) ∧ W.cell? ⟨w4.heap.size, 1, none⟩ = some (.slice A4_0 s.records.length cap4_0) ∧ W.cell? ⟨w4.heap.size, 2, none⟩ = some (.slice A4_1 s.verdicts.length cap4_1) from fun W y => ⟨y.box.1 0, y.box.1 1, y.box.1 2⟩)
    have hb0 := Ext.refl (w4.alloc (.cells #[.int .i64 s.version, .slice A4_0 s.records.length cap4_0, .slice A4_1 s.verdicts.length cap4_1] 54))
    have x5 : Ext w4 (w4.alloc (.cells #[.int .i64 s.version, .slice A4_0 s.records.length cap4_0, .slice A4_1 s.verdicts.length cap4_1] 54)) := (Ext.refl _).alloc _
    have l5 := fun b (hb : b ∈ F4) => Nat.lt_of_lt_of_le (l4 b hb) x5.size
    clear l4
    replace hW := hW.trans x5
    replace o3 := o3.ext x5
    replace u4_0 := u4_0.ext x5
    replace u4_1 := u4_1.ext x5
    clear x5
    clear c2_0 c2_1 c2_2
    obtain ⟨c3_0, c3_1, c3_2⟩ := HX0.out _ hb0
    go_wp2_with fail
    refine (impl_StoreItems _ s _ ⟨_, _, rfl, hI0, u4_0.sl, u4_1.sl⟩).mono ?_
    rintro e w6 ⟨v6m, F6, rfl, o6, n6, x6⟩
    have d3_6 : Dis F3 F6 := Dis.new o3.lt n6
    have d4_6 : Dis F4 F6 := Dis.new l5 n6
    have b6 := fun x (hx : x ∈ F6) => Nat.le_trans hW.size (n6.2 x hx)
    have N6 := n6.1
    clear n6 l5
    replace hW := hW.trans x6
    replace o3 := o3.ext x6
    replace u4_0 := u4_0.ext x6
    replace u4_1 := u4_1.ext x6
    replace hb0 := hb0.trans x6
    clear x6
    clear c3_0 c3_1 c3_2
    go_wp2_with fail
    refine (eqIntS_c _ _ (itemsOf s) (itemsOf s) _ o6.sl o3.sl).mono ?_
    rintro e w7 ⟨rfl, x7⟩
    rw [eqB_self]
    replace hW := hW.trans x7
    replace o3 := o3.ext x7
    replace o6 := o6.ext x7
    replace u4_0 := u4_0.ext x7
    replace u4_1 := u4_1.ext x7
    replace hb0 := hb0.trans x7
    clear x7
    have HK := hid (show ∀ W, Ext w7 W → (W.cell? ⟨w4.heap.size, 0, none⟩ = some (.int .i64 s.version) ∧ W.cell? ⟨w4.heap.size, 1, none⟩ = some (.slice A4_0 s.records.length cap4_0) ∧ W.cell? ⟨w4.heap.size, 2, none⟩ = some (.slice A4_1 s.verdicts.length cap4_1)) ∧ (W.cell? ⟨w.heap.size, 0, none⟩ = some (.int .i64 s.version) ∧ W.cell? ⟨w.heap.size, 1, none⟩ = some (s0_0) ∧ W.cell? ⟨w.heap.size, 2, none⟩ = some (s0_1)) from fun W y => ⟨HX0.out _ (hb0.trans y), HB0.out _ (hW.trans y)⟩)
    go_wp2_with fail
    go_region_held3 (fun w' => (w'.cell? ⟨w4.heap.size, 0, none⟩ = some (.int .i64 s.version) ∧ w'.cell? ⟨w4.heap.size, 1, none⟩ = some (.slice A4_0 s.records.length cap4_0) ∧ w'.cell? ⟨w4.heap.size, 2, none⟩ = some (.slice A4_1 s.verdicts.length cap4_1)) ∧ (w'.cell? ⟨w.heap.size, 0, none⟩ = some (.int .i64 s.version) ∧ w'.cell? ⟨w.heap.size, 1, none⟩ = some (s0_0) ∧ w'.cell? ⟨w.heap.size, 2, none⟩ = some (s0_1)))
      (exact HK.out _ (by repeat (first | with_reducible exact Ext.refl _ | with_reducible assumption | with_reducible refine Ext.drew ?_ | with_reducible refine Ext.alloc ?_ _ | with_reducible refine Ext.trans ?_ (by with_reducible assumption))))
      (first | (go_at_call 40; refine (toStore_c _ s _ ?hr HS0).mono ?_; (case hr => exact (z0.mono hW).mono (by repeat (first | with_reducible exact Ext.refl _ | with_reducible assumption | with_reducible refine Ext.drew ?_ | with_reducible refine Ext.alloc ?_ _ | with_reducible refine Ext.trans ?_ (by with_reducible assumption)))); rintro e wa ⟨va, Fa, rfl, oa, na, xa⟩) | (go_at_call 42; refine (eqStore_c _ _ s s _ ?ha ?hb).mono ?_; (case ha => exact ⟨_, _, rfl, hI0, (u4_0.ext (by repeat (first | with_reducible exact Ext.refl _ | with_reducible assumption | with_reducible refine Ext.drew ?_ | with_reducible refine Ext.alloc ?_ _ | with_reducible refine Ext.trans ?_ (by with_reducible assumption)))).sl, (u4_1.ext (by repeat (first | with_reducible exact Ext.refl _ | with_reducible assumption | with_reducible refine Ext.drew ?_ | with_reducible refine Ext.alloc ?_ _ | with_reducible refine Ext.trans ?_ (by with_reducible assumption)))).sl⟩); (case hb => exact oa.at_); rintro e w8 ⟨rfl, xb⟩; rw [eqB_self]))
    have x8 : Ext w7 w8 := (by repeat (first | with_reducible exact Ext.refl _ | with_reducible assumption | with_reducible refine Ext.drew ?_ | with_reducible refine Ext.alloc ?_ _ | with_reducible refine Ext.trans ?_ (by with_reducible assumption)))
    clear xa xb oa na HK
    replace hW := hW.trans x8
    replace o3 := o3.ext x8
    replace o6 := o6.ext x8
    replace u4_0 := u4_0.ext x8
    replace u4_1 := u4_1.ext x8
    replace hb0 := hb0.trans x8
    clear x8
    obtain ⟨c3_0, c3_1, c3_2⟩ := HX0.out _ hb0
    go_wp2_with fail
    refine (markStore_c _ s F4 1 _ ⟨_, _, P4_0, P4_1, rfl, hI4, u4_0, u4_1, hF4⟩ N4 (by omega) (by omega)).mono ?_
    rintro e w9 ⟨K9, rfl, hk9, ch9⟩
    clear c3_0 c3_1 c3_2 u4_0 u4_1 hb0 HX0
    replace o3 := ch9.keepSl d3_4 o3
    replace o6 := ch9.keepSl d4_6.symm o6
    replace hW := ch9.ext b4 hW
    clear ch9
    go_wp2_with fail
    refine (eqIntS_c _ _ (itemsOf s) (itemsOf s) _ o6.sl o3.sl).mono ?_
    rintro e w10 ⟨rfl, x10⟩
    rw [eqB_self]
    replace hW := hW.trans x10
    replace o3 := o3.ext x10
    replace o6 := o6.ext x10
    clear x10
    go_wp2_with fail
    refine (markIntS_c _ (itemsOf s) F6 1 _ o6 N6 (by omega) (by have := HBD.out; omega)).mono ?_
    rintro e w11 ⟨ys5, rfl, p11, mk5, ch11⟩
    replace o3 := ch11.keepSl d3_6 o3
    replace hW := ch11.ext b6 hW
    clear o6 ch11
    have o5 := p11
    clear p11
    obtain ⟨K11, hK11⟩ : ∃ K, K = 1 + (((lstMk intMk).cnt (itemsOf s) : Nat) : Int) := ⟨_, rfl⟩
    rw [← hK11]
    have hk11 : 0 ≤ K11 := by omega
    have HK11 := hid hK11
    clear hK11
    go_wp2_with fail
    refine (heldIntS_c _ (itemsOf s) ys5 1 _ o5.sl mk5 (by omega) (by have := HBD.out; omega)).mono ?_
    rintro e w12 ⟨rfl, rfl⟩
    rw [← HK11.out]
    obtain ⟨c4_0, c4_1, c4_2⟩ := HB0.out _ hW
    go_wp2_with fail
    refine (toStore_c _ s _ (z0.mono hW) HS0).mono ?_
    rintro e w13 ⟨v13m, F13, rfl, o13, n13, x13⟩
    replace hW := hW.trans x13
    replace o3 := o3.ext x13
    replace o5 := o5.ext x13
    clear x13
    go_wp2_with fail
    refine (impl_StoreItems _ s _ o13.at_).mono ?_
    rintro e w14 ⟨v14m, F14, rfl, o14, n14, x14⟩
    replace hW := hW.trans x14
    replace o3 := o3.ext x14
    replace o5 := o5.ext x14
    clear x14 c4_0 c4_1 c4_2
    go_wp2_with fail
    refine (eqIntS_c _ _ (itemsOf s) (itemsOf s) _ o14.sl o3.sl).mono ?_
    rintro e w15 ⟨rfl, x15⟩
    rw [eqB_self]
    replace hW := hW.trans x15
    replace o5 := o5.ext x15
    clear x15
    go_wp2_with fail
    refine (heldIntS_c _ (itemsOf s) ys5 1 _ o5.sl mk5 (by omega) (by have := HBD.out; omega)).mono ?_
    rintro e w16 ⟨rfl, rfl⟩
    rw [← HK11.out]
    go_wp2
    go_ret
    exact ⟨rfl, xw.trans hW⟩
end Go.Proofs.Ytbhhbdilaihegaa
