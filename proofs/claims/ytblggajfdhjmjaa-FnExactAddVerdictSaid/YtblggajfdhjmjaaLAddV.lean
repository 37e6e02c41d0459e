/-
  THE LAW'S WALK: FnExactAddVerdict.
-/
import Derived.Test.YtblggajfdhjmjaaAddW
import Derived.Test.YtblggajfdhjmjaaMarkR
import Derived.Deep.RegionHeld3
namespace Go.Proofs.Ytblggajfdhjmjaa
open Go.RowKit


set_option maxHeartbeats 400000 in
theorem law_AddVerdict (v0 : Value) (x : List Verdict) (y : Verdict) (w : World) (h0 : Sl verdictR w v0 x) :
    Calls Try.prog 4 #[v0, y.val] w fun e w2 => e = .returned (.bool true) ∧ Ext w w2 := by
  unfold Verdict.val
  have hW : Ext (w.alloc (.cells #[.int .i64 y.a, .int .i64 y.b, .bool y.same, .int .i64 y.time] 24)) (w.alloc (.cells #[.int .i64 y.a, .int .i64 y.b, .bool y.same, .int .i64 y.time] 24)) := Ext.refl _
  have xw0 : Ext w (w.alloc (.cells #[.int .i64 y.a, .int .i64 y.b, .bool y.same, .int .i64 y.time] 24)) := (Ext.refl w).alloc _
  replace h0 := h0.mono xw0
  have HBX := hid (show ∀ W, Ext (w.alloc (.cells #[.int .i64 y.a, .int .i64 y.b, .bool y.same, .int .i64 y.time] 24)) W → W.cell? ⟨w.heap.size, 0, none⟩ = some (.int .i64 y.a) ∧ W.cell? ⟨w.heap.size, 1, none⟩ = some (.int .i64 y.b) ∧ W.cell? ⟨w.heap.size, 2, none⟩ = some (.bool y.same) ∧ W.cell? ⟨w.heap.size, 3, none⟩ = some (.int .i64 y.time) from fun W y => ⟨y.box.1 0, y.box.1 1, y.box.1 2, y.box.1 3⟩)
  go_enter Try.func4, Try.ntmps4
  go_wp2_with fail
  refine (szVerdictS_c _ x _ _ (h0.mono hW) (by omega) (by omega)).mono ?_
  rintro e w1 ⟨rfl, x1⟩
  replace hW := hW.trans x1
  clear x1
  by_cases hs0 : 1048576 < ((x.length : Nat) : Int)
  · rw [szv_neg hs0]
    go_wp2
    go_ret
    exact ⟨rfl, xw0.trans hW⟩
  · have hl0 := szv_nn hs0
    have hu0 := szv_le (n := ((x.length : Nat) : Int)) (left := 1048576) (by omega) (by omega)
    generalize szv ((x.length : Nat) : Int) 1048576 = L0 at hl0 hu0 ⊢
    have HS0 : x.length ≤ 1048576 := by omega
    clear hs0
    have hbd : (lstMk verdictMk).cnt (addV x y).1 ≤ 4194304 := addV_cnt x y HS0
    have HBD := hid hbd
    clear hbd
    go_wp2_with fail
    go_region_held3 (fun w' => w'.cell? ⟨w.heap.size, 0, none⟩ = some (.int .i64 y.a) ∧ w'.cell? ⟨w.heap.size, 1, none⟩ = some (.int .i64 y.b) ∧ w'.cell? ⟨w.heap.size, 2, none⟩ = some (.bool y.same) ∧ w'.cell? ⟨w.heap.size, 3, none⟩ = some (.int .i64 y.time)) (exact HBX.out _ (by repeat (first | with_reducible exact Ext.refl _ | with_reducible assumption | with_reducible refine Ext.drew ?_ | with_reducible refine Ext.alloc ?_ _ | with_reducible refine Ext.trans ?_ (by with_reducible assumption)))) (first | (go_at_call 7; refine (toVerdictS_c _ x _ ?hr HS0).mono ?_; (case hr => exact h0.mono (by repeat (first | with_reducible exact Ext.refl _ | with_reducible assumption | with_reducible refine Ext.drew ?_ | with_reducible refine Ext.alloc ?_ _ | with_reducible refine Ext.trans ?_ (by with_reducible assumption)))); rintro e wa ⟨va, Fa, rfl, oa, na, xa⟩) | (go_at_call 8; refine (toVerdict_c y.a y.b y.same y.time _).mono ?_; rintro e wb ⟨rfl, xb⟩) | (go_at_call 13; refine (spec_AddVerdict _ x y _ ?hs HS0).mono ?_; (case hs => exact (oa.ext (by repeat (first | with_reducible exact Ext.refl _ | with_reducible assumption | with_reducible refine Ext.drew ?_ | with_reducible refine Ext.alloc ?_ _ | with_reducible refine Ext.trans ?_ (by with_reducible assumption)))).sl); rintro e w3 ⟨v3m, F3, rfl, o3, n3, x3⟩))
    replace hW := hW.trans (Ext.refl _).drew
    have xab := xa.trans xb
    replace hW := hW.trans xab
    clear xa xb xab oa na
    have b3 : ∀ x ∈ F3, (w.alloc (.cells #[.int .i64 y.a, .int .i64 y.b, .bool y.same, .int .i64 y.time] 24)).heap.size ≤ x := fun x hx => Nat.le_trans hW.size (n3.2 x hx)
    replace n3 := n3.1
    replace hW := hW.trans x3
    clear x3
    go_wp2_with fail
    refine (toVerdictS_c _ x _ (h0.mono hW) HS0).mono ?_
    rintro e w4 ⟨v4m, F4, rfl, o4, n4, x4⟩
    have d3_4 : Dis F3 F4 := Dis.new o3.lt n4
    have b4 : ∀ x ∈ F4, (w.alloc (.cells #[.int .i64 y.a, .int .i64 y.b, .bool y.same, .int .i64 y.time] 24)).heap.size ≤ x := fun x hx => Nat.le_trans hW.size (n4.2 x hx)
    replace n4 := n4.1
    replace hW := hW.trans x4
    replace o3 := o3.ext x4
    clear x4
    obtain ⟨cb1, fb1⟩ := hW.box
    go_wp2_with fail
    refine (toVerdict_c y.a y.b y.same y.time _).mono ?_
    rintro e wv1 ⟨rfl, xv1⟩
    replace hW := hW.trans xv1
    replace o3 := o3.ext xv1
    replace o4 := o4.ext xv1
    clear xv1 cb1 fb1
    go_wp2_with fail
    refine (impl_AddVerdict _ x y _ o4.sl HS0).mono ?_
    rintro e w5 ⟨v5m, F5, rfl, o5, n5, x5⟩
    have d3_5 : Dis F3 F5 := Dis.new o3.lt n5
    have d4_5 : Dis F4 F5 := Dis.new o4.lt n5
    have b5 : ∀ x ∈ F5, (w.alloc (.cells #[.int .i64 y.a, .int .i64 y.b, .bool y.same, .int .i64 y.time] 24)).heap.size ≤ x := fun x hx => Nat.le_trans hW.size (n5.2 x hx)
    replace n5 := n5.1
    replace hW := hW.trans x5
    replace o3 := o3.ext x5
    replace o4 := o4.ext x5
    clear x5
    go_wp2_with fail
    refine (eqVerdictS_c _ _ (addV x y).1 (addV x y).1 _ o5.sl o3.sl).mono ?_
    rintro e w6 ⟨rfl, x6⟩
    rw [eqB_self]
    replace hW := hW.trans x6
    replace o3 := o3.ext x6
    replace o4 := o4.ext x6
    replace o5 := o5.ext x6
    clear x6
    go_wp2_with fail
    refine (toVerdictS_c _ x _ (h0.mono hW) HS0).mono ?_
    rintro e w7 ⟨v7m, F7, rfl, o7, n7, x7⟩
    have d3_7 : Dis F3 F7 := Dis.new o3.lt n7
    have d4_7 : Dis F4 F7 := Dis.new o4.lt n7
    have d5_7 : Dis F5 F7 := Dis.new o5.lt n7
    have b7 : ∀ x ∈ F7, (w.alloc (.cells #[.int .i64 y.a, .int .i64 y.b, .bool y.same, .int .i64 y.time] 24)).heap.size ≤ x := fun x hx => Nat.le_trans hW.size (n7.2 x hx)
    replace n7 := n7.1
    replace hW := hW.trans x7
    replace o3 := o3.ext x7
    replace o4 := o4.ext x7
    replace o5 := o5.ext x7
    clear x7
    go_wp2_with fail
    refine (eqVerdictS_c _ _ x x _ o4.sl o7.sl).mono ?_
    rintro e w8 ⟨rfl, x8⟩
    rw [eqB_self]
    replace hW := hW.trans x8
    replace o3 := o3.ext x8
    replace o4 := o4.ext x8
    replace o5 := o5.ext x8
    replace o7 := o7.ext x8
    clear x8
    have hc0 := cntVerdictS_le x
    go_wp2_with fail
    refine (markVerdictS_c _ x F4 1 _ o4 n4 (by omega) (by have := HS0; omega)).mono ?_
    rintro e w9 ⟨ys4, rfl, p9, mk4, ch9⟩
    replace o3 := ch9.keepSl d3_4 o3
    replace o5 := ch9.keepSl d4_5.symm o5
    replace hW := ch9.ext b4 hW
    clear o4 ch9
    have o4 := p9
    clear p9
    obtain ⟨K9, hK9⟩ : ∃ K, K = 1 + (((lstMk verdictMk).cnt x : Nat) : Int) := ⟨_, rfl⟩
    rw [← hK9]
    have hk9 : 0 ≤ K9 ∧ K9 ≤ 4194305 := by have := HS0; omega
    clear hK9 hc0 mk4
    go_wp2_with fail
    refine (eqVerdictS_c _ _ (addV x y).1 (addV x y).1 _ o5.sl o3.sl).mono ?_
    rintro e w10 ⟨rfl, x10⟩
    rw [eqB_self]
    replace hW := hW.trans x10
    replace o3 := o3.ext x10
    replace o5 := o5.ext x10
    clear x10
    go_wp2_with fail
    refine (markVerdictS_c _ (addV x y).1 F5 1 _ o5 n5 (by omega) (by have := HBD.out; omega)).mono ?_
    rintro e w11 ⟨ys5, rfl, p11, mk5, ch11⟩
    replace o3 := ch11.keepSl d3_5 o3
    replace hW := ch11.ext b5 hW
    clear o5 ch11
    have o5 := p11
    clear p11
    obtain ⟨K11, hK11⟩ : ∃ K, K = 1 + (((lstMk verdictMk).cnt (addV x y).1 : Nat) : Int) := ⟨_, rfl⟩
    rw [← hK11]
    have hk11 : 0 ≤ K11 := by omega
    have HK11 := hid hK11
    clear hK11
    go_wp2_with fail
    refine (heldVerdictS_c _ (addV x y).1 ys5 1 _ o5.sl mk5 (by omega) (by have := HBD.out; omega)).mono ?_
    rintro e w12 ⟨rfl, rfl⟩
    rw [← HK11.out]
    go_wp2_with fail
    go_region_held3 (fun w' => w'.cell? ⟨w.heap.size, 0, none⟩ = some (.int .i64 y.a) ∧ w'.cell? ⟨w.heap.size, 1, none⟩ = some (.int .i64 y.b) ∧ w'.cell? ⟨w.heap.size, 2, none⟩ = some (.bool y.same) ∧ w'.cell? ⟨w.heap.size, 3, none⟩ = some (.int .i64 y.time)) (exact HBX.out _ (by repeat (first | with_reducible exact Ext.refl _ | with_reducible assumption | with_reducible refine Ext.drew ?_ | with_reducible refine Ext.alloc ?_ _ | with_reducible refine Ext.trans ?_ (by with_reducible assumption)))) (first | (go_at_call 7; refine (toVerdictS_c _ x _ ?hr HS0).mono ?_; (case hr => exact h0.mono (by repeat (first | with_reducible exact Ext.refl _ | with_reducible assumption | with_reducible refine Ext.drew ?_ | with_reducible refine Ext.alloc ?_ _ | with_reducible refine Ext.trans ?_ (by with_reducible assumption)))); rintro e wa ⟨va, Fa, rfl, oa, na, xa⟩) | (go_at_call 8; refine (toVerdict_c y.a y.b y.same y.time _).mono ?_; rintro e wb ⟨rfl, xb⟩) | (go_at_call 14; refine (impl_AddVerdict _ x y _ ?hs HS0).mono ?_; (case hs => exact (oa.ext (by repeat (first | with_reducible exact Ext.refl _ | with_reducible assumption | with_reducible refine Ext.drew ?_ | with_reducible refine Ext.alloc ?_ _ | with_reducible refine Ext.trans ?_ (by with_reducible assumption)))).sl); rintro e w14 ⟨v14m, F14, rfl, o14, n14, x14⟩))
    replace hW := hW.trans (Ext.refl _).drew
    have xab := xa.trans xb
    replace hW := hW.trans xab
    replace o3 := (o3.ext (Ext.refl _).drew).ext xab
    replace o5 := (o5.ext (Ext.refl _).drew).ext xab
    clear xa xb xab oa na
    have d3_14 : Dis F3 F14 := Dis.new o3.lt n14
    have d5_14 : Dis F5 F14 := Dis.new o5.lt n14
    have b14 : ∀ x ∈ F14, (w.alloc (.cells #[.int .i64 y.a, .int .i64 y.b, .bool y.same, .int .i64 y.time] 24)).heap.size ≤ x := fun x hx => Nat.le_trans hW.size (n14.2 x hx)
    replace n14 := n14.1
    replace hW := hW.trans x14
    replace o3 := o3.ext x14
    replace o5 := o5.ext x14
    clear x14
    go_wp2_with fail
    refine (eqVerdictS_c _ _ (addV x y).1 (addV x y).1 _ o14.sl o3.sl).mono ?_
    rintro e w15 ⟨rfl, x15⟩
    rw [eqB_self]
    replace hW := hW.trans x15
    replace o3 := o3.ext x15
    replace o5 := o5.ext x15
    replace o14 := o14.ext x15
    clear x15
    go_wp2_with fail
    refine (heldVerdictS_c _ (addV x y).1 ys5 1 _ o5.sl mk5 (by omega) (by have := HBD.out; omega)).mono ?_
    rintro e w16 ⟨rfl, rfl⟩
    rw [← HK11.out]
    go_wp2
    go_ret
    exact ⟨rfl, xw0.trans hW⟩
end Go.Proofs.Ytblggajfdhjmjaa

