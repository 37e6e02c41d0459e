/-
  THE LAW'S WALK: FnStore.
-/
import Derived.Test.YtfcbapaojoecgaaGreatMgEndFnSto4
import Derived.Test.YtfcbapaojoecgaaGreatMgEndFnSto0
import Derived.Test.YtfcbapaojoecgaaGreatMgEndFnSto2
import Derived.Deep.Cut

namespace Go.Proofs.YtfcbapaojoecgaaGreat
open Go.RowKit

theorem StoOwn.form2 {w : World} {v : Value} {s : Store} {F : List Nat} (h : StoOwn w v s F) : ∃ A c A2 c2, v = .agg #[.int .i64 s.version, .slice A s.records.length c, .slice A2 s.verdicts.length c2] := by
  obtain ⟨r, d, F1, F2, rfl, _, hr, hd, _⟩ := h
  obtain ⟨A, c, rfl, _⟩ := hr.form
  obtain ⟨A2, c2, rfl, _⟩ := hd.form
  exact ⟨A, c, A2, c2, rfl⟩
/-- a struct variable that holds a store of new rows -/
def BoxIs2 (w2 wx : World) (p : Value) (s : Store) : Prop := ∃ g v1 v2 F, p = .pointer (some ⟨g, 0, none⟩) ∧ Blk wx g 34 [.int .i64 s.version, v1, v2] ∧ StoOwn wx (.agg #[.int .i64 s.version, v1, v2]) s F ∧ NewF w2 F ∧ w2.heap.size ≤ g ∧ g ∉ F ∧ Ext w2 wx
theorem lawboxA {w2 w3 : World} {v1 v2 : Value} {s : Store} {F : List Nat} (o : StoOwn w3 (.agg #[.int .i64 s.version, v1, v2]) s F) (n : NewF w2 F) (x : Ext w2 w3) :
    BoxIs2 w2 (w3.alloc (.cells #[.int .i64 s.version, v1, v2] 34)) (.pointer (some ⟨w3.heap.size, 0, none⟩)) s :=
  ⟨_, v1, v2, F, rfl, Blk.new w3 34 #[.int .i64 s.version, v1, v2], o.ext ((Ext.refl w3).alloc _), n, x.size, fun hm => by have := o.lt _ hm; omega, x.alloc _⟩
theorem lawboxB {w2 w3 : World} {g : Nat} {v1 v2 a b c : Value} {s : Store} {F : List Nat} (o : StoOwn w3 (.agg #[.int .i64 s.version, v1, v2]) s F) (b8 : Blk w3 g 34 [a, b, c]) (hg : w2.heap.size ≤ g) (hF : g ∉ F) (n : NewF w2 F) (x : Ext w2 w3) :
    BoxIs2 w2 (((w3.setCell ⟨g, 0, none⟩ (.int .i64 s.version)).setCell ⟨g, 1, none⟩ v1).setCell ⟨g, 2, none⟩ v2) (.pointer (some ⟨g, 0, none⟩)) s :=
  ⟨g, v1, v2, F, rfl, Blk.store3 b8 _ _ _, o.keep fun b9 hb9 => (Kp.store3 g 0 (.int .i64 s.version) v1 v2 w3).2 b9 (o.lt b9 hb9) fun e => hF (e ▸ hb9), n, hg, hF, Ext.store3 x hg _ _ _⟩

theorem szr_of {s : Store} (h : stoP s) : SzR s.records ∧ s.verdicts.length ≤ 1048576 := ⟨⟨by have := h.1; omega, h.2.2⟩, by have := h.2.1; omega⟩
set_option maxHeartbeats 8000000 in
set_option maxRecDepth 20000 in
theorem law_FnStore (v : Value) (bs : List Int) (w : World) (h : Sl u8R w v bs) :
    Calls Tryz.prog 5 #[v] w fun e w2 => e = .returned (.bool true) ∧ Ext w w2 := by
  obtain ⟨A, cap, rfl, hm⟩ := h.form
  go_enter Tryz.func5, Tryz.ntmps5
  go_wp2_with fail
  refine (laws_big _ bs _ h).mono ?_
  rintro e w1 ⟨rfl, rfl⟩
  by_cases hbig : 1048576 < bs.length
  · rw [decide_eq_true hbig]
    go_wp2
    go_ret
    exact ⟨rfl, Ext.refl _⟩
  · rw [decide_eq_false hbig]
    clear hbig
    go_wp2_with fail
    refine (spec_DrawApplyBatch _ _ bs h).mono ?_
    rintro e w2 ⟨rv, vv, bv, s, b, rfl, hsA, hbA, ⟨hP, hLB⟩, x2⟩
    have HLB := hid hLB
    clear hLB
    obtain ⟨rv0, vv0, e9, hIs, hr9, hv9⟩ := hsA
    injection e9 with e9
    injection e9 with e9
    simp only [List.cons.injEq, and_true, true_and] at e9
    obtain ⟨e9a, e9b⟩ := e9
    subst e9a
    subst e9b
    obtain ⟨As, cs, e9, _⟩ := hr9.form
    subst e9
    obtain ⟨Bs, ds, e9, _⟩ := hv9.form
    subst e9
    obtain ⟨Ab, cb, e9, _⟩ := hbA.form
    subst e9
    obtain ⟨gs, hgs⟩ : ∃ g, g = w2.heap.size := ⟨_, rfl⟩
    obtain ⟨gb, hgb⟩ : ∃ g, g = w2.heap.size + 1 := ⟨_, rfl⟩
    have y2 : Ext w2 ((w2.alloc (.cells #[.int .i64 s.version, .slice As s.records.length cs, .slice Bs s.verdicts.length ds] 34)).alloc (.cells #[.slice Ab b.ops.length cb] 40)) := ((Ext.refl w2).alloc _).alloc _
    have bS := (Blk.new w2 34 #[.int .i64 s.version, .slice As s.records.length cs, .slice Bs s.verdicts.length ds]).ext ((Ext.refl _).alloc (.cells #[.slice Ab b.ops.length cb] 40))
    have bB : Blk ((w2.alloc (.cells #[.int .i64 s.version, .slice As s.records.length cs, .slice Bs s.verdicts.length ds] 34)).alloc (.cells #[.slice Ab b.ops.length cb] 40)) (w2.heap.size + 1) 40 [.slice Ab b.ops.length cb] := by
      have := Blk.new (w2.alloc (.cells #[.int .i64 s.version, .slice As s.records.length cs, .slice Bs s.verdicts.length ds] 34)) 40 #[.slice Ab b.ops.length cb]
      rwa [World.size_alloc] at this
    obtain ⟨W3, hW3⟩ : ∃ W, W = (w2.alloc (.cells #[.int .i64 s.version, .slice As s.records.length cs, .slice Bs s.verdicts.length ds] 34)).alloc (.cells #[.slice Ab b.ops.length cb] 40) := ⟨_, rfl⟩
    rw [← hW3, ← hgs] at bS
    rw [← hW3, ← hgb] at bB
    rw [← hW3] at y2
    have HB := hid (show ∀ W, Ext W3 W → (W.cell? ⟨gs, 0, none⟩ = some (.int .i64 s.version) ∧ W.cell? ⟨gs, 1, none⟩ = some (.slice As s.records.length cs) ∧ W.cell? ⟨gs, 2, none⟩ = some (.slice Bs s.verdicts.length ds)) ∧ W.cell? ⟨gb, 0, none⟩ = some (.slice Ab b.ops.length cb) from fun W y => ⟨⟨(bS.ext y).cells.1 0, (bS.ext y).cells.1 1, (bS.ext y).cells.1 2⟩, (bB.ext y).cells.1 0⟩)
    have HSA := hid (show ∀ W, Ext W3 W → StoAt W (.agg #[.int .i64 s.version, .slice As s.records.length cs, .slice Bs s.verdicts.length ds]) s from fun W y => ⟨_, _, rfl, hIs, (hr9.mono y2).mono y, (hv9.mono y2).mono y⟩)
    have HBA := hid (show ∀ W, Ext W3 W → BatAt W (.agg #[.slice Ab b.ops.length cb]) b from fun W y => ⟨_, rfl, trivial, (hbA.mono y2).mono y⟩)
    have HSZ := hid (szr_of hP)
    have HX := hid (x2.trans y2)
    have HH := hid h
    clear hr9 hv9 hbA hP x2 y2 bS bB hIs h
    obtain ⟨⟨c0, c1, c2⟩, c3⟩ := HB.out _ (Ext.refl _)
    rw [hW3, hgs] at c0 c1 c2
    rw [hW3, hgb] at c3
    go_wp2_with fail
    rw [← hW3, ← hgb, ← hgs]
    clear c0 c1 c2 c3 hW3 hgs hgb
    refine (impl_ApplyBatch2 _ _ s b _ (HSA.out _ (Ext.refl _)) (HBA.out _ (Ext.refl _)) HSZ.out.1 HSZ.out.2).mono ?_
    rintro e w4 ⟨rv, vv, F, rfl, R, hI, x4⟩
    obtain ⟨r, hr⟩ : ∃ r, r = appB s b := ⟨_, rfl⟩
    rw [← hr] at R hI ⊢
    have HR := hid hr
    clear hr
    obtain ⟨rs, rb⟩ := r
    dsimp only at R hI ⊢
    have hrb : (rb != rb) = false := by simp
    obtain ⟨F4, o4, _, _⟩ := R.own hI
    obtain ⟨A4, q4, B4, p4, e9⟩ := o4.form2
    injection e9 with e9
    injection e9 with e9
    simp only [List.cons.injEq, and_true, true_and] at e9
    obtain ⟨e9a, e9b⟩ := e9
    subst e9a
    subst e9b
    clear R
    have bX := Blk.new w4 34 #[.int .i64 rs.version, .slice A4 rs.records.length q4, .slice B4 rs.verdicts.length p4]
    have y4 : Ext w4 (w4.alloc (.cells #[.int .i64 rs.version, .slice A4 rs.records.length q4, .slice B4 rs.verdicts.length p4] 34)) := (Ext.refl w4).alloc _
    have o4b := o4.at_.mono y4
    have x04 := x4.trans y4
    obtain ⟨⟨c0, c1, c2⟩, c3⟩ := HB.out _ x04
    clear o4 x4 y4 hI
    go_wp2_with fail
    refine (spec_ApplyBatch2 _ _ s b _ (HSA.out _ x04) (HBA.out _ x04) HSZ.out.1 HSZ.out.2).mono ?_
    rintro e w5 ⟨rv, vv, F, rfl, R, hI, x5⟩
    rw [← HR.out] at R hI ⊢
    dsimp only at R hI ⊢
    obtain ⟨F5, o5, _, _⟩ := R.own hI
    obtain ⟨A5, q5, B5, p5, e9⟩ := o5.form2
    injection e9 with e9
    injection e9 with e9
    simp only [List.cons.injEq, and_true, true_and] at e9
    obtain ⟨e9a, e9b⟩ := e9
    subst e9a
    subst e9b
    clear R
    have bY := Blk.new w5 34 #[.int .i64 rs.version, .slice A5 rs.records.length q5, .slice B5 rs.verdicts.length p5]
    have y5 : Ext w5 (w5.alloc (.cells #[.int .i64 rs.version, .slice A5 rs.records.length q5, .slice B5 rs.verdicts.length p5] 34)) := (Ext.refl w5).alloc _
    have o5b := o5.at_.mono y5
    have x45 := x5.trans y5
    have x05 := x04.trans x45
    have bX5 := bX.ext x45
    have o4c := o4b.mono x45
    obtain ⟨d0, d1, d2⟩ := (⟨bX5.cells.1 0, bX5.cells.1 1, bX5.cells.1 2⟩ : _ ∧ _ ∧ _)
    obtain ⟨f0, f1, f2⟩ := (⟨bY.cells.1 0, bY.cells.1 1, bY.cells.1 2⟩ : _ ∧ _ ∧ _)
    clear c0 c1 c2 c3 bX o4b o5 x5 y5 hI x45 x04
    go_wp2_with fail
    refine (impl_EqualStores _ _ rs rs _ o4c o5b).mono ?_
    rintro e w6 ⟨rfl, x6⟩
    rw [eqB_self]
    have x06 := x05.trans x6
    have bX6 := bX5.ext x6
    have o46 := o4c.mono x6
    clear d0 d1 d2 f0 f1 f2 bY o5b bX5 o4c x05 x6
    have HK := hid (show ∀ W, Ext w6 W → (W.cell? ⟨gs, 0, none⟩ = some (.int .i64 s.version) ∧ W.cell? ⟨gs, 1, none⟩ = some (.slice As s.records.length cs) ∧ W.cell? ⟨gs, 2, none⟩ = some (.slice Bs s.verdicts.length ds)) ∧ W.cell? ⟨gb, 0, none⟩ = some (.slice Ab b.ops.length cb) from fun W y => HB.out _ (x06.trans y))
    have HSA6 := hid (fun (W : World) (y : Ext w6 W) => HSA.out W (x06.trans y))
    have HBA6 := hid (fun (W : World) (y : Ext w6 W) => HBA.out W (x06.trans y))
    go_upto_region 8 with fail
    go_cut [9, 10] from 46 (fun p q wx => BoxIs2 w6 wx p rs ∧ q = .bool rb)
    case first =>
      go_region_held3 (fun w' => (w'.cell? ⟨gs, 0, none⟩ = some (.int .i64 s.version) ∧ w'.cell? ⟨gs, 1, none⟩ = some (.slice As s.records.length cs) ∧ w'.cell? ⟨gs, 2, none⟩ = some (.slice Bs s.verdicts.length ds)) ∧ w'.cell? ⟨gb, 0, none⟩ = some (.slice Ab b.ops.length cb))
        (exact HK.out _ (by repeat (first | with_reducible exact Ext.refl _ | with_reducible assumption | with_reducible refine Ext.drew ?_ | with_reducible refine Ext.alloc ?_ _ | (refine Ext.setCell ?_ (by first | (simp; done) | omega | (simp; omega)) _) | with_reducible refine Ext.trans ?_ (by with_reducible assumption))))
        (first | (go_at_call 26; refine (laws_turned _ b _ ?hb HLB.out).mono ?_; (case hb => exact HBA6.out _ (by repeat (first | with_reducible exact Ext.refl _ | with_reducible assumption | with_reducible refine Ext.drew ?_ | with_reducible refine Ext.alloc ?_ _ | (refine Ext.setCell ?_ (by first | (simp; done) | omega | (simp; omega)) _) | with_reducible refine Ext.trans ?_ (by with_reducible assumption)))); rintro e wa ⟨va, rfl, ha, xa⟩; obtain ⟨Aa, ca, ea, _⟩ := ha.form; subst ea; have sa := xa.size; (try simp at sa)) | (go_at_call 11; refine (impl_ApplyBatch2 _ _ s (revB b) _ ?ha ?hb HSZ.out.1 HSZ.out.2).mono ?_; (case ha => exact HSA6.out _ (by repeat (first | with_reducible exact Ext.refl _ | with_reducible assumption | with_reducible refine Ext.drew ?_ | with_reducible refine Ext.alloc ?_ _ | (refine Ext.setCell ?_ (by first | (simp; done) | omega | (simp; omega)) _) | with_reducible refine Ext.trans ?_ (by with_reducible assumption)))); (case hb => exact ⟨_, rfl, trivial, ha.mono (by repeat (first | with_reducible exact Ext.refl _ | with_reducible assumption | with_reducible refine Ext.drew ?_ | with_reducible refine Ext.alloc ?_ _ | (refine Ext.setCell ?_ (by first | (simp; done) | omega | (simp; omega)) _) | with_reducible refine Ext.trans ?_ (by with_reducible assumption)))⟩); rintro e wz ⟨rv, vv, F, rfl, R, hIr, xc⟩; rw [appB_rev, ← HR.out] at R hIr; rw [appB_rev, ← HR.out]; dsimp only at R hIr; dsimp only; have sc := xc.size; (try simp at sc); obtain ⟨F9, o9, n9, l9⟩ := R.own hIr; obtain ⟨Ar, cr, er, _⟩ := R.r.sl.form; subst er; obtain ⟨Av, cv, ev, _⟩ := R.v.sl.form; subst ev; clear R; (first | (refine (fun (x8 : Ext (w6.alloc (.cells #[.int .i64 0, .slice none 0 0, .slice none 0 0] 34)) wz) => ?_) ?_; rotate_left; (focus ((repeat (first | with_reducible exact Ext.refl _ | with_reducible assumption | with_reducible refine Ext.drew ?_ | with_reducible refine Ext.alloc ?_ _ | with_reducible refine Ext.trans ?_ (by with_reducible assumption))); done)); have b8 := (Blk.new w6 34 #[.int .i64 0, .slice none 0 0, .slice none 0 0]).ext x8; have c80 : wz.cell? ⟨w6.heap.size, 0, none⟩ = some (.int .i64 0) := b8.cells.1 0; have c81 : wz.cell? ⟨w6.heap.size, 1, none⟩ = some (.slice none 0 0) := b8.cells.1 1; have c82 : wz.cell? ⟨w6.heap.size, 2, none⟩ = some (.slice none 0 0) := b8.cells.1 2; have f8 : ∀ i, wz.frozen? ⟨w6.heap.size, i, none⟩ = false := b8.cells.2) | (refine (fun (x8 : Ext (wa.alloc (.cells #[.int .i64 0, .slice none 0 0, .slice none 0 0] 34)) wz) => ?_) ?_; rotate_left; (focus ((repeat (first | with_reducible exact Ext.refl _ | with_reducible assumption | with_reducible refine Ext.drew ?_ | with_reducible refine Ext.alloc ?_ _ | with_reducible refine Ext.trans ?_ (by with_reducible assumption))); done)); have b8 := (Blk.new wa 34 #[.int .i64 0, .slice none 0 0, .slice none 0 0]).ext x8; have c80 : wz.cell? ⟨wa.heap.size, 0, none⟩ = some (.int .i64 0) := b8.cells.1 0; have c81 : wz.cell? ⟨wa.heap.size, 1, none⟩ = some (.slice none 0 0) := b8.cells.1 1; have c82 : wz.cell? ⟨wa.heap.size, 2, none⟩ = some (.slice none 0 0) := b8.cells.1 2; have f8 : ∀ i, wz.frozen? ⟨wa.heap.size, i, none⟩ = false := b8.cells.2) | skip)))
      all_goals
        go_wp2_with fail
        go_meet
        first
          | exact ⟨lawboxB o9 b8 (by first | omega | (simp; omega)) (fun hm => by have h1 := l9 _ hm; (try simp at h1); omega) ⟨n9, fun b9 hb9 => by have h1 := l9 b9 hb9; (try simp at h1); omega⟩ (by repeat (first | with_reducible exact Ext.refl _ | with_reducible assumption | with_reducible refine Ext.drew ?_ | with_reducible refine Ext.alloc ?_ _ | (refine Ext.setCell ?_ (by first | (simp; done) | omega | (simp; omega)) _) | with_reducible refine Ext.trans ?_ (by with_reducible assumption))), rfl⟩
          | exact ⟨lawboxA o9 ⟨n9, fun b9 hb9 => by have h1 := l9 b9 hb9; (try simp at h1); omega⟩ (by repeat (first | with_reducible exact Ext.refl _ | with_reducible assumption | with_reducible refine Ext.drew ?_ | with_reducible refine Ext.alloc ?_ _ | (refine Ext.setCell ?_ (by first | (simp; done) | omega | (simp; omega)) _) | with_reducible refine Ext.trans ?_ (by with_reducible assumption))), rfl⟩
    case' rest => skip
    rename_i wd
    obtain ⟨⟨gH, r5, d5, F5, rfl, bH, o5, _, _, _, x7⟩, rfl⟩ := hcut
    have bX7 := bX6.ext x7
    have o47 := o46.mono x7
    have x07 := x06.trans x7
    have o57 := o5.at_
    obtain ⟨d0, d1, d2⟩ := (⟨bX7.cells.1 0, bX7.cells.1 1, bX7.cells.1 2⟩ : _ ∧ _ ∧ _)
    obtain ⟨f0, f1, f2⟩ := (⟨bH.cells.1 0, bH.cells.1 1, bH.cells.1 2⟩ : _ ∧ _ ∧ _)
    clear bX6 o46 x06 x7 HK HSA6 HBA6 o5
    go_wp2_with fail
    refine (impl_EqualStores _ _ rs rs _ o47 o57).mono ?_
    rintro e w8 ⟨rfl, x8⟩
    rw [eqB_self]
    have x08 := x07.trans x8
    have bX8 := bX7.ext x8
    have o48 := o47.mono x8
    have HO48 := hid o48
    clear d0 d1 d2 f0 f1 f2 bH o57 bX7 o47 x07 x8
    cases rb with
    | false =>
      have x8w := HX.out.trans x08
      go_wp2_with fail
      refine (spec_DrawReplayBatches _ _ bs (HH.out.mono x8w)).mono ?_
      rintro e w20 ⟨v1, xs, rfl, hXS, hlx, x20⟩
      obtain ⟨A20, c20, e9, _⟩ := hXS.form
      subst e9
      go_wp2_with fail
      refine (impl_ReplayBatches _ xs _ hXS (by omega)).mono ?_
      rintro e w21 ⟨rv, vv, F, rfl, R, hI, x21⟩
      have hrok := repB_ok xs
      obtain ⟨u, hu⟩ : ∃ u, u = repB xs := ⟨_, rfl⟩
      rw [← hu] at R hI hrok ⊢
      have HU := hid hu
      clear hu
      obtain ⟨us, un⟩ := u
      dsimp only at R hI hrok ⊢
      have HOK := hid hrok.1
      have hver : (us.version == (un : Int)) = true := by rw [hrok.2]; simp
      clear hrok
      obtain ⟨F21, o21, _, _⟩ := R.own hI
      obtain ⟨A21, q21, B21, p21, e9⟩ := o21.form2
      injection e9 with e9
      injection e9 with e9
      simp only [List.cons.injEq, and_true, true_and] at e9
      obtain ⟨e9a, e9b⟩ := e9
      subst e9a
      subst e9b
      clear R
      have bU := Blk.new w21 34 #[.int .i64 us.version, .slice A21 us.records.length q21, .slice B21 us.verdicts.length p21]
      have y21 : Ext w21 (w21.alloc (.cells #[.int .i64 us.version, .slice A21 us.records.length q21, .slice B21 us.verdicts.length p21] 34)) := (Ext.refl w21).alloc _
      have o21b := o21.at_.mono y21
      have x21b := x21.trans y21
      have hXS1 := hXS.mono x21b
      clear o21 x21 y21 hI
      go_wp2_with fail
      refine (spec_ReplayBatches _ xs _ hXS1 (by omega)).mono ?_
      rintro e w22 ⟨rv, vv, F, rfl, R, hI, x22⟩
      rw [← HU.out] at R hI ⊢
      dsimp only at R hI ⊢
      obtain ⟨F22, o22, _, _⟩ := R.own hI
      obtain ⟨A22, q22, B22, p22, e9⟩ := o22.form2
      injection e9 with e9
      injection e9 with e9
      simp only [List.cons.injEq, and_true, true_and] at e9
      obtain ⟨e9a, e9b⟩ := e9
      subst e9a
      subst e9b
      clear R
      have bV := Blk.new w22 34 #[.int .i64 us.version, .slice A22 us.records.length q22, .slice B22 us.verdicts.length p22]
      have y22 : Ext w22 (w22.alloc (.cells #[.int .i64 us.version, .slice A22 us.records.length q22, .slice B22 us.verdicts.length p22] 34)) := (Ext.refl w22).alloc _
      have o22b := o22.at_.mono y22
      have x22b := x22.trans y22
      have bU2 := bU.ext x22b
      have oU2 := o21b.mono x22b
      have xall := (x8w.trans x20).trans (x21b.trans x22b)
      obtain ⟨d0, d1, d2⟩ := (⟨bU2.cells.1 0, bU2.cells.1 1, bU2.cells.1 2⟩ : _ ∧ _ ∧ _)
      clear o22 x22 y22 hI bU o21b hXS hXS1 x20 x21b x22b
      go_wp2_with fail
      refine (impl_StoreItems _ us _ oU2).mono ?_
      rintro e w23 ⟨v3, F3, rfl, oI, _, x23⟩
      rw [show itemsOf us = us.records.map recID by unfold itemsOf; rw [if_pos HOK.out]] at oI
      obtain ⟨its, hits⟩ : ∃ l, l = us.records.map recID := ⟨_, rfl⟩
      rw [← hits] at oI
      have HIT := hid (show ∀ k (h : k < its.length), ∃ h2 : k < us.records.length, its[k] = recID us.records[k] from fun k h => by
        subst hits
        rw [List.length_map] at h
        exact ⟨h, List.getElem_map ..⟩)
      have HASC := hid ((okSto_all HOK.out).1.1)
      clear hits d0 d1 d2
      have bU3 := bU2.ext x23
      have oU3 := oU2.mono x23
      have bV3 := bV.ext x23
      have oV3 := o22b.mono x23
      have xall3 := xall.trans x23
      have hIT := oI.sl
      obtain ⟨AI, cI, e9, _⟩ := hIT.form
      subst e9
      clear bU2 oU2 bV o22b xall x23 oI
      go_wp2_with fail
      go_loopw [17] (fun i wr => ∃ k : Nat, k ≤ its.length ∧ i = .int .i64 k ∧ Ext w23 wr) (fun i _ => its.length - (intOf i).toNat)
      case atStart => exact ⟨0, Nat.zero_le _, rfl, Ext.refl _⟩
      case round =>
        obtain ⟨k, hk, rfl, hx⟩ := hrel
        have bU4 := bU3.ext hx
        by_cases hlt : k < its.length
        · obtain ⟨b2, off2, eA, hI6, hc⟩ := (hIT.mono hx).int hlt
          subst eA
          have HFND := hid (show ∀ W, Ext wr W → Calls Tryz.prog 30 #[.agg #[.int .i64 us.version, .slice A21 us.records.length q21, .slice B21 us.verdicts.length p21], .int .i64 its[k]] W fun e w2 => e = .returned (.int .i64 k) ∧ Ext W w2 from fun W y => by
            obtain ⟨h2, e2⟩ := HIT.out k hlt
            have h3 := impl_FindRecord _ us its[k] W ((oU3.mono hx).mono y) hI6
            have e3 : findR us its[k] = (k : Int) := by
              rw [e2]
              exact find_self HASC.out k h2
            rw [e3] at h3
            exact h3)
          have z0 : ∀ z : ExtOf wr, z.1.cell? ⟨b2, off2 + k, none⟩ = _ := fun z => z.2.cell hc
          have z1 : ∀ z : ExtOf wr, z.1.cell? ⟨w21.heap.size, 0, none⟩ = _ := fun z => (bU4.ext z.2).cells.1 0
          have z2 : ∀ z : ExtOf wr, z.1.cell? ⟨w21.heap.size, 1, none⟩ = _ := fun z => (bU4.ext z.2).cells.1 1
          have z3 : ∀ z : ExtOf wr, z.1.cell? ⟨w21.heap.size, 2, none⟩ = _ := fun z => (bU4.ext z.2).cells.1 2
          clear hc hI6
          go_wp2_with fail
          refine wp_region_ext (by kernel_rfl) (by kernel_rfl) ?_
          repeat (go_big_quiet_step (((go_at_call 30; exact quiet_ext (HFND.out _ (Subtype.property _))))))
          refine wpQuiet_nil ?_
          rintro w20 ⟨⟨_, x20⟩, rfl⟩
          clear z0 z1 z2 z3
          go_wp2
          go_roundw
          case rel => exact ⟨k + 1, by omega, by go_num, hx.trans x20⟩
          case measure => simp [intOf]; omega
        · have bV4 := bV3.ext hx
          obtain ⟨d0, d1, d2⟩ := (⟨bU4.cells.1 0, bU4.cells.1 1, bU4.cells.1 2⟩ : _ ∧ _ ∧ _)
          obtain ⟨f0, f1, f2⟩ := (⟨bV4.cells.1 0, bV4.cells.1 1, bV4.cells.1 2⟩ : _ ∧ _ ∧ _)
          go_wp2_with fail
          refine (impl_EqualStores _ _ us us _ (oU3.mono hx) (oV3.mono hx)).mono ?_
          rintro e w24 ⟨rfl, x24⟩
          rw [eqB_self]
          have bU5 := bU4.ext x24
          have g0 := bU5.cells.1 0
          clear d0 d1 d2 f0 f1 f2
          go_wp2
          go_ret
          exact ⟨rfl, xall3.trans (hx.trans x24)⟩
    | true =>
      have hvr := appB_ver (s := s) (b := b) (by rw [← HR.out])
      rw [← HR.out] at hvr
      dsimp only at hvr
      obtain ⟨hv1, hv2⟩ := hvr
      obtain ⟨_, _, _, hI8, _, _⟩ := o48
      have o48 : StoAt w8 (.agg #[.int .i64 rs.version, .slice A4 rs.records.length q4, .slice B4 rs.verdicts.length p4]) rs := HO48.out
      have a1 : IntKind.i64.wrap (s.version + 1) = s.version + 1 := by rw [← hv1, IntKind.wrap_i64]; unfold I64 at hI8; omega
      have a2 : (rs.version != s.version + 1) = false := by simp [hv1]
      have a3 : -9223372036854775808 ≤ s.version + 1 ∧ s.version + 1 ≤ 9223372036854775807 := by rw [← hv1]; unfold I64 at hI8; omega
      obtain ⟨a4, a5⟩ := a3
      obtain ⟨d0, d1, d2⟩ := (⟨bX8.cells.1 0, bX8.cells.1 1, bX8.cells.1 2⟩ : _ ∧ _ ∧ _)
      obtain ⟨⟨c0, c1, c2⟩, c3⟩ := HB.out _ x08
      have HV2 := hid hv2
      have HV1 := hid hv1
      clear hv1 hv2 hI8
      go_wp2_with fail
      refine (impl_IsValidStore _ rs _ o48).mono ?_
      rintro e w9 ⟨rfl, x9⟩
      rw [HV2.out]
      have x9w := HX.out.trans (x08.trans x9)
      clear d0 d1 d2 c0 c1 c2 c3 a1 a2 a4 a5 o48
      go_wp2_with fail
      refine (spec_DrawReplayBatches _ _ bs (HH.out.mono x9w)).mono ?_
      rintro e w20 ⟨v1, xs, rfl, hXS, hlx, x20⟩
      obtain ⟨A20, c20, e9, _⟩ := hXS.form
      subst e9
      go_wp2_with fail
      refine (impl_ReplayBatches _ xs _ hXS (by omega)).mono ?_
      rintro e w21 ⟨rv, vv, F, rfl, R, hI, x21⟩
      have hrok := repB_ok xs
      obtain ⟨u, hu⟩ : ∃ u, u = repB xs := ⟨_, rfl⟩
      rw [← hu] at R hI hrok ⊢
      have HU := hid hu
      clear hu
      obtain ⟨us, un⟩ := u
      dsimp only at R hI hrok ⊢
      have HOK := hid hrok.1
      have hver : (us.version == (un : Int)) = true := by rw [hrok.2]; simp
      clear hrok
      obtain ⟨F21, o21, _, _⟩ := R.own hI
      obtain ⟨A21, q21, B21, p21, e9⟩ := o21.form2
      injection e9 with e9
      injection e9 with e9
      simp only [List.cons.injEq, and_true, true_and] at e9
      obtain ⟨e9a, e9b⟩ := e9
      subst e9a
      subst e9b
      clear R
      have bU := Blk.new w21 34 #[.int .i64 us.version, .slice A21 us.records.length q21, .slice B21 us.verdicts.length p21]
      have y21 : Ext w21 (w21.alloc (.cells #[.int .i64 us.version, .slice A21 us.records.length q21, .slice B21 us.verdicts.length p21] 34)) := (Ext.refl w21).alloc _
      have o21b := o21.at_.mono y21
      have x21b := x21.trans y21
      have hXS1 := hXS.mono x21b
      clear o21 x21 y21 hI
      go_wp2_with fail
      refine (spec_ReplayBatches _ xs _ hXS1 (by omega)).mono ?_
      rintro e w22 ⟨rv, vv, F, rfl, R, hI, x22⟩
      rw [← HU.out] at R hI ⊢
      dsimp only at R hI ⊢
      obtain ⟨F22, o22, _, _⟩ := R.own hI
      obtain ⟨A22, q22, B22, p22, e9⟩ := o22.form2
      injection e9 with e9
      injection e9 with e9
      simp only [List.cons.injEq, and_true, true_and] at e9
      obtain ⟨e9a, e9b⟩ := e9
      subst e9a
      subst e9b
      clear R
      have bV := Blk.new w22 34 #[.int .i64 us.version, .slice A22 us.records.length q22, .slice B22 us.verdicts.length p22]
      have y22 : Ext w22 (w22.alloc (.cells #[.int .i64 us.version, .slice A22 us.records.length q22, .slice B22 us.verdicts.length p22] 34)) := (Ext.refl w22).alloc _
      have o22b := o22.at_.mono y22
      have x22b := x22.trans y22
      have bU2 := bU.ext x22b
      have oU2 := o21b.mono x22b
      have xall := (x9w.trans x20).trans (x21b.trans x22b)
      obtain ⟨d0, d1, d2⟩ := (⟨bU2.cells.1 0, bU2.cells.1 1, bU2.cells.1 2⟩ : _ ∧ _ ∧ _)
      clear o22 x22 y22 hI bU o21b hXS hXS1 x20 x21b x22b
      go_wp2_with fail
      refine (impl_StoreItems _ us _ oU2).mono ?_
      rintro e w23 ⟨v3, F3, rfl, oI, _, x23⟩
      rw [show itemsOf us = us.records.map recID by unfold itemsOf; rw [if_pos HOK.out]] at oI
      obtain ⟨its, hits⟩ : ∃ l, l = us.records.map recID := ⟨_, rfl⟩
      rw [← hits] at oI
      have HIT := hid (show ∀ k (h : k < its.length), ∃ h2 : k < us.records.length, its[k] = recID us.records[k] from fun k h => by
        subst hits
        rw [List.length_map] at h
        exact ⟨h, List.getElem_map ..⟩)
      have HASC := hid ((okSto_all HOK.out).1.1)
      clear hits d0 d1 d2
      have bU3 := bU2.ext x23
      have oU3 := oU2.mono x23
      have bV3 := bV.ext x23
      have oV3 := o22b.mono x23
      have xall3 := xall.trans x23
      have hIT := oI.sl
      obtain ⟨AI, cI, e9, _⟩ := hIT.form
      subst e9
      clear bU2 oU2 bV o22b xall x23 oI
      go_wp2_with fail
      go_loopw [17] (fun i wr => ∃ k : Nat, k ≤ its.length ∧ i = .int .i64 k ∧ Ext w23 wr) (fun i _ => its.length - (intOf i).toNat)
      case atStart => exact ⟨0, Nat.zero_le _, rfl, Ext.refl _⟩
      case round =>
        obtain ⟨k, hk, rfl, hx⟩ := hrel
        have bU4 := bU3.ext hx
        by_cases hlt : k < its.length
        · obtain ⟨b2, off2, eA, hI6, hc⟩ := (hIT.mono hx).int hlt
          subst eA
          have HFND := hid (show ∀ W, Ext wr W → Calls Tryz.prog 30 #[.agg #[.int .i64 us.version, .slice A21 us.records.length q21, .slice B21 us.verdicts.length p21], .int .i64 its[k]] W fun e w2 => e = .returned (.int .i64 k) ∧ Ext W w2 from fun W y => by
            obtain ⟨h2, e2⟩ := HIT.out k hlt
            have h3 := impl_FindRecord _ us its[k] W ((oU3.mono hx).mono y) hI6
            have e3 : findR us its[k] = (k : Int) := by
              rw [e2]
              exact find_self HASC.out k h2
            rw [e3] at h3
            exact h3)
          have z0 : ∀ z : ExtOf wr, z.1.cell? ⟨b2, off2 + k, none⟩ = _ := fun z => z.2.cell hc
          have z1 : ∀ z : ExtOf wr, z.1.cell? ⟨w21.heap.size, 0, none⟩ = _ := fun z => (bU4.ext z.2).cells.1 0
          have z2 : ∀ z : ExtOf wr, z.1.cell? ⟨w21.heap.size, 1, none⟩ = _ := fun z => (bU4.ext z.2).cells.1 1
          have z3 : ∀ z : ExtOf wr, z.1.cell? ⟨w21.heap.size, 2, none⟩ = _ := fun z => (bU4.ext z.2).cells.1 2
          clear hc hI6
          go_wp2_with fail
          refine wp_region_ext (by kernel_rfl) (by kernel_rfl) ?_
          repeat (go_big_quiet_step (((go_at_call 30; exact quiet_ext (HFND.out _ (Subtype.property _))))))
          refine wpQuiet_nil ?_
          rintro w20 ⟨⟨_, x20⟩, rfl⟩
          clear z0 z1 z2 z3
          go_wp2
          go_roundw
          case rel => exact ⟨k + 1, by omega, by go_num, hx.trans x20⟩
          case measure => simp [intOf]; omega
        · have bV4 := bV3.ext hx
          obtain ⟨d0, d1, d2⟩ := (⟨bU4.cells.1 0, bU4.cells.1 1, bU4.cells.1 2⟩ : _ ∧ _ ∧ _)
          obtain ⟨f0, f1, f2⟩ := (⟨bV4.cells.1 0, bV4.cells.1 1, bV4.cells.1 2⟩ : _ ∧ _ ∧ _)
          go_wp2_with fail
          refine (impl_EqualStores _ _ us us _ (oU3.mono hx) (oV3.mono hx)).mono ?_
          rintro e w24 ⟨rfl, x24⟩
          rw [eqB_self]
          have bU5 := bU4.ext x24
          have g0 := bU5.cells.1 0
          clear d0 d1 d2 f0 f1 f2
          go_wp2
          go_ret
          exact ⟨rfl, xall3.trans (hx.trans x24)⟩

end Go.Proofs.YtfcbapaojoecgaaGreat
