/-
  WALKS: DrawClusterItems, DrawCheckClustering.
-/
import Derived.Test.YtidchfncfcckiaaGreatMgEndFnClu0
import Derived.Test.YtidchfncfcckiaaGreatMgEndClu12

namespace Go.Proofs.YtidchfncfcckiaaGreat
open Go.RowKit

theorem clusterP_cost (m : List (List Int)) (l : List Constraint) : 0 ≤ (clusterP m l).1.cost ∧ (clusterP m l).1.cost ≤ 64000 := by
  cases h : wmB m && consistB m.length l with
  | false => rw [clusterP_no h]; decide
  | true =>
    rw [clusterP_yes h]
    rw [Bool.and_eq_true] at h
    have hm := wmB_iff.1 h.1
    exact costP_le hm (by rw [(clLab_part l hm).2]; exact Nat.le_refl _)
set_option maxHeartbeats 400000 in
theorem spec_DrawClusterItems (w : World) (v : Value) (bs : List Int) (h : Sl u8R w v bs) :
    Calls Tryz.prog 6 #[v] w fun e w2 => ∃ v2 u2 m l, e = .returned (.tuple #[v2, u2]) ∧ Sl (slR intR) w2 v2 m ∧ Sl constraintR w2 u2 l ∧ Ext w w2 := by
  go_enter Tryz.func6, Tryz.ntmps6
  go_wp2_with fail
  refine (spec_l1New w v bs h).mono ?_
  rintro e w1 ⟨rfl, hc1, x1⟩
  go_wp2_with fail
  refine (spec_l24Pair w w1 _ hc1).mono ?_
  rintro e w2 ⟨v2, u2, rfl, m, F, l, G, o2, f2, hm, d2, g2, hl, hc2, hk2⟩
  obtain ⟨A, cap, e2, _⟩ := o2.form
  subst e2
  obtain ⟨B, cap2, e3, _⟩ := d2.form
  subst e3
  go_wp2_with fail
  refine bodyPost_ret (v := .tuple #[.slice A m.length cap, .slice B l.length cap2]) (by simp [results, Tryz.results6, go_sem]) rfl ?_
  exact ⟨_, _, m, l, rfl, o2.sl, d2.sl, hc2.base.1⟩
set_option maxHeartbeats 2000000 in
set_option maxRecDepth 20000 in
theorem spec_DrawCheckClustering (w : World) (v : Value) (bs : List Int) (h : Sl u8R w v bs) :
    Calls Tryz.prog 13 #[v] w fun e w2 => ∃ v2 u2 z2 m l, ∃ c : Clust, e = .returned (.tuple #[v2, u2, .agg #[z2, .int .i64 c.cost, .bool c.exact, .int .i64 c.gap]]) ∧ Sl (slR intR) w2 v2 m ∧ Sl constraintR w2 u2 l ∧ Sl intR w2 z2 c.labels ∧ Ext w w2 := by
  obtain ⟨W0, hW0⟩ : ∃ X, X = w.alloc (.cells #[.slice none 0 0, .int .i64 0, .bool false, .int .i64 0] 30) := ⟨_, rfl⟩
  have x0 : Ext w W0 := by rw [hW0]; exact (Ext.refl _).alloc _
  have b4 := Blk.new w 30 #[.slice none 0 0, .int .i64 0, .bool false, .int .i64 0]
  rw [← hW0] at b4
  have HN := hid (spec_l1New W0 v bs (h.mono x0))
  have HW0 := hid hW0
  have HX0 := hid x0
  have HB4 := hid b4
  clear hW0 x0 b4 h
  go_enter Tryz.func13, Tryz.ntmps13
  go_wp2_with fail
  rw [← HW0.out]
  refine (HN.out).mono ?_
  rintro e w1 ⟨rfl, hc1, x1⟩
  obtain ⟨g, hg⟩ : ∃ g, g = W0.heap.size := ⟨_, rfl⟩
  have HGW := hid hg
  rw [← hg] at hc1 ⊢
  have hg4 : w.heap.size < g := by rw [hg]; exact block_lt HB4.out
  clear hg
  have hgl := hc1.base.2.2
  clear x1
  go_wp2_with fail
  refine (spec_l24Pair W0 w1 g hc1).mono ?_
  rintro e w2 ⟨v2, u2, rfl, m, F, l, G, o2, f2, hm, d2, g2, hl, hc2, hk2⟩
  have hs2 := hk2.1
  obtain ⟨A, cap, e2, _⟩ := o2.form
  subst e2
  obtain ⟨B, cap2, e3, _⟩ := d2.form
  subst e3
  have HCI := hid (spec_ClusterItems _ _ m l w2 o2.sl d2.sl)
  have hcb := clusterP_cost m l
  obtain ⟨C, hC⟩ : ∃ C, C = clusterP m l := ⟨_, rfl⟩
  rw [← hC] at HCI hcb
  obtain ⟨⟨LL, cost, ex, gap⟩, told⟩ := C
  dsimp only at HCI hcb
  clear hC hc1 hk2
  go_wp2_with fail
  refine (HCI.out).mono ?_
  rintro e w3 ⟨v3, FL, rfl, o3, n3, x3⟩
  obtain ⟨AL, cL, e4, _⟩ := o3.form
  subst e4
  have hs3 := x3.size
  obtain ⟨W8, hW8⟩ : ∃ X, X = w3.alloc (.cells #[.slice AL LL.length cL, .int .i64 cost, .bool ex, .int .i64 gap] 30) := ⟨_, rfl⟩
  have x8 : Ext w3 W8 := by rw [hW8]; exact (Ext.refl _).alloc _
  have b8 := Blk.new w3 30 #[.slice AL LL.length cL, .int .i64 cost, .bool ex, .int .i64 gap]
  rw [← hW8] at b8
  obtain ⟨g8, hg8⟩ : ∃ g, g = w3.heap.size := ⟨_, rfl⟩
  obtain ⟨g4, hg4e⟩ : ∃ g, g = w.heap.size := ⟨_, rfl⟩
  have HE4 := hid hg4e
  have HE8 := hid hg8
  have HW8 := hid hW8
  have HG4 := hid (show g4 ∉ F ∧ g4 ∉ G from ⟨fun h9 => by have := f2 _ h9; omega, fun h9 => by have := g2 _ h9; omega⟩)
  have HG8 := hid (show g8 ∉ F ∧ g8 ∉ G from ⟨fun h9 => by have := o2.lt _ h9; omega, fun h9 => by have := d2.lt _ h9; omega⟩)
  have HL4 := hid (show g4 ∉ FL from fun h9 => by have := n3.2 _ h9; omega)
  have HL8 := hid (show g8 ∉ FL from fun h9 => by have := o3.lt _ h9; omega)
  have HGF := hid (show g ∉ F ∧ g ∉ G ∧ g ∉ FL from ⟨fun h9 => by have := f2 _ h9; omega, fun h9 => by have := g2 _ h9; omega, fun h9 => by have := n3.2 _ h9; omega⟩)
  have HNE := hid (show g4 ≠ g8 ∧ g8 ≠ g ∧ g4 ≠ g ∧ g4 < g8 from ⟨by omega, by omega, by omega, by omega⟩)
  have HGE := hid (show w.heap.size ≤ g4 ∧ w.heap.size ≤ g8 from ⟨by omega, by omega⟩)
  rw [← hg8] at b8
  have HB4 := hid (show Blk W8 g4 30 [.slice none 0 0, .int .i64 0, .bool false, .int .i64 0] from by rw [hg4e]; exact (HB4.out.ext hc2.base.1).ext (x3.trans x8))
  have HB8 := hid b8
  have HOM := hid (o2.ext (x3.trans x8))
  have HOC := hid (d2.ext (x3.trans x8))
  have HOL := hid (o3.ext x8)
  have hc8 := hc2.ext (x3.trans x8)
  have hm9 := hm
  clear b8 o2 d2 o3 n3 x3 x8 hc2 f2 g2 hg4 hs2 hs3 hgl hm hl hW8 hg8 hg4e
  go_wp2_with fail
  rw [← HW8.out, ← HE8.out, ← HE4.out]
  refine (spec_l1Below W0 W8 g 8 (by decide) hc8).mono ?_
  rintro e w5 ⟨y, rfl, hy, hc5, hk5⟩
  have HB4 := hid (HB4.out.kept HNE.out.2.2.1 hk5)
  have HB8 := hid (HB8.out.kept HNE.out.2.1 hk5)
  have HOM := hid (HOM.out.kept HGF.out.1 hk5)
  have HOC := hid (HOC.out.kept HGF.out.2.1 hk5)
  have HOL := hid (HOL.out.kept HGF.out.2.2 hk5)
  have HX5 := hid (HX0.out.trans hc5.base.1)
  have HS5 := hid (show g8 < w5.heap.size from block_lt HB8.out)
  clear hc8 hk5
  by_cases h0 : y = 0
  · subst h0
    obtain ⟨q0, q1, q2, q3⟩ := HB8.out.c4.1
    have q1f := HB8.out.c4.2 1
    obtain ⟨wd, hwd⟩ : ∃ X, X = (w5.setCell ⟨g8, 1, none⟩ (.int .i64 (cost + 1))).drew := ⟨_, rfl⟩
    have xd : Ext (w5.setCell ⟨g8, 1, none⟩ (.int .i64 (cost + 1))) wd := by rw [hwd]; exact (Ext.refl _).drew
    have HW := hid hwd
    obtain ⟨k0, k1, k2, k3⟩ := ((HB8.out.set1 (.int .i64 (cost + 1))).ext xd).c4.1
    obtain ⟨⟨a0, a1⟩, ⟨a2, a3⟩, ⟨a4, a5⟩, ⟨a6, a7⟩, b9⟩ := ((HB4.out.other (i := 1) (u := .int .i64 (cost + 1)) HNE.out.1).ext xd).store4 (.slice AL LL.length cL) (.int .i64 (cost + 1)) (.bool ex) (.int .i64 gap)
    have HB9 := hid b9
    have HS1 := hid ((((((HOM.out.setCell (p := ⟨g8, 1, none⟩) HG8.out.1 (.int .i64 (cost + 1))).ext xd).setCell (p := ⟨g4, 0, none⟩) HG4.out.1 (.slice AL LL.length cL)).setCell (p := ⟨g4, 1, none⟩) HG4.out.1 (.int .i64 (cost + 1))).setCell (p := ⟨g4, 2, none⟩) HG4.out.1 (.bool ex)).setCell (p := ⟨g4, 3, none⟩) HG4.out.1 (.int .i64 gap)).sl
    have HS2 := hid ((((((HOC.out.setCell (p := ⟨g8, 1, none⟩) HG8.out.2 (.int .i64 (cost + 1))).ext xd).setCell (p := ⟨g4, 0, none⟩) HG4.out.2 (.slice AL LL.length cL)).setCell (p := ⟨g4, 1, none⟩) HG4.out.2 (.int .i64 (cost + 1))).setCell (p := ⟨g4, 2, none⟩) HG4.out.2 (.bool ex)).setCell (p := ⟨g4, 3, none⟩) HG4.out.2 (.int .i64 gap)).sl
    have HS3 := hid ((((((HOL.out.setCell (p := ⟨g8, 1, none⟩) HL8.out (.int .i64 (cost + 1))).ext xd).setCell (p := ⟨g4, 0, none⟩) HL4.out (.slice AL LL.length cL)).setCell (p := ⟨g4, 1, none⟩) HL4.out (.int .i64 (cost + 1))).setCell (p := ⟨g4, 2, none⟩) HL4.out (.bool ex)).setCell (p := ⟨g4, 3, none⟩) HL4.out (.int .i64 gap)).sl
    have HXF := hid ((((((HX5.out.setCell (p := ⟨g8, 1, none⟩) HGE.out.2 (.int .i64 (cost + 1))).trans xd).setCell (p := ⟨g4, 0, none⟩) HGE.out.1 (.slice AL LL.length cL)).setCell (p := ⟨g4, 1, none⟩) HGE.out.1 (.int .i64 (cost + 1))).setCell (p := ⟨g4, 2, none⟩) HGE.out.1 (.bool ex)).setCell (p := ⟨g4, 3, none⟩) HGE.out.1 (.int .i64 gap))
    clear hwd xd b9
    go_wp2_with fail
    refine wp_region_tail 5 HW.out (by kernel_rfl) (by kernel_rfl) ?_
    simp only [List.take_succ_cons, List.take_zero, List.drop_succ_cons, List.drop_zero]
    repeat (first | go_big_quiet_step ((fail)) | (go_big_quiet_want; go_big_quiet_op; apply Exists.intro; refine ⟨?_, ?_⟩; (fail); go_big_quiet_on))
    refine wpQuiet_nil ?_
    go_wp2
    obtain ⟨⟨r0, r1, r2, r3⟩, _⟩ := HB9.out.c4
    refine bodyPost_ret (v := .tuple #[.slice A m.length cap, .slice B l.length cap2, .agg #[.slice AL LL.length cL, .int .i64 (cost + 1), .bool ex, .int .i64 gap]]) (by simp [results, Tryz.results13, go_sem, r0, r1, r2, r3]) rfl ?_
    exact ⟨_, _, _, m, l, ⟨LL, (cost + 1), ex, gap⟩, rfl, HS1.out, HS2.out, HS3.out, HXF.out⟩
  · have e0 : (y == 0) = false := by simp [h0]
    by_cases h1 : y = 1
    · subst h1
      go_wp2_with fail
      refine (spec_l19Labels W0 w5 g m.length (by omega) hc5).mono ?_
      rintro e w6 ⟨v6, L6, rfl, hB6, hl6, hc6, hk6⟩
      obtain ⟨F6, o6, _, f6⟩ := hB6.done
      obtain ⟨A6, c6, e6, _⟩ := o6.form
      subst e6
      have HB46 := hid (HB4.out.kept HNE.out.2.2.1 hk6)
      have HB86 := hid (HB8.out.kept HNE.out.2.1 hk6)
      have HOM6 := hid (HOM.out.kept HGF.out.1 hk6)
      have HOC6 := hid (HOC.out.kept HGF.out.2.1 hk6)
      have HX56 := hid (HX0.out.trans hc6.base.1)
      have HL86 := hid (show g8 ∉ F6 from fun h9 => by have := f6 _ h9; have := HS5.out; omega)
      have HL46 := hid (show g4 ∉ F6 from fun h9 => by have := f6 _ h9; have := HS5.out; have := HNE.out.2.2.2; omega)
      have HO6 := hid o6
      obtain ⟨q0, q1, q2, q3⟩ := HB86.out.c4.1
      have q0f := HB86.out.c4.2 0
      clear hB6 o6 f6 hc6 hk6 hl6
      obtain ⟨wd, hwd⟩ : ∃ X, X = (w6.setCell ⟨g8, 0, none⟩ (.slice A6 L6.length c6)).drew := ⟨_, rfl⟩
      have xd : Ext (w6.setCell ⟨g8, 0, none⟩ (.slice A6 L6.length c6)) wd := by rw [hwd]; exact (Ext.refl _).drew
      have HW := hid hwd
      obtain ⟨k0, k1, k2, k3⟩ := ((HB86.out.set0 (.slice A6 L6.length c6)).ext xd).c4.1
      obtain ⟨⟨a0, a1⟩, ⟨a2, a3⟩, ⟨a4, a5⟩, ⟨a6, a7⟩, b9⟩ := ((HB46.out.other (i := 0) (u := .slice A6 L6.length c6) HNE.out.1).ext xd).store4 (.slice A6 L6.length c6) (.int .i64 cost) (.bool ex) (.int .i64 gap)
      have HB9 := hid b9
      have HS1 := hid ((((((HOM6.out.setCell (p := ⟨g8, 0, none⟩) HG8.out.1 (.slice A6 L6.length c6)).ext xd).setCell (p := ⟨g4, 0, none⟩) HG4.out.1 (.slice A6 L6.length c6)).setCell (p := ⟨g4, 1, none⟩) HG4.out.1 (.int .i64 cost)).setCell (p := ⟨g4, 2, none⟩) HG4.out.1 (.bool ex)).setCell (p := ⟨g4, 3, none⟩) HG4.out.1 (.int .i64 gap)).sl
      have HS2 := hid ((((((HOC6.out.setCell (p := ⟨g8, 0, none⟩) HG8.out.2 (.slice A6 L6.length c6)).ext xd).setCell (p := ⟨g4, 0, none⟩) HG4.out.2 (.slice A6 L6.length c6)).setCell (p := ⟨g4, 1, none⟩) HG4.out.2 (.int .i64 cost)).setCell (p := ⟨g4, 2, none⟩) HG4.out.2 (.bool ex)).setCell (p := ⟨g4, 3, none⟩) HG4.out.2 (.int .i64 gap)).sl
      have HS3 := hid ((((((HO6.out.setCell (p := ⟨g8, 0, none⟩) HL86.out (.slice A6 L6.length c6)).ext xd).setCell (p := ⟨g4, 0, none⟩) HL46.out (.slice A6 L6.length c6)).setCell (p := ⟨g4, 1, none⟩) HL46.out (.int .i64 cost)).setCell (p := ⟨g4, 2, none⟩) HL46.out (.bool ex)).setCell (p := ⟨g4, 3, none⟩) HL46.out (.int .i64 gap)).sl
      have HXF := hid ((((((HX56.out.setCell (p := ⟨g8, 0, none⟩) HGE.out.2 (.slice A6 L6.length c6)).trans xd).setCell (p := ⟨g4, 0, none⟩) HGE.out.1 (.slice A6 L6.length c6)).setCell (p := ⟨g4, 1, none⟩) HGE.out.1 (.int .i64 cost)).setCell (p := ⟨g4, 2, none⟩) HGE.out.1 (.bool ex)).setCell (p := ⟨g4, 3, none⟩) HGE.out.1 (.int .i64 gap))
      clear hwd xd b9
      go_wp2_with fail
      refine wp_region_tail 5 HW.out (by kernel_rfl) (by kernel_rfl) ?_
      simp only [List.take_succ_cons, List.take_zero, List.drop_succ_cons, List.drop_zero]
      repeat (first | go_big_quiet_step ((fail)) | (go_big_quiet_want; go_big_quiet_op; apply Exists.intro; refine ⟨?_, ?_⟩; (fail); go_big_quiet_on))
      refine wpQuiet_nil ?_
      go_wp2
      obtain ⟨⟨r0, r1, r2, r3⟩, _⟩ := HB9.out.c4
      refine bodyPost_ret (v := .tuple #[.slice A m.length cap, .slice B l.length cap2, .agg #[.slice A6 L6.length c6, .int .i64 cost, .bool ex, .int .i64 gap]]) (by simp [results, Tryz.results13, go_sem, r0, r1, r2, r3]) rfl ?_
      exact ⟨_, _, _, m, l, ⟨L6, cost, ex, gap⟩, rfl, HS1.out, HS2.out, HS3.out, HXF.out⟩
    · have e1 : (y == 1) = false := by simp [h1]
      by_cases h2 : y = 2
      · subst h2
        obtain ⟨q0, q1, q2, q3⟩ := HB8.out.c4.1
        have q2f := HB8.out.c4.2 2
        obtain ⟨wd, hwd⟩ : ∃ X, X = (w5.setCell ⟨g8, 2, none⟩ (.bool (!ex))).drew := ⟨_, rfl⟩
        have xd : Ext (w5.setCell ⟨g8, 2, none⟩ (.bool (!ex))) wd := by rw [hwd]; exact (Ext.refl _).drew
        have HW := hid hwd
        obtain ⟨k0, k1, k2, k3⟩ := ((HB8.out.set2 (.bool (!ex))).ext xd).c4.1
        obtain ⟨⟨a0, a1⟩, ⟨a2, a3⟩, ⟨a4, a5⟩, ⟨a6, a7⟩, b9⟩ := ((HB4.out.other (i := 2) (u := .bool (!ex)) HNE.out.1).ext xd).store4 (.slice AL LL.length cL) (.int .i64 cost) (.bool (!ex)) (.int .i64 gap)
        have HB9 := hid b9
        have HS1 := hid ((((((HOM.out.setCell (p := ⟨g8, 2, none⟩) HG8.out.1 (.bool (!ex))).ext xd).setCell (p := ⟨g4, 0, none⟩) HG4.out.1 (.slice AL LL.length cL)).setCell (p := ⟨g4, 1, none⟩) HG4.out.1 (.int .i64 cost)).setCell (p := ⟨g4, 2, none⟩) HG4.out.1 (.bool (!ex))).setCell (p := ⟨g4, 3, none⟩) HG4.out.1 (.int .i64 gap)).sl
        have HS2 := hid ((((((HOC.out.setCell (p := ⟨g8, 2, none⟩) HG8.out.2 (.bool (!ex))).ext xd).setCell (p := ⟨g4, 0, none⟩) HG4.out.2 (.slice AL LL.length cL)).setCell (p := ⟨g4, 1, none⟩) HG4.out.2 (.int .i64 cost)).setCell (p := ⟨g4, 2, none⟩) HG4.out.2 (.bool (!ex))).setCell (p := ⟨g4, 3, none⟩) HG4.out.2 (.int .i64 gap)).sl
        have HS3 := hid ((((((HOL.out.setCell (p := ⟨g8, 2, none⟩) HL8.out (.bool (!ex))).ext xd).setCell (p := ⟨g4, 0, none⟩) HL4.out (.slice AL LL.length cL)).setCell (p := ⟨g4, 1, none⟩) HL4.out (.int .i64 cost)).setCell (p := ⟨g4, 2, none⟩) HL4.out (.bool (!ex))).setCell (p := ⟨g4, 3, none⟩) HL4.out (.int .i64 gap)).sl
        have HXF := hid ((((((HX5.out.setCell (p := ⟨g8, 2, none⟩) HGE.out.2 (.bool (!ex))).trans xd).setCell (p := ⟨g4, 0, none⟩) HGE.out.1 (.slice AL LL.length cL)).setCell (p := ⟨g4, 1, none⟩) HGE.out.1 (.int .i64 cost)).setCell (p := ⟨g4, 2, none⟩) HGE.out.1 (.bool (!ex))).setCell (p := ⟨g4, 3, none⟩) HGE.out.1 (.int .i64 gap))
        clear hwd xd b9
        go_wp2_with fail
        refine wp_region_tail 5 HW.out (by kernel_rfl) (by kernel_rfl) ?_
        simp only [List.take_succ_cons, List.take_zero, List.drop_succ_cons, List.drop_zero]
        repeat (first | go_big_quiet_step ((fail)) | (go_big_quiet_want; go_big_quiet_op; apply Exists.intro; refine ⟨?_, ?_⟩; (fail); go_big_quiet_on))
        refine wpQuiet_nil ?_
        go_wp2
        obtain ⟨⟨r0, r1, r2, r3⟩, _⟩ := HB9.out.c4
        refine bodyPost_ret (v := .tuple #[.slice A m.length cap, .slice B l.length cap2, .agg #[.slice AL LL.length cL, .int .i64 cost, .bool (!ex), .int .i64 gap]]) (by simp [results, Tryz.results13, go_sem, r0, r1, r2, r3]) rfl ?_
        exact ⟨_, _, _, m, l, ⟨LL, cost, (!ex), gap⟩, rfl, HS1.out, HS2.out, HS3.out, HXF.out⟩
      · have e2 : (y == 2) = false := by simp [h2]
        obtain ⟨wd, hwd⟩ : ∃ X, X = (w5).drew := ⟨_, rfl⟩
        have xd : Ext (w5) wd := by rw [hwd]; exact (Ext.refl _).drew
        have HW := hid hwd
        obtain ⟨k0, k1, k2, k3⟩ := ((HB8.out).ext xd).c4.1
        obtain ⟨⟨a0, a1⟩, ⟨a2, a3⟩, ⟨a4, a5⟩, ⟨a6, a7⟩, b9⟩ := ((HB4.out).ext xd).store4 (.slice AL LL.length cL) (.int .i64 cost) (.bool ex) (.int .i64 gap)
        have HB9 := hid b9
        have HS1 := hid ((((((HOM.out).ext xd).setCell (p := ⟨g4, 0, none⟩) HG4.out.1 (.slice AL LL.length cL)).setCell (p := ⟨g4, 1, none⟩) HG4.out.1 (.int .i64 cost)).setCell (p := ⟨g4, 2, none⟩) HG4.out.1 (.bool ex)).setCell (p := ⟨g4, 3, none⟩) HG4.out.1 (.int .i64 gap)).sl
        have HS2 := hid ((((((HOC.out).ext xd).setCell (p := ⟨g4, 0, none⟩) HG4.out.2 (.slice AL LL.length cL)).setCell (p := ⟨g4, 1, none⟩) HG4.out.2 (.int .i64 cost)).setCell (p := ⟨g4, 2, none⟩) HG4.out.2 (.bool ex)).setCell (p := ⟨g4, 3, none⟩) HG4.out.2 (.int .i64 gap)).sl
        have HS3 := hid ((((((HOL.out).ext xd).setCell (p := ⟨g4, 0, none⟩) HL4.out (.slice AL LL.length cL)).setCell (p := ⟨g4, 1, none⟩) HL4.out (.int .i64 cost)).setCell (p := ⟨g4, 2, none⟩) HL4.out (.bool ex)).setCell (p := ⟨g4, 3, none⟩) HL4.out (.int .i64 gap)).sl
        have HXF := hid (((((HX5.out.trans xd).setCell (p := ⟨g4, 0, none⟩) HGE.out.1 (.slice AL LL.length cL)).setCell (p := ⟨g4, 1, none⟩) HGE.out.1 (.int .i64 cost)).setCell (p := ⟨g4, 2, none⟩) HGE.out.1 (.bool ex)).setCell (p := ⟨g4, 3, none⟩) HGE.out.1 (.int .i64 gap))
        clear hwd xd b9
        go_wp2_with fail
        refine wp_region_tail 5 HW.out (by kernel_rfl) (by kernel_rfl) ?_
        simp only [List.take_succ_cons, List.take_zero, List.drop_succ_cons, List.drop_zero]
        repeat (first | go_big_quiet_step ((fail)) | (go_big_quiet_want; go_big_quiet_op; apply Exists.intro; refine ⟨?_, ?_⟩; (fail); go_big_quiet_on))
        refine wpQuiet_nil ?_
        go_wp2
        obtain ⟨⟨r0, r1, r2, r3⟩, _⟩ := HB9.out.c4
        refine bodyPost_ret (v := .tuple #[.slice A m.length cap, .slice B l.length cap2, .agg #[.slice AL LL.length cL, .int .i64 cost, .bool ex, .int .i64 gap]]) (by simp [results, Tryz.results13, go_sem, r0, r1, r2, r3]) rfl ?_
        exact ⟨_, _, _, m, l, ⟨LL, cost, ex, gap⟩, rfl, HS1.out, HS2.out, HS3.out, HXF.out⟩
end Go.Proofs.YtidchfncfcckiaaGreat
