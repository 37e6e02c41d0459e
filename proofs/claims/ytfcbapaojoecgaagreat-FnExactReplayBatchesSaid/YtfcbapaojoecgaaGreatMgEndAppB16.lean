/-
  THE LAW'S WALK: FnExactApplyBatch.
-/
import Derived.Test.YtfcbapaojoecgaaGreatMgEndAppB15
import Derived.Test.YtfcbapaojoecgaaGreatMgEndAppB14
import Derived.Test.YtfcbapaojoecgaaGreatMgEndAppB10
import Derived.Deep.Cut

namespace Go.Proofs.YtfcbapaojoecgaaGreat
open Go.RowKit

theorem opCnt_ms (xs : List Op) : (lstMk opMk).cnt xs ≤ 8 * (xs.length + sumBy msOp xs) := by
  have e : (lstMk opMk).cnt xs = (xs.map fun o => 8 + o.record.fields.length).sum := rfl
  rw [e]
  unfold sumBy
  induction xs with
  | nil => simp
  | cons x xs ih =>
    have ih := ih rfl
    simp only [List.map_cons, List.sum_cons, List.length_cons] at ih ⊢
    have : x.record.fields.length ≤ msOp x := by unfold msOp; omega
    omega
theorem StoOwn.form {w : World} {v : Value} {s : Store} {F : List Nat} (h : StoOwn w v s F) : ∃ A c A2 c2, v = .agg #[.int .i64 s.version, .slice A s.records.length c, .slice A2 s.verdicts.length c2] := by
  obtain ⟨r, d, F1, F2, rfl, _, hr, hd, _⟩ := h
  obtain ⟨A, c, rfl, _⟩ := hr.form
  obtain ⟨A2, c2, rfl, _⟩ := hd.form
  exact ⟨A, c, A2, c2, rfl⟩
theorem recSum_small : ∀ {xs : List Record}, (∀ x ∈ xs, okRec x = true) → recSum xs ≤ 7 * xs.length
  | [], _ => by simp [recSum]
  | x :: xs, h => by
    have := recSum_small fun y hy => h y (List.mem_cons_of_mem x hy)
    have := okRec_len (h x (List.mem_cons_self ..))
    unfold recSum at *
    simp only [List.map_cons, List.sum_cons, List.length_cons]
    omega
theorem stoCnt_small {s : Store} (h : okSto s = true) : stoCnt s ≤ 100 := by
  obtain ⟨g, _, _, _, _, h1, h2⟩ := okSto_all h
  have h3 := recSum_small g.2
  have h4 := cntVerdictS_le s.verdicts
  unfold stoCnt
  rw [recCnt]
  omega
theorem appB_cnt {s : Store} (b : Batch) (h : msSto s ≤ 1048576) : stoCnt (appB s b).1 ≤ 4194304 := by
  unfold appB
  split
  · rename_i hc
    have := stoCnt_small hc.2.2
    show stoCnt (newSto s b) ≤ _
    omega
  · have := stoCnt_ms s
    show stoCnt s ≤ _
    omega
/-- a struct variable that holds a store of new rows -/
def BoxIs (w2 wx : World) (p : Value) (s : Store) : Prop := ∃ g v1 v2 F, p = .pointer (some ⟨g, 0, none⟩) ∧ Blk wx g 34 [.int .i64 s.version, v1, v2] ∧ StoOwn wx (.agg #[.int .i64 s.version, v1, v2]) s F ∧ NewF w2 F ∧ w2.heap.size ≤ g ∧ g ∉ F ∧ Ext w2 wx
theorem lawbox1 {w2 w3 : World} {v1 v2 : Value} {s : Store} {F : List Nat} (o : StoOwn w3 (.agg #[.int .i64 s.version, v1, v2]) s F) (n : NewF w2 F) (x : Ext w2 w3) :
    BoxIs w2 (w3.alloc (.cells #[.int .i64 s.version, v1, v2] 34)) (.pointer (some ⟨w3.heap.size, 0, none⟩)) s :=
  ⟨_, v1, v2, F, rfl, Blk.new w3 34 #[.int .i64 s.version, v1, v2], o.ext ((Ext.refl w3).alloc _), n, x.size, fun hm => by have := o.lt _ hm; omega, x.alloc _⟩
theorem lawbox2 {w2 w3 : World} {g : Nat} {v1 v2 a b c : Value} {s : Store} {F : List Nat} (o : StoOwn w3 (.agg #[.int .i64 s.version, v1, v2]) s F) (b8 : Blk w3 g 34 [a, b, c]) (hg : w2.heap.size ≤ g) (hF : g ∉ F) (n : NewF w2 F) (x : Ext w2 w3) :
    BoxIs w2 (((w3.setCell ⟨g, 0, none⟩ (.int .i64 s.version)).setCell ⟨g, 1, none⟩ v1).setCell ⟨g, 2, none⟩ v2) (.pointer (some ⟨g, 0, none⟩)) s :=
  ⟨g, v1, v2, F, rfl, Blk.store3 b8 _ _ _, o.keep fun b9 hb9 => (Kp.store3 g 0 (.int .i64 s.version) v1 v2 w3).2 b9 (o.lt b9 hb9) fun e => hF (e ▸ hb9), n, hg, hF, Ext.store3 x hg _ _ _⟩

set_option maxHeartbeats 8000000 in
set_option maxRecDepth 20000 in
theorem law_ApplyBatch (v0 : Value) (s : Store) (v1 : Value) (b : Batch) (w : World) (h0 : StoAt w v0 s) (h1 : BatAt w v1 b) :
    Calls Tryz.prog 3 #[v0, v1] w fun e w2 => e = .returned (.bool true) ∧ Ext w w2 := by
  obtain ⟨a0, a1, rfl, hI0, g0, g1⟩ := h0
  obtain ⟨a2, rfl, hI1, g2⟩ := h1
  go_enter Tryz.func3, Tryz.ntmps3
  go_wp2_with fail
  have xw : Ext w ((w.alloc (.cells #[.int .i64 s.version, a0, a1] 25)).alloc (.cells #[a2] 28)) := (by repeat (first | with_reducible exact Ext.refl _ | with_reducible assumption | with_reducible refine Ext.drew ?_ | with_reducible refine Ext.alloc ?_ _ | (refine Ext.setCell ?_ (by simp) _) | with_reducible refine Ext.trans ?_ (by with_reducible assumption)))
  have z0 : StoAt ((w.alloc (.cells #[.int .i64 s.version, a0, a1] 25)).alloc (.cells #[a2] 28)) (.agg #[.int .i64 s.version, a0, a1]) s := ⟨_, _, rfl, hI0, g0.mono xw, g1.mono xw⟩
  have z1 : BatAt ((w.alloc (.cells #[.int .i64 s.version, a0, a1] 25)).alloc (.cells #[a2] 28)) (.agg #[a2]) b := ⟨_, rfl, hI1, g2.mono xw⟩
  have HB := hid (show ∀ W, Ext ((w.alloc (.cells #[.int .i64 s.version, a0, a1] 25)).alloc (.cells #[a2] 28)) W → (W.cell? ⟨w.heap.size, 0, none⟩ = some (.int .i64 s.version) ∧ W.cell? ⟨w.heap.size, 1, none⟩ = some (a0) ∧ W.cell? ⟨w.heap.size, 2, none⟩ = some (a1)) ∧ (W.cell? ⟨w.heap.size + 1, 0, none⟩ = some (a2)) from fun W y => ⟨⟨(((Ext.refl _).alloc _).trans y).box.1 0, (((Ext.refl _).alloc _).trans y).box.1 1, (((Ext.refl _).alloc _).trans y).box.1 2⟩, y.box1.1 0⟩)
  have hW := Ext.refl ((w.alloc (.cells #[.int .i64 s.version, a0, a1] 25)).alloc (.cells #[a2] 28))
  refine (szStore_c _ s _ _ (z0.mono hW) (by omega) (by omega)).mono ?_
  rintro e w1 ⟨rfl, x1⟩
  replace hW := hW.trans x1
  clear x1
  by_cases hs0 : 1048576 < (((msSto s) : Nat) : Int)
  · rw [szv_neg hs0]
    go_wp2
    go_ret
    exact ⟨rfl, xw.trans hW⟩
  · have hl0 := szv_nn hs0
    have hu0 := szv_le (n := (((msSto s) : Nat) : Int)) (left := 1048576) (by omega) (by omega)
    generalize szv (((msSto s) : Nat) : Int) 1048576 = L0 at hl0 hu0 ⊢
    have HS0 : msSto s ≤ 1048576 := by omega
    clear hs0
    obtain ⟨⟨c0, c1, c2⟩, c3⟩ := HB.out _ hW
    go_wp2_with fail
    refine (szBatch_c _ b _ _ (z1.mono hW) (by omega) (by omega)).mono ?_
    rintro e w2 ⟨rfl, x2⟩
    replace hW := hW.trans x2
    clear x2 c0 c1 c2 c3
    by_cases hs1 : L0 < (((msBat b) : Nat) : Int)
    · rw [szv_neg hs1]
      go_wp2
      go_ret
      exact ⟨rfl, xw.trans hW⟩
    · have hl1 := szv_nn hs1
      have hu1 := szv_le (n := (((msBat b) : Nat) : Int)) (left := L0) (by omega) (by omega)
      generalize szv (((msBat b) : Nat) : Int) L0 = L1 at hl1 hu1 ⊢
      have HS1 : msBat b ≤ 1048576 := by omega
      clear hs1
      have HMS := hid (show msRecs s.records ≤ 1048576 ∧ s.verdicts.length ≤ 1048576 from by unfold msSto at HS0; exact ⟨by omega, by omega⟩)
      have HK := hid (show ∀ W, Ext w2 W → (W.cell? ⟨w.heap.size, 0, none⟩ = some (.int .i64 s.version) ∧ W.cell? ⟨w.heap.size, 1, none⟩ = some (a0) ∧ W.cell? ⟨w.heap.size, 2, none⟩ = some (a1)) ∧ (W.cell? ⟨w.heap.size + 1, 0, none⟩ = some (a2)) from fun W y => HB.out _ (hW.trans y))
      have HZ0 := hid (fun (W : World) (y : Ext w2 W) => z0.mono (hW.trans y))
      have HZ1 := hid (fun (W : World) (y : Ext w2 W) => z1.mono (hW.trans y))
      have HK := hid (show ∀ W, Ext w2 W → (W.cell? ⟨w.heap.size, 0, none⟩ = some (.int .i64 s.version) ∧ W.cell? ⟨w.heap.size, 1, none⟩ = some (a0) ∧ W.cell? ⟨w.heap.size, 2, none⟩ = some (a1)) ∧ (W.cell? ⟨w.heap.size + 1, 0, none⟩ = some (a2)) from fun W y => HB.out _ (hW.trans y))
      have HZ0 := hid (fun (W : World) (y : Ext w2 W) => z0.mono (hW.trans y))
      have HZ1 := hid (fun (W : World) (y : Ext w2 W) => z1.mono (hW.trans y))
      go_upto_region 8 with fail
      go_cut [6, 7] from 17 (fun p q wx => BoxIs w2 wx p (appB s b).1 ∧ q = .bool (appB s b).2)
      case first =>
        go_region_held3 (fun w' => (w'.cell? ⟨w.heap.size, 0, none⟩ = some (.int .i64 s.version) ∧ w'.cell? ⟨w.heap.size, 1, none⟩ = some (a0) ∧ w'.cell? ⟨w.heap.size, 2, none⟩ = some (a1)) ∧ (w'.cell? ⟨w.heap.size + 1, 0, none⟩ = some (a2)))
          (exact HK.out _ (by repeat (first | with_reducible exact Ext.refl _ | with_reducible assumption | with_reducible refine Ext.drew ?_ | with_reducible refine Ext.alloc ?_ _ | (refine Ext.setCell ?_ (by first | (simp; done) | omega | (simp; omega)) _) | with_reducible refine Ext.trans ?_ (by with_reducible assumption))))
          (first | (go_at_call 9; with_reducible refine (toStore_c (.agg #[.int .i64 s.version, a0, a1]) s _ ?hr HS0).mono ?_; (case hr => exact HZ0.out _ (by repeat (first | with_reducible exact Ext.refl _ | with_reducible assumption | with_reducible refine Ext.drew ?_ | with_reducible refine Ext.alloc ?_ _ | (refine Ext.setCell ?_ (by first | (simp; done) | omega | (simp; omega)) _) | with_reducible refine Ext.trans ?_ (by with_reducible assumption)))); rintro e wa ⟨va, Fa, rfl, oa, na, xa⟩; have sa := xa.size; (try simp at sa)) | (go_at_call 10; with_reducible refine (toBatch_c (.agg #[a2]) b _ ?hr HS1).mono ?_; (case hr => exact HZ1.out _ (by repeat (first | with_reducible exact Ext.refl _ | with_reducible assumption | with_reducible refine Ext.drew ?_ | with_reducible refine Ext.alloc ?_ _ | (refine Ext.setCell ?_ (by first | (simp; done) | omega | (simp; omega)) _) | with_reducible refine Ext.trans ?_ (by with_reducible assumption)))); rintro e wb ⟨vb, Fb, rfl, ob, nb, xb⟩; have sb := xb.size; (try simp at sb)) | (go_at_call 8; refine (spec_ApplyBatch _ _ s b _ ?ha ?hb HMS.out.1 HMS.out.2).mono ?_; (case ha => exact oa.at_.mono (by repeat (first | with_reducible exact Ext.refl _ | with_reducible assumption | with_reducible refine Ext.drew ?_ | with_reducible refine Ext.alloc ?_ _ | (refine Ext.setCell ?_ (by first | (simp; done) | omega | (simp; omega)) _) | with_reducible refine Ext.trans ?_ (by with_reducible assumption)))); (case hb => exact ob.at_.mono (by repeat (first | with_reducible exact Ext.refl _ | with_reducible assumption | with_reducible refine Ext.drew ?_ | with_reducible refine Ext.alloc ?_ _ | (refine Ext.setCell ?_ (by first | (simp; done) | omega | (simp; omega)) _) | with_reducible refine Ext.trans ?_ (by with_reducible assumption)))); rintro e wz ⟨rv, vv, F, rfl, R, hIr, xc⟩; have sc := xc.size; (try simp at sc); obtain ⟨F9, o9, n9, l9⟩ := R.own hIr; obtain ⟨Ar, cr, er, _⟩ := R.r.sl.form; subst er; obtain ⟨Av, cv, ev, _⟩ := R.v.sl.form; subst ev; clear R; (first | (refine (fun (x8 : Ext (w2.alloc (.cells #[.int .i64 0, .slice none 0 0, .slice none 0 0] 34)) wz) => ?_) ?_; rotate_left; (focus ((repeat (first | with_reducible exact Ext.refl _ | with_reducible assumption | with_reducible refine Ext.drew ?_ | with_reducible refine Ext.alloc ?_ _ | with_reducible refine Ext.trans ?_ (by with_reducible assumption))); done)); have b8 := (Blk.new w2 34 #[.int .i64 0, .slice none 0 0, .slice none 0 0]).ext x8; have c80 : wz.cell? ⟨w2.heap.size, 0, none⟩ = some (.int .i64 0) := b8.cells.1 0; have c81 : wz.cell? ⟨w2.heap.size, 1, none⟩ = some (.slice none 0 0) := b8.cells.1 1; have c82 : wz.cell? ⟨w2.heap.size, 2, none⟩ = some (.slice none 0 0) := b8.cells.1 2; have f8 : ∀ i, wz.frozen? ⟨w2.heap.size, i, none⟩ = false := b8.cells.2) | (refine (fun (x8 : Ext (wa.alloc (.cells #[.int .i64 0, .slice none 0 0, .slice none 0 0] 34)) wz) => ?_) ?_; rotate_left; (focus ((repeat (first | with_reducible exact Ext.refl _ | with_reducible assumption | with_reducible refine Ext.drew ?_ | with_reducible refine Ext.alloc ?_ _ | with_reducible refine Ext.trans ?_ (by with_reducible assumption))); done)); have b8 := (Blk.new wa 34 #[.int .i64 0, .slice none 0 0, .slice none 0 0]).ext x8; have c80 : wz.cell? ⟨wa.heap.size, 0, none⟩ = some (.int .i64 0) := b8.cells.1 0; have c81 : wz.cell? ⟨wa.heap.size, 1, none⟩ = some (.slice none 0 0) := b8.cells.1 1; have c82 : wz.cell? ⟨wa.heap.size, 2, none⟩ = some (.slice none 0 0) := b8.cells.1 2; have f8 : ∀ i, wz.frozen? ⟨wa.heap.size, i, none⟩ = false := b8.cells.2) | (refine (fun (x8 : Ext (wb.alloc (.cells #[.int .i64 0, .slice none 0 0, .slice none 0 0] 34)) wz) => ?_) ?_; rotate_left; (focus ((repeat (first | with_reducible exact Ext.refl _ | with_reducible assumption | with_reducible refine Ext.drew ?_ | with_reducible refine Ext.alloc ?_ _ | with_reducible refine Ext.trans ?_ (by with_reducible assumption))); done)); have b8 := (Blk.new wb 34 #[.int .i64 0, .slice none 0 0, .slice none 0 0]).ext x8; have c80 : wz.cell? ⟨wb.heap.size, 0, none⟩ = some (.int .i64 0) := b8.cells.1 0; have c81 : wz.cell? ⟨wb.heap.size, 1, none⟩ = some (.slice none 0 0) := b8.cells.1 1; have c82 : wz.cell? ⟨wb.heap.size, 2, none⟩ = some (.slice none 0 0) := b8.cells.1 2; have f8 : ∀ i, wz.frozen? ⟨wb.heap.size, i, none⟩ = false := b8.cells.2) | skip)))
        all_goals
          go_wp2_with fail
          go_meet
          first
            | exact ⟨lawbox2 o9 b8 (by first | omega | (simp; omega)) (fun hm => by have h1 := l9 _ hm; (try simp at h1); omega) ⟨n9, fun b9 hb9 => by have h1 := l9 b9 hb9; (try simp at h1); omega⟩ (by repeat (first | with_reducible exact Ext.refl _ | with_reducible assumption | with_reducible refine Ext.drew ?_ | with_reducible refine Ext.alloc ?_ _ | (refine Ext.setCell ?_ (by first | (simp; done) | omega | (simp; omega)) _) | with_reducible refine Ext.trans ?_ (by with_reducible assumption))), rfl⟩
            | exact ⟨lawbox1 o9 ⟨n9, fun b9 hb9 => by have h1 := l9 b9 hb9; (try simp at h1); omega⟩ (by repeat (first | with_reducible exact Ext.refl _ | with_reducible assumption | with_reducible refine Ext.drew ?_ | with_reducible refine Ext.alloc ?_ _ | (refine Ext.setCell ?_ (by first | (simp; done) | omega | (simp; omega)) _) | with_reducible refine Ext.trans ?_ (by with_reducible assumption))), rfl⟩
      case' rest => skip
      rename_i wc
      obtain ⟨⟨gA, r1, d1, F1, rfl, bA, o1, n1, hgA, hgF1, xA⟩, rfl⟩ := hcut
      obtain ⟨r, hr⟩ : ∃ r, r = appB s b := ⟨_, rfl⟩
      rw [← hr] at bA o1 ⊢
      have HR := hid hr
      have hcnt := appB_cnt b HS0
      rw [← hr] at hcnt
      clear hr
      obtain ⟨rs, rb⟩ := r
      dsimp only at bA o1 hcnt ⊢
      have hrb : (rb != rb) = false := by simp
      have HC4 := hid (show (1 : Int) + (stoCnt rs : Nat) ≤ 1152921504606846976 by omega)
      have HC2 := hid (show (1 : Int) + (stoCnt s : Nat) ≤ 1152921504606846976 by have := stoCnt_ms s; omega)
      have HC3 := hid (show (1 : Int) + (stoCnt s : Nat) + ((lstMk opMk).cnt b.ops : Nat) ≤ 1152921504606846976 by have := stoCnt_ms s; have := opCnt_ms b.ops; have : msBat b = b.ops.length + sumBy msOp b.ops := rfl; omega)
      clear hcnt n1 hgA hgF1
      replace hW := hW.trans xA
      clear xA
      obtain ⟨⟨h9a, h9b, h9c⟩, h9d⟩ := HB.out _ hW
      go_wp2_with fail
      refine (toStore_c _ s _ (z0.mono hW) HS0).mono ?_
      rintro e w6 ⟨v6, F2, rfl, o2, n2, x6⟩
      clear h9a h9b h9c h9d
      have ap_bA_2 := hid (show gA ∉ F2 from fun hm => by have h9 := n2.2 _ hm; have h8 := block_lt bA; omega)
      have ap_o1_2 := hid (Dis.new o1.lt n2)
      have hF2 := hid (fun b9 (hb9 : b9 ∈ F2) => Nat.le_trans hW.size (n2.2 b9 hb9))
      have N2 := hid n2.1
      replace hW := hW.trans x6
      replace bA := bA.ext x6
      replace o1 := o1.ext x6
      clear x6
      obtain ⟨A2, q2, B2, p2, e9⟩ := o2.form
      subst e9
      have bX := Blk.new w6 34 #[.int .i64 s.version, .slice A2 s.records.length q2, .slice B2 s.verdicts.length p2]
      have y6 : Ext w6 (w6.alloc (.cells #[.int .i64 s.version, .slice A2 s.records.length q2, .slice B2 s.verdicts.length p2] 34)) := (Ext.refl w6).alloc _
      have ap_bX_1 := hid (show w6.heap.size ∉ F1 from fun hm => by have h9 := o1.lt _ hm; omega)
      have ap_bX_2 := hid (show w6.heap.size ∉ F2 from fun hm => by have h9 := o2.lt _ hm; omega)
      replace hW := hW.trans y6
      replace bA := bA.ext y6
      replace o1 := o1.ext y6
      replace o2 := o2.ext y6
      clear y6
      obtain ⟨⟨h9a, h9b, h9c⟩, h9d⟩ := HB.out _ hW
      go_wp2_with fail
      refine (toBatch_c _ b _ (z1.mono hW) HS1).mono ?_
      rintro e w7 ⟨v7, F3, rfl, ⟨f3, rfl, _, o3⟩, n3, x7⟩
      obtain ⟨A3, q3, e9, _⟩ := o3.form
      subst e9
      clear h9a h9b h9c h9d
      have ap_bA_3 := hid (show gA ∉ F3 from fun hm => by have h9 := n3.2 _ hm; have h8 := block_lt bA; omega)
      have ap_o1_3 := hid (Dis.new o1.lt n3)
      have ap_o2_3 := hid (Dis.new o2.lt n3)
      have ap_bX_3 := hid (show w6.heap.size ∉ F3 from fun hm => by have h9 := n3.2 _ hm; have h8 := block_lt bX; omega)
      have hF3 := hid (fun b9 (hb9 : b9 ∈ F3) => Nat.le_trans hW.size (n3.2 b9 hb9))
      have N3 := hid n3.1
      replace hW := hW.trans x7
      replace bA := bA.ext x7
      replace o1 := o1.ext x7
      replace o2 := o2.ext x7
      replace bX := bX.ext x7
      clear x7
      have bY := Blk.new w7 40 #[.slice A3 b.ops.length q3]
      have y7 : Ext w7 (w7.alloc (.cells #[.slice A3 b.ops.length q3] 40)) := (Ext.refl w7).alloc _
      have ap_bY_1 := hid (show w7.heap.size ∉ F1 from fun hm => by have h9 := o1.lt _ hm; omega)
      have ap_bY_2 := hid (show w7.heap.size ∉ F2 from fun hm => by have h9 := o2.lt _ hm; omega)
      have ap_bY_3 := hid (show w7.heap.size ∉ F3 from fun hm => by have h9 := o3.lt _ hm; omega)
      replace hW := hW.trans y7
      replace bA := bA.ext y7
      replace o1 := o1.ext y7
      replace o2 := o2.ext y7
      replace bX := bX.ext y7
      replace o3 := o3.ext y7
      clear y7
      obtain ⟨bXc0, bXc1, bXc2⟩ := (⟨bX.cells.1 0, bX.cells.1 1, bX.cells.1 2⟩ : _ ∧ _ ∧ _)
      have bYc0 := bY.cells.1 0
      go_wp2_with fail
      refine (impl_ApplyBatch _ _ s b _ o2.at_ ⟨_, rfl, trivial, o3.sl⟩ HMS.out.1 HMS.out.2).mono ?_
      rintro e w8 ⟨r4, d4, F8, rfl, R, hI4, x8⟩
      rw [← HR.out] at R hI4 ⊢
      dsimp only at R hI4 ⊢
      obtain ⟨F4, o4, n4a, n4b⟩ := R.own hI4
      have n4 := (⟨n4a, n4b⟩ : NewF _ F4)
      obtain ⟨A4, q4, B4, p4, e9⟩ := o4.form
      injection e9 with e9
      injection e9 with e9
      simp only [List.cons.injEq, and_true, true_and] at e9
      obtain ⟨e9a, e9b⟩ := e9
      subst e9a
      subst e9b
      clear R n4a n4b
      clear bXc0 bXc1 bXc2
      clear bYc0
      have ap_bA_4 := hid (show gA ∉ F4 from fun hm => by have h9 := n4.2 _ hm; have h8 := block_lt bA; omega)
      have ap_o1_4 := hid (Dis.new o1.lt n4)
      have ap_o2_4 := hid (Dis.new o2.lt n4)
      have ap_bX_4 := hid (show w6.heap.size ∉ F4 from fun hm => by have h9 := n4.2 _ hm; have h8 := block_lt bX; omega)
      have ap_o3_4 := hid (Dis.new o3.lt n4)
      have ap_bY_4 := hid (show w7.heap.size ∉ F4 from fun hm => by have h9 := n4.2 _ hm; have h8 := block_lt bY; omega)
      have hF4 := hid (fun b9 (hb9 : b9 ∈ F4) => Nat.le_trans hW.size (n4.2 b9 hb9))
      have N4 := hid n4.1
      replace hW := hW.trans x8
      replace bA := bA.ext x8
      replace o1 := o1.ext x8
      replace o2 := o2.ext x8
      replace bX := bX.ext x8
      replace o3 := o3.ext x8
      replace bY := bY.ext x8
      clear x8
      have bG := Blk.new w8 34 #[.int .i64 rs.version, .slice A4 rs.records.length q4, .slice B4 rs.verdicts.length p4]
      have y8 : Ext w8 (w8.alloc (.cells #[.int .i64 rs.version, .slice A4 rs.records.length q4, .slice B4 rs.verdicts.length p4] 34)) := (Ext.refl w8).alloc _
      have ap_bG_1 := hid (show w8.heap.size ∉ F1 from fun hm => by have h9 := o1.lt _ hm; omega)
      have ap_bG_2 := hid (show w8.heap.size ∉ F2 from fun hm => by have h9 := o2.lt _ hm; omega)
      have ap_bG_3 := hid (show w8.heap.size ∉ F3 from fun hm => by have h9 := o3.lt _ hm; omega)
      have ap_bG_4 := hid (show w8.heap.size ∉ F4 from fun hm => by have h9 := o4.lt _ hm; omega)
      replace hW := hW.trans y8
      replace bA := bA.ext y8
      replace o1 := o1.ext y8
      replace o2 := o2.ext y8
      replace bX := bX.ext y8
      replace o3 := o3.ext y8
      replace bY := bY.ext y8
      replace o4 := o4.ext y8
      clear y8
      have ap_o2_1 := hid ap_o1_2.out.symm
      have ap_o3_1 := hid ap_o1_3.out.symm
      have ap_o4_1 := hid ap_o1_4.out.symm
      have ap_o3_2 := hid ap_o2_3.out.symm
      have ap_o4_2 := hid ap_o2_4.out.symm
      have ap_o4_3 := hid ap_o3_4.out.symm
      obtain ⟨bGc0, bGc1, bGc2⟩ := (⟨bG.cells.1 0, bG.cells.1 1, bG.cells.1 2⟩ : _ ∧ _ ∧ _)
      obtain ⟨bAc0, bAc1, bAc2⟩ := (⟨bA.cells.1 0, bA.cells.1 1, bA.cells.1 2⟩ : _ ∧ _ ∧ _)
      go_wp2_with fail
      refine (eqStore_c _ _ rs rs _ o4.at_ o1.at_).mono ?_
      rintro e w9 ⟨rfl, x9⟩
      rw [eqB_self]
      clear bGc0 bGc1 bGc2
      clear bAc0 bAc1 bAc2
      replace hW := hW.trans x9
      replace bA := bA.ext x9
      replace o1 := o1.ext x9
      replace o2 := o2.ext x9
      replace bX := bX.ext x9
      replace o3 := o3.ext x9
      replace bY := bY.ext x9
      replace o4 := o4.ext x9
      replace bG := bG.ext x9
      clear x9
      have HK2 := hid (show ∀ W, Ext w9 W → (W.cell? ⟨w6.heap.size, 0, none⟩ = some (.int .i64 s.version) ∧ W.cell? ⟨w6.heap.size, 1, none⟩ = some (.slice A2 s.records.length q2) ∧ W.cell? ⟨w6.heap.size, 2, none⟩ = some (.slice B2 s.verdicts.length p2)) ∧ (W.cell? ⟨w.heap.size, 0, none⟩ = some (.int .i64 s.version) ∧ W.cell? ⟨w.heap.size, 1, none⟩ = some (a0) ∧ W.cell? ⟨w.heap.size, 2, none⟩ = some (a1)) from fun W y => ⟨⟨(bX.ext y).cells.1 0, (bX.ext y).cells.1 1, (bX.ext y).cells.1 2⟩, (HB.out _ (hW.trans y)).1⟩)
      go_wp2_with fail
      go_region_held3 (fun w' => (w'.cell? ⟨w6.heap.size, 0, none⟩ = some (.int .i64 s.version) ∧ w'.cell? ⟨w6.heap.size, 1, none⟩ = some (.slice A2 s.records.length q2) ∧ w'.cell? ⟨w6.heap.size, 2, none⟩ = some (.slice B2 s.verdicts.length p2)) ∧ (w'.cell? ⟨w.heap.size, 0, none⟩ = some (.int .i64 s.version) ∧ w'.cell? ⟨w.heap.size, 1, none⟩ = some (a0) ∧ w'.cell? ⟨w.heap.size, 2, none⟩ = some (a1)))
        (exact HK2.out _ (by repeat (first | with_reducible exact Ext.refl _ | with_reducible assumption | with_reducible refine Ext.drew ?_ | with_reducible refine Ext.alloc ?_ _ | with_reducible refine Ext.trans ?_ (by with_reducible assumption))))
        (first | (go_at_call 9; refine (toStore_c _ s _ ?hr HS0).mono ?_; (case hr => exact (z0.mono hW).mono (by repeat (first | with_reducible exact Ext.refl _ | with_reducible assumption | with_reducible refine Ext.drew ?_ | with_reducible refine Ext.alloc ?_ _ | with_reducible refine Ext.trans ?_ (by with_reducible assumption)))); rintro e wa ⟨va, Fa, rfl, oa, na, xa⟩) | (go_at_call 12; refine (eqStore_c _ _ s s _ ?ha ?hb).mono ?_; (case ha => exact (o2.ext (by repeat (first | with_reducible exact Ext.refl _ | with_reducible assumption | with_reducible refine Ext.drew ?_ | with_reducible refine Ext.alloc ?_ _ | with_reducible refine Ext.trans ?_ (by with_reducible assumption)))).at_); (case hb => exact oa.at_); rintro e w10 ⟨rfl, xb⟩; rw [eqB_self]))
      have x10 : Ext w9 w10 := (by repeat (first | with_reducible exact Ext.refl _ | with_reducible assumption | with_reducible refine Ext.drew ?_ | with_reducible refine Ext.alloc ?_ _ | with_reducible refine Ext.trans ?_ (by with_reducible assumption)))
      clear xa xb oa na HK2
      replace hW := hW.trans x10
      replace bA := bA.ext x10
      replace o1 := o1.ext x10
      replace o2 := o2.ext x10
      replace bX := bX.ext x10
      replace o3 := o3.ext x10
      replace bY := bY.ext x10
      replace o4 := o4.ext x10
      replace bG := bG.ext x10
      clear x10
      have HK2 := hid (show ∀ W, Ext w10 W → (W.cell? ⟨w7.heap.size, 0, none⟩ = some (.slice A3 b.ops.length q3)) ∧ (W.cell? ⟨w.heap.size + 1, 0, none⟩ = some (a2)) from fun W y => ⟨(bY.ext y).cells.1 0, (HB.out _ (hW.trans y)).2⟩)
      go_wp2_with fail
      go_region_held3 (fun w' => (w'.cell? ⟨w7.heap.size, 0, none⟩ = some (.slice A3 b.ops.length q3)) ∧ (w'.cell? ⟨w.heap.size + 1, 0, none⟩ = some (a2)))
        (exact HK2.out _ (by repeat (first | with_reducible exact Ext.refl _ | with_reducible assumption | with_reducible refine Ext.drew ?_ | with_reducible refine Ext.alloc ?_ _ | with_reducible refine Ext.trans ?_ (by with_reducible assumption))))
        (first | (go_at_call 10; refine (toBatch_c _ b _ ?hr HS1).mono ?_; (case hr => exact (z1.mono hW).mono (by repeat (first | with_reducible exact Ext.refl _ | with_reducible assumption | with_reducible refine Ext.drew ?_ | with_reducible refine Ext.alloc ?_ _ | with_reducible refine Ext.trans ?_ (by with_reducible assumption)))); rintro e wa ⟨va, Fa, rfl, oa, na, xa⟩) | (go_at_call 13; refine (eqBatch_c _ _ b b _ ?ha ?hb).mono ?_; (case ha => exact ⟨_, rfl, trivial, (o3.ext (by repeat (first | with_reducible exact Ext.refl _ | with_reducible assumption | with_reducible refine Ext.drew ?_ | with_reducible refine Ext.alloc ?_ _ | with_reducible refine Ext.trans ?_ (by with_reducible assumption)))).sl⟩); (case hb => exact oa.at_); rintro e w11 ⟨rfl, xb⟩; rw [eqB_self]))
      have x11 : Ext w10 w11 := (by repeat (first | with_reducible exact Ext.refl _ | with_reducible assumption | with_reducible refine Ext.drew ?_ | with_reducible refine Ext.alloc ?_ _ | with_reducible refine Ext.trans ?_ (by with_reducible assumption)))
      clear xa xb oa na HK2
      replace hW := hW.trans x11
      replace bA := bA.ext x11
      replace o1 := o1.ext x11
      replace o2 := o2.ext x11
      replace bX := bX.ext x11
      replace o3 := o3.ext x11
      replace bY := bY.ext x11
      replace o4 := o4.ext x11
      replace bG := bG.ext x11
      clear x11
      obtain ⟨bXc0, bXc1, bXc2⟩ := (⟨bX.cells.1 0, bX.cells.1 1, bX.cells.1 2⟩ : _ ∧ _ ∧ _)
      go_wp2_with fail
      refine (markStore_t _ s F2 1 _ o2 N2.out (by omega) HC2.out).mono ?_
      rintro e w12 ⟨s2, rfl, o2b, _, hc⟩
      clear o2b
      clear bXc0 bXc1 bXc2
      clear o2 bX
      replace bA := bA.keep (hc.block _ (block_lt bA) ap_bA_2.out)
      replace o1 := o1.keep fun b9 hb9 => hc.block b9 (o1.lt b9 hb9) (ap_o1_2.out b9 hb9)
      replace o3 := hc.keepSl ap_o3_2.out o3
      replace bY := bY.keep (hc.block _ (block_lt bY) ap_bY_2.out)
      replace o4 := o4.keep fun b9 hb9 => hc.block b9 (o4.lt b9 hb9) (ap_o4_2.out b9 hb9)
      replace bG := bG.keep (hc.block _ (block_lt bG) ap_bG_2.out)
      replace hW := hc.ext hF2.out hW
      clear hc
      obtain ⟨k1, hk1⟩ : ∃ k : Int, k = 1 + (stoCnt s : Nat) := ⟨_, rfl⟩
      rw [← hk1] at HC3 ⊢
      have hk1n : 0 ≤ k1 := by omega
      clear hk1
      have bYc0 := bY.cells.1 0
      go_wp2_with fail
      refine (markBatch_c _ b.ops F3 k1 _ o3 N3.out hk1n HC3.out).mono ?_
      rintro e w13 ⟨ys, rfl, o3b, _, hc⟩
      clear o3b
      clear bYc0
      clear o3 bY
      replace bA := bA.keep (hc.block _ (block_lt bA) ap_bA_3.out)
      replace o1 := o1.keep fun b9 hb9 => hc.block b9 (o1.lt b9 hb9) (ap_o1_3.out b9 hb9)
      replace o4 := o4.keep fun b9 hb9 => hc.block b9 (o4.lt b9 hb9) (ap_o4_3.out b9 hb9)
      replace bG := bG.keep (hc.block _ (block_lt bG) ap_bG_3.out)
      replace hW := hc.ext hF3.out hW
      clear hc
      obtain ⟨k2, hk2⟩ : ∃ k : Int, k = k1 + ((lstMk opMk).cnt b.ops : Nat) := ⟨_, rfl⟩
      rw [← hk2]
      have hk2n : 0 ≤ k2 := by omega
      clear hk2 hk1n
      obtain ⟨bGc0, bGc1, bGc2⟩ := (⟨bG.cells.1 0, bG.cells.1 1, bG.cells.1 2⟩ : _ ∧ _ ∧ _)
      obtain ⟨bAc0, bAc1, bAc2⟩ := (⟨bA.cells.1 0, bA.cells.1 1, bA.cells.1 2⟩ : _ ∧ _ ∧ _)
      go_wp2_with fail
      refine (eqStore_c _ _ rs rs _ o4.at_ o1.at_).mono ?_
      rintro e w14 ⟨rfl, x14⟩
      rw [eqB_self]
      clear bGc0 bGc1 bGc2
      clear bAc0 bAc1 bAc2
      replace hW := hW.trans x14
      replace bA := bA.ext x14
      replace o1 := o1.ext x14
      replace o4 := o4.ext x14
      replace bG := bG.ext x14
      clear x14
      obtain ⟨bGc0, bGc1, bGc2⟩ := (⟨bG.cells.1 0, bG.cells.1 1, bG.cells.1 2⟩ : _ ∧ _ ∧ _)
      go_wp2_with fail
      refine (markStore_t _ rs F4 1 _ o4 N4.out (by omega) HC4.out).mono ?_
      rintro e w15 ⟨s4, rfl, o4b, his, hc⟩
      have HIS := hid his
      clear his
      clear bGc0 bGc1 bGc2
      clear o4
      replace bA := bA.keep (hc.block _ (block_lt bA) ap_bA_4.out)
      replace o1 := o1.keep fun b9 hb9 => hc.block b9 (o1.lt b9 hb9) (ap_o1_4.out b9 hb9)
      replace bG := bG.keep (hc.block _ (block_lt bG) ap_bG_4.out)
      replace hW := hc.ext hF4.out hW
      clear hc
      obtain ⟨k3, hk3⟩ : ∃ k : Int, k = 1 + (stoCnt rs : Nat) := ⟨_, rfl⟩
      have HK3 := hid hk3
      rw [← hk3]
      have hk3n : 0 ≤ k3 := by omega
      have hk3e : (k3 != k3) = false := by simp
      clear hk3
      obtain ⟨bGc0, bGc1, bGc2⟩ := (⟨bG.cells.1 0, bG.cells.1 1, bG.cells.1 2⟩ : _ ∧ _ ∧ _)
      go_wp2_with fail
      refine (heldStore_t _ rs s4 1 _ o4b.at_ HIS.out (by omega) HC4.out).mono ?_
      rintro e w16 ⟨rfl, x16⟩
      rw [← HK3.out]
      clear bGc0 bGc1 bGc2
      replace hW := hW.trans x16
      replace bA := bA.ext x16
      replace o1 := o1.ext x16
      replace bG := bG.ext x16
      replace o4b := o4b.ext x16
      clear x16
      clear hk2n
      have HK := hid (show ∀ W, Ext w16 W → (W.cell? ⟨w.heap.size, 0, none⟩ = some (.int .i64 s.version) ∧ W.cell? ⟨w.heap.size, 1, none⟩ = some (a0) ∧ W.cell? ⟨w.heap.size, 2, none⟩ = some (a1)) ∧ (W.cell? ⟨w.heap.size + 1, 0, none⟩ = some (a2)) from fun W y => HB.out _ (hW.trans y))
      have HZ0 := hid (fun (W : World) (y : Ext w16 W) => z0.mono (hW.trans y))
      have HZ1 := hid (fun (W : World) (y : Ext w16 W) => z1.mono (hW.trans y))
      go_upto_region 31 with fail
      go_cut [15, 16] from 94 (fun p q wx => BoxIs w16 wx p (appB s b).1 ∧ q = .bool (appB s b).2)
      case first =>
        go_region_held3 (fun w' => (w'.cell? ⟨w.heap.size, 0, none⟩ = some (.int .i64 s.version) ∧ w'.cell? ⟨w.heap.size, 1, none⟩ = some (a0) ∧ w'.cell? ⟨w.heap.size, 2, none⟩ = some (a1)) ∧ (w'.cell? ⟨w.heap.size + 1, 0, none⟩ = some (a2)))
          (exact HK.out _ (by repeat (first | with_reducible exact Ext.refl _ | with_reducible assumption | with_reducible refine Ext.drew ?_ | with_reducible refine Ext.alloc ?_ _ | (refine Ext.setCell ?_ (by first | (simp; done) | omega | (simp; omega)) _) | with_reducible refine Ext.trans ?_ (by with_reducible assumption))))
          (first | (go_at_call 9; with_reducible refine (toStore_c (.agg #[.int .i64 s.version, a0, a1]) s _ ?hr HS0).mono ?_; (case hr => exact HZ0.out _ (by repeat (first | with_reducible exact Ext.refl _ | with_reducible assumption | with_reducible refine Ext.drew ?_ | with_reducible refine Ext.alloc ?_ _ | (refine Ext.setCell ?_ (by first | (simp; done) | omega | (simp; omega)) _) | with_reducible refine Ext.trans ?_ (by with_reducible assumption)))); rintro e wa ⟨va, Fa, rfl, oa, na, xa⟩; have sa := xa.size; (try simp at sa)) | (go_at_call 10; with_reducible refine (toBatch_c (.agg #[a2]) b _ ?hr HS1).mono ?_; (case hr => exact HZ1.out _ (by repeat (first | with_reducible exact Ext.refl _ | with_reducible assumption | with_reducible refine Ext.drew ?_ | with_reducible refine Ext.alloc ?_ _ | (refine Ext.setCell ?_ (by first | (simp; done) | omega | (simp; omega)) _) | with_reducible refine Ext.trans ?_ (by with_reducible assumption)))); rintro e wb ⟨vb, Fb, rfl, ob, nb, xb⟩; have sb := xb.size; (try simp at sb)) | (go_at_call 11; refine (impl_ApplyBatch _ _ s b _ ?ha ?hb HMS.out.1 HMS.out.2).mono ?_; (case ha => exact oa.at_.mono (by repeat (first | with_reducible exact Ext.refl _ | with_reducible assumption | with_reducible refine Ext.drew ?_ | with_reducible refine Ext.alloc ?_ _ | (refine Ext.setCell ?_ (by first | (simp; done) | omega | (simp; omega)) _) | with_reducible refine Ext.trans ?_ (by with_reducible assumption)))); (case hb => exact ob.at_.mono (by repeat (first | with_reducible exact Ext.refl _ | with_reducible assumption | with_reducible refine Ext.drew ?_ | with_reducible refine Ext.alloc ?_ _ | (refine Ext.setCell ?_ (by first | (simp; done) | omega | (simp; omega)) _) | with_reducible refine Ext.trans ?_ (by with_reducible assumption)))); rintro e wz ⟨rv, vv, F, rfl, R, hIr, xc⟩; have sc := xc.size; (try simp at sc); obtain ⟨F9, o9, n9, l9⟩ := R.own hIr; obtain ⟨Ar, cr, er, _⟩ := R.r.sl.form; subst er; obtain ⟨Av, cv, ev, _⟩ := R.v.sl.form; subst ev; clear R; (first | (refine (fun (x8 : Ext (w16.alloc (.cells #[.int .i64 0, .slice none 0 0, .slice none 0 0] 34)) wz) => ?_) ?_; rotate_left; (focus ((repeat (first | with_reducible exact Ext.refl _ | with_reducible assumption | with_reducible refine Ext.drew ?_ | with_reducible refine Ext.alloc ?_ _ | with_reducible refine Ext.trans ?_ (by with_reducible assumption))); done)); have b8 := (Blk.new w16 34 #[.int .i64 0, .slice none 0 0, .slice none 0 0]).ext x8; have c80 : wz.cell? ⟨w16.heap.size, 0, none⟩ = some (.int .i64 0) := b8.cells.1 0; have c81 : wz.cell? ⟨w16.heap.size, 1, none⟩ = some (.slice none 0 0) := b8.cells.1 1; have c82 : wz.cell? ⟨w16.heap.size, 2, none⟩ = some (.slice none 0 0) := b8.cells.1 2; have f8 : ∀ i, wz.frozen? ⟨w16.heap.size, i, none⟩ = false := b8.cells.2) | (refine (fun (x8 : Ext (wa.alloc (.cells #[.int .i64 0, .slice none 0 0, .slice none 0 0] 34)) wz) => ?_) ?_; rotate_left; (focus ((repeat (first | with_reducible exact Ext.refl _ | with_reducible assumption | with_reducible refine Ext.drew ?_ | with_reducible refine Ext.alloc ?_ _ | with_reducible refine Ext.trans ?_ (by with_reducible assumption))); done)); have b8 := (Blk.new wa 34 #[.int .i64 0, .slice none 0 0, .slice none 0 0]).ext x8; have c80 : wz.cell? ⟨wa.heap.size, 0, none⟩ = some (.int .i64 0) := b8.cells.1 0; have c81 : wz.cell? ⟨wa.heap.size, 1, none⟩ = some (.slice none 0 0) := b8.cells.1 1; have c82 : wz.cell? ⟨wa.heap.size, 2, none⟩ = some (.slice none 0 0) := b8.cells.1 2; have f8 : ∀ i, wz.frozen? ⟨wa.heap.size, i, none⟩ = false := b8.cells.2) | (refine (fun (x8 : Ext (wb.alloc (.cells #[.int .i64 0, .slice none 0 0, .slice none 0 0] 34)) wz) => ?_) ?_; rotate_left; (focus ((repeat (first | with_reducible exact Ext.refl _ | with_reducible assumption | with_reducible refine Ext.drew ?_ | with_reducible refine Ext.alloc ?_ _ | with_reducible refine Ext.trans ?_ (by with_reducible assumption))); done)); have b8 := (Blk.new wb 34 #[.int .i64 0, .slice none 0 0, .slice none 0 0]).ext x8; have c80 : wz.cell? ⟨wb.heap.size, 0, none⟩ = some (.int .i64 0) := b8.cells.1 0; have c81 : wz.cell? ⟨wb.heap.size, 1, none⟩ = some (.slice none 0 0) := b8.cells.1 1; have c82 : wz.cell? ⟨wb.heap.size, 2, none⟩ = some (.slice none 0 0) := b8.cells.1 2; have f8 : ∀ i, wz.frozen? ⟨wb.heap.size, i, none⟩ = false := b8.cells.2) | skip)))
        all_goals
          go_wp2_with fail
          go_meet
          first
            | exact ⟨lawbox2 o9 b8 (by first | omega | (simp; omega)) (fun hm => by have h1 := l9 _ hm; (try simp at h1); omega) ⟨n9, fun b9 hb9 => by have h1 := l9 b9 hb9; (try simp at h1); omega⟩ (by repeat (first | with_reducible exact Ext.refl _ | with_reducible assumption | with_reducible refine Ext.drew ?_ | with_reducible refine Ext.alloc ?_ _ | (refine Ext.setCell ?_ (by first | (simp; done) | omega | (simp; omega)) _) | with_reducible refine Ext.trans ?_ (by with_reducible assumption))), rfl⟩
            | exact ⟨lawbox1 o9 ⟨n9, fun b9 hb9 => by have h1 := l9 b9 hb9; (try simp at h1); omega⟩ (by repeat (first | with_reducible exact Ext.refl _ | with_reducible assumption | with_reducible refine Ext.drew ?_ | with_reducible refine Ext.alloc ?_ _ | (refine Ext.setCell ?_ (by first | (simp; done) | omega | (simp; omega)) _) | with_reducible refine Ext.trans ?_ (by with_reducible assumption))), rfl⟩
      case' rest => skip
      rename_i wd
      obtain ⟨⟨gH, r5, d5, F5, rfl, bH, o5, n5, hgH, hgF5, x17⟩, rfl⟩ := hcut
      rw [← HR.out] at bH o5 ⊢
      dsimp only at bH o5 ⊢
      clear n5 hgH hgF5
      replace hW := hW.trans x17
      replace bA := bA.ext x17
      replace o1 := o1.ext x17
      replace bG := bG.ext x17
      replace o4b := o4b.ext x17
      clear x17
      obtain ⟨bHc0, bHc1, bHc2⟩ := (⟨bH.cells.1 0, bH.cells.1 1, bH.cells.1 2⟩ : _ ∧ _ ∧ _)
      obtain ⟨bAc0, bAc1, bAc2⟩ := (⟨bA.cells.1 0, bA.cells.1 1, bA.cells.1 2⟩ : _ ∧ _ ∧ _)
      go_wp2_with fail
      refine (eqStore_c _ _ rs rs _ o5.at_ o1.at_).mono ?_
      rintro e w18 ⟨rfl, x18⟩
      rw [eqB_self]
      clear bHc0 bHc1 bHc2
      clear bAc0 bAc1 bAc2
      replace hW := hW.trans x18
      replace bA := bA.ext x18
      replace o1 := o1.ext x18
      replace bG := bG.ext x18
      replace o4b := o4b.ext x18
      replace bH := bH.ext x18
      replace o5 := o5.ext x18
      clear x18
      obtain ⟨bGc0, bGc1, bGc2⟩ := (⟨bG.cells.1 0, bG.cells.1 1, bG.cells.1 2⟩ : _ ∧ _ ∧ _)
      go_wp2_with fail
      refine (heldStore_t _ rs s4 1 _ o4b.at_ HIS.out (by omega) HC4.out).mono ?_
      rintro e w19 ⟨rfl, x19⟩
      rw [← HK3.out]
      clear bGc0 bGc1 bGc2
      replace hW := hW.trans x19
      replace bA := bA.ext x19
      replace o1 := o1.ext x19
      replace bG := bG.ext x19
      replace o4b := o4b.ext x19
      replace bH := bH.ext x19
      replace o5 := o5.ext x19
      clear x19
      go_wp2
      go_ret
      exact ⟨rfl, xw.trans hW⟩

end Go.Proofs.YtfcbapaojoecgaaGreat
