/-
  A batch: how it lies; WALKS: szBatch, toBatch, eqBatch.
-/
import Derived.Test.YtfieimmlcopbhaaDoorOpS
namespace Go.Proofs.YtfieimmlcopbhaaDoor
open Go.RowKit

structure Batch where
  ops : List Op
def BatAt (w : World) (v : Value) (b : Batch) : Prop := ∃ o, v = .agg #[o] ∧ True ∧ Sl opR w o b.ops
def BatOwn (w : World) (v : Value) (b : Batch) (F : List Nat) : Prop := ∃ o, v = .agg #[o] ∧ True ∧ OwnSl opO w o b.ops F
theorem BatAt.mono {w w2 : World} {v : Value} {b : Batch} (e : Ext w w2) (h : BatAt w v b) : BatAt w2 v b := let ⟨f, a, t, c⟩ := h; ⟨f, a, t, c.mono e⟩
theorem BatOwn.at_ {w : World} {v : Value} {b : Batch} {F : List Nat} (h : BatOwn w v b F) : BatAt w v b := let ⟨f, a, t, c⟩ := h; ⟨f, a, t, c.sl⟩
theorem BatOwn.lt {w : World} {v : Value} {b : Batch} {F : List Nat} (h : BatOwn w v b F) : ∀ k ∈ F, k < w.heap.size := let ⟨_, _, _, c⟩ := h; c.lt
theorem BatOwn.keep {w w2 : World} {v : Value} {b : Batch} {F : List Nat} (h : BatOwn w v b F) (k : ∀ i ∈ F, w2.heap[i]? = w.heap[i]?) : BatOwn w2 v b F := let ⟨f, a, t, c⟩ := h; ⟨f, a, t, c.keep k⟩
theorem BatOwn.ext {w w2 : World} {v : Value} {b : Batch} {F : List Nat} (h : BatOwn w v b F) (e : Ext w w2) : BatOwn w2 v b F := h.keep fun i hi => e.block (h.lt i hi)
def msBat (b : Batch) : Nat := b.ops.length + sumBy msOp b.ops
theorem Batch.eta (x y : Batch) : x = y ↔ x.ops = y.ops := by cases x; cases y; simp

set_option maxHeartbeats 400000 in
theorem szBatch_c (v : Value) (b : Batch) (left : Int) (w : World) (h : BatAt w v b) (h0 : 0 ≤ left) (h1 : left ≤ 1048576) :
    Calls Tryd.prog 7 #[v, .int .i64 left] w fun e w2 => e = .returned (.int .i64 (szv ((msBat b : Nat) : Int) left)) ∧ Ext w w2 := by
  obtain ⟨f, rfl, _, hs⟩ := h
  go_enter Tryd.func7, Tryd.ntmps7
  go_wp2_with fail
  refine (szOpS_c _ b.ops _ _ (hs.mono (by repeat (first | with_reducible exact Ext.refl _ | with_reducible assumption | with_reducible refine Ext.drew ?_ | with_reducible refine Ext.alloc ?_ _ | (refine Ext.setCell ?_ (by simp) _) | with_reducible refine Ext.trans ?_ (by with_reducible assumption)))) h0 h1).mono ?_
  rintro e w2 ⟨rfl, x2⟩
  rw [show ((b.ops.length + sumBy msOp b.ops : Nat) : Int) = ((msBat b : Nat) : Int) from rfl]
  by_cases hs9 : left < ((msBat b : Nat) : Int)
  · have HS := hid hs9
    rw [szv_neg hs9]
    clear hs9
    go_wp2
    go_ret
    exact ⟨ret_int (szv_neg HS.out).symm, (by repeat (first | with_reducible exact Ext.refl _ | with_reducible assumption | with_reducible refine Ext.drew ?_ | with_reducible refine Ext.alloc ?_ _ | with_reducible refine Ext.trans ?_ (by with_reducible assumption)))⟩
  · have hs0 := szv_nn hs9
    have hs1 := szv_le (n := ((msBat b : Nat) : Int)) (left := left) (by omega) (by omega)
    obtain ⟨L, hL⟩ : ∃ L, L = szv ((msBat b : Nat) : Int) left := ⟨_, rfl⟩
    rw [← hL] at hs0 hs1 ⊢
    have HL := hid hL
    clear hL
    have HS := hid hs9
    clear hs9
    go_wp2
    go_ret
    exact ⟨ret_int HL.out, (by repeat (first | with_reducible exact Ext.refl _ | with_reducible assumption | with_reducible refine Ext.drew ?_ | with_reducible refine Ext.alloc ?_ _ | with_reducible refine Ext.trans ?_ (by with_reducible assumption)))⟩

set_option maxHeartbeats 400000 in
set_option maxRecDepth 20000 in
theorem toBatch_c (v : Value) (b : Batch) (w : World) (h : BatAt w v b) (hb : msBat b ≤ 1048576) :
    Calls Tryd.prog 9 #[v] w fun e w2 => ∃ v2 F, e = .returned v2 ∧ BatOwn w2 v2 b F ∧ NewF w F ∧ Ext w w2 := by
  obtain ⟨f, rfl, _, hs⟩ := h
  go_enter Tryd.func9, Tryd.ntmps9
  go_wp2_with fail
  refine (toOpS_c _ b.ops _ (hs.mono (by repeat (first | with_reducible exact Ext.refl _ | with_reducible assumption | with_reducible refine Ext.drew ?_ | with_reducible refine Ext.alloc ?_ _ | (refine Ext.setCell ?_ (by simp) _) | with_reducible refine Ext.trans ?_ (by with_reducible assumption)))) hb).mono ?_
  rintro e w2 ⟨v2, F, rfl, ho, hn, x2⟩
  obtain ⟨A2, cap2, e2, _⟩ := ho.form
  subst e2
  obtain ⟨c2, f2⟩ := x2.box2
  obtain ⟨c1, f1⟩ := (((Ext.refl _).alloc _).trans x2).box1
  have hlt : ∀ b ∈ F, w.heap.size + 1 + 1 < b := fun b hb => by have := hn.2 b hb; simp at this; omega
  go_wp2
  refine bodyPost_ret (v := .agg #[.slice A2 b.ops.length cap2]) (by simp [results, Tryd.results9, go_sem, c1, f1]) rfl ?_
  have e9 := hn.ext (w := w) (by repeat (first | with_reducible exact Ext.refl _ | with_reducible assumption | with_reducible refine Ext.drew ?_ | with_reducible refine Ext.alloc ?_ _ | with_reducible refine Ext.trans ?_ (by with_reducible assumption)))
  have x9 : Ext w w2 := (by repeat (first | with_reducible exact Ext.refl _ | with_reducible assumption | with_reducible refine Ext.drew ?_ | with_reducible refine Ext.alloc ?_ _ | with_reducible refine Ext.trans ?_ (by with_reducible assumption)))
  clear hn x2 c1 f1 c2 f2
  refine ⟨_, F, rfl, ⟨_, rfl, trivial, ?_⟩, e9, ?_⟩
  · repeat (first | with_reducible exact ho | (refine OwnSl.setCell ?_ (fun h9 => by have := hlt _ h9; simp only at this; omega) _))
  · repeat (refine Ext.setCell ?_ (by simp; try omega) _)
    exact x9

set_option maxHeartbeats 400000 in
theorem eqBatch_c (v u : Value) (x y : Batch) (w : World) (h : BatAt w v x) (k : BatAt w u y) :
    Calls Tryd.prog 11 #[v, u] w fun e w2 => e = .returned (.bool (eqB x y)) ∧ Ext w w2 := by
  obtain ⟨f, rfl, _, hs⟩ := h
  obtain ⟨g, rfl, _, hs2⟩ := k
  go_enter Tryd.func11, Tryd.ntmps11
  go_wp2_with fail
  refine (eqOpS_c _ _ x.ops y.ops _ (hs.mono (by repeat (first | with_reducible exact Ext.refl _ | with_reducible assumption | with_reducible refine Ext.drew ?_ | with_reducible refine Ext.alloc ?_ _ | (refine Ext.setCell ?_ (by simp) _) | with_reducible refine Ext.trans ?_ (by with_reducible assumption)))) (hs2.mono (by repeat (first | with_reducible exact Ext.refl _ | with_reducible assumption | with_reducible refine Ext.drew ?_ | with_reducible refine Ext.alloc ?_ _ | (refine Ext.setCell ?_ (by simp) _) | with_reducible refine Ext.trans ?_ (by with_reducible assumption))))).mono ?_
  rintro e w2 ⟨rfl, x2⟩
  by_cases h4 : x.ops = y.ops
  · rw [eqB_true h4]
    have H4 := hid h4
    clear h4
    go_wp2
    go_ret
    exact ⟨ret_bool (eqB_true ((Batch.eta x y).2 H4.out)).symm, (by repeat (first | with_reducible exact Ext.refl _ | with_reducible assumption | with_reducible refine Ext.drew ?_ | with_reducible refine Ext.alloc ?_ _ | (refine Ext.setCell ?_ (by simp) _) | with_reducible refine Ext.trans ?_ (by with_reducible assumption)))⟩
  · rw [eqB_false h4]
    have H4 := hid h4
    clear h4
    go_wp2
    go_ret
    exact ⟨ret_bool (eqB_false fun e => H4.out (by rw [e])).symm, (by repeat (first | with_reducible exact Ext.refl _ | with_reducible assumption | with_reducible refine Ext.drew ?_ | with_reducible refine Ext.alloc ?_ _ | (refine Ext.setCell ?_ (by simp) _) | with_reducible refine Ext.trans ?_ (by with_reducible assumption)))⟩

theorem reads_op9 {cs : List Value} (h : cs.length = 9) {a : Value} {r d : List Value} (ha : (cs.drop 0).take 1 = [a]) (hr : (cs.drop 1).take 4 = r) (hd : (cs.drop 5).take 4 = d) : cs = a :: (r ++ d) := by
  match cs, h with
  | [x0, x1, x2, x3, x4, x5, x6, x7, x8], _ => subst hr; subst hd; simp_all
theorem rLawOp : Reads Tryd.prog 79 opR := by
  refine ⟨by kernel_rfl, fun h => ?_⟩
  have ht := Tryd.underlying79
  obtain ⟨a, e0, w0⟩ := Reads.field ht h 0 _ rfl rInt
  obtain ⟨r, f, e1, k1, s1⟩ := Reads.field ht h 1 _ rfl rLawRecord
  obtain ⟨d, e2, k2⟩ := Reads.field ht h 2 _ rfl rLawVerdict
  exact ⟨⟨a, r, d⟩, f, reads_op9 ((struct_len ht h).trans (by kernel_rfl)) e0 e1 e2, ⟨w0, k1, k2⟩, s1⟩
theorem rLawOps : Reads Tryd.prog 22 (slR opR) := reads_slice Tryd.underlying22 (by kernel_rfl) (by decide) rLawOp
def batchR : Rep Batch := ⟨1, fun w cs b => ∃ o, cs = [o] ∧ True ∧ Sl opR w o b.ops, fun ⟨_, h, _⟩ => by rw [h]; rfl, fun x ⟨o, a, t, c⟩ => ⟨o, a, t, c.mono x⟩⟩
theorem rLawBatch : Reads Tryd.prog 24 batchR := by
  refine ⟨by kernel_rfl, fun h => ?_⟩
  have ht := Tryd.underlying24
  obtain ⟨l, v1, e1, w1⟩ := Reads.field ht h 0 _ rfl rLawOps
  have hl := (struct_len ht h).trans (show Tryd.prog.cellsOf 24 = 1 by kernel_rfl)
  rename_i cs _
  refine ⟨⟨l⟩, v1, ?_, trivial, w1⟩
  match cs, hl with
  | [x], _ =>
    have e2 : ([x].drop 0).take 1 = [v1] := e1
    simpa using e2
end Go.Proofs.YtfieimmlcopbhaaDoor
