/-
  SEVERAL SMALL TEXTS LAID TOGETHER: Bat, ShTrimP, ShTrimS, MarkOB.
-/
import Derived.Test.YtfieimmlcopbhaaGreatDoorMgEndPO15
import Derived.Shelf.Strings.Prefix
import Derived.Test.YtfieimmlcopbhaaGreatDoorMgEndPO0
import Derived.Test.YtfieimmlcopbhaaGreatDoorMgEndPO11

namespace Go.Proofs.YtfieimmlcopbhaaGreatDoor
open Go.RowKit

structure Batch where
  ops : List Op
def BatAt (w : World) (v : Value) (b : Batch) : Prop := ∃ o, v = .agg #[o] ∧ True ∧ Sl opR w o b.ops
def BatOwn (w : World) (v : Value) (b : Batch) (F : List Nat) : Prop := ∃ o, v = .agg #[o] ∧ True ∧ OwnSl opO w o b.ops F
theorem BatAt.mono {w w2 : World} {v : Value} {b : Batch} (e : Ext w w2) (h : BatAt w v b) : BatAt w2 v b := let ⟨f, a, t, c⟩ := h; ⟨f, a, t, c.mono e⟩
theorem BatOwn.at_ {w : World} {v : Value} {b : Batch} {F : List Nat} (h : BatOwn w v b F) : BatAt w v b := let ⟨f, a, t, c⟩ := h; ⟨f, a, t, c.sl⟩
theorem BatOwn.lt {w : World} {v : Value} {b : Batch} {F : List Nat} (h : BatOwn w v b F) : ∀ k ∈ F, k < w.heap.size := let ⟨_, _, _, c⟩ := h; c.lt
theorem BatOwn.keep {w w2 : World} {v : Value} {b : Batch} {F : List Nat} (h : BatOwn w v b F) (k : ∀ i ∈ F, w2.heap[i]? = w.heap[i]?) : BatOwn w2 v b F := let ⟨f, a, t, c⟩ := h; ⟨f, a, t, c.keep k⟩
theorem BatOwn.ext {w w2 : World} {v : Value} {b : Batch} {F : List Nat} (h : BatOwn w v b F) (e : Ext w w2) : BatOwn w2 v b F := h.keep fun i hi => e.block (h.lt i hi)
def msBat (b : Batch) : Nat := b.ops.length + sumBy msOp b.ops
theorem Batch.eta (x y : Batch) : x = y ↔ x.ops = y.ops := by cases x; cases y; simp

set_option maxHeartbeats 400000 in
theorem eqBatch_c (v u : Value) (x y : Batch) (w : World) (h : BatAt w v x) (k : BatAt w u y) :
    Calls Tryz.prog 15 #[v, u] w fun e w2 => e = .returned (.bool (eqB x y)) ∧ Ext w w2 := by
  obtain ⟨f, rfl, _, hs⟩ := h
  obtain ⟨g, rfl, _, hs2⟩ := k
  go_enter Tryz.func15, Tryz.ntmps15
  go_wp2_with fail
  refine (eqOpS_c _ _ x.ops y.ops _ (hs.mono (by repeat (first | with_reducible exact Ext.refl _ | with_reducible assumption | with_reducible refine Ext.drew ?_ | with_reducible refine Ext.alloc ?_ _ | (refine Ext.setCell ?_ (by simp) _) | with_reducible refine Ext.trans ?_ (by with_reducible assumption)))) (hs2.mono (by repeat (first | with_reducible exact Ext.refl _ | with_reducible assumption | with_reducible refine Ext.drew ?_ | with_reducible refine Ext.alloc ?_ _ | (refine Ext.setCell ?_ (by simp) _) | with_reducible refine Ext.trans ?_ (by with_reducible assumption))))).mono ?_
  rintro e w2 ⟨rfl, x2⟩
  by_cases h4 : x.ops = y.ops
  · rw [eqB_true h4]
    have H4 := hid h4
    clear h4
    go_wp2
    go_ret
    exact ⟨ret_bool (eqB_true ((Batch.eta x y).2 H4.out)).symm, (by repeat (first | with_reducible exact Ext.refl _ | with_reducible assumption | with_reducible refine Ext.drew ?_ | with_reducible refine Ext.alloc ?_ _ | (refine Ext.setCell ?_ (by simp) _) | with_reducible refine Ext.trans ?_ (by with_reducible assumption)))⟩
  · rw [eqB_false h4]
    have H4 := hid h4
    clear h4
    go_wp2
    go_ret
    exact ⟨ret_bool (eqB_false fun e => H4.out (by rw [e])).symm, (by repeat (first | with_reducible exact Ext.refl _ | with_reducible assumption | with_reducible refine Ext.drew ?_ | with_reducible refine Ext.alloc ?_ _ | (refine Ext.setCell ?_ (by simp) _) | with_reducible refine Ext.trans ?_ (by with_reducible assumption)))⟩

theorem reads_op9 {cs : List Value} (h : cs.length = 9) {a : Value} {r d : List Value} (ha : (cs.drop 0).take 1 = [a]) (hr : (cs.drop 1).take 4 = r) (hd : (cs.drop 5).take 4 = d) : cs = a :: (r ++ d) := by
  match cs, h with
  | [x0, x1, x2, x3, x4, x5, x6, x7, x8], _ => subst hr; subst hd; simp_all
def batchR : Rep Batch := ⟨1, fun w cs b => ∃ o, cs = [o] ∧ True ∧ Sl opR w o b.ops, fun ⟨_, h, _⟩ => by rw [h]; rfl, fun x ⟨o, a, t, c⟩ => ⟨o, a, t, c.mono x⟩⟩
end Go.Proofs.YtfieimmlcopbhaaGreatDoor

namespace Go.Proofs.YtfieimmlcopbhaaGreatDoor
open Go.Shelf
def lShTrimP_ren : Go.Shelf.Ren := ⟨fun | 101 => 55 | 208 => 104 | 206 => 141 | n => n, fun | 9 => 9 | 4 => 4 | 3 => 3 | n => n, fun | n => n⟩
theorem lShTrimP : Go.Proofs.Lays.n101 Tryz.prog lShTrimP_ren := {
  mixed := by kernel_rfl
  f101 := Tryz.func55.trans (congrArg some (by kernel_rfl))
  f206 := Tryz.func141.trans (congrArg some (by kernel_rfl))
  f208 := Tryz.func104.trans (congrArg some (by kernel_rfl))
  t3 := Tryz.underlying3
  a3 := Tryz.isAgg3
  z3 := Tryz.sizeOf3
  v3 := Tryz.zeroValue3
  t4 := Tryz.underlying4
  a4 := Tryz.isAgg4
  z4 := Tryz.sizeOf4
  v4 := Tryz.zeroValue4
  t9 := Tryz.underlying9
  a9 := Tryz.isAgg9
  z9 := Tryz.sizeOf9
  v9 := Tryz.zeroValue9 }
end Go.Proofs.YtfieimmlcopbhaaGreatDoor

namespace Go.Proofs.YtfieimmlcopbhaaGreatDoor
open Go.Shelf
def lShTrimS_ren : Go.Shelf.Ren := ⟨fun | 102 => 54 | 209 => 103 | 207 => 140 | n => n, fun | 9 => 9 | 4 => 4 | 3 => 3 | n => n, fun | n => n⟩
theorem lShTrimS : Go.Proofs.Lays.n102 Tryz.prog lShTrimS_ren := {
  mixed := by kernel_rfl
  f102 := Tryz.func54.trans (congrArg some (by kernel_rfl))
  f207 := Tryz.func140.trans (congrArg some (by kernel_rfl))
  f209 := Tryz.func103.trans (congrArg some (by kernel_rfl))
  t3 := Tryz.underlying3
  a3 := Tryz.isAgg3
  z3 := Tryz.sizeOf3
  v3 := Tryz.zeroValue3
  t4 := Tryz.underlying4
  a4 := Tryz.isAgg4
  z4 := Tryz.sizeOf4
  v4 := Tryz.zeroValue4
  t9 := Tryz.underlying9
  a9 := Tryz.isAgg9
  z9 := Tryz.sizeOf9
  v9 := Tryz.zeroValue9 }
end Go.Proofs.YtfieimmlcopbhaaGreatDoor

namespace Go.Proofs.YtfieimmlcopbhaaGreatDoor
open Go.RowKit

theorem OwnSl.op_open {w : World} {A : Option Addr} {n cap : Nat} {ys : List Op} {F : List Nat} {i : Nat} {x : Op} (h : OwnSl opO w (.slice A n cap) ys F) (hN : F.Nodup) (hx : ys[i]? = some x) : ∃ g off, A = some ⟨g, off, none⟩ ∧ g ∈ F := by
  obtain ⟨hi, rfl⟩ := List.getElem?_eq_some_iff.1 hx
  obtain ⟨g, off, cap', c, F1, e, hg, _⟩ := h.elem hN hi
  injection e with e1 e2 e3
  exact ⟨g, off, e1, hg⟩
theorem OwnSl.op_ok {w : World} {v : Value} {ys : List Op} {F : List Nat} {i : Nat} {x : Op} (h : OwnSl opO w v ys F) (hN : F.Nodup) (hx : ys[i]? = some x) : x.ok := by
  obtain ⟨hi, rfl⟩ := List.getElem?_eq_some_iff.1 hx
  obtain ⟨g, off, cap', c, F1, e, hg, _, _, _, ⟨m, rfl, hok, hm⟩, _⟩ := h.elem hN hi
  exact hok
theorem OwnSl.op_cells {w : World} {g off n cap : Nat} {ys : List Op} {F : List Nat} {i : Nat} {x : Op} (h : OwnSl opO w (.slice (some ⟨g, off, none⟩) n cap) ys F) (hN : F.Nodup) (hx : ys[i]? = some x) :
    ∃ m F1, (∀ j, j < 9 → w.cell? ⟨g, off + i * 9 + j, none⟩ = (x.cells m)[j]?) ∧ (∀ o, w.frozen? ⟨g, o, none⟩ = false) ∧ g ∈ F ∧ g ∉ F1 ∧ (∀ b ∈ F1, b ∈ F) ∧ F1.Nodup ∧ OwnSl strO w m x.record.fields F1 ∧
      ∀ w2 zs, (∀ b ∈ F, b ∉ F1 → w2.heap[b]? = w.heap[b]?) → OwnSl strO w2 m zs F1 → OwnSl opO w2 (.slice (some ⟨g, off, none⟩) n cap) (ys.set i ⟨x.kind, ⟨x.record.source, x.record.key, x.record.version, zs⟩, x.verdict⟩) F := by
  obtain ⟨hi, rfl⟩ := List.getElem?_eq_some_iff.1 hx
  obtain ⟨g', off', cap', c, F1, e, hg, hsub, hng, hN1, ⟨m, rfl, hok, hm⟩, _, hc, hf, hin, _⟩ := h.elem hN hi
  injection e with e1 e2 e3
  injection e1 with e1
  injection e1 with e1 e4 _
  subst e1; subst e4
  exact ⟨m, F1, hc, hf, hg, hng, hsub, hN1, hm, fun w2 zs hk hz => hin w2 _ hk ⟨m, rfl, hok, hz⟩⟩
theorem OwnSl.op_put {w : World} {g off n cap : Nat} {ys : List Op} {F : List Nat} {i j : Nat} {x x' : Op} {u : Value} (h : OwnSl opO w (.slice (some ⟨g, off, none⟩) n cap) ys F) (hN : F.Nodup) (hx : ys[i]? = some x) (hj : j < 9) (hf : x'.record.fields = x.record.fields) (hok : x'.ok) (hc : ∀ f, (x.cells f).set j u = x'.cells f) :
    OwnSl opO (w.setCell ⟨g, off + i * 9 + j, none⟩ u) (.slice (some ⟨g, off, none⟩) n cap) (ys.set i x') F ∧ (ys.set i x')[i]? = some x' := by
  obtain ⟨hi, rfl⟩ := List.getElem?_eq_some_iff.1 hx
  obtain ⟨g', off', cap', c, F1, e, hg, hsub, hng, hN1, ⟨m, rfl, _, hm⟩, _, _, _, _, hst⟩ := h.elem hN hi
  injection e with e1 e2 e3
  injection e1 with e1
  injection e1 with e1 e4 _
  subst e1; subst e4
  exact ⟨hst j u x' hj ⟨m, hc m, hok, by rw [hf]; exact hm.keep fun b hb => keep_setCell fun e => hng (by have e2 : b = g := e; exact e2 ▸ hb)⟩, by rw [List.getElem?_set_self hi]⟩
theorem op_fields {ys : List Op} {i : Nat} {x : Op} (hx : ys[i]? = some x) (y : Op) : (ys.set i y)[i]? = some y := by
  obtain ⟨hi, _⟩ := List.getElem?_eq_some_iff.1 hx
  rw [List.getElem?_set_self hi]
def opMk : Mk Op := ⟨fun o => 8 + o.record.fields.length, fun k x y =>
  y.kind = k ∧ y.record.source = k + 1 ∧ y.record.key = k + 1 + 1 ∧ y.record.version = k + 1 + 1 + 1 ∧ y.record.fields.length = x.record.fields.length ∧ MkS (k + 1 + 1 + 1 + 1) y.record.fields ∧
  y.verdict.a = k + 1 + 1 + 1 + 1 + (x.record.fields.length : Int) ∧ y.verdict.b = k + 1 + 1 + 1 + 1 + (x.record.fields.length : Int) + 1 ∧ y.verdict.same = ((k + 1 + 1 + 1 + 1 + (x.record.fields.length : Int) + 1 + 1) % 3 == 0) ∧ y.verdict.time = k + 1 + 1 + 1 + 1 + (x.record.fields.length : Int) + 1 + 1 + 1⟩

set_option maxHeartbeats 1000000 in
set_option maxRecDepth 20000 in
theorem markOpS_c (v : Value) (xs : List Op) (F : List Nat) (k : Int) (w : World) (h : OwnSl opO w v xs F) (hN : F.Nodup) (h0 : 0 ≤ k) (hb : k + (lstMk opMk).cnt xs ≤ 1152921504606846976) :
    Calls Tryz.prog 57 #[v, .int .i64 k] w fun e w2 => ∃ ys, e = .returned (.int .i64 (k + ((lstMk opMk).cnt xs : Nat))) ∧ OwnSl opO w2 v ys F ∧ (lstMk opMk).is k xs ys ∧ Chg F w w2 := by
  have hcn : (lstMk opMk).cnt xs = opMk.sum xs := rfl
  rw [hcn] at hb ⊢
  clear hcn
  obtain ⟨A, cap, rfl, hm⟩ := h.form
  go_enter Tryz.func57, Tryz.ntmps57
  go_wp2
  go_loopw [1, 5] (fun l i wr => ∃ (j : Nat) (ys : List Op), j ≤ xs.length ∧ i = .int .i64 j ∧ l = .int .i64 (k + (opMk.sum (xs.take j) : Nat)) ∧ OwnSl opO wr (.slice A xs.length cap) ys F ∧ Part opMk k xs ys j ∧ Chg F w wr) (fun _ i _ => xs.length - (intOf i).toNat)
  case atStart => exact ⟨0, xs, Nat.zero_le _, rfl, by simp [Mk.sum], h, .zero _ _ _, .refl _ _⟩
  case round =>
    obtain ⟨j, ys, hj, rfl, rfl, ho, hp, hc⟩ := hrel
    by_cases hlt : j < xs.length
    · obtain ⟨hy, hyx⟩ := hp.at_ hlt
      have hst := opMk.sum_step xs j hlt
      have hsa := opMk.sum_at xs j hlt
      obtain ⟨o, hxo⟩ : ∃ o, o = xs[j] := ⟨_, rfl⟩
      rw [← hxo] at hst hsa hyx
      have hcx : opMk.cnt o = 8 + o.record.fields.length := rfl
      obtain ⟨B, hB⟩ : ∃ B : Int, B = k + (opMk.sum (xs.take j) : Nat) := ⟨_, rfl⟩
      have HNX := hid (show B + 1 + 1 + 1 + 1 + (o.record.fields.length : Int) + 1 + 1 + 1 + 1 = k + (opMk.sum (xs.take (j + 1)) : Nat) by omega)
      have hB0 : 0 ≤ B := by omega
      have hB1 : B + 8 + (o.record.fields.length : Int) ≤ 1152921504606846976 := by omega
      have x0 : ys[j]? = some o := by rw [List.getElem?_eq_getElem hy, hyx]
      rw [← hB]
      have HB := hid hB
      have HXO := hid hxo
      clear hst hsa hcx hB hxo hyx
      obtain ⟨g, off, rfl, hg⟩ := ho.op_open hN x0
      have hI0 := (ho.op_ok hN x0)
      obtain ⟨hi0, ⟨hi1, hi2, hi3⟩, ⟨hi5, hi6, hi8⟩⟩ := hI0
      obtain ⟨m0, G0, cs0, fz0, hg0, _, _, _, _, _⟩ := ho.op_cells hN x0
      have c0 : wr.cell? ⟨g, off + j * 9, none⟩ = some (.int .i64 o.kind) := cs0 0 (by decide)
      have f0 := fz0 (off + j * 9)
      obtain ⟨o1, x1⟩ := ho.op_put (j := 0) (u := .int .i64 (B)) (x' := ⟨B, ⟨o.record.source, o.record.key, o.record.version, o.record.fields⟩, ⟨o.verdict.a, o.verdict.b, o.verdict.same, o.verdict.time⟩⟩) hN x0 (by decide) rfl ⟨by simp only [I64]; omega, ⟨hi1, hi2, hi3⟩, ⟨hi5, hi6, hi8⟩⟩ (fun _ => rfl)
      simp only [Nat.add_zero] at o1
      obtain ⟨m1, G1, cs1, fz1, _, _, _, _, _, _⟩ := o1.op_cells hN x1
      have c1 : (wr.setCell ⟨g, off + j * 9, none⟩ (.int .i64 (B))).cell? ⟨g, off + j * 9 + 1, none⟩ = some (.int .i64 o.record.source) := cs1 1 (by decide)
      have f1 := fz1 (off + j * 9 + 1)
      obtain ⟨o2, x2⟩ := o1.op_put (j := 1) (u := .int .i64 (B + 1)) (x' := ⟨B, ⟨B + 1, o.record.key, o.record.version, o.record.fields⟩, ⟨o.verdict.a, o.verdict.b, o.verdict.same, o.verdict.time⟩⟩) hN x1 (by decide) rfl ⟨by simp only [I64]; omega, ⟨by simp only [I64]; omega, hi2, hi3⟩, ⟨hi5, hi6, hi8⟩⟩ (fun _ => rfl)
      obtain ⟨m2, G2, cs2, fz2, _, _, _, _, _, _⟩ := o2.op_cells hN x2
      have c2 : ((wr.setCell ⟨g, off + j * 9, none⟩ (.int .i64 (B))).setCell ⟨g, off + j * 9 + 1, none⟩ (.int .i64 (B + 1))).cell? ⟨g, off + j * 9 + 2, none⟩ = some (.int .i64 o.record.key) := cs2 2 (by decide)
      have f2 := fz2 (off + j * 9 + 2)
      obtain ⟨o3, x3⟩ := o2.op_put (j := 2) (u := .int .i64 (B + 1 + 1)) (x' := ⟨B, ⟨B + 1, B + 1 + 1, o.record.version, o.record.fields⟩, ⟨o.verdict.a, o.verdict.b, o.verdict.same, o.verdict.time⟩⟩) hN x2 (by decide) rfl ⟨by simp only [I64]; omega, ⟨by simp only [I64]; omega, by simp only [I64]; omega, hi3⟩, ⟨hi5, hi6, hi8⟩⟩ (fun _ => rfl)
      obtain ⟨m3, G3, cs3, fz3, _, _, _, _, _, _⟩ := o3.op_cells hN x3
      have c3 : (((wr.setCell ⟨g, off + j * 9, none⟩ (.int .i64 (B))).setCell ⟨g, off + j * 9 + 1, none⟩ (.int .i64 (B + 1))).setCell ⟨g, off + j * 9 + 2, none⟩ (.int .i64 (B + 1 + 1))).cell? ⟨g, off + j * 9 + 3, none⟩ = some (.int .i64 o.record.version) := cs3 3 (by decide)
      have f3 := fz3 (off + j * 9 + 3)
      obtain ⟨o4, x4⟩ := o3.op_put (j := 3) (u := .int .i64 (B + 1 + 1 + 1)) (x' := ⟨B, ⟨B + 1, B + 1 + 1, B + 1 + 1 + 1, o.record.fields⟩, ⟨o.verdict.a, o.verdict.b, o.verdict.same, o.verdict.time⟩⟩) hN x3 (by decide) rfl ⟨by simp only [I64]; omega, ⟨by simp only [I64]; omega, by simp only [I64]; omega, by simp only [I64]; omega⟩, ⟨hi5, hi6, hi8⟩⟩ (fun _ => rfl)
      obtain ⟨m4, G4, cs4, fz4, _, _, hs4, hN4, hm4, in4⟩ := o4.op_cells hN x4
      obtain ⟨A4, cap4, e4, _⟩ := hm4.form
      subst e4
      have c4 : ((((wr.setCell ⟨g, off + j * 9, none⟩ (.int .i64 (B))).setCell ⟨g, off + j * 9 + 1, none⟩ (.int .i64 (B + 1))).setCell ⟨g, off + j * 9 + 2, none⟩ (.int .i64 (B + 1 + 1))).setCell ⟨g, off + j * 9 + 3, none⟩ (.int .i64 (B + 1 + 1 + 1))).cell? ⟨g, off + j * 9 + 4, none⟩ = some (.slice A4 o.record.fields.length cap4) := cs4 4 (by decide)
      obtain ⟨W4, hW4⟩ : ∃ W, W = ((((wr.setCell ⟨g, off + j * 9, none⟩ (.int .i64 (B))).setCell ⟨g, off + j * 9 + 1, none⟩ (.int .i64 (B + 1))).setCell ⟨g, off + j * 9 + 2, none⟩ (.int .i64 (B + 1 + 1))).setCell ⟨g, off + j * 9 + 3, none⟩ (.int .i64 (B + 1 + 1 + 1))) := ⟨_, rfl⟩
      rw [← hW4] at in4 hm4
      have hc4 : Chg F w W4 := by rw [hW4]; exact (((hc.setCell hg _).setCell hg _).setCell hg _).setCell hg _
      have hlt4 : ∀ b ∈ F, b < W4.heap.size := fun b hb => by rw [hW4]; simp only [World.size_setCell]; exact ho.lt b hb
      have HIN := hid in4
      have HW := hid hW4
      have HII := hid (And.intro hi5 (And.intro hi6 hi8))
      clear in4 hW4 cs0 cs1 cs2 cs3 cs4 fz0 fz1 fz2 fz3 fz4 hi0 hi1 hi2 hi3 hi5 hi6 hi8 o1 o2 o3 o4 x1 x2 x3 x0
      go_wp2_with fail
      rw [← HW.out]
      refine (markStringS_t _ o.record.fields G4 _ _ hm4 hN4 (by omega) (by omega)).mono ?_
      rintro e w5 ⟨zs, rfl, hz, hzl, hmk, hzc⟩
      have o5 := HIN.out w5 zs (fun b hb hn => hzc.block b (hlt4 b hb) hn) hz
      have hc5 := hc4.trans (hzc.mono hs4)
      have x5 := op_fields x4 (⟨B, ⟨B + 1, B + 1 + 1, B + 1 + 1 + 1, zs⟩, ⟨o.verdict.a, o.verdict.b, o.verdict.same, o.verdict.time⟩⟩)
      obtain ⟨hi5, hi6, hi8⟩ := HII.out
      clear c0 c1 c2 c3 c4 f0 f1 f2 f3 hm4 HW HIN hc4 hlt4 hz hzc
      obtain ⟨m5, G5, cs5, fz5, _, _, _, _, _, _⟩ := o5.op_cells hN x5
      have c5 : w5.cell? ⟨g, off + j * 9 + 5, none⟩ = some (.int .i64 o.verdict.a) := cs5 5 (by decide)
      have f5 := fz5 (off + j * 9 + 5)
      obtain ⟨o6, x6⟩ := o5.op_put (j := 5) (u := .int .i64 ((B + 1 + 1 + 1 + 1 + (o.record.fields.length : Int)))) (x' := ⟨B, ⟨B + 1, B + 1 + 1, B + 1 + 1 + 1, zs⟩, ⟨(B + 1 + 1 + 1 + 1 + (o.record.fields.length : Int)), o.verdict.b, o.verdict.same, o.verdict.time⟩⟩) hN x5 (by decide) rfl ⟨by simp only [I64]; omega, ⟨by simp only [I64]; omega, by simp only [I64]; omega, by simp only [I64]; omega⟩, ⟨by simp only [I64]; omega, hi6, hi8⟩⟩ (fun _ => rfl)
      obtain ⟨m6, G6, cs6, fz6, _, _, _, _, _, _⟩ := o6.op_cells hN x6
      have c6 : (w5.setCell ⟨g, off + j * 9 + 5, none⟩ (.int .i64 ((B + 1 + 1 + 1 + 1 + (o.record.fields.length : Int))))).cell? ⟨g, off + j * 9 + 6, none⟩ = some (.int .i64 o.verdict.b) := cs6 6 (by decide)
      have f6 := fz6 (off + j * 9 + 6)
      obtain ⟨o7, x7⟩ := o6.op_put (j := 6) (u := .int .i64 ((B + 1 + 1 + 1 + 1 + (o.record.fields.length : Int)) + 1)) (x' := ⟨B, ⟨B + 1, B + 1 + 1, B + 1 + 1 + 1, zs⟩, ⟨(B + 1 + 1 + 1 + 1 + (o.record.fields.length : Int)), (B + 1 + 1 + 1 + 1 + (o.record.fields.length : Int)) + 1, o.verdict.same, o.verdict.time⟩⟩) hN x6 (by decide) rfl ⟨by simp only [I64]; omega, ⟨by simp only [I64]; omega, by simp only [I64]; omega, by simp only [I64]; omega⟩, ⟨by simp only [I64]; omega, by simp only [I64]; omega, hi8⟩⟩ (fun _ => rfl)
      obtain ⟨m7, G7, cs7, fz7, _, _, _, _, _, _⟩ := o7.op_cells hN x7
      have c7 : ((w5.setCell ⟨g, off + j * 9 + 5, none⟩ (.int .i64 ((B + 1 + 1 + 1 + 1 + (o.record.fields.length : Int))))).setCell ⟨g, off + j * 9 + 6, none⟩ (.int .i64 ((B + 1 + 1 + 1 + 1 + (o.record.fields.length : Int)) + 1))).cell? ⟨g, off + j * 9 + 7, none⟩ = some (.bool o.verdict.same) := cs7 7 (by decide)
      have f7 := fz7 (off + j * 9 + 7)
      obtain ⟨o8, x8⟩ := o7.op_put (j := 7) (u := .bool (((B + 1 + 1 + 1 + 1 + (o.record.fields.length : Int)) + 1 + 1) % 3 == 0)) (x' := ⟨B, ⟨B + 1, B + 1 + 1, B + 1 + 1 + 1, zs⟩, ⟨(B + 1 + 1 + 1 + 1 + (o.record.fields.length : Int)), (B + 1 + 1 + 1 + 1 + (o.record.fields.length : Int)) + 1, (((B + 1 + 1 + 1 + 1 + (o.record.fields.length : Int)) + 1 + 1) % 3 == 0), o.verdict.time⟩⟩) hN x7 (by decide) rfl ⟨by simp only [I64]; omega, ⟨by simp only [I64]; omega, by simp only [I64]; omega, by simp only [I64]; omega⟩, ⟨by simp only [I64]; omega, by simp only [I64]; omega, hi8⟩⟩ (fun _ => rfl)
      obtain ⟨m8, G8, cs8, fz8, _, _, _, _, _, _⟩ := o8.op_cells hN x8
      have c8 : (((w5.setCell ⟨g, off + j * 9 + 5, none⟩ (.int .i64 ((B + 1 + 1 + 1 + 1 + (o.record.fields.length : Int))))).setCell ⟨g, off + j * 9 + 6, none⟩ (.int .i64 ((B + 1 + 1 + 1 + 1 + (o.record.fields.length : Int)) + 1))).setCell ⟨g, off + j * 9 + 7, none⟩ (.bool (((B + 1 + 1 + 1 + 1 + (o.record.fields.length : Int)) + 1 + 1) % 3 == 0))).cell? ⟨g, off + j * 9 + 8, none⟩ = some (.int .i64 o.verdict.time) := cs8 8 (by decide)
      have f8 := fz8 (off + j * 9 + 8)
      obtain ⟨o9, x9⟩ := o8.op_put (j := 8) (u := .int .i64 ((B + 1 + 1 + 1 + 1 + (o.record.fields.length : Int)) + 1 + 1 + 1)) (x' := ⟨B, ⟨B + 1, B + 1 + 1, B + 1 + 1 + 1, zs⟩, ⟨(B + 1 + 1 + 1 + 1 + (o.record.fields.length : Int)), (B + 1 + 1 + 1 + 1 + (o.record.fields.length : Int)) + 1, (((B + 1 + 1 + 1 + 1 + (o.record.fields.length : Int)) + 1 + 1) % 3 == 0), (B + 1 + 1 + 1 + 1 + (o.record.fields.length : Int)) + 1 + 1 + 1⟩⟩) hN x8 (by decide) rfl ⟨by simp only [I64]; omega, ⟨by simp only [I64]; omega, by simp only [I64]; omega, by simp only [I64]; omega⟩, ⟨by simp only [I64]; omega, by simp only [I64]; omega, by simp only [I64]; omega⟩⟩ (fun _ => rfl)
      simp only [List.set_set] at o9
      have HO9 := hid o9
      have HZ := hid (And.intro hzl hmk)
      clear o5 o6 o7 o8 o9 x5 x6 x7 x8 x9 cs5 cs6 cs7 cs8 fz5 fz6 fz7 fz8 hi5 hi6 hi8 hzl hmk
      go_wp2
      go_roundw
      case rel =>
        refine ⟨j + 1, ys.set j ⟨B, ⟨B + 1, B + 1 + 1, B + 1 + 1 + 1, zs⟩, ⟨(B + 1 + 1 + 1 + 1 + (o.record.fields.length : Int)), (B + 1 + 1 + 1 + 1 + (o.record.fields.length : Int)) + 1, (((B + 1 + 1 + 1 + 1 + (o.record.fields.length : Int)) + 1 + 1) % 3 == 0), (B + 1 + 1 + 1 + 1 + (o.record.fields.length : Int)) + 1 + 1 + 1⟩⟩, by omega, by go_num, by rw [← HNX.out], HO9.out, hp.step hlt ?_, (((hc5.setCell hg _).setCell hg _).setCell hg _).setCell hg _⟩
        rw [← HB.out, ← HXO.out]
        exact ⟨rfl, rfl, rfl, rfl, HZ.out.1, HZ.out.2, rfl, rfl, rfl, rfl⟩
      case measure => simp [intOf]; omega
    · go_wp2
      go_ret
      exact ⟨ys, ret_int (by rw [Mk.sum_all _ _ _ hlt]), ho, hp.all hlt, hc⟩

set_option maxHeartbeats 1000000 in
set_option maxRecDepth 20000 in
theorem heldOpS_c (v : Value) (xs ys : List Op) (k : Int) (w : World) (h : Sl opR w v ys) (hi : (lstMk opMk).is k xs ys) (h0 : 0 ≤ k) (hb : k + (lstMk opMk).cnt xs ≤ 1152921504606846976) :
    Calls Tryz.prog 58 #[v, .int .i64 k] w fun e w2 => e = .returned (.int .i64 (k + ((lstMk opMk).cnt xs : Nat))) ∧ Ext w w2 := by
  have hcn : (lstMk opMk).cnt xs = opMk.sum xs := rfl
  rw [hcn] at hb ⊢
  clear hcn
  have HL := hid hi.1
  obtain ⟨A, cap, rfl, hm⟩ := h.form
  go_enter Tryz.func58, Tryz.ntmps58
  go_wp2
  go_loopw [1, 5] (fun l i wr => ∃ j : Nat, j ≤ ys.length ∧ i = .int .i64 j ∧ l = .int .i64 (k + (opMk.sum (xs.take j) : Nat)) ∧ Ext w wr) (fun _ i _ => ys.length - (intOf i).toNat)
  case atStart => exact ⟨0, Nat.zero_le _, rfl, by simp [Mk.sum], Ext.refl _⟩
  case round =>
    obtain ⟨j, hj, rfl, rfl, hx⟩ := hrel
    by_cases hlt : j < ys.length
    · obtain ⟨g, off, A2, cap2, rfl, hok, hsl, hc0, hc1, hc2, hc3, hc4, hc5, hc6, hc7, hc8⟩ := h.op hlt
      have hlx : j < xs.length := by have := HL.out; omega
      have hst := opMk.sum_step xs j hlx
      have hsa := opMk.sum_at xs j hlx
      have hi9 := hi.2 j hlx hlt
      obtain ⟨o, hxo⟩ : ∃ o, o = xs[j] := ⟨_, rfl⟩
      rw [← hxo] at hst hsa hi9
      have hcx : opMk.cnt o = 8 + o.record.fields.length := rfl
      obtain ⟨y, hyo⟩ : ∃ y, y = ys[j] := ⟨_, rfl⟩
      rw [← hyo] at hi9 hsl hc0 hc1 hc2 hc3 hc4 hc5 hc6 hc7 hc8
      obtain ⟨B, hB⟩ : ∃ B : Int, B = k + (opMk.sum (xs.take j) : Nat) := ⟨_, rfl⟩
      rw [← hB] at hi9 ⊢
      obtain ⟨v0, v1, v2, v3, v4, v4b, v5, v6, v7, v8⟩ := hi9
      have hB0 : 0 ≤ B := by omega
      have hB1 : B + 8 + (o.record.fields.length : Int) ≤ 1152921504606846976 := by omega
      have HNX := hid (show B + 1 + 1 + 1 + 1 + (o.record.fields.length : Int) + 1 + 1 + 1 + 1 = k + (opMk.sum (xs.take (j + 1)) : Nat) by omega)
      rw [v0] at hc0
      rw [v1] at hc1
      rw [v2] at hc2
      rw [v3] at hc3
      rw [v4] at hc4
      rw [v5] at hc5
      rw [v6] at hc6
      rw [v7] at hc7
      rw [v8] at hc8
      replace hc0 := hx.cell hc0
      replace hc1 := hx.cell hc1
      replace hc2 := hx.cell hc2
      replace hc3 := hx.cell hc3
      replace hc4 := hx.cell hc4
      have HK := hid (And.intro hc5 (And.intro hc6 (And.intro hc7 hc8)))
      have HF := hid (And.intro v4 v4b)
      have HSL := hid (hsl.mono hx)
      clear hst hsa hcx hB hxo hyo v0 v1 v2 v3 v4 v4b v5 v6 v7 v8 hc5 hc6 hc7 hc8 hsl hok
      go_wp2_with fail
      refine (heldStringS_c _ y.record.fields _ _ (by have h9 := HSL.out; rw [HF.out.1] at h9; exact h9) HF.out.2 (by omega) (by have := HF.out.1; omega)).mono ?_
      rintro e w2 ⟨rfl, x2⟩
      rw [HF.out.1]
      obtain ⟨hc5, hc6, hc7, hc8⟩ := HK.out
      replace hc5 := (hx.trans x2).cell hc5
      replace hc6 := (hx.trans x2).cell hc6
      replace hc7 := (hx.trans x2).cell hc7
      replace hc8 := (hx.trans x2).cell hc8
      clear hc0 hc1 hc2 hc3 hc4
      have hnn : 0 ≤ B + 1 + 1 + 1 + 1 + (o.record.fields.length : Int) := by omega
      go_wp2
      go_roundw
      case rel => exact ⟨j + 1, by omega, by go_num, by rw [← HNX.out], hx.trans x2⟩
      case measure => simp [intOf]; omega
    · go_wp2
      go_ret
      exact ⟨ret_int (by rw [Mk.sum_all _ _ _ (by have := HL.out; omega)]), hx⟩


set_option maxHeartbeats 400000 in
theorem markBatch_c (v : Value) (xs : List Op) (F : List Nat) (k : Int) (w : World) (h : OwnSl opO w v xs F) (hN : F.Nodup) (h0 : 0 ≤ k) (hb : k + (lstMk opMk).cnt xs ≤ 1152921504606846976) :
    Calls Tryz.prog 16 #[.agg #[v], .int .i64 k] w fun e w2 => ∃ ys, e = .returned (.int .i64 (k + ((lstMk opMk).cnt xs : Nat))) ∧ OwnSl opO w2 v ys F ∧ (lstMk opMk).is k xs ys ∧ Chg F w w2 := by
  obtain ⟨A, cap, rfl, hm⟩ := h.form
  have x1 : Ext w (w.alloc (.cells #[.slice A xs.length cap] 36)) := (Ext.refl w).alloc _
  go_enter Tryz.func16, Tryz.ntmps16
  go_wp2_with fail
  refine (markOpS_c _ xs F k _ (h.ext x1) hN h0 hb).mono ?_
  rintro e w2 ⟨ys, rfl, ho, hk, hc⟩
  go_wp2
  go_ret
  exact ⟨ys, rfl, ho, hk, (Chg.of_ext x1).trans hc⟩

set_option maxHeartbeats 400000 in
theorem heldBatch_c (v : Value) (xs ys : List Op) (k : Int) (w : World) (h : Sl opR w v ys) (hi : (lstMk opMk).is k xs ys) (h0 : 0 ≤ k) (hb : k + (lstMk opMk).cnt xs ≤ 1152921504606846976) :
    Calls Tryz.prog 17 #[.agg #[v], .int .i64 k] w fun e w2 => e = .returned (.int .i64 (k + ((lstMk opMk).cnt xs : Nat))) ∧ Ext w w2 := by
  obtain ⟨A, cap, rfl, hm⟩ := h.form
  have x1 : Ext w (w.alloc (.cells #[.slice A ys.length cap] 36)) := (Ext.refl w).alloc _
  go_enter Tryz.func17, Tryz.ntmps17
  go_wp2_with fail
  refine (heldOpS_c _ xs ys k _ (h.mono x1) hi h0 hb).mono ?_
  rintro e w2 ⟨rfl, x2⟩
  have hnn : 0 ≤ k + (((lstMk opMk).cnt xs : Nat) : Int) := by omega
  go_wp2
  go_ret
  exact ⟨rfl, x1.trans x2⟩
end Go.Proofs.YtfieimmlcopbhaaGreatDoor
