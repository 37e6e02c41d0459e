/-
  An operation: how it lies; WALKS: szOp, toOp, eqOp.
-/
import Derived.Test.YtfieimmlcopbhaaGreatDoorMgEndFnRec11

namespace Go.Proofs.YtfieimmlcopbhaaGreatDoor
open Go.RowKit

structure Op where
  kind : Int
  record : Record
  verdict : Verdict
def Op.cells (o : Op) (f : Value) : List Value := [.int .i64 o.kind, .int .i64 o.record.source, .int .i64 o.record.key, .int .i64 o.record.version, f, .int .i64 o.verdict.a, .int .i64 o.verdict.b, .bool o.verdict.same, .int .i64 o.verdict.time]
def Op.ok (o : Op) : Prop := I64 o.kind ∧ o.record.ok ∧ o.verdict.ok
def opR : Rep Op := ⟨9, fun w cs o => ∃ f, cs = o.cells f ∧ o.ok ∧ Sl strR w f o.record.fields, fun ⟨_, h, _⟩ => by rw [h]; rfl, fun e ⟨f, h, k, s⟩ => ⟨f, h, k, s.mono e⟩⟩
def opO : RepO Op :=
  { opR with
    own := fun w cs o F => ∃ f, cs = o.cells f ∧ o.ok ∧ OwnSl strO w f o.record.fields F
    own_rd := fun ⟨f, h, k, s⟩ => ⟨f, h, k, s.sl⟩
    own_lt := fun ⟨_, _, _, s⟩ => s.lt
    own_keep := fun hk ⟨f, h, k, s⟩ => ⟨f, h, k, s.keep hk⟩ }
def OpAt (w : World) (v : Value) (o : Op) : Prop := ∃ f, v = .agg #[.int .i64 o.kind, .int .i64 o.record.source, .int .i64 o.record.key, .int .i64 o.record.version, f, .int .i64 o.verdict.a, .int .i64 o.verdict.b, .bool o.verdict.same, .int .i64 o.verdict.time] ∧ o.ok ∧ Sl strR w f o.record.fields
def OpOwn (w : World) (v : Value) (o : Op) (F : List Nat) : Prop := ∃ f, v = .agg #[.int .i64 o.kind, .int .i64 o.record.source, .int .i64 o.record.key, .int .i64 o.record.version, f, .int .i64 o.verdict.a, .int .i64 o.verdict.b, .bool o.verdict.same, .int .i64 o.verdict.time] ∧ o.ok ∧ OwnSl strO w f o.record.fields F
theorem OpAt.mono {w w2 : World} {v : Value} {o : Op} (e : Ext w w2) (h : OpAt w v o) : OpAt w2 v o := let ⟨f, a, b, c⟩ := h; ⟨f, a, b, c.mono e⟩
theorem OpOwn.at_ {w : World} {v : Value} {o : Op} {F : List Nat} (h : OpOwn w v o F) : OpAt w v o := let ⟨f, a, b, c⟩ := h; ⟨f, a, b, c.sl⟩
theorem OpOwn.lt {w : World} {v : Value} {o : Op} {F : List Nat} (h : OpOwn w v o F) : ∀ b ∈ F, b < w.heap.size := let ⟨_, _, _, c⟩ := h; c.lt
theorem OpOwn.keep {w w2 : World} {v : Value} {o : Op} {F : List Nat} (h : OpOwn w v o F) (k : ∀ b ∈ F, w2.heap[b]? = w.heap[b]?) : OpOwn w2 v o F := let ⟨f, a, b, c⟩ := h; ⟨f, a, b, c.keep k⟩
theorem OpOwn.ext {w w2 : World} {v : Value} {o : Op} {F : List Nat} (h : OpOwn w v o F) (e : Ext w w2) : OpOwn w2 v o F := h.keep fun b hb => e.block (h.lt b hb)
def msOp (o : Op) : Nat := o.record.fields.length + sumSize o.record.fields

theorem Op.eta (x y : Op) : x = y ↔ x.kind = y.kind ∧ x.record = y.record ∧ x.verdict = y.verdict := by
  cases x; cases y; simp
set_option maxHeartbeats 400000 in
set_option maxRecDepth 20000 in
theorem eqOp_c (v u : Value) (x y : Op) (w : World) (h : OpAt w v x) (k : OpAt w u y) :
    Calls Tryz.prog 10 #[v, u] w fun e w2 => e = .returned (.bool (eqB x y)) ∧ Ext w w2 := by
  obtain ⟨f, rfl, hok, hs⟩ := h
  obtain ⟨g, rfl, hok2, hs2⟩ := k
  by_cases h1 : x.kind = y.kind
  · have b1 : (x.kind != y.kind) = false := by simp [h1]
    have H := hid h1
    clear h1
    go_enter Tryz.func10, Tryz.ntmps10
    go_wp2_with fail
    refine (eqRecord_c _ _ x.record y.record _ ⟨_, rfl, hok.2.1, hs.mono (by repeat (first | with_reducible exact Ext.refl _ | with_reducible assumption | with_reducible refine Ext.drew ?_ | with_reducible refine Ext.alloc ?_ _ | (refine Ext.setCell ?_ (by simp) _) | with_reducible refine Ext.trans ?_ (by with_reducible assumption)))⟩ ⟨_, rfl, hok2.2.1, hs2.mono (by repeat (first | with_reducible exact Ext.refl _ | with_reducible assumption | with_reducible refine Ext.drew ?_ | with_reducible refine Ext.alloc ?_ _ | (refine Ext.setCell ?_ (by simp) _) | with_reducible refine Ext.trans ?_ (by with_reducible assumption)))⟩).mono ?_
    rintro e w2 ⟨rfl, x2⟩
    have c1 := x2.box1.1
    have c0 := ((((Ext.refl _).alloc _) : Ext (w.alloc (.cells #[.int .i64 x.kind, .int .i64 x.record.source, .int .i64 x.record.key, .int .i64 x.record.version, f, .int .i64 x.verdict.a, .int .i64 x.verdict.b, .bool x.verdict.same, .int .i64 x.verdict.time] 28)) _).trans x2).box.1
    by_cases h4 : x.record = y.record
    · rw [eqB_true h4]
      have H4 := hid h4
      clear h4
      go_wp2_with fail
      refine (eqVerdict_c x.verdict y.verdict _).mono ?_
      rintro e w3 ⟨rfl, x3⟩
      by_cases h5 : x.verdict = y.verdict
      · rw [eqB_true h5]
        have H5 := hid h5
        clear h5
        go_wp2
        go_ret
        exact ⟨ret_bool (eqB_true ((Op.eta x y).2 ⟨H.out, H4.out, H5.out⟩)).symm, (by repeat (first | with_reducible exact Ext.refl _ | with_reducible assumption | with_reducible refine Ext.drew ?_ | with_reducible refine Ext.alloc ?_ _ | (refine Ext.setCell ?_ (by simp) _) | with_reducible refine Ext.trans ?_ (by with_reducible assumption)))⟩
      · rw [eqB_false h5]
        have H5 := hid h5
        clear h5
        go_wp2
        go_ret
        exact ⟨ret_bool (eqB_false fun e => H5.out (by rw [e])).symm, (by repeat (first | with_reducible exact Ext.refl _ | with_reducible assumption | with_reducible refine Ext.drew ?_ | with_reducible refine Ext.alloc ?_ _ | (refine Ext.setCell ?_ (by simp) _) | with_reducible refine Ext.trans ?_ (by with_reducible assumption)))⟩
    · rw [eqB_false h4]
      have H4 := hid h4
      clear h4
      go_wp2
      go_ret
      exact ⟨ret_bool (eqB_false fun e => H4.out (by rw [e])).symm, (by repeat (first | with_reducible exact Ext.refl _ | with_reducible assumption | with_reducible refine Ext.drew ?_ | with_reducible refine Ext.alloc ?_ _ | (refine Ext.setCell ?_ (by simp) _) | with_reducible refine Ext.trans ?_ (by with_reducible assumption)))⟩
  · have b1 : (x.kind != y.kind) = true := by simp [h1]
    have H := hid h1
    clear h1
    go_enter Tryz.func10, Tryz.ntmps10
    go_wp2
    go_ret
    exact ⟨ret_bool (eqB_false fun e => H.out (by rw [e])).symm, (by repeat (first | with_reducible exact Ext.refl _ | with_reducible assumption | with_reducible refine Ext.drew ?_ | with_reducible refine Ext.alloc ?_ _ | (refine Ext.setCell ?_ (by simp) _) | with_reducible refine Ext.trans ?_ (by with_reducible assumption)))⟩
end Go.Proofs.YtfieimmlcopbhaaGreatDoor
