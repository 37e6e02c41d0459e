/-
  An operation: how it lies; WALKS: szOp, toOp, eqOp.
-/
import Derived.Test.YtddjefbdekinbaaGreatDoorMgEndFnGol6
import Derived.Test.YtddjefbdekinbaaGreatDoorMgEndFnGol9

namespace Go.Proofs.YtddjefbdekinbaaGreatDoor
open Go.RowKit

structure Op where
  kind : Int
  record : Record
  verdict : Verdict
def Op.cells (o : Op) (f : Value) : List Value := [.int .i64 o.kind, .int .i64 o.record.source, .int .i64 o.record.key, .int .i64 o.record.version, f, .int .i64 o.verdict.a, .int .i64 o.verdict.b, .bool o.verdict.same, .int .i64 o.verdict.time]
def Op.ok (o : Op) : Prop := I64 o.kind ∧ o.record.ok ∧ o.verdict.ok
def opR : Rep Op := ⟨9, fun w cs o => ∃ f, cs = o.cells f ∧ o.ok ∧ Sl strR w f o.record.fields, fun ⟨_, h, _⟩ => by rw [h]; rfl, fun e ⟨f, h, k, s⟩ => ⟨f, h, k, s.mono e⟩⟩
def opO : RepO Op :=
  { opR with
    own := fun w cs o F => ∃ f, cs = o.cells f ∧ o.ok ∧ OwnSl strO w f o.record.fields F
    own_rd := fun ⟨f, h, k, s⟩ => ⟨f, h, k, s.sl⟩
    own_lt := fun ⟨_, _, _, s⟩ => s.lt
    own_keep := fun hk ⟨f, h, k, s⟩ => ⟨f, h, k, s.keep hk⟩ }
def OpAt (w : World) (v : Value) (o : Op) : Prop := ∃ f, v = .agg #[.int .i64 o.kind, .int .i64 o.record.source, .int .i64 o.record.key, .int .i64 o.record.version, f, .int .i64 o.verdict.a, .int .i64 o.verdict.b, .bool o.verdict.same, .int .i64 o.verdict.time] ∧ o.ok ∧ Sl strR w f o.record.fields
def OpOwn (w : World) (v : Value) (o : Op) (F : List Nat) : Prop := ∃ f, v = .agg #[.int .i64 o.kind, .int .i64 o.record.source, .int .i64 o.record.key, .int .i64 o.record.version, f, .int .i64 o.verdict.a, .int .i64 o.verdict.b, .bool o.verdict.same, .int .i64 o.verdict.time] ∧ o.ok ∧ OwnSl strO w f o.record.fields F
theorem OpAt.mono {w w2 : World} {v : Value} {o : Op} (e : Ext w w2) (h : OpAt w v o) : OpAt w2 v o := let ⟨f, a, b, c⟩ := h; ⟨f, a, b, c.mono e⟩
theorem OpOwn.at_ {w : World} {v : Value} {o : Op} {F : List Nat} (h : OpOwn w v o F) : OpAt w v o := let ⟨f, a, b, c⟩ := h; ⟨f, a, b, c.sl⟩
theorem OpOwn.lt {w : World} {v : Value} {o : Op} {F : List Nat} (h : OpOwn w v o F) : ∀ b ∈ F, b < w.heap.size := let ⟨_, _, _, c⟩ := h; c.lt
theorem OpOwn.keep {w w2 : World} {v : Value} {o : Op} {F : List Nat} (h : OpOwn w v o F) (k : ∀ b ∈ F, w2.heap[b]? = w.heap[b]?) : OpOwn w2 v o F := let ⟨f, a, b, c⟩ := h; ⟨f, a, b, c.keep k⟩
theorem OpOwn.ext {w w2 : World} {v : Value} {o : Op} {F : List Nat} (h : OpOwn w v o F) (e : Ext w w2) : OpOwn w2 v o F := h.keep fun b hb => e.block (h.lt b hb)
def msOp (o : Op) : Nat := o.record.fields.length + sumSize o.record.fields

theorem Op.eta (x y : Op) : x = y ↔ x.kind = y.kind ∧ x.record = y.record ∧ x.verdict = y.verdict := by
  cases x; cases y; simp
end Go.Proofs.YtddjefbdekinbaaGreatDoor
