/-
  A record: how it lies; WALKS: szRecord, toRecord, eqRecord, RecordID (both).
-/
import Derived.Test.YtddjefbdekinbaaGreatDoorMgEndFnGol0
import Derived.Deep.RegionHeld3

namespace Go.Proofs.YtddjefbdekinbaaGreatDoor
open Go.RowKit

structure Record where
  source : Int
  key : Int
  version : Int
  fields : List ByteArray
def Record.cells (r : Record) (f : Value) : List Value := [.int .i64 r.source, .int .i64 r.key, .int .i64 r.version, f]
def Record.ok (r : Record) : Prop := I64 r.source ∧ I64 r.key ∧ I64 r.version
def recordR : Rep Record := ⟨4, fun w cs r => ∃ f, cs = r.cells f ∧ r.ok ∧ Sl strR w f r.fields, fun ⟨_, h, _⟩ => by rw [h]; rfl, fun e ⟨f, h, k, s⟩ => ⟨f, h, k, s.mono e⟩⟩
def recordO : RepO Record :=
  { recordR with
    own := fun w cs r F => ∃ f, cs = r.cells f ∧ r.ok ∧ OwnSl strO w f r.fields F
    own_rd := fun ⟨f, h, k, s⟩ => ⟨f, h, k, s.sl⟩
    own_lt := fun ⟨_, _, _, s⟩ => s.lt
    own_keep := fun hk ⟨f, h, k, s⟩ => ⟨f, h, k, s.keep hk⟩ }
/-- the value v is the record r -/
def RecAt (w : World) (v : Value) (r : Record) : Prop := ∃ f, v = .agg #[.int .i64 r.source, .int .i64 r.key, .int .i64 r.version, f] ∧ r.ok ∧ Sl strR w f r.fields
def RecOwn (w : World) (v : Value) (r : Record) (F : List Nat) : Prop := ∃ f, v = .agg #[.int .i64 r.source, .int .i64 r.key, .int .i64 r.version, f] ∧ r.ok ∧ OwnSl strO w f r.fields F
theorem RecAt.mono {w w2 : World} {v : Value} {r : Record} (e : Ext w w2) (h : RecAt w v r) : RecAt w2 v r := let ⟨f, a, b, c⟩ := h; ⟨f, a, b, c.mono e⟩
theorem RecOwn.at_ {w : World} {v : Value} {r : Record} {F : List Nat} (h : RecOwn w v r F) : RecAt w v r := let ⟨f, a, b, c⟩ := h; ⟨f, a, b, c.sl⟩
theorem RecOwn.lt {w : World} {v : Value} {r : Record} {F : List Nat} (h : RecOwn w v r F) : ∀ b ∈ F, b < w.heap.size := let ⟨_, _, _, c⟩ := h; c.lt
theorem RecOwn.keep {w w2 : World} {v : Value} {r : Record} {F : List Nat} (h : RecOwn w v r F) (k : ∀ b ∈ F, w2.heap[b]? = w.heap[b]?) : RecOwn w2 v r F := let ⟨f, a, b, c⟩ := h; ⟨f, a, b, c.keep k⟩
theorem RecOwn.ext {w w2 : World} {v : Value} {r : Record} {F : List Nat} (h : RecOwn w v r F) (e : Ext w w2) : RecOwn w2 v r F := h.keep fun b hb => e.block (h.lt b hb)

def msRec (r : Record) : Nat := r.fields.length + sumSize r.fields
theorem Record.ext_iff4 (x y : Record) : x = y ↔ x.source = y.source ∧ x.key = y.key ∧ x.version = y.version ∧ x.fields = y.fields := by
  cases x; cases y; simp

theorem reads_record {t : TypeId} {f0 f1 f2 f3 : Field} (ht : Tryz.prog.underlying t = some (.struct #[f0, f1, f2, f3])) (hc : Tryz.prog.cellsOf t = 4)
    (h0 : f0.type = 3 ∧ f0.offset = 0) (h1 : f1.type = 3 ∧ f1.offset = 1) (h2 : f2.type = 3 ∧ f2.offset = 2) (h3 : f3.type = 28 ∧ f3.offset = 3) : Reads Tryz.prog t recordR := by
  refine ⟨hc, fun h => ?_⟩
  obtain ⟨a, e0, w0⟩ := Reads.field ht h 0 f0 rfl (h0.1 ▸ rInt)
  obtain ⟨b, e1, w1⟩ := Reads.field ht h 1 f1 rfl (h1.1 ▸ rInt)
  obtain ⟨s, e2, w2⟩ := Reads.field ht h 2 f2 rfl (h2.1 ▸ rInt)
  obtain ⟨l, v, e3, w3⟩ := Reads.field ht h 3 f3 rfl (h3.1 ▸ rStrs)
  rw [h0.2] at e0; rw [h1.2] at e1; rw [h2.2] at e2; rw [h3.2] at e3
  exact ⟨⟨a, b, s, l⟩, v, list4 ((struct_len ht h).trans hc) e0 e1 e2 e3, ⟨w0, w1, w2⟩, w3⟩
end Go.Proofs.YtddjefbdekinbaaGreatDoor
