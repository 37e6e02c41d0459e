/-
  A record: how it lies; WALKS: szRecord, toRecord, eqRecord, RecordID (both).
-/
import Derived.Test.YtblggajfdhjmjaaStrs
import Derived.Deep.RegionHeld3
namespace Go.Proofs.Ytblggajfdhjmjaa
open Go.RowKit

structure Record where
  source : Int
  key : Int
  version : Int
  fields : List ByteArray
def Record.cells (r : Record) (f : Value) : List Value := [.int .i64 r.source, .int .i64 r.key, .int .i64 r.version, f]
def Record.ok (r : Record) : Prop := I64 r.source ∧ I64 r.key ∧ I64 r.version
def recordR : Rep Record := ⟨4, fun w cs r => ∃ f, cs = r.cells f ∧ r.ok ∧ Sl strR w f r.fields, fun ⟨_, h, _⟩ => by rw [h]; rfl, fun e ⟨f, h, k, s⟩ => ⟨f, h, k, s.mono e⟩⟩
def recordO : RepO Record :=
  { recordR with
    own := fun w cs r F => ∃ f, cs = r.cells f ∧ r.ok ∧ OwnSl strO w f r.fields F
    own_rd := fun ⟨f, h, k, s⟩ => ⟨f, h, k, s.sl⟩
    own_lt := fun ⟨_, _, _, s⟩ => s.lt
    own_keep := fun hk ⟨f, h, k, s⟩ => ⟨f, h, k, s.keep hk⟩ }
/-- the value v is the record r -/
def RecAt (w : World) (v : Value) (r : Record) : Prop := ∃ f, v = .agg #[.int .i64 r.source, .int .i64 r.key, .int .i64 r.version, f] ∧ r.ok ∧ Sl strR w f r.fields
def RecOwn (w : World) (v : Value) (r : Record) (F : List Nat) : Prop := ∃ f, v = .agg #[.int .i64 r.source, .int .i64 r.key, .int .i64 r.version, f] ∧ r.ok ∧ OwnSl strO w f r.fields F
theorem RecAt.mono {w w2 : World} {v : Value} {r : Record} (e : Ext w w2) (h : RecAt w v r) : RecAt w2 v r := let ⟨f, a, b, c⟩ := h; ⟨f, a, b, c.mono e⟩
theorem RecOwn.at_ {w : World} {v : Value} {r : Record} {F : List Nat} (h : RecOwn w v r F) : RecAt w v r := let ⟨f, a, b, c⟩ := h; ⟨f, a, b, c.sl⟩
theorem RecOwn.lt {w : World} {v : Value} {r : Record} {F : List Nat} (h : RecOwn w v r F) : ∀ b ∈ F, b < w.heap.size := let ⟨_, _, _, c⟩ := h; c.lt
theorem RecOwn.keep {w w2 : World} {v : Value} {r : Record} {F : List Nat} (h : RecOwn w v r F) (k : ∀ b ∈ F, w2.heap[b]? = w.heap[b]?) : RecOwn w2 v r F := let ⟨f, a, b, c⟩ := h; ⟨f, a, b, c.keep k⟩
theorem RecOwn.ext {w w2 : World} {v : Value} {r : Record} {F : List Nat} (h : RecOwn w v r F) (e : Ext w w2) : RecOwn w2 v r F := h.keep fun b hb => e.block (h.lt b hb)

def msRec (r : Record) : Nat := r.fields.length + sumSize r.fields
theorem Record.ext_iff4 (x y : Record) : x = y ↔ x.source = y.source ∧ x.key = y.key ∧ x.version = y.version ∧ x.fields = y.fields := by
  cases x; cases y; simp

end Go.Proofs.Ytblggajfdhjmjaa
