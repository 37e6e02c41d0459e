/-
  A store: how it lies; WALKS: szStore, toStore, eqStore.
-/
import Derived.Test.YtblggajfdhjmjaaRecS
import Derived.Test.YtblggajfdhjmjaaVerS
namespace Go.Proofs.Ytblggajfdhjmjaa
open Go.RowKit

structure Store where
  version : Int
  records : List Record
  verdicts : List Verdict
def StoAt (w : World) (v : Value) (s : Store) : Prop := ∃ r d, v = .agg #[.int .i64 s.version, r, d] ∧ I64 s.version ∧ Sl recordR w r s.records ∧ Sl verdictR w d s.verdicts
def StoOwn (w : World) (v : Value) (s : Store) (F : List Nat) : Prop := ∃ r d F1 F2, v = .agg #[.int .i64 s.version, r, d] ∧ I64 s.version ∧ OwnSl recordO w r s.records F1 ∧ OwnSl verdictO w d s.verdicts F2 ∧ F = F1 ++ F2
theorem StoAt.mono {w w2 : World} {v : Value} {s : Store} (x : Ext w w2) (h : StoAt w v s) : StoAt w2 v s := let ⟨r, d, a, b, c, e⟩ := h; ⟨r, d, a, b, c.mono x, e.mono x⟩
theorem StoOwn.at_ {w : World} {v : Value} {s : Store} {F : List Nat} (h : StoOwn w v s F) : StoAt w v s := let ⟨r, d, _, _, a, b, c, e, _⟩ := h; ⟨r, d, a, b, c.sl, e.sl⟩
theorem StoOwn.lt {w : World} {v : Value} {s : Store} {F : List Nat} (h : StoOwn w v s F) : ∀ b ∈ F, b < w.heap.size := by
  obtain ⟨_, _, F1, F2, _, _, c, e, rfl⟩ := h
  intro b hb
  rcases List.mem_append.1 hb with hb | hb
  · exact c.lt b hb
  · exact e.lt b hb
theorem StoOwn.keep {w w2 : World} {v : Value} {s : Store} {F : List Nat} (h : StoOwn w v s F) (k : ∀ b ∈ F, w2.heap[b]? = w.heap[b]?) : StoOwn w2 v s F := by
  obtain ⟨r, d, F1, F2, a, b, c, e, rfl⟩ := h
  exact ⟨r, d, F1, F2, a, b, c.keep fun b hb => k b (List.mem_append_left _ hb), e.keep fun b hb => k b (List.mem_append_right _ hb), rfl⟩
theorem StoOwn.ext {w w2 : World} {v : Value} {s : Store} {F : List Nat} (h : StoOwn w v s F) (x : Ext w w2) : StoOwn w2 v s F := h.keep fun b hb => x.block (h.lt b hb)
def msRecs (xs : List Record) : Nat := xs.length + sumBy msRec xs
def msSto (s : Store) : Nat := msRecs s.records + s.verdicts.length

theorem Store.eta (x y : Store) : x = y ↔ x.version = y.version ∧ x.records = y.records ∧ x.verdicts = y.verdicts := by
  cases x; cases y; simp
def storeR : Rep Store := ⟨3, fun w cs s => ∃ r d, cs = [.int .i64 s.version, r, d] ∧ I64 s.version ∧ Sl recordR w r s.records ∧ Sl verdictR w d s.verdicts, fun ⟨_, _, h, _⟩ => by rw [h]; rfl, fun x ⟨r, d, a, b, c, e⟩ => ⟨r, d, a, b, c.mono x, e.mono x⟩⟩
theorem list3 {cs : List Value} (h : cs.length = 3) {a b c : Value} (ha : (cs.drop 0).take 1 = [a]) (hb : (cs.drop 1).take 1 = [b]) (hc : (cs.drop 2).take 1 = [c]) : cs = [a, b, c] := by
  match cs, h with
  | [x, y, z], _ => simp_all
end Go.Proofs.Ytblggajfdhjmjaa
