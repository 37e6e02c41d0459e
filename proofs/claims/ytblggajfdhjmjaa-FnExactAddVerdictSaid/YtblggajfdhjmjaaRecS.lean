/-
  WALKS: the laws' szRecordS, toRecordS, eqRecordS.
-/
import Derived.Test.YtblggajfdhjmjaaRec
import Derived.Test.YtblggajfdhjmjaaSum
namespace Go.Proofs.Ytblggajfdhjmjaa
open Go.RowKit

theorem Sl.record {w : World} {A : Option Addr} {n cap : Nat} {xs : List Record} (h : Sl recordR w (.slice A n cap) xs) {i : Nat} (hi : i < xs.length) :
    ∃ b off A2 cap2, A = some ⟨b, off, none⟩ ∧ xs[i].ok ∧ Sl strR w (.slice A2 xs[i].fields.length cap2) xs[i].fields ∧ w.cell? ⟨b, off + i * 4, none⟩ = some (.int .i64 xs[i].source) ∧ w.cell? ⟨b, off + i * 4 + 1, none⟩ = some (.int .i64 xs[i].key) ∧ w.cell? ⟨b, off + i * 4 + 2, none⟩ = some (.int .i64 xs[i].version) ∧ w.cell? ⟨b, off + i * 4 + 3, none⟩ = some (.slice A2 xs[i].fields.length cap2) := by
  obtain ⟨b, off, cs, rfl, ⟨m, rfl, hok, hs⟩, hc⟩ := h.at_ hi
  have hs' := hs
  obtain ⟨A2, cap2, rfl, _⟩ := hs
  exact ⟨b, off, A2, cap2, rfl, hok, hs', by simpa [recordR, Record.cells] using hc 0 (by simp [recordR]), by simpa [recordR, Record.cells] using hc 1 (by simp [recordR]), by simpa [recordR, Record.cells] using hc 2 (by simp [recordR]), by simpa [recordR, Record.cells] using hc 3 (by simp [recordR])⟩

def recordZ : List Value := [.int .i64 0, .int .i64 0, .int .i64 0, .slice none 0 0]

end Go.Proofs.Ytblggajfdhjmjaa
