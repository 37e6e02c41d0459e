/-
  THE PROGRAM'S TYPES: how their values lie in cells.
-/
import Derived.Test.YtblggajfdhjmjaaRows
import Derived.Test.YtblggajfdhjmjaaLib
namespace Go.Proofs.Ytblggajfdhjmjaa
open Go.RowKit

theorem laidOut : laidOutB Try.prog = true := by kernel_rfl
theorem own : ownKnob Try.prog.godebug = none := by kernel_rfl

theorem rInt : Reads Try.prog 3 intR := reads_int Try.underlying3 (by kernel_rfl)
theorem rBool : Reads Try.prog 4 boolR := reads_bool Try.underlying4 (by kernel_rfl)
theorem rStr : Reads Try.prog 9 strR := reads_string Try.underlying9 (by kernel_rfl)
theorem rInts : Reads Try.prog 52 (slR intR) := reads_slice Try.underlying52 (by kernel_rfl) (by decide) rInt

structure Verdict where
  a : Int
  b : Int
  same : Bool
  time : Int
def Verdict.cells (v : Verdict) : List Value := [.int .i64 v.a, .int .i64 v.b, .bool v.same, .int .i64 v.time]
def Verdict.val (v : Verdict) : Value := .agg #[.int .i64 v.a, .int .i64 v.b, .bool v.same, .int .i64 v.time]
def Verdict.ok (v : Verdict) : Prop := I64 v.a ∧ I64 v.b ∧ I64 v.time
def verdictR : Rep Verdict := ⟨4, fun _ cs v => cs = v.cells ∧ v.ok, fun h => by rw [h.1]; rfl, fun _ h => h⟩
theorem list4 {cs : List Value} (h : cs.length = 4) {a b c d : Value} (ha : (cs.drop 0).take 1 = [a]) (hb : (cs.drop 1).take 1 = [b]) (hc : (cs.drop 2).take 1 = [c]) (hd : (cs.drop 3).take 1 = [d]) : cs = [a, b, c, d] := by
  match cs, h with
  | [x, y, z, u], _ => simp_all
theorem reads_verdict {t : TypeId} {f0 f1 f2 f3 : Field} (ht : Try.prog.underlying t = some (.struct #[f0, f1, f2, f3])) (hc : Try.prog.cellsOf t = 4)
    (h0 : f0.type = 3 ∧ f0.offset = 0) (h1 : f1.type = 3 ∧ f1.offset = 1) (h2 : f2.type = 4 ∧ f2.offset = 2) (h3 : f3.type = 3 ∧ f3.offset = 3) : Reads Try.prog t verdictR := by
  refine ⟨hc, fun h => ?_⟩
  obtain ⟨a, e0, w0⟩ := Reads.field ht h 0 f0 rfl (h0.1 ▸ rInt)
  obtain ⟨b, e1, w1⟩ := Reads.field ht h 1 f1 rfl (h1.1 ▸ rInt)
  obtain ⟨s, e2⟩ := Reads.field ht h 2 f2 rfl (h2.1 ▸ rBool)
  obtain ⟨tm, e3, w3⟩ := Reads.field ht h 3 f3 rfl (h3.1 ▸ rInt)
  rw [h0.2] at e0; rw [h1.2] at e1; rw [h2.2] at e2; rw [h3.2] at e3
  exact ⟨⟨a, b, s, tm⟩, list4 ((struct_len ht h).trans hc) e0 e1 e2 e3, w0, w1, w3⟩
theorem rLawVerdict : Reads Try.prog 24 verdictR := reads_verdict Try.underlying24 (by kernel_rfl) ⟨rfl, rfl⟩ ⟨rfl, rfl⟩ ⟨rfl, rfl⟩ ⟨rfl, rfl⟩
theorem rLawVerdicts : Reads Try.prog 22 (slR verdictR) := reads_slice Try.underlying22 (by kernel_rfl) (by decide) rLawVerdict
end Go.Proofs.Ytblggajfdhjmjaa
