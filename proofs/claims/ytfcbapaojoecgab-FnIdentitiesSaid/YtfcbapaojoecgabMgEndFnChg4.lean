/-
  SEVERAL SMALL TEXTS LAID TOGETHER: VerS, DrawK.
-/
import Derived.Test.YtfcbapaojoecgabMgEndFnChg1
import Derived.Test.YtfcbapaojoecgabMgEndFnChg0

namespace Go.Proofs.Ytfcbapaojoecgab
open Go.RowKit
def verZ : List Value := [.int .i64 0, .int .i64 0, .bool false, .int .i64 0]
end Go.Proofs.Ytfcbapaojoecgab

namespace Go.Proofs.Ytfcbapaojoecgab
open Go.RowKit

theorem Kept.alloc {g : Nat} {w w2 : World} (h : Kept g w w2) (o : Obj) : Kept g w (w2.alloc o) := h.trans (Ext.kept ((Ext.refl _).alloc _))
theorem Kept.drew {g : Nat} {w w2 : World} (h : Kept g w w2) : Kept g w w2.drew := h.trans (Ext.kept (Ext.refl _).drew)
theorem Kept.setN {g : Nat} {w w2 : World} (h : Kept g w w2) {p : Addr} (hp : w.heap.size ≤ p.block) (u : Value) : Kept g w (w2.setCell p u) :=
  ⟨by rw [World.size_setCell]; exact h.1, fun b hb hne => (keep_setCell (fun e => by omega)).trans (h.2 b hb hne)⟩
theorem Cur.setN {w0 w : World} {g : Nat} (h : Cur w0 w g) {p : Addr} (hp : g < p.block) (u : Value) : Cur w0 (w.setCell p u) g :=
  h.keep (h.base.1.setCell (by have := h.base.2.1; omega) u) (keep_setCell (by omega))
theorem Blk.kept {w w2 : World} {b g : Nat} {e : TypeId} {cs : List Value} (h : Blk w b e cs) (hne : b ≠ g) (k : Kept g w w2) : Blk w2 b e cs := h.keep (k.2 b (block_lt h) hne)
theorem Cur.alloc {w0 w : World} {g : Nat} (h : Cur w0 w g) (o : Obj) : Cur w0 (w.alloc o) g := h.ext ((Ext.refl w).alloc o)
theorem Cur.drew {w0 w : World} {g : Nat} (h : Cur w0 w g) : Cur w0 w.drew g := h.ext (Ext.refl w).drew
/-- a verdict that was drawn -/
def VerDrawn (w0 w : World) (g : Nat) (e : Ending) (w2 : World) : Prop := ∃ v : Verdict, e = .returned (.agg #[.int .i64 v.a, .int .i64 v.b, .bool v.same, .int .i64 v.time]) ∧ v.ok ∧ Cur w0 w2 g ∧ Kept g w w2

end Go.Proofs.Ytfcbapaojoecgab
