/-
  WALKS: the reference's RecordName, FormatRecord.
-/
import Derived.Test.YtddjefbdekinbaaGreatDoorMgEndFnGol9
import Derived.Deep.RegionWith

namespace Go.Proofs.YtddjefbdekinbaaGreatDoor
open Go.RowKit

/-! ### 'string([]byte{x})' in a region that draws its order -/
theorem conv_byte {W0 W : World} {n : Int} (s : Nat) (hs : s < 256) (hn : n = s) (h : Ext (W0.alloc (.cells #[.int .u8 n] 5)) W) :
    (convert 22 9 (.slice (some ⟨W0.heap.size, 0, none⟩) 1 1)).run Tryz.prog W = .ok (.string ⟨#[UInt8.ofNat s]⟩) W :=
  run_convert_bytes_back (P := Tryz.prog) W 22 9 5 ⟨W0.heap.size, 0, none⟩ 1 [UInt8.ofNat s] Tryz.underlying22 Tryz.underlying5 Tryz.underlying9 (fun i hi => by
    have hi0 : i = 0 := by simpa using hi
    subst hi0
    subst hn
    have hu : (UInt8.ofNat s).toNat = s := by rw [UInt8.toNat_ofNat']; omega
    rw [add_eq, Nat.zero_add, h.box.1 0]
    simp only [List.getElem_cons_zero, hu]
    rfl)
theorem step_conv {P : Program} {ops : Array Oper} {o : Oper} {a : Act} {w : World} {K : Act → World → Prop} {Q : Exit → Act → World → Prop} {Z : Prop} (hgd : o.guard = none) (t t2 : TypeId) (x : Operand) (ho : o.op = .convert t t2 x) {v v' : Value} (hx : a.eval x = v)
    (hr : (convert t t2 v).run P w = .ok v' w) (hK : K (a.put o.dst v') w) : if Region.wanted o (yielded ops a.tmps) = true then Oper.wp P o a w K Q else Z := by
  have hw : Region.wanted o (yielded ops a.tmps) = true := by simp [Region.wanted, hgd]
  rw [if_pos hw]
  unfold Oper.wp
  simp [execOp, ho, hx, hr, Result.andThen]
  exact hK

end Go.Proofs.YtddjefbdekinbaaGreatDoor
