/-
  WALKS: FormatInt (both): the decimal numeral.
-/
import Derived.Test.YtddjefbdekinbaaGreatDoorMgEndFnGol0
import Derived.Laws.IdiomStrings
import Derived.Laws.Concat
import Derived.Lib.LaidTab

namespace Go.Proofs.YtddjefbdekinbaaGreatDoor
open Go.RowKit

/-- the table of powers of ten stands as the program lays it -/
def Tab (w : World) : Prop := Go.Lib.TabIs Tryz.prog w "internal/strconv.uint64pow10" .u64 Go.Lib.pow10Tab
theorem Tab.mono {w w2 : World} (e : Ext w w2) (h : Tab w) : Tab w2 := by
  unfold Tab Go.Lib.TabIs World.var? at h ⊢
  revert h
  cases hg : Tryz.prog.globalNamed "internal/strconv.uint64pow10" with
  | none => exact fun h => h
  | some g =>
    intro h
    have hlt : g < w.heap.size := by
      by_cases hl : g < w.heap.size
      · exact hl
      · exfalso
        have hn : w.heap[g]? = none := Array.getElem?_eq_none (by omega)
        simp [hn] at h
    simpa [e.block hlt] using h
theorem ext_grow (w : World) (k : Nat) (os : Array Obj) : Ext w (Go.Sort.grow (w.drewN k) os) := by
  refine ⟨rfl, rfl, rfl, by simp [Go.Sort.grow, World.drewN], fun b hb => ?_⟩
  simp only [Go.Sort.grow, World.drewN]
  exact Array.getElem?_append_left hb
theorem strconv_Itoa_c (n : Int) (w : World) (hn : I64 n) (T : Tab w) :
    Calls Tryz.prog 82 #[.int .i64 n] w fun e w2 => e = .returned (.string (itoaS n)) ∧ Ext w w2 :=
  (Any.strconv_Itoa lShItoa n hn.out.1 hn.out.2 w T).mono fun _ _ ⟨he, k, os, hw⟩ => ⟨he, by rw [hw]; exact ext_grow w k os⟩

set_option maxHeartbeats 400000 in
theorem impl_FormatInt (n : Int) (w : World) (hn : I64 n) (T : Tab w) :
    Calls Tryz.prog 67 #[.int .i64 n] w fun e w2 => e = .returned (.string (itoaS n)) ∧ Ext w w2 := by
  go_enter Tryz.func67, Tryz.ntmps67
  go_wp2_with (go_at_call 82; refine (strconv_Itoa_c _ _ hn T).mono ?_; rintro e w2 ⟨rfl, x2⟩)
  go_ret
  exact ⟨rfl, x2⟩

theorem conv_digit : ∀ (wr : World) (j : Nat) (d : Int), j < 10 → d = j → (convert 22 9 (.slice (some ⟨wr.heap.size, 0, none⟩) 1 1)).run Tryz.prog (wr.alloc (.cells #[.int .u8 (48 + d)] 5)) = .ok (.string ⟨#[UInt8.ofNat (48 + j)]⟩) (wr.alloc (.cells #[.int .u8 (48 + d)] 5)) := fun wr j d hj hd =>
  run_convert_bytes_back (P := Tryz.prog) (wr.alloc (.cells #[.int .u8 (48 + d)] 5)) 22 9 5 ⟨wr.heap.size, 0, none⟩ 1 [UInt8.ofNat (48 + j)] Tryz.underlying22 Tryz.underlying5 Tryz.underlying9 (fun i hi => by
    have hi0 : i = 0 := by simpa using hi
    subst hi0
    subst hd
    have hu : (UInt8.ofNat (48 + j)).toNat = 48 + j := by rw [UInt8.toNat_ofNat']; omega
    have e := (Ext.refl (wr.alloc (.cells #[.int .u8 (48 + (j : Int))] 5))).box.1 0
    rw [add_eq, Nat.zero_add]
    simp only [List.getElem_cons_zero, hu]
    rw [e]
    simp)

end Go.Proofs.YtddjefbdekinbaaGreatDoor
