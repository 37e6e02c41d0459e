/-
  CONTRACTS OF THE LIBRARY, as this file's walks use them: strings.Cut, strings.Split at one byte; strconv.Atoi.
-/
import Derived.Test.YtfieimmlcopbhaaDoorEnv
import Derived.Test.YtfieimmlcopbhaaDoorCutW
import Derived.Test.YtfieimmlcopbhaaDoorShCut
import Derived.Test.YtfieimmlcopbhaaDoorShSplit
import Derived.Test.YtfieimmlcopbhaaDoorShAtoi
namespace Go.Proofs.YtfieimmlcopbhaaDoor
open Go.RowKit

theorem strings_Cut_c (s : ByteArray) (c : UInt8) (w : World) (hs : s.size ≤ 1048600) (M : ML w) :
    Calls Tryd.prog 39 #[.string s, .string ⟨#[c]⟩] w fun e w2 => e = .returned (.tuple #[.string (bs (Go.Lib.cut s.data.toList [c]).1), .string (bs (Go.Lib.cut s.data.toList [c]).2.1), .bool (Go.Lib.cut s.data.toList [c]).2.2]) ∧ Ext w w2 := by
  obtain ⟨m, hm⟩ := M
  exact (Any.strings_Cut lShCut s ⟨#[c]⟩ m w (by omega) hm).mono fun _ _ ⟨he, n, hw⟩ => ⟨he, by rw [hw]; exact (Ext.refl w).drewN n⟩

theorem strings_Split_c (s : ByteArray) (c : UInt8) (w : World) (hs : s.size ≤ 1048600) (M : ML w) :
    Calls Tryd.prog 43 #[.string s, .string ⟨#[c]⟩] w fun e w2 => ∃ v F, e = .returned v ∧ OwnSl strO w2 v (pcs c s) F ∧ NewF w F ∧ Ext w w2 := by
  obtain ⟨m, hm⟩ := M
  refine (Any.strings_Split lShSplit infoStr s ⟨#[c]⟩ m w (by omega) hm (Nat.le_refl 1)).mono fun e w2 h => ?_
  obtain ⟨he, hw⟩ := h
  have hl := Go.Lib.splitB_all ⟨#[c]⟩ (Nat.le_refl 1) 0 _ s rfl
  rw [splitB_one] at hl hw
  have hl2 : (pcs c s).length = Go.Lib.countB s ⟨#[c]⟩ + 1 := hl
  have hp := pcs_len c s
  rw [← hl2] at he
  subst hw
  refine ⟨_, [w.heap.size], he, ?_, ⟨by simp, fun b hb => by rw [List.mem_singleton] at hb; rw [hb]; exact Nat.le_refl _⟩, (Ext.refl w).alloc _⟩
  have hb := Blk.new w 9 ((pcs c s).map Value.string).toArray
  exact OwnSl.of_blk hb (by unfold maxLen; omega) (strs_cells _ _ fun x hx => by have := pcs_size hx; unfold maxLen; omega)

theorem strconv_Atoi_ok_c (s : ByteArray) (v : Int) (w : World) (hs : s.size ≤ 1048600) (h : Go.Lib.atoiAll s.data.toList = .ok v) :
    Calls Tryd.prog 69 #[.string s] w fun e w2 => e = .returned (.tuple #[.int .i64 v, .nilIface]) ∧ Ext w w2 :=
  (Any.strconv_Atoi_ok lShAtoi s (by omega) v h w).mono fun _ _ ⟨he, hw⟩ => ⟨he, by
    rcases hw with rfl | ⟨t, rfl⟩
    · exact Ext.refl _
    · exact Go.Lib.bytesWorld_below _ _ _⟩
theorem strconv_Atoi_err_c (s : ByteArray) (w : World) (hs : s.size ≤ 1048600) (h : ∀ v, Go.Lib.atoiAll s.data.toList ≠ .ok v) (V : EV w) :
    Calls Tryd.prog 69 #[.string s] w fun e w2 => ∃ n t p, e = .returned (.tuple #[.int .i64 n, .iface t p]) ∧ I64 n ∧ Ext w w2 := by
  obtain ⟨⟨tp, p, h1⟩, tq, q, h2⟩ := V
  rcases hc : Go.Lib.atoiAll s.data.toList with v | _ | _
  · exact absurd hc (h v)
  · exact (Any.strconv_Atoi_syntax lShAtoi s (by omega) hc _ w h1 (.inr ⟨tp, p, rfl⟩)).mono fun _ _ ⟨N, he, _, _, hb⟩ => ⟨_, _, _, he, by unfold I64; omega, hb⟩
  · exact (Any.strconv_Atoi_range lShAtoi s (by omega) hc _ w h2 (.inr ⟨tq, q, rfl⟩)).mono fun _ _ ⟨N, he, _, _, hb⟩ => ⟨_, _, _, he, Go.Lib.atoiSat_bounds _, hb⟩
end Go.Proofs.YtfieimmlcopbhaaDoor
