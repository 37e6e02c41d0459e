/-
  SEVERAL SMALL TEXTS LAID TOGETHER: Ck, ShLastB.
-/
import Derived.Test.YtfieimmlcopbhaaGreatDoorMgEndPO0
import Derived.Shelf.Strings.LastIndex

namespace Go.Proofs.YtfieimmlcopbhaaGreatDoor
open Go.RowKit Go.ChangeShapes Go.WideShapes Go.ChangeAt

def ck (l : List UInt8) : Int := l.foldl (fun n b => (n * 263 + (b.toNat : Int) + 1) % 9901) 7

theorem ck_bd (l : List UInt8) : 0 ≤ ck l ∧ ck l ≤ 9900 := by
  unfold ck
  rcases List.eq_nil_or_concat l with rfl | ⟨l, b, rfl⟩
  · simp
  · simp only [List.concat_eq_append, List.foldl_append, List.foldl_cons, List.foldl_nil]; omega

theorem ck_snoc (l : List UInt8) (b : UInt8) : ck (l ++ [b]) = (ck l * 263 + (b.toNat : Int) + 1) % 9901 := by
  simp [ck]

theorem take_snoc (s : ByteArray) (k : Nat) (h : k < s.size) : s.data.toList.take (k + 1) = s.data.toList.take k ++ [s[k]] := by
  rw [List.take_succ_eq_append_getElem (by simpa using h)]; rfl

set_option maxHeartbeats 400000 in
theorem spec_Checksum (s : ByteArray) (w : World) (hs : s.size ≤ maxLen) :
    Calls Tryz.prog 105 #[.string s] w fun e w2 => e = .returned (.int .i64 (ck s.data.toList)) ∧ w = w2 := by
  unfold maxLen at hs
  go_enter Tryz.func105, Tryz.ntmps105
  go_wp2
  go_loop [3, 4] (fun n i => ∃ k : Nat, k ≤ s.size ∧ i = .int .i64 k ∧ n = .int .i64 (ck (s.data.toList.take k))) (fun _ i => s.size - (intOf i).toNat)
  case atStart => exact ⟨0, Nat.zero_le _, rfl, rfl⟩
  case round =>
    obtain ⟨k, hk, rfl, rfl⟩ := hrel
    have hd := ck_bd (s.data.toList.take k)
    by_cases hlt : k < s.size
    · have hb := s[k].toNat_lt
      go_wp2
      go_round
      case rel => exact ⟨k + 1, by omega, by go_num, by rw [take_snoc s k hlt, ck_snoc]⟩
      case measure => simp [intOf]; omega
    · go_wp2
      go_ret
      exact ⟨ret_int (by rw [List.take_of_length_le (by simp; omega)]), rfl⟩

set_option maxHeartbeats 400000 in
theorem impl_Checksum (s : ByteArray) (w : World) (hs : s.size ≤ maxLen) :
    Calls Tryz.prog 108 #[.string s] w fun e w2 => e = .returned (.int .i64 (ck s.data.toList)) ∧ w = w2 := by
  unfold maxLen at hs
  go_enter Tryz.func108, Tryz.ntmps108
  go_wp2
  go_loop [3, 7] (fun n i => ∃ k : Nat, k ≤ s.size ∧ i = .int .i64 k ∧ n = .int .i64 (ck (s.data.toList.take k))) (fun _ i => s.size - (intOf i).toNat)
  case atStart => exact ⟨0, Nat.zero_le _, rfl, rfl⟩
  case round =>
    obtain ⟨k, hk, rfl, rfl⟩ := hrel
    have hd := ck_bd (s.data.toList.take k)
    by_cases hlt : k < s.size
    · have hb := s[k].toNat_lt
      go_wp2
      go_round
      case rel => exact ⟨k + 1, by omega, by go_num, by rw [take_snoc s k hlt, ck_snoc, Int.mul_comm]⟩
      case measure => simp [intOf]; omega
    · go_wp2
      go_ret
      exact ⟨ret_int (by rw [List.take_of_length_le (by simp; omega)]), rfl⟩
end Go.Proofs.YtfieimmlcopbhaaGreatDoor

namespace Go.Proofs.YtfieimmlcopbhaaGreatDoor
open Go.Shelf
def lShLastB_ren : Go.Shelf.Ren := ⟨fun | 149 => 62 | 222 => 107 | n => n, fun | 9 => 9 | 5 => 5 | 3 => 3 | 4 => 4 | n => n, fun | n => n⟩
theorem lShLastB : Go.Proofs.Lays.n149 Tryz.prog lShLastB_ren := {
  mixed := by kernel_rfl
  f149 := Tryz.func62.trans (congrArg some (by kernel_rfl))
  f222 := Tryz.func107.trans (congrArg some (by kernel_rfl))
  t3 := Tryz.underlying3
  a3 := Tryz.isAgg3
  z3 := Tryz.sizeOf3
  v3 := Tryz.zeroValue3
  t4 := Tryz.underlying4
  a4 := Tryz.isAgg4
  z4 := Tryz.sizeOf4
  v4 := Tryz.zeroValue4
  t5 := Tryz.underlying5
  a5 := Tryz.isAgg5
  z5 := Tryz.sizeOf5
  v5 := Tryz.zeroValue5
  t9 := Tryz.underlying9
  a9 := Tryz.isAgg9
  z9 := Tryz.sizeOf9
  v9 := Tryz.zeroValue9 }
end Go.Proofs.YtfieimmlcopbhaaGreatDoor
