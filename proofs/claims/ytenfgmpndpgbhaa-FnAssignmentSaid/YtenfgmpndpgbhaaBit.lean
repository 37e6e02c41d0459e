/-
  PLAIN LAWS, OF NO PROGRAM: bits of ints that are not below 0.
-/
import Derived.Test.YtenfgmpndpgbhaaOwn
import Derived.Laws.BitsAllLaws
import Derived.Laws.BitsLemmas
namespace Go.Proofs.Ytenfgmpndpgbhaa
open Go.RowKit

theorem nat_i64 (a : Nat) (h : a < 2 ^ 63) : (BitVec.ofInt 64 (a : Int)).toNat = a := by
  rw [BitVec.ofInt_natCast, BitVec.toNat_ofNat]
  exact Nat.mod_eq_of_lt (Nat.lt_trans h (by decide))
theorem wrap_nat (x : Nat) (h : x < 2 ^ 63) : IntKind.i64.wrap (x : Int) = (x : Int) := by
  rw [IntKind.wrap_i64]
  have : x < 9223372036854775808 := h
  omega
theorem or_nat {a b : Nat} (ha : a < 2 ^ 63) (hb : b < 2 ^ 63) : bits .or .i64 (a : Int) (b : Int) = ((a ||| b : Nat) : Int) := by
  have e : bits .or .i64 (a : Int) (b : Int) = IntKind.i64.wrap (((BitVec.ofInt 64 (a : Int)) ||| (BitVec.ofInt 64 (b : Int))).toNat : Int) := rfl
  rw [e, BitVec.toNat_or, nat_i64 a ha, nat_i64 b hb, wrap_nat _ (Nat.or_lt_two_pow ha hb)]
theorem and_one {a : Nat} (ha : a < 2 ^ 63) : bits .and .i64 (a : Int) 1 = ((a % 2 : Nat) : Int) := by
  have e : bits .and .i64 (a : Int) 1 = IntKind.i64.wrap (((BitVec.ofInt 64 (a : Int)) &&& (BitVec.ofInt 64 ((1 : Nat) : Int))).toNat : Int) := rfl
  rw [e, BitVec.toNat_and, nat_i64 a ha, nat_i64 1 (by decide), Nat.and_one_is_mod]
  exact wrap_nat _ (by omega)
/-- 's >> c & 1 == 0' -/
theorem bit_test {s c : Nat} (hs : s < 2 ^ 63) : (bits .and .i64 ((s : Int) / 2 ^ c) 1 == 0) = !s.testBit c := by
  have e : ((s : Int) / 2 ^ c) = ((s / 2 ^ c : Nat) : Int) := by rw [Int.natCast_ediv, Int.natCast_pow]; rfl
  have h : s / 2 ^ c ≤ s := Nat.div_le_self _ _
  rw [e, and_one (Nat.lt_of_le_of_lt h hs), Nat.testBit_eq_decide_div_mod_eq]
  have : s / 2 ^ c % 2 = 0 ∨ s / 2 ^ c % 2 = 1 := by omega
  rcases this with h | h <;> rw [h] <;> rfl
/-- 's | 1 << c' -/
theorem bit_set {s c : Nat} (hs : s < 2 ^ 63) (hc : c < 63) : bits .or .i64 (s : Int) (2 ^ c) = ((s ||| 1 <<< c : Nat) : Int) := by
  have e : ((2 : Int) ^ c) = ((1 <<< c : Nat) : Int) := by rw [Nat.one_shiftLeft, Int.natCast_pow]; rfl
  rw [e, or_nat hs]
  rw [Nat.one_shiftLeft]
  exact Nat.pow_lt_pow_right (by decide) hc
theorem wrap64_pow {c : Nat} (hc : c < 63) : wrap64 (2 ^ c) = 2 ^ c := by
  have e : ((2 : Int) ^ c) = ((2 ^ c : Nat) : Int) := by rw [Int.natCast_pow]; rfl
  have h : 2 ^ c < 2 ^ 63 := Nat.pow_lt_pow_right (by decide) hc
  have h2 : (2 : Nat) ^ 63 = 9223372036854775808 := by decide
  rw [e]
  generalize (2 : Nat) ^ c = x at h
  unfold wrap64
  omega
theorem bit_setw {s c : Nat} (hs : s < 2 ^ 63) (hc : c < 63) : bits .or .i64 (s : Int) (wrap64 (2 ^ c)) = ((s ||| 1 <<< c : Nat) : Int) := by
  rw [wrap64_pow hc, bit_set hs hc]
theorem bit_set_lt {s c n : Nat} (hs : s < 2 ^ n) (hc : c < n) : s ||| 1 <<< c < 2 ^ n := by
  refine Nat.or_lt_two_pow hs ?_
  rw [Nat.one_shiftLeft]
  exact Nat.pow_lt_pow_right (by decide) hc
end Go.Proofs.Ytenfgmpndpgbhaa
