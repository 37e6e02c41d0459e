/-
  PLAIN LAWS, OF NO PROGRAM: the decimal numeral of an int.
-/
import Derived.Test.YtfieimmlcopbhaaDoorLib
import Derived.Lib.ItoaNum
namespace Go.Proofs.YtfieimmlcopbhaaDoor
open Go.RowKit Go.ChangeShapes Go.WideShapes

/-- the decimal numeral, as a string -/
def itoaS (n : Int) : ByteArray := ⟨(Go.Lib.itoa n).toArray⟩
/-- the digits of j, none for 0 -/
def dgs (j : Nat) : List UInt8 := if j = 0 then [] else Go.Lib.decDigits j
theorem dgs_zero : dgs 0 = [] := rfl
theorem dgs_pos {j : Nat} (h : 0 < j) : dgs j = Go.Lib.decDigits j := by unfold dgs; rw [if_neg (by omega)]
theorem dgs_step {j : Nat} (h : 0 < j) : dgs j = dgs (j / 10) ++ [UInt8.ofNat (48 + j % 10)] := by
  rw [dgs_pos h]
  by_cases h9 : j < 10
  · rw [Go.Lib.decDigits, dif_pos h9, show j / 10 = 0 by omega, show j % 10 = j by omega]; rfl
  · rw [Go.Lib.decDigits, dif_neg h9, dgs_pos (by omega)]
theorem decDigits_len (k : Nat) : ∀ u, u < 10 ^ (k + 1) → (Go.Lib.decDigits u).length ≤ k + 1 := by
  induction k with
  | zero => intro u h; rw [Go.Lib.decDigits, dif_pos (by simpa using h)]; simp
  | succ k ih =>
    intro u h
    by_cases h9 : u < 10
    · rw [Go.Lib.decDigits, dif_pos h9]; simp
    · rw [Go.Lib.decDigits, dif_neg h9, List.length_append]
      have := ih (u / 10) (by rw [Nat.pow_succ] at h; omega)
      simp only [List.length_singleton]; omega
theorem decDigits_pos (u : Nat) : 0 < (Go.Lib.decDigits u).length := by
  rw [Go.Lib.decDigits]; split <;> simp
theorem itoa_neg {n : Int} (h : n < 0) : Go.Lib.itoa n = 45 :: Go.Lib.decDigits n.natAbs := by unfold Go.Lib.itoa; rw [if_pos h]
theorem itoa_nn {n : Int} (h : ¬ n < 0) : Go.Lib.itoa n = Go.Lib.decDigits n.toNat := by unfold Go.Lib.itoa; rw [if_neg h]
theorem itoaS_size {n : Int} (h : I64 n) : (itoaS n).size ≤ 20 := by
  have e : (itoaS n).size = (Go.Lib.itoa n).length := by unfold itoaS; simp [ByteArray.size]
  rw [e]
  have h1 := h.out
  by_cases hn : n < 0
  · rw [itoa_neg hn, List.length_cons]
    have := decDigits_len 18 n.natAbs (by omega)
    omega
  · rw [itoa_nn hn]
    have := decDigits_len 18 n.toNat (by omega)
    omega
theorem bytes_append (a b : List UInt8) : (⟨a.toArray⟩ : ByteArray) ++ ⟨b.toArray⟩ = ⟨(a ++ b).toArray⟩ := by
  apply bytes_inj
  simp
theorem bytes_cons (x : UInt8) (s : ByteArray) : (⟨#[x]⟩ : ByteArray) ++ s = ⟨(x :: s.data.toList).toArray⟩ := by
  apply bytes_inj
  simp
theorem bytes_mk (s : ByteArray) : (⟨s.data.toList.toArray⟩ : ByteArray) = s := by
  apply bytes_inj
  simp
end Go.Proofs.YtfieimmlcopbhaaDoor
