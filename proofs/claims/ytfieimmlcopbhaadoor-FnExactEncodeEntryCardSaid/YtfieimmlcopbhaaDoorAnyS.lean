/-
  strings.ContainsAny, after the shelf.
-/
import Derived.Test.YtfieimmlcopbhaaDoorShAny
namespace Go.Proofs.YtfieimmlcopbhaaDoor
open Go.Shelf Go.RowKit

theorem strings_ContainsAny_c (s chars : ByteArray) (w : World) (hs : s.size < 4294967281) (hcs : chars.size < 4294967281)
    (has : ∀ (j : Nat) b, s.data.toList[j]? = some b → b.toNat < 128) (hac : ∀ (j : Nat) b, chars.data.toList[j]? = some b → b.toNat < 128) :
    Calls Tryd.prog 131 #[.string s, .string chars] w fun e w' => e = .returned (.bool (Lib.containsAny s.data.toList chars.data.toList)) ∧ Below w.heap.size w w' :=
  Any.strings_ContainsAny_laid lShAny (by kernel_rfl) s chars w hs hcs has hac

theorem indexAny_cons (b : UInt8) (l cs : List UInt8) : Lib.indexAny (b :: l) cs = if cs.contains b then 0 else if Lib.indexAny l cs == -1 then -1 else Lib.indexAny l cs + 1 := rfl
theorem containsAny_any (cs : List UInt8) (l : List UInt8) : Lib.containsAny l cs = l.any fun b => cs.contains b := by
  unfold Lib.containsAny
  induction l with
  | nil => rfl
  | cons b l ih =>
    have hg := Lib.indexAny_ge cs l
    rw [List.any_cons, ← ih, indexAny_cons]
    generalize Lib.indexAny l cs = n at hg ⊢
    cases cs.contains b with
    | true => simp
    | false =>
      by_cases h : n = -1
      · subst h; rfl
      · have h2 : 0 ≤ n := by omega
        have h3 : (n == -1) = false := by simp [h]
        rw [h3]
        have h4 : (0 : Int) ≤ n + 1 := by omega
        simp [h2, h4]
end Go.Proofs.YtfieimmlcopbhaaDoor
