/-
  THE SHELF's CONTRACT OF strings.ContainsAny, AT SEAT rC's PROGRAM (the numbers are this program's own; printed by the shelf's lay-plain tool).
-/
import Derived.Shelf.Strings.IndexAnyAll
import Derived.Test.YtbhhbdilaihegaaTypes
namespace Go.Proofs.Ytbhhbdilaihegaa
open Go.Shelf Go.RowKit

def anyRen : Go.Shelf.Ren := ⟨fun | 150 => 150 | 153 => 166 | 152 => 174 | 226 => 175 | 227 => 176 | 228 => 177 | 137 => 180 | 119 => 181 | 224 => 182 | 225 => 183 | 217 => 184 | 266 => 185 | n => n, fun | 9 => 9 | 4 => 4 | 3 => 3 | 5 => 5 | 21 => 21 | 117 => 169 | 116 => 168 | 0 => 0 | 46 => 126 | 124 => 178 | n => n, fun | n => n⟩
theorem anyLays : Go.Proofs.Lays.n150 Try.prog anyRen := {
  mixed := by kernel_rfl
  f119 := Try.func181.trans (congrArg some (by kernel_rfl))
  f137 := Try.func180.trans (congrArg some (by kernel_rfl))
  f150 := Try.func150.trans (congrArg some (by kernel_rfl))
  f152 := Try.func174.trans (congrArg some (by kernel_rfl))
  f153 := Try.func166.trans (congrArg some (by kernel_rfl))
  f217 := Try.func184.trans (congrArg some (by kernel_rfl))
  f224 := Try.func182.trans (congrArg some (by kernel_rfl))
  f225 := Try.func183.trans (congrArg some (by kernel_rfl))
  f226 := Try.func175.trans (congrArg some (by kernel_rfl))
  f227 := Try.func176.trans (congrArg some (by kernel_rfl))
  f228 := Try.func177.trans (congrArg some (by kernel_rfl))
  f266 := Try.func185.trans (congrArg some (by kernel_rfl))
  t0 := Try.underlying0
  a0 := Try.isAgg0
  z0 := Try.sizeOf0
  v0 := Try.zeroValue0
  t3 := Try.underlying3
  a3 := Try.isAgg3
  z3 := Try.sizeOf3
  v3 := Try.zeroValue3
  t4 := Try.underlying4
  a4 := Try.isAgg4
  z4 := Try.sizeOf4
  v4 := Try.zeroValue4
  t5 := Try.underlying5
  a5 := Try.isAgg5
  z5 := Try.sizeOf5
  v5 := Try.zeroValue5
  t9 := Try.underlying9
  a9 := Try.isAgg9
  z9 := Try.sizeOf9
  v9 := Try.zeroValue9
  t21 := Try.underlying21
  a21 := Try.isAgg21
  z21 := Try.sizeOf21
  v21 := Try.zeroValue21
  t46 := Try.underlying126
  a46 := Try.isAgg126
  z46 := Try.sizeOf126
  v46 := Try.zeroValue126
  t116 := Try.underlying168
  a116 := Try.isAgg168
  z116 := Try.sizeOf168
  t117 := Try.underlying169
  a117 := Try.isAgg169
  z117 := Try.sizeOf169
  v117 := Try.zeroValue169
  t124 := Try.underlying178
  a124 := Try.isAgg178
  z124 := Try.sizeOf178
  v124 := Try.zeroValue178 }

theorem strings_ContainsAny_c (s chars : ByteArray) (w : World) (hs : s.size < 4294967281) (hcs : chars.size < 4294967281)
    (has : ∀ (j : Nat) b, s.data.toList[j]? = some b → b.toNat < 128) (hac : ∀ (j : Nat) b, chars.data.toList[j]? = some b → b.toNat < 128) :
    Calls Try.prog 150 #[.string s, .string chars] w fun e w' => e = .returned (.bool (Lib.containsAny s.data.toList chars.data.toList)) ∧ Below w.heap.size w w' :=
  Any.strings_ContainsAny_laid anyLays (by kernel_rfl) s chars w hs hcs has hac

theorem indexAny_cons (b : UInt8) (l cs : List UInt8) : Lib.indexAny (b :: l) cs = if cs.contains b then 0 else if Lib.indexAny l cs == -1 then -1 else Lib.indexAny l cs + 1 := rfl
theorem containsAny_any (cs : List UInt8) (l : List UInt8) : Lib.containsAny l cs = l.any fun b => cs.contains b := by
  unfold Lib.containsAny
  induction l with
  | nil => rfl
  | cons b l ih =>
    have hg := Lib.indexAny_ge cs l
    rw [List.any_cons, ← ih, indexAny_cons]
    generalize Lib.indexAny l cs = n at hg ⊢
    cases cs.contains b with
    | true => simp
    | false =>
      by_cases h : n = -1
      · subst h; rfl
      · have h2 : 0 ≤ n := by omega
        have h3 : (n == -1) = false := by simp [h]
        rw [h3]
        have h4 : (0 : Int) ≤ n + 1 := by omega
        simp [h2, h4]
end Go.Proofs.Ytbhhbdilaihegaa
