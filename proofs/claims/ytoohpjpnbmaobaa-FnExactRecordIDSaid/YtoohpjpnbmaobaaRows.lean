/-
  No cell of these rows narrows 'for every input' (looked for: loops, veiled, ifaces, maps, wideKeys, modest, calm, conditions, laid).
  DERIVED. THE GIVEN ROWS OF THIS SEAT. 6 by the template 'for every input the law returns true; each argument reads behind the call as it read before'; 0 by the template 'total and deterministic' (their statements: YtoohpjpnbmaobaaTotals.lean).
  GIVEN WITH THE SEED: the statements are not yours to turn. If you find one false, say at which input.
  Laid BY PROGRAM, IN A SANDBOX (cutbox-rows.mjs): the forced cells as the released guide's own fill.sh prints them over the translation c824cfe08d040179… (all of the seat's roots in one cut). By AI agents, Wed Nov 11 2026. No macro, syntax, notation, axiom, sorry.
-/
import Derived.Test.YtoohpjpnbmaobaaChecked
import GoSem.Claim
import GoSem.ClaimJoined
import GoSem.ClaimMapViews
import Derived.JoinedTies
import Derived.KernelRfl
namespace Go.Proofs.Ytoohpjpnbmaobaa
/- THE CELL 'sum', in the pinned program and in every row, IS THE sha256 OF THE DUMP (.gsa) THAT YtoohpjpnbmaobaaProg.lean LOADS. Nothing in Lean hashes anything: it is a label: what it is worth is what the hold of that sum in a sandbox is worth. -/
noncomputable def Try.pinned : Pinned := { name := "ytoohpjpnbmaobaa", sum := "c824cfe08d04017900bdb2d40c2127ad6f1709ab0847b491e30e0de3428adc33", checked := Try.checked }
namespace Rows
def none {H : Type} : Left H := { results := [], args := [] }

/-- 'laws.FnExactChecksum': WHATEVER THE INPUT: true; the input reads as it did. -/
def fnExactChecksumSpec : ChangeSpec := { name := "fnExactChecksum", fn := fun _ => fun
  | [d] => { results := [.lit (.bool true)], args := [d] }
  | _ => none }
def fnExactChecksumRow : OpenClaim := { program := "ytoohpjpnbmaobaa", sum := "c824cfe08d04017900bdb2d40c2127ad6f1709ab0847b491e30e0de3428adc33", func := "loop.example/g01923/laws.FnExactChecksum", spec := "fnExactChecksum", apart := false }
def FnExactChecksumSaid : Prop := fnExactChecksumRow.holds Try.pinned (OpenSpec.ofChange fnExactChecksumSpec)

/-- ITS FALSE NEIGHBOUR: 'it returns false'. Refute it at one input. -/
def fnExactChecksumWrong : ChangeSpec := { name := "fnExactChecksum", fn := fun _ => fun
  | [d] => { results := [.lit (.bool false)], args := [d] }
  | _ => none }
def FnExactChecksumWrongFalsely : Prop := fnExactChecksumRow.holds Try.pinned (OpenSpec.ofChange fnExactChecksumWrong)

/-- 'laws.FnExactIsValidVerdict': WHATEVER THE INPUT: true; the input reads as it did. -/
def fnExactIsValidVerdictSpec : ChangeSpec := { name := "fnExactIsValidVerdict", fn := fun _ => fun
  | [d] => { results := [.lit (.bool true)], args := [d] }
  | _ => none }
def fnExactIsValidVerdictRow : OpenClaim := { program := "ytoohpjpnbmaobaa", sum := "c824cfe08d04017900bdb2d40c2127ad6f1709ab0847b491e30e0de3428adc33", func := "loop.example/g01923/laws.FnExactIsValidVerdict", spec := "fnExactIsValidVerdict", apart := false }
def FnExactIsValidVerdictSaid : Prop := fnExactIsValidVerdictRow.holds Try.pinned (OpenSpec.ofChange fnExactIsValidVerdictSpec)

/-- ITS FALSE NEIGHBOUR: 'it returns false'. Refute it at one input. -/
def fnExactIsValidVerdictWrong : ChangeSpec := { name := "fnExactIsValidVerdict", fn := fun _ => fun
  | [d] => { results := [.lit (.bool false)], args := [d] }
  | _ => none }
def FnExactIsValidVerdictWrongFalsely : Prop := fnExactIsValidVerdictRow.holds Try.pinned (OpenSpec.ofChange fnExactIsValidVerdictWrong)

/-- 'laws.FnExactAreSurvivorRules': WHATEVER THE INPUT: true; the input reads as it did. -/
def fnExactAreSurvivorRulesSpec : ChangeSpec := { name := "fnExactAreSurvivorRules", fn := fun _ => fun
  | [d] => { results := [.lit (.bool true)], args := [d] }
  | _ => none }
def fnExactAreSurvivorRulesRow : OpenClaim := { program := "ytoohpjpnbmaobaa", sum := "c824cfe08d04017900bdb2d40c2127ad6f1709ab0847b491e30e0de3428adc33", func := "loop.example/g01923/laws.FnExactAreSurvivorRules", spec := "fnExactAreSurvivorRules", unfollowed := true, recurses := true, apart := false }
def FnExactAreSurvivorRulesSaid : Prop := fnExactAreSurvivorRulesRow.holds Try.pinned (OpenSpec.ofChange fnExactAreSurvivorRulesSpec)

/-- ITS FALSE NEIGHBOUR: 'it returns false'. Refute it at one input. -/
def fnExactAreSurvivorRulesWrong : ChangeSpec := { name := "fnExactAreSurvivorRules", fn := fun _ => fun
  | [d] => { results := [.lit (.bool false)], args := [d] }
  | _ => none }
def FnExactAreSurvivorRulesWrongFalsely : Prop := fnExactAreSurvivorRulesRow.holds Try.pinned (OpenSpec.ofChange fnExactAreSurvivorRulesWrong)

/-- 'laws.FnExactRecordID': WHATEVER THE INPUT: true; the input reads as it did. -/
def fnExactRecordIDSpec : ChangeSpec := { name := "fnExactRecordID", fn := fun _ => fun
  | [d] => { results := [.lit (.bool true)], args := [d] }
  | _ => none }
def fnExactRecordIDRow : OpenClaim := { program := "ytoohpjpnbmaobaa", sum := "c824cfe08d04017900bdb2d40c2127ad6f1709ab0847b491e30e0de3428adc33", func := "loop.example/g01923/laws.FnExactRecordID", spec := "fnExactRecordID", apart := false }
def FnExactRecordIDSaid : Prop := fnExactRecordIDRow.holds Try.pinned (OpenSpec.ofChange fnExactRecordIDSpec)

/-- ITS FALSE NEIGHBOUR: 'it returns false'. Refute it at one input. -/
def fnExactRecordIDWrong : ChangeSpec := { name := "fnExactRecordID", fn := fun _ => fun
  | [d] => { results := [.lit (.bool false)], args := [d] }
  | _ => none }
def FnExactRecordIDWrongFalsely : Prop := fnExactRecordIDRow.holds Try.pinned (OpenSpec.ofChange fnExactRecordIDWrong)

/-- 'laws.FnExactCompareVerdicts': WHATEVER THE INPUT: true; the input reads as it did. -/
def fnExactCompareVerdictsSpec : ChangeSpec := { name := "fnExactCompareVerdicts", fn := fun _ => fun
  | [d1, d2] => { results := [.lit (.bool true)], args := [d1, d2] }
  | _ => none }
def fnExactCompareVerdictsRow : OpenClaim := { program := "ytoohpjpnbmaobaa", sum := "c824cfe08d04017900bdb2d40c2127ad6f1709ab0847b491e30e0de3428adc33", func := "loop.example/g01923/laws.FnExactCompareVerdicts", spec := "fnExactCompareVerdicts", apart := false }
def FnExactCompareVerdictsSaid : Prop := fnExactCompareVerdictsRow.holds Try.pinned (OpenSpec.ofChange fnExactCompareVerdictsSpec)

/-- ITS FALSE NEIGHBOUR: 'it returns false'. Refute it at one input. -/
def fnExactCompareVerdictsWrong : ChangeSpec := { name := "fnExactCompareVerdicts", fn := fun _ => fun
  | [d1, d2] => { results := [.lit (.bool false)], args := [d1, d2] }
  | _ => none }
def FnExactCompareVerdictsWrongFalsely : Prop := fnExactCompareVerdictsRow.holds Try.pinned (OpenSpec.ofChange fnExactCompareVerdictsWrong)

/-- 'laws.FnExactIsOverlapMatrix': WHATEVER THE INPUT: true; the input reads as it did. -/
def fnExactIsOverlapMatrixSpec : ChangeSpec := { name := "fnExactIsOverlapMatrix", fn := fun _ => fun
  | [d] => { results := [.lit (.bool true)], args := [d] }
  | _ => none }
def fnExactIsOverlapMatrixRow : OpenClaim := { program := "ytoohpjpnbmaobaa", sum := "c824cfe08d04017900bdb2d40c2127ad6f1709ab0847b491e30e0de3428adc33", func := "loop.example/g01923/laws.FnExactIsOverlapMatrix", spec := "fnExactIsOverlapMatrix", unfollowed := true, recurses := true, apart := false }
def FnExactIsOverlapMatrixSaid : Prop := fnExactIsOverlapMatrixRow.holds Try.pinned (OpenSpec.ofChange fnExactIsOverlapMatrixSpec)

/-- ITS FALSE NEIGHBOUR: 'it returns false'. Refute it at one input. -/
def fnExactIsOverlapMatrixWrong : ChangeSpec := { name := "fnExactIsOverlapMatrix", fn := fun _ => fun
  | [d] => { results := [.lit (.bool false)], args := [d] }
  | _ => none }
def FnExactIsOverlapMatrixWrongFalsely : Prop := fnExactIsOverlapMatrixRow.holds Try.pinned (OpenSpec.ofChange fnExactIsOverlapMatrixWrong)

/- THE SECOND FORM. 'bulk': how many values and letters a reading holds, each counted each time it is reached (what is shared counts as often as it is met; a slice's spare places count too). A statement '..UptoSaid' is the law's where the arguments, and the package variables that the reading takes, are together of bulk at most 1048576: NARROWER than '..Said'. Prove '..Said' where nothing that the law and all that it calls make is longer than what came in: it says more and counts as full. Else prove '..UptoSaid'. A law counts once. -/
mutual
def uptoBulk {H : Type} : DataW H → Nat
  | .lit (.string bytes) => bytes.length + 1
  | .lit _ => 1
  | .nil => 1
  | .ptr d => uptoBulk d + 1
  | .slice elems spare => uptoBulkAll elems + uptoBulkAll spare + 1
  | .agg parts => uptoBulkAll parts + 1
  | .iface _ d => uptoBulk d + 1
  | .map entries => uptoBulkEntries entries + 1
  | .held _ => 1
def uptoBulkAll {H : Type} : List (DataW H) → Nat
  | [] => 0
  | d :: r => uptoBulk d + uptoBulkAll r
def uptoBulkEntries {H : Type} : List (Lit × DataW H) → Nat
  | [] => 0
  | x :: r => uptoBulkEntry x + uptoBulkEntries r
def uptoBulkEntry {H : Type} : Lit × DataW H → Nat
  | (.string bytes, d) => bytes.length + uptoBulk d + 1
  | (_, d) => uptoBulk d + 1
 end
def uptoSmall : (H : Type) → List (DataW H) → Bool := fun _ ds => decide (uptoBulkAll ds ≤ 1048576)
def OpenSpec.upto (s : _root_.Go.ChangeSpec) : _root_.Go.OpenSpec := { _root_.Go.OpenSpec.ofChange s with cond := some uptoSmall }

/-- 'laws.FnExactChecksum', WHERE WHAT IT READS IS OF BULK AT MOST 1048576: true; the input reads as it did. -/
def fnExactChecksumUptoRow : OpenClaim := { program := "ytoohpjpnbmaobaa", sum := "c824cfe08d04017900bdb2d40c2127ad6f1709ab0847b491e30e0de3428adc33", func := "loop.example/g01923/laws.FnExactChecksum", spec := "fnExactChecksum", apart := false, narrowed := true }
def FnExactChecksumUptoSaid : Prop := fnExactChecksumUptoRow.holds Try.pinned (OpenSpec.upto fnExactChecksumSpec)

/-- 'laws.FnExactIsValidVerdict', WHERE WHAT IT READS IS OF BULK AT MOST 1048576: true; the input reads as it did. -/
def fnExactIsValidVerdictUptoRow : OpenClaim := { program := "ytoohpjpnbmaobaa", sum := "c824cfe08d04017900bdb2d40c2127ad6f1709ab0847b491e30e0de3428adc33", func := "loop.example/g01923/laws.FnExactIsValidVerdict", spec := "fnExactIsValidVerdict", apart := false, narrowed := true }
def FnExactIsValidVerdictUptoSaid : Prop := fnExactIsValidVerdictUptoRow.holds Try.pinned (OpenSpec.upto fnExactIsValidVerdictSpec)

/-- 'laws.FnExactAreSurvivorRules', WHERE WHAT IT READS IS OF BULK AT MOST 1048576: true; the input reads as it did. -/
def fnExactAreSurvivorRulesUptoRow : OpenClaim := { program := "ytoohpjpnbmaobaa", sum := "c824cfe08d04017900bdb2d40c2127ad6f1709ab0847b491e30e0de3428adc33", func := "loop.example/g01923/laws.FnExactAreSurvivorRules", spec := "fnExactAreSurvivorRules", unfollowed := true, recurses := true, apart := false, narrowed := true }
def FnExactAreSurvivorRulesUptoSaid : Prop := fnExactAreSurvivorRulesUptoRow.holds Try.pinned (OpenSpec.upto fnExactAreSurvivorRulesSpec)

/-- 'laws.FnExactRecordID', WHERE WHAT IT READS IS OF BULK AT MOST 1048576: true; the input reads as it did. -/
def fnExactRecordIDUptoRow : OpenClaim := { program := "ytoohpjpnbmaobaa", sum := "c824cfe08d04017900bdb2d40c2127ad6f1709ab0847b491e30e0de3428adc33", func := "loop.example/g01923/laws.FnExactRecordID", spec := "fnExactRecordID", apart := false, narrowed := true }
def FnExactRecordIDUptoSaid : Prop := fnExactRecordIDUptoRow.holds Try.pinned (OpenSpec.upto fnExactRecordIDSpec)

/-- 'laws.FnExactCompareVerdicts', WHERE WHAT IT READS IS OF BULK AT MOST 1048576: true; the input reads as it did. -/
def fnExactCompareVerdictsUptoRow : OpenClaim := { program := "ytoohpjpnbmaobaa", sum := "c824cfe08d04017900bdb2d40c2127ad6f1709ab0847b491e30e0de3428adc33", func := "loop.example/g01923/laws.FnExactCompareVerdicts", spec := "fnExactCompareVerdicts", apart := false, narrowed := true }
def FnExactCompareVerdictsUptoSaid : Prop := fnExactCompareVerdictsUptoRow.holds Try.pinned (OpenSpec.upto fnExactCompareVerdictsSpec)

/-- 'laws.FnExactIsOverlapMatrix', WHERE WHAT IT READS IS OF BULK AT MOST 1048576: true; the input reads as it did. -/
def fnExactIsOverlapMatrixUptoRow : OpenClaim := { program := "ytoohpjpnbmaobaa", sum := "c824cfe08d04017900bdb2d40c2127ad6f1709ab0847b491e30e0de3428adc33", func := "loop.example/g01923/laws.FnExactIsOverlapMatrix", spec := "fnExactIsOverlapMatrix", unfollowed := true, recurses := true, apart := false, narrowed := true }
def FnExactIsOverlapMatrixUptoSaid : Prop := fnExactIsOverlapMatrixUptoRow.holds Try.pinned (OpenSpec.upto fnExactIsOverlapMatrixSpec)

end Rows
end Go.Proofs.Ytoohpjpnbmaobaa
