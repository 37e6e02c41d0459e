/-
  No cell of these rows narrows 'for every input' (looked for: loops, veiled, ifaces, maps, wideKeys, modest, calm, conditions, laid).
  DERIVED. THE GIVEN ROWS OF THIS SEAT. 14 by the template 'for every input the law returns true; each argument reads behind the call as it read before'; 0 by the template 'total and deterministic' (their statements: YtenfgmpndpgbhaaTotals.lean).
  GIVEN WITH THE SEED: the statements are not yours to turn. If you find one false, say at which input.
  Laid BY PROGRAM, IN A SANDBOX (cutbox-rows.mjs): the forced cells as the released guide's own fill.sh prints them over the translation cf6af1f04c2e37a6… (all of the seat's roots in one cut). By AI agents, Wed Nov 11 2026. No macro, syntax, notation, axiom, sorry.
-/
import Derived.Test.YtenfgmpndpgbhaaChecked
import GoSem.Claim
import GoSem.ClaimJoined
import GoSem.ClaimMapViews
import Derived.JoinedTies
import Derived.KernelRfl
namespace Go.Proofs.Ytenfgmpndpgbhaa
/- THE CELL 'sum', in the pinned program and in every row, IS THE sha256 OF THE DUMP (.gsa) THAT YtenfgmpndpgbhaaProg.lean LOADS. Nothing in Lean hashes anything: it is a label: what it is worth is what the hold of that sum in a sandbox is worth. -/
noncomputable def Try.pinned : Pinned := { name := "ytenfgmpndpgbhaa", sum := "cf6af1f04c2e37a62e315cba75c94a4630117efbd01fc41dfe10a4a75c5b3d2f", checked := Try.checked }
namespace Rows
def none {H : Type} : Left H := { results := [], args := [] }

/-- 'laws.FnExactIsAssignment': WHATEVER THE INPUT: true; the input reads as it did. -/
def fnExactIsAssignmentSpec : ChangeSpec := { name := "fnExactIsAssignment", fn := fun _ => fun
  | [d1, d2] => { results := [.lit (.bool true)], args := [d1, d2] }
  | _ => none }
def fnExactIsAssignmentRow : OpenClaim := { program := "ytenfgmpndpgbhaa", sum := "cf6af1f04c2e37a62e315cba75c94a4630117efbd01fc41dfe10a4a75c5b3d2f", func := "loop.example/g01923/laws.FnExactIsAssignment", spec := "fnExactIsAssignment", unfollowed := true, recurses := true, apart := false }
def FnExactIsAssignmentSaid : Prop := fnExactIsAssignmentRow.holds Try.pinned (OpenSpec.ofChange fnExactIsAssignmentSpec)

/-- ITS FALSE NEIGHBOUR: 'it returns false'. Refute it at one input. -/
def fnExactIsAssignmentWrong : ChangeSpec := { name := "fnExactIsAssignment", fn := fun _ => fun
  | [d1, d2] => { results := [.lit (.bool false)], args := [d1, d2] }
  | _ => none }
def FnExactIsAssignmentWrongFalsely : Prop := fnExactIsAssignmentRow.holds Try.pinned (OpenSpec.ofChange fnExactIsAssignmentWrong)

/-- 'laws.FnExactBestValue': WHATEVER THE INPUT: true; the input reads as it did. -/
def fnExactBestValueSpec : ChangeSpec := { name := "fnExactBestValue", fn := fun _ => fun
  | [d] => { results := [.lit (.bool true)], args := [d] }
  | _ => none }
def fnExactBestValueRow : OpenClaim := { program := "ytenfgmpndpgbhaa", sum := "cf6af1f04c2e37a62e315cba75c94a4630117efbd01fc41dfe10a4a75c5b3d2f", func := "loop.example/g01923/laws.FnExactBestValue", spec := "fnExactBestValue", unfollowed := true, recurses := true, apart := false }
def FnExactBestValueSaid : Prop := fnExactBestValueRow.holds Try.pinned (OpenSpec.ofChange fnExactBestValueSpec)

/-- ITS FALSE NEIGHBOUR: 'it returns false'. Refute it at one input. -/
def fnExactBestValueWrong : ChangeSpec := { name := "fnExactBestValue", fn := fun _ => fun
  | [d] => { results := [.lit (.bool false)], args := [d] }
  | _ => none }
def FnExactBestValueWrongFalsely : Prop := fnExactBestValueRow.holds Try.pinned (OpenSpec.ofChange fnExactBestValueWrong)

/-- 'laws.FnExactOverlapMatrix': WHATEVER THE INPUT: true; the input reads as it did. -/
def fnExactOverlapMatrixSpec : ChangeSpec := { name := "fnExactOverlapMatrix", fn := fun _ => fun
  | [d1, d2] => { results := [.lit (.bool true)], args := [d1, d2] }
  | _ => none }
def fnExactOverlapMatrixRow : OpenClaim := { program := "ytenfgmpndpgbhaa", sum := "cf6af1f04c2e37a62e315cba75c94a4630117efbd01fc41dfe10a4a75c5b3d2f", func := "loop.example/g01923/laws.FnExactOverlapMatrix", spec := "fnExactOverlapMatrix", apart := false }
def FnExactOverlapMatrixSaid : Prop := fnExactOverlapMatrixRow.holds Try.pinned (OpenSpec.ofChange fnExactOverlapMatrixSpec)

/-- ITS FALSE NEIGHBOUR: 'it returns false'. Refute it at one input. -/
def fnExactOverlapMatrixWrong : ChangeSpec := { name := "fnExactOverlapMatrix", fn := fun _ => fun
  | [d1, d2] => { results := [.lit (.bool false)], args := [d1, d2] }
  | _ => none }
def FnExactOverlapMatrixWrongFalsely : Prop := fnExactOverlapMatrixRow.holds Try.pinned (OpenSpec.ofChange fnExactOverlapMatrixWrong)

/-- 'laws.FnExactAssignmentValue': WHATEVER THE INPUT: true; the input reads as it did. -/
def fnExactAssignmentValueSpec : ChangeSpec := { name := "fnExactAssignmentValue", fn := fun _ => fun
  | [d1, d2] => { results := [.lit (.bool true)], args := [d1, d2] }
  | _ => none }
def fnExactAssignmentValueRow : OpenClaim := { program := "ytenfgmpndpgbhaa", sum := "cf6af1f04c2e37a62e315cba75c94a4630117efbd01fc41dfe10a4a75c5b3d2f", func := "loop.example/g01923/laws.FnExactAssignmentValue", spec := "fnExactAssignmentValue", unfollowed := true, recurses := true, apart := false }
def FnExactAssignmentValueSaid : Prop := fnExactAssignmentValueRow.holds Try.pinned (OpenSpec.ofChange fnExactAssignmentValueSpec)

/-- ITS FALSE NEIGHBOUR: 'it returns false'. Refute it at one input. -/
def fnExactAssignmentValueWrong : ChangeSpec := { name := "fnExactAssignmentValue", fn := fun _ => fun
  | [d1, d2] => { results := [.lit (.bool false)], args := [d1, d2] }
  | _ => none }
def FnExactAssignmentValueWrongFalsely : Prop := fnExactAssignmentValueRow.holds Try.pinned (OpenSpec.ofChange fnExactAssignmentValueWrong)

/-- 'laws.FnExactBestAssignment': WHATEVER THE INPUT: true; the input reads as it did. -/
def fnExactBestAssignmentSpec : ChangeSpec := { name := "fnExactBestAssignment", fn := fun _ => fun
  | [d] => { results := [.lit (.bool true)], args := [d] }
  | _ => none }
def fnExactBestAssignmentRow : OpenClaim := { program := "ytenfgmpndpgbhaa", sum := "cf6af1f04c2e37a62e315cba75c94a4630117efbd01fc41dfe10a4a75c5b3d2f", func := "loop.example/g01923/laws.FnExactBestAssignment", spec := "fnExactBestAssignment", unfollowed := true, recurses := true, apart := false }
def FnExactBestAssignmentSaid : Prop := fnExactBestAssignmentRow.holds Try.pinned (OpenSpec.ofChange fnExactBestAssignmentSpec)

/-- ITS FALSE NEIGHBOUR: 'it returns false'. Refute it at one input. -/
def fnExactBestAssignmentWrong : ChangeSpec := { name := "fnExactBestAssignment", fn := fun _ => fun
  | [d] => { results := [.lit (.bool false)], args := [d] }
  | _ => none }
def FnExactBestAssignmentWrongFalsely : Prop := fnExactBestAssignmentRow.holds Try.pinned (OpenSpec.ofChange fnExactBestAssignmentWrong)

/-- 'laws.FnExactAreGroups': WHATEVER THE INPUT: true; the input reads as it did. -/
def fnExactAreGroupsSpec : ChangeSpec := { name := "fnExactAreGroups", fn := fun _ => fun
  | [d] => { results := [.lit (.bool true)], args := [d] }
  | _ => none }
def fnExactAreGroupsRow : OpenClaim := { program := "ytenfgmpndpgbhaa", sum := "cf6af1f04c2e37a62e315cba75c94a4630117efbd01fc41dfe10a4a75c5b3d2f", func := "loop.example/g01923/laws.FnExactAreGroups", spec := "fnExactAreGroups", apart := false }
def FnExactAreGroupsSaid : Prop := fnExactAreGroupsRow.holds Try.pinned (OpenSpec.ofChange fnExactAreGroupsSpec)

/-- ITS FALSE NEIGHBOUR: 'it returns false'. Refute it at one input. -/
def fnExactAreGroupsWrong : ChangeSpec := { name := "fnExactAreGroups", fn := fun _ => fun
  | [d] => { results := [.lit (.bool false)], args := [d] }
  | _ => none }
def FnExactAreGroupsWrongFalsely : Prop := fnExactAreGroupsRow.holds Try.pinned (OpenSpec.ofChange fnExactAreGroupsWrong)

/-- 'laws.FnExactAreEntities': WHATEVER THE INPUT: true; the input reads as it did. -/
def fnExactAreEntitiesSpec : ChangeSpec := { name := "fnExactAreEntities", fn := fun _ => fun
  | [d] => { results := [.lit (.bool true)], args := [d] }
  | _ => none }
def fnExactAreEntitiesRow : OpenClaim := { program := "ytenfgmpndpgbhaa", sum := "cf6af1f04c2e37a62e315cba75c94a4630117efbd01fc41dfe10a4a75c5b3d2f", func := "loop.example/g01923/laws.FnExactAreEntities", spec := "fnExactAreEntities", apart := false }
def FnExactAreEntitiesSaid : Prop := fnExactAreEntitiesRow.holds Try.pinned (OpenSpec.ofChange fnExactAreEntitiesSpec)

/-- ITS FALSE NEIGHBOUR: 'it returns false'. Refute it at one input. -/
def fnExactAreEntitiesWrong : ChangeSpec := { name := "fnExactAreEntities", fn := fun _ => fun
  | [d] => { results := [.lit (.bool false)], args := [d] }
  | _ => none }
def FnExactAreEntitiesWrongFalsely : Prop := fnExactAreEntitiesRow.holds Try.pinned (OpenSpec.ofChange fnExactAreEntitiesWrong)

/-- 'laws.FnExactEqualEntities': WHATEVER THE INPUT: true; the input reads as it did. -/
def fnExactEqualEntitiesSpec : ChangeSpec := { name := "fnExactEqualEntities", fn := fun _ => fun
  | [d1, d2] => { results := [.lit (.bool true)], args := [d1, d2] }
  | _ => none }
def fnExactEqualEntitiesRow : OpenClaim := { program := "ytenfgmpndpgbhaa", sum := "cf6af1f04c2e37a62e315cba75c94a4630117efbd01fc41dfe10a4a75c5b3d2f", func := "loop.example/g01923/laws.FnExactEqualEntities", spec := "fnExactEqualEntities", unfollowed := true, recurses := true, apart := false }
def FnExactEqualEntitiesSaid : Prop := fnExactEqualEntitiesRow.holds Try.pinned (OpenSpec.ofChange fnExactEqualEntitiesSpec)

/-- ITS FALSE NEIGHBOUR: 'it returns false'. Refute it at one input. -/
def fnExactEqualEntitiesWrong : ChangeSpec := { name := "fnExactEqualEntities", fn := fun _ => fun
  | [d1, d2] => { results := [.lit (.bool false)], args := [d1, d2] }
  | _ => none }
def FnExactEqualEntitiesWrongFalsely : Prop := fnExactEqualEntitiesRow.holds Try.pinned (OpenSpec.ofChange fnExactEqualEntitiesWrong)

/-- 'laws.FnExactEntityOf': WHATEVER THE INPUT: true; the input reads as it did. -/
def fnExactEntityOfSpec : ChangeSpec := { name := "fnExactEntityOf", fn := fun _ => fun
  | [d1, d2] => { results := [.lit (.bool true)], args := [d1, d2] }
  | _ => none }
def fnExactEntityOfRow : OpenClaim := { program := "ytenfgmpndpgbhaa", sum := "cf6af1f04c2e37a62e315cba75c94a4630117efbd01fc41dfe10a4a75c5b3d2f", func := "loop.example/g01923/laws.FnExactEntityOf", spec := "fnExactEntityOf", apart := false }
def FnExactEntityOfSaid : Prop := fnExactEntityOfRow.holds Try.pinned (OpenSpec.ofChange fnExactEntityOfSpec)

/-- ITS FALSE NEIGHBOUR: 'it returns false'. Refute it at one input. -/
def fnExactEntityOfWrong : ChangeSpec := { name := "fnExactEntityOf", fn := fun _ => fun
  | [d1, d2] => { results := [.lit (.bool false)], args := [d1, d2] }
  | _ => none }
def FnExactEntityOfWrongFalsely : Prop := fnExactEntityOfRow.holds Try.pinned (OpenSpec.ofChange fnExactEntityOfWrong)

/-- 'laws.FnExactDescribeChanges': WHATEVER THE INPUT: true; the input reads as it did. -/
def fnExactDescribeChangesSpec : ChangeSpec := { name := "fnExactDescribeChanges", fn := fun _ => fun
  | [d1, d2] => { results := [.lit (.bool true)], args := [d1, d2] }
  | _ => none }
def fnExactDescribeChangesRow : OpenClaim := { program := "ytenfgmpndpgbhaa", sum := "cf6af1f04c2e37a62e315cba75c94a4630117efbd01fc41dfe10a4a75c5b3d2f", func := "loop.example/g01923/laws.FnExactDescribeChanges", spec := "fnExactDescribeChanges", unfollowed := true, recurses := true, apart := false }
def FnExactDescribeChangesSaid : Prop := fnExactDescribeChangesRow.holds Try.pinned (OpenSpec.ofChange fnExactDescribeChangesSpec)

/-- ITS FALSE NEIGHBOUR: 'it returns false'. Refute it at one input. -/
def fnExactDescribeChangesWrong : ChangeSpec := { name := "fnExactDescribeChanges", fn := fun _ => fun
  | [d1, d2] => { results := [.lit (.bool false)], args := [d1, d2] }
  | _ => none }
def FnExactDescribeChangesWrongFalsely : Prop := fnExactDescribeChangesRow.holds Try.pinned (OpenSpec.ofChange fnExactDescribeChangesWrong)

/-- 'laws.FnExactCarryIdentities': WHATEVER THE INPUT: true; the input reads as it did. -/
def fnExactCarryIdentitiesSpec : ChangeSpec := { name := "fnExactCarryIdentities", fn := fun _ => fun
  | [d1, d2, d3] => { results := [.lit (.bool true)], args := [d1, d2, d3] }
  | _ => none }
def fnExactCarryIdentitiesRow : OpenClaim := { program := "ytenfgmpndpgbhaa", sum := "cf6af1f04c2e37a62e315cba75c94a4630117efbd01fc41dfe10a4a75c5b3d2f", func := "loop.example/g01923/laws.FnExactCarryIdentities", spec := "fnExactCarryIdentities", unfollowed := true, recurses := true, apart := false }
def FnExactCarryIdentitiesSaid : Prop := fnExactCarryIdentitiesRow.holds Try.pinned (OpenSpec.ofChange fnExactCarryIdentitiesSpec)

/-- ITS FALSE NEIGHBOUR: 'it returns false'. Refute it at one input. -/
def fnExactCarryIdentitiesWrong : ChangeSpec := { name := "fnExactCarryIdentities", fn := fun _ => fun
  | [d1, d2, d3] => { results := [.lit (.bool false)], args := [d1, d2, d3] }
  | _ => none }
def FnExactCarryIdentitiesWrongFalsely : Prop := fnExactCarryIdentitiesRow.holds Try.pinned (OpenSpec.ofChange fnExactCarryIdentitiesWrong)

/-- 'laws.FnAssignment': WHATEVER THE INPUT: true; the input reads as it did. -/
def fnAssignmentSpec : ChangeSpec := { name := "fnAssignment", fn := fun _ => fun
  | [d] => { results := [.lit (.bool true)], args := [d] }
  | _ => none }
def fnAssignmentRow : OpenClaim := { program := "ytenfgmpndpgbhaa", sum := "cf6af1f04c2e37a62e315cba75c94a4630117efbd01fc41dfe10a4a75c5b3d2f", func := "loop.example/g01923/laws.FnAssignment", spec := "fnAssignment", unfollowed := true, recurses := true, apart := false }
def FnAssignmentSaid : Prop := fnAssignmentRow.holds Try.pinned (OpenSpec.ofChange fnAssignmentSpec)

/-- ITS FALSE NEIGHBOUR: 'it returns false'. Refute it at one input. -/
def fnAssignmentWrong : ChangeSpec := { name := "fnAssignment", fn := fun _ => fun
  | [d] => { results := [.lit (.bool false)], args := [d] }
  | _ => none }
def FnAssignmentWrongFalsely : Prop := fnAssignmentRow.holds Try.pinned (OpenSpec.ofChange fnAssignmentWrong)

/-- 'laws.FnChanges': WHATEVER THE INPUT: true; the input reads as it did. -/
def fnChangesSpec : ChangeSpec := { name := "fnChanges", fn := fun _ => fun
  | [d] => { results := [.lit (.bool true)], args := [d] }
  | _ => none }
def fnChangesRow : OpenClaim := { program := "ytenfgmpndpgbhaa", sum := "cf6af1f04c2e37a62e315cba75c94a4630117efbd01fc41dfe10a4a75c5b3d2f", func := "loop.example/g01923/laws.FnChanges", spec := "fnChanges", unfollowed := true, recurses := true, apart := false }
def FnChangesSaid : Prop := fnChangesRow.holds Try.pinned (OpenSpec.ofChange fnChangesSpec)

/-- ITS FALSE NEIGHBOUR: 'it returns false'. Refute it at one input. -/
def fnChangesWrong : ChangeSpec := { name := "fnChanges", fn := fun _ => fun
  | [d] => { results := [.lit (.bool false)], args := [d] }
  | _ => none }
def FnChangesWrongFalsely : Prop := fnChangesRow.holds Try.pinned (OpenSpec.ofChange fnChangesWrong)

/-- 'laws.FnIdentities': WHATEVER THE INPUT: true; the input reads as it did. -/
def fnIdentitiesSpec : ChangeSpec := { name := "fnIdentities", fn := fun _ => fun
  | [d] => { results := [.lit (.bool true)], args := [d] }
  | _ => none }
def fnIdentitiesRow : OpenClaim := { program := "ytenfgmpndpgbhaa", sum := "cf6af1f04c2e37a62e315cba75c94a4630117efbd01fc41dfe10a4a75c5b3d2f", func := "loop.example/g01923/laws.FnIdentities", spec := "fnIdentities", unfollowed := true, recurses := true, apart := false }
def FnIdentitiesSaid : Prop := fnIdentitiesRow.holds Try.pinned (OpenSpec.ofChange fnIdentitiesSpec)

/-- ITS FALSE NEIGHBOUR: 'it returns false'. Refute it at one input. -/
def fnIdentitiesWrong : ChangeSpec := { name := "fnIdentities", fn := fun _ => fun
  | [d] => { results := [.lit (.bool false)], args := [d] }
  | _ => none }
def FnIdentitiesWrongFalsely : Prop := fnIdentitiesRow.holds Try.pinned (OpenSpec.ofChange fnIdentitiesWrong)

/- THE SECOND FORM. 'bulk': how many values and letters a reading holds, each counted each time it is reached (what is shared counts as often as it is met; a slice's spare places count too). A statement '..UptoSaid' is the law's where the arguments, and the package variables that the reading takes, are together of bulk at most 1048576: NARROWER than '..Said'. Prove '..Said' where nothing that the law and all that it calls make is longer than what came in: it says more and counts as full. Else prove '..UptoSaid'. A law counts once. -/
mutual
def uptoBulk {H : Type} : DataW H → Nat
  | .lit (.string bytes) => bytes.length + 1
  | .lit _ => 1
  | .nil => 1
  | .ptr d => uptoBulk d + 1
  | .slice elems spare => uptoBulkAll elems + uptoBulkAll spare + 1
  | .agg parts => uptoBulkAll parts + 1
  | .iface _ d => uptoBulk d + 1
  | .map entries => uptoBulkEntries entries + 1
  | .held _ => 1
def uptoBulkAll {H : Type} : List (DataW H) → Nat
  | [] => 0
  | d :: r => uptoBulk d + uptoBulkAll r
def uptoBulkEntries {H : Type} : List (Lit × DataW H) → Nat
  | [] => 0
  | x :: r => uptoBulkEntry x + uptoBulkEntries r
def uptoBulkEntry {H : Type} : Lit × DataW H → Nat
  | (.string bytes, d) => bytes.length + uptoBulk d + 1
  | (_, d) => uptoBulk d + 1
 end
def uptoSmall : (H : Type) → List (DataW H) → Bool := fun _ ds => decide (uptoBulkAll ds ≤ 1048576)
def OpenSpec.upto (s : _root_.Go.ChangeSpec) : _root_.Go.OpenSpec := { _root_.Go.OpenSpec.ofChange s with cond := some uptoSmall }

/-- 'laws.FnExactIsAssignment', WHERE WHAT IT READS IS OF BULK AT MOST 1048576: true; the input reads as it did. -/
def fnExactIsAssignmentUptoRow : OpenClaim := { program := "ytenfgmpndpgbhaa", sum := "cf6af1f04c2e37a62e315cba75c94a4630117efbd01fc41dfe10a4a75c5b3d2f", func := "loop.example/g01923/laws.FnExactIsAssignment", spec := "fnExactIsAssignment", unfollowed := true, recurses := true, apart := false, narrowed := true }
def FnExactIsAssignmentUptoSaid : Prop := fnExactIsAssignmentUptoRow.holds Try.pinned (OpenSpec.upto fnExactIsAssignmentSpec)

/-- 'laws.FnExactBestValue', WHERE WHAT IT READS IS OF BULK AT MOST 1048576: true; the input reads as it did. -/
def fnExactBestValueUptoRow : OpenClaim := { program := "ytenfgmpndpgbhaa", sum := "cf6af1f04c2e37a62e315cba75c94a4630117efbd01fc41dfe10a4a75c5b3d2f", func := "loop.example/g01923/laws.FnExactBestValue", spec := "fnExactBestValue", unfollowed := true, recurses := true, apart := false, narrowed := true }
def FnExactBestValueUptoSaid : Prop := fnExactBestValueUptoRow.holds Try.pinned (OpenSpec.upto fnExactBestValueSpec)

/-- 'laws.FnExactOverlapMatrix', WHERE WHAT IT READS IS OF BULK AT MOST 1048576: true; the input reads as it did. -/
def fnExactOverlapMatrixUptoRow : OpenClaim := { program := "ytenfgmpndpgbhaa", sum := "cf6af1f04c2e37a62e315cba75c94a4630117efbd01fc41dfe10a4a75c5b3d2f", func := "loop.example/g01923/laws.FnExactOverlapMatrix", spec := "fnExactOverlapMatrix", apart := false, narrowed := true }
def FnExactOverlapMatrixUptoSaid : Prop := fnExactOverlapMatrixUptoRow.holds Try.pinned (OpenSpec.upto fnExactOverlapMatrixSpec)

/-- 'laws.FnExactAssignmentValue', WHERE WHAT IT READS IS OF BULK AT MOST 1048576: true; the input reads as it did. -/
def fnExactAssignmentValueUptoRow : OpenClaim := { program := "ytenfgmpndpgbhaa", sum := "cf6af1f04c2e37a62e315cba75c94a4630117efbd01fc41dfe10a4a75c5b3d2f", func := "loop.example/g01923/laws.FnExactAssignmentValue", spec := "fnExactAssignmentValue", unfollowed := true, recurses := true, apart := false, narrowed := true }
def FnExactAssignmentValueUptoSaid : Prop := fnExactAssignmentValueUptoRow.holds Try.pinned (OpenSpec.upto fnExactAssignmentValueSpec)

/-- 'laws.FnExactBestAssignment', WHERE WHAT IT READS IS OF BULK AT MOST 1048576: true; the input reads as it did. -/
def fnExactBestAssignmentUptoRow : OpenClaim := { program := "ytenfgmpndpgbhaa", sum := "cf6af1f04c2e37a62e315cba75c94a4630117efbd01fc41dfe10a4a75c5b3d2f", func := "loop.example/g01923/laws.FnExactBestAssignment", spec := "fnExactBestAssignment", unfollowed := true, recurses := true, apart := false, narrowed := true }
def FnExactBestAssignmentUptoSaid : Prop := fnExactBestAssignmentUptoRow.holds Try.pinned (OpenSpec.upto fnExactBestAssignmentSpec)

/-- 'laws.FnExactAreGroups', WHERE WHAT IT READS IS OF BULK AT MOST 1048576: true; the input reads as it did. -/
def fnExactAreGroupsUptoRow : OpenClaim := { program := "ytenfgmpndpgbhaa", sum := "cf6af1f04c2e37a62e315cba75c94a4630117efbd01fc41dfe10a4a75c5b3d2f", func := "loop.example/g01923/laws.FnExactAreGroups", spec := "fnExactAreGroups", apart := false, narrowed := true }
def FnExactAreGroupsUptoSaid : Prop := fnExactAreGroupsUptoRow.holds Try.pinned (OpenSpec.upto fnExactAreGroupsSpec)

/-- 'laws.FnExactAreEntities', WHERE WHAT IT READS IS OF BULK AT MOST 1048576: true; the input reads as it did. -/
def fnExactAreEntitiesUptoRow : OpenClaim := { program := "ytenfgmpndpgbhaa", sum := "cf6af1f04c2e37a62e315cba75c94a4630117efbd01fc41dfe10a4a75c5b3d2f", func := "loop.example/g01923/laws.FnExactAreEntities", spec := "fnExactAreEntities", apart := false, narrowed := true }
def FnExactAreEntitiesUptoSaid : Prop := fnExactAreEntitiesUptoRow.holds Try.pinned (OpenSpec.upto fnExactAreEntitiesSpec)

/-- 'laws.FnExactEqualEntities', WHERE WHAT IT READS IS OF BULK AT MOST 1048576: true; the input reads as it did. -/
def fnExactEqualEntitiesUptoRow : OpenClaim := { program := "ytenfgmpndpgbhaa", sum := "cf6af1f04c2e37a62e315cba75c94a4630117efbd01fc41dfe10a4a75c5b3d2f", func := "loop.example/g01923/laws.FnExactEqualEntities", spec := "fnExactEqualEntities", unfollowed := true, recurses := true, apart := false, narrowed := true }
def FnExactEqualEntitiesUptoSaid : Prop := fnExactEqualEntitiesUptoRow.holds Try.pinned (OpenSpec.upto fnExactEqualEntitiesSpec)

/-- 'laws.FnExactEntityOf', WHERE WHAT IT READS IS OF BULK AT MOST 1048576: true; the input reads as it did. -/
def fnExactEntityOfUptoRow : OpenClaim := { program := "ytenfgmpndpgbhaa", sum := "cf6af1f04c2e37a62e315cba75c94a4630117efbd01fc41dfe10a4a75c5b3d2f", func := "loop.example/g01923/laws.FnExactEntityOf", spec := "fnExactEntityOf", apart := false, narrowed := true }
def FnExactEntityOfUptoSaid : Prop := fnExactEntityOfUptoRow.holds Try.pinned (OpenSpec.upto fnExactEntityOfSpec)

/-- 'laws.FnExactDescribeChanges', WHERE WHAT IT READS IS OF BULK AT MOST 1048576: true; the input reads as it did. -/
def fnExactDescribeChangesUptoRow : OpenClaim := { program := "ytenfgmpndpgbhaa", sum := "cf6af1f04c2e37a62e315cba75c94a4630117efbd01fc41dfe10a4a75c5b3d2f", func := "loop.example/g01923/laws.FnExactDescribeChanges", spec := "fnExactDescribeChanges", unfollowed := true, recurses := true, apart := false, narrowed := true }
def FnExactDescribeChangesUptoSaid : Prop := fnExactDescribeChangesUptoRow.holds Try.pinned (OpenSpec.upto fnExactDescribeChangesSpec)

/-- 'laws.FnExactCarryIdentities', WHERE WHAT IT READS IS OF BULK AT MOST 1048576: true; the input reads as it did. -/
def fnExactCarryIdentitiesUptoRow : OpenClaim := { program := "ytenfgmpndpgbhaa", sum := "cf6af1f04c2e37a62e315cba75c94a4630117efbd01fc41dfe10a4a75c5b3d2f", func := "loop.example/g01923/laws.FnExactCarryIdentities", spec := "fnExactCarryIdentities", unfollowed := true, recurses := true, apart := false, narrowed := true }
def FnExactCarryIdentitiesUptoSaid : Prop := fnExactCarryIdentitiesUptoRow.holds Try.pinned (OpenSpec.upto fnExactCarryIdentitiesSpec)

/-- 'laws.FnAssignment', WHERE WHAT IT READS IS OF BULK AT MOST 1048576: true; the input reads as it did. -/
def fnAssignmentUptoRow : OpenClaim := { program := "ytenfgmpndpgbhaa", sum := "cf6af1f04c2e37a62e315cba75c94a4630117efbd01fc41dfe10a4a75c5b3d2f", func := "loop.example/g01923/laws.FnAssignment", spec := "fnAssignment", unfollowed := true, recurses := true, apart := false, narrowed := true }
def FnAssignmentUptoSaid : Prop := fnAssignmentUptoRow.holds Try.pinned (OpenSpec.upto fnAssignmentSpec)

/-- 'laws.FnChanges', WHERE WHAT IT READS IS OF BULK AT MOST 1048576: true; the input reads as it did. -/
def fnChangesUptoRow : OpenClaim := { program := "ytenfgmpndpgbhaa", sum := "cf6af1f04c2e37a62e315cba75c94a4630117efbd01fc41dfe10a4a75c5b3d2f", func := "loop.example/g01923/laws.FnChanges", spec := "fnChanges", unfollowed := true, recurses := true, apart := false, narrowed := true }
def FnChangesUptoSaid : Prop := fnChangesUptoRow.holds Try.pinned (OpenSpec.upto fnChangesSpec)

/-- 'laws.FnIdentities', WHERE WHAT IT READS IS OF BULK AT MOST 1048576: true; the input reads as it did. -/
def fnIdentitiesUptoRow : OpenClaim := { program := "ytenfgmpndpgbhaa", sum := "cf6af1f04c2e37a62e315cba75c94a4630117efbd01fc41dfe10a4a75c5b3d2f", func := "loop.example/g01923/laws.FnIdentities", spec := "fnIdentities", unfollowed := true, recurses := true, apart := false, narrowed := true }
def FnIdentitiesUptoSaid : Prop := fnIdentitiesUptoRow.holds Try.pinned (OpenSpec.upto fnIdentitiesSpec)

end Rows
end Go.Proofs.Ytenfgmpndpgbhaa
