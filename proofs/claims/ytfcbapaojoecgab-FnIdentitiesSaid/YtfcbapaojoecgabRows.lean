/-
  No cell of these rows narrows 'for every input' (looked for: loops, veiled, ifaces, maps, wideKeys, modest, calm, conditions, laid).
  DERIVED. THE GIVEN ROWS OF THIS SEAT. 3 by the template 'for every input the law returns true; each argument reads behind the call as it read before'; 0 by the template 'total and deterministic' (their statements: YtfcbapaojoecgabTotals.lean).
  GIVEN WITH THE SEED: the statements are not yours to turn. If you find one false, say at which input.
  Laid BY PROGRAM, IN A SANDBOX (cutbox-rows.mjs): the forced cells as the released guide's own fill.sh prints them over the translation fdf3a66626115cd7… (all of the seat's roots in one cut). By AI agents, Wed Nov 11 2026. No macro, syntax, notation, axiom, sorry.
-/
import Derived.Test.YtfcbapaojoecgabChecked
import GoSem.Claim
import GoSem.ClaimJoined
import GoSem.ClaimMapViews
import Derived.JoinedTies
import Derived.KernelRfl
namespace Go.Proofs.Ytfcbapaojoecgab
/- THE CELL 'sum', in the pinned program and in every row, IS THE sha256 OF THE DUMP (.gsa) THAT YtfcbapaojoecgabProg.lean LOADS. Nothing in Lean hashes anything: it is a label: what it is worth is what the hold of that sum in a sandbox is worth. -/
noncomputable def Try.pinned : Pinned := { name := "ytfcbapaojoecgab", sum := "fdf3a66626115cd7cac6ace0c30618bbcf82903e470e918a0b3e00f692261896", checked := Try.checked }
namespace Rows
def none {H : Type} : Left H := { results := [], args := [] }

/-- 'laws.FnExactCarryIdentities': WHATEVER THE INPUT: true; the input reads as it did. -/
def fnExactCarryIdentitiesSpec : ChangeSpec := { name := "fnExactCarryIdentities", fn := fun _ => fun
  | [d1, d2, d3] => { results := [.lit (.bool true)], args := [d1, d2, d3] }
  | _ => none }
def fnExactCarryIdentitiesRow : OpenClaim := { program := "ytfcbapaojoecgab", sum := "fdf3a66626115cd7cac6ace0c30618bbcf82903e470e918a0b3e00f692261896", func := "loop.example/g01923/laws.FnExactCarryIdentities", spec := "fnExactCarryIdentities", unfollowed := true, recurses := true, apart := false }
def FnExactCarryIdentitiesSaid : Prop := fnExactCarryIdentitiesRow.holds Try.pinned (OpenSpec.ofChange fnExactCarryIdentitiesSpec)

/-- ITS FALSE NEIGHBOUR: 'it returns false'. Refute it at one input. -/
def fnExactCarryIdentitiesWrong : ChangeSpec := { name := "fnExactCarryIdentities", fn := fun _ => fun
  | [d1, d2, d3] => { results := [.lit (.bool false)], args := [d1, d2, d3] }
  | _ => none }
def FnExactCarryIdentitiesWrongFalsely : Prop := fnExactCarryIdentitiesRow.holds Try.pinned (OpenSpec.ofChange fnExactCarryIdentitiesWrong)

/-- 'laws.FnIdentities': WHATEVER THE INPUT: true; the input reads as it did. -/
def fnIdentitiesSpec : ChangeSpec := { name := "fnIdentities", fn := fun _ => fun
  | [d] => { results := [.lit (.bool true)], args := [d] }
  | _ => none }
def fnIdentitiesRow : OpenClaim := { program := "ytfcbapaojoecgab", sum := "fdf3a66626115cd7cac6ace0c30618bbcf82903e470e918a0b3e00f692261896", func := "loop.example/g01923/laws.FnIdentities", spec := "fnIdentities", unfollowed := true, recurses := true, apart := false }
def FnIdentitiesSaid : Prop := fnIdentitiesRow.holds Try.pinned (OpenSpec.ofChange fnIdentitiesSpec)

/-- ITS FALSE NEIGHBOUR: 'it returns false'. Refute it at one input. -/
def fnIdentitiesWrong : ChangeSpec := { name := "fnIdentities", fn := fun _ => fun
  | [d] => { results := [.lit (.bool false)], args := [d] }
  | _ => none }
def FnIdentitiesWrongFalsely : Prop := fnIdentitiesRow.holds Try.pinned (OpenSpec.ofChange fnIdentitiesWrong)

/-- 'laws.FnChanges': WHATEVER THE INPUT: true; the input reads as it did. -/
def fnChangesSpec : ChangeSpec := { name := "fnChanges", fn := fun _ => fun
  | [d] => { results := [.lit (.bool true)], args := [d] }
  | _ => none }
def fnChangesRow : OpenClaim := { program := "ytfcbapaojoecgab", sum := "fdf3a66626115cd7cac6ace0c30618bbcf82903e470e918a0b3e00f692261896", func := "loop.example/g01923/laws.FnChanges", spec := "fnChanges", unfollowed := true, recurses := true, apart := false }
def FnChangesSaid : Prop := fnChangesRow.holds Try.pinned (OpenSpec.ofChange fnChangesSpec)

/-- ITS FALSE NEIGHBOUR: 'it returns false'. Refute it at one input. -/
def fnChangesWrong : ChangeSpec := { name := "fnChanges", fn := fun _ => fun
  | [d] => { results := [.lit (.bool false)], args := [d] }
  | _ => none }
def FnChangesWrongFalsely : Prop := fnChangesRow.holds Try.pinned (OpenSpec.ofChange fnChangesWrong)

/- THE SECOND FORM. 'bulk': how many values and letters a reading holds, each counted each time it is reached (what is shared counts as often as it is met; a slice's spare places count too). A statement '..UptoSaid' is the law's where the arguments, and the package variables that the reading takes, are together of bulk at most 1048576: NARROWER than '..Said'. Prove '..Said' where nothing that the law and all that it calls make is longer than what came in: it says more and counts as full. Else prove '..UptoSaid'. A law counts once. -/
mutual
def uptoBulk {H : Type} : DataW H → Nat
  | .lit (.string bytes) => bytes.length + 1
  | .lit _ => 1
  | .nil => 1
  | .ptr d => uptoBulk d + 1
  | .slice elems spare => uptoBulkAll elems + uptoBulkAll spare + 1
  | .agg parts => uptoBulkAll parts + 1
  | .iface _ d => uptoBulk d + 1
  | .map entries => uptoBulkEntries entries + 1
  | .held _ => 1
def uptoBulkAll {H : Type} : List (DataW H) → Nat
  | [] => 0
  | d :: r => uptoBulk d + uptoBulkAll r
def uptoBulkEntries {H : Type} : List (Lit × DataW H) → Nat
  | [] => 0
  | x :: r => uptoBulkEntry x + uptoBulkEntries r
def uptoBulkEntry {H : Type} : Lit × DataW H → Nat
  | (.string bytes, d) => bytes.length + uptoBulk d + 1
  | (_, d) => uptoBulk d + 1
 end
def uptoSmall : (H : Type) → List (DataW H) → Bool := fun _ ds => decide (uptoBulkAll ds ≤ 1048576)
def OpenSpec.upto (s : _root_.Go.ChangeSpec) : _root_.Go.OpenSpec := { _root_.Go.OpenSpec.ofChange s with cond := some uptoSmall }

/-- 'laws.FnExactCarryIdentities', WHERE WHAT IT READS IS OF BULK AT MOST 1048576: true; the input reads as it did. -/
def fnExactCarryIdentitiesUptoRow : OpenClaim := { program := "ytfcbapaojoecgab", sum := "fdf3a66626115cd7cac6ace0c30618bbcf82903e470e918a0b3e00f692261896", func := "loop.example/g01923/laws.FnExactCarryIdentities", spec := "fnExactCarryIdentities", unfollowed := true, recurses := true, apart := false, narrowed := true }
def FnExactCarryIdentitiesUptoSaid : Prop := fnExactCarryIdentitiesUptoRow.holds Try.pinned (OpenSpec.upto fnExactCarryIdentitiesSpec)

/-- 'laws.FnIdentities', WHERE WHAT IT READS IS OF BULK AT MOST 1048576: true; the input reads as it did. -/
def fnIdentitiesUptoRow : OpenClaim := { program := "ytfcbapaojoecgab", sum := "fdf3a66626115cd7cac6ace0c30618bbcf82903e470e918a0b3e00f692261896", func := "loop.example/g01923/laws.FnIdentities", spec := "fnIdentities", unfollowed := true, recurses := true, apart := false, narrowed := true }
def FnIdentitiesUptoSaid : Prop := fnIdentitiesUptoRow.holds Try.pinned (OpenSpec.upto fnIdentitiesSpec)

/-- 'laws.FnChanges', WHERE WHAT IT READS IS OF BULK AT MOST 1048576: true; the input reads as it did. -/
def fnChangesUptoRow : OpenClaim := { program := "ytfcbapaojoecgab", sum := "fdf3a66626115cd7cac6ace0c30618bbcf82903e470e918a0b3e00f692261896", func := "loop.example/g01923/laws.FnChanges", spec := "fnChanges", unfollowed := true, recurses := true, apart := false, narrowed := true }
def FnChangesUptoSaid : Prop := fnChangesUptoRow.holds Try.pinned (OpenSpec.upto fnChangesSpec)

end Rows
end Go.Proofs.Ytfcbapaojoecgab
