/-
  No cell of these rows narrows 'for every input' (looked for: loops, veiled, ifaces, maps, wideKeys, modest, calm, conditions, laid).
  DERIVED. THE GIVEN ROWS OF THIS SEAT. 2 by the template 'for every input the law returns true; each argument reads behind the call as it read before'; 0 by the template 'total and deterministic' (their statements: YtblggajfdhjmjaaTotals.lean).
  GIVEN WITH THE SEED: the statements are not yours to turn. If you find one false, say at which input.
  Laid BY PROGRAM, IN A SANDBOX (cutbox-rows.mjs): the forced cells as the released guide's own fill.sh prints them over the translation 1c99983948c4cdb5… (all of the seat's roots in one cut). By AI agents, Wed Nov 11 2026. No macro, syntax, notation, axiom, sorry.
-/
import Derived.Test.YtblggajfdhjmjaaChecked
import GoSem.Claim
import GoSem.ClaimJoined
import GoSem.ClaimMapViews
import Derived.JoinedTies
import Derived.KernelRfl
namespace Go.Proofs.Ytblggajfdhjmjaa
/- THE CELL 'sum', in the pinned program and in every row, IS THE sha256 OF THE DUMP (.gsa) THAT YtblggajfdhjmjaaProg.lean LOADS. Nothing in Lean hashes anything: it is a label: what it is worth is what the hold of that sum in a sandbox is worth. -/
noncomputable def Try.pinned : Pinned := { name := "ytblggajfdhjmjaa", sum := "1c99983948c4cdb5df4aa5389a8a4ae75156d8c5185f7b22d35f73915b2ab669", checked := Try.checked }
namespace Rows
def none {H : Type} : Left H := { results := [], args := [] }

/-- 'laws.FnExactRemoveVerdict': WHATEVER THE INPUT: true; the input reads as it did. -/
def fnExactRemoveVerdictSpec : ChangeSpec := { name := "fnExactRemoveVerdict", fn := fun _ => fun
  | [d1, d2] => { results := [.lit (.bool true)], args := [d1, d2] }
  | _ => none }
def fnExactRemoveVerdictRow : OpenClaim := { program := "ytblggajfdhjmjaa", sum := "1c99983948c4cdb5df4aa5389a8a4ae75156d8c5185f7b22d35f73915b2ab669", func := "loop.example/g01923/laws.FnExactRemoveVerdict", spec := "fnExactRemoveVerdict", apart := false }
def FnExactRemoveVerdictSaid : Prop := fnExactRemoveVerdictRow.holds Try.pinned (OpenSpec.ofChange fnExactRemoveVerdictSpec)

/-- ITS FALSE NEIGHBOUR: 'it returns false'. Refute it at one input. -/
def fnExactRemoveVerdictWrong : ChangeSpec := { name := "fnExactRemoveVerdict", fn := fun _ => fun
  | [d1, d2] => { results := [.lit (.bool false)], args := [d1, d2] }
  | _ => none }
def FnExactRemoveVerdictWrongFalsely : Prop := fnExactRemoveVerdictRow.holds Try.pinned (OpenSpec.ofChange fnExactRemoveVerdictWrong)

/-- 'laws.FnExactAddVerdict': WHATEVER THE INPUT: true; the input reads as it did. -/
def fnExactAddVerdictSpec : ChangeSpec := { name := "fnExactAddVerdict", fn := fun _ => fun
  | [d1, d2] => { results := [.lit (.bool true)], args := [d1, d2] }
  | _ => none }
def fnExactAddVerdictRow : OpenClaim := { program := "ytblggajfdhjmjaa", sum := "1c99983948c4cdb5df4aa5389a8a4ae75156d8c5185f7b22d35f73915b2ab669", func := "loop.example/g01923/laws.FnExactAddVerdict", spec := "fnExactAddVerdict", inPlace := ["slices.overlaps[loop.example/g01923/impl.Verdict]"], unfollowed := true, recurses := true, apart := false }
def FnExactAddVerdictSaid : Prop := fnExactAddVerdictRow.holds Try.pinned (OpenSpec.ofChange fnExactAddVerdictSpec)

/-- ITS FALSE NEIGHBOUR: 'it returns false'. Refute it at one input. -/
def fnExactAddVerdictWrong : ChangeSpec := { name := "fnExactAddVerdict", fn := fun _ => fun
  | [d1, d2] => { results := [.lit (.bool false)], args := [d1, d2] }
  | _ => none }
def FnExactAddVerdictWrongFalsely : Prop := fnExactAddVerdictRow.holds Try.pinned (OpenSpec.ofChange fnExactAddVerdictWrong)

/- THE SECOND FORM. 'bulk': how many values and letters a reading holds, each counted each time it is reached (what is shared counts as often as it is met; a slice's spare places count too). A statement '..UptoSaid' is the law's where the arguments, and the package variables that the reading takes, are together of bulk at most 1048576: NARROWER than '..Said'. Prove '..Said' where nothing that the law and all that it calls make is longer than what came in: it says more and counts as full. Else prove '..UptoSaid'. A law counts once. -/
mutual
def uptoBulk {H : Type} : DataW H → Nat
  | .lit (.string bytes) => bytes.length + 1
  | .lit _ => 1
  | .nil => 1
  | .ptr d => uptoBulk d + 1
  | .slice elems spare => uptoBulkAll elems + uptoBulkAll spare + 1
  | .agg parts => uptoBulkAll parts + 1
  | .iface _ d => uptoBulk d + 1
  | .map entries => uptoBulkEntries entries + 1
  | .held _ => 1
def uptoBulkAll {H : Type} : List (DataW H) → Nat
  | [] => 0
  | d :: r => uptoBulk d + uptoBulkAll r
def uptoBulkEntries {H : Type} : List (Lit × DataW H) → Nat
  | [] => 0
  | x :: r => uptoBulkEntry x + uptoBulkEntries r
def uptoBulkEntry {H : Type} : Lit × DataW H → Nat
  | (.string bytes, d) => bytes.length + uptoBulk d + 1
  | (_, d) => uptoBulk d + 1
 end
def uptoSmall : (H : Type) → List (DataW H) → Bool := fun _ ds => decide (uptoBulkAll ds ≤ 1048576)
def OpenSpec.upto (s : _root_.Go.ChangeSpec) : _root_.Go.OpenSpec := { _root_.Go.OpenSpec.ofChange s with cond := some uptoSmall }

/-- 'laws.FnExactRemoveVerdict', WHERE WHAT IT READS IS OF BULK AT MOST 1048576: true; the input reads as it did. -/
def fnExactRemoveVerdictUptoRow : OpenClaim := { program := "ytblggajfdhjmjaa", sum := "1c99983948c4cdb5df4aa5389a8a4ae75156d8c5185f7b22d35f73915b2ab669", func := "loop.example/g01923/laws.FnExactRemoveVerdict", spec := "fnExactRemoveVerdict", apart := false, narrowed := true }
def FnExactRemoveVerdictUptoSaid : Prop := fnExactRemoveVerdictUptoRow.holds Try.pinned (OpenSpec.upto fnExactRemoveVerdictSpec)

/-- 'laws.FnExactAddVerdict', WHERE WHAT IT READS IS OF BULK AT MOST 1048576: true; the input reads as it did. -/
def fnExactAddVerdictUptoRow : OpenClaim := { program := "ytblggajfdhjmjaa", sum := "1c99983948c4cdb5df4aa5389a8a4ae75156d8c5185f7b22d35f73915b2ab669", func := "loop.example/g01923/laws.FnExactAddVerdict", spec := "fnExactAddVerdict", inPlace := ["slices.overlaps[loop.example/g01923/impl.Verdict]"], unfollowed := true, recurses := true, apart := false, narrowed := true }
def FnExactAddVerdictUptoSaid : Prop := fnExactAddVerdictUptoRow.holds Try.pinned (OpenSpec.upto fnExactAddVerdictSpec)

end Rows
end Go.Proofs.Ytblggajfdhjmjaa
