/-
  No cell of these rows narrows 'for every input' (looked for: loops, veiled, ifaces, maps, wideKeys, modest, calm, conditions, laid).
  DERIVED. THE GIVEN ROWS OF THIS SEAT. 2 by the template 'for every input the law returns true; each argument reads behind the call as it read before'; 0 by the template 'total and deterministic' (their statements: YtidchfncfcckiaaGreatTotals.lean).
  GIVEN WITH THE SEED: the statements are not yours to turn. If you find one false, say at which input.
  Laid BY PROGRAM, IN A SANDBOX (cutbox-rows.mjs): the forced cells as the released guide's own fill.sh prints them over the translation dae0f7fbc95b83fe… (all of the seat's roots in one cut). By AI agents, Wed Nov 11 2026. No macro, syntax, notation, axiom, sorry.
-/
import Derived.Test.YtidchfncfcckiaaGreatChecked
import GoSem.Claim
import GoSem.ClaimJoined
import GoSem.ClaimMapViews
import Derived.JoinedTies
import Derived.KernelRfl
namespace Go.Proofs.YtidchfncfcckiaaGreat
/- THE CELL 'sum', in the pinned program and in every row, IS THE sha256 OF THE DUMP (.gsa) THAT YtidchfncfcckiaaGreatProg.lean LOADS. Nothing in Lean hashes anything: it is a label: what it is worth is what the hold of that sum in a sandbox is worth. -/
noncomputable def Tryz.pinned : Pinned := { name := "ytidchfncfcckiaagreat", sum := "dae0f7fbc95b83feaefdb0af6c4666b4dd72fcd934275100cc2975c7f5b1cd6c", checked := Tryz.checked }
namespace Rows
def none {H : Type} : Left H := { results := [], args := [] }

/-- 'laws.FnClustering': WHATEVER THE INPUT: true; the input reads as it did. -/
def fnClusteringSpec : ChangeSpec := { name := "fnClustering", fn := fun _ => fun
  | [d] => { results := [.lit (.bool true)], args := [d] }
  | _ => none }
def fnClusteringRow : OpenClaim := { program := "ytidchfncfcckiaagreat", sum := "dae0f7fbc95b83feaefdb0af6c4666b4dd72fcd934275100cc2975c7f5b1cd6c", func := "loop.example/g01923/laws.FnClustering", spec := "fnClustering", unfollowed := true, recurses := true, apart := false }
def FnClusteringSaid : Prop := fnClusteringRow.holds Tryz.pinned (OpenSpec.ofChange fnClusteringSpec)

/-- ITS FALSE NEIGHBOUR: 'it returns false'. Refute it at one input. -/
def fnClusteringWrong : ChangeSpec := { name := "fnClustering", fn := fun _ => fun
  | [d] => { results := [.lit (.bool false)], args := [d] }
  | _ => none }
def FnClusteringWrongFalsely : Prop := fnClusteringRow.holds Tryz.pinned (OpenSpec.ofChange fnClusteringWrong)

/-- 'laws.FnExactClusterItems': WHATEVER THE INPUT: true; the input reads as it did. -/
def fnExactClusterItemsSpec : ChangeSpec := { name := "fnExactClusterItems", fn := fun _ => fun
  | [d1, d2] => { results := [.lit (.bool true)], args := [d1, d2] }
  | _ => none }
def fnExactClusterItemsRow : OpenClaim := { program := "ytidchfncfcckiaagreat", sum := "dae0f7fbc95b83feaefdb0af6c4666b4dd72fcd934275100cc2975c7f5b1cd6c", func := "loop.example/g01923/laws.FnExactClusterItems", spec := "fnExactClusterItems", unfollowed := true, recurses := true, apart := false }
def FnExactClusterItemsSaid : Prop := fnExactClusterItemsRow.holds Tryz.pinned (OpenSpec.ofChange fnExactClusterItemsSpec)

/-- ITS FALSE NEIGHBOUR: 'it returns false'. Refute it at one input. -/
def fnExactClusterItemsWrong : ChangeSpec := { name := "fnExactClusterItems", fn := fun _ => fun
  | [d1, d2] => { results := [.lit (.bool false)], args := [d1, d2] }
  | _ => none }
def FnExactClusterItemsWrongFalsely : Prop := fnExactClusterItemsRow.holds Tryz.pinned (OpenSpec.ofChange fnExactClusterItemsWrong)

/- THE SECOND FORM. 'bulk': how many values and letters a reading holds, each counted each time it is reached (what is shared counts as often as it is met; a slice's spare places count too). A statement '..UptoSaid' is the law's where the arguments, and the package variables that the reading takes, are together of bulk at most 1048576: NARROWER than '..Said'. Prove '..Said' where nothing that the law and all that it calls make is longer than what came in: it says more and counts as full. Else prove '..UptoSaid'. A law counts once. -/
mutual
def uptoBulk {H : Type} : DataW H → Nat
  | .lit (.string bytes) => bytes.length + 1
  | .lit _ => 1
  | .nil => 1
  | .ptr d => uptoBulk d + 1
  | .slice elems spare => uptoBulkAll elems + uptoBulkAll spare + 1
  | .agg parts => uptoBulkAll parts + 1
  | .iface _ d => uptoBulk d + 1
  | .map entries => uptoBulkEntries entries + 1
  | .held _ => 1
def uptoBulkAll {H : Type} : List (DataW H) → Nat
  | [] => 0
  | d :: r => uptoBulk d + uptoBulkAll r
def uptoBulkEntries {H : Type} : List (Lit × DataW H) → Nat
  | [] => 0
  | x :: r => uptoBulkEntry x + uptoBulkEntries r
def uptoBulkEntry {H : Type} : Lit × DataW H → Nat
  | (.string bytes, d) => bytes.length + uptoBulk d + 1
  | (_, d) => uptoBulk d + 1
 end
def uptoSmall : (H : Type) → List (DataW H) → Bool := fun _ ds => decide (uptoBulkAll ds ≤ 1048576)
def OpenSpec.upto (s : _root_.Go.ChangeSpec) : _root_.Go.OpenSpec := { _root_.Go.OpenSpec.ofChange s with cond := some uptoSmall }

/-- 'laws.FnClustering', WHERE WHAT IT READS IS OF BULK AT MOST 1048576: true; the input reads as it did. -/
def fnClusteringUptoRow : OpenClaim := { program := "ytidchfncfcckiaagreat", sum := "dae0f7fbc95b83feaefdb0af6c4666b4dd72fcd934275100cc2975c7f5b1cd6c", func := "loop.example/g01923/laws.FnClustering", spec := "fnClustering", unfollowed := true, recurses := true, apart := false, narrowed := true }
def FnClusteringUptoSaid : Prop := fnClusteringUptoRow.holds Tryz.pinned (OpenSpec.upto fnClusteringSpec)

/-- 'laws.FnExactClusterItems', WHERE WHAT IT READS IS OF BULK AT MOST 1048576: true; the input reads as it did. -/
def fnExactClusterItemsUptoRow : OpenClaim := { program := "ytidchfncfcckiaagreat", sum := "dae0f7fbc95b83feaefdb0af6c4666b4dd72fcd934275100cc2975c7f5b1cd6c", func := "loop.example/g01923/laws.FnExactClusterItems", spec := "fnExactClusterItems", unfollowed := true, recurses := true, apart := false, narrowed := true }
def FnExactClusterItemsUptoSaid : Prop := fnExactClusterItemsUptoRow.holds Tryz.pinned (OpenSpec.upto fnExactClusterItemsSpec)

end Rows
end Go.Proofs.YtidchfncfcckiaaGreat
