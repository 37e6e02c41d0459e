/-
  No cell of these rows narrows 'for every input' (looked for: loops, veiled, ifaces, maps, wideKeys, modest, calm, conditions, laid).
  DERIVED. THE GIVEN ROWS OF THIS SEAT. 13 by the template 'for every input the law returns true; each argument reads behind the call as it read before'; 0 by the template 'total and deterministic' (their statements: YtbhhbdilaihegaaTotals.lean).
  GIVEN WITH THE SEED: the statements are not yours to turn. If you find one false, say at which input.
  Laid BY PROGRAM, IN A SANDBOX (cutbox-rows.mjs): the forced cells as the released guide's own fill.sh prints them over the translation adb6eafc4419f910… (all of the seat's roots in one cut). By AI agents, Wed Nov 11 2026. No macro, syntax, notation, axiom, sorry.
-/
import Derived.Test.YtbhhbdilaihegaaChecked
import GoSem.Claim
import GoSem.ClaimJoined
import GoSem.ClaimMapViews
import Derived.JoinedTies
import Derived.KernelRfl
namespace Go.Proofs.Ytbhhbdilaihegaa
/- THE CELL 'sum', in the pinned program and in every row, IS THE sha256 OF THE DUMP (.gsa) THAT YtbhhbdilaihegaaProg.lean LOADS. Nothing in Lean hashes anything: it is a label: what it is worth is what the hold of that sum in a sandbox is worth. -/
noncomputable def Try.pinned : Pinned := { name := "ytbhhbdilaihegaa", sum := "adb6eafc4419f9105e7af0140ae3719789c10871a80bfb82c8e5d82a3fed8251", checked := Try.checked }
namespace Rows
def none {H : Type} : Left H := { results := [], args := [] }

/-- 'laws.FnExactAreVerdicts': WHATEVER THE INPUT: true; the input reads as it did. -/
def fnExactAreVerdictsSpec : ChangeSpec := { name := "fnExactAreVerdicts", fn := fun _ => fun
  | [d] => { results := [.lit (.bool true)], args := [d] }
  | _ => none }
def fnExactAreVerdictsRow : OpenClaim := { program := "ytbhhbdilaihegaa", sum := "adb6eafc4419f9105e7af0140ae3719789c10871a80bfb82c8e5d82a3fed8251", func := "loop.example/g01923/laws.FnExactAreVerdicts", spec := "fnExactAreVerdicts", apart := false }
def FnExactAreVerdictsSaid : Prop := fnExactAreVerdictsRow.holds Try.pinned (OpenSpec.ofChange fnExactAreVerdictsSpec)

/-- ITS FALSE NEIGHBOUR: 'it returns false'. Refute it at one input. -/
def fnExactAreVerdictsWrong : ChangeSpec := { name := "fnExactAreVerdicts", fn := fun _ => fun
  | [d] => { results := [.lit (.bool false)], args := [d] }
  | _ => none }
def FnExactAreVerdictsWrongFalsely : Prop := fnExactAreVerdictsRow.holds Try.pinned (OpenSpec.ofChange fnExactAreVerdictsWrong)

/-- 'laws.FnExactVerdictConstraints': WHATEVER THE INPUT: true; the input reads as it did. -/
def fnExactVerdictConstraintsSpec : ChangeSpec := { name := "fnExactVerdictConstraints", fn := fun _ => fun
  | [d1, d2] => { results := [.lit (.bool true)], args := [d1, d2] }
  | _ => none }
def fnExactVerdictConstraintsRow : OpenClaim := { program := "ytbhhbdilaihegaa", sum := "adb6eafc4419f9105e7af0140ae3719789c10871a80bfb82c8e5d82a3fed8251", func := "loop.example/g01923/laws.FnExactVerdictConstraints", spec := "fnExactVerdictConstraints", apart := false }
def FnExactVerdictConstraintsSaid : Prop := fnExactVerdictConstraintsRow.holds Try.pinned (OpenSpec.ofChange fnExactVerdictConstraintsSpec)

/-- ITS FALSE NEIGHBOUR: 'it returns false'. Refute it at one input. -/
def fnExactVerdictConstraintsWrong : ChangeSpec := { name := "fnExactVerdictConstraints", fn := fun _ => fun
  | [d1, d2] => { results := [.lit (.bool false)], args := [d1, d2] }
  | _ => none }
def FnExactVerdictConstraintsWrongFalsely : Prop := fnExactVerdictConstraintsRow.holds Try.pinned (OpenSpec.ofChange fnExactVerdictConstraintsWrong)

/-- 'laws.FnExactCurrentVerdicts': WHATEVER THE INPUT: true; the input reads as it did. -/
def fnExactCurrentVerdictsSpec : ChangeSpec := { name := "fnExactCurrentVerdicts", fn := fun _ => fun
  | [d] => { results := [.lit (.bool true)], args := [d] }
  | _ => none }
def fnExactCurrentVerdictsRow : OpenClaim := { program := "ytbhhbdilaihegaa", sum := "adb6eafc4419f9105e7af0140ae3719789c10871a80bfb82c8e5d82a3fed8251", func := "loop.example/g01923/laws.FnExactCurrentVerdicts", spec := "fnExactCurrentVerdicts", apart := false }
def FnExactCurrentVerdictsSaid : Prop := fnExactCurrentVerdictsRow.holds Try.pinned (OpenSpec.ofChange fnExactCurrentVerdictsSpec)

/-- ITS FALSE NEIGHBOUR: 'it returns false'. Refute it at one input. -/
def fnExactCurrentVerdictsWrong : ChangeSpec := { name := "fnExactCurrentVerdicts", fn := fun _ => fun
  | [d] => { results := [.lit (.bool false)], args := [d] }
  | _ => none }
def FnExactCurrentVerdictsWrongFalsely : Prop := fnExactCurrentVerdictsRow.holds Try.pinned (OpenSpec.ofChange fnExactCurrentVerdictsWrong)

/-- 'laws.FnExactRemoveVerdict': WHATEVER THE INPUT: true; the input reads as it did. -/
def fnExactRemoveVerdictSpec : ChangeSpec := { name := "fnExactRemoveVerdict", fn := fun _ => fun
  | [d1, d2] => { results := [.lit (.bool true)], args := [d1, d2] }
  | _ => none }
def fnExactRemoveVerdictRow : OpenClaim := { program := "ytbhhbdilaihegaa", sum := "adb6eafc4419f9105e7af0140ae3719789c10871a80bfb82c8e5d82a3fed8251", func := "loop.example/g01923/laws.FnExactRemoveVerdict", spec := "fnExactRemoveVerdict", apart := false }
def FnExactRemoveVerdictSaid : Prop := fnExactRemoveVerdictRow.holds Try.pinned (OpenSpec.ofChange fnExactRemoveVerdictSpec)

/-- ITS FALSE NEIGHBOUR: 'it returns false'. Refute it at one input. -/
def fnExactRemoveVerdictWrong : ChangeSpec := { name := "fnExactRemoveVerdict", fn := fun _ => fun
  | [d1, d2] => { results := [.lit (.bool false)], args := [d1, d2] }
  | _ => none }
def FnExactRemoveVerdictWrongFalsely : Prop := fnExactRemoveVerdictRow.holds Try.pinned (OpenSpec.ofChange fnExactRemoveVerdictWrong)

/-- 'laws.FnExactAddVerdict': WHATEVER THE INPUT: true; the input reads as it did. -/
def fnExactAddVerdictSpec : ChangeSpec := { name := "fnExactAddVerdict", fn := fun _ => fun
  | [d1, d2] => { results := [.lit (.bool true)], args := [d1, d2] }
  | _ => none }
def fnExactAddVerdictRow : OpenClaim := { program := "ytbhhbdilaihegaa", sum := "adb6eafc4419f9105e7af0140ae3719789c10871a80bfb82c8e5d82a3fed8251", func := "loop.example/g01923/laws.FnExactAddVerdict", spec := "fnExactAddVerdict", inPlace := ["slices.overlaps[loop.example/g01923/impl.Verdict]"], unfollowed := true, recurses := true, apart := false }
def FnExactAddVerdictSaid : Prop := fnExactAddVerdictRow.holds Try.pinned (OpenSpec.ofChange fnExactAddVerdictSpec)

/-- ITS FALSE NEIGHBOUR: 'it returns false'. Refute it at one input. -/
def fnExactAddVerdictWrong : ChangeSpec := { name := "fnExactAddVerdict", fn := fun _ => fun
  | [d1, d2] => { results := [.lit (.bool false)], args := [d1, d2] }
  | _ => none }
def FnExactAddVerdictWrongFalsely : Prop := fnExactAddVerdictRow.holds Try.pinned (OpenSpec.ofChange fnExactAddVerdictWrong)

/-- 'laws.FnExactFindRecord': WHATEVER THE INPUT: true; the input reads as it did. -/
def fnExactFindRecordSpec : ChangeSpec := { name := "fnExactFindRecord", fn := fun _ => fun
  | [d1, d2] => { results := [.lit (.bool true)], args := [d1, d2] }
  | _ => none }
def fnExactFindRecordRow : OpenClaim := { program := "ytbhhbdilaihegaa", sum := "adb6eafc4419f9105e7af0140ae3719789c10871a80bfb82c8e5d82a3fed8251", func := "loop.example/g01923/laws.FnExactFindRecord", spec := "fnExactFindRecord", unfollowed := true, recurses := true, apart := false }
def FnExactFindRecordSaid : Prop := fnExactFindRecordRow.holds Try.pinned (OpenSpec.ofChange fnExactFindRecordSpec)

/-- ITS FALSE NEIGHBOUR: 'it returns false'. Refute it at one input. -/
def fnExactFindRecordWrong : ChangeSpec := { name := "fnExactFindRecord", fn := fun _ => fun
  | [d1, d2] => { results := [.lit (.bool false)], args := [d1, d2] }
  | _ => none }
def FnExactFindRecordWrongFalsely : Prop := fnExactFindRecordRow.holds Try.pinned (OpenSpec.ofChange fnExactFindRecordWrong)

/-- 'laws.FnExactEqualBatches': WHATEVER THE INPUT: true; the input reads as it did. -/
def fnExactEqualBatchesSpec : ChangeSpec := { name := "fnExactEqualBatches", fn := fun _ => fun
  | [d1, d2] => { results := [.lit (.bool true)], args := [d1, d2] }
  | _ => none }
def fnExactEqualBatchesRow : OpenClaim := { program := "ytbhhbdilaihegaa", sum := "adb6eafc4419f9105e7af0140ae3719789c10871a80bfb82c8e5d82a3fed8251", func := "loop.example/g01923/laws.FnExactEqualBatches", spec := "fnExactEqualBatches", unfollowed := true, recurses := true, apart := false }
def FnExactEqualBatchesSaid : Prop := fnExactEqualBatchesRow.holds Try.pinned (OpenSpec.ofChange fnExactEqualBatchesSpec)

/-- ITS FALSE NEIGHBOUR: 'it returns false'. Refute it at one input. -/
def fnExactEqualBatchesWrong : ChangeSpec := { name := "fnExactEqualBatches", fn := fun _ => fun
  | [d1, d2] => { results := [.lit (.bool false)], args := [d1, d2] }
  | _ => none }
def FnExactEqualBatchesWrongFalsely : Prop := fnExactEqualBatchesRow.holds Try.pinned (OpenSpec.ofChange fnExactEqualBatchesWrong)

/-- 'laws.FnExactEqualStores': WHATEVER THE INPUT: true; the input reads as it did. -/
def fnExactEqualStoresSpec : ChangeSpec := { name := "fnExactEqualStores", fn := fun _ => fun
  | [d1, d2] => { results := [.lit (.bool true)], args := [d1, d2] }
  | _ => none }
def fnExactEqualStoresRow : OpenClaim := { program := "ytbhhbdilaihegaa", sum := "adb6eafc4419f9105e7af0140ae3719789c10871a80bfb82c8e5d82a3fed8251", func := "loop.example/g01923/laws.FnExactEqualStores", spec := "fnExactEqualStores", unfollowed := true, recurses := true, apart := false }
def FnExactEqualStoresSaid : Prop := fnExactEqualStoresRow.holds Try.pinned (OpenSpec.ofChange fnExactEqualStoresSpec)

/-- ITS FALSE NEIGHBOUR: 'it returns false'. Refute it at one input. -/
def fnExactEqualStoresWrong : ChangeSpec := { name := "fnExactEqualStores", fn := fun _ => fun
  | [d1, d2] => { results := [.lit (.bool false)], args := [d1, d2] }
  | _ => none }
def FnExactEqualStoresWrongFalsely : Prop := fnExactEqualStoresRow.holds Try.pinned (OpenSpec.ofChange fnExactEqualStoresWrong)

/-- 'laws.FnExactIsValidOp': WHATEVER THE INPUT: true; the input reads as it did. -/
def fnExactIsValidOpSpec : ChangeSpec := { name := "fnExactIsValidOp", fn := fun _ => fun
  | [d] => { results := [.lit (.bool true)], args := [d] }
  | _ => none }
def fnExactIsValidOpRow : OpenClaim := { program := "ytbhhbdilaihegaa", sum := "adb6eafc4419f9105e7af0140ae3719789c10871a80bfb82c8e5d82a3fed8251", func := "loop.example/g01923/laws.FnExactIsValidOp", spec := "fnExactIsValidOp", inPlace := ["internal/bytealg.IndexByteString", "internal/bytealg.IndexString"], unfollowed := true, recurses := true, named := ["internal/bytealg.MaxLen"], apart := false }
def FnExactIsValidOpSaid : Prop := fnExactIsValidOpRow.holds Try.pinned (OpenSpec.ofChange fnExactIsValidOpSpec)

/-- ITS FALSE NEIGHBOUR: 'it returns false'. Refute it at one input. -/
def fnExactIsValidOpWrong : ChangeSpec := { name := "fnExactIsValidOp", fn := fun _ => fun
  | [d] => { results := [.lit (.bool false)], args := [d] }
  | _ => none }
def FnExactIsValidOpWrongFalsely : Prop := fnExactIsValidOpRow.holds Try.pinned (OpenSpec.ofChange fnExactIsValidOpWrong)

/-- 'laws.FnExactIsValidBatch': WHATEVER THE INPUT: true; the input reads as it did. -/
def fnExactIsValidBatchSpec : ChangeSpec := { name := "fnExactIsValidBatch", fn := fun _ => fun
  | [d] => { results := [.lit (.bool true)], args := [d] }
  | _ => none }
def fnExactIsValidBatchRow : OpenClaim := { program := "ytbhhbdilaihegaa", sum := "adb6eafc4419f9105e7af0140ae3719789c10871a80bfb82c8e5d82a3fed8251", func := "loop.example/g01923/laws.FnExactIsValidBatch", spec := "fnExactIsValidBatch", inPlace := ["internal/bytealg.IndexByteString", "internal/bytealg.IndexString"], unfollowed := true, recurses := true, named := ["internal/bytealg.MaxLen"], apart := false }
def FnExactIsValidBatchSaid : Prop := fnExactIsValidBatchRow.holds Try.pinned (OpenSpec.ofChange fnExactIsValidBatchSpec)

/-- ITS FALSE NEIGHBOUR: 'it returns false'. Refute it at one input. -/
def fnExactIsValidBatchWrong : ChangeSpec := { name := "fnExactIsValidBatch", fn := fun _ => fun
  | [d] => { results := [.lit (.bool false)], args := [d] }
  | _ => none }
def FnExactIsValidBatchWrongFalsely : Prop := fnExactIsValidBatchRow.holds Try.pinned (OpenSpec.ofChange fnExactIsValidBatchWrong)

/-- 'laws.FnExactIsValidStore': WHATEVER THE INPUT: true; the input reads as it did. -/
def fnExactIsValidStoreSpec : ChangeSpec := { name := "fnExactIsValidStore", fn := fun _ => fun
  | [d] => { results := [.lit (.bool true)], args := [d] }
  | _ => none }
def fnExactIsValidStoreRow : OpenClaim := { program := "ytbhhbdilaihegaa", sum := "adb6eafc4419f9105e7af0140ae3719789c10871a80bfb82c8e5d82a3fed8251", func := "loop.example/g01923/laws.FnExactIsValidStore", spec := "fnExactIsValidStore", inPlace := ["internal/bytealg.IndexByteString", "internal/bytealg.IndexString"], unfollowed := true, recurses := true, named := ["internal/bytealg.MaxLen"], apart := false }
def FnExactIsValidStoreSaid : Prop := fnExactIsValidStoreRow.holds Try.pinned (OpenSpec.ofChange fnExactIsValidStoreSpec)

/-- ITS FALSE NEIGHBOUR: 'it returns false'. Refute it at one input. -/
def fnExactIsValidStoreWrong : ChangeSpec := { name := "fnExactIsValidStore", fn := fun _ => fun
  | [d] => { results := [.lit (.bool false)], args := [d] }
  | _ => none }
def FnExactIsValidStoreWrongFalsely : Prop := fnExactIsValidStoreRow.holds Try.pinned (OpenSpec.ofChange fnExactIsValidStoreWrong)

/-- 'laws.FnExactStoreItems': WHATEVER THE INPUT: true; the input reads as it did. -/
def fnExactStoreItemsSpec : ChangeSpec := { name := "fnExactStoreItems", fn := fun _ => fun
  | [d] => { results := [.lit (.bool true)], args := [d] }
  | _ => none }
def fnExactStoreItemsRow : OpenClaim := { program := "ytbhhbdilaihegaa", sum := "adb6eafc4419f9105e7af0140ae3719789c10871a80bfb82c8e5d82a3fed8251", func := "loop.example/g01923/laws.FnExactStoreItems", spec := "fnExactStoreItems", inPlace := ["internal/bytealg.IndexByteString", "internal/bytealg.IndexString"], unfollowed := true, recurses := true, named := ["internal/bytealg.MaxLen"], apart := false }
def FnExactStoreItemsSaid : Prop := fnExactStoreItemsRow.holds Try.pinned (OpenSpec.ofChange fnExactStoreItemsSpec)

/-- ITS FALSE NEIGHBOUR: 'it returns false'. Refute it at one input. -/
def fnExactStoreItemsWrong : ChangeSpec := { name := "fnExactStoreItems", fn := fun _ => fun
  | [d] => { results := [.lit (.bool false)], args := [d] }
  | _ => none }
def FnExactStoreItemsWrongFalsely : Prop := fnExactStoreItemsRow.holds Try.pinned (OpenSpec.ofChange fnExactStoreItemsWrong)

/-- 'laws.FnExactSplitVerdicts': WHATEVER THE INPUT: true; the input reads as it did. -/
def fnExactSplitVerdictsSpec : ChangeSpec := { name := "fnExactSplitVerdicts", fn := fun _ => fun
  | [d] => { results := [.lit (.bool true)], args := [d] }
  | _ => none }
def fnExactSplitVerdictsRow : OpenClaim := { program := "ytbhhbdilaihegaa", sum := "adb6eafc4419f9105e7af0140ae3719789c10871a80bfb82c8e5d82a3fed8251", func := "loop.example/g01923/laws.FnExactSplitVerdicts", spec := "fnExactSplitVerdicts", unfollowed := true, recurses := true, apart := false }
def FnExactSplitVerdictsSaid : Prop := fnExactSplitVerdictsRow.holds Try.pinned (OpenSpec.ofChange fnExactSplitVerdictsSpec)

/-- ITS FALSE NEIGHBOUR: 'it returns false'. Refute it at one input. -/
def fnExactSplitVerdictsWrong : ChangeSpec := { name := "fnExactSplitVerdicts", fn := fun _ => fun
  | [d] => { results := [.lit (.bool false)], args := [d] }
  | _ => none }
def FnExactSplitVerdictsWrongFalsely : Prop := fnExactSplitVerdictsRow.holds Try.pinned (OpenSpec.ofChange fnExactSplitVerdictsWrong)

/- THE SECOND FORM. 'bulk': how many values and letters a reading holds, each counted each time it is reached (what is shared counts as often as it is met; a slice's spare places count too). A statement '..UptoSaid' is the law's where the arguments, and the package variables that the reading takes, are together of bulk at most 1048576: NARROWER than '..Said'. Prove '..Said' where nothing that the law and all that it calls make is longer than what came in: it says more and counts as full. Else prove '..UptoSaid'. A law counts once. -/
mutual
def uptoBulk {H : Type} : DataW H → Nat
  | .lit (.string bytes) => bytes.length + 1
  | .lit _ => 1
  | .nil => 1
  | .ptr d => uptoBulk d + 1
  | .slice elems spare => uptoBulkAll elems + uptoBulkAll spare + 1
  | .agg parts => uptoBulkAll parts + 1
  | .iface _ d => uptoBulk d + 1
  | .map entries => uptoBulkEntries entries + 1
  | .held _ => 1
def uptoBulkAll {H : Type} : List (DataW H) → Nat
  | [] => 0
  | d :: r => uptoBulk d + uptoBulkAll r
def uptoBulkEntries {H : Type} : List (Lit × DataW H) → Nat
  | [] => 0
  | x :: r => uptoBulkEntry x + uptoBulkEntries r
def uptoBulkEntry {H : Type} : Lit × DataW H → Nat
  | (.string bytes, d) => bytes.length + uptoBulk d + 1
  | (_, d) => uptoBulk d + 1
 end
def uptoSmall : (H : Type) → List (DataW H) → Bool := fun _ ds => decide (uptoBulkAll ds ≤ 1048576)
def OpenSpec.upto (s : _root_.Go.ChangeSpec) : _root_.Go.OpenSpec := { _root_.Go.OpenSpec.ofChange s with cond := some uptoSmall }

/-- 'laws.FnExactAreVerdicts', WHERE WHAT IT READS IS OF BULK AT MOST 1048576: true; the input reads as it did. -/
def fnExactAreVerdictsUptoRow : OpenClaim := { program := "ytbhhbdilaihegaa", sum := "adb6eafc4419f9105e7af0140ae3719789c10871a80bfb82c8e5d82a3fed8251", func := "loop.example/g01923/laws.FnExactAreVerdicts", spec := "fnExactAreVerdicts", apart := false, narrowed := true }
def FnExactAreVerdictsUptoSaid : Prop := fnExactAreVerdictsUptoRow.holds Try.pinned (OpenSpec.upto fnExactAreVerdictsSpec)

/-- 'laws.FnExactVerdictConstraints', WHERE WHAT IT READS IS OF BULK AT MOST 1048576: true; the input reads as it did. -/
def fnExactVerdictConstraintsUptoRow : OpenClaim := { program := "ytbhhbdilaihegaa", sum := "adb6eafc4419f9105e7af0140ae3719789c10871a80bfb82c8e5d82a3fed8251", func := "loop.example/g01923/laws.FnExactVerdictConstraints", spec := "fnExactVerdictConstraints", apart := false, narrowed := true }
def FnExactVerdictConstraintsUptoSaid : Prop := fnExactVerdictConstraintsUptoRow.holds Try.pinned (OpenSpec.upto fnExactVerdictConstraintsSpec)

/-- 'laws.FnExactCurrentVerdicts', WHERE WHAT IT READS IS OF BULK AT MOST 1048576: true; the input reads as it did. -/
def fnExactCurrentVerdictsUptoRow : OpenClaim := { program := "ytbhhbdilaihegaa", sum := "adb6eafc4419f9105e7af0140ae3719789c10871a80bfb82c8e5d82a3fed8251", func := "loop.example/g01923/laws.FnExactCurrentVerdicts", spec := "fnExactCurrentVerdicts", apart := false, narrowed := true }
def FnExactCurrentVerdictsUptoSaid : Prop := fnExactCurrentVerdictsUptoRow.holds Try.pinned (OpenSpec.upto fnExactCurrentVerdictsSpec)

/-- 'laws.FnExactRemoveVerdict', WHERE WHAT IT READS IS OF BULK AT MOST 1048576: true; the input reads as it did. -/
def fnExactRemoveVerdictUptoRow : OpenClaim := { program := "ytbhhbdilaihegaa", sum := "adb6eafc4419f9105e7af0140ae3719789c10871a80bfb82c8e5d82a3fed8251", func := "loop.example/g01923/laws.FnExactRemoveVerdict", spec := "fnExactRemoveVerdict", apart := false, narrowed := true }
def FnExactRemoveVerdictUptoSaid : Prop := fnExactRemoveVerdictUptoRow.holds Try.pinned (OpenSpec.upto fnExactRemoveVerdictSpec)

/-- 'laws.FnExactAddVerdict', WHERE WHAT IT READS IS OF BULK AT MOST 1048576: true; the input reads as it did. -/
def fnExactAddVerdictUptoRow : OpenClaim := { program := "ytbhhbdilaihegaa", sum := "adb6eafc4419f9105e7af0140ae3719789c10871a80bfb82c8e5d82a3fed8251", func := "loop.example/g01923/laws.FnExactAddVerdict", spec := "fnExactAddVerdict", inPlace := ["slices.overlaps[loop.example/g01923/impl.Verdict]"], unfollowed := true, recurses := true, apart := false, narrowed := true }
def FnExactAddVerdictUptoSaid : Prop := fnExactAddVerdictUptoRow.holds Try.pinned (OpenSpec.upto fnExactAddVerdictSpec)

/-- 'laws.FnExactFindRecord', WHERE WHAT IT READS IS OF BULK AT MOST 1048576: true; the input reads as it did. -/
def fnExactFindRecordUptoRow : OpenClaim := { program := "ytbhhbdilaihegaa", sum := "adb6eafc4419f9105e7af0140ae3719789c10871a80bfb82c8e5d82a3fed8251", func := "loop.example/g01923/laws.FnExactFindRecord", spec := "fnExactFindRecord", unfollowed := true, recurses := true, apart := false, narrowed := true }
def FnExactFindRecordUptoSaid : Prop := fnExactFindRecordUptoRow.holds Try.pinned (OpenSpec.upto fnExactFindRecordSpec)

/-- 'laws.FnExactEqualBatches', WHERE WHAT IT READS IS OF BULK AT MOST 1048576: true; the input reads as it did. -/
def fnExactEqualBatchesUptoRow : OpenClaim := { program := "ytbhhbdilaihegaa", sum := "adb6eafc4419f9105e7af0140ae3719789c10871a80bfb82c8e5d82a3fed8251", func := "loop.example/g01923/laws.FnExactEqualBatches", spec := "fnExactEqualBatches", unfollowed := true, recurses := true, apart := false, narrowed := true }
def FnExactEqualBatchesUptoSaid : Prop := fnExactEqualBatchesUptoRow.holds Try.pinned (OpenSpec.upto fnExactEqualBatchesSpec)

/-- 'laws.FnExactEqualStores', WHERE WHAT IT READS IS OF BULK AT MOST 1048576: true; the input reads as it did. -/
def fnExactEqualStoresUptoRow : OpenClaim := { program := "ytbhhbdilaihegaa", sum := "adb6eafc4419f9105e7af0140ae3719789c10871a80bfb82c8e5d82a3fed8251", func := "loop.example/g01923/laws.FnExactEqualStores", spec := "fnExactEqualStores", unfollowed := true, recurses := true, apart := false, narrowed := true }
def FnExactEqualStoresUptoSaid : Prop := fnExactEqualStoresUptoRow.holds Try.pinned (OpenSpec.upto fnExactEqualStoresSpec)

/-- 'laws.FnExactIsValidOp', WHERE WHAT IT READS IS OF BULK AT MOST 1048576: true; the input reads as it did. -/
def fnExactIsValidOpUptoRow : OpenClaim := { program := "ytbhhbdilaihegaa", sum := "adb6eafc4419f9105e7af0140ae3719789c10871a80bfb82c8e5d82a3fed8251", func := "loop.example/g01923/laws.FnExactIsValidOp", spec := "fnExactIsValidOp", inPlace := ["internal/bytealg.IndexByteString", "internal/bytealg.IndexString"], unfollowed := true, recurses := true, named := ["internal/bytealg.MaxLen"], apart := false, narrowed := true }
def FnExactIsValidOpUptoSaid : Prop := fnExactIsValidOpUptoRow.holds Try.pinned (OpenSpec.upto fnExactIsValidOpSpec)

/-- 'laws.FnExactIsValidBatch', WHERE WHAT IT READS IS OF BULK AT MOST 1048576: true; the input reads as it did. -/
def fnExactIsValidBatchUptoRow : OpenClaim := { program := "ytbhhbdilaihegaa", sum := "adb6eafc4419f9105e7af0140ae3719789c10871a80bfb82c8e5d82a3fed8251", func := "loop.example/g01923/laws.FnExactIsValidBatch", spec := "fnExactIsValidBatch", inPlace := ["internal/bytealg.IndexByteString", "internal/bytealg.IndexString"], unfollowed := true, recurses := true, named := ["internal/bytealg.MaxLen"], apart := false, narrowed := true }
def FnExactIsValidBatchUptoSaid : Prop := fnExactIsValidBatchUptoRow.holds Try.pinned (OpenSpec.upto fnExactIsValidBatchSpec)

/-- 'laws.FnExactIsValidStore', WHERE WHAT IT READS IS OF BULK AT MOST 1048576: true; the input reads as it did. -/
def fnExactIsValidStoreUptoRow : OpenClaim := { program := "ytbhhbdilaihegaa", sum := "adb6eafc4419f9105e7af0140ae3719789c10871a80bfb82c8e5d82a3fed8251", func := "loop.example/g01923/laws.FnExactIsValidStore", spec := "fnExactIsValidStore", inPlace := ["internal/bytealg.IndexByteString", "internal/bytealg.IndexString"], unfollowed := true, recurses := true, named := ["internal/bytealg.MaxLen"], apart := false, narrowed := true }
def FnExactIsValidStoreUptoSaid : Prop := fnExactIsValidStoreUptoRow.holds Try.pinned (OpenSpec.upto fnExactIsValidStoreSpec)

/-- 'laws.FnExactStoreItems', WHERE WHAT IT READS IS OF BULK AT MOST 1048576: true; the input reads as it did. -/
def fnExactStoreItemsUptoRow : OpenClaim := { program := "ytbhhbdilaihegaa", sum := "adb6eafc4419f9105e7af0140ae3719789c10871a80bfb82c8e5d82a3fed8251", func := "loop.example/g01923/laws.FnExactStoreItems", spec := "fnExactStoreItems", inPlace := ["internal/bytealg.IndexByteString", "internal/bytealg.IndexString"], unfollowed := true, recurses := true, named := ["internal/bytealg.MaxLen"], apart := false, narrowed := true }
def FnExactStoreItemsUptoSaid : Prop := fnExactStoreItemsUptoRow.holds Try.pinned (OpenSpec.upto fnExactStoreItemsSpec)

/-- 'laws.FnExactSplitVerdicts', WHERE WHAT IT READS IS OF BULK AT MOST 1048576: true; the input reads as it did. -/
def fnExactSplitVerdictsUptoRow : OpenClaim := { program := "ytbhhbdilaihegaa", sum := "adb6eafc4419f9105e7af0140ae3719789c10871a80bfb82c8e5d82a3fed8251", func := "loop.example/g01923/laws.FnExactSplitVerdicts", spec := "fnExactSplitVerdicts", unfollowed := true, recurses := true, apart := false, narrowed := true }
def FnExactSplitVerdictsUptoSaid : Prop := fnExactSplitVerdictsUptoRow.holds Try.pinned (OpenSpec.upto fnExactSplitVerdictsSpec)

end Rows
end Go.Proofs.Ytbhhbdilaihegaa
