/-
  No cell of these rows narrows 'for every input' (looked for: loops, veiled, ifaces, maps, wideKeys, modest, calm, conditions, laid).
  DERIVED. THE GIVEN ROWS OF THIS SEAT. 3 by the template 'for every input the law returns true; each argument reads behind the call as it read before'; 0 by the template 'total and deterministic' (their statements: YtfcbapaojoecgaaGreatTotals.lean).
  GIVEN WITH THE SEED: the statements are not yours to turn. If you find one false, say at which input.
  Laid BY PROGRAM, IN A SANDBOX (cutbox-rows.mjs): the forced cells as the released guide's own fill.sh prints them over the translation 52c5b6e3440a3444… (all of the seat's roots in one cut). By AI agents, Wed Nov 11 2026. No macro, syntax, notation, axiom, sorry.
-/
import Derived.Test.YtfcbapaojoecgaaGreatChecked
import GoSem.Claim
import GoSem.ClaimJoined
import GoSem.ClaimMapViews
import Derived.JoinedTies
import Derived.KernelRfl
namespace Go.Proofs.YtfcbapaojoecgaaGreat
/- THE CELL 'sum', in the pinned program and in every row, IS THE sha256 OF THE DUMP (.gsa) THAT YtfcbapaojoecgaaGreatProg.lean LOADS. Nothing in Lean hashes anything: it is a label: what it is worth is what the hold of that sum in a sandbox is worth. -/
noncomputable def Tryz.pinned : Pinned := { name := "ytfcbapaojoecgaagreat", sum := "52c5b6e3440a3444e715e01a8391c1e58d347a261c2b5b2b4cce612c596031d2", checked := Tryz.checked }
namespace Rows
def none {H : Type} : Left H := { results := [], args := [] }

/-- 'laws.FnExactApplyBatch': WHATEVER THE INPUT: true; the input reads as it did. -/
def fnExactApplyBatchSpec : ChangeSpec := { name := "fnExactApplyBatch", fn := fun _ => fun
  | [d1, d2] => { results := [.lit (.bool true)], args := [d1, d2] }
  | _ => none }
def fnExactApplyBatchRow : OpenClaim := { program := "ytfcbapaojoecgaagreat", sum := "52c5b6e3440a3444e715e01a8391c1e58d347a261c2b5b2b4cce612c596031d2", func := "loop.example/g01923/laws.FnExactApplyBatch", spec := "fnExactApplyBatch", inPlace := ["internal/bytealg.IndexByteString", "internal/bytealg.IndexString", "slices.overlaps[loop.example/g01923/impl.Record]"], unfollowed := true, recurses := true, named := ["internal/bytealg.MaxLen"], apart := false }
def FnExactApplyBatchSaid : Prop := fnExactApplyBatchRow.holds Tryz.pinned (OpenSpec.ofChange fnExactApplyBatchSpec)

/-- ITS FALSE NEIGHBOUR: 'it returns false'. Refute it at one input. -/
def fnExactApplyBatchWrong : ChangeSpec := { name := "fnExactApplyBatch", fn := fun _ => fun
  | [d1, d2] => { results := [.lit (.bool false)], args := [d1, d2] }
  | _ => none }
def FnExactApplyBatchWrongFalsely : Prop := fnExactApplyBatchRow.holds Tryz.pinned (OpenSpec.ofChange fnExactApplyBatchWrong)

/-- 'laws.FnExactReplayBatches': WHATEVER THE INPUT: true; the input reads as it did. -/
def fnExactReplayBatchesSpec : ChangeSpec := { name := "fnExactReplayBatches", fn := fun _ => fun
  | [d] => { results := [.lit (.bool true)], args := [d] }
  | _ => none }
def fnExactReplayBatchesRow : OpenClaim := { program := "ytfcbapaojoecgaagreat", sum := "52c5b6e3440a3444e715e01a8391c1e58d347a261c2b5b2b4cce612c596031d2", func := "loop.example/g01923/laws.FnExactReplayBatches", spec := "fnExactReplayBatches", inPlace := ["internal/bytealg.IndexByteString", "internal/bytealg.IndexString", "slices.overlaps[loop.example/g01923/impl.Record]"], unfollowed := true, recurses := true, named := ["internal/bytealg.MaxLen"], apart := false }
def FnExactReplayBatchesSaid : Prop := fnExactReplayBatchesRow.holds Tryz.pinned (OpenSpec.ofChange fnExactReplayBatchesSpec)

/-- ITS FALSE NEIGHBOUR: 'it returns false'. Refute it at one input. -/
def fnExactReplayBatchesWrong : ChangeSpec := { name := "fnExactReplayBatches", fn := fun _ => fun
  | [d] => { results := [.lit (.bool false)], args := [d] }
  | _ => none }
def FnExactReplayBatchesWrongFalsely : Prop := fnExactReplayBatchesRow.holds Tryz.pinned (OpenSpec.ofChange fnExactReplayBatchesWrong)

/-- 'laws.FnStore': WHATEVER THE INPUT: true; the input reads as it did. -/
def fnStoreSpec : ChangeSpec := { name := "fnStore", fn := fun _ => fun
  | [d] => { results := [.lit (.bool true)], args := [d] }
  | _ => none }
def fnStoreRow : OpenClaim := { program := "ytfcbapaojoecgaagreat", sum := "52c5b6e3440a3444e715e01a8391c1e58d347a261c2b5b2b4cce612c596031d2", func := "loop.example/g01923/laws.FnStore", spec := "fnStore", inPlace := ["internal/bytealg.IndexByteString", "internal/bytealg.IndexString", "slices.overlaps[loop.example/g01923/impl.Record]"], unfollowed := true, recurses := true, named := ["internal/bytealg.MaxLen"], apart := false }
def FnStoreSaid : Prop := fnStoreRow.holds Tryz.pinned (OpenSpec.ofChange fnStoreSpec)

/-- ITS FALSE NEIGHBOUR: 'it returns false'. Refute it at one input. -/
def fnStoreWrong : ChangeSpec := { name := "fnStore", fn := fun _ => fun
  | [d] => { results := [.lit (.bool false)], args := [d] }
  | _ => none }
def FnStoreWrongFalsely : Prop := fnStoreRow.holds Tryz.pinned (OpenSpec.ofChange fnStoreWrong)

/- THE SECOND FORM. 'bulk': how many values and letters a reading holds, each counted each time it is reached (what is shared counts as often as it is met; a slice's spare places count too). A statement '..UptoSaid' is the law's where the arguments, and the package variables that the reading takes, are together of bulk at most 1048576: NARROWER than '..Said'. Prove '..Said' where nothing that the law and all that it calls make is longer than what came in: it says more and counts as full. Else prove '..UptoSaid'. A law counts once. -/
mutual
def uptoBulk {H : Type} : DataW H → Nat
  | .lit (.string bytes) => bytes.length + 1
  | .lit _ => 1
  | .nil => 1
  | .ptr d => uptoBulk d + 1
  | .slice elems spare => uptoBulkAll elems + uptoBulkAll spare + 1
  | .agg parts => uptoBulkAll parts + 1
  | .iface _ d => uptoBulk d + 1
  | .map entries => uptoBulkEntries entries + 1
  | .held _ => 1
def uptoBulkAll {H : Type} : List (DataW H) → Nat
  | [] => 0
  | d :: r => uptoBulk d + uptoBulkAll r
def uptoBulkEntries {H : Type} : List (Lit × DataW H) → Nat
  | [] => 0
  | x :: r => uptoBulkEntry x + uptoBulkEntries r
def uptoBulkEntry {H : Type} : Lit × DataW H → Nat
  | (.string bytes, d) => bytes.length + uptoBulk d + 1
  | (_, d) => uptoBulk d + 1
 end
def uptoSmall : (H : Type) → List (DataW H) → Bool := fun _ ds => decide (uptoBulkAll ds ≤ 1048576)
def OpenSpec.upto (s : _root_.Go.ChangeSpec) : _root_.Go.OpenSpec := { _root_.Go.OpenSpec.ofChange s with cond := some uptoSmall }

/-- 'laws.FnExactApplyBatch', WHERE WHAT IT READS IS OF BULK AT MOST 1048576: true; the input reads as it did. -/
def fnExactApplyBatchUptoRow : OpenClaim := { program := "ytfcbapaojoecgaagreat", sum := "52c5b6e3440a3444e715e01a8391c1e58d347a261c2b5b2b4cce612c596031d2", func := "loop.example/g01923/laws.FnExactApplyBatch", spec := "fnExactApplyBatch", inPlace := ["internal/bytealg.IndexByteString", "internal/bytealg.IndexString", "slices.overlaps[loop.example/g01923/impl.Record]"], unfollowed := true, recurses := true, named := ["internal/bytealg.MaxLen"], apart := false, narrowed := true }
def FnExactApplyBatchUptoSaid : Prop := fnExactApplyBatchUptoRow.holds Tryz.pinned (OpenSpec.upto fnExactApplyBatchSpec)

/-- 'laws.FnExactReplayBatches', WHERE WHAT IT READS IS OF BULK AT MOST 1048576: true; the input reads as it did. -/
def fnExactReplayBatchesUptoRow : OpenClaim := { program := "ytfcbapaojoecgaagreat", sum := "52c5b6e3440a3444e715e01a8391c1e58d347a261c2b5b2b4cce612c596031d2", func := "loop.example/g01923/laws.FnExactReplayBatches", spec := "fnExactReplayBatches", inPlace := ["internal/bytealg.IndexByteString", "internal/bytealg.IndexString", "slices.overlaps[loop.example/g01923/impl.Record]"], unfollowed := true, recurses := true, named := ["internal/bytealg.MaxLen"], apart := false, narrowed := true }
def FnExactReplayBatchesUptoSaid : Prop := fnExactReplayBatchesUptoRow.holds Tryz.pinned (OpenSpec.upto fnExactReplayBatchesSpec)

/-- 'laws.FnStore', WHERE WHAT IT READS IS OF BULK AT MOST 1048576: true; the input reads as it did. -/
def fnStoreUptoRow : OpenClaim := { program := "ytfcbapaojoecgaagreat", sum := "52c5b6e3440a3444e715e01a8391c1e58d347a261c2b5b2b4cce612c596031d2", func := "loop.example/g01923/laws.FnStore", spec := "fnStore", inPlace := ["internal/bytealg.IndexByteString", "internal/bytealg.IndexString", "slices.overlaps[loop.example/g01923/impl.Record]"], unfollowed := true, recurses := true, named := ["internal/bytealg.MaxLen"], apart := false, narrowed := true }
def FnStoreUptoSaid : Prop := fnStoreUptoRow.holds Tryz.pinned (OpenSpec.upto fnStoreSpec)

end Rows
end Go.Proofs.YtfcbapaojoecgaaGreat
