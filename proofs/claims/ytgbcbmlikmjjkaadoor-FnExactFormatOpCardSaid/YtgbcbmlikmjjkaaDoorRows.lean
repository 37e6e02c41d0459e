/-
  NARROWER THAN 'FOR EVERY INPUT', by the rows' own cells (each row's printed sentence says how): FnExactFormatEntities: laid · FnExactFormatOp: laid · FnExactFormatBatch: laid · FnExactEncodeEntry: laid · FnExactFieldSource: laid · FnExactFieldSupport: laid · FnExactIsUnanimous: laid · FnExactGoldenField: laid · FnExactGoldenRecord: laid.
  DERIVED. THE GIVEN ROWS OF THIS SEAT. 9 by the template 'for every input the law returns true; each argument reads behind the call as it read before'; 0 by the template 'total and deterministic' (their statements: YtgbcbmlikmjjkaaDoorTotals.lean).
  GIVEN WITH THE SEED: the statements are not yours to turn. If you find one false, say at which input.
  Laid BY PROGRAM, IN A SANDBOX (cutbox-rows.mjs): the forced cells as the released guide's own fill.sh prints them over the translation db1617fc6b6cdd19… (all of the seat's roots in one cut). By AI agents, Wed Nov 11 2026. No macro, syntax, notation, axiom, sorry.
-/
import Derived.Test.YtgbcbmlikmjjkaaDoorChecked
import GoSem.PinnedTables
import GoSem.Claim
import GoSem.ClaimJoined
import GoSem.ClaimMapViews
import Derived.JoinedTies
import Derived.KernelRfl
namespace Go.Proofs.YtgbcbmlikmjjkaaDoor
/- THE CELL 'sum', in the pinned program and in every row, IS THE sha256 OF THE DUMP (.gsa) THAT YtgbcbmlikmjjkaaDoorProg.lean LOADS. Nothing in Lean hashes anything: it is a label: what it is worth is what the hold of that sum in a sandbox is worth. -/
noncomputable def Tryd.pinned : Pinned := { name := "ytgbcbmlikmjjkaadoor", sum := "db1617fc6b6cdd19df044451e6b7607d9c373bf1adb3057fa52b997c7f2fe186", checked := Tryd.checked }
namespace Rows
def none {H : Type} : Left H := { results := [], args := [] }

/- WHAT THE LISTED PACKAGE-LEVEL VARIABLES READ AS WHEN THE CALL BEGINS. Each datum BY PROGRAM (the guide's laid-datum.mjs) off the statement by which the dump's own 'gosem.cut.vars' lays the variable. In a bare row this is a premise. The card (YtgbcbmlikmjjkaaDoorCards.lean) ties it to the program's text. -/
def laid_math_bits_deBruijn32tab {H : Type} : DataW H := .agg [.lit (.int .u8 0), .lit (.int .u8 1), .lit (.int .u8 28), .lit (.int .u8 2), .lit (.int .u8 29), .lit (.int .u8 14), .lit (.int .u8 24), .lit (.int .u8 3), .lit (.int .u8 30), .lit (.int .u8 22), .lit (.int .u8 20), .lit (.int .u8 15), .lit (.int .u8 25), .lit (.int .u8 17), .lit (.int .u8 4), .lit (.int .u8 8), .lit (.int .u8 31), .lit (.int .u8 27), .lit (.int .u8 13), .lit (.int .u8 23), .lit (.int .u8 21), .lit (.int .u8 19), .lit (.int .u8 16), .lit (.int .u8 7), .lit (.int .u8 26), .lit (.int .u8 12), .lit (.int .u8 18), .lit (.int .u8 6), .lit (.int .u8 11), .lit (.int .u8 5), .lit (.int .u8 10), .lit (.int .u8 9)]
def laid_math_bits_deBruijn64tab {H : Type} : DataW H := .agg [.lit (.int .u8 0), .lit (.int .u8 1), .lit (.int .u8 56), .lit (.int .u8 2), .lit (.int .u8 57), .lit (.int .u8 49), .lit (.int .u8 28), .lit (.int .u8 3), .lit (.int .u8 61), .lit (.int .u8 58), .lit (.int .u8 42), .lit (.int .u8 50), .lit (.int .u8 38), .lit (.int .u8 29), .lit (.int .u8 17), .lit (.int .u8 4), .lit (.int .u8 62), .lit (.int .u8 47), .lit (.int .u8 59), .lit (.int .u8 36), .lit (.int .u8 45), .lit (.int .u8 43), .lit (.int .u8 51), .lit (.int .u8 22), .lit (.int .u8 53), .lit (.int .u8 39), .lit (.int .u8 33), .lit (.int .u8 30), .lit (.int .u8 24), .lit (.int .u8 18), .lit (.int .u8 12), .lit (.int .u8 5), .lit (.int .u8 63), .lit (.int .u8 55), .lit (.int .u8 48), .lit (.int .u8 27), .lit (.int .u8 60), .lit (.int .u8 41), .lit (.int .u8 37), .lit (.int .u8 16), .lit (.int .u8 46), .lit (.int .u8 35), .lit (.int .u8 44), .lit (.int .u8 21), .lit (.int .u8 52), .lit (.int .u8 32), .lit (.int .u8 23), .lit (.int .u8 11), .lit (.int .u8 54), .lit (.int .u8 26), .lit (.int .u8 40), .lit (.int .u8 15), .lit (.int .u8 34), .lit (.int .u8 20), .lit (.int .u8 31), .lit (.int .u8 10), .lit (.int .u8 25), .lit (.int .u8 14), .lit (.int .u8 19), .lit (.int .u8 9), .lit (.int .u8 13), .lit (.int .u8 8), .lit (.int .u8 7), .lit (.int .u8 6)]
def laid_internal_strconv_uint64pow10 {H : Type} : DataW H := .agg [.lit (.int .u64 1), .lit (.int .u64 10), .lit (.int .u64 100), .lit (.int .u64 1000), .lit (.int .u64 10000), .lit (.int .u64 100000), .lit (.int .u64 1000000), .lit (.int .u64 10000000), .lit (.int .u64 100000000), .lit (.int .u64 1000000000), .lit (.int .u64 10000000000), .lit (.int .u64 100000000000), .lit (.int .u64 1000000000000), .lit (.int .u64 10000000000000), .lit (.int .u64 100000000000000), .lit (.int .u64 1000000000000000), .lit (.int .u64 10000000000000000), .lit (.int .u64 100000000000000000), .lit (.int .u64 1000000000000000000), .lit (.int .u64 10000000000000000000)]
def laid_unicode_utf8_acceptRanges {H : Type} : DataW H := .agg [.agg [.lit (.int .u8 128), .lit (.int .u8 191)], .agg [.lit (.int .u8 160), .lit (.int .u8 191)], .agg [.lit (.int .u8 128), .lit (.int .u8 159)], .agg [.lit (.int .u8 144), .lit (.int .u8 191)], .agg [.lit (.int .u8 128), .lit (.int .u8 143)], .agg [.lit (.int .u8 0), .lit (.int .u8 0)], .agg [.lit (.int .u8 0), .lit (.int .u8 0)], .agg [.lit (.int .u8 0), .lit (.int .u8 0)], .agg [.lit (.int .u8 0), .lit (.int .u8 0)], .agg [.lit (.int .u8 0), .lit (.int .u8 0)], .agg [.lit (.int .u8 0), .lit (.int .u8 0)], .agg [.lit (.int .u8 0), .lit (.int .u8 0)], .agg [.lit (.int .u8 0), .lit (.int .u8 0)], .agg [.lit (.int .u8 0), .lit (.int .u8 0)], .agg [.lit (.int .u8 0), .lit (.int .u8 0)], .agg [.lit (.int .u8 0), .lit (.int .u8 0)]]
/-- One of Go's own tables, pinned by name: the form's constant. -/
def laid_unicode_utf8_first : DataW Unit := Go.Pinned.utf8First

/-- 'laws.FnExactFormatEntities': WHATEVER THE INPUT: true; the input reads as it did. -/
def fnExactFormatEntitiesSpec : ChangeSpec := { name := "fnExactFormatEntities", fn := fun _ => fun
  | [d] => { results := [.lit (.bool true)], args := [d] }
  | _ => none }
def fnExactFormatEntitiesRow : OpenClaim := { program := "ytgbcbmlikmjjkaadoor", sum := "db1617fc6b6cdd19df044451e6b7607d9c373bf1adb3057fa52b997c7f2fe186", func := "loop.example/g01923/laws.FnExactFormatEntities", spec := "fnExactFormatEntities", inPlace := ["internal/abi.NoEscape", "internal/bytealg.MakeNoZero"], named := ["internal/strconv.uint64pow10", "math/bits.deBruijn32tab", "math/bits.deBruijn64tab"], apart := false, laid := [("math/bits.deBruijn32tab", laid_math_bits_deBruijn32tab), ("math/bits.deBruijn64tab", laid_math_bits_deBruijn64tab), ("internal/strconv.uint64pow10", laid_internal_strconv_uint64pow10)] }
def FnExactFormatEntitiesSaid : Prop := fnExactFormatEntitiesRow.holds Tryd.pinned (OpenSpec.ofChange fnExactFormatEntitiesSpec)

/-- ITS FALSE NEIGHBOUR: 'it returns false'. Refute it at one input. -/
def fnExactFormatEntitiesWrong : ChangeSpec := { name := "fnExactFormatEntities", fn := fun _ => fun
  | [d] => { results := [.lit (.bool false)], args := [d] }
  | _ => none }
def FnExactFormatEntitiesWrongFalsely : Prop := fnExactFormatEntitiesRow.holds Tryd.pinned (OpenSpec.ofChange fnExactFormatEntitiesWrong)

/-- 'laws.FnExactFormatOp': WHATEVER THE INPUT: true; the input reads as it did. -/
def fnExactFormatOpSpec : ChangeSpec := { name := "fnExactFormatOp", fn := fun _ => fun
  | [d] => { results := [.lit (.bool true)], args := [d] }
  | _ => none }
def fnExactFormatOpRow : OpenClaim := { program := "ytgbcbmlikmjjkaadoor", sum := "db1617fc6b6cdd19df044451e6b7607d9c373bf1adb3057fa52b997c7f2fe186", func := "loop.example/g01923/laws.FnExactFormatOp", spec := "fnExactFormatOp", inPlace := ["internal/bytealg.IndexByteString", "internal/bytealg.IndexString", "internal/abi.NoEscape", "internal/bytealg.MakeNoZero"], unfollowed := true, recurses := true, named := ["internal/strconv.uint64pow10", "math/bits.deBruijn32tab", "math/bits.deBruijn64tab", "internal/bytealg.MaxLen"], apart := false, laid := [("math/bits.deBruijn32tab", laid_math_bits_deBruijn32tab), ("math/bits.deBruijn64tab", laid_math_bits_deBruijn64tab), ("internal/strconv.uint64pow10", laid_internal_strconv_uint64pow10)] }
def FnExactFormatOpSaid : Prop := fnExactFormatOpRow.holds Tryd.pinned (OpenSpec.ofChange fnExactFormatOpSpec)

/-- ITS FALSE NEIGHBOUR: 'it returns false'. Refute it at one input. -/
def fnExactFormatOpWrong : ChangeSpec := { name := "fnExactFormatOp", fn := fun _ => fun
  | [d] => { results := [.lit (.bool false)], args := [d] }
  | _ => none }
def FnExactFormatOpWrongFalsely : Prop := fnExactFormatOpRow.holds Tryd.pinned (OpenSpec.ofChange fnExactFormatOpWrong)

/-- 'laws.FnExactFormatBatch': WHATEVER THE INPUT: true; the input reads as it did. -/
def fnExactFormatBatchSpec : ChangeSpec := { name := "fnExactFormatBatch", fn := fun _ => fun
  | [d] => { results := [.lit (.bool true)], args := [d] }
  | _ => none }
def fnExactFormatBatchRow : OpenClaim := { program := "ytgbcbmlikmjjkaadoor", sum := "db1617fc6b6cdd19df044451e6b7607d9c373bf1adb3057fa52b997c7f2fe186", func := "loop.example/g01923/laws.FnExactFormatBatch", spec := "fnExactFormatBatch", inPlace := ["internal/bytealg.IndexByteString", "internal/bytealg.IndexString", "internal/abi.NoEscape", "internal/bytealg.MakeNoZero"], unfollowed := true, recurses := true, named := ["internal/strconv.uint64pow10", "math/bits.deBruijn32tab", "math/bits.deBruijn64tab", "internal/bytealg.MaxLen"], apart := false, laid := [("math/bits.deBruijn32tab", laid_math_bits_deBruijn32tab), ("math/bits.deBruijn64tab", laid_math_bits_deBruijn64tab), ("internal/strconv.uint64pow10", laid_internal_strconv_uint64pow10)] }
def FnExactFormatBatchSaid : Prop := fnExactFormatBatchRow.holds Tryd.pinned (OpenSpec.ofChange fnExactFormatBatchSpec)

/-- ITS FALSE NEIGHBOUR: 'it returns false'. Refute it at one input. -/
def fnExactFormatBatchWrong : ChangeSpec := { name := "fnExactFormatBatch", fn := fun _ => fun
  | [d] => { results := [.lit (.bool false)], args := [d] }
  | _ => none }
def FnExactFormatBatchWrongFalsely : Prop := fnExactFormatBatchRow.holds Tryd.pinned (OpenSpec.ofChange fnExactFormatBatchWrong)

/-- 'laws.FnExactEncodeEntry': WHATEVER THE INPUT: true; the input reads as it did. -/
def fnExactEncodeEntrySpec : ChangeSpec := { name := "fnExactEncodeEntry", fn := fun _ => fun
  | [d1, d2] => { results := [.lit (.bool true)], args := [d1, d2] }
  | _ => none }
def fnExactEncodeEntryRow : OpenClaim := { program := "ytgbcbmlikmjjkaadoor", sum := "db1617fc6b6cdd19df044451e6b7607d9c373bf1adb3057fa52b997c7f2fe186", func := "loop.example/g01923/laws.FnExactEncodeEntry", spec := "fnExactEncodeEntry", inPlace := ["internal/bytealg.IndexByteString", "internal/bytealg.IndexString", "internal/abi.NoEscape", "internal/bytealg.MakeNoZero"], unfollowed := true, recurses := true, named := ["internal/strconv.uint64pow10", "math/bits.deBruijn32tab", "math/bits.deBruijn64tab", "internal/bytealg.MaxLen"], apart := false, laid := [("math/bits.deBruijn32tab", laid_math_bits_deBruijn32tab), ("math/bits.deBruijn64tab", laid_math_bits_deBruijn64tab), ("internal/strconv.uint64pow10", laid_internal_strconv_uint64pow10)] }
def FnExactEncodeEntrySaid : Prop := fnExactEncodeEntryRow.holds Tryd.pinned (OpenSpec.ofChange fnExactEncodeEntrySpec)

/-- ITS FALSE NEIGHBOUR: 'it returns false'. Refute it at one input. -/
def fnExactEncodeEntryWrong : ChangeSpec := { name := "fnExactEncodeEntry", fn := fun _ => fun
  | [d1, d2] => { results := [.lit (.bool false)], args := [d1, d2] }
  | _ => none }
def FnExactEncodeEntryWrongFalsely : Prop := fnExactEncodeEntryRow.holds Tryd.pinned (OpenSpec.ofChange fnExactEncodeEntryWrong)

/-- 'laws.FnExactFieldSource': WHATEVER THE INPUT: true; the input reads as it did. -/
def fnExactFieldSourceSpec : ChangeSpec := { name := "fnExactFieldSource", fn := fun _ => fun
  | [d1, d2, d3] => { results := [.lit (.bool true)], args := [d1, d2, d3] }
  | _ => none }
def fnExactFieldSourceRow : OpenClaim := { program := "ytgbcbmlikmjjkaadoor", sum := "db1617fc6b6cdd19df044451e6b7607d9c373bf1adb3057fa52b997c7f2fe186", func := "loop.example/g01923/laws.FnExactFieldSource", spec := "fnExactFieldSource", inPlace := ["internal/bytealg.IndexByteString", "internal/bytealg.IndexString"], unfollowed := true, recurses := true, named := ["internal/strconv.uint64pow10", "math/bits.deBruijn32tab", "math/bits.deBruijn64tab", "internal/bytealg.MaxLen"], apart := false, laid := [("math/bits.deBruijn32tab", laid_math_bits_deBruijn32tab), ("math/bits.deBruijn64tab", laid_math_bits_deBruijn64tab), ("internal/strconv.uint64pow10", laid_internal_strconv_uint64pow10)] }
def FnExactFieldSourceSaid : Prop := fnExactFieldSourceRow.holds Tryd.pinned (OpenSpec.ofChange fnExactFieldSourceSpec)

/-- ITS FALSE NEIGHBOUR: 'it returns false'. Refute it at one input. -/
def fnExactFieldSourceWrong : ChangeSpec := { name := "fnExactFieldSource", fn := fun _ => fun
  | [d1, d2, d3] => { results := [.lit (.bool false)], args := [d1, d2, d3] }
  | _ => none }
def FnExactFieldSourceWrongFalsely : Prop := fnExactFieldSourceRow.holds Tryd.pinned (OpenSpec.ofChange fnExactFieldSourceWrong)

/-- 'laws.FnExactFieldSupport': WHATEVER THE INPUT: true; the input reads as it did. -/
def fnExactFieldSupportSpec : ChangeSpec := { name := "fnExactFieldSupport", fn := fun _ => fun
  | [d1, d2, d3] => { results := [.lit (.bool true)], args := [d1, d2, d3] }
  | _ => none }
def fnExactFieldSupportRow : OpenClaim := { program := "ytgbcbmlikmjjkaadoor", sum := "db1617fc6b6cdd19df044451e6b7607d9c373bf1adb3057fa52b997c7f2fe186", func := "loop.example/g01923/laws.FnExactFieldSupport", spec := "fnExactFieldSupport", inPlace := ["internal/bytealg.IndexByteString", "internal/bytealg.IndexString", "internal/bytealg.CountString", "internal/abi.NoEscape", "internal/bytealg.MakeNoZero"], unfollowed := true, recurses := true, named := ["internal/bytealg.MaxLen", "unicode/utf8.first", "unicode/utf8.acceptRanges"], apart := false, laid := [("unicode/utf8.acceptRanges", laid_unicode_utf8_acceptRanges), ("unicode/utf8.first", laid_unicode_utf8_first)] }
def FnExactFieldSupportSaid : Prop := fnExactFieldSupportRow.holds Tryd.pinned (OpenSpec.ofChange fnExactFieldSupportSpec)

/-- ITS FALSE NEIGHBOUR: 'it returns false'. Refute it at one input. -/
def fnExactFieldSupportWrong : ChangeSpec := { name := "fnExactFieldSupport", fn := fun _ => fun
  | [d1, d2, d3] => { results := [.lit (.bool false)], args := [d1, d2, d3] }
  | _ => none }
def FnExactFieldSupportWrongFalsely : Prop := fnExactFieldSupportRow.holds Tryd.pinned (OpenSpec.ofChange fnExactFieldSupportWrong)

/-- 'laws.FnExactIsUnanimous': WHATEVER THE INPUT: true; the input reads as it did. -/
def fnExactIsUnanimousSpec : ChangeSpec := { name := "fnExactIsUnanimous", fn := fun _ => fun
  | [d1, d2] => { results := [.lit (.bool true)], args := [d1, d2] }
  | _ => none }
def fnExactIsUnanimousRow : OpenClaim := { program := "ytgbcbmlikmjjkaadoor", sum := "db1617fc6b6cdd19df044451e6b7607d9c373bf1adb3057fa52b997c7f2fe186", func := "loop.example/g01923/laws.FnExactIsUnanimous", spec := "fnExactIsUnanimous", inPlace := ["internal/bytealg.IndexByteString", "internal/bytealg.IndexString", "internal/bytealg.CountString", "internal/abi.NoEscape", "internal/bytealg.MakeNoZero"], unfollowed := true, recurses := true, named := ["internal/bytealg.MaxLen", "unicode/utf8.first", "unicode/utf8.acceptRanges"], apart := false, laid := [("unicode/utf8.acceptRanges", laid_unicode_utf8_acceptRanges), ("unicode/utf8.first", laid_unicode_utf8_first)] }
def FnExactIsUnanimousSaid : Prop := fnExactIsUnanimousRow.holds Tryd.pinned (OpenSpec.ofChange fnExactIsUnanimousSpec)

/-- ITS FALSE NEIGHBOUR: 'it returns false'. Refute it at one input. -/
def fnExactIsUnanimousWrong : ChangeSpec := { name := "fnExactIsUnanimous", fn := fun _ => fun
  | [d1, d2] => { results := [.lit (.bool false)], args := [d1, d2] }
  | _ => none }
def FnExactIsUnanimousWrongFalsely : Prop := fnExactIsUnanimousRow.holds Tryd.pinned (OpenSpec.ofChange fnExactIsUnanimousWrong)

/-- 'laws.FnExactGoldenField': WHATEVER THE INPUT: true; the input reads as it did. -/
def fnExactGoldenFieldSpec : ChangeSpec := { name := "fnExactGoldenField", fn := fun _ => fun
  | [d1, d2, d3] => { results := [.lit (.bool true)], args := [d1, d2, d3] }
  | _ => none }
def fnExactGoldenFieldRow : OpenClaim := { program := "ytgbcbmlikmjjkaadoor", sum := "db1617fc6b6cdd19df044451e6b7607d9c373bf1adb3057fa52b997c7f2fe186", func := "loop.example/g01923/laws.FnExactGoldenField", spec := "fnExactGoldenField", inPlace := ["internal/bytealg.IndexByteString", "internal/bytealg.IndexString", "internal/bytealg.CountString", "internal/abi.NoEscape", "internal/bytealg.MakeNoZero"], unfollowed := true, recurses := true, named := ["internal/bytealg.MaxLen", "unicode/utf8.first", "unicode/utf8.acceptRanges"], apart := false, laid := [("unicode/utf8.acceptRanges", laid_unicode_utf8_acceptRanges), ("unicode/utf8.first", laid_unicode_utf8_first)] }
def FnExactGoldenFieldSaid : Prop := fnExactGoldenFieldRow.holds Tryd.pinned (OpenSpec.ofChange fnExactGoldenFieldSpec)

/-- ITS FALSE NEIGHBOUR: 'it returns false'. Refute it at one input. -/
def fnExactGoldenFieldWrong : ChangeSpec := { name := "fnExactGoldenField", fn := fun _ => fun
  | [d1, d2, d3] => { results := [.lit (.bool false)], args := [d1, d2, d3] }
  | _ => none }
def FnExactGoldenFieldWrongFalsely : Prop := fnExactGoldenFieldRow.holds Tryd.pinned (OpenSpec.ofChange fnExactGoldenFieldWrong)

/-- 'laws.FnExactGoldenRecord': WHATEVER THE INPUT: true; the input reads as it did. -/
def fnExactGoldenRecordSpec : ChangeSpec := { name := "fnExactGoldenRecord", fn := fun _ => fun
  | [d1, d2] => { results := [.lit (.bool true)], args := [d1, d2] }
  | _ => none }
def fnExactGoldenRecordRow : OpenClaim := { program := "ytgbcbmlikmjjkaadoor", sum := "db1617fc6b6cdd19df044451e6b7607d9c373bf1adb3057fa52b997c7f2fe186", func := "loop.example/g01923/laws.FnExactGoldenRecord", spec := "fnExactGoldenRecord", inPlace := ["internal/bytealg.IndexByteString", "internal/bytealg.IndexString", "internal/bytealg.CountString", "internal/abi.NoEscape", "internal/bytealg.MakeNoZero"], unfollowed := true, recurses := true, named := ["internal/bytealg.MaxLen", "unicode/utf8.first", "unicode/utf8.acceptRanges"], apart := false, laid := [("unicode/utf8.acceptRanges", laid_unicode_utf8_acceptRanges), ("unicode/utf8.first", laid_unicode_utf8_first)] }
def FnExactGoldenRecordSaid : Prop := fnExactGoldenRecordRow.holds Tryd.pinned (OpenSpec.ofChange fnExactGoldenRecordSpec)

/-- ITS FALSE NEIGHBOUR: 'it returns false'. Refute it at one input. -/
def fnExactGoldenRecordWrong : ChangeSpec := { name := "fnExactGoldenRecord", fn := fun _ => fun
  | [d1, d2] => { results := [.lit (.bool false)], args := [d1, d2] }
  | _ => none }
def FnExactGoldenRecordWrongFalsely : Prop := fnExactGoldenRecordRow.holds Tryd.pinned (OpenSpec.ofChange fnExactGoldenRecordWrong)

/- THE SECOND FORM. 'bulk': how many values and letters a reading holds, each counted each time it is reached (what is shared counts as often as it is met; a slice's spare places count too). A statement '..UptoSaid' is the law's where the arguments, and the package variables that the reading takes, are together of bulk at most 1048576: NARROWER than '..Said'. Prove '..Said' where nothing that the law and all that it calls make is longer than what came in: it says more and counts as full. Else prove '..UptoSaid'. A law counts once. -/
mutual
def uptoBulk {H : Type} : DataW H → Nat
  | .lit (.string bytes) => bytes.length + 1
  | .lit _ => 1
  | .nil => 1
  | .ptr d => uptoBulk d + 1
  | .slice elems spare => uptoBulkAll elems + uptoBulkAll spare + 1
  | .agg parts => uptoBulkAll parts + 1
  | .iface _ d => uptoBulk d + 1
  | .map entries => uptoBulkEntries entries + 1
  | .held _ => 1
def uptoBulkAll {H : Type} : List (DataW H) → Nat
  | [] => 0
  | d :: r => uptoBulk d + uptoBulkAll r
def uptoBulkEntries {H : Type} : List (Lit × DataW H) → Nat
  | [] => 0
  | x :: r => uptoBulkEntry x + uptoBulkEntries r
def uptoBulkEntry {H : Type} : Lit × DataW H → Nat
  | (.string bytes, d) => bytes.length + uptoBulk d + 1
  | (_, d) => uptoBulk d + 1
 end
def uptoSmall : (H : Type) → List (DataW H) → Bool := fun _ ds => decide (uptoBulkAll ds ≤ 1048576)
def OpenSpec.upto (s : _root_.Go.ChangeSpec) : _root_.Go.OpenSpec := { _root_.Go.OpenSpec.ofChange s with cond := some uptoSmall }

/-- 'laws.FnExactFormatEntities', WHERE WHAT IT READS IS OF BULK AT MOST 1048576: true; the input reads as it did. -/
def fnExactFormatEntitiesUptoRow : OpenClaim := { program := "ytgbcbmlikmjjkaadoor", sum := "db1617fc6b6cdd19df044451e6b7607d9c373bf1adb3057fa52b997c7f2fe186", func := "loop.example/g01923/laws.FnExactFormatEntities", spec := "fnExactFormatEntities", inPlace := ["internal/abi.NoEscape", "internal/bytealg.MakeNoZero"], named := ["internal/strconv.uint64pow10", "math/bits.deBruijn32tab", "math/bits.deBruijn64tab"], apart := false, laid := [("math/bits.deBruijn32tab", laid_math_bits_deBruijn32tab), ("math/bits.deBruijn64tab", laid_math_bits_deBruijn64tab), ("internal/strconv.uint64pow10", laid_internal_strconv_uint64pow10)], narrowed := true }
def FnExactFormatEntitiesUptoSaid : Prop := fnExactFormatEntitiesUptoRow.holds Tryd.pinned (OpenSpec.upto fnExactFormatEntitiesSpec)

/-- 'laws.FnExactFormatOp', WHERE WHAT IT READS IS OF BULK AT MOST 1048576: true; the input reads as it did. -/
def fnExactFormatOpUptoRow : OpenClaim := { program := "ytgbcbmlikmjjkaadoor", sum := "db1617fc6b6cdd19df044451e6b7607d9c373bf1adb3057fa52b997c7f2fe186", func := "loop.example/g01923/laws.FnExactFormatOp", spec := "fnExactFormatOp", inPlace := ["internal/bytealg.IndexByteString", "internal/bytealg.IndexString", "internal/abi.NoEscape", "internal/bytealg.MakeNoZero"], unfollowed := true, recurses := true, named := ["internal/strconv.uint64pow10", "math/bits.deBruijn32tab", "math/bits.deBruijn64tab", "internal/bytealg.MaxLen"], apart := false, laid := [("math/bits.deBruijn32tab", laid_math_bits_deBruijn32tab), ("math/bits.deBruijn64tab", laid_math_bits_deBruijn64tab), ("internal/strconv.uint64pow10", laid_internal_strconv_uint64pow10)], narrowed := true }
def FnExactFormatOpUptoSaid : Prop := fnExactFormatOpUptoRow.holds Tryd.pinned (OpenSpec.upto fnExactFormatOpSpec)

/-- 'laws.FnExactFormatBatch', WHERE WHAT IT READS IS OF BULK AT MOST 1048576: true; the input reads as it did. -/
def fnExactFormatBatchUptoRow : OpenClaim := { program := "ytgbcbmlikmjjkaadoor", sum := "db1617fc6b6cdd19df044451e6b7607d9c373bf1adb3057fa52b997c7f2fe186", func := "loop.example/g01923/laws.FnExactFormatBatch", spec := "fnExactFormatBatch", inPlace := ["internal/bytealg.IndexByteString", "internal/bytealg.IndexString", "internal/abi.NoEscape", "internal/bytealg.MakeNoZero"], unfollowed := true, recurses := true, named := ["internal/strconv.uint64pow10", "math/bits.deBruijn32tab", "math/bits.deBruijn64tab", "internal/bytealg.MaxLen"], apart := false, laid := [("math/bits.deBruijn32tab", laid_math_bits_deBruijn32tab), ("math/bits.deBruijn64tab", laid_math_bits_deBruijn64tab), ("internal/strconv.uint64pow10", laid_internal_strconv_uint64pow10)], narrowed := true }
def FnExactFormatBatchUptoSaid : Prop := fnExactFormatBatchUptoRow.holds Tryd.pinned (OpenSpec.upto fnExactFormatBatchSpec)

/-- 'laws.FnExactEncodeEntry', WHERE WHAT IT READS IS OF BULK AT MOST 1048576: true; the input reads as it did. -/
def fnExactEncodeEntryUptoRow : OpenClaim := { program := "ytgbcbmlikmjjkaadoor", sum := "db1617fc6b6cdd19df044451e6b7607d9c373bf1adb3057fa52b997c7f2fe186", func := "loop.example/g01923/laws.FnExactEncodeEntry", spec := "fnExactEncodeEntry", inPlace := ["internal/bytealg.IndexByteString", "internal/bytealg.IndexString", "internal/abi.NoEscape", "internal/bytealg.MakeNoZero"], unfollowed := true, recurses := true, named := ["internal/strconv.uint64pow10", "math/bits.deBruijn32tab", "math/bits.deBruijn64tab", "internal/bytealg.MaxLen"], apart := false, laid := [("math/bits.deBruijn32tab", laid_math_bits_deBruijn32tab), ("math/bits.deBruijn64tab", laid_math_bits_deBruijn64tab), ("internal/strconv.uint64pow10", laid_internal_strconv_uint64pow10)], narrowed := true }
def FnExactEncodeEntryUptoSaid : Prop := fnExactEncodeEntryUptoRow.holds Tryd.pinned (OpenSpec.upto fnExactEncodeEntrySpec)

/-- 'laws.FnExactFieldSource', WHERE WHAT IT READS IS OF BULK AT MOST 1048576: true; the input reads as it did. -/
def fnExactFieldSourceUptoRow : OpenClaim := { program := "ytgbcbmlikmjjkaadoor", sum := "db1617fc6b6cdd19df044451e6b7607d9c373bf1adb3057fa52b997c7f2fe186", func := "loop.example/g01923/laws.FnExactFieldSource", spec := "fnExactFieldSource", inPlace := ["internal/bytealg.IndexByteString", "internal/bytealg.IndexString"], unfollowed := true, recurses := true, named := ["internal/strconv.uint64pow10", "math/bits.deBruijn32tab", "math/bits.deBruijn64tab", "internal/bytealg.MaxLen"], apart := false, laid := [("math/bits.deBruijn32tab", laid_math_bits_deBruijn32tab), ("math/bits.deBruijn64tab", laid_math_bits_deBruijn64tab), ("internal/strconv.uint64pow10", laid_internal_strconv_uint64pow10)], narrowed := true }
def FnExactFieldSourceUptoSaid : Prop := fnExactFieldSourceUptoRow.holds Tryd.pinned (OpenSpec.upto fnExactFieldSourceSpec)

/-- 'laws.FnExactFieldSupport', WHERE WHAT IT READS IS OF BULK AT MOST 1048576: true; the input reads as it did. -/
def fnExactFieldSupportUptoRow : OpenClaim := { program := "ytgbcbmlikmjjkaadoor", sum := "db1617fc6b6cdd19df044451e6b7607d9c373bf1adb3057fa52b997c7f2fe186", func := "loop.example/g01923/laws.FnExactFieldSupport", spec := "fnExactFieldSupport", inPlace := ["internal/bytealg.IndexByteString", "internal/bytealg.IndexString", "internal/bytealg.CountString", "internal/abi.NoEscape", "internal/bytealg.MakeNoZero"], unfollowed := true, recurses := true, named := ["internal/bytealg.MaxLen", "unicode/utf8.first", "unicode/utf8.acceptRanges"], apart := false, laid := [("unicode/utf8.acceptRanges", laid_unicode_utf8_acceptRanges), ("unicode/utf8.first", laid_unicode_utf8_first)], narrowed := true }
def FnExactFieldSupportUptoSaid : Prop := fnExactFieldSupportUptoRow.holds Tryd.pinned (OpenSpec.upto fnExactFieldSupportSpec)

/-- 'laws.FnExactIsUnanimous', WHERE WHAT IT READS IS OF BULK AT MOST 1048576: true; the input reads as it did. -/
def fnExactIsUnanimousUptoRow : OpenClaim := { program := "ytgbcbmlikmjjkaadoor", sum := "db1617fc6b6cdd19df044451e6b7607d9c373bf1adb3057fa52b997c7f2fe186", func := "loop.example/g01923/laws.FnExactIsUnanimous", spec := "fnExactIsUnanimous", inPlace := ["internal/bytealg.IndexByteString", "internal/bytealg.IndexString", "internal/bytealg.CountString", "internal/abi.NoEscape", "internal/bytealg.MakeNoZero"], unfollowed := true, recurses := true, named := ["internal/bytealg.MaxLen", "unicode/utf8.first", "unicode/utf8.acceptRanges"], apart := false, laid := [("unicode/utf8.acceptRanges", laid_unicode_utf8_acceptRanges), ("unicode/utf8.first", laid_unicode_utf8_first)], narrowed := true }
def FnExactIsUnanimousUptoSaid : Prop := fnExactIsUnanimousUptoRow.holds Tryd.pinned (OpenSpec.upto fnExactIsUnanimousSpec)

/-- 'laws.FnExactGoldenField', WHERE WHAT IT READS IS OF BULK AT MOST 1048576: true; the input reads as it did. -/
def fnExactGoldenFieldUptoRow : OpenClaim := { program := "ytgbcbmlikmjjkaadoor", sum := "db1617fc6b6cdd19df044451e6b7607d9c373bf1adb3057fa52b997c7f2fe186", func := "loop.example/g01923/laws.FnExactGoldenField", spec := "fnExactGoldenField", inPlace := ["internal/bytealg.IndexByteString", "internal/bytealg.IndexString", "internal/bytealg.CountString", "internal/abi.NoEscape", "internal/bytealg.MakeNoZero"], unfollowed := true, recurses := true, named := ["internal/bytealg.MaxLen", "unicode/utf8.first", "unicode/utf8.acceptRanges"], apart := false, laid := [("unicode/utf8.acceptRanges", laid_unicode_utf8_acceptRanges), ("unicode/utf8.first", laid_unicode_utf8_first)], narrowed := true }
def FnExactGoldenFieldUptoSaid : Prop := fnExactGoldenFieldUptoRow.holds Tryd.pinned (OpenSpec.upto fnExactGoldenFieldSpec)

/-- 'laws.FnExactGoldenRecord', WHERE WHAT IT READS IS OF BULK AT MOST 1048576: true; the input reads as it did. -/
def fnExactGoldenRecordUptoRow : OpenClaim := { program := "ytgbcbmlikmjjkaadoor", sum := "db1617fc6b6cdd19df044451e6b7607d9c373bf1adb3057fa52b997c7f2fe186", func := "loop.example/g01923/laws.FnExactGoldenRecord", spec := "fnExactGoldenRecord", inPlace := ["internal/bytealg.IndexByteString", "internal/bytealg.IndexString", "internal/bytealg.CountString", "internal/abi.NoEscape", "internal/bytealg.MakeNoZero"], unfollowed := true, recurses := true, named := ["internal/bytealg.MaxLen", "unicode/utf8.first", "unicode/utf8.acceptRanges"], apart := false, laid := [("unicode/utf8.acceptRanges", laid_unicode_utf8_acceptRanges), ("unicode/utf8.first", laid_unicode_utf8_first)], narrowed := true }
def FnExactGoldenRecordUptoSaid : Prop := fnExactGoldenRecordUptoRow.holds Tryd.pinned (OpenSpec.upto fnExactGoldenRecordSpec)

end Rows
end Go.Proofs.YtgbcbmlikmjjkaaDoor
