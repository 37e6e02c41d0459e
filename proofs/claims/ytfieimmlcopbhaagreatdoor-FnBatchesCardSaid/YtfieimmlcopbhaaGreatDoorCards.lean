/-
  DERIVED. GIVEN WITH THE SEED: THE CARDS: each row of YtfieimmlcopbhaaGreatDoorRows.lean that lists a variable, with what it lists TIED to the program's text (the seventh form; the later family's looks); each row that meets fmt, with fmt's text TOLD by the authors' own Lean function (tested against real Go, not proved from fmt's source: count such statements apart). THE CARD IS WHAT COUNTS. Prove the row's statement (the work); the ties are given (YtfieimmlcopbhaaGreatDoorTie.lean); close each card by the builder's one call (the guide's Derived/Test/ToyasCard.lean, 'card_holds'). Laid BY PROGRAM, IN A SANDBOX (cutbox-door.mjs). By AI agents, Wed Nov 11 2026. No macro, syntax, notation, axiom, sorry.
-/
import Derived.Test.YtfieimmlcopbhaaGreatDoorRows
import GoSem.ClaimSeven
namespace Go.Proofs.YtfieimmlcopbhaaGreatDoor
namespace Rows

/-- THE TIED CARD OF 'laws.FnExactParseOp'. -/
def fnExactParseOpCard : Claim7 := { stood := { row := fnExactParseOpRow, standIns := [], harness := (true, "984ea58ff7aeb2d253f44f1ac3e2f615db5f26be5b18e5599badda073ad8409c"), looks := true }, kinds := [], alts := [], laidByText := true, laidKinds := [.data, .data, .data, .data, .sentinel, .sentinel, .pinned], laidTests := true, laidLooks := .later }
def FnExactParseOpCardSaid : Prop := Claim7.holds Tryz.pinned (.plain (OpenSpec.ofChange fnExactParseOpSpec)) fnExactParseOpCard

/-- THE TIED CARD OF 'laws.FnExactParseBatch'. -/
def fnExactParseBatchCard : Claim7 := { stood := { row := fnExactParseBatchRow, standIns := [], harness := (true, "984ea58ff7aeb2d253f44f1ac3e2f615db5f26be5b18e5599badda073ad8409c"), looks := true }, kinds := [], alts := [], laidByText := true, laidKinds := [.data, .data, .data, .data, .sentinel, .sentinel, .pinned], laidTests := true, laidLooks := .later }
def FnExactParseBatchCardSaid : Prop := Claim7.holds Tryz.pinned (.plain (OpenSpec.ofChange fnExactParseBatchSpec)) fnExactParseBatchCard

/-- THE TIED CARD OF 'laws.FnExactDecodeEntry'. -/
def fnExactDecodeEntryCard : Claim7 := { stood := { row := fnExactDecodeEntryRow, standIns := [], harness := (true, "984ea58ff7aeb2d253f44f1ac3e2f615db5f26be5b18e5599badda073ad8409c"), looks := true }, kinds := [], alts := [], laidByText := true, laidKinds := [.data, .data, .data, .data, .sentinel, .sentinel, .pinned], laidTests := true, laidLooks := .later }
def FnExactDecodeEntryCardSaid : Prop := Claim7.holds Tryz.pinned (.plain (OpenSpec.ofChange fnExactDecodeEntrySpec)) fnExactDecodeEntryCard

/-- THE TIED CARD OF 'laws.FnRecords'. -/
def fnRecordsCard : Claim7 := { stood := { row := fnRecordsRow, standIns := [], harness := (true, "984ea58ff7aeb2d253f44f1ac3e2f615db5f26be5b18e5599badda073ad8409c"), looks := true }, kinds := [], alts := [], laidByText := true, laidKinds := [.data, .data, .data, .data, .sentinel, .sentinel, .pinned], laidTests := true, laidLooks := .later }
def FnRecordsCardSaid : Prop := Claim7.holds Tryz.pinned (.plain (OpenSpec.ofChange fnRecordsSpec)) fnRecordsCard

/-- THE TIED CARD OF 'laws.FnBatches'. -/
def fnBatchesCard : Claim7 := { stood := { row := fnBatchesRow, standIns := [], harness := (true, "984ea58ff7aeb2d253f44f1ac3e2f615db5f26be5b18e5599badda073ad8409c"), looks := true }, kinds := [], alts := [], laidByText := true, laidKinds := [.data, .data, .data, .data, .sentinel, .sentinel, .pinned], laidTests := true, laidLooks := .later }
def FnBatchesCardSaid : Prop := Claim7.holds Tryz.pinned (.plain (OpenSpec.ofChange fnBatchesSpec)) fnBatchesCard

/-- THE SECOND FORM's CARD OF 'laws.FnExactParseOp'. -/
def fnExactParseOpUptoCard : Claim7 := { stood := { row := fnExactParseOpUptoRow, standIns := [], harness := (true, "984ea58ff7aeb2d253f44f1ac3e2f615db5f26be5b18e5599badda073ad8409c"), looks := true }, kinds := [], alts := [], laidByText := true, laidKinds := [.data, .data, .data, .data, .sentinel, .sentinel, .pinned], laidTests := true, laidLooks := .later }
def FnExactParseOpUptoCardSaid : Prop := Claim7.holds Tryz.pinned (.plain (OpenSpec.upto fnExactParseOpSpec)) fnExactParseOpUptoCard

/-- THE SECOND FORM's CARD OF 'laws.FnExactParseBatch'. -/
def fnExactParseBatchUptoCard : Claim7 := { stood := { row := fnExactParseBatchUptoRow, standIns := [], harness := (true, "984ea58ff7aeb2d253f44f1ac3e2f615db5f26be5b18e5599badda073ad8409c"), looks := true }, kinds := [], alts := [], laidByText := true, laidKinds := [.data, .data, .data, .data, .sentinel, .sentinel, .pinned], laidTests := true, laidLooks := .later }
def FnExactParseBatchUptoCardSaid : Prop := Claim7.holds Tryz.pinned (.plain (OpenSpec.upto fnExactParseBatchSpec)) fnExactParseBatchUptoCard

/-- THE SECOND FORM's CARD OF 'laws.FnExactDecodeEntry'. -/
def fnExactDecodeEntryUptoCard : Claim7 := { stood := { row := fnExactDecodeEntryUptoRow, standIns := [], harness := (true, "984ea58ff7aeb2d253f44f1ac3e2f615db5f26be5b18e5599badda073ad8409c"), looks := true }, kinds := [], alts := [], laidByText := true, laidKinds := [.data, .data, .data, .data, .sentinel, .sentinel, .pinned], laidTests := true, laidLooks := .later }
def FnExactDecodeEntryUptoCardSaid : Prop := Claim7.holds Tryz.pinned (.plain (OpenSpec.upto fnExactDecodeEntrySpec)) fnExactDecodeEntryUptoCard

/-- THE SECOND FORM's CARD OF 'laws.FnRecords'. -/
def fnRecordsUptoCard : Claim7 := { stood := { row := fnRecordsUptoRow, standIns := [], harness := (true, "984ea58ff7aeb2d253f44f1ac3e2f615db5f26be5b18e5599badda073ad8409c"), looks := true }, kinds := [], alts := [], laidByText := true, laidKinds := [.data, .data, .data, .data, .sentinel, .sentinel, .pinned], laidTests := true, laidLooks := .later }
def FnRecordsUptoCardSaid : Prop := Claim7.holds Tryz.pinned (.plain (OpenSpec.upto fnRecordsSpec)) fnRecordsUptoCard

/-- THE SECOND FORM's CARD OF 'laws.FnBatches'. -/
def fnBatchesUptoCard : Claim7 := { stood := { row := fnBatchesUptoRow, standIns := [], harness := (true, "984ea58ff7aeb2d253f44f1ac3e2f615db5f26be5b18e5599badda073ad8409c"), looks := true }, kinds := [], alts := [], laidByText := true, laidKinds := [.data, .data, .data, .data, .sentinel, .sentinel, .pinned], laidTests := true, laidLooks := .later }
def FnBatchesUptoCardSaid : Prop := Claim7.holds Tryz.pinned (.plain (OpenSpec.upto fnBatchesSpec)) fnBatchesUptoCard
end Rows
end Go.Proofs.YtfieimmlcopbhaaGreatDoor
