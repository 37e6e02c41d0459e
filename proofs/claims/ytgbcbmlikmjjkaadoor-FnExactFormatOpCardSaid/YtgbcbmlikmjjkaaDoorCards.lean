/-
  DERIVED. GIVEN WITH THE SEED: THE CARDS: each row of YtgbcbmlikmjjkaaDoorRows.lean that lists a variable, with what it lists TIED to the program's text (the seventh form; the later family's looks); each row that meets fmt, with fmt's text TOLD by the authors' own Lean function (tested against real Go, not proved from fmt's source: count such statements apart). THE CARD IS WHAT COUNTS. Prove the row's statement (the work); the ties are given (YtgbcbmlikmjjkaaDoorTie.lean); close each card by the builder's one call (the guide's Derived/Test/ToyasCard.lean, 'card_holds'). Laid BY PROGRAM, IN A SANDBOX (cutbox-door.mjs). By AI agents, Wed Nov 11 2026. No macro, syntax, notation, axiom, sorry.
-/
import Derived.Test.YtgbcbmlikmjjkaaDoorRows
import GoSem.ClaimSeven
namespace Go.Proofs.YtgbcbmlikmjjkaaDoor
namespace Rows

/-- THE TIED CARD OF 'laws.FnExactFormatEntities'. -/
def fnExactFormatEntitiesCard : Claim7 := { stood := { row := fnExactFormatEntitiesRow, standIns := [], harness := (true, "93f054be2a8f08d96eb217d285ad4006b65d8f1f7056a4a866cd636a9a240253"), looks := false }, kinds := [], alts := [], laidByText := true, laidKinds := [.data, .data, .data], laidTests := true, laidLooks := .later }
def FnExactFormatEntitiesCardSaid : Prop := Claim7.holds Tryd.pinned (.plain (OpenSpec.ofChange fnExactFormatEntitiesSpec)) fnExactFormatEntitiesCard

/-- THE TIED CARD OF 'laws.FnExactFormatOp'. -/
def fnExactFormatOpCard : Claim7 := { stood := { row := fnExactFormatOpRow, standIns := [], harness := (true, "93f054be2a8f08d96eb217d285ad4006b65d8f1f7056a4a866cd636a9a240253"), looks := false }, kinds := [], alts := [], laidByText := true, laidKinds := [.data, .data, .data], laidTests := true, laidLooks := .later }
def FnExactFormatOpCardSaid : Prop := Claim7.holds Tryd.pinned (.plain (OpenSpec.ofChange fnExactFormatOpSpec)) fnExactFormatOpCard

/-- THE TIED CARD OF 'laws.FnExactFormatBatch'. -/
def fnExactFormatBatchCard : Claim7 := { stood := { row := fnExactFormatBatchRow, standIns := [], harness := (true, "93f054be2a8f08d96eb217d285ad4006b65d8f1f7056a4a866cd636a9a240253"), looks := false }, kinds := [], alts := [], laidByText := true, laidKinds := [.data, .data, .data], laidTests := true, laidLooks := .later }
def FnExactFormatBatchCardSaid : Prop := Claim7.holds Tryd.pinned (.plain (OpenSpec.ofChange fnExactFormatBatchSpec)) fnExactFormatBatchCard

/-- THE TIED CARD OF 'laws.FnExactEncodeEntry'. -/
def fnExactEncodeEntryCard : Claim7 := { stood := { row := fnExactEncodeEntryRow, standIns := [], harness := (true, "93f054be2a8f08d96eb217d285ad4006b65d8f1f7056a4a866cd636a9a240253"), looks := false }, kinds := [], alts := [], laidByText := true, laidKinds := [.data, .data, .data], laidTests := true, laidLooks := .later }
def FnExactEncodeEntryCardSaid : Prop := Claim7.holds Tryd.pinned (.plain (OpenSpec.ofChange fnExactEncodeEntrySpec)) fnExactEncodeEntryCard

/-- THE TIED CARD OF 'laws.FnExactFieldSource'. -/
def fnExactFieldSourceCard : Claim7 := { stood := { row := fnExactFieldSourceRow, standIns := [], harness := (true, "93f054be2a8f08d96eb217d285ad4006b65d8f1f7056a4a866cd636a9a240253"), looks := false }, kinds := [], alts := [], laidByText := true, laidKinds := [.data, .data, .data], laidTests := true, laidLooks := .later }
def FnExactFieldSourceCardSaid : Prop := Claim7.holds Tryd.pinned (.plain (OpenSpec.ofChange fnExactFieldSourceSpec)) fnExactFieldSourceCard

/-- THE TIED CARD OF 'laws.FnExactFieldSupport'. -/
def fnExactFieldSupportCard : Claim7 := { stood := { row := fnExactFieldSupportRow, standIns := [], harness := (true, "93f054be2a8f08d96eb217d285ad4006b65d8f1f7056a4a866cd636a9a240253"), looks := false }, kinds := [], alts := [], laidByText := true, laidKinds := [.data, .pinned], laidTests := true, laidLooks := .later }
def FnExactFieldSupportCardSaid : Prop := Claim7.holds Tryd.pinned (.plain (OpenSpec.ofChange fnExactFieldSupportSpec)) fnExactFieldSupportCard

/-- THE TIED CARD OF 'laws.FnExactIsUnanimous'. -/
def fnExactIsUnanimousCard : Claim7 := { stood := { row := fnExactIsUnanimousRow, standIns := [], harness := (true, "93f054be2a8f08d96eb217d285ad4006b65d8f1f7056a4a866cd636a9a240253"), looks := false }, kinds := [], alts := [], laidByText := true, laidKinds := [.data, .pinned], laidTests := true, laidLooks := .later }
def FnExactIsUnanimousCardSaid : Prop := Claim7.holds Tryd.pinned (.plain (OpenSpec.ofChange fnExactIsUnanimousSpec)) fnExactIsUnanimousCard

/-- THE TIED CARD OF 'laws.FnExactGoldenField'. -/
def fnExactGoldenFieldCard : Claim7 := { stood := { row := fnExactGoldenFieldRow, standIns := [], harness := (true, "93f054be2a8f08d96eb217d285ad4006b65d8f1f7056a4a866cd636a9a240253"), looks := false }, kinds := [], alts := [], laidByText := true, laidKinds := [.data, .pinned], laidTests := true, laidLooks := .later }
def FnExactGoldenFieldCardSaid : Prop := Claim7.holds Tryd.pinned (.plain (OpenSpec.ofChange fnExactGoldenFieldSpec)) fnExactGoldenFieldCard

/-- THE TIED CARD OF 'laws.FnExactGoldenRecord'. -/
def fnExactGoldenRecordCard : Claim7 := { stood := { row := fnExactGoldenRecordRow, standIns := [], harness := (true, "93f054be2a8f08d96eb217d285ad4006b65d8f1f7056a4a866cd636a9a240253"), looks := false }, kinds := [], alts := [], laidByText := true, laidKinds := [.data, .pinned], laidTests := true, laidLooks := .later }
def FnExactGoldenRecordCardSaid : Prop := Claim7.holds Tryd.pinned (.plain (OpenSpec.ofChange fnExactGoldenRecordSpec)) fnExactGoldenRecordCard

/-- THE SECOND FORM's CARD OF 'laws.FnExactFormatEntities'. -/
def fnExactFormatEntitiesUptoCard : Claim7 := { stood := { row := fnExactFormatEntitiesUptoRow, standIns := [], harness := (true, "93f054be2a8f08d96eb217d285ad4006b65d8f1f7056a4a866cd636a9a240253"), looks := false }, kinds := [], alts := [], laidByText := true, laidKinds := [.data, .data, .data], laidTests := true, laidLooks := .later }
def FnExactFormatEntitiesUptoCardSaid : Prop := Claim7.holds Tryd.pinned (.plain (OpenSpec.upto fnExactFormatEntitiesSpec)) fnExactFormatEntitiesUptoCard

/-- THE SECOND FORM's CARD OF 'laws.FnExactFormatOp'. -/
def fnExactFormatOpUptoCard : Claim7 := { stood := { row := fnExactFormatOpUptoRow, standIns := [], harness := (true, "93f054be2a8f08d96eb217d285ad4006b65d8f1f7056a4a866cd636a9a240253"), looks := false }, kinds := [], alts := [], laidByText := true, laidKinds := [.data, .data, .data], laidTests := true, laidLooks := .later }
def FnExactFormatOpUptoCardSaid : Prop := Claim7.holds Tryd.pinned (.plain (OpenSpec.upto fnExactFormatOpSpec)) fnExactFormatOpUptoCard

/-- THE SECOND FORM's CARD OF 'laws.FnExactFormatBatch'. -/
def fnExactFormatBatchUptoCard : Claim7 := { stood := { row := fnExactFormatBatchUptoRow, standIns := [], harness := (true, "93f054be2a8f08d96eb217d285ad4006b65d8f1f7056a4a866cd636a9a240253"), looks := false }, kinds := [], alts := [], laidByText := true, laidKinds := [.data, .data, .data], laidTests := true, laidLooks := .later }
def FnExactFormatBatchUptoCardSaid : Prop := Claim7.holds Tryd.pinned (.plain (OpenSpec.upto fnExactFormatBatchSpec)) fnExactFormatBatchUptoCard

/-- THE SECOND FORM's CARD OF 'laws.FnExactEncodeEntry'. -/
def fnExactEncodeEntryUptoCard : Claim7 := { stood := { row := fnExactEncodeEntryUptoRow, standIns := [], harness := (true, "93f054be2a8f08d96eb217d285ad4006b65d8f1f7056a4a866cd636a9a240253"), looks := false }, kinds := [], alts := [], laidByText := true, laidKinds := [.data, .data, .data], laidTests := true, laidLooks := .later }
def FnExactEncodeEntryUptoCardSaid : Prop := Claim7.holds Tryd.pinned (.plain (OpenSpec.upto fnExactEncodeEntrySpec)) fnExactEncodeEntryUptoCard

/-- THE SECOND FORM's CARD OF 'laws.FnExactFieldSource'. -/
def fnExactFieldSourceUptoCard : Claim7 := { stood := { row := fnExactFieldSourceUptoRow, standIns := [], harness := (true, "93f054be2a8f08d96eb217d285ad4006b65d8f1f7056a4a866cd636a9a240253"), looks := false }, kinds := [], alts := [], laidByText := true, laidKinds := [.data, .data, .data], laidTests := true, laidLooks := .later }
def FnExactFieldSourceUptoCardSaid : Prop := Claim7.holds Tryd.pinned (.plain (OpenSpec.upto fnExactFieldSourceSpec)) fnExactFieldSourceUptoCard

/-- THE SECOND FORM's CARD OF 'laws.FnExactFieldSupport'. -/
def fnExactFieldSupportUptoCard : Claim7 := { stood := { row := fnExactFieldSupportUptoRow, standIns := [], harness := (true, "93f054be2a8f08d96eb217d285ad4006b65d8f1f7056a4a866cd636a9a240253"), looks := false }, kinds := [], alts := [], laidByText := true, laidKinds := [.data, .pinned], laidTests := true, laidLooks := .later }
def FnExactFieldSupportUptoCardSaid : Prop := Claim7.holds Tryd.pinned (.plain (OpenSpec.upto fnExactFieldSupportSpec)) fnExactFieldSupportUptoCard

/-- THE SECOND FORM's CARD OF 'laws.FnExactIsUnanimous'. -/
def fnExactIsUnanimousUptoCard : Claim7 := { stood := { row := fnExactIsUnanimousUptoRow, standIns := [], harness := (true, "93f054be2a8f08d96eb217d285ad4006b65d8f1f7056a4a866cd636a9a240253"), looks := false }, kinds := [], alts := [], laidByText := true, laidKinds := [.data, .pinned], laidTests := true, laidLooks := .later }
def FnExactIsUnanimousUptoCardSaid : Prop := Claim7.holds Tryd.pinned (.plain (OpenSpec.upto fnExactIsUnanimousSpec)) fnExactIsUnanimousUptoCard

/-- THE SECOND FORM's CARD OF 'laws.FnExactGoldenField'. -/
def fnExactGoldenFieldUptoCard : Claim7 := { stood := { row := fnExactGoldenFieldUptoRow, standIns := [], harness := (true, "93f054be2a8f08d96eb217d285ad4006b65d8f1f7056a4a866cd636a9a240253"), looks := false }, kinds := [], alts := [], laidByText := true, laidKinds := [.data, .pinned], laidTests := true, laidLooks := .later }
def FnExactGoldenFieldUptoCardSaid : Prop := Claim7.holds Tryd.pinned (.plain (OpenSpec.upto fnExactGoldenFieldSpec)) fnExactGoldenFieldUptoCard

/-- THE SECOND FORM's CARD OF 'laws.FnExactGoldenRecord'. -/
def fnExactGoldenRecordUptoCard : Claim7 := { stood := { row := fnExactGoldenRecordUptoRow, standIns := [], harness := (true, "93f054be2a8f08d96eb217d285ad4006b65d8f1f7056a4a866cd636a9a240253"), looks := false }, kinds := [], alts := [], laidByText := true, laidKinds := [.data, .pinned], laidTests := true, laidLooks := .later }
def FnExactGoldenRecordUptoCardSaid : Prop := Claim7.holds Tryd.pinned (.plain (OpenSpec.upto fnExactGoldenRecordSpec)) fnExactGoldenRecordUptoCard
end Rows
end Go.Proofs.YtgbcbmlikmjjkaaDoor
