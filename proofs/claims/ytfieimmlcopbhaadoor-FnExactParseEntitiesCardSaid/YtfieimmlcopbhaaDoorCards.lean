/-
  DERIVED. GIVEN WITH THE SEED: THE CARDS: each row of YtfieimmlcopbhaaDoorRows.lean that lists a variable, with what it lists TIED to the program's text (the seventh form; the later family's looks); each row that meets fmt, with fmt's text TOLD by the authors' own Lean function (tested against real Go, not proved from fmt's source: count such statements apart). THE CARD IS WHAT COUNTS. Prove the row's statement (the work); the ties are given (YtfieimmlcopbhaaDoorTie.lean); close each card by the builder's one call (the guide's Derived/Test/ToyasCard.lean, 'card_holds'). Laid BY PROGRAM, IN A SANDBOX (cutbox-door.mjs). By AI agents, Wed Nov 11 2026. No macro, syntax, notation, axiom, sorry.
-/
import Derived.Test.YtfieimmlcopbhaaDoorRows
import GoSem.ClaimSeven
namespace Go.Proofs.YtfieimmlcopbhaaDoor
namespace Rows

/-- THE TIED CARD OF 'laws.FnExactFormatBatch'. -/
def fnExactFormatBatchCard : Claim7 := { stood := { row := fnExactFormatBatchRow, standIns := [], harness := (true, "7bcff48bf77f618e45b2318a25aa5b626cc0cfde8453010707f9fc9c4216b10e"), looks := true }, kinds := [], alts := [], laidByText := true, laidKinds := [.data, .data, .data], laidTests := true, laidLooks := .later }
def FnExactFormatBatchCardSaid : Prop := Claim7.holds Tryd.pinned (.plain (OpenSpec.ofChange fnExactFormatBatchSpec)) fnExactFormatBatchCard

/-- THE TIED CARD OF 'laws.FnExactEncodeEntry'. -/
def fnExactEncodeEntryCard : Claim7 := { stood := { row := fnExactEncodeEntryRow, standIns := [], harness := (true, "7bcff48bf77f618e45b2318a25aa5b626cc0cfde8453010707f9fc9c4216b10e"), looks := true }, kinds := [], alts := [], laidByText := true, laidKinds := [.data, .data, .data], laidTests := true, laidLooks := .later }
def FnExactEncodeEntryCardSaid : Prop := Claim7.holds Tryd.pinned (.plain (OpenSpec.ofChange fnExactEncodeEntrySpec)) fnExactEncodeEntryCard

/-- THE TIED CARD OF 'laws.FnExactParseVerdict'. -/
def fnExactParseVerdictCard : Claim7 := { stood := { row := fnExactParseVerdictRow, standIns := [], harness := (true, "7bcff48bf77f618e45b2318a25aa5b626cc0cfde8453010707f9fc9c4216b10e"), looks := true }, kinds := [], alts := [], laidByText := true, laidKinds := [.data, .data, .data, .sentinel, .sentinel], laidTests := true, laidLooks := .later }
def FnExactParseVerdictCardSaid : Prop := Claim7.holds Tryd.pinned (.plain (OpenSpec.ofChange fnExactParseVerdictSpec)) fnExactParseVerdictCard

/-- THE TIED CARD OF 'laws.FnExactParseEntities'. -/
def fnExactParseEntitiesCard : Claim7 := { stood := { row := fnExactParseEntitiesRow, standIns := [], harness := (true, "7bcff48bf77f618e45b2318a25aa5b626cc0cfde8453010707f9fc9c4216b10e"), looks := true }, kinds := [], alts := [], laidByText := true, laidKinds := [.data, .data, .data, .data, .sentinel, .sentinel, .pinned], laidTests := true, laidLooks := .later }
def FnExactParseEntitiesCardSaid : Prop := Claim7.holds Tryd.pinned (.plain (OpenSpec.ofChange fnExactParseEntitiesSpec)) fnExactParseEntitiesCard

/-- THE SECOND FORM's CARD OF 'laws.FnExactFormatBatch'. -/
def fnExactFormatBatchUptoCard : Claim7 := { stood := { row := fnExactFormatBatchUptoRow, standIns := [], harness := (true, "7bcff48bf77f618e45b2318a25aa5b626cc0cfde8453010707f9fc9c4216b10e"), looks := true }, kinds := [], alts := [], laidByText := true, laidKinds := [.data, .data, .data], laidTests := true, laidLooks := .later }
def FnExactFormatBatchUptoCardSaid : Prop := Claim7.holds Tryd.pinned (.plain (OpenSpec.upto fnExactFormatBatchSpec)) fnExactFormatBatchUptoCard

/-- THE SECOND FORM's CARD OF 'laws.FnExactEncodeEntry'. -/
def fnExactEncodeEntryUptoCard : Claim7 := { stood := { row := fnExactEncodeEntryUptoRow, standIns := [], harness := (true, "7bcff48bf77f618e45b2318a25aa5b626cc0cfde8453010707f9fc9c4216b10e"), looks := true }, kinds := [], alts := [], laidByText := true, laidKinds := [.data, .data, .data], laidTests := true, laidLooks := .later }
def FnExactEncodeEntryUptoCardSaid : Prop := Claim7.holds Tryd.pinned (.plain (OpenSpec.upto fnExactEncodeEntrySpec)) fnExactEncodeEntryUptoCard

/-- THE SECOND FORM's CARD OF 'laws.FnExactParseVerdict'. -/
def fnExactParseVerdictUptoCard : Claim7 := { stood := { row := fnExactParseVerdictUptoRow, standIns := [], harness := (true, "7bcff48bf77f618e45b2318a25aa5b626cc0cfde8453010707f9fc9c4216b10e"), looks := true }, kinds := [], alts := [], laidByText := true, laidKinds := [.data, .data, .data, .sentinel, .sentinel], laidTests := true, laidLooks := .later }
def FnExactParseVerdictUptoCardSaid : Prop := Claim7.holds Tryd.pinned (.plain (OpenSpec.upto fnExactParseVerdictSpec)) fnExactParseVerdictUptoCard

/-- THE SECOND FORM's CARD OF 'laws.FnExactParseEntities'. -/
def fnExactParseEntitiesUptoCard : Claim7 := { stood := { row := fnExactParseEntitiesUptoRow, standIns := [], harness := (true, "7bcff48bf77f618e45b2318a25aa5b626cc0cfde8453010707f9fc9c4216b10e"), looks := true }, kinds := [], alts := [], laidByText := true, laidKinds := [.data, .data, .data, .data, .sentinel, .sentinel, .pinned], laidTests := true, laidLooks := .later }
def FnExactParseEntitiesUptoCardSaid : Prop := Claim7.holds Tryd.pinned (.plain (OpenSpec.upto fnExactParseEntitiesSpec)) fnExactParseEntitiesUptoCard
end Rows
end Go.Proofs.YtfieimmlcopbhaaDoor
