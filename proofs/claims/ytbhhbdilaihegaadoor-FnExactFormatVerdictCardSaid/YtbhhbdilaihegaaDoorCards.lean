/-
  DERIVED. GIVEN WITH THE SEED: THE CARDS: each row of YtbhhbdilaihegaaDoorRows.lean that lists a variable, with what it lists TIED to the program's text (the seventh form; the later family's looks); each row that meets fmt, with fmt's text TOLD by the authors' own Lean function (tested against real Go, not proved from fmt's source: count such statements apart). THE CARD IS WHAT COUNTS. Prove the row's statement (the work); the ties are given (YtbhhbdilaihegaaDoorTie.lean); close each card by the builder's one call (the guide's Derived/Test/ToyasCard.lean, 'card_holds'). Laid BY PROGRAM, IN A SANDBOX (cutbox-door.mjs). By AI agents, Wed Nov 11 2026. No macro, syntax, notation, axiom, sorry.
-/
import Derived.Test.YtbhhbdilaihegaaDoorRows
import GoSem.ClaimSeven
namespace Go.Proofs.YtbhhbdilaihegaaDoor
namespace Rows

/-- THE TIED CARD OF 'laws.FnExactFormatVerdict'. -/
def fnExactFormatVerdictCard : Claim7 := { stood := { row := fnExactFormatVerdictRow, standIns := [], harness := (true, "985c710507d077727f11b05f3fc1698c31f4c308cd2dbc8fc91d148e373042d6"), looks := false }, kinds := [], alts := [], laidByText := true, laidKinds := [.data, .data, .data], laidTests := true, laidLooks := .later }
def FnExactFormatVerdictCardSaid : Prop := Claim7.holds Tryd.pinned (.plain (OpenSpec.ofChange fnExactFormatVerdictSpec)) fnExactFormatVerdictCard

/-- THE SECOND FORM's CARD OF 'laws.FnExactFormatVerdict'. -/
def fnExactFormatVerdictUptoCard : Claim7 := { stood := { row := fnExactFormatVerdictUptoRow, standIns := [], harness := (true, "985c710507d077727f11b05f3fc1698c31f4c308cd2dbc8fc91d148e373042d6"), looks := false }, kinds := [], alts := [], laidByText := true, laidKinds := [.data, .data, .data], laidTests := true, laidLooks := .later }
def FnExactFormatVerdictUptoCardSaid : Prop := Claim7.holds Tryd.pinned (.plain (OpenSpec.upto fnExactFormatVerdictSpec)) fnExactFormatVerdictUptoCard
end Rows
end Go.Proofs.YtbhhbdilaihegaaDoor
