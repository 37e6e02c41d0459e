/-
  DERIVED. GIVEN WITH THE SEED: THE CARDS: each row of YtddjefbdekinbaaGreatDoorRows.lean that lists a variable, with what it lists TIED to the program's text (the seventh form; the later family's looks); each row that meets fmt, with fmt's text TOLD by the authors' own Lean function (tested against real Go, not proved from fmt's source: count such statements apart). THE CARD IS WHAT COUNTS. Prove the row's statement (the work); the ties are given (YtddjefbdekinbaaGreatDoorTie.lean); close each card by the builder's one call (the guide's Derived/Test/ToyasCard.lean, 'card_holds'). Laid BY PROGRAM, IN A SANDBOX (cutbox-door.mjs). By AI agents, Wed Nov 11 2026. No macro, syntax, notation, axiom, sorry.
-/
import Derived.Test.YtddjefbdekinbaaGreatDoorRows
import GoSem.ClaimSeven
namespace Go.Proofs.YtddjefbdekinbaaGreatDoor
namespace Rows

/-- THE TIED CARD OF 'laws.FnGolden'. -/
def fnGoldenCard : Claim7 := { stood := { row := fnGoldenRow, standIns := [], harness := (true, "4f6e3d45226b33869841f0181ec209e3737e98ea4f31c0f2adc5aa7b37c8004b"), looks := false }, kinds := [], alts := [], laidByText := true, laidKinds := [.data, .data, .data, .data, .pinned], laidTests := true, laidLooks := .later }
def FnGoldenCardSaid : Prop := Claim7.holds Tryz.pinned (.plain (OpenSpec.ofChange fnGoldenSpec)) fnGoldenCard

/-- THE SECOND FORM's CARD OF 'laws.FnGolden'. -/
def fnGoldenUptoCard : Claim7 := { stood := { row := fnGoldenUptoRow, standIns := [], harness := (true, "4f6e3d45226b33869841f0181ec209e3737e98ea4f31c0f2adc5aa7b37c8004b"), looks := false }, kinds := [], alts := [], laidByText := true, laidKinds := [.data, .data, .data, .data, .pinned], laidTests := true, laidLooks := .later }
def FnGoldenUptoCardSaid : Prop := Claim7.holds Tryz.pinned (.plain (OpenSpec.upto fnGoldenSpec)) fnGoldenUptoCard
end Rows
end Go.Proofs.YtddjefbdekinbaaGreatDoor
