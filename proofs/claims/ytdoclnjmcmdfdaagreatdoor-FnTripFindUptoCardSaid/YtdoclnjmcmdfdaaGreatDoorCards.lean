/-
  DERIVED. GIVEN WITH THE SEED: THE CARDS: each row of YtdoclnjmcmdfdaaGreatDoorRows.lean that lists a variable, with what it lists TIED to the program's text (the seventh form; the later family's looks); each row that meets fmt, with fmt's text TOLD by the authors' own Lean function (tested against real Go, not proved from fmt's source: count such statements apart). THE CARD IS WHAT COUNTS. Prove the row's statement (the work); the ties are given (YtdoclnjmcmdfdaaGreatDoorTie.lean); close each card by the builder's one call (the guide's Derived/Test/ToyasCard.lean, 'card_holds'). Laid BY PROGRAM, IN A SANDBOX (cutbox-door.mjs). By AI agents, Wed Nov 11 2026. No macro, syntax, notation, axiom, sorry.
-/
import Derived.Test.YtdoclnjmcmdfdaaGreatDoorRows
import GoSem.ClaimSeven
namespace Go.Proofs.YtdoclnjmcmdfdaaGreatDoor
namespace Rows

/-- THE TIED CARD OF 'laws.FnTripFind'. -/
def fnTripFindCard : Claim7 := { stood := { row := fnTripFindRow, standIns := [], harness := (true, "56e2124d04f31a67a13d3d09fc4184414f649b7b29658e73fb8b1b541d2e3a57"), looks := true }, kinds := [], alts := [], laidByText := true, laidKinds := [.data, .data, .data, .data, .sentinel, .sentinel, .pinned], laidTests := true, laidLooks := .later }
def FnTripFindCardSaid : Prop := Claim7.holds Tryz.pinned (.plain (OpenSpec.ofChange fnTripFindSpec)) fnTripFindCard

/-- THE TIED CARD OF 'laws.FnLegText'. -/
def fnLegTextCard : Claim7 := { stood := { row := fnLegTextRow, standIns := [], harness := (true, "56e2124d04f31a67a13d3d09fc4184414f649b7b29658e73fb8b1b541d2e3a57"), looks := true }, kinds := [], alts := [], laidByText := true, laidKinds := [.data, .data, .data, .data, .sentinel, .sentinel, .pinned], laidTests := true, laidLooks := .later }
def FnLegTextCardSaid : Prop := Claim7.holds Tryz.pinned (.plain (OpenSpec.ofChange fnLegTextSpec)) fnLegTextCard

/-- THE SECOND FORM's CARD OF 'laws.FnTripFind'. -/
def fnTripFindUptoCard : Claim7 := { stood := { row := fnTripFindUptoRow, standIns := [], harness := (true, "56e2124d04f31a67a13d3d09fc4184414f649b7b29658e73fb8b1b541d2e3a57"), looks := true }, kinds := [], alts := [], laidByText := true, laidKinds := [.data, .data, .data, .data, .sentinel, .sentinel, .pinned], laidTests := true, laidLooks := .later }
def FnTripFindUptoCardSaid : Prop := Claim7.holds Tryz.pinned (.plain (OpenSpec.upto fnTripFindSpec)) fnTripFindUptoCard

/-- THE SECOND FORM's CARD OF 'laws.FnLegText'. -/
def fnLegTextUptoCard : Claim7 := { stood := { row := fnLegTextUptoRow, standIns := [], harness := (true, "56e2124d04f31a67a13d3d09fc4184414f649b7b29658e73fb8b1b541d2e3a57"), looks := true }, kinds := [], alts := [], laidByText := true, laidKinds := [.data, .data, .data, .data, .sentinel, .sentinel, .pinned], laidTests := true, laidLooks := .later }
def FnLegTextUptoCardSaid : Prop := Claim7.holds Tryz.pinned (.plain (OpenSpec.upto fnLegTextSpec)) fnLegTextUptoCard
end Rows
end Go.Proofs.YtdoclnjmcmdfdaaGreatDoor
