/-
  DERIVED. GIVEN WITH THE SEED: THE CARDS: each row of YtdoclnjmcmdfdaaDoorRows.lean that lists a variable, with what it lists TIED to the program's text (the seventh form; the later family's looks); each row that meets fmt, with fmt's text TOLD by the authors' own Lean function (tested against real Go, not proved from fmt's source: count such statements apart). THE CARD IS WHAT COUNTS. Prove the row's statement (the work); the ties are given (YtdoclnjmcmdfdaaDoorTie.lean); close each card by the builder's one call (the guide's Derived/Test/ToyasCard.lean, 'card_holds'). Laid BY PROGRAM, IN A SANDBOX (cutbox-door.mjs). By AI agents, Wed Nov 11 2026. No macro, syntax, notation, axiom, sorry.
-/
import Derived.Test.YtdoclnjmcmdfdaaDoorRows
import GoSem.ClaimSeven
namespace Go.Proofs.YtdoclnjmcmdfdaaDoor
namespace Rows

/-- THE TIED CARD OF 'laws.FnExactLogOk'. -/
def fnExactLogOkCard : Claim7 := { stood := { row := fnExactLogOkRow, standIns := [], harness := (true, "364a16968030c13e16bb65681ad24ad78d0c7f4ae9f016a9280936af4987eefa"), looks := true }, kinds := [], alts := [], laidByText := true, laidKinds := [.data, .data, .data, .sentinel, .sentinel, .data, .data], laidTests := true, laidLooks := .later }
def FnExactLogOkCardSaid : Prop := Claim7.holds Tryd.pinned (.plain (OpenSpec.ofChange fnExactLogOkSpec)) fnExactLogOkCard

/-- THE TIED CARD OF 'laws.FnExactLogAdd'. -/
def fnExactLogAddCard : Claim7 := { stood := { row := fnExactLogAddRow, standIns := [], harness := (true, "364a16968030c13e16bb65681ad24ad78d0c7f4ae9f016a9280936af4987eefa"), looks := true }, kinds := [], alts := [], laidByText := true, laidKinds := [.data, .data, .data, .sentinel, .sentinel, .data, .data], laidTests := true, laidLooks := .later }
def FnExactLogAddCardSaid : Prop := Claim7.holds Tryd.pinned (.plain (OpenSpec.ofChange fnExactLogAddSpec)) fnExactLogAddCard

/-- THE TIED CARD OF 'laws.FnOpsText'. -/
def fnOpsTextCard : Claim7 := { stood := { row := fnOpsTextRow, standIns := [], harness := (true, "364a16968030c13e16bb65681ad24ad78d0c7f4ae9f016a9280936af4987eefa"), looks := true }, kinds := [], alts := [], laidByText := true, laidKinds := [.data, .data, .data, .data, .sentinel, .sentinel, .pinned], laidTests := true, laidLooks := .later }
def FnOpsTextCardSaid : Prop := Claim7.holds Tryd.pinned (.plain (OpenSpec.ofChange fnOpsTextSpec)) fnOpsTextCard

/-- THE TIED CARD OF 'laws.FnExactLogRead'. -/
def fnExactLogReadCard : Claim7 := { stood := { row := fnExactLogReadRow, standIns := [], harness := (true, "364a16968030c13e16bb65681ad24ad78d0c7f4ae9f016a9280936af4987eefa"), looks := true }, kinds := [], alts := [], laidByText := true, laidKinds := [.data, .data, .data, .sentinel, .sentinel, .data, .data], laidTests := true, laidLooks := .later }
def FnExactLogReadCardSaid : Prop := Claim7.holds Tryd.pinned (.plain (OpenSpec.ofChange fnExactLogReadSpec)) fnExactLogReadCard

/-- THE TIED CARD OF 'laws.FnLogCut'. -/
def fnLogCutCard : Claim7 := { stood := { row := fnLogCutRow, standIns := [], harness := (true, "364a16968030c13e16bb65681ad24ad78d0c7f4ae9f016a9280936af4987eefa"), looks := true }, kinds := [], alts := [], laidByText := true, laidKinds := [.data, .data, .data, .sentinel, .sentinel, .data, .data], laidTests := true, laidLooks := .later }
def FnLogCutCardSaid : Prop := Claim7.holds Tryd.pinned (.plain (OpenSpec.ofChange fnLogCutSpec)) fnLogCutCard

/-- THE TIED CARD OF 'laws.FnLogAdd'. -/
def fnLogAddCard : Claim7 := { stood := { row := fnLogAddRow, standIns := [], harness := (true, "364a16968030c13e16bb65681ad24ad78d0c7f4ae9f016a9280936af4987eefa"), looks := true }, kinds := [], alts := [], laidByText := true, laidKinds := [.data, .data, .data, .sentinel, .sentinel, .data, .data], laidTests := true, laidLooks := .later }
def FnLogAddCardSaid : Prop := Claim7.holds Tryd.pinned (.plain (OpenSpec.ofChange fnLogAddSpec)) fnLogAddCard

/-- THE TIED CARD OF 'laws.FnLogTorn'. -/
def fnLogTornCard : Claim7 := { stood := { row := fnLogTornRow, standIns := [], harness := (true, "364a16968030c13e16bb65681ad24ad78d0c7f4ae9f016a9280936af4987eefa"), looks := true }, kinds := [], alts := [], laidByText := true, laidKinds := [.data, .data, .data, .sentinel, .sentinel, .data, .data], laidTests := true, laidLooks := .later }
def FnLogTornCardSaid : Prop := Claim7.holds Tryd.pinned (.plain (OpenSpec.ofChange fnLogTornSpec)) fnLogTornCard

/-- THE SECOND FORM's CARD OF 'laws.FnExactLogOk'. -/
def fnExactLogOkUptoCard : Claim7 := { stood := { row := fnExactLogOkUptoRow, standIns := [], harness := (true, "364a16968030c13e16bb65681ad24ad78d0c7f4ae9f016a9280936af4987eefa"), looks := true }, kinds := [], alts := [], laidByText := true, laidKinds := [.data, .data, .data, .sentinel, .sentinel, .data, .data], laidTests := true, laidLooks := .later }
def FnExactLogOkUptoCardSaid : Prop := Claim7.holds Tryd.pinned (.plain (OpenSpec.upto fnExactLogOkSpec)) fnExactLogOkUptoCard

/-- THE SECOND FORM's CARD OF 'laws.FnExactLogAdd'. -/
def fnExactLogAddUptoCard : Claim7 := { stood := { row := fnExactLogAddUptoRow, standIns := [], harness := (true, "364a16968030c13e16bb65681ad24ad78d0c7f4ae9f016a9280936af4987eefa"), looks := true }, kinds := [], alts := [], laidByText := true, laidKinds := [.data, .data, .data, .sentinel, .sentinel, .data, .data], laidTests := true, laidLooks := .later }
def FnExactLogAddUptoCardSaid : Prop := Claim7.holds Tryd.pinned (.plain (OpenSpec.upto fnExactLogAddSpec)) fnExactLogAddUptoCard

/-- THE SECOND FORM's CARD OF 'laws.FnOpsText'. -/
def fnOpsTextUptoCard : Claim7 := { stood := { row := fnOpsTextUptoRow, standIns := [], harness := (true, "364a16968030c13e16bb65681ad24ad78d0c7f4ae9f016a9280936af4987eefa"), looks := true }, kinds := [], alts := [], laidByText := true, laidKinds := [.data, .data, .data, .data, .sentinel, .sentinel, .pinned], laidTests := true, laidLooks := .later }
def FnOpsTextUptoCardSaid : Prop := Claim7.holds Tryd.pinned (.plain (OpenSpec.upto fnOpsTextSpec)) fnOpsTextUptoCard

/-- THE SECOND FORM's CARD OF 'laws.FnExactLogRead'. -/
def fnExactLogReadUptoCard : Claim7 := { stood := { row := fnExactLogReadUptoRow, standIns := [], harness := (true, "364a16968030c13e16bb65681ad24ad78d0c7f4ae9f016a9280936af4987eefa"), looks := true }, kinds := [], alts := [], laidByText := true, laidKinds := [.data, .data, .data, .sentinel, .sentinel, .data, .data], laidTests := true, laidLooks := .later }
def FnExactLogReadUptoCardSaid : Prop := Claim7.holds Tryd.pinned (.plain (OpenSpec.upto fnExactLogReadSpec)) fnExactLogReadUptoCard

/-- THE SECOND FORM's CARD OF 'laws.FnLogCut'. -/
def fnLogCutUptoCard : Claim7 := { stood := { row := fnLogCutUptoRow, standIns := [], harness := (true, "364a16968030c13e16bb65681ad24ad78d0c7f4ae9f016a9280936af4987eefa"), looks := true }, kinds := [], alts := [], laidByText := true, laidKinds := [.data, .data, .data, .sentinel, .sentinel, .data, .data], laidTests := true, laidLooks := .later }
def FnLogCutUptoCardSaid : Prop := Claim7.holds Tryd.pinned (.plain (OpenSpec.upto fnLogCutSpec)) fnLogCutUptoCard

/-- THE SECOND FORM's CARD OF 'laws.FnLogAdd'. -/
def fnLogAddUptoCard : Claim7 := { stood := { row := fnLogAddUptoRow, standIns := [], harness := (true, "364a16968030c13e16bb65681ad24ad78d0c7f4ae9f016a9280936af4987eefa"), looks := true }, kinds := [], alts := [], laidByText := true, laidKinds := [.data, .data, .data, .sentinel, .sentinel, .data, .data], laidTests := true, laidLooks := .later }
def FnLogAddUptoCardSaid : Prop := Claim7.holds Tryd.pinned (.plain (OpenSpec.upto fnLogAddSpec)) fnLogAddUptoCard

/-- THE SECOND FORM's CARD OF 'laws.FnLogTorn'. -/
def fnLogTornUptoCard : Claim7 := { stood := { row := fnLogTornUptoRow, standIns := [], harness := (true, "364a16968030c13e16bb65681ad24ad78d0c7f4ae9f016a9280936af4987eefa"), looks := true }, kinds := [], alts := [], laidByText := true, laidKinds := [.data, .data, .data, .sentinel, .sentinel, .data, .data], laidTests := true, laidLooks := .later }
def FnLogTornUptoCardSaid : Prop := Claim7.holds Tryd.pinned (.plain (OpenSpec.upto fnLogTornSpec)) fnLogTornUptoCard
end Rows
end Go.Proofs.YtdoclnjmcmdfdaaDoor
