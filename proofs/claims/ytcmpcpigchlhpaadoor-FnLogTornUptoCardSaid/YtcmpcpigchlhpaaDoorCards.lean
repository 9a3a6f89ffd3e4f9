/-
  DERIVED. GIVEN WITH THE SEED: THE CARDS: each row of YtcmpcpigchlhpaaDoorRows.lean that lists a variable, with what it lists TIED to the program's text (the seventh form; the later family's looks); each row that meets fmt, with fmt's text TOLD by the authors' own Lean function (tested against real Go, not proved from fmt's source: count such statements apart). THE CARD IS WHAT COUNTS. Prove the row's statement (the work); the ties are given (YtcmpcpigchlhpaaDoorTie.lean); close each card by the builder's one call (the guide's Derived/Test/ToyasCard.lean, 'card_holds'). Laid BY PROGRAM, IN A SANDBOX (cutbox-door.mjs). By AI agents, Wed Nov 11 2026. No macro, syntax, notation, axiom, sorry.
-/
import Derived.Test.YtcmpcpigchlhpaaDoorRows
import GoSem.ClaimSeven
namespace Go.Proofs.YtcmpcpigchlhpaaDoor
namespace Rows

/-- THE TIED CARD OF 'laws.FnLogCut'. -/
def fnLogCutCard : Claim7 := { stood := { row := fnLogCutRow, standIns := [], harness := (true, "aa65855170b62eb0afb226cd8042e881ec0f058a22e31c048588f0a950754dd9"), looks := true }, kinds := [], alts := [], laidByText := true, laidKinds := [.data, .data, .data, .sentinel, .sentinel, .data, .data], laidTests := true, laidLooks := .later }
def FnLogCutCardSaid : Prop := Claim7.holds Tryd.pinned (.plain (OpenSpec.ofChange fnLogCutSpec)) fnLogCutCard

/-- THE TIED CARD OF 'laws.FnLogAdd'. -/
def fnLogAddCard : Claim7 := { stood := { row := fnLogAddRow, standIns := [], harness := (true, "aa65855170b62eb0afb226cd8042e881ec0f058a22e31c048588f0a950754dd9"), looks := true }, kinds := [], alts := [], laidByText := true, laidKinds := [.data, .data, .data, .sentinel, .sentinel, .data, .data], laidTests := true, laidLooks := .later }
def FnLogAddCardSaid : Prop := Claim7.holds Tryd.pinned (.plain (OpenSpec.ofChange fnLogAddSpec)) fnLogAddCard

/-- THE TIED CARD OF 'laws.FnLogTorn'. -/
def fnLogTornCard : Claim7 := { stood := { row := fnLogTornRow, standIns := [], harness := (true, "aa65855170b62eb0afb226cd8042e881ec0f058a22e31c048588f0a950754dd9"), looks := true }, kinds := [], alts := [], laidByText := true, laidKinds := [.data, .data, .data, .sentinel, .sentinel, .data, .data], laidTests := true, laidLooks := .later }
def FnLogTornCardSaid : Prop := Claim7.holds Tryd.pinned (.plain (OpenSpec.ofChange fnLogTornSpec)) fnLogTornCard

/-- THE SECOND FORM's CARD OF 'laws.FnLogCut'. -/
def fnLogCutUptoCard : Claim7 := { stood := { row := fnLogCutUptoRow, standIns := [], harness := (true, "aa65855170b62eb0afb226cd8042e881ec0f058a22e31c048588f0a950754dd9"), looks := true }, kinds := [], alts := [], laidByText := true, laidKinds := [.data, .data, .data, .sentinel, .sentinel, .data, .data], laidTests := true, laidLooks := .later }
def FnLogCutUptoCardSaid : Prop := Claim7.holds Tryd.pinned (.plain (OpenSpec.upto fnLogCutSpec)) fnLogCutUptoCard

/-- THE SECOND FORM's CARD OF 'laws.FnLogAdd'. -/
def fnLogAddUptoCard : Claim7 := { stood := { row := fnLogAddUptoRow, standIns := [], harness := (true, "aa65855170b62eb0afb226cd8042e881ec0f058a22e31c048588f0a950754dd9"), looks := true }, kinds := [], alts := [], laidByText := true, laidKinds := [.data, .data, .data, .sentinel, .sentinel, .data, .data], laidTests := true, laidLooks := .later }
def FnLogAddUptoCardSaid : Prop := Claim7.holds Tryd.pinned (.plain (OpenSpec.upto fnLogAddSpec)) fnLogAddUptoCard

/-- THE SECOND FORM's CARD OF 'laws.FnLogTorn'. -/
def fnLogTornUptoCard : Claim7 := { stood := { row := fnLogTornUptoRow, standIns := [], harness := (true, "aa65855170b62eb0afb226cd8042e881ec0f058a22e31c048588f0a950754dd9"), looks := true }, kinds := [], alts := [], laidByText := true, laidKinds := [.data, .data, .data, .sentinel, .sentinel, .data, .data], laidTests := true, laidLooks := .later }
def FnLogTornUptoCardSaid : Prop := Claim7.holds Tryd.pinned (.plain (OpenSpec.upto fnLogTornSpec)) fnLogTornUptoCard
end Rows
end Go.Proofs.YtcmpcpigchlhpaaDoor
