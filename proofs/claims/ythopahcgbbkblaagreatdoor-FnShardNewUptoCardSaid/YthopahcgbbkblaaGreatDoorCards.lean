/-
  DERIVED. GIVEN WITH THE SEED: THE CARDS: each row of YthopahcgbbkblaaGreatDoorRows.lean that lists a variable, with what it lists TIED to the program's text (the seventh form; the later family's looks); each row that meets fmt, with fmt's text TOLD by the authors' own Lean function (tested against real Go, not proved from fmt's source: count such statements apart). THE CARD IS WHAT COUNTS. Prove the row's statement (the work); the ties are given (YthopahcgbbkblaaGreatDoorTie.lean); close each card by the builder's one call (the guide's Derived/Test/ToyasCard.lean, 'card_holds'). Laid BY PROGRAM, IN A SANDBOX (cutbox-door.mjs). By AI agents, Wed Nov 11 2026. No macro, syntax, notation, axiom, sorry.
-/
import Derived.Test.YthopahcgbbkblaaGreatDoorRows
import GoSem.ClaimSeven
namespace Go.Proofs.YthopahcgbbkblaaGreatDoor
namespace Rows

/-- THE TIED CARD OF 'laws.FnShardNew'. -/
def fnShardNewCard : Claim7 := { stood := { row := fnShardNewRow, standIns := [], harness := (true, "7442048ce97c2b4b688e412bf8b0ee136dc0466b5a7cd63bbf84806c2c55e0b6"), looks := true }, kinds := [], alts := [], laidByText := true, laidKinds := [.data, .data, .data, .data, .sentinel, .sentinel, .data, .data, .pinned], laidTests := true, laidLooks := .later }
def FnShardNewCardSaid : Prop := Claim7.holds Tryz.pinned (.plain (OpenSpec.ofChange fnShardNewSpec)) fnShardNewCard

/-- THE SECOND FORM's CARD OF 'laws.FnShardNew'. -/
def fnShardNewUptoCard : Claim7 := { stood := { row := fnShardNewUptoRow, standIns := [], harness := (true, "7442048ce97c2b4b688e412bf8b0ee136dc0466b5a7cd63bbf84806c2c55e0b6"), looks := true }, kinds := [], alts := [], laidByText := true, laidKinds := [.data, .data, .data, .data, .sentinel, .sentinel, .data, .data, .pinned], laidTests := true, laidLooks := .later }
def FnShardNewUptoCardSaid : Prop := Claim7.holds Tryz.pinned (.plain (OpenSpec.upto fnShardNewSpec)) fnShardNewUptoCard
end Rows
end Go.Proofs.YthopahcgbbkblaaGreatDoor
