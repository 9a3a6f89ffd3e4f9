/-
  No cell of these rows narrows 'for every input' (looked for: loops, veiled, ifaces, maps, wideKeys, modest, calm, conditions, laid).
  DERIVED. THE GIVEN ROWS OF THIS SEAT. 18 by the template 'for every input the law returns true; each argument reads behind the call as it read before'; 0 by the template 'total and deterministic' (their statements: YtmehbbepppjikaaTotals.lean).
  GIVEN WITH THE SEED: the statements are not yours to turn. If you find one false, say at which input.
  Laid BY PROGRAM, IN A SANDBOX (cutbox-rows.mjs): the forced cells as the released guide's own fill.sh prints them over the translation dbe0124dffe7326a… (all of the seat's roots in one cut). By AI agents, Wed Nov 11 2026. No macro, syntax, notation, axiom, sorry.
-/
import Derived.Test.YtmehbbepppjikaaChecked
import GoSem.Claim
import GoSem.ClaimJoined
import GoSem.ClaimMapViews
import Derived.JoinedTies
import Derived.KernelRfl
namespace Go.Proofs.Ytmehbbepppjikaa
/- THE CELL 'sum', in the pinned program and in every row, IS THE sha256 OF THE DUMP (.gsa) THAT YtmehbbepppjikaaProg.lean LOADS. Nothing in Lean hashes anything: it is a label: what it is worth is what the hold of that sum in a sandbox is worth. -/
noncomputable def Try.pinned : Pinned := { name := "ytmehbbepppjikaa", sum := "dbe0124dffe7326afc51ea83fdf43abb5d864522f6340217aa594db05162f295", checked := Try.checked }
namespace Rows
def none {H : Type} : Left H := { results := [], args := [] }

/-- 'laws.FnExactLegOk': WHATEVER THE INPUT: true; the input reads as it did. -/
def fnExactLegOkSpec : ChangeSpec := { name := "fnExactLegOk", fn := fun _ => fun
  | [d] => { results := [.lit (.bool true)], args := [d] }
  | _ => none }
def fnExactLegOkRow : OpenClaim := { program := "ytmehbbepppjikaa", sum := "dbe0124dffe7326afc51ea83fdf43abb5d864522f6340217aa594db05162f295", func := "loop.example/stopover/laws.FnExactLegOk", spec := "fnExactLegOk", unfollowed := true, recurses := true, apart := false }
def FnExactLegOkSaid : Prop := fnExactLegOkRow.holds Try.pinned (OpenSpec.ofChange fnExactLegOkSpec)

/-- ITS FALSE NEIGHBOUR: 'it returns false'. Refute it at one input. -/
def fnExactLegOkWrong : ChangeSpec := { name := "fnExactLegOk", fn := fun _ => fun
  | [d] => { results := [.lit (.bool false)], args := [d] }
  | _ => none }
def FnExactLegOkWrongFalsely : Prop := fnExactLegOkRow.holds Try.pinned (OpenSpec.ofChange fnExactLegOkWrong)

/-- 'laws.FnLegRoom': WHATEVER THE INPUT: true; the input reads as it did. -/
def fnLegRoomSpec : ChangeSpec := { name := "fnLegRoom", fn := fun _ => fun
  | [d] => { results := [.lit (.bool true)], args := [d] }
  | _ => none }
def fnLegRoomRow : OpenClaim := { program := "ytmehbbepppjikaa", sum := "dbe0124dffe7326afc51ea83fdf43abb5d864522f6340217aa594db05162f295", func := "loop.example/stopover/laws.FnLegRoom", spec := "fnLegRoom", unfollowed := true, recurses := true, apart := false }
def FnLegRoomSaid : Prop := fnLegRoomRow.holds Try.pinned (OpenSpec.ofChange fnLegRoomSpec)

/-- ITS FALSE NEIGHBOUR: 'it returns false'. Refute it at one input. -/
def fnLegRoomWrong : ChangeSpec := { name := "fnLegRoom", fn := fun _ => fun
  | [d] => { results := [.lit (.bool false)], args := [d] }
  | _ => none }
def FnLegRoomWrongFalsely : Prop := fnLegRoomRow.holds Try.pinned (OpenSpec.ofChange fnLegRoomWrong)

/-- 'laws.FnExactLegRoom': WHATEVER THE INPUT: true; the input reads as it did. -/
def fnExactLegRoomSpec : ChangeSpec := { name := "fnExactLegRoom", fn := fun _ => fun
  | [d1, d2] => { results := [.lit (.bool true)], args := [d1, d2] }
  | _ => none }
def fnExactLegRoomRow : OpenClaim := { program := "ytmehbbepppjikaa", sum := "dbe0124dffe7326afc51ea83fdf43abb5d864522f6340217aa594db05162f295", func := "loop.example/stopover/laws.FnExactLegRoom", spec := "fnExactLegRoom", unfollowed := true, recurses := true, apart := false }
def FnExactLegRoomSaid : Prop := fnExactLegRoomRow.holds Try.pinned (OpenSpec.ofChange fnExactLegRoomSpec)

/-- ITS FALSE NEIGHBOUR: 'it returns false'. Refute it at one input. -/
def fnExactLegRoomWrong : ChangeSpec := { name := "fnExactLegRoom", fn := fun _ => fun
  | [d1, d2] => { results := [.lit (.bool false)], args := [d1, d2] }
  | _ => none }
def FnExactLegRoomWrongFalsely : Prop := fnExactLegRoomRow.holds Try.pinned (OpenSpec.ofChange fnExactLegRoomWrong)

/-- 'laws.FnExactLegBid': WHATEVER THE INPUT: true; the input reads as it did. -/
def fnExactLegBidSpec : ChangeSpec := { name := "fnExactLegBid", fn := fun _ => fun
  | [d] => { results := [.lit (.bool true)], args := [d] }
  | _ => none }
def fnExactLegBidRow : OpenClaim := { program := "ytmehbbepppjikaa", sum := "dbe0124dffe7326afc51ea83fdf43abb5d864522f6340217aa594db05162f295", func := "loop.example/stopover/laws.FnExactLegBid", spec := "fnExactLegBid", unfollowed := true, recurses := true, apart := false }
def FnExactLegBidSaid : Prop := fnExactLegBidRow.holds Try.pinned (OpenSpec.ofChange fnExactLegBidSpec)

/-- ITS FALSE NEIGHBOUR: 'it returns false'. Refute it at one input. -/
def fnExactLegBidWrong : ChangeSpec := { name := "fnExactLegBid", fn := fun _ => fun
  | [d] => { results := [.lit (.bool false)], args := [d] }
  | _ => none }
def FnExactLegBidWrongFalsely : Prop := fnExactLegBidRow.holds Try.pinned (OpenSpec.ofChange fnExactLegBidWrong)

/-- 'laws.FnTripLater': WHATEVER THE INPUT: true; the input reads as it did. -/
def fnTripLaterSpec : ChangeSpec := { name := "fnTripLater", fn := fun _ => fun
  | [d] => { results := [.lit (.bool true)], args := [d] }
  | _ => none }
def fnTripLaterRow : OpenClaim := { program := "ytmehbbepppjikaa", sum := "dbe0124dffe7326afc51ea83fdf43abb5d864522f6340217aa594db05162f295", func := "loop.example/stopover/laws.FnTripLater", spec := "fnTripLater", unfollowed := true, recurses := true, apart := false }
def FnTripLaterSaid : Prop := fnTripLaterRow.holds Try.pinned (OpenSpec.ofChange fnTripLaterSpec)

/-- ITS FALSE NEIGHBOUR: 'it returns false'. Refute it at one input. -/
def fnTripLaterWrong : ChangeSpec := { name := "fnTripLater", fn := fun _ => fun
  | [d] => { results := [.lit (.bool false)], args := [d] }
  | _ => none }
def FnTripLaterWrongFalsely : Prop := fnTripLaterRow.holds Try.pinned (OpenSpec.ofChange fnTripLaterWrong)

/-- 'laws.FnExactNetOk': WHATEVER THE INPUT: true; the input reads as it did. -/
def fnExactNetOkSpec : ChangeSpec := { name := "fnExactNetOk", fn := fun _ => fun
  | [d] => { results := [.lit (.bool true)], args := [d] }
  | _ => none }
def fnExactNetOkRow : OpenClaim := { program := "ytmehbbepppjikaa", sum := "dbe0124dffe7326afc51ea83fdf43abb5d864522f6340217aa594db05162f295", func := "loop.example/stopover/laws.FnExactNetOk", spec := "fnExactNetOk", unfollowed := true, recurses := true, apart := false }
def FnExactNetOkSaid : Prop := fnExactNetOkRow.holds Try.pinned (OpenSpec.ofChange fnExactNetOkSpec)

/-- ITS FALSE NEIGHBOUR: 'it returns false'. Refute it at one input. -/
def fnExactNetOkWrong : ChangeSpec := { name := "fnExactNetOk", fn := fun _ => fun
  | [d] => { results := [.lit (.bool false)], args := [d] }
  | _ => none }
def FnExactNetOkWrongFalsely : Prop := fnExactNetOkRow.holds Try.pinned (OpenSpec.ofChange fnExactNetOkWrong)

/-- 'laws.FnLegKeep': WHATEVER THE INPUT: true; the input reads as it did. -/
def fnLegKeepSpec : ChangeSpec := { name := "fnLegKeep", fn := fun _ => fun
  | [d] => { results := [.lit (.bool true)], args := [d] }
  | _ => none }
def fnLegKeepRow : OpenClaim := { program := "ytmehbbepppjikaa", sum := "dbe0124dffe7326afc51ea83fdf43abb5d864522f6340217aa594db05162f295", func := "loop.example/stopover/laws.FnLegKeep", spec := "fnLegKeep", unfollowed := true, recurses := true, apart := false }
def FnLegKeepSaid : Prop := fnLegKeepRow.holds Try.pinned (OpenSpec.ofChange fnLegKeepSpec)

/-- ITS FALSE NEIGHBOUR: 'it returns false'. Refute it at one input. -/
def fnLegKeepWrong : ChangeSpec := { name := "fnLegKeep", fn := fun _ => fun
  | [d] => { results := [.lit (.bool false)], args := [d] }
  | _ => none }
def FnLegKeepWrongFalsely : Prop := fnLegKeepRow.holds Try.pinned (OpenSpec.ofChange fnLegKeepWrong)

/-- 'laws.FnLegDrop': WHATEVER THE INPUT: true; the input reads as it did. -/
def fnLegDropSpec : ChangeSpec := { name := "fnLegDrop", fn := fun _ => fun
  | [d] => { results := [.lit (.bool true)], args := [d] }
  | _ => none }
def fnLegDropRow : OpenClaim := { program := "ytmehbbepppjikaa", sum := "dbe0124dffe7326afc51ea83fdf43abb5d864522f6340217aa594db05162f295", func := "loop.example/stopover/laws.FnLegDrop", spec := "fnLegDrop", unfollowed := true, recurses := true, apart := false }
def FnLegDropSaid : Prop := fnLegDropRow.holds Try.pinned (OpenSpec.ofChange fnLegDropSpec)

/-- ITS FALSE NEIGHBOUR: 'it returns false'. Refute it at one input. -/
def fnLegDropWrong : ChangeSpec := { name := "fnLegDrop", fn := fun _ => fun
  | [d] => { results := [.lit (.bool false)], args := [d] }
  | _ => none }
def FnLegDropWrongFalsely : Prop := fnLegDropRow.holds Try.pinned (OpenSpec.ofChange fnLegDropWrong)

/-- 'laws.FnExactLegDrop': WHATEVER THE INPUT: true; the input reads as it did. -/
def fnExactLegDropSpec : ChangeSpec := { name := "fnExactLegDrop", fn := fun _ => fun
  | [d1, d2] => { results := [.lit (.bool true)], args := [d1, d2] }
  | _ => none }
def fnExactLegDropRow : OpenClaim := { program := "ytmehbbepppjikaa", sum := "dbe0124dffe7326afc51ea83fdf43abb5d864522f6340217aa594db05162f295", func := "loop.example/stopover/laws.FnExactLegDrop", spec := "fnExactLegDrop", unfollowed := true, recurses := true, apart := false }
def FnExactLegDropSaid : Prop := fnExactLegDropRow.holds Try.pinned (OpenSpec.ofChange fnExactLegDropSpec)

/-- ITS FALSE NEIGHBOUR: 'it returns false'. Refute it at one input. -/
def fnExactLegDropWrong : ChangeSpec := { name := "fnExactLegDrop", fn := fun _ => fun
  | [d1, d2] => { results := [.lit (.bool false)], args := [d1, d2] }
  | _ => none }
def FnExactLegDropWrongFalsely : Prop := fnExactLegDropRow.holds Try.pinned (OpenSpec.ofChange fnExactLegDropWrong)

/-- 'laws.FnExactLegKeep': WHATEVER THE INPUT: true; the input reads as it did. -/
def fnExactLegKeepSpec : ChangeSpec := { name := "fnExactLegKeep", fn := fun _ => fun
  | [d1, d2] => { results := [.lit (.bool true)], args := [d1, d2] }
  | _ => none }
def fnExactLegKeepRow : OpenClaim := { program := "ytmehbbepppjikaa", sum := "dbe0124dffe7326afc51ea83fdf43abb5d864522f6340217aa594db05162f295", func := "loop.example/stopover/laws.FnExactLegKeep", spec := "fnExactLegKeep", unfollowed := true, recurses := true, apart := false }
def FnExactLegKeepSaid : Prop := fnExactLegKeepRow.holds Try.pinned (OpenSpec.ofChange fnExactLegKeepSpec)

/-- ITS FALSE NEIGHBOUR: 'it returns false'. Refute it at one input. -/
def fnExactLegKeepWrong : ChangeSpec := { name := "fnExactLegKeep", fn := fun _ => fun
  | [d1, d2] => { results := [.lit (.bool false)], args := [d1, d2] }
  | _ => none }
def FnExactLegKeepWrongFalsely : Prop := fnExactLegKeepRow.holds Try.pinned (OpenSpec.ofChange fnExactLegKeepWrong)

/-- 'laws.FnLegBid': WHATEVER THE INPUT: true; the input reads as it did. -/
def fnLegBidSpec : ChangeSpec := { name := "fnLegBid", fn := fun _ => fun
  | [d] => { results := [.lit (.bool true)], args := [d] }
  | _ => none }
def fnLegBidRow : OpenClaim := { program := "ytmehbbepppjikaa", sum := "dbe0124dffe7326afc51ea83fdf43abb5d864522f6340217aa594db05162f295", func := "loop.example/stopover/laws.FnLegBid", spec := "fnLegBid", inPlace := ["slices.overlaps[loop.example/stopover/impl.Hold]"], unfollowed := true, recurses := true, apart := false }
def FnLegBidSaid : Prop := fnLegBidRow.holds Try.pinned (OpenSpec.ofChange fnLegBidSpec)

/-- ITS FALSE NEIGHBOUR: 'it returns false'. Refute it at one input. -/
def fnLegBidWrong : ChangeSpec := { name := "fnLegBid", fn := fun _ => fun
  | [d] => { results := [.lit (.bool false)], args := [d] }
  | _ => none }
def FnLegBidWrongFalsely : Prop := fnLegBidRow.holds Try.pinned (OpenSpec.ofChange fnLegBidWrong)

/-- 'laws.FnExactTripOk': WHATEVER THE INPUT: true; the input reads as it did. -/
def fnExactTripOkSpec : ChangeSpec := { name := "fnExactTripOk", fn := fun _ => fun
  | [d1, d2] => { results := [.lit (.bool true)], args := [d1, d2] }
  | _ => none }
def fnExactTripOkRow : OpenClaim := { program := "ytmehbbepppjikaa", sum := "dbe0124dffe7326afc51ea83fdf43abb5d864522f6340217aa594db05162f295", func := "loop.example/stopover/laws.FnExactTripOk", spec := "fnExactTripOk", unfollowed := true, recurses := true, apart := false }
def FnExactTripOkSaid : Prop := fnExactTripOkRow.holds Try.pinned (OpenSpec.ofChange fnExactTripOkSpec)

/-- ITS FALSE NEIGHBOUR: 'it returns false'. Refute it at one input. -/
def fnExactTripOkWrong : ChangeSpec := { name := "fnExactTripOk", fn := fun _ => fun
  | [d1, d2] => { results := [.lit (.bool false)], args := [d1, d2] }
  | _ => none }
def FnExactTripOkWrongFalsely : Prop := fnExactTripOkRow.holds Try.pinned (OpenSpec.ofChange fnExactTripOkWrong)

/-- 'laws.FnExactLegHold': WHATEVER THE INPUT: true; the input reads as it did. -/
def fnExactLegHoldSpec : ChangeSpec := { name := "fnExactLegHold", fn := fun _ => fun
  | [d1, d2, d3] => { results := [.lit (.bool true)], args := [d1, d2, d3] }
  | _ => none }
def fnExactLegHoldRow : OpenClaim := { program := "ytmehbbepppjikaa", sum := "dbe0124dffe7326afc51ea83fdf43abb5d864522f6340217aa594db05162f295", func := "loop.example/stopover/laws.FnExactLegHold", spec := "fnExactLegHold", inPlace := ["slices.overlaps[loop.example/stopover/impl.Hold]"], unfollowed := true, recurses := true, apart := false }
def FnExactLegHoldSaid : Prop := fnExactLegHoldRow.holds Try.pinned (OpenSpec.ofChange fnExactLegHoldSpec)

/-- ITS FALSE NEIGHBOUR: 'it returns false'. Refute it at one input. -/
def fnExactLegHoldWrong : ChangeSpec := { name := "fnExactLegHold", fn := fun _ => fun
  | [d1, d2, d3] => { results := [.lit (.bool false)], args := [d1, d2, d3] }
  | _ => none }
def FnExactLegHoldWrongFalsely : Prop := fnExactLegHoldRow.holds Try.pinned (OpenSpec.ofChange fnExactLegHoldWrong)

/-- 'laws.FnLegHold': WHATEVER THE INPUT: true; the input reads as it did. -/
def fnLegHoldSpec : ChangeSpec := { name := "fnLegHold", fn := fun _ => fun
  | [d] => { results := [.lit (.bool true)], args := [d] }
  | _ => none }
def fnLegHoldRow : OpenClaim := { program := "ytmehbbepppjikaa", sum := "dbe0124dffe7326afc51ea83fdf43abb5d864522f6340217aa594db05162f295", func := "loop.example/stopover/laws.FnLegHold", spec := "fnLegHold", inPlace := ["slices.overlaps[loop.example/stopover/impl.Hold]"], unfollowed := true, recurses := true, apart := false }
def FnLegHoldSaid : Prop := fnLegHoldRow.holds Try.pinned (OpenSpec.ofChange fnLegHoldSpec)

/-- ITS FALSE NEIGHBOUR: 'it returns false'. Refute it at one input. -/
def fnLegHoldWrong : ChangeSpec := { name := "fnLegHold", fn := fun _ => fun
  | [d] => { results := [.lit (.bool false)], args := [d] }
  | _ => none }
def FnLegHoldWrongFalsely : Prop := fnLegHoldRow.holds Try.pinned (OpenSpec.ofChange fnLegHoldWrong)

/-- 'laws.FnLegTurn': WHATEVER THE INPUT: true; the input reads as it did. -/
def fnLegTurnSpec : ChangeSpec := { name := "fnLegTurn", fn := fun _ => fun
  | [d1, d2] => { results := [.lit (.bool true)], args := [d1, d2] }
  | _ => none }
def fnLegTurnRow : OpenClaim := { program := "ytmehbbepppjikaa", sum := "dbe0124dffe7326afc51ea83fdf43abb5d864522f6340217aa594db05162f295", func := "loop.example/stopover/laws.FnLegTurn", spec := "fnLegTurn", inPlace := ["slices.overlaps[loop.example/stopover/impl.Hold]"], unfollowed := true, recurses := true, apart := false }
def FnLegTurnSaid : Prop := fnLegTurnRow.holds Try.pinned (OpenSpec.ofChange fnLegTurnSpec)

/-- ITS FALSE NEIGHBOUR: 'it returns false'. Refute it at one input. -/
def fnLegTurnWrong : ChangeSpec := { name := "fnLegTurn", fn := fun _ => fun
  | [d1, d2] => { results := [.lit (.bool false)], args := [d1, d2] }
  | _ => none }
def FnLegTurnWrongFalsely : Prop := fnLegTurnRow.holds Try.pinned (OpenSpec.ofChange fnLegTurnWrong)

/-- 'laws.FnLegWorth': WHATEVER THE INPUT: true; the input reads as it did. -/
def fnLegWorthSpec : ChangeSpec := { name := "fnLegWorth", fn := fun _ => fun
  | [d] => { results := [.lit (.bool true)], args := [d] }
  | _ => none }
def fnLegWorthRow : OpenClaim := { program := "ytmehbbepppjikaa", sum := "dbe0124dffe7326afc51ea83fdf43abb5d864522f6340217aa594db05162f295", func := "loop.example/stopover/laws.FnLegWorth", spec := "fnLegWorth", inPlace := ["slices.overlaps[loop.example/stopover/impl.Hold]"], unfollowed := true, recurses := true, apart := false }
def FnLegWorthSaid : Prop := fnLegWorthRow.holds Try.pinned (OpenSpec.ofChange fnLegWorthSpec)

/-- ITS FALSE NEIGHBOUR: 'it returns false'. Refute it at one input. -/
def fnLegWorthWrong : ChangeSpec := { name := "fnLegWorth", fn := fun _ => fun
  | [d] => { results := [.lit (.bool false)], args := [d] }
  | _ => none }
def FnLegWorthWrongFalsely : Prop := fnLegWorthRow.holds Try.pinned (OpenSpec.ofChange fnLegWorthWrong)

/-- 'laws.FnExactTripFind': WHATEVER THE INPUT: true; the input reads as it did. -/
def fnExactTripFindSpec : ChangeSpec := { name := "fnExactTripFind", fn := fun _ => fun
  | [d1, d2, d3, d4] => { results := [.lit (.bool true)], args := [d1, d2, d3, d4] }
  | _ => none }
def fnExactTripFindRow : OpenClaim := { program := "ytmehbbepppjikaa", sum := "dbe0124dffe7326afc51ea83fdf43abb5d864522f6340217aa594db05162f295", func := "loop.example/stopover/laws.FnExactTripFind", spec := "fnExactTripFind", unfollowed := true, recurses := true, apart := false }
def FnExactTripFindSaid : Prop := fnExactTripFindRow.holds Try.pinned (OpenSpec.ofChange fnExactTripFindSpec)

/-- ITS FALSE NEIGHBOUR: 'it returns false'. Refute it at one input. -/
def fnExactTripFindWrong : ChangeSpec := { name := "fnExactTripFind", fn := fun _ => fun
  | [d1, d2, d3, d4] => { results := [.lit (.bool false)], args := [d1, d2, d3, d4] }
  | _ => none }
def FnExactTripFindWrongFalsely : Prop := fnExactTripFindRow.holds Try.pinned (OpenSpec.ofChange fnExactTripFindWrong)

/-- 'laws.FnTripOk': WHATEVER THE INPUT: true; the input reads as it did. -/
def fnTripOkSpec : ChangeSpec := { name := "fnTripOk", fn := fun _ => fun
  | [d] => { results := [.lit (.bool true)], args := [d] }
  | _ => none }
def fnTripOkRow : OpenClaim := { program := "ytmehbbepppjikaa", sum := "dbe0124dffe7326afc51ea83fdf43abb5d864522f6340217aa594db05162f295", func := "loop.example/stopover/laws.FnTripOk", spec := "fnTripOk", unfollowed := true, recurses := true, apart := false }
def FnTripOkSaid : Prop := fnTripOkRow.holds Try.pinned (OpenSpec.ofChange fnTripOkSpec)

/-- ITS FALSE NEIGHBOUR: 'it returns false'. Refute it at one input. -/
def fnTripOkWrong : ChangeSpec := { name := "fnTripOk", fn := fun _ => fun
  | [d] => { results := [.lit (.bool false)], args := [d] }
  | _ => none }
def FnTripOkWrongFalsely : Prop := fnTripOkRow.holds Try.pinned (OpenSpec.ofChange fnTripOkWrong)

/- THE SECOND FORM. 'bulk': how many values and letters a reading holds, each counted each time it is reached (what is shared counts as often as it is met; a slice's spare places count too). A statement '..UptoSaid' is the law's where the arguments, and the package variables that the reading takes, are together of bulk at most 1048576: NARROWER than '..Said'. Prove '..Said' where nothing that the law and all that it calls make is longer than what came in: it says more and counts as full. Else prove '..UptoSaid'. A law counts once. -/
mutual
def uptoBulk {H : Type} : DataW H → Nat
  | .lit (.string bytes) => bytes.length + 1
  | .lit _ => 1
  | .nil => 1
  | .ptr d => uptoBulk d + 1
  | .slice elems spare => uptoBulkAll elems + uptoBulkAll spare + 1
  | .agg parts => uptoBulkAll parts + 1
  | .iface _ d => uptoBulk d + 1
  | .map entries => uptoBulkEntries entries + 1
  | .held _ => 1
def uptoBulkAll {H : Type} : List (DataW H) → Nat
  | [] => 0
  | d :: r => uptoBulk d + uptoBulkAll r
def uptoBulkEntries {H : Type} : List (Lit × DataW H) → Nat
  | [] => 0
  | x :: r => uptoBulkEntry x + uptoBulkEntries r
def uptoBulkEntry {H : Type} : Lit × DataW H → Nat
  | (.string bytes, d) => bytes.length + uptoBulk d + 1
  | (_, d) => uptoBulk d + 1
 end
def uptoSmall : (H : Type) → List (DataW H) → Bool := fun _ ds => decide (uptoBulkAll ds ≤ 1048576)
def OpenSpec.upto (s : _root_.Go.ChangeSpec) : _root_.Go.OpenSpec := { _root_.Go.OpenSpec.ofChange s with cond := some uptoSmall }

/-- 'laws.FnExactLegOk', WHERE WHAT IT READS IS OF BULK AT MOST 1048576: true; the input reads as it did. -/
def fnExactLegOkUptoRow : OpenClaim := { program := "ytmehbbepppjikaa", sum := "dbe0124dffe7326afc51ea83fdf43abb5d864522f6340217aa594db05162f295", func := "loop.example/stopover/laws.FnExactLegOk", spec := "fnExactLegOk", unfollowed := true, recurses := true, apart := false, narrowed := true }
def FnExactLegOkUptoSaid : Prop := fnExactLegOkUptoRow.holds Try.pinned (OpenSpec.upto fnExactLegOkSpec)

/-- 'laws.FnLegRoom', WHERE WHAT IT READS IS OF BULK AT MOST 1048576: true; the input reads as it did. -/
def fnLegRoomUptoRow : OpenClaim := { program := "ytmehbbepppjikaa", sum := "dbe0124dffe7326afc51ea83fdf43abb5d864522f6340217aa594db05162f295", func := "loop.example/stopover/laws.FnLegRoom", spec := "fnLegRoom", unfollowed := true, recurses := true, apart := false, narrowed := true }
def FnLegRoomUptoSaid : Prop := fnLegRoomUptoRow.holds Try.pinned (OpenSpec.upto fnLegRoomSpec)

/-- 'laws.FnExactLegRoom', WHERE WHAT IT READS IS OF BULK AT MOST 1048576: true; the input reads as it did. -/
def fnExactLegRoomUptoRow : OpenClaim := { program := "ytmehbbepppjikaa", sum := "dbe0124dffe7326afc51ea83fdf43abb5d864522f6340217aa594db05162f295", func := "loop.example/stopover/laws.FnExactLegRoom", spec := "fnExactLegRoom", unfollowed := true, recurses := true, apart := false, narrowed := true }
def FnExactLegRoomUptoSaid : Prop := fnExactLegRoomUptoRow.holds Try.pinned (OpenSpec.upto fnExactLegRoomSpec)

/-- 'laws.FnExactLegBid', WHERE WHAT IT READS IS OF BULK AT MOST 1048576: true; the input reads as it did. -/
def fnExactLegBidUptoRow : OpenClaim := { program := "ytmehbbepppjikaa", sum := "dbe0124dffe7326afc51ea83fdf43abb5d864522f6340217aa594db05162f295", func := "loop.example/stopover/laws.FnExactLegBid", spec := "fnExactLegBid", unfollowed := true, recurses := true, apart := false, narrowed := true }
def FnExactLegBidUptoSaid : Prop := fnExactLegBidUptoRow.holds Try.pinned (OpenSpec.upto fnExactLegBidSpec)

/-- 'laws.FnTripLater', WHERE WHAT IT READS IS OF BULK AT MOST 1048576: true; the input reads as it did. -/
def fnTripLaterUptoRow : OpenClaim := { program := "ytmehbbepppjikaa", sum := "dbe0124dffe7326afc51ea83fdf43abb5d864522f6340217aa594db05162f295", func := "loop.example/stopover/laws.FnTripLater", spec := "fnTripLater", unfollowed := true, recurses := true, apart := false, narrowed := true }
def FnTripLaterUptoSaid : Prop := fnTripLaterUptoRow.holds Try.pinned (OpenSpec.upto fnTripLaterSpec)

/-- 'laws.FnExactNetOk', WHERE WHAT IT READS IS OF BULK AT MOST 1048576: true; the input reads as it did. -/
def fnExactNetOkUptoRow : OpenClaim := { program := "ytmehbbepppjikaa", sum := "dbe0124dffe7326afc51ea83fdf43abb5d864522f6340217aa594db05162f295", func := "loop.example/stopover/laws.FnExactNetOk", spec := "fnExactNetOk", unfollowed := true, recurses := true, apart := false, narrowed := true }
def FnExactNetOkUptoSaid : Prop := fnExactNetOkUptoRow.holds Try.pinned (OpenSpec.upto fnExactNetOkSpec)

/-- 'laws.FnLegKeep', WHERE WHAT IT READS IS OF BULK AT MOST 1048576: true; the input reads as it did. -/
def fnLegKeepUptoRow : OpenClaim := { program := "ytmehbbepppjikaa", sum := "dbe0124dffe7326afc51ea83fdf43abb5d864522f6340217aa594db05162f295", func := "loop.example/stopover/laws.FnLegKeep", spec := "fnLegKeep", unfollowed := true, recurses := true, apart := false, narrowed := true }
def FnLegKeepUptoSaid : Prop := fnLegKeepUptoRow.holds Try.pinned (OpenSpec.upto fnLegKeepSpec)

/-- 'laws.FnLegDrop', WHERE WHAT IT READS IS OF BULK AT MOST 1048576: true; the input reads as it did. -/
def fnLegDropUptoRow : OpenClaim := { program := "ytmehbbepppjikaa", sum := "dbe0124dffe7326afc51ea83fdf43abb5d864522f6340217aa594db05162f295", func := "loop.example/stopover/laws.FnLegDrop", spec := "fnLegDrop", unfollowed := true, recurses := true, apart := false, narrowed := true }
def FnLegDropUptoSaid : Prop := fnLegDropUptoRow.holds Try.pinned (OpenSpec.upto fnLegDropSpec)

/-- 'laws.FnExactLegDrop', WHERE WHAT IT READS IS OF BULK AT MOST 1048576: true; the input reads as it did. -/
def fnExactLegDropUptoRow : OpenClaim := { program := "ytmehbbepppjikaa", sum := "dbe0124dffe7326afc51ea83fdf43abb5d864522f6340217aa594db05162f295", func := "loop.example/stopover/laws.FnExactLegDrop", spec := "fnExactLegDrop", unfollowed := true, recurses := true, apart := false, narrowed := true }
def FnExactLegDropUptoSaid : Prop := fnExactLegDropUptoRow.holds Try.pinned (OpenSpec.upto fnExactLegDropSpec)

/-- 'laws.FnExactLegKeep', WHERE WHAT IT READS IS OF BULK AT MOST 1048576: true; the input reads as it did. -/
def fnExactLegKeepUptoRow : OpenClaim := { program := "ytmehbbepppjikaa", sum := "dbe0124dffe7326afc51ea83fdf43abb5d864522f6340217aa594db05162f295", func := "loop.example/stopover/laws.FnExactLegKeep", spec := "fnExactLegKeep", unfollowed := true, recurses := true, apart := false, narrowed := true }
def FnExactLegKeepUptoSaid : Prop := fnExactLegKeepUptoRow.holds Try.pinned (OpenSpec.upto fnExactLegKeepSpec)

/-- 'laws.FnLegBid', WHERE WHAT IT READS IS OF BULK AT MOST 1048576: true; the input reads as it did. -/
def fnLegBidUptoRow : OpenClaim := { program := "ytmehbbepppjikaa", sum := "dbe0124dffe7326afc51ea83fdf43abb5d864522f6340217aa594db05162f295", func := "loop.example/stopover/laws.FnLegBid", spec := "fnLegBid", inPlace := ["slices.overlaps[loop.example/stopover/impl.Hold]"], unfollowed := true, recurses := true, apart := false, narrowed := true }
def FnLegBidUptoSaid : Prop := fnLegBidUptoRow.holds Try.pinned (OpenSpec.upto fnLegBidSpec)

/-- 'laws.FnExactTripOk', WHERE WHAT IT READS IS OF BULK AT MOST 1048576: true; the input reads as it did. -/
def fnExactTripOkUptoRow : OpenClaim := { program := "ytmehbbepppjikaa", sum := "dbe0124dffe7326afc51ea83fdf43abb5d864522f6340217aa594db05162f295", func := "loop.example/stopover/laws.FnExactTripOk", spec := "fnExactTripOk", unfollowed := true, recurses := true, apart := false, narrowed := true }
def FnExactTripOkUptoSaid : Prop := fnExactTripOkUptoRow.holds Try.pinned (OpenSpec.upto fnExactTripOkSpec)

/-- 'laws.FnExactLegHold', WHERE WHAT IT READS IS OF BULK AT MOST 1048576: true; the input reads as it did. -/
def fnExactLegHoldUptoRow : OpenClaim := { program := "ytmehbbepppjikaa", sum := "dbe0124dffe7326afc51ea83fdf43abb5d864522f6340217aa594db05162f295", func := "loop.example/stopover/laws.FnExactLegHold", spec := "fnExactLegHold", inPlace := ["slices.overlaps[loop.example/stopover/impl.Hold]"], unfollowed := true, recurses := true, apart := false, narrowed := true }
def FnExactLegHoldUptoSaid : Prop := fnExactLegHoldUptoRow.holds Try.pinned (OpenSpec.upto fnExactLegHoldSpec)

/-- 'laws.FnLegHold', WHERE WHAT IT READS IS OF BULK AT MOST 1048576: true; the input reads as it did. -/
def fnLegHoldUptoRow : OpenClaim := { program := "ytmehbbepppjikaa", sum := "dbe0124dffe7326afc51ea83fdf43abb5d864522f6340217aa594db05162f295", func := "loop.example/stopover/laws.FnLegHold", spec := "fnLegHold", inPlace := ["slices.overlaps[loop.example/stopover/impl.Hold]"], unfollowed := true, recurses := true, apart := false, narrowed := true }
def FnLegHoldUptoSaid : Prop := fnLegHoldUptoRow.holds Try.pinned (OpenSpec.upto fnLegHoldSpec)

/-- 'laws.FnLegTurn', WHERE WHAT IT READS IS OF BULK AT MOST 1048576: true; the input reads as it did. -/
def fnLegTurnUptoRow : OpenClaim := { program := "ytmehbbepppjikaa", sum := "dbe0124dffe7326afc51ea83fdf43abb5d864522f6340217aa594db05162f295", func := "loop.example/stopover/laws.FnLegTurn", spec := "fnLegTurn", inPlace := ["slices.overlaps[loop.example/stopover/impl.Hold]"], unfollowed := true, recurses := true, apart := false, narrowed := true }
def FnLegTurnUptoSaid : Prop := fnLegTurnUptoRow.holds Try.pinned (OpenSpec.upto fnLegTurnSpec)

/-- 'laws.FnLegWorth', WHERE WHAT IT READS IS OF BULK AT MOST 1048576: true; the input reads as it did. -/
def fnLegWorthUptoRow : OpenClaim := { program := "ytmehbbepppjikaa", sum := "dbe0124dffe7326afc51ea83fdf43abb5d864522f6340217aa594db05162f295", func := "loop.example/stopover/laws.FnLegWorth", spec := "fnLegWorth", inPlace := ["slices.overlaps[loop.example/stopover/impl.Hold]"], unfollowed := true, recurses := true, apart := false, narrowed := true }
def FnLegWorthUptoSaid : Prop := fnLegWorthUptoRow.holds Try.pinned (OpenSpec.upto fnLegWorthSpec)

/-- 'laws.FnExactTripFind', WHERE WHAT IT READS IS OF BULK AT MOST 1048576: true; the input reads as it did. -/
def fnExactTripFindUptoRow : OpenClaim := { program := "ytmehbbepppjikaa", sum := "dbe0124dffe7326afc51ea83fdf43abb5d864522f6340217aa594db05162f295", func := "loop.example/stopover/laws.FnExactTripFind", spec := "fnExactTripFind", unfollowed := true, recurses := true, apart := false, narrowed := true }
def FnExactTripFindUptoSaid : Prop := fnExactTripFindUptoRow.holds Try.pinned (OpenSpec.upto fnExactTripFindSpec)

/-- 'laws.FnTripOk', WHERE WHAT IT READS IS OF BULK AT MOST 1048576: true; the input reads as it did. -/
def fnTripOkUptoRow : OpenClaim := { program := "ytmehbbepppjikaa", sum := "dbe0124dffe7326afc51ea83fdf43abb5d864522f6340217aa594db05162f295", func := "loop.example/stopover/laws.FnTripOk", spec := "fnTripOk", unfollowed := true, recurses := true, apart := false, narrowed := true }
def FnTripOkUptoSaid : Prop := fnTripOkUptoRow.holds Try.pinned (OpenSpec.upto fnTripOkSpec)

end Rows
end Go.Proofs.Ytmehbbepppjikaa
