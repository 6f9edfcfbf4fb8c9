/-
  DERIVED. GIVEN WITH THE SEED: THE CARDS: each row of YtolcbchdijdolaaGreatDoorRows.lean that lists a variable, with what it lists TIED to the program's text (the seventh form; the later family's looks); each row that meets fmt, with fmt's text TOLD by the authors' own Lean function (tested against real Go, not proved from fmt's source: count such statements apart). THE CARD IS WHAT COUNTS. Prove the row's statement (the work); the ties are given (YtolcbchdijdolaaGreatDoorTie.lean); close each card by the builder's one call (the guide's Derived/Test/ToyasCard.lean, 'card_holds'). Laid BY PROGRAM, IN A SANDBOX (cutbox-door.mjs). By AI agents, Wed Nov 11 2026. No macro, syntax, notation, axiom, sorry.
-/
import Derived.Test.YtolcbchdijdolaaGreatDoorRows
import GoSem.ClaimSeven
namespace Go.Proofs.YtolcbchdijdolaaGreatDoor
namespace Rows

/-- THE TIED CARD OF 'laws.FnExactReplayOrder'. -/
def fnExactReplayOrderCard : Claim7 := { stood := { row := fnExactReplayOrderRow, standIns := [], harness := (true, "cf3dc63a0b8420aecc596f231b389dded6ab36ad5d21358552fc5baddcc4f4e1"), looks := false }, kinds := [], alts := [], laidByText := true, laidKinds := [.data, .pinned], laidTests := true, laidLooks := .later }
def FnExactReplayOrderCardSaid : Prop := Claim7.holds Tryz.pinned (.plain (OpenSpec.ofChange fnExactReplayOrderSpec)) fnExactReplayOrderCard

/-- THE SECOND FORM's CARD OF 'laws.FnExactReplayOrder'. -/
def fnExactReplayOrderUptoCard : Claim7 := { stood := { row := fnExactReplayOrderUptoRow, standIns := [], harness := (true, "cf3dc63a0b8420aecc596f231b389dded6ab36ad5d21358552fc5baddcc4f4e1"), looks := false }, kinds := [], alts := [], laidByText := true, laidKinds := [.data, .pinned], laidTests := true, laidLooks := .later }
def FnExactReplayOrderUptoCardSaid : Prop := Claim7.holds Tryz.pinned (.plain (OpenSpec.upto fnExactReplayOrderSpec)) fnExactReplayOrderUptoCard
end Rows
end Go.Proofs.YtolcbchdijdolaaGreatDoor
