/-
  DERIVED. GIVEN WITH THE SEED: THE CARDS: each row of YtfiaplpfimfgiaaDoorRows.lean that lists a variable, with what it lists TIED to the program's text (the seventh form; the later family's looks); each row that meets fmt, with fmt's text TOLD by the authors' own Lean function (tested against real Go, not proved from fmt's source: count such statements apart). THE CARD IS WHAT COUNTS. Prove the row's statement (the work); the ties are given (YtfiaplpfimfgiaaDoorTie.lean); close each card by the builder's one call (the guide's Derived/Test/ToyasCard.lean, 'card_holds'). Laid BY PROGRAM, IN A SANDBOX (cutbox-door.mjs). By AI agents, Wed Nov 11 2026. No macro, syntax, notation, axiom, sorry.
-/
import Derived.Test.YtfiaplpfimfgiaaDoorRows
import GoSem.ClaimSeven
namespace Go.Proofs.YtfiaplpfimfgiaaDoor
namespace Rows

/-- THE TIED CARD OF 'laws.FnExactSerialOrder'. -/
def fnExactSerialOrderCard : Claim7 := { stood := { row := fnExactSerialOrderRow, standIns := [], harness := (true, "f17640c40749c911be8a798b7212b889f5c5c6918575f6bac92d0c5e4ee7578b"), looks := false }, kinds := [], alts := [], laidByText := true, laidKinds := [.data, .pinned], laidTests := true, laidLooks := .later }
def FnExactSerialOrderCardSaid : Prop := Claim7.holds Tryd.pinned (.plain (OpenSpec.ofChange fnExactSerialOrderSpec)) fnExactSerialOrderCard

/-- THE SECOND FORM's CARD OF 'laws.FnExactSerialOrder'. -/
def fnExactSerialOrderUptoCard : Claim7 := { stood := { row := fnExactSerialOrderUptoRow, standIns := [], harness := (true, "f17640c40749c911be8a798b7212b889f5c5c6918575f6bac92d0c5e4ee7578b"), looks := false }, kinds := [], alts := [], laidByText := true, laidKinds := [.data, .pinned], laidTests := true, laidLooks := .later }
def FnExactSerialOrderUptoCardSaid : Prop := Claim7.holds Tryd.pinned (.plain (OpenSpec.upto fnExactSerialOrderSpec)) fnExactSerialOrderUptoCard
end Rows
end Go.Proofs.YtfiaplpfimfgiaaDoor
