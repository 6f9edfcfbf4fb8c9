/-
  DERIVED. GIVEN WITH THE SEED: THE CARDS: each row of YtienplkbbahfjaaDoorRows.lean that lists a variable, with what it lists TIED to the program's text (the seventh form; the later family's looks); each row that meets fmt, with fmt's text TOLD by the authors' own Lean function (tested against real Go, not proved from fmt's source: count such statements apart). THE CARD IS WHAT COUNTS. Prove the row's statement (the work); the ties are given (YtienplkbbahfjaaDoorTie.lean); close each card by the builder's one call (the guide's Derived/Test/ToyasCard.lean, 'card_holds'). Laid BY PROGRAM, IN A SANDBOX (cutbox-door.mjs). By AI agents, Wed Nov 11 2026. No macro, syntax, notation, axiom, sorry.
-/
import Derived.Test.YtienplkbbahfjaaDoorRows
import GoSem.ClaimSeven
namespace Go.Proofs.YtienplkbbahfjaaDoor
namespace Rows

/-- THE TIED CARD OF 'laws.FnExactGoodCalls'. -/
def fnExactGoodCallsCard : Claim7 := { stood := { row := fnExactGoodCallsRow, standIns := [], harness := (true, "6a0781600eb86ac4e7c9dac3962e0fc72abb52963eece20b6e085be5f95d4afb"), looks := false }, kinds := [], alts := [], laidByText := true, laidKinds := [.data, .pinned], laidTests := true, laidLooks := .later }
def FnExactGoodCallsCardSaid : Prop := Claim7.holds Tryd.pinned (.plain (OpenSpec.ofChange fnExactGoodCallsSpec)) fnExactGoodCallsCard

/-- THE TIED CARD OF 'laws.FnExactIsLinear'. -/
def fnExactIsLinearCard : Claim7 := { stood := { row := fnExactIsLinearRow, standIns := [], harness := (true, "6a0781600eb86ac4e7c9dac3962e0fc72abb52963eece20b6e085be5f95d4afb"), looks := false }, kinds := [], alts := [], laidByText := true, laidKinds := [.data, .pinned], laidTests := true, laidLooks := .later }
def FnExactIsLinearCardSaid : Prop := Claim7.holds Tryd.pinned (.plain (OpenSpec.ofChange fnExactIsLinearSpec)) fnExactIsLinearCard

/-- THE TIED CARD OF 'laws.FnExactLinearOrder'. -/
def fnExactLinearOrderCard : Claim7 := { stood := { row := fnExactLinearOrderRow, standIns := [], harness := (true, "6a0781600eb86ac4e7c9dac3962e0fc72abb52963eece20b6e085be5f95d4afb"), looks := false }, kinds := [], alts := [], laidByText := true, laidKinds := [.data, .pinned], laidTests := true, laidLooks := .later }
def FnExactLinearOrderCardSaid : Prop := Claim7.holds Tryd.pinned (.plain (OpenSpec.ofChange fnExactLinearOrderSpec)) fnExactLinearOrderCard

/-- THE TIED CARD OF 'laws.FnExactIsSequential'. -/
def fnExactIsSequentialCard : Claim7 := { stood := { row := fnExactIsSequentialRow, standIns := [], harness := (true, "6a0781600eb86ac4e7c9dac3962e0fc72abb52963eece20b6e085be5f95d4afb"), looks := false }, kinds := [], alts := [], laidByText := true, laidKinds := [.data, .pinned], laidTests := true, laidLooks := .later }
def FnExactIsSequentialCardSaid : Prop := Claim7.holds Tryd.pinned (.plain (OpenSpec.ofChange fnExactIsSequentialSpec)) fnExactIsSequentialCard

/-- THE TIED CARD OF 'laws.FnExactOfKey'. -/
def fnExactOfKeyCard : Claim7 := { stood := { row := fnExactOfKeyRow, standIns := [], harness := (true, "6a0781600eb86ac4e7c9dac3962e0fc72abb52963eece20b6e085be5f95d4afb"), looks := false }, kinds := [], alts := [], laidByText := true, laidKinds := [.data, .pinned], laidTests := true, laidLooks := .later }
def FnExactOfKeyCardSaid : Prop := Claim7.holds Tryd.pinned (.plain (OpenSpec.ofChange fnExactOfKeySpec)) fnExactOfKeyCard

/-- THE TIED CARD OF 'laws.FnExactFitsOrder'. -/
def fnExactFitsOrderCard : Claim7 := { stood := { row := fnExactFitsOrderRow, standIns := [], harness := (true, "6a0781600eb86ac4e7c9dac3962e0fc72abb52963eece20b6e085be5f95d4afb"), looks := false }, kinds := [], alts := [], laidByText := true, laidKinds := [.data, .pinned], laidTests := true, laidLooks := .later }
def FnExactFitsOrderCardSaid : Prop := Claim7.holds Tryd.pinned (.plain (OpenSpec.ofChange fnExactFitsOrderSpec)) fnExactFitsOrderCard

/-- THE SECOND FORM's CARD OF 'laws.FnExactGoodCalls'. -/
def fnExactGoodCallsUptoCard : Claim7 := { stood := { row := fnExactGoodCallsUptoRow, standIns := [], harness := (true, "6a0781600eb86ac4e7c9dac3962e0fc72abb52963eece20b6e085be5f95d4afb"), looks := false }, kinds := [], alts := [], laidByText := true, laidKinds := [.data, .pinned], laidTests := true, laidLooks := .later }
def FnExactGoodCallsUptoCardSaid : Prop := Claim7.holds Tryd.pinned (.plain (OpenSpec.upto fnExactGoodCallsSpec)) fnExactGoodCallsUptoCard

/-- THE SECOND FORM's CARD OF 'laws.FnExactIsLinear'. -/
def fnExactIsLinearUptoCard : Claim7 := { stood := { row := fnExactIsLinearUptoRow, standIns := [], harness := (true, "6a0781600eb86ac4e7c9dac3962e0fc72abb52963eece20b6e085be5f95d4afb"), looks := false }, kinds := [], alts := [], laidByText := true, laidKinds := [.data, .pinned], laidTests := true, laidLooks := .later }
def FnExactIsLinearUptoCardSaid : Prop := Claim7.holds Tryd.pinned (.plain (OpenSpec.upto fnExactIsLinearSpec)) fnExactIsLinearUptoCard

/-- THE SECOND FORM's CARD OF 'laws.FnExactLinearOrder'. -/
def fnExactLinearOrderUptoCard : Claim7 := { stood := { row := fnExactLinearOrderUptoRow, standIns := [], harness := (true, "6a0781600eb86ac4e7c9dac3962e0fc72abb52963eece20b6e085be5f95d4afb"), looks := false }, kinds := [], alts := [], laidByText := true, laidKinds := [.data, .pinned], laidTests := true, laidLooks := .later }
def FnExactLinearOrderUptoCardSaid : Prop := Claim7.holds Tryd.pinned (.plain (OpenSpec.upto fnExactLinearOrderSpec)) fnExactLinearOrderUptoCard

/-- THE SECOND FORM's CARD OF 'laws.FnExactIsSequential'. -/
def fnExactIsSequentialUptoCard : Claim7 := { stood := { row := fnExactIsSequentialUptoRow, standIns := [], harness := (true, "6a0781600eb86ac4e7c9dac3962e0fc72abb52963eece20b6e085be5f95d4afb"), looks := false }, kinds := [], alts := [], laidByText := true, laidKinds := [.data, .pinned], laidTests := true, laidLooks := .later }
def FnExactIsSequentialUptoCardSaid : Prop := Claim7.holds Tryd.pinned (.plain (OpenSpec.upto fnExactIsSequentialSpec)) fnExactIsSequentialUptoCard

/-- THE SECOND FORM's CARD OF 'laws.FnExactOfKey'. -/
def fnExactOfKeyUptoCard : Claim7 := { stood := { row := fnExactOfKeyUptoRow, standIns := [], harness := (true, "6a0781600eb86ac4e7c9dac3962e0fc72abb52963eece20b6e085be5f95d4afb"), looks := false }, kinds := [], alts := [], laidByText := true, laidKinds := [.data, .pinned], laidTests := true, laidLooks := .later }
def FnExactOfKeyUptoCardSaid : Prop := Claim7.holds Tryd.pinned (.plain (OpenSpec.upto fnExactOfKeySpec)) fnExactOfKeyUptoCard

/-- THE SECOND FORM's CARD OF 'laws.FnExactFitsOrder'. -/
def fnExactFitsOrderUptoCard : Claim7 := { stood := { row := fnExactFitsOrderUptoRow, standIns := [], harness := (true, "6a0781600eb86ac4e7c9dac3962e0fc72abb52963eece20b6e085be5f95d4afb"), looks := false }, kinds := [], alts := [], laidByText := true, laidKinds := [.data, .pinned], laidTests := true, laidLooks := .later }
def FnExactFitsOrderUptoCardSaid : Prop := Claim7.holds Tryd.pinned (.plain (OpenSpec.upto fnExactFitsOrderSpec)) fnExactFitsOrderUptoCard
end Rows
end Go.Proofs.YtienplkbbahfjaaDoor
