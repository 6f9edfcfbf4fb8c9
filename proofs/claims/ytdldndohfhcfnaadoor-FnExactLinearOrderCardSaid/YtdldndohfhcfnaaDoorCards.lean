/-
  DERIVED. GIVEN WITH THE SEED: THE CARDS: each row of YtdldndohfhcfnaaDoorRows.lean that lists a variable, with what it lists TIED to the program's text (the seventh form; the later family's looks); each row that meets fmt, with fmt's text TOLD by the authors' own Lean function (tested against real Go, not proved from fmt's source: count such statements apart). THE CARD IS WHAT COUNTS. Prove the row's statement (the work); the ties are given (YtdldndohfhcfnaaDoorTie.lean); close each card by the builder's one call (the guide's Derived/Test/ToyasCard.lean, 'card_holds'). Laid BY PROGRAM, IN A SANDBOX (cutbox-door.mjs). By AI agents, Wed Nov 11 2026. No macro, syntax, notation, axiom, sorry.
-/
import Derived.Test.YtdldndohfhcfnaaDoorRows
import GoSem.ClaimSeven
namespace Go.Proofs.YtdldndohfhcfnaaDoor
namespace Rows

/-- THE TIED CARD OF 'laws.FnExactIsLinear'. -/
def fnExactIsLinearCard : Claim7 := { stood := { row := fnExactIsLinearRow, standIns := [], harness := (true, "6ef43db32195c9d4a969994b9d0c04af77aa2a7d40e6582f4808ef638aa91e48"), looks := false }, kinds := [], alts := [], laidByText := true, laidKinds := [.data, .pinned], laidTests := true, laidLooks := .later }
def FnExactIsLinearCardSaid : Prop := Claim7.holds Tryd.pinned (.plain (OpenSpec.ofChange fnExactIsLinearSpec)) fnExactIsLinearCard

/-- THE TIED CARD OF 'laws.FnExactIsSequential'. -/
def fnExactIsSequentialCard : Claim7 := { stood := { row := fnExactIsSequentialRow, standIns := [], harness := (true, "6ef43db32195c9d4a969994b9d0c04af77aa2a7d40e6582f4808ef638aa91e48"), looks := false }, kinds := [], alts := [], laidByText := true, laidKinds := [.data, .pinned], laidTests := true, laidLooks := .later }
def FnExactIsSequentialCardSaid : Prop := Claim7.holds Tryd.pinned (.plain (OpenSpec.ofChange fnExactIsSequentialSpec)) fnExactIsSequentialCard

/-- THE TIED CARD OF 'laws.FnExactLinearOrder'. -/
def fnExactLinearOrderCard : Claim7 := { stood := { row := fnExactLinearOrderRow, standIns := [], harness := (true, "6ef43db32195c9d4a969994b9d0c04af77aa2a7d40e6582f4808ef638aa91e48"), looks := false }, kinds := [], alts := [], laidByText := true, laidKinds := [.data, .pinned], laidTests := true, laidLooks := .later }
def FnExactLinearOrderCardSaid : Prop := Claim7.holds Tryd.pinned (.plain (OpenSpec.ofChange fnExactLinearOrderSpec)) fnExactLinearOrderCard

/-- THE SECOND FORM's CARD OF 'laws.FnExactIsLinear'. -/
def fnExactIsLinearUptoCard : Claim7 := { stood := { row := fnExactIsLinearUptoRow, standIns := [], harness := (true, "6ef43db32195c9d4a969994b9d0c04af77aa2a7d40e6582f4808ef638aa91e48"), looks := false }, kinds := [], alts := [], laidByText := true, laidKinds := [.data, .pinned], laidTests := true, laidLooks := .later }
def FnExactIsLinearUptoCardSaid : Prop := Claim7.holds Tryd.pinned (.plain (OpenSpec.upto fnExactIsLinearSpec)) fnExactIsLinearUptoCard

/-- THE SECOND FORM's CARD OF 'laws.FnExactIsSequential'. -/
def fnExactIsSequentialUptoCard : Claim7 := { stood := { row := fnExactIsSequentialUptoRow, standIns := [], harness := (true, "6ef43db32195c9d4a969994b9d0c04af77aa2a7d40e6582f4808ef638aa91e48"), looks := false }, kinds := [], alts := [], laidByText := true, laidKinds := [.data, .pinned], laidTests := true, laidLooks := .later }
def FnExactIsSequentialUptoCardSaid : Prop := Claim7.holds Tryd.pinned (.plain (OpenSpec.upto fnExactIsSequentialSpec)) fnExactIsSequentialUptoCard

/-- THE SECOND FORM's CARD OF 'laws.FnExactLinearOrder'. -/
def fnExactLinearOrderUptoCard : Claim7 := { stood := { row := fnExactLinearOrderUptoRow, standIns := [], harness := (true, "6ef43db32195c9d4a969994b9d0c04af77aa2a7d40e6582f4808ef638aa91e48"), looks := false }, kinds := [], alts := [], laidByText := true, laidKinds := [.data, .pinned], laidTests := true, laidLooks := .later }
def FnExactLinearOrderUptoCardSaid : Prop := Claim7.holds Tryd.pinned (.plain (OpenSpec.upto fnExactLinearOrderSpec)) fnExactLinearOrderUptoCard
end Rows
end Go.Proofs.YtdldndohfhcfnaaDoor
