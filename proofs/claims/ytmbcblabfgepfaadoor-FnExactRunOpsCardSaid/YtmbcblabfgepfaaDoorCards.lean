/-
  DERIVED. GIVEN WITH THE SEED: THE CARDS: each row of YtmbcblabfgepfaaDoorRows.lean that lists a variable, with what it lists TIED to the program's text (the seventh form; the later family's looks); each row that meets fmt, with fmt's text TOLD by the authors' own Lean function (tested against real Go, not proved from fmt's source: count such statements apart). THE CARD IS WHAT COUNTS. Prove the row's statement (the work); the ties are given (YtmbcblabfgepfaaDoorTie.lean); close each card by the builder's one call (the guide's Derived/Test/ToyasCard.lean, 'card_holds'). Laid BY PROGRAM, IN A SANDBOX (cutbox-door.mjs). By AI agents, Wed Nov 11 2026. No macro, syntax, notation, axiom, sorry.
-/
import Derived.Test.YtmbcblabfgepfaaDoorRows
import GoSem.ClaimSeven
namespace Go.Proofs.YtmbcblabfgepfaaDoor
namespace Rows

/-- THE TIED CARD OF 'laws.FnExactRunOps'. -/
def fnExactRunOpsCard : Claim7 := { stood := { row := fnExactRunOpsRow, standIns := [], harness := (true, "8dfe117a6d44bee025ce220878915de98330d861e9c418ddcf72d6461eaebcce"), looks := false }, kinds := [], alts := [], laidByText := true, laidKinds := [.data, .data, .data, .data, .pinned], laidTests := true, laidLooks := .later }
def FnExactRunOpsCardSaid : Prop := Claim7.holds Tryd.pinned (.plain (OpenSpec.ofChange fnExactRunOpsSpec)) fnExactRunOpsCard

/-- THE SECOND FORM's CARD OF 'laws.FnExactRunOps'. -/
def fnExactRunOpsUptoCard : Claim7 := { stood := { row := fnExactRunOpsUptoRow, standIns := [], harness := (true, "8dfe117a6d44bee025ce220878915de98330d861e9c418ddcf72d6461eaebcce"), looks := false }, kinds := [], alts := [], laidByText := true, laidKinds := [.data, .data, .data, .data, .pinned], laidTests := true, laidLooks := .later }
def FnExactRunOpsUptoCardSaid : Prop := Claim7.holds Tryd.pinned (.plain (OpenSpec.upto fnExactRunOpsSpec)) fnExactRunOpsUptoCard
end Rows
end Go.Proofs.YtmbcblabfgepfaaDoor
