/-
  DERIVED. GIVEN WITH THE SEED: THE CARDS: each row of YtecddhkfhkpeaaaDoorRows.lean that lists a variable, with what it lists TIED to the program's text (the seventh form; the later family's looks); each row that meets fmt, with fmt's text TOLD by the authors' own Lean function (tested against real Go, not proved from fmt's source: count such statements apart). THE CARD IS WHAT COUNTS. Prove the row's statement (the work); the ties are given (YtecddhkfhkpeaaaDoorTie.lean); close each card by the builder's one call (the guide's Derived/Test/ToyasCard.lean, 'card_holds'). Laid BY PROGRAM, IN A SANDBOX (cutbox-door.mjs). By AI agents, Wed Nov 11 2026. No macro, syntax, notation, axiom, sorry.
-/
import Derived.Test.YtecddhkfhkpeaaaDoorRows
import GoSem.ClaimSeven
namespace Go.Proofs.YtecddhkfhkpeaaaDoor
namespace Rows

/-- THE TIED CARD OF 'laws.FnExactReadLog'. -/
def fnExactReadLogCard : Claim7 := { stood := { row := fnExactReadLogRow, standIns := [], harness := (true, "4b9f4c481e63f3e17e243f4c7cc250d366f993ddbe58b342f44a64e7243acfdf"), looks := true }, kinds := [], alts := [], laidByText := true, laidKinds := [.data, .data, .data, .data, .sentinel, .sentinel, .pinned], laidTests := true, laidLooks := .later }
def FnExactReadLogCardSaid : Prop := Claim7.holds Tryd.pinned (.plain (OpenSpec.ofChange fnExactReadLogSpec)) fnExactReadLogCard

/-- THE SECOND FORM's CARD OF 'laws.FnExactReadLog'. -/
def fnExactReadLogUptoCard : Claim7 := { stood := { row := fnExactReadLogUptoRow, standIns := [], harness := (true, "4b9f4c481e63f3e17e243f4c7cc250d366f993ddbe58b342f44a64e7243acfdf"), looks := true }, kinds := [], alts := [], laidByText := true, laidKinds := [.data, .data, .data, .data, .sentinel, .sentinel, .pinned], laidTests := true, laidLooks := .later }
def FnExactReadLogUptoCardSaid : Prop := Claim7.holds Tryd.pinned (.plain (OpenSpec.upto fnExactReadLogSpec)) fnExactReadLogUptoCard
end Rows
end Go.Proofs.YtecddhkfhkpeaaaDoor
