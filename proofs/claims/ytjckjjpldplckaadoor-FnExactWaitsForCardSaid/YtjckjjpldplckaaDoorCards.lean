/-
  DERIVED. GIVEN WITH THE SEED: THE CARDS: each row of YtjckjjpldplckaaDoorRows.lean that lists a variable, with what it lists TIED to the program's text (the seventh form; the later family's looks); each row that meets fmt, with fmt's text TOLD by the authors' own Lean function (tested against real Go, not proved from fmt's source: count such statements apart). THE CARD IS WHAT COUNTS. Prove the row's statement (the work); the ties are given (YtjckjjpldplckaaDoorTie.lean); close each card by the builder's one call (the guide's Derived/Test/ToyasCard.lean, 'card_holds'). Laid BY PROGRAM, IN A SANDBOX (cutbox-door.mjs). By AI agents, Wed Nov 11 2026. No macro, syntax, notation, axiom, sorry.
-/
import Derived.Test.YtjckjjpldplckaaDoorRows
import GoSem.ClaimSeven
namespace Go.Proofs.YtjckjjpldplckaaDoor
namespace Rows

/-- THE TIED CARD OF 'laws.FnExactGoodLocks'. -/
def fnExactGoodLocksCard : Claim7 := { stood := { row := fnExactGoodLocksRow, standIns := [], harness := (true, "3de940f44d3cf4a7f060aa7eb9ac5602673ad26047ddb5357dbf5fd17b0f1254"), looks := false }, kinds := [], alts := [], laidByText := true, laidKinds := [.data, .pinned], laidTests := true, laidLooks := .later }
def FnExactGoodLocksCardSaid : Prop := Claim7.holds Tryd.pinned (.plain (OpenSpec.ofChange fnExactGoodLocksSpec)) fnExactGoodLocksCard

/-- THE TIED CARD OF 'laws.FnExactHolderOf'. -/
def fnExactHolderOfCard : Claim7 := { stood := { row := fnExactHolderOfRow, standIns := [], harness := (true, "3de940f44d3cf4a7f060aa7eb9ac5602673ad26047ddb5357dbf5fd17b0f1254"), looks := false }, kinds := [], alts := [], laidByText := true, laidKinds := [.data, .pinned], laidTests := true, laidLooks := .later }
def FnExactHolderOfCardSaid : Prop := Claim7.holds Tryd.pinned (.plain (OpenSpec.ofChange fnExactHolderOfSpec)) fnExactHolderOfCard

/-- THE TIED CARD OF 'laws.FnExactReleaseAll'. -/
def fnExactReleaseAllCard : Claim7 := { stood := { row := fnExactReleaseAllRow, standIns := [], harness := (true, "3de940f44d3cf4a7f060aa7eb9ac5602673ad26047ddb5357dbf5fd17b0f1254"), looks := false }, kinds := [], alts := [], laidByText := true, laidKinds := [.data, .pinned], laidTests := true, laidLooks := .later }
def FnExactReleaseAllCardSaid : Prop := Claim7.holds Tryd.pinned (.plain (OpenSpec.ofChange fnExactReleaseAllSpec)) fnExactReleaseAllCard

/-- THE TIED CARD OF 'laws.FnExactAskLock'. -/
def fnExactAskLockCard : Claim7 := { stood := { row := fnExactAskLockRow, standIns := [], harness := (true, "3de940f44d3cf4a7f060aa7eb9ac5602673ad26047ddb5357dbf5fd17b0f1254"), looks := false }, kinds := [], alts := [], laidByText := true, laidKinds := [.data, .pinned], laidTests := true, laidLooks := .later }
def FnExactAskLockCardSaid : Prop := Claim7.holds Tryd.pinned (.plain (OpenSpec.ofChange fnExactAskLockSpec)) fnExactAskLockCard

/-- THE TIED CARD OF 'laws.FnExactPlayLocks'. -/
def fnExactPlayLocksCard : Claim7 := { stood := { row := fnExactPlayLocksRow, standIns := [], harness := (true, "3de940f44d3cf4a7f060aa7eb9ac5602673ad26047ddb5357dbf5fd17b0f1254"), looks := false }, kinds := [], alts := [], laidByText := true, laidKinds := [.data, .pinned], laidTests := true, laidLooks := .later }
def FnExactPlayLocksCardSaid : Prop := Claim7.holds Tryd.pinned (.plain (OpenSpec.ofChange fnExactPlayLocksSpec)) fnExactPlayLocksCard

/-- THE TIED CARD OF 'laws.FnExactWaitsFor'. -/
def fnExactWaitsForCard : Claim7 := { stood := { row := fnExactWaitsForRow, standIns := [], harness := (true, "3de940f44d3cf4a7f060aa7eb9ac5602673ad26047ddb5357dbf5fd17b0f1254"), looks := false }, kinds := [], alts := [], laidByText := true, laidKinds := [.data, .pinned], laidTests := true, laidLooks := .later }
def FnExactWaitsForCardSaid : Prop := Claim7.holds Tryd.pinned (.plain (OpenSpec.ofChange fnExactWaitsForSpec)) fnExactWaitsForCard

/-- THE SECOND FORM's CARD OF 'laws.FnExactGoodLocks'. -/
def fnExactGoodLocksUptoCard : Claim7 := { stood := { row := fnExactGoodLocksUptoRow, standIns := [], harness := (true, "3de940f44d3cf4a7f060aa7eb9ac5602673ad26047ddb5357dbf5fd17b0f1254"), looks := false }, kinds := [], alts := [], laidByText := true, laidKinds := [.data, .pinned], laidTests := true, laidLooks := .later }
def FnExactGoodLocksUptoCardSaid : Prop := Claim7.holds Tryd.pinned (.plain (OpenSpec.upto fnExactGoodLocksSpec)) fnExactGoodLocksUptoCard

/-- THE SECOND FORM's CARD OF 'laws.FnExactHolderOf'. -/
def fnExactHolderOfUptoCard : Claim7 := { stood := { row := fnExactHolderOfUptoRow, standIns := [], harness := (true, "3de940f44d3cf4a7f060aa7eb9ac5602673ad26047ddb5357dbf5fd17b0f1254"), looks := false }, kinds := [], alts := [], laidByText := true, laidKinds := [.data, .pinned], laidTests := true, laidLooks := .later }
def FnExactHolderOfUptoCardSaid : Prop := Claim7.holds Tryd.pinned (.plain (OpenSpec.upto fnExactHolderOfSpec)) fnExactHolderOfUptoCard

/-- THE SECOND FORM's CARD OF 'laws.FnExactReleaseAll'. -/
def fnExactReleaseAllUptoCard : Claim7 := { stood := { row := fnExactReleaseAllUptoRow, standIns := [], harness := (true, "3de940f44d3cf4a7f060aa7eb9ac5602673ad26047ddb5357dbf5fd17b0f1254"), looks := false }, kinds := [], alts := [], laidByText := true, laidKinds := [.data, .pinned], laidTests := true, laidLooks := .later }
def FnExactReleaseAllUptoCardSaid : Prop := Claim7.holds Tryd.pinned (.plain (OpenSpec.upto fnExactReleaseAllSpec)) fnExactReleaseAllUptoCard

/-- THE SECOND FORM's CARD OF 'laws.FnExactAskLock'. -/
def fnExactAskLockUptoCard : Claim7 := { stood := { row := fnExactAskLockUptoRow, standIns := [], harness := (true, "3de940f44d3cf4a7f060aa7eb9ac5602673ad26047ddb5357dbf5fd17b0f1254"), looks := false }, kinds := [], alts := [], laidByText := true, laidKinds := [.data, .pinned], laidTests := true, laidLooks := .later }
def FnExactAskLockUptoCardSaid : Prop := Claim7.holds Tryd.pinned (.plain (OpenSpec.upto fnExactAskLockSpec)) fnExactAskLockUptoCard

/-- THE SECOND FORM's CARD OF 'laws.FnExactPlayLocks'. -/
def fnExactPlayLocksUptoCard : Claim7 := { stood := { row := fnExactPlayLocksUptoRow, standIns := [], harness := (true, "3de940f44d3cf4a7f060aa7eb9ac5602673ad26047ddb5357dbf5fd17b0f1254"), looks := false }, kinds := [], alts := [], laidByText := true, laidKinds := [.data, .pinned], laidTests := true, laidLooks := .later }
def FnExactPlayLocksUptoCardSaid : Prop := Claim7.holds Tryd.pinned (.plain (OpenSpec.upto fnExactPlayLocksSpec)) fnExactPlayLocksUptoCard

/-- THE SECOND FORM's CARD OF 'laws.FnExactWaitsFor'. -/
def fnExactWaitsForUptoCard : Claim7 := { stood := { row := fnExactWaitsForUptoRow, standIns := [], harness := (true, "3de940f44d3cf4a7f060aa7eb9ac5602673ad26047ddb5357dbf5fd17b0f1254"), looks := false }, kinds := [], alts := [], laidByText := true, laidKinds := [.data, .pinned], laidTests := true, laidLooks := .later }
def FnExactWaitsForUptoCardSaid : Prop := Claim7.holds Tryd.pinned (.plain (OpenSpec.upto fnExactWaitsForSpec)) fnExactWaitsForUptoCard
end Rows
end Go.Proofs.YtjckjjpldplckaaDoor
