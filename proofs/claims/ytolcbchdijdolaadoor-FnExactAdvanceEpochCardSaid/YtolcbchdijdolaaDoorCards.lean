/-
  DERIVED. GIVEN WITH THE SEED: THE CARDS: each row of YtolcbchdijdolaaDoorRows.lean that lists a variable, with what it lists TIED to the program's text (the seventh form; the later family's looks); each row that meets fmt, with fmt's text TOLD by the authors' own Lean function (tested against real Go, not proved from fmt's source: count such statements apart). THE CARD IS WHAT COUNTS. Prove the row's statement (the work); the ties are given (YtolcbchdijdolaaDoorTie.lean); close each card by the builder's one call (the guide's Derived/Test/ToyasCard.lean, 'card_holds'). Laid BY PROGRAM, IN A SANDBOX (cutbox-door.mjs). By AI agents, Wed Nov 11 2026. No macro, syntax, notation, axiom, sorry.
-/
import Derived.Test.YtolcbchdijdolaaDoorRows
import GoSem.ClaimSeven
namespace Go.Proofs.YtolcbchdijdolaaDoor
namespace Rows

/-- THE TIED CARD OF 'laws.FnExactGoodStore'. -/
def fnExactGoodStoreCard : Claim7 := { stood := { row := fnExactGoodStoreRow, standIns := [], harness := (true, "f6ce0c044a11cdde4e926a0ee209f8726fe8e7634ef826c5653c17a71a3aaf85"), looks := false }, kinds := [], alts := [], laidByText := true, laidKinds := [.data, .pinned], laidTests := true, laidLooks := .later }
def FnExactGoodStoreCardSaid : Prop := Claim7.holds Tryd.pinned (.plain (OpenSpec.ofChange fnExactGoodStoreSpec)) fnExactGoodStoreCard

/-- THE TIED CARD OF 'laws.FnExactLookUp'. -/
def fnExactLookUpCard : Claim7 := { stood := { row := fnExactLookUpRow, standIns := [], harness := (true, "f6ce0c044a11cdde4e926a0ee209f8726fe8e7634ef826c5653c17a71a3aaf85"), looks := false }, kinds := [], alts := [], laidByText := true, laidKinds := [.data, .pinned], laidTests := true, laidLooks := .later }
def FnExactLookUpCardSaid : Prop := Claim7.holds Tryd.pinned (.plain (OpenSpec.ofChange fnExactLookUpSpec)) fnExactLookUpCard

/-- THE TIED CARD OF 'laws.FnExactMapOf'. -/
def fnExactMapOfCard : Claim7 := { stood := { row := fnExactMapOfRow, standIns := [], harness := (true, "f6ce0c044a11cdde4e926a0ee209f8726fe8e7634ef826c5653c17a71a3aaf85"), looks := false }, kinds := [], alts := [], laidByText := true, laidKinds := [.data, .pinned], laidTests := true, laidLooks := .later }
def FnExactMapOfCardSaid : Prop := Claim7.holds Tryd.pinned (.plain (OpenSpec.ofChange fnExactMapOfSpec)) fnExactMapOfCard

/-- THE TIED CARD OF 'laws.FnExactAdvanceEpoch'. -/
def fnExactAdvanceEpochCard : Claim7 := { stood := { row := fnExactAdvanceEpochRow, standIns := [], harness := (true, "f6ce0c044a11cdde4e926a0ee209f8726fe8e7634ef826c5653c17a71a3aaf85"), looks := false }, kinds := [], alts := [], laidByText := true, laidKinds := [.data, .pinned], laidTests := true, laidLooks := .later }
def FnExactAdvanceEpochCardSaid : Prop := Claim7.holds Tryd.pinned (.plain (OpenSpec.ofChange fnExactAdvanceEpochSpec)) fnExactAdvanceEpochCard

/-- THE SECOND FORM's CARD OF 'laws.FnExactGoodStore'. -/
def fnExactGoodStoreUptoCard : Claim7 := { stood := { row := fnExactGoodStoreUptoRow, standIns := [], harness := (true, "f6ce0c044a11cdde4e926a0ee209f8726fe8e7634ef826c5653c17a71a3aaf85"), looks := false }, kinds := [], alts := [], laidByText := true, laidKinds := [.data, .pinned], laidTests := true, laidLooks := .later }
def FnExactGoodStoreUptoCardSaid : Prop := Claim7.holds Tryd.pinned (.plain (OpenSpec.upto fnExactGoodStoreSpec)) fnExactGoodStoreUptoCard

/-- THE SECOND FORM's CARD OF 'laws.FnExactLookUp'. -/
def fnExactLookUpUptoCard : Claim7 := { stood := { row := fnExactLookUpUptoRow, standIns := [], harness := (true, "f6ce0c044a11cdde4e926a0ee209f8726fe8e7634ef826c5653c17a71a3aaf85"), looks := false }, kinds := [], alts := [], laidByText := true, laidKinds := [.data, .pinned], laidTests := true, laidLooks := .later }
def FnExactLookUpUptoCardSaid : Prop := Claim7.holds Tryd.pinned (.plain (OpenSpec.upto fnExactLookUpSpec)) fnExactLookUpUptoCard

/-- THE SECOND FORM's CARD OF 'laws.FnExactMapOf'. -/
def fnExactMapOfUptoCard : Claim7 := { stood := { row := fnExactMapOfUptoRow, standIns := [], harness := (true, "f6ce0c044a11cdde4e926a0ee209f8726fe8e7634ef826c5653c17a71a3aaf85"), looks := false }, kinds := [], alts := [], laidByText := true, laidKinds := [.data, .pinned], laidTests := true, laidLooks := .later }
def FnExactMapOfUptoCardSaid : Prop := Claim7.holds Tryd.pinned (.plain (OpenSpec.upto fnExactMapOfSpec)) fnExactMapOfUptoCard

/-- THE SECOND FORM's CARD OF 'laws.FnExactAdvanceEpoch'. -/
def fnExactAdvanceEpochUptoCard : Claim7 := { stood := { row := fnExactAdvanceEpochUptoRow, standIns := [], harness := (true, "f6ce0c044a11cdde4e926a0ee209f8726fe8e7634ef826c5653c17a71a3aaf85"), looks := false }, kinds := [], alts := [], laidByText := true, laidKinds := [.data, .pinned], laidTests := true, laidLooks := .later }
def FnExactAdvanceEpochUptoCardSaid : Prop := Claim7.holds Tryd.pinned (.plain (OpenSpec.upto fnExactAdvanceEpochSpec)) fnExactAdvanceEpochUptoCard
end Rows
end Go.Proofs.YtolcbchdijdolaaDoor
