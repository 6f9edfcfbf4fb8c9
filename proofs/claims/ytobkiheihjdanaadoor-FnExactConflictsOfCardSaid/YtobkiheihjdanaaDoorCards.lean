/-
  DERIVED. GIVEN WITH THE SEED: THE CARDS: each row of YtobkiheihjdanaaDoorRows.lean that lists a variable, with what it lists TIED to the program's text (the seventh form; the later family's looks); each row that meets fmt, with fmt's text TOLD by the authors' own Lean function (tested against real Go, not proved from fmt's source: count such statements apart). THE CARD IS WHAT COUNTS. Prove the row's statement (the work); the ties are given (YtobkiheihjdanaaDoorTie.lean); close each card by the builder's one call (the guide's Derived/Test/ToyasCard.lean, 'card_holds'). Laid BY PROGRAM, IN A SANDBOX (cutbox-door.mjs). By AI agents, Wed Nov 11 2026. No macro, syntax, notation, axiom, sorry.
-/
import Derived.Test.YtobkiheihjdanaaDoorRows
import GoSem.ClaimSeven
namespace Go.Proofs.YtobkiheihjdanaaDoor
namespace Rows

/-- THE TIED CARD OF 'laws.FnExactGoodOps'. -/
def fnExactGoodOpsCard : Claim7 := { stood := { row := fnExactGoodOpsRow, standIns := [], harness := (true, "6cec8e2a51e412237ad45d3f72d5b3fba5da4778b4e22f43ee866a2237f721b6"), looks := false }, kinds := [], alts := [], laidByText := true, laidKinds := [.data, .pinned], laidTests := true, laidLooks := .later }
def FnExactGoodOpsCardSaid : Prop := Claim7.holds Tryd.pinned (.plain (OpenSpec.ofChange fnExactGoodOpsSpec)) fnExactGoodOpsCard

/-- THE TIED CARD OF 'laws.FnExactRecoverableOf'. -/
def fnExactRecoverableOfCard : Claim7 := { stood := { row := fnExactRecoverableOfRow, standIns := [], harness := (true, "6cec8e2a51e412237ad45d3f72d5b3fba5da4778b4e22f43ee866a2237f721b6"), looks := false }, kinds := [], alts := [], laidByText := true, laidKinds := [.data, .pinned], laidTests := true, laidLooks := .later }
def FnExactRecoverableOfCardSaid : Prop := Claim7.holds Tryd.pinned (.plain (OpenSpec.ofChange fnExactRecoverableOfSpec)) fnExactRecoverableOfCard

/-- THE TIED CARD OF 'laws.FnExactReadsFrom'. -/
def fnExactReadsFromCard : Claim7 := { stood := { row := fnExactReadsFromRow, standIns := [], harness := (true, "6cec8e2a51e412237ad45d3f72d5b3fba5da4778b4e22f43ee866a2237f721b6"), looks := false }, kinds := [], alts := [], laidByText := true, laidKinds := [.data, .pinned], laidTests := true, laidLooks := .later }
def FnExactReadsFromCardSaid : Prop := Claim7.holds Tryd.pinned (.plain (OpenSpec.ofChange fnExactReadsFromSpec)) fnExactReadsFromCard

/-- THE TIED CARD OF 'laws.FnExactIsTwoPhase'. -/
def fnExactIsTwoPhaseCard : Claim7 := { stood := { row := fnExactIsTwoPhaseRow, standIns := [], harness := (true, "6cec8e2a51e412237ad45d3f72d5b3fba5da4778b4e22f43ee866a2237f721b6"), looks := false }, kinds := [], alts := [], laidByText := true, laidKinds := [.data, .pinned], laidTests := true, laidLooks := .later }
def FnExactIsTwoPhaseCardSaid : Prop := Claim7.holds Tryd.pinned (.plain (OpenSpec.ofChange fnExactIsTwoPhaseSpec)) fnExactIsTwoPhaseCard

/-- THE TIED CARD OF 'laws.FnExactSerialOps'. -/
def fnExactSerialOpsCard : Claim7 := { stood := { row := fnExactSerialOpsRow, standIns := [], harness := (true, "6cec8e2a51e412237ad45d3f72d5b3fba5da4778b4e22f43ee866a2237f721b6"), looks := false }, kinds := [], alts := [], laidByText := true, laidKinds := [.data, .pinned], laidTests := true, laidLooks := .later }
def FnExactSerialOpsCardSaid : Prop := Claim7.holds Tryd.pinned (.plain (OpenSpec.ofChange fnExactSerialOpsSpec)) fnExactSerialOpsCard

/-- THE TIED CARD OF 'laws.FnExactConflictsOf'. -/
def fnExactConflictsOfCard : Claim7 := { stood := { row := fnExactConflictsOfRow, standIns := [], harness := (true, "6cec8e2a51e412237ad45d3f72d5b3fba5da4778b4e22f43ee866a2237f721b6"), looks := false }, kinds := [], alts := [], laidByText := true, laidKinds := [.data, .pinned], laidTests := true, laidLooks := .later }
def FnExactConflictsOfCardSaid : Prop := Claim7.holds Tryd.pinned (.plain (OpenSpec.ofChange fnExactConflictsOfSpec)) fnExactConflictsOfCard

/-- THE TIED CARD OF 'laws.FnExactSerialOrder'. -/
def fnExactSerialOrderCard : Claim7 := { stood := { row := fnExactSerialOrderRow, standIns := [], harness := (true, "6cec8e2a51e412237ad45d3f72d5b3fba5da4778b4e22f43ee866a2237f721b6"), looks := false }, kinds := [], alts := [], laidByText := true, laidKinds := [.data, .pinned], laidTests := true, laidLooks := .later }
def FnExactSerialOrderCardSaid : Prop := Claim7.holds Tryd.pinned (.plain (OpenSpec.ofChange fnExactSerialOrderSpec)) fnExactSerialOrderCard

/-- THE TIED CARD OF 'laws.FnExactRunOps'. -/
def fnExactRunOpsCard : Claim7 := { stood := { row := fnExactRunOpsRow, standIns := [], harness := (true, "6cec8e2a51e412237ad45d3f72d5b3fba5da4778b4e22f43ee866a2237f721b6"), looks := false }, kinds := [], alts := [], laidByText := true, laidKinds := [.data, .data, .data, .data, .pinned], laidTests := true, laidLooks := .later }
def FnExactRunOpsCardSaid : Prop := Claim7.holds Tryd.pinned (.plain (OpenSpec.ofChange fnExactRunOpsSpec)) fnExactRunOpsCard

/-- THE SECOND FORM's CARD OF 'laws.FnExactGoodOps'. -/
def fnExactGoodOpsUptoCard : Claim7 := { stood := { row := fnExactGoodOpsUptoRow, standIns := [], harness := (true, "6cec8e2a51e412237ad45d3f72d5b3fba5da4778b4e22f43ee866a2237f721b6"), looks := false }, kinds := [], alts := [], laidByText := true, laidKinds := [.data, .pinned], laidTests := true, laidLooks := .later }
def FnExactGoodOpsUptoCardSaid : Prop := Claim7.holds Tryd.pinned (.plain (OpenSpec.upto fnExactGoodOpsSpec)) fnExactGoodOpsUptoCard

/-- THE SECOND FORM's CARD OF 'laws.FnExactRecoverableOf'. -/
def fnExactRecoverableOfUptoCard : Claim7 := { stood := { row := fnExactRecoverableOfUptoRow, standIns := [], harness := (true, "6cec8e2a51e412237ad45d3f72d5b3fba5da4778b4e22f43ee866a2237f721b6"), looks := false }, kinds := [], alts := [], laidByText := true, laidKinds := [.data, .pinned], laidTests := true, laidLooks := .later }
def FnExactRecoverableOfUptoCardSaid : Prop := Claim7.holds Tryd.pinned (.plain (OpenSpec.upto fnExactRecoverableOfSpec)) fnExactRecoverableOfUptoCard

/-- THE SECOND FORM's CARD OF 'laws.FnExactReadsFrom'. -/
def fnExactReadsFromUptoCard : Claim7 := { stood := { row := fnExactReadsFromUptoRow, standIns := [], harness := (true, "6cec8e2a51e412237ad45d3f72d5b3fba5da4778b4e22f43ee866a2237f721b6"), looks := false }, kinds := [], alts := [], laidByText := true, laidKinds := [.data, .pinned], laidTests := true, laidLooks := .later }
def FnExactReadsFromUptoCardSaid : Prop := Claim7.holds Tryd.pinned (.plain (OpenSpec.upto fnExactReadsFromSpec)) fnExactReadsFromUptoCard

/-- THE SECOND FORM's CARD OF 'laws.FnExactIsTwoPhase'. -/
def fnExactIsTwoPhaseUptoCard : Claim7 := { stood := { row := fnExactIsTwoPhaseUptoRow, standIns := [], harness := (true, "6cec8e2a51e412237ad45d3f72d5b3fba5da4778b4e22f43ee866a2237f721b6"), looks := false }, kinds := [], alts := [], laidByText := true, laidKinds := [.data, .pinned], laidTests := true, laidLooks := .later }
def FnExactIsTwoPhaseUptoCardSaid : Prop := Claim7.holds Tryd.pinned (.plain (OpenSpec.upto fnExactIsTwoPhaseSpec)) fnExactIsTwoPhaseUptoCard

/-- THE SECOND FORM's CARD OF 'laws.FnExactSerialOps'. -/
def fnExactSerialOpsUptoCard : Claim7 := { stood := { row := fnExactSerialOpsUptoRow, standIns := [], harness := (true, "6cec8e2a51e412237ad45d3f72d5b3fba5da4778b4e22f43ee866a2237f721b6"), looks := false }, kinds := [], alts := [], laidByText := true, laidKinds := [.data, .pinned], laidTests := true, laidLooks := .later }
def FnExactSerialOpsUptoCardSaid : Prop := Claim7.holds Tryd.pinned (.plain (OpenSpec.upto fnExactSerialOpsSpec)) fnExactSerialOpsUptoCard

/-- THE SECOND FORM's CARD OF 'laws.FnExactConflictsOf'. -/
def fnExactConflictsOfUptoCard : Claim7 := { stood := { row := fnExactConflictsOfUptoRow, standIns := [], harness := (true, "6cec8e2a51e412237ad45d3f72d5b3fba5da4778b4e22f43ee866a2237f721b6"), looks := false }, kinds := [], alts := [], laidByText := true, laidKinds := [.data, .pinned], laidTests := true, laidLooks := .later }
def FnExactConflictsOfUptoCardSaid : Prop := Claim7.holds Tryd.pinned (.plain (OpenSpec.upto fnExactConflictsOfSpec)) fnExactConflictsOfUptoCard

/-- THE SECOND FORM's CARD OF 'laws.FnExactSerialOrder'. -/
def fnExactSerialOrderUptoCard : Claim7 := { stood := { row := fnExactSerialOrderUptoRow, standIns := [], harness := (true, "6cec8e2a51e412237ad45d3f72d5b3fba5da4778b4e22f43ee866a2237f721b6"), looks := false }, kinds := [], alts := [], laidByText := true, laidKinds := [.data, .pinned], laidTests := true, laidLooks := .later }
def FnExactSerialOrderUptoCardSaid : Prop := Claim7.holds Tryd.pinned (.plain (OpenSpec.upto fnExactSerialOrderSpec)) fnExactSerialOrderUptoCard

/-- THE SECOND FORM's CARD OF 'laws.FnExactRunOps'. -/
def fnExactRunOpsUptoCard : Claim7 := { stood := { row := fnExactRunOpsUptoRow, standIns := [], harness := (true, "6cec8e2a51e412237ad45d3f72d5b3fba5da4778b4e22f43ee866a2237f721b6"), looks := false }, kinds := [], alts := [], laidByText := true, laidKinds := [.data, .data, .data, .data, .pinned], laidTests := true, laidLooks := .later }
def FnExactRunOpsUptoCardSaid : Prop := Claim7.holds Tryd.pinned (.plain (OpenSpec.upto fnExactRunOpsSpec)) fnExactRunOpsUptoCard
end Rows
end Go.Proofs.YtobkiheihjdanaaDoor
