/-
  DERIVED. GIVEN WITH THE SEED: THE CARDS: each row of YtaenobdphjindaaDoorRows.lean that lists a variable, with what it lists TIED to the program's text (the seventh form; the later family's looks); each row that meets fmt, with fmt's text TOLD by the authors' own Lean function (tested against real Go, not proved from fmt's source: count such statements apart). THE CARD IS WHAT COUNTS. Prove the row's statement (the work); the ties are given (YtaenobdphjindaaDoorTie.lean); close each card by the builder's one call (the guide's Derived/Test/ToyasCard.lean, 'card_holds'). Laid BY PROGRAM, IN A SANDBOX (cutbox-door.mjs). By AI agents, Wed Nov 11 2026. No macro, syntax, notation, axiom, sorry.
-/
import Derived.Test.YtaenobdphjindaaDoorRows
import GoSem.ClaimSeven
namespace Go.Proofs.YtaenobdphjindaaDoor
namespace Rows

/-- THE TIED CARD OF 'laws.FnExactGoodLog'. -/
def fnExactGoodLogCard : Claim7 := { stood := { row := fnExactGoodLogRow, standIns := [], harness := (true, "8090b437609d8ddc8f45e130c467dbe50067a884ed47c821a59ef8774674732b"), looks := true }, kinds := [], alts := [], laidByText := true, laidKinds := [.data, .pinned], laidTests := true, laidLooks := .later }
def FnExactGoodLogCardSaid : Prop := Claim7.holds Tryd.pinned (.plain (OpenSpec.ofChange fnExactGoodLogSpec)) fnExactGoodLogCard

/-- THE TIED CARD OF 'laws.FnExactMergeLogs'. -/
def fnExactMergeLogsCard : Claim7 := { stood := { row := fnExactMergeLogsRow, standIns := [], harness := (true, "8090b437609d8ddc8f45e130c467dbe50067a884ed47c821a59ef8774674732b"), looks := true }, kinds := [], alts := [], laidByText := true, laidKinds := [.data, .pinned], laidTests := true, laidLooks := .later }
def FnExactMergeLogsCardSaid : Prop := Claim7.holds Tryd.pinned (.plain (OpenSpec.ofChange fnExactMergeLogsSpec)) fnExactMergeLogsCard

/-- THE TIED CARD OF 'laws.FnExactLogText'. -/
def fnExactLogTextCard : Claim7 := { stood := { row := fnExactLogTextRow, standIns := [], harness := (true, "8090b437609d8ddc8f45e130c467dbe50067a884ed47c821a59ef8774674732b"), looks := true }, kinds := [], alts := [], laidByText := true, laidKinds := [.data, .data, .data, .data, .pinned], laidTests := true, laidLooks := .later }
def FnExactLogTextCardSaid : Prop := Claim7.holds Tryd.pinned (.plain (OpenSpec.ofChange fnExactLogTextSpec)) fnExactLogTextCard

/-- THE TIED CARD OF 'laws.FnExactCompactLog'. -/
def fnExactCompactLogCard : Claim7 := { stood := { row := fnExactCompactLogRow, standIns := [], harness := (true, "8090b437609d8ddc8f45e130c467dbe50067a884ed47c821a59ef8774674732b"), looks := true }, kinds := [], alts := [], laidByText := true, laidKinds := [.data, .pinned], laidTests := true, laidLooks := .later }
def FnExactCompactLogCardSaid : Prop := Claim7.holds Tryd.pinned (.plain (OpenSpec.ofChange fnExactCompactLogSpec)) fnExactCompactLogCard

/-- THE TIED CARD OF 'laws.FnExactTruncateLog'. -/
def fnExactTruncateLogCard : Claim7 := { stood := { row := fnExactTruncateLogRow, standIns := [], harness := (true, "8090b437609d8ddc8f45e130c467dbe50067a884ed47c821a59ef8774674732b"), looks := true }, kinds := [], alts := [], laidByText := true, laidKinds := [.data, .pinned], laidTests := true, laidLooks := .later }
def FnExactTruncateLogCardSaid : Prop := Claim7.holds Tryd.pinned (.plain (OpenSpec.ofChange fnExactTruncateLogSpec)) fnExactTruncateLogCard

/-- THE TIED CARD OF 'laws.FnExactReplayLog'. -/
def fnExactReplayLogCard : Claim7 := { stood := { row := fnExactReplayLogRow, standIns := [], harness := (true, "8090b437609d8ddc8f45e130c467dbe50067a884ed47c821a59ef8774674732b"), looks := true }, kinds := [], alts := [], laidByText := true, laidKinds := [.data, .pinned], laidTests := true, laidLooks := .later }
def FnExactReplayLogCardSaid : Prop := Claim7.holds Tryd.pinned (.plain (OpenSpec.ofChange fnExactReplayLogSpec)) fnExactReplayLogCard

/-- THE TIED CARD OF 'laws.FnExactReadLog'. -/
def fnExactReadLogCard : Claim7 := { stood := { row := fnExactReadLogRow, standIns := [], harness := (true, "8090b437609d8ddc8f45e130c467dbe50067a884ed47c821a59ef8774674732b"), looks := true }, kinds := [], alts := [], laidByText := true, laidKinds := [.data, .data, .data, .data, .sentinel, .sentinel, .pinned], laidTests := true, laidLooks := .later }
def FnExactReadLogCardSaid : Prop := Claim7.holds Tryd.pinned (.plain (OpenSpec.ofChange fnExactReadLogSpec)) fnExactReadLogCard

/-- THE SECOND FORM's CARD OF 'laws.FnExactGoodLog'. -/
def fnExactGoodLogUptoCard : Claim7 := { stood := { row := fnExactGoodLogUptoRow, standIns := [], harness := (true, "8090b437609d8ddc8f45e130c467dbe50067a884ed47c821a59ef8774674732b"), looks := true }, kinds := [], alts := [], laidByText := true, laidKinds := [.data, .pinned], laidTests := true, laidLooks := .later }
def FnExactGoodLogUptoCardSaid : Prop := Claim7.holds Tryd.pinned (.plain (OpenSpec.upto fnExactGoodLogSpec)) fnExactGoodLogUptoCard

/-- THE SECOND FORM's CARD OF 'laws.FnExactMergeLogs'. -/
def fnExactMergeLogsUptoCard : Claim7 := { stood := { row := fnExactMergeLogsUptoRow, standIns := [], harness := (true, "8090b437609d8ddc8f45e130c467dbe50067a884ed47c821a59ef8774674732b"), looks := true }, kinds := [], alts := [], laidByText := true, laidKinds := [.data, .pinned], laidTests := true, laidLooks := .later }
def FnExactMergeLogsUptoCardSaid : Prop := Claim7.holds Tryd.pinned (.plain (OpenSpec.upto fnExactMergeLogsSpec)) fnExactMergeLogsUptoCard

/-- THE SECOND FORM's CARD OF 'laws.FnExactLogText'. -/
def fnExactLogTextUptoCard : Claim7 := { stood := { row := fnExactLogTextUptoRow, standIns := [], harness := (true, "8090b437609d8ddc8f45e130c467dbe50067a884ed47c821a59ef8774674732b"), looks := true }, kinds := [], alts := [], laidByText := true, laidKinds := [.data, .data, .data, .data, .pinned], laidTests := true, laidLooks := .later }
def FnExactLogTextUptoCardSaid : Prop := Claim7.holds Tryd.pinned (.plain (OpenSpec.upto fnExactLogTextSpec)) fnExactLogTextUptoCard

/-- THE SECOND FORM's CARD OF 'laws.FnExactCompactLog'. -/
def fnExactCompactLogUptoCard : Claim7 := { stood := { row := fnExactCompactLogUptoRow, standIns := [], harness := (true, "8090b437609d8ddc8f45e130c467dbe50067a884ed47c821a59ef8774674732b"), looks := true }, kinds := [], alts := [], laidByText := true, laidKinds := [.data, .pinned], laidTests := true, laidLooks := .later }
def FnExactCompactLogUptoCardSaid : Prop := Claim7.holds Tryd.pinned (.plain (OpenSpec.upto fnExactCompactLogSpec)) fnExactCompactLogUptoCard

/-- THE SECOND FORM's CARD OF 'laws.FnExactTruncateLog'. -/
def fnExactTruncateLogUptoCard : Claim7 := { stood := { row := fnExactTruncateLogUptoRow, standIns := [], harness := (true, "8090b437609d8ddc8f45e130c467dbe50067a884ed47c821a59ef8774674732b"), looks := true }, kinds := [], alts := [], laidByText := true, laidKinds := [.data, .pinned], laidTests := true, laidLooks := .later }
def FnExactTruncateLogUptoCardSaid : Prop := Claim7.holds Tryd.pinned (.plain (OpenSpec.upto fnExactTruncateLogSpec)) fnExactTruncateLogUptoCard

/-- THE SECOND FORM's CARD OF 'laws.FnExactReplayLog'. -/
def fnExactReplayLogUptoCard : Claim7 := { stood := { row := fnExactReplayLogUptoRow, standIns := [], harness := (true, "8090b437609d8ddc8f45e130c467dbe50067a884ed47c821a59ef8774674732b"), looks := true }, kinds := [], alts := [], laidByText := true, laidKinds := [.data, .pinned], laidTests := true, laidLooks := .later }
def FnExactReplayLogUptoCardSaid : Prop := Claim7.holds Tryd.pinned (.plain (OpenSpec.upto fnExactReplayLogSpec)) fnExactReplayLogUptoCard

/-- THE SECOND FORM's CARD OF 'laws.FnExactReadLog'. -/
def fnExactReadLogUptoCard : Claim7 := { stood := { row := fnExactReadLogUptoRow, standIns := [], harness := (true, "8090b437609d8ddc8f45e130c467dbe50067a884ed47c821a59ef8774674732b"), looks := true }, kinds := [], alts := [], laidByText := true, laidKinds := [.data, .data, .data, .data, .sentinel, .sentinel, .pinned], laidTests := true, laidLooks := .later }
def FnExactReadLogUptoCardSaid : Prop := Claim7.holds Tryd.pinned (.plain (OpenSpec.upto fnExactReadLogSpec)) fnExactReadLogUptoCard
end Rows
end Go.Proofs.YtaenobdphjindaaDoor
