/-
  DERIVED. GIVEN WITH THE SEED: THE CARDS: each row of YtmfcblbpicbhoaaDoorRows.lean that lists a variable, with what it lists TIED to the program's text (the seventh form; the later family's looks); each row that meets fmt, with fmt's text TOLD by the authors' own Lean function (tested against real Go, not proved from fmt's source: count such statements apart). THE CARD IS WHAT COUNTS. Prove the row's statement (the work); the ties are given (YtmfcblbpicbhoaaDoorTie.lean); close each card by the builder's one call (the guide's Derived/Test/ToyasCard.lean, 'card_holds'). Laid BY PROGRAM, IN A SANDBOX (cutbox-door.mjs). By AI agents, Wed Nov 11 2026. No macro, syntax, notation, axiom, sorry.
-/
import Derived.Test.YtmfcblbpicbhoaaDoorRows
import GoSem.ClaimSeven
namespace Go.Proofs.YtmfcblbpicbhoaaDoor
namespace Rows

/-- THE TIED CARD OF 'laws.FnExactGoodMsg'. -/
def fnExactGoodMsgCard : Claim7 := { stood := { row := fnExactGoodMsgRow, standIns := [], harness := (true, "2802ac9249bb4f5fdbafb0a439dae588067bf004d9e70ccb1b69be89be77aa8a"), looks := false }, kinds := [], alts := [], laidByText := true, laidKinds := [.data, .pinned], laidTests := true, laidLooks := .later }
def FnExactGoodMsgCardSaid : Prop := Claim7.holds Tryd.pinned (.plain (OpenSpec.ofChange fnExactGoodMsgSpec)) fnExactGoodMsgCard

/-- THE TIED CARD OF 'laws.FnExactMsgBytes'. -/
def fnExactMsgBytesCard : Claim7 := { stood := { row := fnExactMsgBytesRow, standIns := [], harness := (true, "2802ac9249bb4f5fdbafb0a439dae588067bf004d9e70ccb1b69be89be77aa8a"), looks := false }, kinds := [], alts := [], laidByText := true, laidKinds := [.data, .pinned], laidTests := true, laidLooks := .later }
def FnExactMsgBytesCardSaid : Prop := Claim7.holds Tryd.pinned (.plain (OpenSpec.ofChange fnExactMsgBytesSpec)) fnExactMsgBytesCard

/-- THE TIED CARD OF 'laws.FnExactReadMsg'. -/
def fnExactReadMsgCard : Claim7 := { stood := { row := fnExactReadMsgRow, standIns := [], harness := (true, "2802ac9249bb4f5fdbafb0a439dae588067bf004d9e70ccb1b69be89be77aa8a"), looks := false }, kinds := [], alts := [], laidByText := true, laidKinds := [.data, .pinned], laidTests := true, laidLooks := .later }
def FnExactReadMsgCardSaid : Prop := Claim7.holds Tryd.pinned (.plain (OpenSpec.ofChange fnExactReadMsgSpec)) fnExactReadMsgCard

/-- THE TIED CARD OF 'laws.FnExactMsgsBytes'. -/
def fnExactMsgsBytesCard : Claim7 := { stood := { row := fnExactMsgsBytesRow, standIns := [], harness := (true, "2802ac9249bb4f5fdbafb0a439dae588067bf004d9e70ccb1b69be89be77aa8a"), looks := false }, kinds := [], alts := [], laidByText := true, laidKinds := [.data, .pinned], laidTests := true, laidLooks := .later }
def FnExactMsgsBytesCardSaid : Prop := Claim7.holds Tryd.pinned (.plain (OpenSpec.ofChange fnExactMsgsBytesSpec)) fnExactMsgsBytesCard

/-- THE TIED CARD OF 'laws.FnExactReadMsgs'. -/
def fnExactReadMsgsCard : Claim7 := { stood := { row := fnExactReadMsgsRow, standIns := [], harness := (true, "2802ac9249bb4f5fdbafb0a439dae588067bf004d9e70ccb1b69be89be77aa8a"), looks := false }, kinds := [], alts := [], laidByText := true, laidKinds := [.data, .pinned], laidTests := true, laidLooks := .later }
def FnExactReadMsgsCardSaid : Prop := Claim7.holds Tryd.pinned (.plain (OpenSpec.ofChange fnExactReadMsgsSpec)) fnExactReadMsgsCard

/-- THE SECOND FORM's CARD OF 'laws.FnExactGoodMsg'. -/
def fnExactGoodMsgUptoCard : Claim7 := { stood := { row := fnExactGoodMsgUptoRow, standIns := [], harness := (true, "2802ac9249bb4f5fdbafb0a439dae588067bf004d9e70ccb1b69be89be77aa8a"), looks := false }, kinds := [], alts := [], laidByText := true, laidKinds := [.data, .pinned], laidTests := true, laidLooks := .later }
def FnExactGoodMsgUptoCardSaid : Prop := Claim7.holds Tryd.pinned (.plain (OpenSpec.upto fnExactGoodMsgSpec)) fnExactGoodMsgUptoCard

/-- THE SECOND FORM's CARD OF 'laws.FnExactMsgBytes'. -/
def fnExactMsgBytesUptoCard : Claim7 := { stood := { row := fnExactMsgBytesUptoRow, standIns := [], harness := (true, "2802ac9249bb4f5fdbafb0a439dae588067bf004d9e70ccb1b69be89be77aa8a"), looks := false }, kinds := [], alts := [], laidByText := true, laidKinds := [.data, .pinned], laidTests := true, laidLooks := .later }
def FnExactMsgBytesUptoCardSaid : Prop := Claim7.holds Tryd.pinned (.plain (OpenSpec.upto fnExactMsgBytesSpec)) fnExactMsgBytesUptoCard

/-- THE SECOND FORM's CARD OF 'laws.FnExactReadMsg'. -/
def fnExactReadMsgUptoCard : Claim7 := { stood := { row := fnExactReadMsgUptoRow, standIns := [], harness := (true, "2802ac9249bb4f5fdbafb0a439dae588067bf004d9e70ccb1b69be89be77aa8a"), looks := false }, kinds := [], alts := [], laidByText := true, laidKinds := [.data, .pinned], laidTests := true, laidLooks := .later }
def FnExactReadMsgUptoCardSaid : Prop := Claim7.holds Tryd.pinned (.plain (OpenSpec.upto fnExactReadMsgSpec)) fnExactReadMsgUptoCard

/-- THE SECOND FORM's CARD OF 'laws.FnExactMsgsBytes'. -/
def fnExactMsgsBytesUptoCard : Claim7 := { stood := { row := fnExactMsgsBytesUptoRow, standIns := [], harness := (true, "2802ac9249bb4f5fdbafb0a439dae588067bf004d9e70ccb1b69be89be77aa8a"), looks := false }, kinds := [], alts := [], laidByText := true, laidKinds := [.data, .pinned], laidTests := true, laidLooks := .later }
def FnExactMsgsBytesUptoCardSaid : Prop := Claim7.holds Tryd.pinned (.plain (OpenSpec.upto fnExactMsgsBytesSpec)) fnExactMsgsBytesUptoCard

/-- THE SECOND FORM's CARD OF 'laws.FnExactReadMsgs'. -/
def fnExactReadMsgsUptoCard : Claim7 := { stood := { row := fnExactReadMsgsUptoRow, standIns := [], harness := (true, "2802ac9249bb4f5fdbafb0a439dae588067bf004d9e70ccb1b69be89be77aa8a"), looks := false }, kinds := [], alts := [], laidByText := true, laidKinds := [.data, .pinned], laidTests := true, laidLooks := .later }
def FnExactReadMsgsUptoCardSaid : Prop := Claim7.holds Tryd.pinned (.plain (OpenSpec.upto fnExactReadMsgsSpec)) fnExactReadMsgsUptoCard
end Rows
end Go.Proofs.YtmfcblbpicbhoaaDoor
