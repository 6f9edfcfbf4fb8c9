/- What the arguments of the law FnExactGoodMsg read as, and its pure statement: for every such reading, with the bounds that it gives, the printed law answers true. -/
import Derived.Test.YtmfcblbpicbhoaaDoorPFnExactGoodMsgx2
import Derived.Test.YtmfcblbpicbhoaaDoorOpn
namespace Go.Proofs.YtmfcblbpicbhoaaDoor.PFnExactGoodMsg
open Go.RowKit Go.Proofs.YtmfcblbpicbhoaaDoorW.PrintWords Go.Proofs.YtmfcblbpicbhoaaDoor.Opn
set_option linter.unusedVariables false
/-- THE ONE PURE STATEMENT of laws_FnExactGoodMsg. -/
def laws_FnExactGoodMsg.Pure : Prop := ∀ (a0_0 : Int) (a0_1 : Int) (a0_2 : Int) (a0_3 : Int) (a0_4 : ByteArray) (a0_5 : ByteArray) (a0_6 : Int) (a0_7 : Int) (a0_8 : Bool), (Lit.int .i64 a0_0).wf = true → (Lit.int .i64 a0_1).wf = true → (Lit.int .i64 a0_2).wf = true → (Lit.int .i64 a0_3).wf = true → a0_4.size ≤ 140737488351232 → a0_5.size ≤ 140737488351232 → (Lit.int .i64 a0_6).wf = true → (Lit.int .i64 a0_7).wf = true → ∃ k, laws_FnExactGoodMsg.f k a0_0 a0_1 a0_2 a0_3 a0_4 a0_5 a0_6 a0_7 a0_8 = some true
end Go.Proofs.YtmfcblbpicbhoaaDoor.PFnExactGoodMsg
