/- What the arguments of the law FnExactCompareTid read as, and its pure statement: for every such reading, with the bounds that it gives, the printed law answers true. -/
import Derived.Test.YtjbaakfamepbeaaPFnExactCompareTidx3
import Derived.Test.YtjbaakfamepbeaaOpn
namespace Go.Proofs.Ytjbaakfamepbeaa.PFnExactCompareTid
open Go.RowKit Go.Proofs.YtjbaakfamepbeaaW.PrintWords Go.Proofs.Ytjbaakfamepbeaa.Opn
set_option linter.unusedVariables false
/-- THE ONE PURE STATEMENT of laws_FnExactCompareTid. -/
def laws_FnExactCompareTid.Pure : Prop := ∀ (a0_0 : Int) (a0_1 : Int) (a0_2 : Bool) (a1_0 : Int) (a1_1 : Int) (a1_2 : Bool), (Lit.int .i64 a0_0).wf = true → (Lit.int .i64 a0_1).wf = true → (Lit.int .i64 a1_0).wf = true → (Lit.int .i64 a1_1).wf = true → ∃ k, laws_FnExactCompareTid.f k a0_0 a0_1 a0_2 a1_0 a1_1 a1_2 = some true
end Go.Proofs.Ytjbaakfamepbeaa.PFnExactCompareTid
