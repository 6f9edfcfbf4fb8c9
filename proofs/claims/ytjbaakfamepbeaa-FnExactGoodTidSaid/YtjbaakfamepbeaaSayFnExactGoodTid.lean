/- What the arguments of the law FnExactGoodTid read as, and its pure statement: for every such reading, with the bounds that it gives, the printed law answers true. -/
import Derived.Test.YtjbaakfamepbeaaPFnExactGoodTidx1
import Derived.Test.YtjbaakfamepbeaaOpn
namespace Go.Proofs.Ytjbaakfamepbeaa.PFnExactGoodTid
open Go.RowKit Go.Proofs.YtjbaakfamepbeaaW.PrintWords Go.Proofs.Ytjbaakfamepbeaa.Opn
set_option linter.unusedVariables false
/-- THE ONE PURE STATEMENT of laws_FnExactGoodTid. -/
def laws_FnExactGoodTid.Pure : Prop := ∀ (a0_0 : Int) (a0_1 : Int) (a0_2 : Bool), (Lit.int .i64 a0_0).wf = true → (Lit.int .i64 a0_1).wf = true → laws_FnExactGoodTid.f a0_0 a0_1 a0_2 = some true
end Go.Proofs.Ytjbaakfamepbeaa.PFnExactGoodTid
