/- What the arguments of the law FnExactPackTid read as, and its pure statement: for every such reading, with the bounds that it gives, the printed law answers true. -/
import Derived.Test.YtjbaakfamepbeaaPFnExactPackTidx1
import Derived.Test.YtjbaakfamepbeaaOpn
namespace Go.Proofs.Ytjbaakfamepbeaa.PFnExactPackTid
open Go.RowKit Go.Proofs.YtjbaakfamepbeaaW.PrintWords Go.Proofs.Ytjbaakfamepbeaa.Opn
set_option linter.unusedVariables false
/-- THE ONE PURE STATEMENT of laws_FnExactPackTid. -/
def laws_FnExactPackTid.Pure : Prop := ∀ (a0_0 : Int) (a0_1 : Int) (a0_2 : Bool), (Lit.int .i64 a0_0).wf = true → (Lit.int .i64 a0_1).wf = true → laws_FnExactPackTid.f a0_0 a0_1 a0_2 = some true
end Go.Proofs.Ytjbaakfamepbeaa.PFnExactPackTid
