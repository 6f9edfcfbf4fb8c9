/- What the arguments of the law FnExactGoodGroup read as, and its pure statement: for every such reading, with the bounds that it gives, the printed law answers true. -/
import Derived.Test.YtjbaakfamepbeaaPFnExactGoodGroupx2
import Derived.Test.YtjbaakfamepbeaaOpn
namespace Go.Proofs.Ytjbaakfamepbeaa.PFnExactGoodGroup
open Go.RowKit Go.Proofs.YtjbaakfamepbeaaW.PrintWords Go.Proofs.Ytjbaakfamepbeaa.Opn
set_option linter.unusedVariables false
/-- THE ONE PURE STATEMENT of laws_FnExactGoodGroup. -/
def laws_FnExactGoodGroup.Pure : Prop := ∀ (l0_0 : List Int) (a1 : Int), l0_0.length * 8 ≤ 140737488351232 → (∀ y ∈ l0_0, (Lit.int .i64 y).wf = true) → (Lit.int .i64 a1).wf = true → ∃ k, laws_FnExactGoodGroup.f k l0_0 a1 = some true
end Go.Proofs.Ytjbaakfamepbeaa.PFnExactGoodGroup
