/- What the arguments of the law FnExactJoinCuts read as, and its pure statement: for every such reading, with the bounds that it gives, the printed law answers true. -/
import Derived.Test.YtjbaakfamepbeaaPFnExactJoinCutsx3
import Derived.Test.YtjbaakfamepbeaaOpn
namespace Go.Proofs.Ytjbaakfamepbeaa.PFnExactJoinCuts
open Go.RowKit Go.Proofs.YtjbaakfamepbeaaW.PrintWords Go.Proofs.Ytjbaakfamepbeaa.Opn
set_option linter.unusedVariables false
/-- THE ONE PURE STATEMENT of laws_FnExactJoinCuts. -/
def laws_FnExactJoinCuts.Pure : Prop := ∀ (l0 : List Int) (l1 : List Int) (a2 : Bool), l0.length * 8 ≤ 140737488351232 → (∀ y ∈ l0, (Lit.int .i64 y).wf = true) → l1.length * 8 ≤ 140737488351232 → (∀ y ∈ l1, (Lit.int .i64 y).wf = true) → ∃ k, laws_FnExactJoinCuts.f k l0 l1 a2 = some true
end Go.Proofs.Ytjbaakfamepbeaa.PFnExactJoinCuts
