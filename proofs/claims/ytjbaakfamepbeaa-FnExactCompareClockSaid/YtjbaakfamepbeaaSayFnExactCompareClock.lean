/- What the arguments of the law FnExactCompareClock read as, and its pure statement: for every such reading, with the bounds that it gives, the printed law answers true. -/
import Derived.Test.YtjbaakfamepbeaaPFnExactCompareClockx4
import Derived.Test.YtjbaakfamepbeaaOpn
namespace Go.Proofs.Ytjbaakfamepbeaa.PFnExactCompareClock
open Go.RowKit Go.Proofs.YtjbaakfamepbeaaW.PrintWords Go.Proofs.Ytjbaakfamepbeaa.Opn
set_option linter.unusedVariables false
/-- THE ONE PURE STATEMENT of laws_FnExactCompareClock. -/
def laws_FnExactCompareClock.Pure : Prop := ∀ (l0_0 : List Int) (l1_0 : List Int), l0_0.length * 8 ≤ 140737488351232 → (∀ y ∈ l0_0, (Lit.int .i64 y).wf = true) → l1_0.length * 8 ≤ 140737488351232 → (∀ y ∈ l1_0, (Lit.int .i64 y).wf = true) → ∃ k, laws_FnExactCompareClock.f k l0_0 l1_0 = some true
end Go.Proofs.Ytjbaakfamepbeaa.PFnExactCompareClock
