/- What the arguments of the law FnExactReadsFrom read as, and its pure statement: for every such reading, with the bounds that it gives, the printed law answers true. -/
import Derived.Test.YtobkiheihjdanaaDoorPFnExactReadsFromx7
import Derived.Test.YtobkiheihjdanaaDoorOpn
namespace Go.Proofs.YtobkiheihjdanaaDoor.PFnExactReadsFrom
open Go.RowKit Go.Proofs.YtobkiheihjdanaaDoorW.PrintWords Go.Proofs.YtobkiheihjdanaaDoor.Opn
set_option linter.unusedVariables false
def ok58 (x : S58) : Prop := (Lit.int .i64 x.f0).wf = true ∧ (Lit.int .i64 x.f1).wf = true ∧ x.f2.size ≤ 140737488351232
theorem op58 : Opens Tryd.prog 58 k58 ok58 := opens_struct (t := 58) (f := fun x : S58 => (x.f0, x.f1, x.f2)) Tryd.underlying58 (by kernel_rfl) (fun p => (⟨p.1, p.2.1, p.2.2⟩ : S58)) (fun _ => rfl) (opensFs_cons (opens_int Tryd.underlying3) (opensFs_cons (opens_int Tryd.underlying3) (opensFs_one (opens_string Tryd.underlying9))))
/-- THE ONE PURE STATEMENT of laws_FnExactReadsFrom. -/
def laws_FnExactReadsFrom.Pure : Prop := ∀ (l0 : List (S58)), l0.length * 32 ≤ 140737488351232 → (∀ y ∈ l0, ok58 y) → ∃ k, laws_FnExactReadsFrom.f k l0 = some true
end Go.Proofs.YtobkiheihjdanaaDoor.PFnExactReadsFrom
