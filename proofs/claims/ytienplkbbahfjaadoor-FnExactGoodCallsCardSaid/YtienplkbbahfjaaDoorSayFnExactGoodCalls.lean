/- What the arguments of the law FnExactGoodCalls read as, and its pure statement: for every such reading, with the bounds that it gives, the printed law answers true. -/
import Derived.Test.YtienplkbbahfjaaDoorPFnExactGoodCallsx5
import Derived.Test.YtienplkbbahfjaaDoorOpn
namespace Go.Proofs.YtienplkbbahfjaaDoor.PFnExactGoodCalls
open Go.RowKit Go.Proofs.YtienplkbbahfjaaDoorW.PrintWords Go.Proofs.YtienplkbbahfjaaDoor.Opn
set_option linter.unusedVariables false
def ok45 (x : S45) : Prop := (Lit.int .i64 x.f0).wf = true ∧ True ∧ x.f2.size ≤ 140737488351232 ∧ x.f3.size ≤ 140737488351232 ∧ (Lit.int .i64 x.f4).wf = true ∧ (Lit.int .i64 x.f5).wf = true
theorem op45 : Opens Tryd.prog 45 k45 ok45 := opens_struct (t := 45) (f := fun x : S45 => (x.f0, x.f1, x.f2, x.f3, x.f4, x.f5)) Tryd.underlying45 (by kernel_rfl) (fun p => (⟨p.1, p.2.1, p.2.2.1, p.2.2.2.1, p.2.2.2.2.1, p.2.2.2.2.2⟩ : S45)) (fun _ => rfl) (opensFs_cons (opens_int Tryd.underlying3) (opensFs_cons (opens_bool Tryd.underlying4) (opensFs_cons (opens_string Tryd.underlying9) (opensFs_cons (opens_string Tryd.underlying9) (opensFs_cons (opens_int Tryd.underlying3) (opensFs_one (opens_int Tryd.underlying3)))))))
/-- THE ONE PURE STATEMENT of laws_FnExactGoodCalls. -/
def laws_FnExactGoodCalls.Pure : Prop := ∀ (l0 : List (S45)), l0.length * 64 ≤ 140737488351232 → (∀ y ∈ l0, ok45 y) → ∃ k, laws_FnExactGoodCalls.f k l0 = some true
end Go.Proofs.YtienplkbbahfjaaDoor.PFnExactGoodCalls
