/- What the arguments of the law FnExactLamportOf read as, and its pure statement: for every such reading, with the bounds that it gives, the printed law answers true. -/
import Derived.Test.YtmfcblbpicbhoaaPFnExactLamportOfx6
import Derived.Test.YtmfcblbpicbhoaaOpn
namespace Go.Proofs.Ytmfcblbpicbhoaa.PFnExactLamportOf
open Go.RowKit Go.Proofs.YtmfcblbpicbhoaaW.PrintWords Go.Proofs.Ytmfcblbpicbhoaa.Opn
set_option linter.unusedVariables false
def ok52 (x : S52) : Prop := (Lit.int .i64 x.f0).wf = true ∧ (Lit.int .i64 x.f1).wf = true ∧ (Lit.int .i64 x.f2).wf = true
theorem op52 : Opens Try.prog 52 k52 ok52 := opens_struct (t := 52) (f := fun x : S52 => (x.f0, x.f1, x.f2)) Try.underlying52 (by kernel_rfl) (fun p => (⟨p.1, p.2.1, p.2.2⟩ : S52)) (fun _ => rfl) (opensFs_cons (opens_int Try.underlying3) (opensFs_cons (opens_int Try.underlying3) (opensFs_one (opens_int Try.underlying3))))
/-- THE ONE PURE STATEMENT of laws_FnExactLamportOf. -/
def laws_FnExactLamportOf.Pure : Prop := ∀ (l0 : List (S52)), l0.length * 24 ≤ 140737488351232 → (∀ y ∈ l0, ok52 y) → ∃ k, laws_FnExactLamportOf.f k l0 = some true
end Go.Proofs.Ytmfcblbpicbhoaa.PFnExactLamportOf
