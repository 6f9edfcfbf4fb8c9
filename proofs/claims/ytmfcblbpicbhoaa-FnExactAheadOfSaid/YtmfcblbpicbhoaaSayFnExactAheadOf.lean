/- What the arguments of the law FnExactAheadOf read as, and its pure statement: for every such reading, with the bounds that it gives, the printed law answers true. -/
import Derived.Test.YtmfcblbpicbhoaaPFnExactAheadOfx6
import Derived.Test.YtmfcblbpicbhoaaOpn
namespace Go.Proofs.Ytmfcblbpicbhoaa.PFnExactAheadOf
open Go.RowKit Go.Proofs.YtmfcblbpicbhoaaW.PrintWords Go.Proofs.Ytmfcblbpicbhoaa.Opn
set_option linter.unusedVariables false
def ok52 (x : S52) : Prop := (Lit.int .i64 x.f0).wf = true ∧ (Lit.int .i64 x.f1).wf = true ∧ (Lit.int .i64 x.f2).wf = true
theorem op52 : Opens Try.prog 52 k52 ok52 := opens_struct (t := 52) (f := fun x : S52 => (x.f0, x.f1, x.f2)) Try.underlying52 (by kernel_rfl) (fun p => (⟨p.1, p.2.1, p.2.2⟩ : S52)) (fun _ => rfl) (opensFs_cons (opens_int Try.underlying3) (opensFs_cons (opens_int Try.underlying3) (opensFs_one (opens_int Try.underlying3))))
/-- THE ONE PURE STATEMENT of laws_FnExactAheadOf. -/
def laws_FnExactAheadOf.Pure : Prop := ∀ (l0 : List (S52)) (a1 : Int) (a2 : Int), l0.length * 24 ≤ 140737488351232 → (∀ y ∈ l0, ok52 y) → (Lit.int .i64 a1).wf = true → (Lit.int .i64 a2).wf = true → ∃ k, laws_FnExactAheadOf.f k l0 a1 a2 = some true
end Go.Proofs.Ytmfcblbpicbhoaa.PFnExactAheadOf
