/- What the arguments of the law FnExactNextTid read as, and its pure statement: for every such reading, with the bounds that it gives, the printed law answers true. -/
import Derived.Test.YtjbaakfamepbeaaPFnExactNextTidx4
import Derived.Test.YtjbaakfamepbeaaOpn
namespace Go.Proofs.Ytjbaakfamepbeaa.PFnExactNextTid
open Go.RowKit Go.Proofs.YtjbaakfamepbeaaW.PrintWords Go.Proofs.Ytjbaakfamepbeaa.Opn
set_option linter.unusedVariables false
def ok24 (x : S24) : Prop := (Lit.int .i64 x.f0).wf = true ∧ (Lit.int .i64 x.f1).wf = true ∧ True
theorem op24 : Opens Try.prog 24 k24 ok24 := opens_struct (t := 24) (f := fun x : S24 => (x.f0, x.f1, x.f2)) Try.underlying24 (by kernel_rfl) (fun p => (⟨p.1, p.2.1, p.2.2⟩ : S24)) (fun _ => rfl) (opensFs_cons (opens_int Try.underlying3) (opensFs_cons (opens_int Try.underlying3) (opensFs_one (opens_bool Try.underlying4))))
/-- THE ONE PURE STATEMENT of laws_FnExactNextTid. -/
def laws_FnExactNextTid.Pure : Prop := ∀ (l0 : List (S24)) (a1 : Int), l0.length * 24 ≤ 140737488351232 → (∀ y ∈ l0, ok24 y) → (Lit.int .i64 a1).wf = true → ∃ k, laws_FnExactNextTid.f k l0 a1 = some true
end Go.Proofs.Ytjbaakfamepbeaa.PFnExactNextTid
