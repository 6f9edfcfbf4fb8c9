/- What the arguments of the law FnExactGoodEvents read as, and its pure statement: for every such reading, with the bounds that it gives, the printed law answers true. -/
import Derived.Test.YtjbaakfamepbeaaPFnExactGoodEventsx3
import Derived.Test.YtjbaakfamepbeaaOpn
namespace Go.Proofs.Ytjbaakfamepbeaa.PFnExactGoodEvents
open Go.RowKit Go.Proofs.YtjbaakfamepbeaaW.PrintWords Go.Proofs.Ytjbaakfamepbeaa.Opn
set_option linter.unusedVariables false
def ok93 (x : S93) : Prop := (Lit.int .i64 x.f0).wf = true ∧ (Lit.int .i64 x.f1).wf = true ∧ (Lit.int .i64 x.f2).wf = true
theorem op93 : Opens Try.prog 93 k93 ok93 := opens_struct (t := 93) (f := fun x : S93 => (x.f0, x.f1, x.f2)) Try.underlying93 (by kernel_rfl) (fun p => (⟨p.1, p.2.1, p.2.2⟩ : S93)) (fun _ => rfl) (opensFs_cons (opens_int Try.underlying3) (opensFs_cons (opens_int Try.underlying3) (opensFs_one (opens_int Try.underlying3))))
/-- THE ONE PURE STATEMENT of laws_FnExactGoodEvents. -/
def laws_FnExactGoodEvents.Pure : Prop := ∀ (l0 : List (S93)), l0.length * 24 ≤ 140737488351232 → (∀ y ∈ l0, ok93 y) → ∃ k, laws_FnExactGoodEvents.f k l0 = some true
end Go.Proofs.Ytjbaakfamepbeaa.PFnExactGoodEvents
