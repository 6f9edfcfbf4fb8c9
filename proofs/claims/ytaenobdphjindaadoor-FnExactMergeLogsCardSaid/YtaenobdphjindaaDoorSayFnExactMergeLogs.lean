/- What the arguments of the law FnExactMergeLogs read as, and its pure statement: for every such reading, with the bounds that it gives, the printed law answers true. -/
import Derived.Test.YtaenobdphjindaaDoorPFnExactMergeLogsx10
import Derived.Test.YtaenobdphjindaaDoorOpn
namespace Go.Proofs.YtaenobdphjindaaDoor.PFnExactMergeLogs
open Go.RowKit Go.Proofs.YtaenobdphjindaaDoorW.PrintWords Go.Proofs.YtaenobdphjindaaDoor.Opn
set_option linter.unusedVariables false
def ok48 (x : S48) : Prop := (Lit.int .i64 x.f0).wf = true ∧ (Lit.int .i64 x.f1).wf = true ∧ True
theorem op48 : Opens Tryd.prog 48 k48 ok48 := opens_struct (t := 48) (f := fun x : S48 => (x.f0, x.f1, x.f2)) Tryd.underlying48 (by kernel_rfl) (fun p => (⟨p.1, p.2.1, p.2.2⟩ : S48)) (fun _ => rfl) (opensFs_cons (opens_int Tryd.underlying3) (opensFs_cons (opens_int Tryd.underlying3) (opensFs_one (opens_bool Tryd.underlying4))))
def ok50 (x : S50) : Prop := (Lit.int .i64 x.f0).wf = true ∧ x.f1.size ≤ 140737488351232 ∧ x.f2.size ≤ 140737488351232 ∧ ok48 x.f3
theorem op50 : Opens Tryd.prog 50 k50 ok50 := opens_struct (t := 50) (f := fun x : S50 => (x.f0, x.f1, x.f2, x.f3)) Tryd.underlying50 (by kernel_rfl) (fun p => (⟨p.1, p.2.1, p.2.2.1, p.2.2.2⟩ : S50)) (fun _ => rfl) (opensFs_cons (opens_int Tryd.underlying3) (opensFs_cons (opens_string Tryd.underlying9) (opensFs_cons (opens_string Tryd.underlying9) (opensFs_one op48))))
/-- THE ONE PURE STATEMENT of laws_FnExactMergeLogs. -/
def laws_FnExactMergeLogs.Pure : Prop := ∀ (l0 : List (S50)) (l1 : List (S50)), l0.length * 64 ≤ 140737488351232 → (∀ y ∈ l0, ok50 y) → l1.length * 64 ≤ 140737488351232 → (∀ y ∈ l1, ok50 y) → ∃ k, laws_FnExactMergeLogs.f k l0 l1 = some true
end Go.Proofs.YtaenobdphjindaaDoor.PFnExactMergeLogs
