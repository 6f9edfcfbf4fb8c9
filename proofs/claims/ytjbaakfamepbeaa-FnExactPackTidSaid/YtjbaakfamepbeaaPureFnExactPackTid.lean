/- The pure statement of the law FnExactPackTid: at every tid the printed law answers true. -/
import Derived.Test.YtjbaakfamepbeaaSayFnExactPackTid
import Derived.Test.YtjbaakfamepbeaaAid
namespace Go.Proofs.Ytjbaakfamepbeaa.Pure
open Go.RowKit Go.Proofs.Ytjbaakfamepbeaa.PFnExactPackTid Go.Proofs.YtjbaakfamepbeaaW.PrintWords Go.Proofs.YtjbaakfamepbeaaW.PrintLast Go.Proofs.Ytjbaakfamepbeaa.Aid
set_option linter.unusedVariables false
set_option linter.unusedSimpArgs false

theorem in_f (a b c : Int) : impl_in.f a b c = some (decide (b ≤ a ∧ a ≤ c)) := by
  unfold impl_in.f
  by_cases h : a ≥ b
  · rw [if_pos h]; simp [h]
  · rw [if_neg h]; simp [h]
theorem l1In_f (a b c : Int) : spec_l1In.f a b c = some (decide (b ≤ a ∧ a ≤ c)) := by
  unfold spec_l1In.f
  by_cases h : a ≥ b
  · rw [if_pos h]; simp [h]
  · rw [if_neg h]; simp [h]
def tidB (a b : Int) : Bool := decide (0 ≤ a ∧ a ≤ 1048575) && decide (0 ≤ b ∧ b ≤ 16777215)
theorem isTid_f (a b : Int) (c : Bool) : impl_isTid.f a b c = some (tidB a b) := by
  unfold impl_isTid.f tidB
  rw [in_f, in_f]
  by_cases h : 0 ≤ a ∧ a ≤ 1048575 <;> simp [h]
theorem l1Tid_f (a b : Int) (c : Bool) : spec_l1Tid.f a b c = some (tidB a b) := by
  unfold spec_l1Tid.f tidB
  rw [l1In_f, l1In_f]
  by_cases h : 0 ≤ a ∧ a ≤ 1048575 <;> simp [h]

theorem FnExactPackTid : laws_FnExactPackTid.Pure := by
  intro a b c _ _
  simp only [laws_FnExactPackTid.f, laws_toTid.f, spec_PackTid.f, impl_PackTid.f, isTid_f, l1Tid_f, impl_packTid.f, spec_l1Pack.f, Option.bind_some]
  cases c <;> cases tidB a b <;> simp

end Go.Proofs.Ytjbaakfamepbeaa.Pure
