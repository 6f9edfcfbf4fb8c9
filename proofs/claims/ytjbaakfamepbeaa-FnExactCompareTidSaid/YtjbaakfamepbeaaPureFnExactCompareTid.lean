/- The pure statement of the law FnExactCompareTid: at every two tids the printed law answers true. -/
import Derived.Test.YtjbaakfamepbeaaSayFnExactCompareTid
import Derived.Test.YtjbaakfamepbeaaAid
namespace Go.Proofs.Ytjbaakfamepbeaa.Pure
open Go.RowKit Go.Proofs.Ytjbaakfamepbeaa.PFnExactCompareTid Go.Proofs.YtjbaakfamepbeaaW.PrintWords Go.Proofs.YtjbaakfamepbeaaW.PrintLast Go.Proofs.Ytjbaakfamepbeaa.Aid
set_option linter.unusedVariables false
set_option linter.unusedSimpArgs false

theorem in_f (a b c : Int) : impl_in.f a b c = some (decide (b ≤ a ∧ a ≤ c)) := by
  unfold impl_in.f
  by_cases h : a ≥ b
  · rw [if_pos h]; simp [h]
  · rw [if_neg h]; simp [h]
theorem l1In_f (a b c : Int) : spec_l1In.f a b c = some (decide (b ≤ a ∧ a ≤ c)) := by
  unfold spec_l1In.f
  by_cases h : a ≥ b
  · rw [if_pos h]; simp [h]
  · rw [if_neg h]; simp [h]
def tidB (a b : Int) : Bool := decide (0 ≤ a ∧ a ≤ 1048575) && decide (0 ≤ b ∧ b ≤ 16777215)
theorem isTid_f (a b : Int) (c : Bool) : impl_isTid.f a b c = some (tidB a b) := by
  unfold impl_isTid.f tidB
  rw [in_f, in_f]
  by_cases h : 0 ≤ a ∧ a ≤ 1048575 <;> simp [h]
theorem l1Tid_f (a b : Int) (c : Bool) : spec_l1Tid.f a b c = some (tidB a b) := by
  unfold spec_l1Tid.f tidB
  rw [l1In_f, l1In_f]
  by_cases h : 0 ≤ a ∧ a ≤ 1048575 <;> simp [h]

theorem cmpI_f (a b : Int) : cmp_Compare_int.f a b = some (if a < b then -1 else if a > b then 1 else 0) := by
  simp only [cmp_Compare_int.f, cmp_isNaN_int.f, Option.bind_some]
  by_cases h : a < b
  · simp [h]
  · by_cases h' : b < a <;> simp [h, h']
theorem compare_spec (k : Nat) (a b : Int) (c : Bool) (x y : Int) (z : Bool) : spec_l1Compare.f (k + 1) a b c x y z = some (if a < x then -1 else if x < a then 1 else if b < y then -1 else if y < b then 1 else 0) := by
  simp only [spec_l1Compare.f, spec_l1Compare.j0]
  by_cases h1 : a < x
  · simp [h1]
  · by_cases h2 : a = x
    · subst h2
      by_cases h3 : b < y
      · simp [h3]
      · by_cases h4 : y < b <;> simp [h3, h4]
    · have : x < a := by omega
      simp [h1, h2, this]
theorem compare_impl (k : Nat) (a b : Int) (c : Bool) (x y : Int) (z : Bool) : impl_compareTid.f (k + 3) a b c x y z = some (if a < x then -1 else if x < a then 1 else if b < y then -1 else if y < b then 1 else 0) := by
  simp only [impl_compareTid.f, cmpI_f, Option.bind_some, cmp_Or_int.f, cmp_Or_int.l0]
  have w1 : wrap64 1 = 1 := by unfold wrap64; omega
  have w2 : wrap64 2 = 2 := by unfold wrap64; omega
  by_cases h1 : a < x
  · simp [h1, rd, w1]
  · by_cases h2 : x < a
    · simp [h1, h2, rd, w1]
    · by_cases h3 : b < y
      · simp [h1, h2, h3, rd, w1, w2]
      · by_cases h4 : y < b <;> simp [h1, h2, h3, h4, rd, w1, w2]
theorem FnExactCompareTid : laws_FnExactCompareTid.Pure := by
  intro a b c x y z _ _ _ _
  refine ⟨3, ?_⟩
  simp only [laws_FnExactCompareTid.f, laws_toTid.f, spec_CompareTid.f, impl_CompareTid.f, isTid_f, l1Tid_f, Option.bind_some]
  rw [compare_impl 0, compare_spec 2]
  cases tidB a b <;> cases tidB x y <;> simp

end Go.Proofs.Ytjbaakfamepbeaa.Pure
