/- The pure statement of the law FnExactUnpackTid: at every word the printed law answers true. No condition beyond that the word is a uint64. -/
import Derived.Test.YtjbaakfamepbeaaPFnExactUnpackTidx1
import Derived.Test.YtjbaakfamepbeaaAid
namespace Go.Proofs.Ytjbaakfamepbeaa.Pure
open Go.RowKit Go.Proofs.Ytjbaakfamepbeaa.PFnExactUnpackTid Go.Proofs.YtjbaakfamepbeaaW.PrintWords Go.Proofs.YtjbaakfamepbeaaW.PrintLast Go.Proofs.Ytjbaakfamepbeaa.Aid

theorem FnExactUnpackTid : laws_FnExactUnpackTid.Pure := by
  intro a0 h0
  have hb := bounds_u64 h0
  obtain ⟨hb0, hb1⟩ := hb
  have hA := and_mask24 (a0 / 2) (by omega) (by omega)
  have w0 : wrap64 (a0 / 33554432) = a0 / 33554432 := by unfold wrap64; omega
  have w1 : wrap64 (Go.bits .and .u64 (a0 / 2) 16777215) = a0 / 2 % 16777216 := by rw [hA]; unfold wrap64; omega
  by_cases hc : a0 ≥ 35184372088832
  · have : ¬ a0 / 33554432 ≤ 1048575 := by omega
    have h1 : a0 / 33554432 ≥ 0 := by omega
    simp [laws_FnExactUnpackTid.f, spec_UnpackTid.f, impl_UnpackTid.f, spec_l1Tid.f, spec_l1In.f, laws_eqTid.f, w0, w1, hc, this, h1]
  · have h2 : a0 / 33554432 ≤ 1048575 := by omega
    have h1 : a0 / 33554432 ≥ 0 := by omega
    have h3 : a0 / 2 % 16777216 ≥ 0 := by omega
    have h4 : a0 / 2 % 16777216 ≤ 16777215 := by omega
    simp [laws_FnExactUnpackTid.f, spec_UnpackTid.f, impl_UnpackTid.f, spec_l1Tid.f, spec_l1In.f, laws_eqTid.f, w0, w1, hc, h1, h2, h3, h4]

end Go.Proofs.Ytjbaakfamepbeaa.Pure
