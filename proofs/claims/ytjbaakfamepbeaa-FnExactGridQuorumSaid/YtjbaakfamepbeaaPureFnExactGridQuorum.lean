/- The pure statement of the law FnExactGridQuorum: at every four numbers the printed law answers true. No condition beyond that the four are ints of 64 bits. -/
import Derived.Test.YtjbaakfamepbeaaPFnExactGridQuorumx3
namespace Go.Proofs.Ytjbaakfamepbeaa.Pure
open Go.RowKit Go.Proofs.Ytjbaakfamepbeaa.PFnExactGridQuorum Go.Proofs.YtjbaakfamepbeaaW.PrintWords Go.Proofs.YtjbaakfamepbeaaW.PrintLast

namespace Grid
theorem good : ∀ r : Fin 13, ∀ c : Fin 13, r.val * c.val ≤ 12 → ∀ i : Fin 12, i.val < r.val → ∀ j : Fin 12, j.val < c.val → 1 ≤ c.val →
    laws_FnExactGridQuorum.f 40 (r.val : Int) (c.val : Int) (i.val : Int) (j.val : Int) = some true := by
  decide +kernel

theorem bad (a0 a1 a2 a3 : Int) (hs : ∀ k, spec_GridQuorum.f (k + 1) a0 a1 a2 a3 = some ([], false)) (hi : ∀ k, impl_GridQuorum.f (k + 1) a0 a1 a2 a3 = some ([], false)) :
    laws_FnExactGridQuorum.f 10 a0 a1 a2 a3 = some true := by
  unfold laws_FnExactGridQuorum.f
  rw [hs 9, hi 9]
  simp only [Option.bind_some]
  have e : ∀ k, laws_eqGroup.f (k + 1) [] [] = some true := fun k => by
    simp [laws_eqGroup.f, laws_eqIntS.f, laws_eqIntS.l0]
  have hm : ∀ k, laws_markGroup.f (k + 1) [] 1 = some (1, []) := fun k => by
    simp [laws_markGroup.f, laws_markIntS.f, laws_markIntS.l0]
  have hh : ∀ k, laws_heldGroup.f (k + 1) [] 1 = some 1 := fun k => by
    simp [laws_heldGroup.f, laws_heldIntS.f, laws_heldIntS.l0]
  simp [e, laws_FnExactGridQuorum.j0, laws_FnExactGridQuorum.j1, hm, hh, hi]
theorem bad_of (a0 a1 a2 a3 : Int) (hg : ¬ ((1 ≤ a0 ∧ a0 ≤ 12) ∧ (1 ≤ a1 ∧ a1 ≤ 12) ∧ a0 * a1 ≤ 12 ∧ (0 ≤ a2 ∧ a2 ≤ a0 - 1) ∧ (0 ≤ a3 ∧ a3 ≤ a1 - 1))) (J : Bool → Option (List Int × Bool)) (r) (hJ : J true = r) :
    ((if a0 ≥ 1 then (some (decide (a0 ≤ 12))) else (some false)).bind fun t107 => (if t107 = true then ((if a1 ≥ 1 then (some (decide (a1 ≤ 12))) else (some false)).bind fun t108 => (if t108 = true then (if (wrap64 (a0 * a1)) > 12 then J true else ((if a2 ≥ 0 then (some (decide (a2 ≤ wrap64 (a0 - 1)))) else (some false)).bind fun t109 => (if t109 = true then ((if a3 ≥ 0 then (some (decide (a3 ≤ wrap64 (a1 - 1)))) else (some false)).bind fun t110 => J (!t110)) else J true))) else J true)) else J true)) = r := by
  by_cases c0 : 1 ≤ a0 ∧ a0 ≤ 12
  · obtain ⟨x0, y0⟩ := c0
    by_cases c1 : 1 ≤ a1 ∧ a1 ≤ 12
    · obtain ⟨x1, y1⟩ := c1
      have p1 : a0 * a1 ≤ 12 * 12 := Int.mul_le_mul y0 y1 (by omega) (by omega)
      have p0 : 0 ≤ a0 * a1 := Int.mul_nonneg (by omega) (by omega)
      have w : wrap64 (a0 * a1) = a0 * a1 := by unfold wrap64; omega
      have w0 : wrap64 (a0 - 1) = a0 - 1 := by unfold wrap64; omega
      have w1 : wrap64 (a1 - 1) = a1 - 1 := by unfold wrap64; omega
      rw [if_pos x0, if_pos x1, w, w0, w1]
      simp only [Option.bind_some, decide_eq_true y0, decide_eq_true y1, if_true]
      by_cases c2 : a0 * a1 > 12
      · rw [if_pos c2]; exact hJ
      · rw [if_neg c2]
        by_cases c3 : 0 ≤ a2 ∧ a2 ≤ a0 - 1
        · rw [if_pos c3.1]
          simp only [Option.bind_some, decide_eq_true c3.2, if_true]
          by_cases c4 : a3 ≥ 0
          · rw [if_pos c4]
            have : ¬ a3 ≤ a1 - 1 := fun c5 => hg ⟨⟨x0, y0⟩, ⟨x1, y1⟩, by omega, c3, ⟨c4, c5⟩⟩
            simpa [this] using hJ
          · rw [if_neg c4]
            simpa using hJ
        · by_cases c4 : a2 ≥ 0
          · have : ¬ a2 ≤ a0 - 1 := fun c5 => c3 ⟨c4, c5⟩
            rw [if_pos c4]
            simpa [this] using hJ
          · rw [if_neg c4]
            simpa using hJ
    · rw [if_pos x0]
      simp only [Option.bind_some, decide_eq_true y0, if_true]
      by_cases c2 : a1 ≥ 1
      · have : ¬ a1 ≤ 12 := fun c3 => c1 ⟨c2, c3⟩
        rw [if_pos c2]
        simpa [this] using hJ
      · rw [if_neg c2]
        simpa using hJ
  · by_cases c2 : a0 ≥ 1
    · have : ¬ a0 ≤ 12 := fun c3 => c0 ⟨c2, c3⟩
      rw [if_pos c2]
      simpa [this] using hJ
    · rw [if_neg c2]
      simpa using hJ
end Grid

theorem FnExactGridQuorum : laws_FnExactGridQuorum.Pure := by
  intro a0 a1 a2 a3 h0 h1 h2 h3
  by_cases hg : (1 ≤ a0 ∧ a0 ≤ 12) ∧ (1 ≤ a1 ∧ a1 ≤ 12) ∧ a0 * a1 ≤ 12 ∧ (0 ≤ a2 ∧ a2 ≤ a0 - 1) ∧ (0 ≤ a3 ∧ a3 ≤ a1 - 1)
  · obtain ⟨⟨x0, y0⟩, ⟨x1, y1⟩, hp, ⟨x2, y2⟩, ⟨x3, y3⟩⟩ := hg
    obtain ⟨n0, rfl⟩ := Int.eq_ofNat_of_zero_le (show 0 ≤ a0 by omega)
    obtain ⟨n1, rfl⟩ := Int.eq_ofNat_of_zero_le (show 0 ≤ a1 by omega)
    obtain ⟨n2, rfl⟩ := Int.eq_ofNat_of_zero_le (show 0 ≤ a2 by omega)
    obtain ⟨n3, rfl⟩ := Int.eq_ofNat_of_zero_le (show 0 ≤ a3 by omega)
    exact ⟨40, Grid.good ⟨n0, by omega⟩ ⟨n1, by omega⟩ (by simp only; exact_mod_cast hp) ⟨n2, by omega⟩ (by simp only; omega) ⟨n3, by omega⟩ (by simp only; omega) (by simp only; omega)⟩
  · refine ⟨10, Grid.bad a0 a1 a2 a3 (fun k => ?_) (fun k => ?_)⟩
    · unfold spec_GridQuorum.f spec_l1In.f
      exact Grid.bad_of a0 a1 a2 a3 hg (fun b => spec_GridQuorum.j0 (k + 1) a0 a1 a2 a3 b) _ (by simp [spec_GridQuorum.j0])
    · unfold impl_GridQuorum.f impl_in.f
      exact Grid.bad_of a0 a1 a2 a3 hg (fun b => impl_GridQuorum.j0 (k + 1) a0 a1 a2 a3 b) _ (by simp [impl_GridQuorum.j0])

end Go.Proofs.Ytjbaakfamepbeaa.Pure
