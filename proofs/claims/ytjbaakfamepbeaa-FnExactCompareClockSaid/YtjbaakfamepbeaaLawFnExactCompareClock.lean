/- The row of the law FnExactCompareClock: for every input the law returns true, and its arguments read as before. No condition beyond the row's own. -/
import Derived.Test.YtjbaakfamepbeaaRows
import Derived.Test.YtjbaakfamepbeaaPureFnExactCompareClock
import Derived.WalkKit
import Derived.ProofKit
import Derived.OpenShut
import Derived.ShutString
import Derived.ChangeOld
import Derived.Below
import Derived.SizedLaws
namespace Go.Proofs.Ytjbaakfamepbeaa.fnExactCompareClock
open Go.ChangeShapes Go.WideShapes Go.ChangeAt Go.RowKit Go.Proofs.Ytjbaakfamepbeaa.Opn Go.Proofs.Ytjbaakfamepbeaa.PFnExactCompareClock Go.Proofs.YtjbaakfamepbeaaW.PrintWords
open Go.ChangeMaps (open_string shut_string)
set_option linter.unusedVariables false
theorem own : ownKnob Try.prog.godebug = none := by kernel_rfl
theorem laidOut : laidOutB Try.prog = true := by kernel_rfl
set_option maxRecDepth 100000 in
theorem lifted (os : Os) (started : os.Started) (H : Type) (enc : TypeId × Value → H) :
    ReturnsInHanded {} Try.checked os 13 .any (Rows.fnExactCompareClockSpec.pre6 enc Try.prog Try.f13 Rows.fnExactCompareClockRow.domain false) (Rows.fnExactCompareClockSpec.post enc Try.prog Try.f13 false true false false) := by
  refine returnsInHanded_of_change_sized (C := Try.checked) own started (by kernel_rfl) Try.func13
    (ChangeSpec.witness6 (enc := enc) (C := Try.checked) false ⟨#[], #[.agg #[.slice none 0 0], .agg #[.slice none 0 0]], []⟩ 8 (by kernel_rfl) (by kernel_rfl) (by kernel_rfl) (by kernel_rfl)) ?_
  intro W base args ds gs before hval0 hW hcnd hsz0 _
  have hsz : (DataW.weightsEach Try.prog (Try.f13.params.toList ++ Rows.fnExactCompareClockSpec.plain.varTypes Try.prog) (ds ++ gs)).all (· ≤ reachBytes) = true := hsz0
  have hval : ∀ (j : Nat) t v, Try.f13.params[j]? = some t → args[j]? = some v → Value.okWide Try.prog W .any base t v := hval0
  have hW' := hW
  obtain ⟨p, q, hA0, hV, rfl, hfz, hnd⟩ := hW
  have hA : DataW.TrodAll enc Try.prog W 0 (fun _ => true) true Try.f13.params.toList args.toList ds p := hA0
  rw [Try.params13] at hA hval hsz
  obtain ⟨v0, vs0, d0, ds0, p0, q0, hargs, rfl, rfl, h0, r0⟩ := trodAll_cons hA
  obtain ⟨v1, vs1, d1, ds1, p1, q1, rfl, rfl, rfl, h1, r1⟩ := trodAll_cons r0
  obtain ⟨rfl, rfl, rfl⟩ := trodAll_nil r1
  obtain rfl : args = #[v0, v1] := by cases args; simp_all
  obtain ⟨rfl, rfl⟩ := trodVars_none hV
  have k0 := h0
  have lt0 : ∀ x ∈ p0, x.block < W.heap.size := by obtain ⟨m, hm⟩ := k0; exact DataW.trod_lt m _ _ _ hm
  obtain ⟨cs0, l0_0, rfl, K0, o0⟩ := open_struct Try.underlying73 (opens_struct (t := 73) (f := fun x => x) Try.underlying73 (by kernel_rfl) (fun x => x) (fun _ => rfl) (opensFs_one (opens_slice (e := 3) (B := 8) Try.underlying36 (by kernel_rfl) (by kernel_rfl) (opens_int Try.underlying3)))) (hval 0 73 v0 rfl rfl) h0 (arg_weights hsz (j := 0) rfl rfl)
  obtain ⟨y0_0, ok0_0⟩ := o0
  obtain ⟨A0_0, c0_0, eK, hc0_0, hr0_0⟩ := K0
  obtain rfl : cs0 = #[.slice A0_0 l0_0.length c0_0] := array_of eK
  have k1 := h1
  have lt1 : ∀ x ∈ p1, x.block < W.heap.size := by obtain ⟨m, hm⟩ := k1; exact DataW.trod_lt m _ _ _ hm
  obtain ⟨cs1, l1_0, rfl, K1, o1⟩ := open_struct Try.underlying73 (opens_struct (t := 73) (f := fun x => x) Try.underlying73 (by kernel_rfl) (fun x => x) (fun _ => rfl) (opensFs_one (opens_slice (e := 3) (B := 8) Try.underlying36 (by kernel_rfl) (by kernel_rfl) (opens_int Try.underlying3)))) (hval 1 73 v1 rfl rfl) h1 (arg_weights hsz (j := 1) rfl rfl)
  obtain ⟨y1_0, ok1_0⟩ := o1
  obtain ⟨A1_0, c1_0, eK, hc1_0, hr1_0⟩ := K1
  obtain rfl : cs1 = #[.slice A1_0 l1_0.length c1_0] := array_of eK
  clear hA0 hval0 hsz0 hsz
  obtain ⟨k, h⟩ := Pure.FnExactCompareClock l0_0 l1_0 y0_0 ok0_0 y1_0 ok1_0
  refine (PFnExactCompareClock.laws_FnExactCompareClock.calls k A0_0 c0_0 l0_0 A1_0 c1_0 l1_0 true W hr0_0 hc0_0 hr1_0 hc1_0 h).mono fun e W' ⟨he, bel0⟩ => ?_
  have bel : Below W.heap.size W W' := bel0
  subst he
  exact ⟨_, rfl, _, _, _, [], _, [], hW', trodAll_mk1 (shut_bool Try.underlying4 _), (trodAll_cons_mk (Below.trod laidOut (by kernel_rfl) (of_decide_eq_true (by kernel_rfl)) k0 bel lt0) (trodAll_cons_mk (Below.trod laidOut (by kernel_rfl) (of_decide_eq_true (by kernel_rfl)) k1 bel lt1) trodAll_mk0)), rfl, bel.frame _, fun h => by cases h⟩
theorem over : Rows.fnExactCompareClockRow.holds Try.pinned (OpenSpec.ofChange Rows.fnExactCompareClockSpec) :=
  OpenClaim.holds_of_wide 13 Try.f13 rfl rfl rfl rfl rfl rfl rfl ⟨rfl, rfl, rfl, rfl, rfl⟩ rfl rfl rfl rfl rfl (by kernel_rfl) Try.func13 (by kernel_rfl)
    (of_decide_eq_true (by kernel_rfl)) (by unfold Func.isWrapper; first | (rw [if_pos (by decide +kernel)]; kernel_rfl) | (rw [if_neg (by decide +kernel)]; exact ⟨rfl, rfl⟩))
    (fun os started H enc _ => lifted os started H enc)
theorem proved : Rows.FnExactCompareClockSaid := over
#print axioms proved
end Go.Proofs.Ytjbaakfamepbeaa.fnExactCompareClock
namespace Go.Proofs.Ytjbaakfamepbeaa
/-- The row, under a short name, for the claim. -/
theorem fnExactCompareClock_holds : Rows.FnExactCompareClockSaid := fnExactCompareClock.proved
end Go.Proofs.Ytjbaakfamepbeaa
