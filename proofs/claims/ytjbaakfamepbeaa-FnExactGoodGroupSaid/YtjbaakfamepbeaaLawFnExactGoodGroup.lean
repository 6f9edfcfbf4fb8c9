/- The row of the law FnExactGoodGroup: for every input the law returns true, and its arguments read as before. No condition beyond the row's own. -/
import Derived.Test.YtjbaakfamepbeaaRows
import Derived.Test.YtjbaakfamepbeaaPureFnExactGoodGroup
import Derived.WalkKit
import Derived.ProofKit
import Derived.OpenShut
import Derived.ShutString
import Derived.ChangeOld
import Derived.Below
import Derived.SizedLaws
namespace Go.Proofs.Ytjbaakfamepbeaa.fnExactGoodGroup
open Go.ChangeShapes Go.WideShapes Go.ChangeAt Go.RowKit Go.Proofs.Ytjbaakfamepbeaa.Opn Go.Proofs.Ytjbaakfamepbeaa.PFnExactGoodGroup Go.Proofs.YtjbaakfamepbeaaW.PrintWords
open Go.ChangeMaps (open_string shut_string)
set_option linter.unusedVariables false
theorem own : ownKnob Try.prog.godebug = none := by kernel_rfl
theorem laidOut : laidOutB Try.prog = true := by kernel_rfl
set_option maxRecDepth 100000 in
theorem lifted (os : Os) (started : os.Started) (H : Type) (enc : TypeId × Value → H) :
    ReturnsInHanded {} Try.checked os 7 .any (Rows.fnExactGoodGroupSpec.pre6 enc Try.prog Try.f7 Rows.fnExactGoodGroupRow.domain false) (Rows.fnExactGoodGroupSpec.post enc Try.prog Try.f7 false true false false) := by
  refine returnsInHanded_of_change_sized (C := Try.checked) own started (by kernel_rfl) Try.func7
    (ChangeSpec.witness6 (enc := enc) (C := Try.checked) false ⟨#[], #[.agg #[.slice none 0 0], .int .i64 0], []⟩ 8 (by kernel_rfl) (by kernel_rfl) (by kernel_rfl) (by kernel_rfl)) ?_
  intro W base args ds gs before hval0 hW hcnd hsz0 _
  have hsz : (DataW.weightsEach Try.prog (Try.f7.params.toList ++ Rows.fnExactGoodGroupSpec.plain.varTypes Try.prog) (ds ++ gs)).all (· ≤ reachBytes) = true := hsz0
  have hval : ∀ (j : Nat) t v, Try.f7.params[j]? = some t → args[j]? = some v → Value.okWide Try.prog W .any base t v := hval0
  have hW' := hW
  obtain ⟨p, q, hA0, hV, rfl, hfz, hnd⟩ := hW
  have hA : DataW.TrodAll enc Try.prog W 0 (fun _ => true) true Try.f7.params.toList args.toList ds p := hA0
  rw [Try.params7] at hA hval hsz
  obtain ⟨v0, vs0, d0, ds0, p0, q0, hargs, rfl, rfl, h0, r0⟩ := trodAll_cons hA
  obtain ⟨v1, vs1, d1, ds1, p1, q1, rfl, rfl, rfl, h1, r1⟩ := trodAll_cons r0
  obtain ⟨rfl, rfl, rfl⟩ := trodAll_nil r1
  obtain rfl : args = #[v0, v1] := by cases args; simp_all
  obtain ⟨rfl, rfl⟩ := trodVars_none hV
  have k0 := h0
  have lt0 : ∀ x ∈ p0, x.block < W.heap.size := by obtain ⟨m, hm⟩ := k0; exact DataW.trod_lt m _ _ _ hm
  obtain ⟨cs0, l0_0, rfl, K0, o0⟩ := open_struct Try.underlying38 (opens_struct (t := 38) (f := fun x => x) Try.underlying38 (by kernel_rfl) (fun x => x) (fun _ => rfl) (opensFs_one (opens_slice (e := 3) (B := 8) Try.underlying36 (by kernel_rfl) (by kernel_rfl) (opens_int Try.underlying3)))) (hval 0 38 v0 rfl rfl) h0 (arg_weights hsz (j := 0) rfl rfl)
  obtain ⟨y0_0, ok0_0⟩ := o0
  obtain ⟨A0_0, c0_0, eK, hc0_0, hr0_0⟩ := K0
  obtain rfl : cs0 = #[.slice A0_0 l0_0.length c0_0] := array_of eK
  have k1 := h1
  have lt1 : ∀ x ∈ p1, x.block < W.heap.size := by obtain ⟨m, hm⟩ := k1; exact DataW.trod_lt m _ _ _ hm
  obtain ⟨a1, rfl, rfl, rfl, ok1⟩ := open_int Try.underlying3 (hval 1 3 v1 rfl rfl) h1
  clear hA0 hval0 hsz0 hsz
  obtain ⟨k, h⟩ := Pure.FnExactGoodGroup l0_0 a1 y0_0 ok0_0 ok1
  refine (PFnExactGoodGroup.laws_FnExactGoodGroup.calls k A0_0 c0_0 l0_0 a1 true W hr0_0 hc0_0 h).mono fun e W' ⟨he, bel0⟩ => ?_
  have bel : Below W.heap.size W W' := bel0
  subst he
  exact ⟨_, rfl, _, _, _, [], _, [], hW', trodAll_mk1 (shut_bool Try.underlying4 _), (trodAll_cons_mk (Below.trod laidOut (by kernel_rfl) (of_decide_eq_true (by kernel_rfl)) k0 bel lt0) (trodAll_cons_mk (Below.trod laidOut (by kernel_rfl) (of_decide_eq_true (by kernel_rfl)) k1 bel lt1) trodAll_mk0)), rfl, bel.frame _, fun h => by cases h⟩
theorem over : Rows.fnExactGoodGroupRow.holds Try.pinned (OpenSpec.ofChange Rows.fnExactGoodGroupSpec) :=
  OpenClaim.holds_of_wide 7 Try.f7 rfl rfl rfl rfl rfl rfl rfl ⟨rfl, rfl, rfl, rfl, rfl⟩ rfl rfl rfl rfl rfl (by kernel_rfl) Try.func7 (by kernel_rfl)
    (of_decide_eq_true (by kernel_rfl)) (by unfold Func.isWrapper; first | (rw [if_pos (by decide +kernel)]; kernel_rfl) | (rw [if_neg (by decide +kernel)]; exact ⟨rfl, rfl⟩))
    (fun os started H enc _ => lifted os started H enc)
theorem proved : Rows.FnExactGoodGroupSaid := over
#print axioms proved
end Go.Proofs.Ytjbaakfamepbeaa.fnExactGoodGroup
namespace Go.Proofs.Ytjbaakfamepbeaa
/-- The row, under a short name, for the claim. -/
theorem fnExactGoodGroup_holds : Rows.FnExactGoodGroupSaid := fnExactGoodGroup.proved
end Go.Proofs.Ytjbaakfamepbeaa
