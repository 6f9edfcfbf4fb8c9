/- The row of the law FnExactCompareTid: for every input the law returns true, and its arguments read as before. No condition beyond the row's own. -/
import Derived.Test.YtjbaakfamepbeaaRows
import Derived.Test.YtjbaakfamepbeaaPureFnExactCompareTid
import Derived.WalkKit
import Derived.ProofKit
import Derived.OpenShut
import Derived.ShutString
import Derived.ChangeOld
import Derived.Below
import Derived.SizedLaws
namespace Go.Proofs.Ytjbaakfamepbeaa.fnExactCompareTid
open Go.ChangeShapes Go.WideShapes Go.ChangeAt Go.RowKit Go.Proofs.Ytjbaakfamepbeaa.Opn Go.Proofs.Ytjbaakfamepbeaa.PFnExactCompareTid Go.Proofs.YtjbaakfamepbeaaW.PrintWords
open Go.ChangeMaps (open_string shut_string)
set_option linter.unusedVariables false
theorem own : ownKnob Try.prog.godebug = none := by kernel_rfl
theorem laidOut : laidOutB Try.prog = true := by kernel_rfl
set_option maxRecDepth 100000 in
theorem lifted (os : Os) (started : os.Started) (H : Type) (enc : TypeId × Value → H) :
    ReturnsInHanded {} Try.checked os 8 .any (Rows.fnExactCompareTidSpec.pre6 enc Try.prog Try.f8 Rows.fnExactCompareTidRow.domain false) (Rows.fnExactCompareTidSpec.post enc Try.prog Try.f8 false true false false) := by
  refine returnsInHanded_of_change_sized (C := Try.checked) own started (by kernel_rfl) Try.func8
    (ChangeSpec.witness6 (enc := enc) (C := Try.checked) false ⟨#[], #[.agg #[.int .i64 0, .int .i64 0, .bool false], .agg #[.int .i64 0, .int .i64 0, .bool false]], []⟩ 8 (by kernel_rfl) (by kernel_rfl) (by kernel_rfl) (by kernel_rfl)) ?_
  intro W base args ds gs before hval0 hW hcnd hsz0 _
  have hsz : (DataW.weightsEach Try.prog (Try.f8.params.toList ++ Rows.fnExactCompareTidSpec.plain.varTypes Try.prog) (ds ++ gs)).all (· ≤ reachBytes) = true := hsz0
  have hval : ∀ (j : Nat) t v, Try.f8.params[j]? = some t → args[j]? = some v → Value.okWide Try.prog W .any base t v := hval0
  have hW' := hW
  obtain ⟨p, q, hA0, hV, rfl, hfz, hnd⟩ := hW
  have hA : DataW.TrodAll enc Try.prog W 0 (fun _ => true) true Try.f8.params.toList args.toList ds p := hA0
  rw [Try.params8] at hA hval hsz
  obtain ⟨v0, vs0, d0, ds0, p0, q0, hargs, rfl, rfl, h0, r0⟩ := trodAll_cons hA
  obtain ⟨v1, vs1, d1, ds1, p1, q1, rfl, rfl, rfl, h1, r1⟩ := trodAll_cons r0
  obtain ⟨rfl, rfl, rfl⟩ := trodAll_nil r1
  obtain rfl : args = #[v0, v1] := by cases args; simp_all
  obtain ⟨rfl, rfl⟩ := trodVars_none hV
  have k0 := h0
  have lt0 : ∀ x ∈ p0, x.block < W.heap.size := by obtain ⟨m, hm⟩ := k0; exact DataW.trod_lt m _ _ _ hm
  obtain ⟨cs0, x0, rfl, K0, o0⟩ := open_struct Try.underlying24 (opens_struct (t := 24) (f := fun x => x) Try.underlying24 (by kernel_rfl) (fun x => x) (fun _ => rfl) (opensFs_cons (opens_int Try.underlying3) (opensFs_cons (opens_int Try.underlying3) (opensFs_one (opens_bool Try.underlying4))))) (hval 0 24 v0 rfl rfl) h0 (arg_weights hsz (j := 0) rfl rfl)
  obtain ⟨a0_0, a0_1, a0_2⟩ := x0
  obtain ⟨ok0_0, ok0_1, _⟩ := o0
  obtain ⟨_, _, eK, rfl, ⟨_, _, rfl, rfl, rfl⟩⟩ := K0
  obtain rfl : cs0 = #[.int .i64 a0_0, .int .i64 a0_1, .bool a0_2] := array_of eK
  have k1 := h1
  have lt1 : ∀ x ∈ p1, x.block < W.heap.size := by obtain ⟨m, hm⟩ := k1; exact DataW.trod_lt m _ _ _ hm
  obtain ⟨cs1, x1, rfl, K1, o1⟩ := open_struct Try.underlying24 (opens_struct (t := 24) (f := fun x => x) Try.underlying24 (by kernel_rfl) (fun x => x) (fun _ => rfl) (opensFs_cons (opens_int Try.underlying3) (opensFs_cons (opens_int Try.underlying3) (opensFs_one (opens_bool Try.underlying4))))) (hval 1 24 v1 rfl rfl) h1 (arg_weights hsz (j := 1) rfl rfl)
  obtain ⟨a1_0, a1_1, a1_2⟩ := x1
  obtain ⟨ok1_0, ok1_1, _⟩ := o1
  obtain ⟨_, _, eK, rfl, ⟨_, _, rfl, rfl, rfl⟩⟩ := K1
  obtain rfl : cs1 = #[.int .i64 a1_0, .int .i64 a1_1, .bool a1_2] := array_of eK
  clear hA0 hval0 hsz0 hsz
  obtain ⟨k, h⟩ := Pure.FnExactCompareTid a0_0 a0_1 a0_2 a1_0 a1_1 a1_2 ok0_0 ok0_1 ok1_0 ok1_1
  refine (PFnExactCompareTid.laws_FnExactCompareTid.calls k a0_0 a0_1 a0_2 a1_0 a1_1 a1_2 true W  h).mono fun e W' ⟨he, bel0⟩ => ?_
  have bel : Below W.heap.size W W' := bel0
  subst he
  exact ⟨_, rfl, _, _, _, [], _, [], hW', trodAll_mk1 (shut_bool Try.underlying4 _), (trodAll_cons_mk (Below.trod laidOut (by kernel_rfl) (of_decide_eq_true (by kernel_rfl)) k0 bel lt0) (trodAll_cons_mk (Below.trod laidOut (by kernel_rfl) (of_decide_eq_true (by kernel_rfl)) k1 bel lt1) trodAll_mk0)), rfl, bel.frame _, fun h => by cases h⟩
theorem over : Rows.fnExactCompareTidRow.holds Try.pinned (OpenSpec.ofChange Rows.fnExactCompareTidSpec) :=
  OpenClaim.holds_of_wide 8 Try.f8 rfl rfl rfl rfl rfl rfl rfl ⟨rfl, rfl, rfl, rfl, rfl⟩ rfl rfl rfl rfl rfl (by kernel_rfl) Try.func8 (by kernel_rfl)
    (of_decide_eq_true (by kernel_rfl)) (by unfold Func.isWrapper; first | (rw [if_pos (by decide +kernel)]; kernel_rfl) | (rw [if_neg (by decide +kernel)]; exact ⟨rfl, rfl⟩))
    (fun os started H enc _ => lifted os started H enc)
theorem proved : Rows.FnExactCompareTidSaid := over
#print axioms proved
end Go.Proofs.Ytjbaakfamepbeaa.fnExactCompareTid
namespace Go.Proofs.Ytjbaakfamepbeaa
/-- The row, under a short name, for the claim. -/
theorem fnExactCompareTid_holds : Rows.FnExactCompareTidSaid := fnExactCompareTid.proved
end Go.Proofs.Ytjbaakfamepbeaa
