/- The row of the law FnExactMergeClock: for every input the law returns true, and its arguments read as before. No condition beyond the row's own. -/
import Derived.Test.YtjbaakfamepbeaaRows
import Derived.Test.YtjbaakfamepbeaaFmXFnExactMergeClockPure
import Derived.WalkKit
import Derived.ProofKit
import Derived.OpenShut
import Derived.ShutString
import Derived.ChangeOld
import Derived.Below
import Derived.SizedLaws
namespace Go.Proofs.Ytjbaakfamepbeaa.fnExactMergeClock
open Go Go.Fm Go.Fm.Opn Go.ChangeShapes Go.WideShapes Go.ChangeAt Go.RowKit Go.Proofs.Ytjbaakfamepbeaa
open Go.ChangeMaps (open_string shut_string)
set_option linter.unusedVariables false
set_option maxRecDepth 100000
theorem own : ownKnob Try.prog.godebug = none := by kernel_rfl
theorem laidOut : laidOutB Try.prog = true := by kernel_rfl
theorem lifted (os : Os) (started : os.Started) (H : Type) (enc : TypeId × Value → H) :
    ReturnsInHanded {} Try.checked os 14 .any (Rows.fnExactMergeClockSpec.pre6 enc Try.prog Try.f14 Rows.fnExactMergeClockRow.domain false) (Rows.fnExactMergeClockSpec.post enc Try.prog Try.f14 false true false false) := by
  refine returnsInHanded_of_change_sized (C := Try.checked) own started (by kernel_rfl) Try.func14
    (ChangeSpec.witness6 (enc := enc) (C := Try.checked) false ⟨#[], #[.agg #[.slice none 0 0], .agg #[.slice none 0 0]], []⟩ 8 (by kernel_rfl) (by kernel_rfl) (by kernel_rfl) (by kernel_rfl)) ?_
  intro W base args ds gs before hval0 hW hcnd hsz0 _
  have hsz : (DataW.weightsEach Try.prog (Try.f14.params.toList ++ Rows.fnExactMergeClockSpec.plain.varTypes Try.prog) (ds ++ gs)).all (· ≤ reachBytes) = true := hsz0
  have hval : ∀ (j : Nat) t v, Try.f14.params[j]? = some t → args[j]? = some v → Value.okWide Try.prog W .any base t v := hval0
  have hW' := hW
  obtain ⟨p, q, hA0, hV, rfl, hfz, hnd⟩ := hW
  have hA : DataW.TrodAll enc Try.prog W 0 (fun _ => true) true Try.f14.params.toList args.toList ds p := hA0
  rw [Try.params14] at hA hval hsz
  obtain ⟨v0, vs0, d0, ds0, p0, q0, hargs, rfl, rfl, h0, r0⟩ := trodAll_cons hA
  obtain ⟨v1, vs1, d1, ds1, p1, q1, rfl, rfl, rfl, h1, r1⟩ := trodAll_cons r0
  obtain ⟨rfl, rfl, rfl⟩ := trodAll_nil r1
  obtain rfl : args = #[v0, v1] := by cases args; simp_all
  obtain ⟨rfl, rfl⟩ := trodVars_none hV
  have k0 := h0
  have lt0 : ∀ x ∈ p0, x.block < W.heap.size := by obtain ⟨m, hm⟩ := k0; exact DataW.trod_lt m _ _ _ hm
  obtain ⟨a0, R0, y0⟩ := open_struct (d := (.slice (.int .i64))) (ok := okT (.struct (.slice (.int .i64)))) Try.underlying73 (ok_struct Try.underlying73 (by kernel_rfl) (okFs_one (ok_slice (e := 3) 8 Try.underlying36 (by decide) (by kernel_rfl) (by kernel_rfl) (by decide) (ok_int Try.underlying3)))) (hval 0 73 v0 rfl rfl) h0 (arg_weights hsz (j := 0) rfl rfl)
  have k1 := h1
  have lt1 : ∀ x ∈ p1, x.block < W.heap.size := by obtain ⟨m, hm⟩ := k1; exact DataW.trod_lt m _ _ _ hm
  obtain ⟨a1, R1, y1⟩ := open_struct (d := (.slice (.int .i64))) (ok := okT (.struct (.slice (.int .i64)))) Try.underlying73 (ok_struct Try.underlying73 (by kernel_rfl) (okFs_one (ok_slice (e := 3) 8 Try.underlying36 (by decide) (by kernel_rfl) (by kernel_rfl) (by decide) (ok_int Try.underlying3)))) (hval 1 73 v1 rfl rfl) h1 (arg_weights hsz (j := 1) rfl rfl)
  clear hA0 hval0 hsz0 hsz
  obtain ⟨k, h⟩ := Fms.law a0 a1 y0 y1
  refine (Fm.Opn.law (G := fun _ => True) (Fms.c14 k) (fun _ => trivial) (v := (a0, a1, ())) h ⟨_, _, rfl, Fm.Opn.Reg.none_ R0, ⟨_, _, rfl, Fm.Opn.Reg.none_ R1, ⟨rfl, rfl⟩⟩⟩).mono fun e W' ⟨he, bel⟩ => ?_
  subst he
  exact ⟨_, rfl, _, _, _, [], _, [], hW', trodAll_mk1 (shut_bool Try.underlying4 _), (trodAll_cons_mk (Below.trod laidOut (by kernel_rfl) (of_decide_eq_true (by kernel_rfl)) k0 bel lt0) (trodAll_cons_mk (Below.trod laidOut (by kernel_rfl) (of_decide_eq_true (by kernel_rfl)) k1 bel lt1) trodAll_mk0)), rfl, bel.frame _, fun h => by cases h⟩
theorem over : Rows.fnExactMergeClockRow.holds Try.pinned (OpenSpec.ofChange Rows.fnExactMergeClockSpec) :=
  OpenClaim.holds_of_wide 14 Try.f14 rfl rfl rfl rfl rfl rfl rfl ⟨rfl, rfl, rfl, rfl, rfl⟩ rfl rfl rfl rfl rfl (by kernel_rfl) Try.func14 (by kernel_rfl)
    (of_decide_eq_true (by kernel_rfl)) (by unfold Func.isWrapper; first | (rw [if_pos (by decide +kernel)]; kernel_rfl) | (rw [if_neg (by decide +kernel)]; exact ⟨rfl, rfl⟩))
    (fun os started H enc _ => lifted os started H enc)
theorem proved : Rows.FnExactMergeClockSaid := over
#print axioms proved
end Go.Proofs.Ytjbaakfamepbeaa.fnExactMergeClock
namespace Go.Proofs.Ytjbaakfamepbeaa
/-- The row, under a short name, for the claim. -/
theorem fnExactMergeClock_holds : Rows.FnExactMergeClockSaid := fnExactMergeClock.proved
end Go.Proofs.Ytjbaakfamepbeaa
