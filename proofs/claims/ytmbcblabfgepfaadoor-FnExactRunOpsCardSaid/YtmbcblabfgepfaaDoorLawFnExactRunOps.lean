/- The row of the law FnExactRunOps: for every input the law returns true, and its arguments read as before. No condition beyond the row's own. -/
import Derived.Test.YtmbcblabfgepfaaDoorRows
import Derived.Test.YtmbcblabfgepfaaDoorFmXFnExactRunOpsPure
import Derived.WalkKit
import Derived.ProofKit
import Derived.OpenShut
import Derived.ShutString
import Derived.ChangeOld
import Derived.Below
import Derived.SizedLaws
import Derived.LaidMore
import Derived.Lay
import Derived.SevenTiedAt
import Derived.Stop.Joined
import Derived.Test.YtmbcblabfgepfaaDoorCards
import Derived.Test.YtmbcblabfgepfaaDoorTie
namespace Go.Proofs.YtmbcblabfgepfaaDoor.fnExactRunOps
open Go Go.Fm Go.Fm.Opn Go.ChangeShapes Go.WideShapes Go.ChangeAt Go.RowKit Go.Proofs.YtmbcblabfgepfaaDoor
open Go.ChangeMaps (open_string shut_string)
set_option linter.unusedVariables false
set_option maxRecDepth 100000
theorem own : ownKnob Tryd.prog.godebug = none := by kernel_rfl
theorem laidOut : laidOutB Tryd.prog = true := by kernel_rfl
theorem lifted (os : Os) (started : os.Started) (H : Type) (enc : TypeId × Value → H) :
    ReturnsInHanded {} Tryd.checked os 3 .any (fun w args => (Rows.fnExactRunOpsSpec.pre enc Tryd.prog Tryd.f3 Rows.fnExactRunOpsRow.domain false w args ∧ laidMetH Tryd.prog Rows.fnExactRunOpsRow.laid w) ∧ sizedMet enc Tryd.prog Tryd.f3 (OpenSpec.ofChange Rows.fnExactRunOpsSpec) false w args) (Rows.fnExactRunOpsSpec.post enc Tryd.prog Tryd.f3 false true false false) := by
  refine returnsInHanded_of_change_and (C := Tryd.checked) (X := fun w _ => laidMetH Tryd.prog Rows.fnExactRunOpsRow.laid w) (fun _ _ _ hh h => h.of_heap hh) own started (by kernel_rfl) Tryd.func3
    (ChangeSpec.witness_shaped (enc := enc) (C := Tryd.checked) (os := os) (X := fun w _ => laidMetH Tryd.prog Rows.fnExactRunOpsRow.laid w) false (World.laidAll Tryd.prog os Rows.fnExactRunOpsRow.laid) #[.slice none 0 0] 8 (World.laidAll_os _ _ _)
      (World.shaped_of_ZipB (by kernel_rfl) (by kernel_rfl)) (by kernel_rfl) (by kernel_rfl) (by kernel_rfl)
      (by rw [MakeChecks.laidMetH_plain _ _ _ (by kernel_rfl)]; exact laidMet_laidAll _ (by kernel_rfl) (by kernel_rfl))) ?_
  intro W base args ds gs before hval0 hW hcnd hsz0 hL _
  have hsz : (DataW.weightsEach Tryd.prog (Tryd.f3.params.toList ++ Rows.fnExactRunOpsSpec.plain.varTypes Tryd.prog) (ds ++ gs)).all (· ≤ reachBytes) = true := hsz0
  have hval : ∀ (j : Nat) t v, Tryd.f3.params[j]? = some t → args[j]? = some v → Value.okWide Tryd.prog W .any base t v := hval0
  have hW' := hW
  obtain ⟨p, q, hA0, hV, rfl, hfz, hnd⟩ := hW
  have hA : DataW.TrodAll enc Tryd.prog W 0 (fun _ => true) true Tryd.f3.params.toList args.toList ds p := hA0
  rw [Tryd.params3] at hA hval hsz
  obtain ⟨v0, vs0, d0, ds0, p0, q0, hargs, rfl, rfl, h0, r0⟩ := trodAll_cons hA
  obtain ⟨rfl, rfl, rfl⟩ := trodAll_nil r0
  obtain rfl : args = #[v0] := by cases args; simp_all
  obtain ⟨rfl, rfl⟩ := trodVars_none hV
  have k0 := h0
  have lt0 : ∀ x ∈ p0, x.block < W.heap.size := by obtain ⟨m, hm⟩ := k0; exact DataW.trod_lt m _ _ _ hm
  obtain ⟨a0, R0, y0⟩ := open_slice (d := (.struct (.pair (.int .i64) (.pair (.int .i64) .str)))) (ok := okT (.slice (.struct (.pair (.int .i64) (.pair (.int .i64) .str))))) Tryd.underlying22 (ok_slice (e := 39) 32 Tryd.underlying22 (by decide) (by kernel_rfl) (by kernel_rfl) (by decide) (ok_struct Tryd.underlying39 (by kernel_rfl) (okFs_cons (ok_int Tryd.underlying3) (okFs_cons (ok_int Tryd.underlying3) (okFs_one (ok_string Tryd.underlying9)))))) (hval 0 22 v0 rfl rfl) h0 (arg_weights hsz (j := 0) rfl rfl)
  clear hA0 hval0 hsz0 hsz
  obtain ⟨k, h⟩ := Fms.law a0 y0
  refine (Fm.Opn.lawG (Fms.c3 k) (Fm.hasTab_third (g := 0) (t := 93) (e := 81) (by kernel_rfl) (by kernel_rfl) (by kernel_rfl) (by kernel_rfl) (by kernel_rfl) (by kernel_rfl) (by kernel_rfl) hL) (v := (a0, ())) h ⟨_, _, rfl, Fm.Opn.Reg.none_ R0, ⟨rfl, rfl⟩⟩).mono fun e W' ⟨he, bel⟩ => ?_
  subst he
  exact ⟨_, rfl, _, _, _, [], _, [], hW', trodAll_mk1 (shut_bool Tryd.underlying4 _), (trodAll_cons_mk (Below.trod laidOut (by kernel_rfl) (of_decide_eq_true (by kernel_rfl)) k0 bel lt0) trodAll_mk0), rfl, bel.frame _, fun h => by cases h⟩
theorem over : Rows.fnExactRunOpsRow.holds Tryd.pinned (OpenSpec.ofChange Rows.fnExactRunOpsSpec) :=
  OpenClaim.holds_of_wide 3 Tryd.f3 rfl rfl rfl rfl rfl rfl rfl ⟨rfl, rfl, rfl, rfl, rfl⟩ rfl rfl rfl rfl rfl (by kernel_rfl) Tryd.func3 (by kernel_rfl)
    (of_decide_eq_true (by kernel_rfl)) (by unfold Func.isWrapper; first | (rw [if_pos (by decide +kernel)]; kernel_rfl) | (rw [if_neg (by decide +kernel)]; exact ⟨rfl, rfl⟩))
    (fun os started H enc _ => lifted os started H enc)
theorem proved : Rows.FnExactRunOpsSaid := over
theorem card : Rows.FnExactRunOpsCardSaid :=
  Claim7.holds_tied_plain_at .later [] [.data, .data, .data, .data, .pinned] true (true, "8dfe117a6d44bee025ce220878915de98330d861e9c418ddcf72d6461eaebcce") false proved (fun _ h => by cases h) (by kernel_rfl) (fun _ h => by cases h) fnExactRunOps_row_tie rfl ⟨rfl, rfl⟩ (by kernel_rfl) rfl
    (fun f fn hf hfn => by
      obtain rfl : f = 3 := Option.some.inj ((show Tryd.prog.funcNamed "loop.example/g00218/laws.FnExactRunOps" = some 3 by kernel_rfl).symm.trans hf) |>.symm
      obtain rfl : fn = Tryd.f3 := (Option.some.inj (Tryd.func3.symm.trans hfn)).symm
      exact ⟨by kernel_rfl, fun j t ht => by
        rw [Tryd.params3] at ht
        have hm : t ∈ [22] := by simpa using Array.mem_of_getElem? ht
        have hall : ([22].all fun u => !Tryd.prog.wantsStandIn u) = true := by kernel_rfl
        exact (show Tryd.prog.wantsStandIn t = false by simpa using List.all_eq_true.1 hall t hm)⟩)
    (by kernel_rfl)
#print axioms card
end Go.Proofs.YtmbcblabfgepfaaDoor.fnExactRunOps
namespace Go.Proofs.YtmbcblabfgepfaaDoor
/-- The row, under a short name, for the claim. -/
theorem fnExactRunOps_holds : Rows.FnExactRunOpsCardSaid := fnExactRunOps.card
end Go.Proofs.YtmbcblabfgepfaaDoor
