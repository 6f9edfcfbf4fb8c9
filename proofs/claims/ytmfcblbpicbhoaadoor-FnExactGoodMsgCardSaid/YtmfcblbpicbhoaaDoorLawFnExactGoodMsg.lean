/- The row of the law FnExactGoodMsg: for every input the law returns true, and its arguments read as before. No condition beyond the row's own. -/
import Derived.Test.YtmfcblbpicbhoaaDoorRows
import Derived.Test.YtmfcblbpicbhoaaDoorPureFnExactGoodMsg
import Derived.WalkKit
import Derived.ProofKit
import Derived.OpenShut
import Derived.ShutString
import Derived.ChangeOld
import Derived.Below
import Derived.SizedLaws
import Derived.LaidMore
import Derived.Lay
import Derived.SevenTiedAt
import Derived.Stop.Joined
import Derived.Test.YtmfcblbpicbhoaaDoorCards
import Derived.Test.YtmfcblbpicbhoaaDoorTie
namespace Go.Proofs.YtmfcblbpicbhoaaDoor.fnExactGoodMsg
open Go.ChangeShapes Go.WideShapes Go.ChangeAt Go.RowKit Go.Proofs.YtmfcblbpicbhoaaDoor.Opn Go.Proofs.YtmfcblbpicbhoaaDoor.PFnExactGoodMsg Go.Proofs.YtmfcblbpicbhoaaDoorW.PrintWords
open Go.ChangeMaps (open_string shut_string)
set_option linter.unusedVariables false
theorem own : ownKnob Tryd.prog.godebug = none := by kernel_rfl
theorem laidOut : laidOutB Tryd.prog = true := by kernel_rfl
set_option maxRecDepth 100000 in
theorem lifted (os : Os) (started : os.Started) (H : Type) (enc : TypeId × Value → H) :
    ReturnsInHanded {} Tryd.checked os 3 .any (fun w args => (Rows.fnExactGoodMsgSpec.pre enc Tryd.prog Tryd.f3 Rows.fnExactGoodMsgRow.domain false w args ∧ laidMetH Tryd.prog Rows.fnExactGoodMsgRow.laid w) ∧ sizedMet enc Tryd.prog Tryd.f3 (OpenSpec.ofChange Rows.fnExactGoodMsgSpec) false w args) (Rows.fnExactGoodMsgSpec.post enc Tryd.prog Tryd.f3 false true false false) := by
  refine returnsInHanded_of_change_and (C := Tryd.checked) (X := fun w _ => laidMetH Tryd.prog Rows.fnExactGoodMsgRow.laid w) (fun _ _ _ hh h => h.of_heap hh) own started (by kernel_rfl) Tryd.func3
    (ChangeSpec.witness_shaped (enc := enc) (C := Tryd.checked) (os := os) (X := fun w _ => laidMetH Tryd.prog Rows.fnExactGoodMsgRow.laid w) false (World.laidAll Tryd.prog os Rows.fnExactGoodMsgRow.laid) #[.agg #[.int .i64 0, .int .i64 0, .int .i64 0, .int .i64 0, .string ByteArray.empty, .string ByteArray.empty, .int .i64 0, .int .i64 0, .bool false]] 8 (World.laidAll_os _ _ _)
      (World.shaped_of_ZipB (by kernel_rfl) (by kernel_rfl)) (by kernel_rfl) (by kernel_rfl) (by kernel_rfl)
      (by rw [MakeChecks.laidMetH_plain _ _ _ (by kernel_rfl)]; exact laidMet_laidAll _ (by kernel_rfl) (by kernel_rfl))) ?_
  intro W base args ds gs before hval0 hW hcnd hsz0 hL _
  have hsz : (DataW.weightsEach Tryd.prog (Tryd.f3.params.toList ++ Rows.fnExactGoodMsgSpec.plain.varTypes Tryd.prog) (ds ++ gs)).all (· ≤ reachBytes) = true := hsz0
  have hval : ∀ (j : Nat) t v, Tryd.f3.params[j]? = some t → args[j]? = some v → Value.okWide Tryd.prog W .any base t v := hval0
  have hW' := hW
  obtain ⟨p, q, hA0, hV, rfl, hfz, hnd⟩ := hW
  have hA : DataW.TrodAll enc Tryd.prog W 0 (fun _ => true) true Tryd.f3.params.toList args.toList ds p := hA0
  rw [Tryd.params3] at hA hval hsz
  obtain ⟨v0, vs0, d0, ds0, p0, q0, hargs, rfl, rfl, h0, r0⟩ := trodAll_cons hA
  obtain ⟨rfl, rfl, rfl⟩ := trodAll_nil r0
  obtain rfl : args = #[v0] := by cases args; simp_all
  obtain ⟨rfl, rfl⟩ := trodVars_none hV
  have k0 := h0
  have lt0 : ∀ x ∈ p0, x.block < W.heap.size := by obtain ⟨m, hm⟩ := k0; exact DataW.trod_lt m _ _ _ hm
  obtain ⟨cs0, x0, rfl, K0, o0⟩ := open_struct Tryd.underlying25 (opens_struct (t := 25) (f := fun x => x) Tryd.underlying25 (by kernel_rfl) (fun x => x) (fun _ => rfl) (opensFs_cons (opens_int Tryd.underlying3) (opensFs_cons (opens_int Tryd.underlying3) (opensFs_cons (opens_int Tryd.underlying3) (opensFs_cons (opens_int Tryd.underlying3) (opensFs_cons (opens_string Tryd.underlying9) (opensFs_cons (opens_string Tryd.underlying9) (opensFs_one (opens_struct (t := 23) (f := fun x => x) Tryd.underlying23 (by kernel_rfl) (fun x => x) (fun _ => rfl) (opensFs_cons (opens_int Tryd.underlying3) (opensFs_cons (opens_int Tryd.underlying3) (opensFs_one (opens_bool Tryd.underlying4))))))))))))) (hval 0 25 v0 rfl rfl) h0 (arg_weights hsz (j := 0) rfl rfl)
  obtain ⟨a0_0, a0_1, a0_2, a0_3, a0_4, a0_5, ⟨a0_6, a0_7, a0_8⟩⟩ := x0
  obtain ⟨ok0_0, ok0_1, ok0_2, ok0_3, ok0_4, ok0_5, ⟨ok0_6, ok0_7, _⟩⟩ := o0
  obtain ⟨_, _, eK, rfl, ⟨_, _, rfl, rfl, ⟨_, _, rfl, rfl, ⟨_, _, rfl, rfl, ⟨_, _, rfl, rfl, ⟨_, _, rfl, rfl, ⟨_, _, rfl, rfl, ⟨_, _, rfl, rfl, rfl⟩⟩⟩⟩⟩⟩⟩⟩ := K0
  obtain rfl : cs0 = #[.int .i64 a0_0, .int .i64 a0_1, .int .i64 a0_2, .int .i64 a0_3, .string a0_4, .string a0_5, .int .i64 a0_6, .int .i64 a0_7, .bool a0_8] := array_of eK
  clear hA0 hval0 hsz0 hsz
  obtain ⟨k, h⟩ := Pure.FnExactGoodMsg a0_0 a0_1 a0_2 a0_3 a0_4 a0_5 a0_6 a0_7 a0_8 ok0_0 ok0_1 ok0_2 ok0_3 ok0_4 ok0_5 ok0_6 ok0_7
  refine (PFnExactGoodMsg.laws_FnExactGoodMsg.calls k a0_0 a0_1 a0_2 a0_3 a0_4 a0_5 a0_6 a0_7 a0_8 true W  h).mono fun e W' ⟨he, bel0⟩ => ?_
  have bel : Below W.heap.size W W' := bel0
  subst he
  exact ⟨_, rfl, _, _, _, [], _, [], hW', trodAll_mk1 (shut_bool Tryd.underlying4 _), (trodAll_cons_mk (Below.trod laidOut (by kernel_rfl) (of_decide_eq_true (by kernel_rfl)) k0 bel lt0) trodAll_mk0), rfl, bel.frame _, fun h => by cases h⟩
theorem over : Rows.fnExactGoodMsgRow.holds Tryd.pinned (OpenSpec.ofChange Rows.fnExactGoodMsgSpec) :=
  OpenClaim.holds_of_wide 3 Tryd.f3 rfl rfl rfl rfl rfl rfl rfl ⟨rfl, rfl, rfl, rfl, rfl⟩ rfl rfl rfl rfl rfl (by kernel_rfl) Tryd.func3 (by kernel_rfl)
    (of_decide_eq_true (by kernel_rfl)) (by unfold Func.isWrapper; first | (rw [if_pos (by decide +kernel)]; kernel_rfl) | (rw [if_neg (by decide +kernel)]; exact ⟨rfl, rfl⟩))
    (fun os started H enc _ => lifted os started H enc)
theorem proved : Rows.FnExactGoodMsgSaid := over
set_option maxRecDepth 100000 in
theorem card : Rows.FnExactGoodMsgCardSaid :=
  Claim7.holds_tied_plain_at .later [] [.data, .pinned] true (true, "2802ac9249bb4f5fdbafb0a439dae588067bf004d9e70ccb1b69be89be77aa8a") false proved (fun _ h => by cases h) (by kernel_rfl) (fun _ h => by cases h) fnExactGoodMsg_row_tie rfl ⟨rfl, rfl⟩ (by kernel_rfl) rfl
    (fun f fn hf hfn => by
      obtain rfl : f = 3 := Option.some.inj ((show Tryd.prog.funcNamed "loop.example/g00218/laws.FnExactGoodMsg" = some 3 by kernel_rfl).symm.trans hf) |>.symm
      obtain rfl : fn = Tryd.f3 := (Option.some.inj (Tryd.func3.symm.trans hfn)).symm
      exact ⟨by kernel_rfl, fun j t ht => by
        rw [Tryd.params3] at ht
        have hm : t ∈ [25] := by simpa using Array.mem_of_getElem? ht
        have hall : ([25].all fun u => !Tryd.prog.wantsStandIn u) = true := by kernel_rfl
        exact (show Tryd.prog.wantsStandIn t = false by simpa using List.all_eq_true.1 hall t hm)⟩)
    (by kernel_rfl)
#print axioms card
end Go.Proofs.YtmfcblbpicbhoaaDoor.fnExactGoodMsg
namespace Go.Proofs.YtmfcblbpicbhoaaDoor
/-- The row, under a short name, for the claim. -/
theorem fnExactGoodMsg_holds : Rows.FnExactGoodMsgCardSaid := fnExactGoodMsg.card
end Go.Proofs.YtmfcblbpicbhoaaDoor
