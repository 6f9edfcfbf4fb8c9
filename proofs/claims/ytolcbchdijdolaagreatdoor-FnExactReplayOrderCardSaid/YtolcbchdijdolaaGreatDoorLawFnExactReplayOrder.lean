/- The row of the law FnExactReplayOrder: for every input the law returns true, and its arguments read as before. No condition beyond the row's own. -/
import Derived.Test.YtolcbchdijdolaaGreatDoorRows
import Derived.Test.YtolcbchdijdolaaGreatDoorFmXFnExactReplayOrderPure
import Derived.WalkKit
import Derived.ProofKit
import Derived.OpenShut
import Derived.ShutString
import Derived.ChangeOld
import Derived.Below
import Derived.SizedLaws
import Derived.LaidMore
import Derived.Lay
import Derived.SevenTiedAt
import Derived.Stop.Joined
import Derived.Test.YtolcbchdijdolaaGreatDoorCards
import Derived.Test.YtolcbchdijdolaaGreatDoorTie
namespace Go.Proofs.YtolcbchdijdolaaGreatDoor.fnExactReplayOrder
open Go Go.Fm Go.Fm.Opn Go.ChangeShapes Go.WideShapes Go.ChangeAt Go.RowKit Go.Proofs.YtolcbchdijdolaaGreatDoor
open Go.ChangeMaps (open_string shut_string)
set_option linter.unusedVariables false
set_option maxRecDepth 100000
theorem own : ownKnob Tryz.prog.godebug = none := by kernel_rfl
theorem laidOut : laidOutB Tryz.prog = true := by kernel_rfl
theorem lifted (os : Os) (started : os.Started) (H : Type) (enc : TypeId × Value → H) :
    ReturnsInHanded {} Tryz.checked os 3 .any (fun w args => (Rows.fnExactReplayOrderSpec.pre enc Tryz.prog Tryz.f3 Rows.fnExactReplayOrderRow.domain false w args ∧ laidMetH Tryz.prog Rows.fnExactReplayOrderRow.laid w) ∧ sizedMet enc Tryz.prog Tryz.f3 (OpenSpec.ofChange Rows.fnExactReplayOrderSpec) false w args) (Rows.fnExactReplayOrderSpec.post enc Tryz.prog Tryz.f3 false true false false) := by
  refine returnsInHanded_of_change_and (C := Tryz.checked) (X := fun w _ => laidMetH Tryz.prog Rows.fnExactReplayOrderRow.laid w) (fun _ _ _ hh h => h.of_heap hh) own started (by kernel_rfl) Tryz.func3
    (ChangeSpec.witness_shaped (enc := enc) (C := Tryz.checked) (os := os) (X := fun w _ => laidMetH Tryz.prog Rows.fnExactReplayOrderRow.laid w) false (World.laidAll Tryz.prog os Rows.fnExactReplayOrderRow.laid) #[.agg #[.int .i64 0, .slice none 0 0, .slice none 0 0, .slice none 0 0], .int .i64 0] 8 (World.laidAll_os _ _ _)
      (World.shaped_of_ZipB (by kernel_rfl) (by kernel_rfl)) (by kernel_rfl) (by kernel_rfl) (by kernel_rfl)
      (by rw [MakeChecks.laidMetH_plain _ _ _ (by kernel_rfl)]; exact laidMet_laidAll _ (by kernel_rfl) (by kernel_rfl))) ?_
  intro W base args ds gs before hval0 hW hcnd hsz0 hL _
  have hsz : (DataW.weightsEach Tryz.prog (Tryz.f3.params.toList ++ Rows.fnExactReplayOrderSpec.plain.varTypes Tryz.prog) (ds ++ gs)).all (· ≤ reachBytes) = true := hsz0
  have hval : ∀ (j : Nat) t v, Tryz.f3.params[j]? = some t → args[j]? = some v → Value.okWide Tryz.prog W .any base t v := hval0
  have hW' := hW
  obtain ⟨p, q, hA0, hV, rfl, hfz, hnd⟩ := hW
  have hA : DataW.TrodAll enc Tryz.prog W 0 (fun _ => true) true Tryz.f3.params.toList args.toList ds p := hA0
  rw [Tryz.params3] at hA hval hsz
  obtain ⟨v0, vs0, d0, ds0, p0, q0, hargs, rfl, rfl, h0, r0⟩ := trodAll_cons hA
  obtain ⟨v1, vs1, d1, ds1, p1, q1, rfl, rfl, rfl, h1, r1⟩ := trodAll_cons r0
  obtain ⟨rfl, rfl, rfl⟩ := trodAll_nil r1
  obtain rfl : args = #[v0, v1] := by cases args; simp_all
  obtain ⟨rfl, rfl⟩ := trodVars_none hV
  have k0 := h0
  have lt0 : ∀ x ∈ p0, x.block < W.heap.size := by obtain ⟨m, hm⟩ := k0; exact DataW.trod_lt m _ _ _ hm
  obtain ⟨a0, R0, y0⟩ := open_struct (d := (.pair (.int .i64) (.pair (.slice (.struct (.pair .str (.pair .str (.pair (.struct (.pair (.int .i64) (.pair (.int .i64) .bool))) (.int .i64)))))) (.pair (.slice (.struct (.pair (.int .i64) (.pair (.int .i64) (.pair (.slice (.struct (.pair .str (.pair .str (.struct (.pair (.int .i64) (.pair (.int .i64) .bool))))))) (.pair (.slice (.struct (.pair .str .str))) (.struct (.pair (.int .i64) (.pair (.int .i64) .bool))))))))) (.slice (.int .i64)))))) (ok := okT (.struct (.pair (.int .i64) (.pair (.slice (.struct (.pair .str (.pair .str (.pair (.struct (.pair (.int .i64) (.pair (.int .i64) .bool))) (.int .i64)))))) (.pair (.slice (.struct (.pair (.int .i64) (.pair (.int .i64) (.pair (.slice (.struct (.pair .str (.pair .str (.struct (.pair (.int .i64) (.pair (.int .i64) .bool))))))) (.pair (.slice (.struct (.pair .str .str))) (.struct (.pair (.int .i64) (.pair (.int .i64) .bool))))))))) (.slice (.int .i64))))))) Tryz.underlying26 (ok_struct Tryz.underlying26 (by kernel_rfl) (okFs_cons (ok_int Tryz.underlying3) (okFs_cons (ok_slice (e := 69) 64 Tryz.underlying22 (by decide) (by kernel_rfl) (by kernel_rfl) (by decide) (ok_struct Tryz.underlying69 (by kernel_rfl) (okFs_cons (ok_string Tryz.underlying9) (okFs_cons (ok_string Tryz.underlying9) (okFs_cons (ok_struct Tryz.underlying67 (by kernel_rfl) (okFs_cons (ok_int Tryz.underlying3) (okFs_cons (ok_int Tryz.underlying3) (okFs_one (ok_bool Tryz.underlying4))))) (okFs_one (ok_int Tryz.underlying3))))))) (okFs_cons (ok_slice (e := 74) 88 Tryz.underlying23 (by decide) (by kernel_rfl) (by kernel_rfl) (by decide) (ok_struct Tryz.underlying74 (by kernel_rfl) (okFs_cons (ok_int Tryz.underlying3) (okFs_cons (ok_int Tryz.underlying3) (okFs_cons (ok_slice (e := 122) 56 Tryz.underlying71 (by decide) (by kernel_rfl) (by kernel_rfl) (by decide) (ok_struct Tryz.underlying122 (by kernel_rfl) (okFs_cons (ok_string Tryz.underlying9) (okFs_cons (ok_string Tryz.underlying9) (okFs_one (ok_struct Tryz.underlying67 (by kernel_rfl) (okFs_cons (ok_int Tryz.underlying3) (okFs_cons (ok_int Tryz.underlying3) (okFs_one (ok_bool Tryz.underlying4)))))))))) (okFs_cons (ok_slice (e := 124) 32 Tryz.underlying72 (by decide) (by kernel_rfl) (by kernel_rfl) (by decide) (ok_struct Tryz.underlying124 (by kernel_rfl) (okFs_cons (ok_string Tryz.underlying9) (okFs_one (ok_string Tryz.underlying9))))) (okFs_one (ok_struct Tryz.underlying67 (by kernel_rfl) (okFs_cons (ok_int Tryz.underlying3) (okFs_cons (ok_int Tryz.underlying3) (okFs_one (ok_bool Tryz.underlying4)))))))))))) (okFs_one (ok_slice (e := 3) 8 Tryz.underlying24 (by decide) (by kernel_rfl) (by kernel_rfl) (by decide) (ok_int Tryz.underlying3))))))) (hval 0 26 v0 rfl rfl) h0 (arg_weights hsz (j := 0) rfl rfl)
  have k1 := h1
  have lt1 : ∀ x ∈ p1, x.block < W.heap.size := by obtain ⟨m, hm⟩ := k1; exact DataW.trod_lt m _ _ _ hm
  obtain ⟨a1, rfl, rfl, rfl, ok1⟩ := open_int Tryz.underlying3 (hval 1 3 v1 rfl rfl) h1
  have R1 : Reg W (fun _ => False) (.int .i64) (.int .i64 a1) a1 := Reg.int .i64 a1
  have y1 : okT (.int .i64) a1 := ok1
  clear hA0 hval0 hsz0 hsz
  obtain ⟨k, h⟩ := Fms.law a0 a1 y0 y1
  refine (Fm.Opn.law (G := fun _ => True) (Fms.c3 k) (fun _ => trivial) (v := (a0, a1, ())) h ⟨_, _, rfl, Fm.Opn.Reg.none_ R0, ⟨_, _, rfl, Fm.Opn.Reg.none_ R1, ⟨rfl, rfl⟩⟩⟩).mono fun e W' ⟨he, bel⟩ => ?_
  subst he
  exact ⟨_, rfl, _, _, _, [], _, [], hW', trodAll_mk1 (shut_bool Tryz.underlying4 _), (trodAll_cons_mk (Below.trod laidOut (by kernel_rfl) (of_decide_eq_true (by kernel_rfl)) k0 bel lt0) (trodAll_cons_mk (Below.trod laidOut (by kernel_rfl) (of_decide_eq_true (by kernel_rfl)) k1 bel lt1) trodAll_mk0)), rfl, bel.frame _, fun h => by cases h⟩
theorem over : Rows.fnExactReplayOrderRow.holds Tryz.pinned (OpenSpec.ofChange Rows.fnExactReplayOrderSpec) :=
  OpenClaim.holds_of_wide 3 Tryz.f3 rfl rfl rfl rfl rfl rfl rfl ⟨rfl, rfl, rfl, rfl, rfl⟩ rfl rfl rfl rfl rfl (by kernel_rfl) Tryz.func3 (by kernel_rfl)
    (of_decide_eq_true (by kernel_rfl)) (by unfold Func.isWrapper; first | (rw [if_pos (by decide +kernel)]; kernel_rfl) | (rw [if_neg (by decide +kernel)]; exact ⟨rfl, rfl⟩))
    (fun os started H enc _ => lifted os started H enc)
theorem proved : Rows.FnExactReplayOrderSaid := over
theorem card : Rows.FnExactReplayOrderCardSaid :=
  Claim7.holds_tied_plain_at .later [] [.data, .pinned] true (true, "cf3dc63a0b8420aecc596f231b389dded6ab36ad5d21358552fc5baddcc4f4e1") false proved (fun _ h => by cases h) (by kernel_rfl) (fun _ h => by cases h) fnExactReplayOrder_row_tie rfl ⟨rfl, rfl⟩ (by kernel_rfl) rfl
    (fun f fn hf hfn => by
      obtain rfl : f = 3 := Option.some.inj ((show Tryz.prog.funcNamed "loop.example/g00218/laws.FnExactReplayOrder" = some 3 by kernel_rfl).symm.trans hf) |>.symm
      obtain rfl : fn = Tryz.f3 := (Option.some.inj (Tryz.func3.symm.trans hfn)).symm
      exact ⟨by kernel_rfl, fun j t ht => by
        rw [Tryz.params3] at ht
        have hm : t ∈ [26, 3] := by simpa using Array.mem_of_getElem? ht
        have hall : ([26, 3].all fun u => !Tryz.prog.wantsStandIn u) = true := by kernel_rfl
        exact (show Tryz.prog.wantsStandIn t = false by simpa using List.all_eq_true.1 hall t hm)⟩)
    (by kernel_rfl)
#print axioms card
end Go.Proofs.YtolcbchdijdolaaGreatDoor.fnExactReplayOrder
namespace Go.Proofs.YtolcbchdijdolaaGreatDoor
/-- The row, under a short name, for the claim. -/
theorem fnExactReplayOrder_holds : Rows.FnExactReplayOrderCardSaid := fnExactReplayOrder.card
end Go.Proofs.YtolcbchdijdolaaGreatDoor
