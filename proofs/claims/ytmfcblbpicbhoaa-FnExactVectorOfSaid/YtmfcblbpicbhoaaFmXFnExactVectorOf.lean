/- FnExactVectorOf, by the functional machine. -/
import Derived.Test.YtmfcblbpicbhoaaFmZ
import Derived.Test.YtmfcblbpicbhoaaFmGv
import Derived.Test.YtmfcblbpicbhoaaProg
set_option maxRecDepth 100000
set_option linter.unusedVariables false
open Go Go.Fm
namespace Go.Proofs.Ytmfcblbpicbhoaa.Fms
abbrev K1 : Kind := .struct (.slice (.int .i64))
abbrev K0 : Kind := .struct (.pair (.int .i64) (.pair (.int .i64) (.int .i64)))
def table : List TRow := [⟨2, (.int .i64), 0, 0, false, none⟩, ⟨3, (.int .i64), 0, 0, false, none⟩, ⟨4, .bool, 0, 0, false, none⟩, ⟨22, (.slice K0), 5864062014805, 52, false, none⟩, ⟨26, (.slice K0), 5864062014805, 50, false, none⟩, ⟨30, (.slice (.int .i64)), 17592186044416, 3, false, none⟩, ⟨40, (.slice K1), 5864062014805, 55, false, none⟩, ⟨49, K0, 0, 0, true, none⟩, ⟨50, K0, 0, 0, true, none⟩, ⟨52, K0, 0, 0, true, none⟩, ⟨54, K1, 0, 0, false, none⟩, ⟨55, K1, 0, 0, false, none⟩, ⟨64, .unit, 0, 0, false, some (3, 4)⟩]
def base : Ctx := ctxOf table
theorem types : TypesOK Try.prog base := typesOK_of (by kernel_rfl)
theorem mixed : Try.prog.follows .mixedOrders = true := by kernel_rfl
/-- loop.example/g00218/laws.eqEvent -/
noncomputable def D33 : Def := { fn := Try.f33, code := Try.f33.body.getD .skip, ps := [.val K0, .val K0], res := .val .bool, pl := [], L := lookL [] }
noncomputable def E33 (k : Nat) : Ctx := mkCx base []
theorem c33 [Strict] {G : World → Prop} (k : Nat) : Con Try.prog G 33 (D33.fnAt E33 k) := Def.con2 mixed (fun k => TypesOK.mk' types _) (fun k => FnsOK.nil) D33 Try.func33 (by kernel_rfl) (fun k => by kernel_rfl) (fx := []) (fun k => rfl) (by kernel_rfl) k
/-- loop.example/g00218/laws.eqEventS -/
noncomputable def D11 : Def := { fn := Try.f11, code := Try.f11.body.getD .skip, ps := [.val (.slice K0), .val (.slice K0)], res := .val .bool, pl := [4], L := lookL [(4, [.val 0 (.slice K0), .val 1 (.slice K0), .val 5 (.int .i64)])] }
noncomputable def E11 (k : Nat) : Ctx := mkCx base [(33, D33.fnAt E33 k)]
theorem c11 [Strict] {G : World → Prop} (k : Nat) : Con Try.prog G 11 (D11.fnAt E11 k) := Def.con2 mixed (fun k => TypesOK.mk' types _) (fun k => FnsOK.cons (c33 k) (by kernel_rfl) (FnsOK.nil)) D11 Try.func11 (by kernel_rfl) (fun k => by kernel_rfl) (fx := []) (fun k => rfl) (by kernel_rfl) k
/-- loop.example/g00218/laws.markEventS -/
noncomputable def D15 : Def := { fn := Try.f15, code := Try.f15.body.getD .skip, ps := [.own 50 K0, .val (.int .i64)], res := .back 0 50 K0 (.val (.int .i64)), pl := [2], L := lookL [(2, [.own 0 50 K0, .val 1 (.int .i64), .val 5 (.int .i64)])] }
noncomputable def E15 (k : Nat) : Ctx := mkCx (fxCx base [0]) []
theorem c15 [Strict] {G : World → Prop} (k : Nat) : Con Try.prog G 15 (D15.fnAt E15 k) := Def.con2 mixed (fun k => TypesOK.mk' (types.fx [0]) _) (fun k => FnsOK.nil) D15 Try.func15 (by kernel_rfl) (fun k => by kernel_rfl) (fx := [0]) (fun k => rfl) (by kernel_rfl) k
/-- loop.example/g00218/spec.l1In -/
noncomputable def D27 : Def := { fn := Try.f27, code := Try.f27.body.getD .skip, ps := [.val (.int .i64), .val (.int .i64), .val (.int .i64)], res := .val .bool, pl := [], L := lookL [] }
noncomputable def E27 (k : Nat) : Ctx := mkCx base []
theorem c27 [Strict] {G : World → Prop} (k : Nat) : Con Try.prog G 27 (D27.fnAt E27 k) := Def.con2 mixed (fun k => TypesOK.mk' types _) (fun k => FnsOK.nil) D27 Try.func27 (by kernel_rfl) (fun k => by kernel_rfl) (fx := []) (fun k => rfl) (by kernel_rfl) k
/-- loop.example/g00218/spec.GoodEvents -/
noncomputable def D26 : Def := { fn := Try.f26, code := Try.f26.body.getD .skip, ps := [.val (.slice K0)], res := .val .bool, pl := [2, 11], L := lookL [(2, [.val 0 (.slice K0), .val 8 (.slice K0), .val 9 (.int .i64), .val 10 (.int .i64)]), (11, [.val 0 (.slice K0), .var 4 K0, .val 5 .bool, .val 8 (.slice K0), .val 9 (.int .i64), .val 10 (.int .i64), .val 33 (.slice K0), .val 34 (.int .i64), .val 35 (.int .i64)])] }
noncomputable def E26 (k : Nat) : Ctx := mkCx base [(27, D27.fnAt E27 k)]
theorem c26 [Strict] {G : World → Prop} (k : Nat) : Con Try.prog G 26 (D26.fnAt E26 k) := Def.con2 mixed (fun k => TypesOK.mk' types _) (fun k => FnsOK.cons (c27 k) (by kernel_rfl) (FnsOK.nil)) D26 Try.func26 (by kernel_rfl) (fun k => by kernel_rfl) (fx := []) (fun k => rfl) (by kernel_rfl) k
/-- loop.example/g00218/spec.l2Causes -/
noncomputable def D34 : Def := { fn := Try.f34, code := Try.f34.body.getD .skip, ps := [.val (.slice K0), .val (.int .i64)], res := .tup (.pair (.val (.int .i64)) (.val (.int .i64))), pl := [4, 8], L := lookL [(4, [.val 0 (.slice K0), .val 1 (.int .i64), .val 6 (.int .i64), .val 7 (.int .i64), .val 12 (.slice K0), .val 13 (.int .i64), .val 14 (.int .i64)]), (8, [.val 0 (.slice K0), .val 1 (.int .i64), .val 6 (.int .i64), .val 7 (.int .i64), .val 8 (.int .i64), .var 9 K0, .val 12 (.slice K0), .val 13 (.int .i64), .val 14 (.int .i64)])] }
noncomputable def E34 (k : Nat) : Ctx := mkCx base []
theorem c34 [Strict] {G : World → Prop} (k : Nat) : Con Try.prog G 34 (D34.fnAt E34 k) := Def.con2 mixed (fun k => TypesOK.mk' types _) (fun k => FnsOK.nil) D34 Try.func34 (by kernel_rfl) (fun k => by kernel_rfl) (fx := []) (fun k => rfl) (by kernel_rfl) k
/-- loop.example/g00218/spec.l2Merge -/
noncomputable def D38 : Def := { fn := Try.f38, code := Try.f38.body.getD .skip, ps := [.val (.slice (.int .i64)), .val (.slice (.int .i64))], res := .own 3 (.int .i64), pl := [3], L := lookL [(3, [.own 5 3 (.int .i64), .val 11 (.slice (.int .i64)), .val 12 (.int .i64), .val 13 (.int .i64)])] }
noncomputable def E38 (k : Nat) : Ctx := mkCx base []
theorem c38 [Strict] {G : World → Prop} (k : Nat) : Con Try.prog G 38 (D38.fnAt E38 k) := Def.con2 mixed (fun k => TypesOK.mk' types _) (fun k => FnsOK.nil) D38 Try.func38 (by kernel_rfl) (fun k => by kernel_rfl) (fx := []) (fun k => rfl) (by kernel_rfl) k
/-- loop.example/g00218/spec.VectorOf -/
noncomputable def D21 : Def := { fn := Try.f21, code := Try.f21.body.getD .skip, ps := [.val (.slice K0)], res := .tup (.pair (.own 55 K1) (.val .bool)), pl := [5, 10], L := lookL [(5, [.val 0 (.slice K0), .own 4 55 K1, .val 15 (.slice K0), .val 16 (.int .i64), .val 17 (.int .i64)]), (10, [.val 0 (.slice K0), .own 4 55 K1, .var 6 K0, .own 7 3 (.int .i64), .val 15 (.slice K0), .val 16 (.int .i64), .val 17 (.int .i64), .val 31 (.slice (.int .i64)), .val 32 (.int .i64), .val 33 (.int .i64)])] }
noncomputable def E21 (k : Nat) : Ctx := mkCx base [(26, D26.fnAt E26 k), (34, D34.fnAt E34 k), (38, D38.fnAt E38 k)]
theorem c21 [Strict] {G : World → Prop} (k : Nat) : Con Try.prog G 21 (D21.fnAt E21 k) := Def.con2 mixed (fun k => TypesOK.mk' types _) (fun k => FnsOK.cons (c26 k) (by kernel_rfl) (FnsOK.cons (c34 k) (by kernel_rfl) (FnsOK.cons (c38 k) (by kernel_rfl) (FnsOK.nil)))) D21 Try.func21 (by kernel_rfl) (fun k => by kernel_rfl) (fx := []) (fun k => rfl) (by kernel_rfl) k
/-- loop.example/g00218/impl.in -/
noncomputable def D31 : Def := { fn := Try.f31, code := Try.f31.body.getD .skip, ps := [.val (.int .i64), .val (.int .i64), .val (.int .i64)], res := .val .bool, pl := [], L := lookL [] }
noncomputable def E31 (k : Nat) : Ctx := mkCx base []
theorem c31 [Strict] {G : World → Prop} (k : Nat) : Con Try.prog G 31 (D31.fnAt E31 k) := Def.con2 mixed (fun k => TypesOK.mk' types _) (fun k => FnsOK.nil) D31 Try.func31 (by kernel_rfl) (fun k => by kernel_rfl) (fx := []) (fun k => rfl) (by kernel_rfl) k
/-- loop.example/g00218/impl.areEvents -/
noncomputable def D30 : Def := { fn := Try.f30, code := Try.f30.body.getD .skip, ps := [.val (.slice K0)], res := .val .bool, pl := [3], L := lookL [(3, [.val 0 (.slice K0), .mp 3 (.int .i64) .bool, .mp 4 (.int .i64) .bool, .val 10 (.slice K0), .val 11 (.int .i64), .val 12 (.int .i64)])] }
noncomputable def E30 (k : Nat) : Ctx := mkCx base [(31, D31.fnAt E31 k)]
theorem c30 [Strict] {G : World → Prop} (k : Nat) : Con Try.prog G 30 (D30.fnAt E30 k) := Def.con2 mixed (fun k => TypesOK.mk' types _) (fun k => FnsOK.cons (c31 k) (by kernel_rfl) (FnsOK.nil)) D30 Try.func30 (by kernel_rfl) (fun k => by kernel_rfl) (fx := []) (fun k => rfl) (by kernel_rfl) k
/-- loop.example/g00218/impl.causes -/
noncomputable def D35 : Def := { fn := Try.f35, code := Try.f35.body.getD .skip, ps := [.val (.slice K0), .val (.int .i64)], res := .own 3 (.int .i64), pl := [3, 7, 8], L := lookL [(3, [.val 0 (.slice K0), .val 1 (.int .i64), .own 5 3 (.int .i64), .val 6 (.int .i64)]), (7, [.val 0 (.slice K0), .val 1 (.int .i64), .own 5 3 (.int .i64)]), (8, [.val 0 (.slice K0), .val 1 (.int .i64), .own 5 3 (.int .i64), .val 30 (.int .i64), .val 31 (.int .i64)])] }
noncomputable def E35 (k : Nat) : Ctx := mkCx base []
theorem c35 [Strict] {G : World → Prop} (k : Nat) : Con Try.prog G 35 (D35.fnAt E35 k) := Def.con2 mixed (fun k => TypesOK.mk' types _) (fun k => FnsOK.nil) D35 Try.func35 (by kernel_rfl) (fun k => by kernel_rfl) (fx := []) (fun k => rfl) (by kernel_rfl) k
/-- loop.example/g00218/impl.greater -/
noncomputable def D40 : Def := { fn := Try.f40, code := Try.f40.body.getD .skip, ps := [.val (.slice (.int .i64)), .val (.slice (.int .i64))], res := .own 3 (.int .i64), pl := [3], L := lookL [(3, [.val 1 (.slice (.int .i64)), .own 5 3 (.int .i64), .val 9 (.slice (.int .i64)), .val 10 (.int .i64), .val 11 (.int .i64)])] }
noncomputable def E40 (k : Nat) : Ctx := mkCx base []
theorem c40 [Strict] {G : World → Prop} (k : Nat) : Con Try.prog G 40 (D40.fnAt E40 k) := Def.con2 mixed (fun k => TypesOK.mk' types _) (fun k => FnsOK.nil) D40 Try.func40 (by kernel_rfl) (fun k => by kernel_rfl) (fx := []) (fun k => rfl) (by kernel_rfl) k
/-- loop.example/g00218/impl.vectors -/
noncomputable def D32 : Def := { fn := Try.f32, code := Try.f32.body.getD .skip, ps := [.val (.slice K0)], res := .deep 55 K1 [3], pl := [3, 7], L := lookL [(3, [.val 0 (.slice K0), .deep 3 55 K1 [3], .val 10 (.slice K0), .val 11 (.int .i64), .val 12 (.int .i64)]), (7, [.val 0 (.slice K0), .deep 3 55 K1 [3], .var 5 K0, .own 6 3 (.int .i64), .val 10 (.slice K0), .val 11 (.int .i64), .val 12 (.int .i64), .val 20 (.slice (.int .i64)), .val 21 (.int .i64), .val 22 (.int .i64)])] }
noncomputable def E32 (k : Nat) : Ctx := mkCx (dpCx base [(40, [3])]) [(35, D35.fnAt E35 k), (40, D40.fnAt E40 k)]
theorem c32 [Strict] {G : World → Prop} (k : Nat) : Con Try.prog G 32 (D32.fnAt E32 k) := Def.con2 mixed (fun k => TypesOK.mk' (TypesOK.dp types [(40, [3])]) _) (fun k => FnsOK.cons (c35 k) (by kernel_rfl) (FnsOK.cons (c40 k) (by kernel_rfl) (FnsOK.nil))) D32 Try.func32 (by kernel_rfl) (fun k => by kernel_rfl) (fx := []) (fun k => rfl) (by kernel_rfl) k
/-- loop.example/g00218/impl.VectorOf -/
noncomputable def D22 : Def := { fn := Try.f22, code := Try.f22.body.getD .skip, ps := [.val (.slice K0)], res := .tup (.pair (.deep 55 K1 [3]) (.val .bool)), pl := [], L := lookL [] }
noncomputable def E22 (k : Nat) : Ctx := mkCx (dpCx base [(40, [3])]) [(30, D30.fnAt E30 k), (32, D32.fnAt E32 k)]
theorem c22 [Strict] {G : World → Prop} (k : Nat) : Con Try.prog G 22 (D22.fnAt E22 k) := Def.con2 mixed (fun k => TypesOK.mk' (TypesOK.dp types [(40, [3])]) _) (fun k => FnsOK.cons (c30 k) (by kernel_rfl) (FnsOK.cons (c32 k) (by kernel_rfl) (FnsOK.nil))) D22 Try.func22 (by kernel_rfl) (fun k => by kernel_rfl) (fx := []) (fun k => rfl) (by kernel_rfl) k
/-- loop.example/g00218/laws.eqIntS -/
noncomputable def D14 : Def := { fn := Try.f14, code := Try.f14.body.getD .skip, ps := [.val (.slice (.int .i64)), .val (.slice (.int .i64))], res := .val .bool, pl := [4], L := lookL [(4, [.val 0 (.slice (.int .i64)), .val 1 (.slice (.int .i64)), .val 5 (.int .i64)])] }
noncomputable def E14 (k : Nat) : Ctx := mkCx base []
theorem c14 [Strict] {G : World → Prop} (k : Nat) : Con Try.prog G 14 (D14.fnAt E14 k) := Def.con2 mixed (fun k => TypesOK.mk' types _) (fun k => FnsOK.nil) D14 Try.func14 (by kernel_rfl) (fun k => by kernel_rfl) (fx := []) (fun k => rfl) (by kernel_rfl) k
/-- loop.example/g00218/laws.eqClock -/
noncomputable def D39 : Def := { fn := Try.f39, code := Try.f39.body.getD .skip, ps := [.val K1, .val K1], res := .val .bool, pl := [], L := lookL [] }
noncomputable def E39 (k : Nat) : Ctx := mkCx base [(14, D14.fnAt E14 k)]
theorem c39 [Strict] {G : World → Prop} (k : Nat) : Con Try.prog G 39 (D39.fnAt E39 k) := Def.con2 mixed (fun k => TypesOK.mk' types _) (fun k => FnsOK.cons (c14 k) (by kernel_rfl) (FnsOK.nil)) D39 Try.func39 (by kernel_rfl) (fun k => by kernel_rfl) (fx := []) (fun k => rfl) (by kernel_rfl) k
/-- loop.example/g00218/laws.eqClockS -/
noncomputable def D23 : Def := { fn := Try.f23, code := Try.f23.body.getD .skip, ps := [.val (.slice K1), .val (.slice K1)], res := .val .bool, pl := [4], L := lookL [(4, [.val 0 (.slice K1), .val 1 (.slice K1), .val 5 (.int .i64)])] }
noncomputable def E23 (k : Nat) : Ctx := mkCx base [(39, D39.fnAt E39 k)]
theorem c23 [Strict] {G : World → Prop} (k : Nat) : Con Try.prog G 23 (D23.fnAt E23 k) := Def.con2 mixed (fun k => TypesOK.mk' types _) (fun k => FnsOK.cons (c39 k) (by kernel_rfl) (FnsOK.nil)) D23 Try.func23 (by kernel_rfl) (fun k => by kernel_rfl) (fx := []) (fun k => rfl) (by kernel_rfl) k
/-- loop.example/g00218/laws.markIntS -/
noncomputable def D16 : Def := { fn := Try.f16, code := Try.f16.body.getD .skip, ps := [.own 3 (.int .i64), .val (.int .i64)], res := .back 0 3 (.int .i64) (.val (.int .i64)), pl := [2], L := lookL [(2, [.own 0 3 (.int .i64), .val 1 (.int .i64), .val 5 (.int .i64)])] }
noncomputable def E16 (k : Nat) : Ctx := mkCx (fxCx base [0]) []
theorem c16 [Strict] {G : World → Prop} (k : Nat) : Con Try.prog G 16 (D16.fnAt E16 k) := Def.con2 mixed (fun k => TypesOK.mk' (types.fx [0]) _) (fun k => FnsOK.nil) D16 Try.func16 (by kernel_rfl) (fun k => by kernel_rfl) (fx := [0]) (fun k => rfl) (by kernel_rfl) k
/-- loop.example/g00218/laws.markClockS -/
noncomputable def D24 : Def := { fn := Try.f24, code := Try.f24.body.getD .skip, ps := [.deep 55 K1 [3], .val (.int .i64)], res := .dback 0 55 K1 [3] (.val (.int .i64)), pl := [2], L := lookL [(2, [.deep 0 55 K1 [3], .val 1 (.int .i64), .val 5 (.int .i64)])] }
noncomputable def E24 (k : Nat) : Ctx := mkCx (dpCx (fxCx base [0]) [(40, [3])]) [(16, D16.fnAt E16 k)]
theorem c24 [Strict] {G : World → Prop} (k : Nat) : Con Try.prog G 24 (D24.fnAt E24 k) := Def.con2 mixed (fun k => TypesOK.mk' (TypesOK.dp (types.fx [0]) [(40, [3])]) _) (fun k => FnsOK.cons (c16 k) (by kernel_rfl) (FnsOK.nil)) D24 Try.func24 (by kernel_rfl) (fun k => by kernel_rfl) (fx := [0]) (fun k => rfl) (by kernel_rfl) k
/-- loop.example/g00218/laws.heldIntS -/
noncomputable def D17 : Def := { fn := Try.f17, code := Try.f17.body.getD .skip, ps := [.val (.slice (.int .i64)), .val (.int .i64)], res := .val (.int .i64), pl := [2], L := lookL [(2, [.val 0 (.slice (.int .i64)), .val 1 (.int .i64), .val 5 (.int .i64)])] }
noncomputable def E17 (k : Nat) : Ctx := mkCx base []
theorem c17 [Strict] {G : World → Prop} (k : Nat) : Con Try.prog G 17 (D17.fnAt E17 k) := Def.con2 mixed (fun k => TypesOK.mk' types _) (fun k => FnsOK.nil) D17 Try.func17 (by kernel_rfl) (fun k => by kernel_rfl) (fx := []) (fun k => rfl) (by kernel_rfl) k
/-- loop.example/g00218/laws.heldClockS -/
noncomputable def D25 : Def := { fn := Try.f25, code := Try.f25.body.getD .skip, ps := [.val (.slice K1), .val (.int .i64)], res := .val (.int .i64), pl := [2], L := lookL [(2, [.val 0 (.slice K1), .val 1 (.int .i64), .val 5 (.int .i64)])] }
noncomputable def E25 (k : Nat) : Ctx := mkCx base [(17, D17.fnAt E17 k)]
theorem c25 [Strict] {G : World → Prop} (k : Nat) : Con Try.prog G 25 (D25.fnAt E25 k) := Def.con2 mixed (fun k => TypesOK.mk' types _) (fun k => FnsOK.cons (c17 k) (by kernel_rfl) (FnsOK.nil)) D25 Try.func25 (by kernel_rfl) (fun k => by kernel_rfl) (fx := []) (fun k => rfl) (by kernel_rfl) k
/-- loop.example/g00218/laws.szEventS -/
noncomputable def D7 : Def := { fn := Try.f7, code := Try.f7.body.getD .skip, ps := [.val (.slice K0), .val (.int .i64)], res := .val (.int .i64), pl := [], L := lookL [] }
noncomputable def E7 (k : Nat) : Ctx := mkCx base []
theorem c7 [Strict] {G : World → Prop} (k : Nat) : Con Try.prog G 7 (D7.fnAt E7 k) := Def.con2 mixed (fun k => TypesOK.mk' types _) (fun k => FnsOK.nil) D7 Try.func7 (by kernel_rfl) (fun k => by kernel_rfl) (fx := []) (fun k => rfl) (by kernel_rfl) k
/-- loop.example/g00218/laws.toEvent -/
noncomputable def D29 : Def := { fn := Try.f29, code := Try.f29.body.getD .skip, ps := [.val K0], res := .val K0, pl := [], L := lookL [] }
noncomputable def E29 (k : Nat) : Ctx := mkCx base []
theorem c29 [Strict] {G : World → Prop} (k : Nat) : Con Try.prog G 29 (D29.fnAt E29 k) := Def.con2 mixed (fun k => TypesOK.mk' types _) (fun k => FnsOK.nil) D29 Try.func29 (by kernel_rfl) (fun k => by kernel_rfl) (fx := []) (fun k => rfl) (by kernel_rfl) k
/-- loop.example/g00218/laws.toEventS -/
noncomputable def D9 : Def := { fn := Try.f9, code := Try.f9.body.getD .skip, ps := [.val (.slice K0)], res := .own 50 K0, pl := [3], L := lookL [(3, [.val 0 (.slice K0), .own 3 50 K0, .val 4 (.int .i64)])] }
noncomputable def E9 (k : Nat) : Ctx := mkCx base [(29, D29.fnAt E29 k)]
theorem c9 [Strict] {G : World → Prop} (k : Nat) : Con Try.prog G 9 (D9.fnAt E9 k) := Def.con2 mixed (fun k => TypesOK.mk' types _) (fun k => FnsOK.cons (c29 k) (by kernel_rfl) (FnsOK.nil)) D9 Try.func9 (by kernel_rfl) (fun k => by kernel_rfl) (fx := []) (fun k => rfl) (by kernel_rfl) k
/-- loop.example/g00218/laws.FnExactVectorOf -/
noncomputable def D6 : Def := { fn := Try.f6, code := Try.f6.body.getD .skip, ps := [.val (.slice K0)], res := .val .bool, pl := [], L := lookL [] }
noncomputable def E6 (k : Nat) : Ctx := mkCx (dpCx base [(40, [3])]) [(11, D11.fnAt E11 k), (15, D15.fnAt E15 k), (21, D21.fnAt E21 k), (22, D22.fnAt E22 k), (23, D23.fnAt E23 k), (24, D24.fnAt E24 k), (25, D25.fnAt E25 k), (7, D7.fnAt E7 k), (9, D9.fnAt E9 k)]
theorem c6 [Strict] {G : World → Prop} (k : Nat) : Con Try.prog G 6 (D6.fnAt E6 k) := Def.con2 mixed (fun k => TypesOK.mk' (TypesOK.dp types [(40, [3])]) _) (fun k => FnsOK.cons (c11 k) (by kernel_rfl) (FnsOK.cons (c15 k) (by kernel_rfl) (FnsOK.cons (c21 k) (by kernel_rfl) (FnsOK.cons (c22 k) (by kernel_rfl) (FnsOK.cons (c23 k) (by kernel_rfl) (FnsOK.cons (c24 k) (by kernel_rfl) (FnsOK.cons (c25 k) (by kernel_rfl) (FnsOK.cons (c7 k) (by kernel_rfl) (FnsOK.cons (c9 k) (by kernel_rfl) (FnsOK.nil)))))))))) D6 Try.func6 (by kernel_rfl) (fun k => by kernel_rfl) (fx := []) (fun k => rfl) (by kernel_rfl) k
end Go.Proofs.Ytmfcblbpicbhoaa.Fms
