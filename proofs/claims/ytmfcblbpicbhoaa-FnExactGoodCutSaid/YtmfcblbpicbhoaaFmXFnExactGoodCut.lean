/- FnExactGoodCut, by the functional machine. -/
import Derived.Test.YtmfcblbpicbhoaaFmZ
import Derived.Test.YtmfcblbpicbhoaaFmGv
import Derived.Test.YtmfcblbpicbhoaaProg
set_option maxRecDepth 100000
set_option linter.unusedVariables false
open Go Go.Fm
namespace Go.Proofs.Ytmfcblbpicbhoaa.Fms
abbrev K0 : Kind := .struct (.pair (.int .i64) (.pair (.int .i64) (.int .i64)))
def table : List TRow := [⟨2, (.int .i64), 0, 0, false, none⟩, ⟨3, (.int .i64), 0, 0, false, none⟩, ⟨4, .bool, 0, 0, false, none⟩, ⟨22, (.slice K0), 5864062014805, 52, false, none⟩, ⟨26, (.slice K0), 5864062014805, 50, false, none⟩, ⟨30, (.slice (.int .i64)), 17592186044416, 3, false, none⟩, ⟨47, (.slice .bool), 140737488355328, 4, false, none⟩, ⟨49, K0, 0, 0, true, none⟩, ⟨50, K0, 0, 0, true, none⟩, ⟨52, K0, 0, 0, true, none⟩, ⟨61, (.arr 6 (.int .i64)), 0, 0, true, none⟩, ⟨64, .unit, 0, 0, false, some (3, 4)⟩]
def base : Ctx := ctxOf table
theorem types : TypesOK Try.prog base := typesOK_of (by kernel_rfl)
theorem mixed : Try.prog.follows .mixedOrders = true := by kernel_rfl
/-- loop.example/g00218/laws.eqEvent -/
noncomputable def D33 : Def := { fn := Try.f33, code := Try.f33.body.getD .skip, ps := [.val K0, .val K0], res := .val .bool, pl := [], L := lookL [] }
noncomputable def E33 (k : Nat) : Ctx := mkCx base []
theorem c33 {G : World → Prop} (k : Nat) : Con Try.prog G 33 (D33.fnAt E33 k) := Def.con2 mixed (fun k => TypesOK.mk' types _) (fun k => FnsOK.nil) D33 Try.func33 (by kernel_rfl) (fun k => by kernel_rfl) (fx := []) (fun k => rfl) (by kernel_rfl) k
/-- loop.example/g00218/laws.eqEventS -/
noncomputable def D11 : Def := { fn := Try.f11, code := Try.f11.body.getD .skip, ps := [.val (.slice K0), .val (.slice K0)], res := .val .bool, pl := [4], L := lookL [(4, [.val 0 (.slice K0), .val 1 (.slice K0), .val 5 (.int .i64)])] }
noncomputable def E11 (k : Nat) : Ctx := mkCx base [(33, D33.fnAt E33 k)]
theorem c11 {G : World → Prop} (k : Nat) : Con Try.prog G 11 (D11.fnAt E11 k) := Def.con2 mixed (fun k => TypesOK.mk' types _) (fun k => FnsOK.cons (c33 k) (by kernel_rfl) (FnsOK.nil)) D11 Try.func11 (by kernel_rfl) (fun k => by kernel_rfl) (fx := []) (fun k => rfl) (by kernel_rfl) k
/-- loop.example/g00218/laws.eqIntS -/
noncomputable def D14 : Def := { fn := Try.f14, code := Try.f14.body.getD .skip, ps := [.val (.slice (.int .i64)), .val (.slice (.int .i64))], res := .val .bool, pl := [4], L := lookL [(4, [.val 0 (.slice (.int .i64)), .val 1 (.slice (.int .i64)), .val 5 (.int .i64)])] }
noncomputable def E14 (k : Nat) : Ctx := mkCx base []
theorem c14 {G : World → Prop} (k : Nat) : Con Try.prog G 14 (D14.fnAt E14 k) := Def.con2 mixed (fun k => TypesOK.mk' types _) (fun k => FnsOK.nil) D14 Try.func14 (by kernel_rfl) (fun k => by kernel_rfl) (fx := []) (fun k => rfl) (by kernel_rfl) k
/-- loop.example/g00218/spec.l1In -/
noncomputable def D27 : Def := { fn := Try.f27, code := Try.f27.body.getD .skip, ps := [.val (.int .i64), .val (.int .i64), .val (.int .i64)], res := .val .bool, pl := [], L := lookL [] }
noncomputable def E27 (k : Nat) : Ctx := mkCx base []
theorem c27 {G : World → Prop} (k : Nat) : Con Try.prog G 27 (D27.fnAt E27 k) := Def.con2 mixed (fun k => TypesOK.mk' types _) (fun k => FnsOK.nil) D27 Try.func27 (by kernel_rfl) (fun k => by kernel_rfl) (fx := []) (fun k => rfl) (by kernel_rfl) k
/-- loop.example/g00218/spec.GoodEvents -/
noncomputable def D26 : Def := { fn := Try.f26, code := Try.f26.body.getD .skip, ps := [.val (.slice K0)], res := .val .bool, pl := [2, 11], L := lookL [(2, [.val 0 (.slice K0), .val 8 (.slice K0), .val 9 (.int .i64), .val 10 (.int .i64)]), (11, [.val 0 (.slice K0), .var 4 K0, .val 5 .bool, .val 8 (.slice K0), .val 9 (.int .i64), .val 10 (.int .i64), .val 33 (.slice K0), .val 34 (.int .i64), .val 35 (.int .i64)])] }
noncomputable def E26 (k : Nat) : Ctx := mkCx base [(27, D27.fnAt E27 k)]
theorem c26 {G : World → Prop} (k : Nat) : Con Try.prog G 26 (D26.fnAt E26 k) := Def.con2 mixed (fun k => TypesOK.mk' types _) (fun k => FnsOK.cons (c27 k) (by kernel_rfl) (FnsOK.nil)) D26 Try.func26 (by kernel_rfl) (fun k => by kernel_rfl) (fx := []) (fun k => rfl) (by kernel_rfl) k
/-- loop.example/g00218/spec.l2Causes -/
noncomputable def D34 : Def := { fn := Try.f34, code := Try.f34.body.getD .skip, ps := [.val (.slice K0), .val (.int .i64)], res := .tup (.pair (.val (.int .i64)) (.val (.int .i64))), pl := [4, 8], L := lookL [(4, [.val 0 (.slice K0), .val 1 (.int .i64), .val 6 (.int .i64), .val 7 (.int .i64), .val 12 (.slice K0), .val 13 (.int .i64), .val 14 (.int .i64)]), (8, [.val 0 (.slice K0), .val 1 (.int .i64), .val 6 (.int .i64), .val 7 (.int .i64), .val 8 (.int .i64), .var 9 K0, .val 12 (.slice K0), .val 13 (.int .i64), .val 14 (.int .i64)])] }
noncomputable def E34 (k : Nat) : Ctx := mkCx base []
theorem c34 {G : World → Prop} (k : Nat) : Con Try.prog G 34 (D34.fnAt E34 k) := Def.con2 mixed (fun k => TypesOK.mk' types _) (fun k => FnsOK.nil) D34 Try.func34 (by kernel_rfl) (fun k => by kernel_rfl) (fx := []) (fun k => rfl) (by kernel_rfl) k
/-- loop.example/g00218/spec.l2Cut -/
noncomputable def D36 : Def := { fn := Try.f36, code := Try.f36.body.getD .skip, ps := [.val (.slice K0), .val (.slice (.int .i64))], res := .val .bool, pl := [4, 8], L := lookL [(4, [.val 0 (.slice K0), .val 13 (.slice (.int .i64)), .val 14 (.int .i64), .val 15 (.int .i64)]), (8, [.val 0 (.slice K0), .val 5 (.int .i64), .val 6 (.int .i64), .val 7 (.int .i64), .val 13 (.slice (.int .i64)), .val 14 (.int .i64), .val 15 (.int .i64), .val 20 (.slice K0), .val 21 (.int .i64), .val 22 (.int .i64)])] }
noncomputable def E36 (k : Nat) : Ctx := mkCx base [(27, D27.fnAt E27 k)]
theorem c36 {G : World → Prop} (k : Nat) : Con Try.prog G 36 (D36.fnAt E36 k) := Def.con2 mixed (fun k => TypesOK.mk' types _) (fun k => FnsOK.cons (c27 k) (by kernel_rfl) (FnsOK.nil)) D36 Try.func36 (by kernel_rfl) (fun k => by kernel_rfl) (fx := []) (fun k => rfl) (by kernel_rfl) k
/-- loop.example/g00218/spec.l2Place -/
noncomputable def D37 : Def := { fn := Try.f37, code := Try.f37.body.getD .skip, ps := [.val (.slice K0), .val (.int .i64)], res := .val (.int .i64), pl := [3], L := lookL [(3, [.val 0 (.slice K0), .val 1 (.int .i64), .val 5 (.int .i64), .val 11 (.slice K0), .val 12 (.int .i64), .val 13 (.int .i64)])] }
noncomputable def E37 (k : Nat) : Ctx := mkCx base []
theorem c37 {G : World → Prop} (k : Nat) : Con Try.prog G 37 (D37.fnAt E37 k) := Def.con2 mixed (fun k => TypesOK.mk' types _) (fun k => FnsOK.nil) D37 Try.func37 (by kernel_rfl) (fun k => by kernel_rfl) (fx := []) (fun k => rfl) (by kernel_rfl) k
/-- loop.example/g00218/spec.GoodCut -/
noncomputable def D18 : Def := { fn := Try.f18, code := Try.f18.body.getD .skip, ps := [.val (.slice K0), .val (.slice (.int .i64))], res := .tup (.pair (.val .bool) (.val .bool)), pl := [4], L := lookL [(4, [.val 0 (.slice K0), .val 1 (.slice (.int .i64)), .val 19 (.slice K0), .val 20 (.int .i64), .val 21 (.int .i64)])] }
noncomputable def E18 (k : Nat) : Ctx := mkCx base [(26, D26.fnAt E26 k), (34, D34.fnAt E34 k), (36, D36.fnAt E36 k), (37, D37.fnAt E37 k)]
theorem c18 {G : World → Prop} (k : Nat) : Con Try.prog G 18 (D18.fnAt E18 k) := Def.con2 mixed (fun k => TypesOK.mk' types _) (fun k => FnsOK.cons (c26 k) (by kernel_rfl) (FnsOK.cons (c34 k) (by kernel_rfl) (FnsOK.cons (c36 k) (by kernel_rfl) (FnsOK.cons (c37 k) (by kernel_rfl) (FnsOK.nil))))) D18 Try.func18 (by kernel_rfl) (fun k => by kernel_rfl) (fx := []) (fun k => rfl) (by kernel_rfl) k
/-- loop.example/g00218/laws.toIntS -/
noncomputable def D19 : Def := { fn := Try.f19, code := Try.f19.body.getD .skip, ps := [.val (.slice (.int .i64))], res := .own 3 (.int .i64), pl := [3], L := lookL [(3, [.val 0 (.slice (.int .i64)), .own 3 3 (.int .i64), .val 4 (.int .i64)])] }
noncomputable def E19 (k : Nat) : Ctx := mkCx base []
theorem c19 {G : World → Prop} (k : Nat) : Con Try.prog G 19 (D19.fnAt E19 k) := Def.con2 mixed (fun k => TypesOK.mk' types _) (fun k => FnsOK.nil) D19 Try.func19 (by kernel_rfl) (fun k => by kernel_rfl) (fx := []) (fun k => rfl) (by kernel_rfl) k
/-- loop.example/g00218/impl.in -/
noncomputable def D31 : Def := { fn := Try.f31, code := Try.f31.body.getD .skip, ps := [.val (.int .i64), .val (.int .i64), .val (.int .i64)], res := .val .bool, pl := [], L := lookL [] }
noncomputable def E31 (k : Nat) : Ctx := mkCx base []
theorem c31 {G : World → Prop} (k : Nat) : Con Try.prog G 31 (D31.fnAt E31 k) := Def.con2 mixed (fun k => TypesOK.mk' types _) (fun k => FnsOK.nil) D31 Try.func31 (by kernel_rfl) (fun k => by kernel_rfl) (fx := []) (fun k => rfl) (by kernel_rfl) k
/-- loop.example/g00218/impl.areEvents -/
noncomputable def D30 : Def := { fn := Try.f30, code := Try.f30.body.getD .skip, ps := [.val (.slice K0)], res := .val .bool, pl := [3], L := lookL [(3, [.val 0 (.slice K0), .mp 3 (.int .i64) .bool, .mp 4 (.int .i64) .bool, .val 10 (.slice K0), .val 11 (.int .i64), .val 12 (.int .i64)])] }
noncomputable def E30 (k : Nat) : Ctx := mkCx base [(31, D31.fnAt E31 k)]
theorem c30 {G : World → Prop} (k : Nat) : Con Try.prog G 30 (D30.fnAt E30 k) := Def.con2 mixed (fun k => TypesOK.mk' types _) (fun k => FnsOK.cons (c31 k) (by kernel_rfl) (FnsOK.nil)) D30 Try.func30 (by kernel_rfl) (fun k => by kernel_rfl) (fx := []) (fun k => rfl) (by kernel_rfl) k
/-- loop.example/g00218/impl.causes -/
noncomputable def D35 : Def := { fn := Try.f35, code := Try.f35.body.getD .skip, ps := [.val (.slice K0), .val (.int .i64)], res := .own 3 (.int .i64), pl := [3, 7, 8], L := lookL [(3, [.val 0 (.slice K0), .val 1 (.int .i64), .own 5 3 (.int .i64), .val 6 (.int .i64)]), (7, [.val 0 (.slice K0), .val 1 (.int .i64), .own 5 3 (.int .i64)]), (8, [.val 0 (.slice K0), .val 1 (.int .i64), .own 5 3 (.int .i64), .val 30 (.int .i64), .val 31 (.int .i64)])] }
noncomputable def E35 (k : Nat) : Ctx := mkCx base []
theorem c35 {G : World → Prop} (k : Nat) : Con Try.prog G 35 (D35.fnAt E35 k) := Def.con2 mixed (fun k => TypesOK.mk' types _) (fun k => FnsOK.nil) D35 Try.func35 (by kernel_rfl) (fun k => by kernel_rfl) (fx := []) (fun k => rfl) (by kernel_rfl) k
/-- loop.example/g00218/impl.GoodCut -/
noncomputable def D20 : Def := { fn := Try.f20, code := Try.f20.body.getD .skip, ps := [.val (.slice K0), .val (.slice (.int .i64))], res := .tup (.pair (.val .bool) (.val .bool)), pl := [6, 12, 18, 21], L := lookL [(6, [.val 0 (.slice K0), .val 1 (.slice (.int .i64)), .var 6 (.arr 6 (.int .i64)), .own 7 4 .bool, .val 25 (.slice K0), .val 26 (.int .i64), .val 27 (.int .i64)]), (12, [.val 0 (.slice K0), .var 6 (.arr 6 (.int .i64)), .val 7 (.slice .bool), .val 51 (.slice (.int .i64)), .val 52 (.int .i64), .val 53 (.int .i64)]), (18, [.val 0 (.slice K0), .val 7 (.slice .bool), .val 66 (.int .i64), .val 67 (.int .i64)]), (21, [.val 0 (.slice K0), .val 7 (.slice .bool), .val 12 (.int .i64), .val 66 (.int .i64), .val 67 (.int .i64), .val 72 (.slice (.int .i64)), .val 73 (.int .i64), .val 74 (.int .i64)])] }
noncomputable def E20 (k : Nat) : Ctx := mkCx base [(30, D30.fnAt E30 k), (31, D31.fnAt E31 k), (35, D35.fnAt E35 k)]
theorem c20 {G : World → Prop} (k : Nat) : Con Try.prog G 20 (D20.fnAt E20 k) := Def.con2 mixed (fun k => TypesOK.mk' types _) (fun k => FnsOK.cons (c30 k) (by kernel_rfl) (FnsOK.cons (c31 k) (by kernel_rfl) (FnsOK.cons (c35 k) (by kernel_rfl) (FnsOK.nil)))) D20 Try.func20 (by kernel_rfl) (fun k => by kernel_rfl) (fx := []) (fun k => rfl) (by kernel_rfl) k
/-- loop.example/g00218/laws.szEventS -/
noncomputable def D7 : Def := { fn := Try.f7, code := Try.f7.body.getD .skip, ps := [.val (.slice K0), .val (.int .i64)], res := .val (.int .i64), pl := [], L := lookL [] }
noncomputable def E7 (k : Nat) : Ctx := mkCx base []
theorem c7 {G : World → Prop} (k : Nat) : Con Try.prog G 7 (D7.fnAt E7 k) := Def.con2 mixed (fun k => TypesOK.mk' types _) (fun k => FnsOK.nil) D7 Try.func7 (by kernel_rfl) (fun k => by kernel_rfl) (fx := []) (fun k => rfl) (by kernel_rfl) k
/-- loop.example/g00218/laws.toEvent -/
noncomputable def D29 : Def := { fn := Try.f29, code := Try.f29.body.getD .skip, ps := [.val K0], res := .val K0, pl := [], L := lookL [] }
noncomputable def E29 (k : Nat) : Ctx := mkCx base []
theorem c29 {G : World → Prop} (k : Nat) : Con Try.prog G 29 (D29.fnAt E29 k) := Def.con2 mixed (fun k => TypesOK.mk' types _) (fun k => FnsOK.nil) D29 Try.func29 (by kernel_rfl) (fun k => by kernel_rfl) (fx := []) (fun k => rfl) (by kernel_rfl) k
/-- loop.example/g00218/laws.toEventS -/
noncomputable def D9 : Def := { fn := Try.f9, code := Try.f9.body.getD .skip, ps := [.val (.slice K0)], res := .own 50 K0, pl := [3], L := lookL [(3, [.val 0 (.slice K0), .own 3 50 K0, .val 4 (.int .i64)])] }
noncomputable def E9 (k : Nat) : Ctx := mkCx base [(29, D29.fnAt E29 k)]
theorem c9 {G : World → Prop} (k : Nat) : Con Try.prog G 9 (D9.fnAt E9 k) := Def.con2 mixed (fun k => TypesOK.mk' types _) (fun k => FnsOK.cons (c29 k) (by kernel_rfl) (FnsOK.nil)) D9 Try.func9 (by kernel_rfl) (fun k => by kernel_rfl) (fx := []) (fun k => rfl) (by kernel_rfl) k
/-- loop.example/g00218/laws.FnExactGoodCut -/
noncomputable def D5 : Def := { fn := Try.f5, code := Try.f5.body.getD .skip, ps := [.val (.slice K0), .val (.slice (.int .i64))], res := .val .bool, pl := [], L := lookL [] }
noncomputable def E5 (k : Nat) : Ctx := mkCx base [(11, D11.fnAt E11 k), (14, D14.fnAt E14 k), (18, D18.fnAt E18 k), (19, D19.fnAt E19 k), (20, D20.fnAt E20 k), (7, D7.fnAt E7 k), (9, D9.fnAt E9 k)]
theorem c5 {G : World → Prop} (k : Nat) : Con Try.prog G 5 (D5.fnAt E5 k) := Def.con2 mixed (fun k => TypesOK.mk' types _) (fun k => FnsOK.cons (c11 k) (by kernel_rfl) (FnsOK.cons (c14 k) (by kernel_rfl) (FnsOK.cons (c18 k) (by kernel_rfl) (FnsOK.cons (c19 k) (by kernel_rfl) (FnsOK.cons (c20 k) (by kernel_rfl) (FnsOK.cons (c7 k) (by kernel_rfl) (FnsOK.cons (c9 k) (by kernel_rfl) (FnsOK.nil)))))))) D5 Try.func5 (by kernel_rfl) (fun k => by kernel_rfl) (fx := []) (fun k => rfl) (by kernel_rfl) k
end Go.Proofs.Ytmfcblbpicbhoaa.Fms
