/- FnExactOfKey, by the functional machine. -/
import Derived.Test.YtienplkbbahfjaaDoorTrim
import Derived.Test.YtienplkbbahfjaaDoorFmZ
import Derived.Test.YtienplkbbahfjaaDoorFmGv
import Derived.Test.YtienplkbbahfjaaDoorProg
set_option maxRecDepth 100000
set_option linter.unusedVariables false
open Go Go.Fm
namespace Go.Proofs.YtienplkbbahfjaaDoor.Fms
abbrev K0 : Kind := .struct (.pair (.int .i64) (.pair .bool (.pair .str (.pair .str (.pair (.int .i64) (.int .i64))))))
def table : List TRow := [⟨2, (.int .i64), 0, 0, false, none⟩, ⟨3, (.int .i64), 0, 0, false, none⟩, ⟨4, .bool, 0, 0, false, none⟩, ⟨5, (.int .u8), 0, 0, false, none⟩, ⟨9, .str, 0, 0, false, none⟩, ⟨22, (.slice K0), 2199023255552, 45, false, none⟩, ⟨25, (.slice K0), 2199023255552, 46, false, none⟩, ⟨44, K0, 0, 0, true, none⟩, ⟨45, K0, 0, 0, true, none⟩, ⟨46, K0, 0, 0, true, none⟩, ⟨65, .unit, 0, 0, false, some (3, 4)⟩, ⟨72, (.slice (.int .u8)), 140737488355328, 5, false, none⟩]
def base : Ctx := ctxOf table
theorem types : TypesOK Tryd.prog base := typesOK_of (by kernel_rfl)
theorem mixed : Tryd.prog.follows .mixedOrders = true := by kernel_rfl
/-- loop.example/g00218/laws.toCall -/
noncomputable def D35 : Def := { fn := Tryd.f35, code := Tryd.f35.body.getD .skip, ps := [.val K0], res := .val K0, pl := [], L := lookL [] }
noncomputable def E35 (k : Nat) : Ctx := mkCx base []
theorem c35 {G : World → Prop} (k : Nat) : Con Tryd.prog G 35 (D35.fnAt E35 k) := Def.con2 mixed (fun k => TypesOK.mk' types _) (fun k => FnsOK.nil) D35 Tryd.func35 (by kernel_rfl) (fun k => by kernel_rfl) (fx := []) (fun k => rfl) (by kernel_rfl) k
/-- loop.example/g00218/laws.toCallS -/
noncomputable def D11 : Def := { fn := Tryd.f11, code := Tryd.f11.body.getD .skip, ps := [.val (.slice K0)], res := .own 46 K0, pl := [3], L := lookL [(3, [.val 0 (.slice K0), .own 3 46 K0, .val 4 (.int .i64)])] }
noncomputable def E11 (k : Nat) : Ctx := mkCx base [(35, D35.fnAt E35 k)]
theorem c11 {G : World → Prop} (k : Nat) : Con Tryd.prog G 11 (D11.fnAt E11 k) := Def.con2 mixed (fun k => TypesOK.mk' types _) (fun k => FnsOK.cons (c35 k) (by kernel_rfl) (FnsOK.nil)) D11 Tryd.func11 (by kernel_rfl) (fun k => by kernel_rfl) (fx := []) (fun k => rfl) (by kernel_rfl) k
/-- loop.example/g00218/laws.eqCall -/
noncomputable def D37 : Def := { fn := Tryd.f37, code := Tryd.f37.body.getD .skip, ps := [.val K0, .val K0], res := .val .bool, pl := [], L := lookL [] }
noncomputable def E37 (k : Nat) : Ctx := mkCx base []
theorem c37 {G : World → Prop} (k : Nat) : Con Tryd.prog G 37 (D37.fnAt E37 k) := Def.con2 mixed (fun k => TypesOK.mk' types _) (fun k => FnsOK.nil) D37 Tryd.func37 (by kernel_rfl) (fun k => by kernel_rfl) (fx := []) (fun k => rfl) (by kernel_rfl) k
/-- loop.example/g00218/laws.eqCallS -/
noncomputable def D13 : Def := { fn := Tryd.f13, code := Tryd.f13.body.getD .skip, ps := [.val (.slice K0), .val (.slice K0)], res := .val .bool, pl := [4], L := lookL [(4, [.val 0 (.slice K0), .val 1 (.slice K0), .val 5 (.int .i64)])] }
noncomputable def E13 (k : Nat) : Ctx := mkCx base [(37, D37.fnAt E37 k)]
theorem c13 {G : World → Prop} (k : Nat) : Con Tryd.prog G 13 (D13.fnAt E13 k) := Def.con2 mixed (fun k => TypesOK.mk' types _) (fun k => FnsOK.cons (c37 k) (by kernel_rfl) (FnsOK.nil)) D13 Tryd.func13 (by kernel_rfl) (fun k => by kernel_rfl) (fx := []) (fun k => rfl) (by kernel_rfl) k
/-- loop.example/g00218/laws.markText -/
noncomputable def D40 : Def := { fn := Tryd.f40, code := Tryd.f40.body.getD .skip, ps := [.val (.int .i64)], res := .val .str, pl := [4], L := lookL [(4, [.val 0 (.int .i64), .val 3 .str])] }
noncomputable def E40 (k : Nat) : Ctx := mkCx base []
theorem c40 {G : World → Prop} (k : Nat) : Con Tryd.prog G 40 (D40.fnAt E40 k) := Def.con2 mixed (fun k => TypesOK.mk' types _) (fun k => FnsOK.nil) D40 Tryd.func40 (by kernel_rfl) (fun k => by kernel_rfl) (fx := []) (fun k => rfl) (by kernel_rfl) k
/-- loop.example/g00218/laws.markCallS -/
noncomputable def D19 : Def := { fn := Tryd.f19, code := Tryd.f19.body.getD .skip, ps := [.own 46 K0, .val (.int .i64)], res := .back 0 46 K0 (.val (.int .i64)), pl := [2], L := lookL [(2, [.own 0 46 K0, .val 1 (.int .i64), .val 5 (.int .i64)])] }
noncomputable def E19 (k : Nat) : Ctx := mkCx (fxCx base [0]) [(40, D40.fnAt E40 k)]
theorem c19 {G : World → Prop} (k : Nat) : Con Tryd.prog G 19 (D19.fnAt E19 k) := Def.con2 mixed (fun k => TypesOK.mk' (types.fx [0]) _) (fun k => FnsOK.cons (c40 k) (by kernel_rfl) (FnsOK.nil)) D19 Tryd.func19 (by kernel_rfl) (fun k => by kernel_rfl) (fx := [0]) (fun k => rfl) (by kernel_rfl) k
/-- loop.example/g00218/spec.l1In -/
noncomputable def D31 : Def := { fn := Tryd.f31, code := Tryd.f31.body.getD .skip, ps := [.val (.int .i64), .val (.int .i64), .val (.int .i64)], res := .val .bool, pl := [], L := lookL [] }
noncomputable def E31 (k : Nat) : Ctx := mkCx base []
theorem c31 {G : World → Prop} (k : Nat) : Con Tryd.prog G 31 (D31.fnAt E31 k) := Def.con2 mixed (fun k => TypesOK.mk' types _) (fun k => FnsOK.nil) D31 Tryd.func31 (by kernel_rfl) (fun k => by kernel_rfl) (fx := []) (fun k => rfl) (by kernel_rfl) k
/-- loop.example/g00218/spec.l1Key -/
noncomputable def D32 : Def := { fn := Tryd.f32, code := Tryd.f32.body.getD .skip, ps := [.val .str], res := .val .bool, pl := [2], L := lookL [(2, [.val 0 .str, .val 3 (.int .i64)])] }
noncomputable def E32 (k : Nat) : Ctx := mkCx base [(31, D31.fnAt E31 k)]
theorem c32 {G : World → Prop} (k : Nat) : Con Tryd.prog G 32 (D32.fnAt E32 k) := Def.con2 mixed (fun k => TypesOK.mk' types _) (fun k => FnsOK.cons (c31 k) (by kernel_rfl) (FnsOK.nil)) D32 Tryd.func32 (by kernel_rfl) (fun k => by kernel_rfl) (fx := []) (fun k => rfl) (by kernel_rfl) k
/-- loop.example/g00218/spec.l1Value -/
noncomputable def D33 : Def := { fn := Tryd.f33, code := Tryd.f33.body.getD .skip, ps := [.val .str], res := .val .bool, pl := [2], L := lookL [(2, [.val 0 .str, .val 3 (.int .i64)])] }
noncomputable def E33 (k : Nat) : Ctx := mkCx base []
theorem c33 {G : World → Prop} (k : Nat) : Con Tryd.prog G 33 (D33.fnAt E33 k) := Def.con2 mixed (fun k => TypesOK.mk' types _) (fun k => FnsOK.nil) D33 Tryd.func33 (by kernel_rfl) (fun k => by kernel_rfl) (fx := []) (fun k => rfl) (by kernel_rfl) k
/-- loop.example/g00218/spec.l7Overlap -/
noncomputable def D34 : Def := { fn := Tryd.f34, code := Tryd.f34.body.getD .skip, ps := [.val K0, .val K0], res := .val .bool, pl := [], L := lookL [] }
noncomputable def E34 (k : Nat) : Ctx := mkCx base []
theorem c34 {G : World → Prop} (k : Nat) : Con Tryd.prog G 34 (D34.fnAt E34 k) := Def.con2 mixed (fun k => TypesOK.mk' types _) (fun k => FnsOK.nil) D34 Tryd.func34 (by kernel_rfl) (fun k => by kernel_rfl) (fx := []) (fun k => rfl) (by kernel_rfl) k
/-- loop.example/g00218/spec.GoodCalls -/
noncomputable def D10 : Def := { fn := Tryd.f10, code := Tryd.f10.body.getD .skip, ps := [.val (.slice K0)], res := .val .bool, pl := [2, 7], L := lookL [(2, [.val 0 (.slice K0), .val 7 (.slice K0), .val 8 (.int .i64), .val 9 (.int .i64)]), (7, [.val 0 (.slice K0), .var 4 K0, .val 7 (.slice K0), .val 8 (.int .i64), .val 9 (.int .i64), .val 49 (.slice K0), .val 50 (.int .i64), .val 51 (.int .i64)])] }
noncomputable def E10 (k : Nat) : Ctx := mkCx base [(31, D31.fnAt E31 k), (32, D32.fnAt E32 k), (33, D33.fnAt E33 k), (34, D34.fnAt E34 k)]
theorem c10 {G : World → Prop} (k : Nat) : Con Tryd.prog G 10 (D10.fnAt E10 k) := Def.con2 mixed (fun k => TypesOK.mk' types _) (fun k => FnsOK.cons (c31 k) (by kernel_rfl) (FnsOK.cons (c32 k) (by kernel_rfl) (FnsOK.cons (c33 k) (by kernel_rfl) (FnsOK.cons (c34 k) (by kernel_rfl) (FnsOK.nil))))) D10 Tryd.func10 (by kernel_rfl) (fun k => by kernel_rfl) (fx := []) (fun k => rfl) (by kernel_rfl) k
/-- loop.example/g00218/spec.OfKey -/
noncomputable def D24 : Def := { fn := Tryd.f24, code := Tryd.f24.body.getD .skip, ps := [.val (.slice K0), .val .str], res := .tup (.pair (.own 46 K0) (.val .bool)), pl := [5], L := lookL [(5, [.val 1 .str, .own 6 46 K0, .val 12 (.slice K0), .val 13 (.int .i64), .val 14 (.int .i64)])] }
noncomputable def E24 (k : Nat) : Ctx := mkCx base [(10, D10.fnAt E10 k)]
theorem c24 {G : World → Prop} (k : Nat) : Con Tryd.prog G 24 (D24.fnAt E24 k) := Def.con2 mixed (fun k => TypesOK.mk' types _) (fun k => FnsOK.cons (c10 k) (by kernel_rfl) (FnsOK.nil)) D24 Tryd.func24 (by kernel_rfl) (fun k => by kernel_rfl) (fx := []) (fun k => rfl) (by kernel_rfl) k
/-- loop.example/g00218/impl.in -/
noncomputable def D49 : Def := { fn := Tryd.f49, code := Tryd.f49.body.getD .skip, ps := [.val (.int .i64), .val (.int .i64), .val (.int .i64)], res := .val .bool, pl := [], L := lookL [] }
noncomputable def E49 (k : Nat) : Ctx := mkCx base []
theorem c49 {G : World → Prop} (k : Nat) : Con Tryd.prog G 49 (D49.fnAt E49 k) := Def.con2 mixed (fun k => TypesOK.mk' types _) (fun k => FnsOK.nil) D49 Tryd.func49 (by kernel_rfl) (fun k => by kernel_rfl) (fx := []) (fun k => rfl) (by kernel_rfl) k
/-- loop.example/g00218/impl.isKey -/
noncomputable def D52 : Def := { fn := Tryd.f52, code := Tryd.f52.body.getD .skip, ps := [.val .str], res := .val .bool, pl := [], L := lookL [] }
noncomputable def E52 (k : Nat) : Ctx := mkCx base [(62, ⟨[.val .str, .val .str], .val .str, fun v => MapW.strings_Trim.f v.1 v.2.1⟩)]
theorem c52 {G : World → Prop} (k : Nat) : Con Tryd.prog G 52 (D52.fnAt E52 k) := Def.con2 mixed (fun k => TypesOK.mk' types _) (fun k => FnsOK.cons (Con.text2 MapW.strings_Trim.f MapW.strings_Trim.calls) (by kernel_rfl) (FnsOK.nil)) D52 Tryd.func52 (by kernel_rfl) (fun k => by kernel_rfl) (fx := []) (fun k => rfl) (by kernel_rfl) k
/-- loop.example/g00218/impl.isValue -/
noncomputable def D53 : Def := { fn := Tryd.f53, code := Tryd.f53.body.getD .skip, ps := [.val .str], res := .val .bool, pl := [2], L := lookL [(2, [.val 0 .str, .val 5 (.int .i64), .val 6 (.int .i64)])] }
noncomputable def E53 (k : Nat) : Ctx := mkCx base []
theorem c53 {G : World → Prop} (k : Nat) : Con Tryd.prog G 53 (D53.fnAt E53 k) := Def.con2 mixed (fun k => TypesOK.mk' types _) (fun k => FnsOK.nil) D53 Tryd.func53 (by kernel_rfl) (fun k => by kernel_rfl) (fx := []) (fun k => rfl) (by kernel_rfl) k
/-- loop.example/g00218/impl.areCalls -/
noncomputable def D36 : Def := { fn := Tryd.f36, code := Tryd.f36.body.getD .skip, ps := [.val (.slice K0)], res := .val .bool, pl := [3, 10], L := lookL [(3, [.val 0 (.slice K0), .mp 3 (.int .i64) .bool, .val 9 (.slice K0), .val 10 (.int .i64), .val 11 (.int .i64)]), (10, [.val 0 (.slice K0), .mp 3 (.int .i64) .bool, .var 5 K0, .val 9 (.slice K0), .val 10 (.int .i64), .val 11 (.int .i64), .val 69 (.slice K0), .val 70 (.int .i64), .val 71 (.int .i64)])] }
noncomputable def E36 (k : Nat) : Ctx := mkCx base [(49, D49.fnAt E49 k), (52, D52.fnAt E52 k), (53, D53.fnAt E53 k)]
theorem c36 {G : World → Prop} (k : Nat) : Con Tryd.prog G 36 (D36.fnAt E36 k) := Def.con2 mixed (fun k => TypesOK.mk' types _) (fun k => FnsOK.cons (c49 k) (by kernel_rfl) (FnsOK.cons (c52 k) (by kernel_rfl) (FnsOK.cons (c53 k) (by kernel_rfl) (FnsOK.nil)))) D36 Tryd.func36 (by kernel_rfl) (fun k => by kernel_rfl) (fx := []) (fun k => rfl) (by kernel_rfl) k
/-- loop.example/g00218/impl.OfKey$1 -/
noncomputable def D42 : Def := { fn := Tryd.f42, code := Tryd.f42.body.getD .skip, ps := [.val K0, .val (.ref .str)], res := .val .bool, pl := [], L := lookL [] }
noncomputable def E42 (k : Nat) : Ctx := mkCx base []
theorem c42 {G : World → Prop} (k : Nat) : Con Tryd.prog G 42 (D42.fnAt E42 k) := Def.con2 mixed (fun k => TypesOK.mk' types _) (fun k => FnsOK.nil) D42 Tryd.func42 (by kernel_rfl) (fun k => by kernel_rfl) (fx := []) (fun k => rfl) (by kernel_rfl) k
/-- slices.IndexFunc[[]loop.example/g00218/impl.Call,loop.example/g00218/impl.Call] -/
noncomputable def D58 : Def := { fn := Tryd.f58, code := Tryd.f58.body.getD .skip, ps := [.val (.slice K0), .val (.clo 42 (.pair (.ref .str) .unit))], res := .val (.int .i64), pl := [2], L := lookL [(2, [.val 0 (.slice K0), .val 1 (.clo 42 (.pair (.ref .str) .unit)), .val 7 (.int .i64), .val 8 (.int .i64)])] }
noncomputable def E58 (k : Nat) : Ctx := mkCx base [(42, D42.fnAt E42 k)]
theorem c58 {G : World → Prop} (k : Nat) : Con Tryd.prog G 58 (D58.fnAt E58 k) := Def.con2 mixed (fun k => TypesOK.mk' types _) (fun k => FnsOK.cons (c42 k) (by kernel_rfl) (FnsOK.nil)) D58 Tryd.func58 (by kernel_rfl) (fun k => by kernel_rfl) (fx := []) (fun k => rfl) (by kernel_rfl) k
/-- slices.DeleteFunc[[]loop.example/g00218/impl.Call,loop.example/g00218/impl.Call] -/
noncomputable def D41 : Def := { fn := Tryd.f41, code := Tryd.f41.body.getD .skip, ps := [.own 46 K0, .val (.clo 42 (.pair (.ref .str) .unit))], res := .own 46 K0, pl := [5], L := lookL [(5, [.own 0 46 K0, .val 1 (.clo 42 (.pair (.ref .str) .unit)), .val 5 (.int .i64), .val 6 (.int .i64)])] }
noncomputable def E41 (k : Nat) : Ctx := mkCx base [(42, D42.fnAt E42 k), (58, D58.fnAt E58 k)]
theorem c41 {G : World → Prop} (k : Nat) : Con Tryd.prog G 41 (D41.fnAt E41 k) := Def.con2 mixed (fun k => TypesOK.mk' types _) (fun k => FnsOK.cons (c42 k) (by kernel_rfl) (FnsOK.cons (c58 k) (by kernel_rfl) (FnsOK.nil))) D41 Tryd.func41 (by kernel_rfl) (fun k => by kernel_rfl) (fx := []) (fun k => rfl) (by kernel_rfl) k
/-- loop.example/g00218/impl.OfKey -/
noncomputable def D25 : Def := { fn := Tryd.f25, code := Tryd.f25.body.getD .skip, ps := [.val (.slice K0), .val .str], res := .tup (.pair (.own 46 K0) (.val .bool)), pl := [], L := lookL [] }
noncomputable def E25 (k : Nat) : Ctx := mkCx base [(36, D36.fnAt E36 k), (41, D41.fnAt E41 k)]
theorem c25 {G : World → Prop} (k : Nat) : Con Tryd.prog G 25 (D25.fnAt E25 k) := Def.con2 mixed (fun k => TypesOK.mk' types _) (fun k => FnsOK.cons (c36 k) (by kernel_rfl) (FnsOK.cons (c41 k) (by kernel_rfl) (FnsOK.nil))) D25 Tryd.func25 (by kernel_rfl) (fun k => by kernel_rfl) (fx := []) (fun k => rfl) (by kernel_rfl) k
/-- loop.example/g00218/laws.heldCallS -/
noncomputable def D26 : Def := { fn := Tryd.f26, code := Tryd.f26.body.getD .skip, ps := [.val (.slice K0), .val (.int .i64)], res := .val (.int .i64), pl := [2], L := lookL [(2, [.val 0 (.slice K0), .val 1 (.int .i64), .val 5 (.int .i64)])] }
noncomputable def E26 (k : Nat) : Ctx := mkCx base [(40, D40.fnAt E40 k)]
theorem c26 {G : World → Prop} (k : Nat) : Con Tryd.prog G 26 (D26.fnAt E26 k) := Def.con2 mixed (fun k => TypesOK.mk' types _) (fun k => FnsOK.cons (c40 k) (by kernel_rfl) (FnsOK.nil)) D26 Tryd.func26 (by kernel_rfl) (fun k => by kernel_rfl) (fx := []) (fun k => rfl) (by kernel_rfl) k
/-- loop.example/g00218/laws.szCall -/
noncomputable def D30 : Def := { fn := Tryd.f30, code := Tryd.f30.body.getD .skip, ps := [.val K0, .val (.int .i64)], res := .val (.int .i64), pl := [], L := lookL [] }
noncomputable def E30 (k : Nat) : Ctx := mkCx base []
theorem c30 {G : World → Prop} (k : Nat) : Con Tryd.prog G 30 (D30.fnAt E30 k) := Def.con2 mixed (fun k => TypesOK.mk' types _) (fun k => FnsOK.nil) D30 Tryd.func30 (by kernel_rfl) (fun k => by kernel_rfl) (fx := []) (fun k => rfl) (by kernel_rfl) k
/-- loop.example/g00218/laws.szCallS -/
noncomputable def D9 : Def := { fn := Tryd.f9, code := Tryd.f9.body.getD .skip, ps := [.val (.slice K0), .val (.int .i64)], res := .val (.int .i64), pl := [5], L := lookL [(5, [.val 0 (.slice K0), .val 1 (.int .i64), .val 5 (.int .i64)])] }
noncomputable def E9 (k : Nat) : Ctx := mkCx base [(30, D30.fnAt E30 k)]
theorem c9 {G : World → Prop} (k : Nat) : Con Tryd.prog G 9 (D9.fnAt E9 k) := Def.con2 mixed (fun k => TypesOK.mk' types _) (fun k => FnsOK.cons (c30 k) (by kernel_rfl) (FnsOK.nil)) D9 Tryd.func9 (by kernel_rfl) (fun k => by kernel_rfl) (fx := []) (fun k => rfl) (by kernel_rfl) k
/-- loop.example/g00218/laws.FnExactOfKey -/
noncomputable def D7 : Def := { fn := Tryd.f7, code := Tryd.f7.body.getD .skip, ps := [.val (.slice K0), .val .str], res := .val .bool, pl := [], L := lookL [] }
noncomputable def E7 (k : Nat) : Ctx := mkCx base [(11, D11.fnAt E11 k), (13, D13.fnAt E13 k), (19, D19.fnAt E19 k), (24, D24.fnAt E24 k), (25, D25.fnAt E25 k), (26, D26.fnAt E26 k), (9, D9.fnAt E9 k)]
theorem c7 {G : World → Prop} (k : Nat) : Con Tryd.prog G 7 (D7.fnAt E7 k) := Def.con2 mixed (fun k => TypesOK.mk' types _) (fun k => FnsOK.cons (c11 k) (by kernel_rfl) (FnsOK.cons (c13 k) (by kernel_rfl) (FnsOK.cons (c19 k) (by kernel_rfl) (FnsOK.cons (c24 k) (by kernel_rfl) (FnsOK.cons (c25 k) (by kernel_rfl) (FnsOK.cons (c26 k) (by kernel_rfl) (FnsOK.cons (c9 k) (by kernel_rfl) (FnsOK.nil)))))))) D7 Tryd.func7 (by kernel_rfl) (fun k => by kernel_rfl) (fx := []) (fun k => rfl) (by kernel_rfl) k
end Go.Proofs.YtienplkbbahfjaaDoor.Fms
