/- FnExactAdvanceEpoch, by the functional machine. -/
import Derived.Test.YtolcbchdijdolaaDoorTrim
import Derived.Test.YtolcbchdijdolaaDoorFmZ
import Derived.Test.YtolcbchdijdolaaDoorFmGv
import Derived.Test.YtolcbchdijdolaaDoorFmXFnExactAdvanceEpochLays
import Derived.Test.YtolcbchdijdolaaDoorProg
set_option maxRecDepth 100000
set_option linter.unusedVariables false
open Go Go.Fm
namespace Go.Proofs.YtolcbchdijdolaaDoor.Fms
abbrev K2 : Kind := .struct (.pair .str .str)
abbrev K0 : Kind := .struct (.pair (.int .i64) (.pair (.int .i64) .bool))
abbrev K3 : Kind := .struct (.pair .str (.pair .str K0))
abbrev K1 : Kind := .struct (.pair .str (.pair .str (.pair K0 (.int .i64))))
abbrev K4 : Kind := .struct (.pair (.int .i64) (.pair (.int .i64) (.pair (.slice K3) (.pair (.slice K2) K0))))
abbrev K5 : Kind := .struct (.pair (.int .i64) (.pair (.slice K1) (.pair (.slice K4) (.slice (.int .i64)))))
def table : List TRow := [⟨2, (.int .i64), 0, 0, false, none⟩, ⟨3, (.int .i64), 0, 0, false, none⟩, ⟨4, .bool, 0, 0, false, none⟩, ⟨5, (.int .u8), 0, 0, false, none⟩, ⟨9, .str, 0, 0, false, none⟩, ⟨22, (.slice K1), 2199023255552, 84, false, none⟩, ⟨23, (.slice K4), 1599289640401, 89, false, none⟩, ⟨24, (.slice (.int .i64)), 17592186044416, 3, false, none⟩, ⟨25, K5, 0, 0, false, none⟩, ⟨26, K5, 0, 0, false, none⟩, ⟨29, (.slice K1), 2199023255552, 39, false, none⟩, ⟨30, (.slice K4), 1599289640401, 61, false, none⟩, ⟨31, K5, 0, 0, false, none⟩, ⟨32, K5, 0, 0, false, none⟩, ⟨36, K0, 0, 0, true, none⟩, ⟨37, K0, 0, 0, true, none⟩, ⟨38, K1, 0, 0, true, none⟩, ⟨39, K1, 0, 0, true, none⟩, ⟨44, (.slice K2), 4398046511104, 75, false, none⟩, ⟨59, (.slice K3), 2513169434916, 91, false, none⟩, ⟨60, K4, 0, 0, false, none⟩, ⟨61, K4, 0, 0, false, none⟩, ⟨74, K2, 0, 0, true, none⟩, ⟨75, K2, 0, 0, true, none⟩, ⟨82, K0, 0, 0, true, none⟩, ⟨83, K1, 0, 0, true, none⟩, ⟨84, K1, 0, 0, true, none⟩, ⟨86, (.slice K3), 2513169434916, 118, false, none⟩, ⟨87, (.slice K2), 4398046511104, 120, false, none⟩, ⟨88, K4, 0, 0, false, none⟩, ⟨89, K4, 0, 0, false, none⟩, ⟨90, K3, 0, 0, true, none⟩, ⟨91, K3, 0, 0, true, none⟩, ⟨94, .unit, 0, 0, false, some (3, 4)⟩, ⟨98, (.ref K5), 0, 0, false, none⟩, ⟨103, (.slice (.int .u8)), 140737488355328, 5, false, none⟩, ⟨110, (.ref K4), 0, 0, false, none⟩, ⟨113, .unit, 0, 0, false, some (9, 4)⟩, ⟨115, (.int .u64), 0, 0, false, none⟩, ⟨117, K3, 0, 0, true, none⟩, ⟨118, K3, 0, 0, true, none⟩, ⟨120, K2, 0, 0, true, none⟩]
def base : Ctx := ctxOf table
theorem types : TypesOK Tryd.prog base := typesOK_of (by kernel_rfl)
theorem mixed : Tryd.prog.follows .mixedOrders = true := by kernel_rfl
/-- loop.example/g00218/laws.eqTid -/
noncomputable def D44 : Def := { fn := Tryd.f44, code := Tryd.f44.body.getD .skip, ps := [.val K0, .val K0], res := .val .bool, pl := [], L := lookL [] }
noncomputable def E44 (k : Nat) : Ctx := mkCx base []
theorem c44 [Strict] {G : World → Prop} (k : Nat) : Con Tryd.prog G 44 (D44.fnAt E44 k) := Def.con2 mixed (fun k => TypesOK.mk' types _) (fun k => FnsOK.nil) D44 Tryd.func44 (by kernel_rfl) (fun k => by kernel_rfl) (fx := []) (fun k => rfl) (by kernel_rfl) k
/-- loop.example/g00218/laws.eqRecord -/
noncomputable def D14 : Def := { fn := Tryd.f14, code := Tryd.f14.body.getD .skip, ps := [.val K1, .val K1], res := .val .bool, pl := [], L := lookL [] }
noncomputable def E14 (k : Nat) : Ctx := mkCx base [(44, D44.fnAt E44 k)]
theorem c14 [Strict] {G : World → Prop} (k : Nat) : Con Tryd.prog G 14 (D14.fnAt E14 k) := Def.con2 mixed (fun k => TypesOK.mk' types _) (fun k => FnsOK.cons (c44 k) (by kernel_rfl) (FnsOK.nil)) D14 Tryd.func14 (by kernel_rfl) (fun k => by kernel_rfl) (fx := []) (fun k => rfl) (by kernel_rfl) k
/-- loop.example/g00218/laws.eqRecordS -/
noncomputable def D39 : Def := { fn := Tryd.f39, code := Tryd.f39.body.getD .skip, ps := [.val (.slice K1), .val (.slice K1)], res := .val .bool, pl := [4], L := lookL [(4, [.val 0 (.slice K1), .val 1 (.slice K1), .val 5 (.int .i64)])] }
noncomputable def E39 (k : Nat) : Ctx := mkCx base [(14, D14.fnAt E14 k)]
theorem c39 [Strict] {G : World → Prop} (k : Nat) : Con Tryd.prog G 39 (D39.fnAt E39 k) := Def.con2 mixed (fun k => TypesOK.mk' types _) (fun k => FnsOK.cons (c14 k) (by kernel_rfl) (FnsOK.nil)) D39 Tryd.func39 (by kernel_rfl) (fun k => by kernel_rfl) (fx := []) (fun k => rfl) (by kernel_rfl) k
/-- loop.example/g00218/laws.eqCell -/
noncomputable def D46 : Def := { fn := Tryd.f46, code := Tryd.f46.body.getD .skip, ps := [.val K2, .val K2], res := .val .bool, pl := [], L := lookL [] }
noncomputable def E46 (k : Nat) : Ctx := mkCx base []
theorem c46 [Strict] {G : World → Prop} (k : Nat) : Con Tryd.prog G 46 (D46.fnAt E46 k) := Def.con2 mixed (fun k => TypesOK.mk' types _) (fun k => FnsOK.nil) D46 Tryd.func46 (by kernel_rfl) (fun k => by kernel_rfl) (fx := []) (fun k => rfl) (by kernel_rfl) k
/-- loop.example/g00218/laws.eqCellS -/
noncomputable def D17 : Def := { fn := Tryd.f17, code := Tryd.f17.body.getD .skip, ps := [.val (.slice K2), .val (.slice K2)], res := .val .bool, pl := [4], L := lookL [(4, [.val 0 (.slice K2), .val 1 (.slice K2), .val 5 (.int .i64)])] }
noncomputable def E17 (k : Nat) : Ctx := mkCx base [(46, D46.fnAt E46 k)]
theorem c17 [Strict] {G : World → Prop} (k : Nat) : Con Tryd.prog G 17 (D17.fnAt E17 k) := Def.con2 mixed (fun k => TypesOK.mk' types _) (fun k => FnsOK.cons (c46 k) (by kernel_rfl) (FnsOK.nil)) D17 Tryd.func17 (by kernel_rfl) (fun k => by kernel_rfl) (fx := []) (fun k => rfl) (by kernel_rfl) k
/-- loop.example/g00218/laws.eqLook -/
noncomputable def D94 : Def := { fn := Tryd.f94, code := Tryd.f94.body.getD .skip, ps := [.val K3, .val K3], res := .val .bool, pl := [], L := lookL [] }
noncomputable def E94 (k : Nat) : Ctx := mkCx base [(44, D44.fnAt E44 k)]
theorem c94 [Strict] {G : World → Prop} (k : Nat) : Con Tryd.prog G 94 (D94.fnAt E94 k) := Def.con2 mixed (fun k => TypesOK.mk' types _) (fun k => FnsOK.cons (c44 k) (by kernel_rfl) (FnsOK.nil)) D94 Tryd.func94 (by kernel_rfl) (fun k => by kernel_rfl) (fx := []) (fun k => rfl) (by kernel_rfl) k
/-- loop.example/g00218/laws.eqLookS -/
noncomputable def D81 : Def := { fn := Tryd.f81, code := Tryd.f81.body.getD .skip, ps := [.val (.slice K3), .val (.slice K3)], res := .val .bool, pl := [4], L := lookL [(4, [.val 0 (.slice K3), .val 1 (.slice K3), .val 5 (.int .i64)])] }
noncomputable def E81 (k : Nat) : Ctx := mkCx base [(94, D94.fnAt E94 k)]
theorem c81 [Strict] {G : World → Prop} (k : Nat) : Con Tryd.prog G 81 (D81.fnAt E81 k) := Def.con2 mixed (fun k => TypesOK.mk' types _) (fun k => FnsOK.cons (c94 k) (by kernel_rfl) (FnsOK.nil)) D81 Tryd.func81 (by kernel_rfl) (fun k => by kernel_rfl) (fx := []) (fun k => rfl) (by kernel_rfl) k
/-- loop.example/g00218/laws.eqRunning -/
noncomputable def D67 : Def := { fn := Tryd.f67, code := Tryd.f67.body.getD .skip, ps := [.val K4, .val K4], res := .val .bool, pl := [], L := lookL [] }
noncomputable def E67 (k : Nat) : Ctx := mkCx base [(17, D17.fnAt E17 k), (44, D44.fnAt E44 k), (81, D81.fnAt E81 k)]
theorem c67 [Strict] {G : World → Prop} (k : Nat) : Con Tryd.prog G 67 (D67.fnAt E67 k) := Def.con2 mixed (fun k => TypesOK.mk' types _) (fun k => FnsOK.cons (c17 k) (by kernel_rfl) (FnsOK.cons (c44 k) (by kernel_rfl) (FnsOK.cons (c81 k) (by kernel_rfl) (FnsOK.nil)))) D67 Tryd.func67 (by kernel_rfl) (fun k => by kernel_rfl) (fx := []) (fun k => rfl) (by kernel_rfl) k
/-- loop.example/g00218/laws.eqRunningS -/
noncomputable def D40 : Def := { fn := Tryd.f40, code := Tryd.f40.body.getD .skip, ps := [.val (.slice K4), .val (.slice K4)], res := .val .bool, pl := [4], L := lookL [(4, [.val 0 (.slice K4), .val 1 (.slice K4), .val 5 (.int .i64)])] }
noncomputable def E40 (k : Nat) : Ctx := mkCx base [(67, D67.fnAt E67 k)]
theorem c40 [Strict] {G : World → Prop} (k : Nat) : Con Tryd.prog G 40 (D40.fnAt E40 k) := Def.con2 mixed (fun k => TypesOK.mk' types _) (fun k => FnsOK.cons (c67 k) (by kernel_rfl) (FnsOK.nil)) D40 Tryd.func40 (by kernel_rfl) (fun k => by kernel_rfl) (fx := []) (fun k => rfl) (by kernel_rfl) k
/-- loop.example/g00218/laws.eqIntS -/
noncomputable def D41 : Def := { fn := Tryd.f41, code := Tryd.f41.body.getD .skip, ps := [.val (.slice (.int .i64)), .val (.slice (.int .i64))], res := .val .bool, pl := [4], L := lookL [(4, [.val 0 (.slice (.int .i64)), .val 1 (.slice (.int .i64)), .val 5 (.int .i64)])] }
noncomputable def E41 (k : Nat) : Ctx := mkCx base []
theorem c41 [Strict] {G : World → Prop} (k : Nat) : Con Tryd.prog G 41 (D41.fnAt E41 k) := Def.con2 mixed (fun k => TypesOK.mk' types _) (fun k => FnsOK.nil) D41 Tryd.func41 (by kernel_rfl) (fun k => by kernel_rfl) (fx := []) (fun k => rfl) (by kernel_rfl) k
/-- loop.example/g00218/laws.eqStore -/
noncomputable def D11 : Def := { fn := Tryd.f11, code := Tryd.f11.body.getD .skip, ps := [.val K5, .val K5], res := .val .bool, pl := [], L := lookL [] }
noncomputable def E11 (k : Nat) : Ctx := mkCx base [(39, D39.fnAt E39 k), (40, D40.fnAt E40 k), (41, D41.fnAt E41 k)]
theorem c11 [Strict] {G : World → Prop} (k : Nat) : Con Tryd.prog G 11 (D11.fnAt E11 k) := Def.con2 mixed (fun k => TypesOK.mk' types _) (fun k => FnsOK.cons (c39 k) (by kernel_rfl) (FnsOK.cons (c40 k) (by kernel_rfl) (FnsOK.cons (c41 k) (by kernel_rfl) (FnsOK.nil)))) D11 Tryd.func11 (by kernel_rfl) (fun k => by kernel_rfl) (fx := []) (fun k => rfl) (by kernel_rfl) k
/-- loop.example/g00218/laws.markText -/
noncomputable def D50 : Def := { fn := Tryd.f50, code := Tryd.f50.body.getD .skip, ps := [.val (.int .i64)], res := .val .str, pl := [4], L := lookL [(4, [.val 0 (.int .i64), .val 3 .str])] }
noncomputable def E50 (k : Nat) : Ctx := mkCx base []
theorem c50 [Strict] {G : World → Prop} (k : Nat) : Con Tryd.prog G 50 (D50.fnAt E50 k) := Def.con2 mixed (fun k => TypesOK.mk' types _) (fun k => FnsOK.nil) D50 Tryd.func50 (by kernel_rfl) (fun k => by kernel_rfl) (fx := []) (fun k => rfl) (by kernel_rfl) k
/-- loop.example/g00218/laws.markRecordS -/
noncomputable def D47 : Def := { fn := Tryd.f47, code := Tryd.f47.body.getD .skip, ps := [.own 39 K1, .val (.int .i64)], res := .back 0 39 K1 (.val (.int .i64)), pl := [2], L := lookL [(2, [.own 0 39 K1, .val 1 (.int .i64), .val 5 (.int .i64)])] }
noncomputable def E47 (k : Nat) : Ctx := mkCx (fxCx base [0]) [(50, D50.fnAt E50 k)]
theorem c47 [Strict] {G : World → Prop} (k : Nat) : Con Tryd.prog G 47 (D47.fnAt E47 k) := Def.con2 mixed (fun k => TypesOK.mk' (types.fx [0]) _) (fun k => FnsOK.cons (c50 k) (by kernel_rfl) (FnsOK.nil)) D47 Tryd.func47 (by kernel_rfl) (fun k => by kernel_rfl) (fx := [0]) (fun k => rfl) (by kernel_rfl) k
/-- loop.example/g00218/laws.markCellS -/
noncomputable def D19 : Def := { fn := Tryd.f19, code := Tryd.f19.body.getD .skip, ps := [.own 75 K2, .val (.int .i64)], res := .back 0 75 K2 (.val (.int .i64)), pl := [2], L := lookL [(2, [.own 0 75 K2, .val 1 (.int .i64), .val 5 (.int .i64)])] }
noncomputable def E19 (k : Nat) : Ctx := mkCx (fxCx base [0]) [(50, D50.fnAt E50 k)]
theorem c19 [Strict] {G : World → Prop} (k : Nat) : Con Tryd.prog G 19 (D19.fnAt E19 k) := Def.con2 mixed (fun k => TypesOK.mk' (types.fx [0]) _) (fun k => FnsOK.cons (c50 k) (by kernel_rfl) (FnsOK.nil)) D19 Tryd.func19 (by kernel_rfl) (fun k => by kernel_rfl) (fx := [0]) (fun k => rfl) (by kernel_rfl) k
/-- loop.example/g00218/laws.markLookS -/
noncomputable def D71 : Def := { fn := Tryd.f71, code := Tryd.f71.body.getD .skip, ps := [.own 91 K3, .val (.int .i64)], res := .back 0 91 K3 (.val (.int .i64)), pl := [2], L := lookL [(2, [.own 0 91 K3, .val 1 (.int .i64), .val 5 (.int .i64)])] }
noncomputable def E71 (k : Nat) : Ctx := mkCx (fxCx base [0]) [(50, D50.fnAt E50 k)]
theorem c71 [Strict] {G : World → Prop} (k : Nat) : Con Tryd.prog G 71 (D71.fnAt E71 k) := Def.con2 mixed (fun k => TypesOK.mk' (types.fx [0]) _) (fun k => FnsOK.cons (c50 k) (by kernel_rfl) (FnsOK.nil)) D71 Tryd.func71 (by kernel_rfl) (fun k => by kernel_rfl) (fx := [0]) (fun k => rfl) (by kernel_rfl) k
/-- loop.example/g00218/laws.markRunningS -/
noncomputable def D48 : Def := { fn := Tryd.f48, code := Tryd.f48.body.getD .skip, ps := [.deep 61 K4 [91, 75], .val (.int .i64)], res := .dback 0 61 K4 [91, 75] (.val (.int .i64)), pl := [2], L := lookL [(2, [.deep 0 61 K4 [91, 75], .val 1 (.int .i64), .val 5 (.int .i64)])] }
noncomputable def E48 (k : Nat) : Ctx := mkCx (dpCx (fxCx base [0]) [(30, [91, 75])]) [(19, D19.fnAt E19 k), (71, D71.fnAt E71 k)]
theorem c48 [Strict] {G : World → Prop} (k : Nat) : Con Tryd.prog G 48 (D48.fnAt E48 k) := Def.con2 mixed (fun k => TypesOK.mk' (TypesOK.dp (types.fx [0]) [(30, [91, 75])]) _) (fun k => FnsOK.cons (c19 k) (by kernel_rfl) (FnsOK.cons (c71 k) (by kernel_rfl) (FnsOK.nil))) D48 Tryd.func48 (by kernel_rfl) (fun k => by kernel_rfl) (fx := [0]) (fun k => rfl) (by kernel_rfl) k
/-- loop.example/g00218/laws.markIntS -/
noncomputable def D49 : Def := { fn := Tryd.f49, code := Tryd.f49.body.getD .skip, ps := [.own 3 (.int .i64), .val (.int .i64)], res := .back 0 3 (.int .i64) (.val (.int .i64)), pl := [2], L := lookL [(2, [.own 0 3 (.int .i64), .val 1 (.int .i64), .val 5 (.int .i64)])] }
noncomputable def E49 (k : Nat) : Ctx := mkCx (fxCx base [0]) []
theorem c49 [Strict] {G : World → Prop} (k : Nat) : Con Tryd.prog G 49 (D49.fnAt E49 k) := Def.con2 mixed (fun k => TypesOK.mk' (types.fx [0]) _) (fun k => FnsOK.nil) D49 Tryd.func49 (by kernel_rfl) (fun k => by kernel_rfl) (fx := [0]) (fun k => rfl) (by kernel_rfl) k
/-- loop.example/g00218/laws.markStore -/
noncomputable def D18 : Def := { fn := Tryd.f18, code := Tryd.f18.body.getD .skip, sh := [4, 0], ps := [.val (.int .i64), .own 39 K1, .deep 61 K4 [91, 75], .own 3 (.int .i64), .val (.int .i64)], res := .back 1 39 K1 (.dback 2 61 K4 [91, 75] (.back 3 3 (.int .i64) (.val (.int .i64)))), pl := [], L := lookL [] }
noncomputable def E18 (k : Nat) : Ctx := mkCx (dpCx (fxCx base [0, 0, 0]) [(30, [91, 75])]) [(47, D47.fnAt E47 k), (48, D48.fnAt E48 k), (49, D49.fnAt E49 k)]
theorem c18 [Strict] {G : World → Prop} (k : Nat) : Con Tryd.prog G 18 (D18.fnAt E18 k) := Def.con2 mixed (fun k => TypesOK.mk' (TypesOK.dp (types.fx [0, 0, 0]) [(30, [91, 75])]) _) (fun k => FnsOK.cons (c47 k) (by kernel_rfl) (FnsOK.cons (c48 k) (by kernel_rfl) (FnsOK.cons (c49 k) (by kernel_rfl) (FnsOK.nil)))) D18 Tryd.func18 (by kernel_rfl) (fun k => by kernel_rfl) (fx := [0, 0, 0]) (fun k => rfl) (by kernel_rfl) k
/-- loop.example/g00218/spec.l5Own -/
noncomputable def D51 : Def := { fn := Tryd.f51, code := Tryd.f51.body.getD .skip, ps := [.val K5], res := .val K5, pl := [5], L := lookL [(5, [.var 1 K5, .var 2 K5, .own 3 61 K4, .val 17 (.slice K4), .val 18 (.int .i64), .val 19 (.int .i64)])] }
noncomputable def E51 (k : Nat) : Ctx := mkCx base []
theorem c51 [Strict] {G : World → Prop} (k : Nat) : Con Tryd.prog G 51 (D51.fnAt E51 k) := Def.con2 mixed (fun k => TypesOK.mk' types _) (fun k => FnsOK.nil) D51 Tryd.func51 (by kernel_rfl) (fun k => by kernel_rfl) (fx := []) (fun k => rfl) (by kernel_rfl) k
/-- loop.example/g00218/spec.l1In -/
noncomputable def D27 : Def := { fn := Tryd.f27, code := Tryd.f27.body.getD .skip, ps := [.val (.int .i64), .val (.int .i64), .val (.int .i64)], res := .val .bool, pl := [], L := lookL [] }
noncomputable def E27 (k : Nat) : Ctx := mkCx base []
theorem c27 [Strict] {G : World → Prop} (k : Nat) : Con Tryd.prog G 27 (D27.fnAt E27 k) := Def.con2 mixed (fun k => TypesOK.mk' types _) (fun k => FnsOK.nil) D27 Tryd.func27 (by kernel_rfl) (fun k => by kernel_rfl) (fx := []) (fun k => rfl) (by kernel_rfl) k
/-- loop.example/g00218/spec.l1Key -/
noncomputable def D28 : Def := { fn := Tryd.f28, code := Tryd.f28.body.getD .skip, ps := [.val .str], res := .val .bool, pl := [2], L := lookL [(2, [.val 0 .str, .val 3 (.int .i64)])] }
noncomputable def E28 (k : Nat) : Ctx := mkCx base [(27, D27.fnAt E27 k)]
theorem c28 [Strict] {G : World → Prop} (k : Nat) : Con Tryd.prog G 28 (D28.fnAt E28 k) := Def.con2 mixed (fun k => TypesOK.mk' types _) (fun k => FnsOK.cons (c27 k) (by kernel_rfl) (FnsOK.nil)) D28 Tryd.func28 (by kernel_rfl) (fun k => by kernel_rfl) (fx := []) (fun k => rfl) (by kernel_rfl) k
/-- loop.example/g00218/spec.l1Value -/
noncomputable def D29 : Def := { fn := Tryd.f29, code := Tryd.f29.body.getD .skip, ps := [.val .str], res := .val .bool, pl := [2], L := lookL [(2, [.val 0 .str, .val 3 (.int .i64)])] }
noncomputable def E29 (k : Nat) : Ctx := mkCx base []
theorem c29 [Strict] {G : World → Prop} (k : Nat) : Con Tryd.prog G 29 (D29.fnAt E29 k) := Def.con2 mixed (fun k => TypesOK.mk' types _) (fun k => FnsOK.nil) D29 Tryd.func29 (by kernel_rfl) (fun k => by kernel_rfl) (fx := []) (fun k => rfl) (by kernel_rfl) k
/-- loop.example/g00218/spec.l1Tid -/
noncomputable def D30 : Def := { fn := Tryd.f30, code := Tryd.f30.body.getD .skip, ps := [.val K0], res := .val .bool, pl := [], L := lookL [] }
noncomputable def E30 (k : Nat) : Ctx := mkCx base [(27, D27.fnAt E27 k)]
theorem c30 [Strict] {G : World → Prop} (k : Nat) : Con Tryd.prog G 30 (D30.fnAt E30 k) := Def.con2 mixed (fun k => TypesOK.mk' types _) (fun k => FnsOK.cons (c27 k) (by kernel_rfl) (FnsOK.nil)) D30 Tryd.func30 (by kernel_rfl) (fun k => by kernel_rfl) (fx := []) (fun k => rfl) (by kernel_rfl) k
/-- loop.example/g00218/spec.l5State -/
noncomputable def D31 : Def := { fn := Tryd.f31, code := Tryd.f31.body.getD .skip, ps := [.val K5, .val (.int .i64)], res := .val (.int .i64), pl := [], L := lookL [] }
noncomputable def E31 (k : Nat) : Ctx := mkCx base [(27, D27.fnAt E27 k)]
theorem c31 [Strict] {G : World → Prop} (k : Nat) : Con Tryd.prog G 31 (D31.fnAt E31 k) := Def.con2 mixed (fun k => TypesOK.mk' types _) (fun k => FnsOK.cons (c27 k) (by kernel_rfl) (FnsOK.nil)) D31 Tryd.func31 (by kernel_rfl) (fun k => by kernel_rfl) (fx := []) (fun k => rfl) (by kernel_rfl) k
/-- loop.example/g00218/spec.l5Writes -/
noncomputable def D32 : Def := { fn := Tryd.f32, code := Tryd.f32.body.getD .skip, ps := [.val K4, .val .str], res := .val .bool, pl := [2], L := lookL [(2, [.val 1 .str, .val 8 (.slice K2), .val 9 (.int .i64), .val 10 (.int .i64)])] }
noncomputable def E32 (k : Nat) : Ctx := mkCx base []
theorem c32 [Strict] {G : World → Prop} (k : Nat) : Con Tryd.prog G 32 (D32.fnAt E32 k) := Def.con2 mixed (fun k => TypesOK.mk' types _) (fun k => FnsOK.nil) D32 Tryd.func32 (by kernel_rfl) (fun k => by kernel_rfl) (fx := []) (fun k => rfl) (by kernel_rfl) k
/-- loop.example/g00218/spec.l5Find -/
noncomputable def D42 : Def := { fn := Tryd.f42, code := Tryd.f42.body.getD .skip, ps := [.val K5, .val .str], res := .tup (.pair (.val K1) (.val .bool)), pl := [2], L := lookL [(2, [.val 1 .str, .var 4 K1, .val 9 (.slice K1), .val 10 (.int .i64), .val 11 (.int .i64)])] }
noncomputable def E42 (k : Nat) : Ctx := mkCx base []
theorem c42 [Strict] {G : World → Prop} (k : Nat) : Con Tryd.prog G 42 (D42.fnAt E42 k) := Def.con2 mixed (fun k => TypesOK.mk' types _) (fun k => FnsOK.nil) D42 Tryd.func42 (by kernel_rfl) (fun k => by kernel_rfl) (fx := []) (fun k => rfl) (by kernel_rfl) k
/-- loop.example/g00218/spec.l5Running -/
noncomputable def D33 : Def := { fn := Tryd.f33, code := Tryd.f33.body.getD .skip, ps := [.val K5, .val (.int .i64)], res := .val .bool, pl := [5, 10, 18], L := lookL [(5, [.var 2 K5, .var 5 K4, .val 38 (.slice K3), .val 39 (.int .i64), .val 40 (.int .i64)]), (10, [.var 2 K5, .var 5 K4, .var 7 K3, .val 38 (.slice K3), .val 39 (.int .i64), .val 40 (.int .i64), .val 69 (.slice K3), .val 70 (.int .i64), .val 71 (.int .i64)]), (18, [.var 2 K5, .var 5 K4, .val 10 .bool, .val 91 (.slice K2), .val 92 (.int .i64), .val 93 (.int .i64)])] }
noncomputable def E33 (k : Nat) : Ctx := mkCx base [(27, D27.fnAt E27 k), (28, D28.fnAt E28 k), (29, D29.fnAt E29 k), (30, D30.fnAt E30 k), (42, D42.fnAt E42 k)]
theorem c33 [Strict] {G : World → Prop} (k : Nat) : Con Tryd.prog G 33 (D33.fnAt E33 k) := Def.con2 mixed (fun k => TypesOK.mk' types _) (fun k => FnsOK.cons (c27 k) (by kernel_rfl) (FnsOK.cons (c28 k) (by kernel_rfl) (FnsOK.cons (c29 k) (by kernel_rfl) (FnsOK.cons (c30 k) (by kernel_rfl) (FnsOK.cons (c42 k) (by kernel_rfl) (FnsOK.nil)))))) D33 Tryd.func33 (by kernel_rfl) (fun k => by kernel_rfl) (fx := []) (fun k => rfl) (by kernel_rfl) k
/-- loop.example/g00218/spec.l1Has -/
noncomputable def D34 : Def := { fn := Tryd.f34, code := Tryd.f34.body.getD .skip, ps := [.val (.slice (.int .i64)), .val (.int .i64)], res := .val .bool, pl := [2], L := lookL [(2, [.val 1 (.int .i64), .val 7 (.slice (.int .i64)), .val 8 (.int .i64), .val 9 (.int .i64)])] }
noncomputable def E34 (k : Nat) : Ctx := mkCx base []
theorem c34 [Strict] {G : World → Prop} (k : Nat) : Con Tryd.prog G 34 (D34.fnAt E34 k) := Def.con2 mixed (fun k => TypesOK.mk' types _) (fun k => FnsOK.nil) D34 Tryd.func34 (by kernel_rfl) (fun k => by kernel_rfl) (fx := []) (fun k => rfl) (by kernel_rfl) k
/-- loop.example/g00218/spec.GoodStore -/
noncomputable def D8 : Def := { fn := Tryd.f8, code := Tryd.f8.body.getD .skip, ps := [.val K5], res := .val .bool, pl := [4, 15, 23], L := lookL [(4, [.var 1 K5, .val 29 (.slice K1), .val 30 (.int .i64), .val 31 (.int .i64)]), (15, [.var 1 K5, .val 6 (.int .i64), .val 113 (.slice K4), .val 114 (.int .i64), .val 115 (.int .i64)]), (23, [.var 1 K5, .val 6 (.int .i64), .val 136 (.slice (.int .i64)), .val 137 (.int .i64), .val 138 (.int .i64)])] }
noncomputable def E8 (k : Nat) : Ctx := mkCx base [(27, D27.fnAt E27 k), (28, D28.fnAt E28 k), (29, D29.fnAt E29 k), (30, D30.fnAt E30 k), (31, D31.fnAt E31 k), (32, D32.fnAt E32 k), (33, D33.fnAt E33 k), (34, D34.fnAt E34 k)]
theorem c8 [Strict] {G : World → Prop} (k : Nat) : Con Tryd.prog G 8 (D8.fnAt E8 k) := Def.con2 mixed (fun k => TypesOK.mk' types _) (fun k => FnsOK.cons (c27 k) (by kernel_rfl) (FnsOK.cons (c28 k) (by kernel_rfl) (FnsOK.cons (c29 k) (by kernel_rfl) (FnsOK.cons (c30 k) (by kernel_rfl) (FnsOK.cons (c31 k) (by kernel_rfl) (FnsOK.cons (c32 k) (by kernel_rfl) (FnsOK.cons (c33 k) (by kernel_rfl) (FnsOK.cons (c34 k) (by kernel_rfl) (FnsOK.nil))))))))) D8 Tryd.func8 (by kernel_rfl) (fun k => by kernel_rfl) (fx := []) (fun k => rfl) (by kernel_rfl) k
/-- loop.example/g00218/spec.AdvanceEpoch -/
noncomputable def D21 : Def := { fn := Tryd.f21, code := Tryd.f21.body.getD .skip, ps := [.val K5], res := .tup (.pair (.val K5) (.val .bool)), pl := [], L := lookL [] }
noncomputable def E21 (k : Nat) : Ctx := mkCx base [(51, D51.fnAt E51 k), (8, D8.fnAt E8 k)]
theorem c21 [Strict] {G : World → Prop} (k : Nat) : Con Tryd.prog G 21 (D21.fnAt E21 k) := Def.con2 mixed (fun k => TypesOK.mk' types _) (fun k => FnsOK.cons (c51 k) (by kernel_rfl) (FnsOK.cons (c8 k) (by kernel_rfl) (FnsOK.nil))) D21 Tryd.func21 (by kernel_rfl) (fun k => by kernel_rfl) (fx := []) (fun k => rfl) (by kernel_rfl) k
/-- (*loop.example/g00218/impl.Store).at$1 -/
noncomputable def D69 : Def := { fn := Tryd.f69, code := Tryd.f69.body.getD .skip, ps := [.val K1, .val .str], res := .val (.int .i64), pl := [], L := lookL [] }
noncomputable def E69 (k : Nat) : Ctx := mkCx base [(70, cmpFn)]
theorem c69 [Strict] {G : World → Prop} (k : Nat) : Con Tryd.prog G 69 (D69.fnAt E69 k) := Def.con2 mixed (fun k => TypesOK.mk' types _) (fun k => FnsOK.cons (Con.cmp Go.Proofs.Tryd.lays106 (by kernel_rfl)) (by kernel_rfl) (FnsOK.nil)) D69 Tryd.func69 (by kernel_rfl) (fun k => by kernel_rfl) (fx := []) (fun k => rfl) (by kernel_rfl) k
/-- slices.BinarySearchFunc[[]loop.example/g00218/impl.Record,loop.example/g00218/impl.Record,string] -/
noncomputable def D68 : Def := { fn := Tryd.f68, code := Tryd.f68.body.getD .skip, ps := [.val (.slice K1), .val .str, .val (.clo 69 .unit)], res := .tup (.pair (.val (.int .i64)) (.val .bool)), pl := [3], L := lookL [(3, [.val 0 (.slice K1), .val 1 .str, .val 2 (.clo 69 .unit), .val 8 (.int .i64), .val 9 (.int .i64), .val 10 (.int .i64)])] }
noncomputable def E68 (k : Nat) : Ctx := mkCx base [(69, D69.fnAt E69 k)]
theorem c68 [Strict] {G : World → Prop} (k : Nat) : Con Tryd.prog G 68 (D68.fnAt E68 k) := Def.con2 mixed (fun k => TypesOK.mk' types _) (fun k => FnsOK.cons (c69 k) (by kernel_rfl) (FnsOK.nil)) D68 Tryd.func68 (by kernel_rfl) (fun k => by kernel_rfl) (fx := []) (fun k => rfl) (by kernel_rfl) k
/-- (*loop.example/g00218/impl.Store).at -/
noncomputable def D43 : Def := { fn := Tryd.f43, code := Tryd.f43.body.getD .skip, ps := [.val (.ref K5), .val .str], res := .tup (.pair (.val (.int .i64)) (.val .bool)), pl := [], L := lookL [] }
noncomputable def E43 (k : Nat) : Ctx := mkCx base [(68, D68.fnAt E68 k)]
theorem c43 [Strict] {G : World → Prop} (k : Nat) : Con Tryd.prog G 43 (D43.fnAt E43 k) := Def.con2 mixed (fun k => TypesOK.mk' types _) (fun k => FnsOK.cons (c68 k) (by kernel_rfl) (FnsOK.nil)) D43 Tryd.func43 (by kernel_rfl) (fun k => by kernel_rfl) (fx := []) (fun k => rfl) (by kernel_rfl) k
/-- loop.example/g00218/impl.in -/
noncomputable def D60 : Def := { fn := Tryd.f60, code := Tryd.f60.body.getD .skip, ps := [.val (.int .i64), .val (.int .i64), .val (.int .i64)], res := .val .bool, pl := [], L := lookL [] }
noncomputable def E60 (k : Nat) : Ctx := mkCx base []
theorem c60 [Strict] {G : World → Prop} (k : Nat) : Con Tryd.prog G 60 (D60.fnAt E60 k) := Def.con2 mixed (fun k => TypesOK.mk' types _) (fun k => FnsOK.nil) D60 Tryd.func60 (by kernel_rfl) (fun k => by kernel_rfl) (fx := []) (fun k => rfl) (by kernel_rfl) k
/-- loop.example/g00218/impl.isKey -/
noncomputable def D61 : Def := { fn := Tryd.f61, code := Tryd.f61.body.getD .skip, ps := [.val .str], res := .val .bool, pl := [], L := lookL [] }
noncomputable def E61 (k : Nat) : Ctx := mkCx base [(78, ⟨[.val .str, .val .str], .val .str, fun v => MapW.strings_Trim.f v.1 v.2.1, []⟩)]
theorem c61 {G : World → Prop} (k : Nat) : Con Tryd.prog G 61 (D61.fnAt E61 k) := Def.con2 mixed (fun k => TypesOK.mk' types _) (fun k => FnsOK.cons (Con.text2 (fun h => h) MapW.strings_Trim.f MapW.strings_Trim.calls) (by kernel_rfl) (FnsOK.nil)) D61 Tryd.func61 (by kernel_rfl) (fun k => by kernel_rfl) (fx := []) (fun k => rfl) (by kernel_rfl) k
/-- loop.example/g00218/impl.isValue -/
noncomputable def D62 : Def := { fn := Tryd.f62, code := Tryd.f62.body.getD .skip, ps := [.val .str], res := .val .bool, pl := [2], L := lookL [(2, [.val 0 .str, .val 5 (.int .i64), .val 6 (.int .i64)])] }
noncomputable def E62 (k : Nat) : Ctx := mkCx base []
theorem c62 [Strict] {G : World → Prop} (k : Nat) : Con Tryd.prog G 62 (D62.fnAt E62 k) := Def.con2 mixed (fun k => TypesOK.mk' types _) (fun k => FnsOK.nil) D62 Tryd.func62 (by kernel_rfl) (fun k => by kernel_rfl) (fx := []) (fun k => rfl) (by kernel_rfl) k
/-- loop.example/g00218/impl.isTid -/
noncomputable def D63 : Def := { fn := Tryd.f63, code := Tryd.f63.body.getD .skip, ps := [.val K0], res := .val .bool, pl := [], L := lookL [] }
noncomputable def E63 (k : Nat) : Ctx := mkCx base [(60, D60.fnAt E60 k)]
theorem c63 [Strict] {G : World → Prop} (k : Nat) : Con Tryd.prog G 63 (D63.fnAt E63 k) := Def.con2 mixed (fun k => TypesOK.mk' types _) (fun k => FnsOK.cons (c60 k) (by kernel_rfl) (FnsOK.nil)) D63 Tryd.func63 (by kernel_rfl) (fun k => by kernel_rfl) (fx := []) (fun k => rfl) (by kernel_rfl) k
/-- (*loop.example/g00218/impl.Running).writeAt$1 -/
noncomputable def D80 : Def := { fn := Tryd.f80, code := Tryd.f80.body.getD .skip, ps := [.val K2, .val .str], res := .val (.int .i64), pl := [], L := lookL [] }
noncomputable def E80 (k : Nat) : Ctx := mkCx base [(70, cmpFn)]
theorem c80 [Strict] {G : World → Prop} (k : Nat) : Con Tryd.prog G 80 (D80.fnAt E80 k) := Def.con2 mixed (fun k => TypesOK.mk' types _) (fun k => FnsOK.cons (Con.cmp Go.Proofs.Tryd.lays106 (by kernel_rfl)) (by kernel_rfl) (FnsOK.nil)) D80 Tryd.func80 (by kernel_rfl) (fun k => by kernel_rfl) (fx := []) (fun k => rfl) (by kernel_rfl) k
/-- slices.BinarySearchFunc[[]loop.example/g00218/impl.Cell,loop.example/g00218/impl.Cell,string] -/
noncomputable def D79 : Def := { fn := Tryd.f79, code := Tryd.f79.body.getD .skip, ps := [.val (.slice K2), .val .str, .val (.clo 80 .unit)], res := .tup (.pair (.val (.int .i64)) (.val .bool)), pl := [3], L := lookL [(3, [.val 0 (.slice K2), .val 1 .str, .val 2 (.clo 80 .unit), .val 8 (.int .i64), .val 9 (.int .i64), .val 10 (.int .i64)])] }
noncomputable def E79 (k : Nat) : Ctx := mkCx base [(80, D80.fnAt E80 k)]
theorem c79 [Strict] {G : World → Prop} (k : Nat) : Con Tryd.prog G 79 (D79.fnAt E79 k) := Def.con2 mixed (fun k => TypesOK.mk' types _) (fun k => FnsOK.cons (c80 k) (by kernel_rfl) (FnsOK.nil)) D79 Tryd.func79 (by kernel_rfl) (fun k => by kernel_rfl) (fx := []) (fun k => rfl) (by kernel_rfl) k
/-- (*loop.example/g00218/impl.Running).writeAt -/
noncomputable def D64 : Def := { fn := Tryd.f64, code := Tryd.f64.body.getD .skip, ps := [.val (.ref K4), .val .str], res := .tup (.pair (.val (.int .i64)) (.val .bool)), pl := [], L := lookL [] }
noncomputable def E64 (k : Nat) : Ctx := mkCx base [(79, D79.fnAt E79 k)]
theorem c64 [Strict] {G : World → Prop} (k : Nat) : Con Tryd.prog G 64 (D64.fnAt E64 k) := Def.con2 mixed (fun k => TypesOK.mk' types _) (fun k => FnsOK.cons (c79 k) (by kernel_rfl) (FnsOK.nil)) D64 Tryd.func64 (by kernel_rfl) (fun k => by kernel_rfl) (fx := []) (fun k => rfl) (by kernel_rfl) k
/-- loop.example/g00218/impl.owns -/
noncomputable def D65 : Def := { fn := Tryd.f65, code := Tryd.f65.body.getD .skip, ps := [.val (.int .i64)], res := .val .bool, pl := [], L := lookL [] }
noncomputable def E65 (k : Nat) : Ctx := mkCx base []
theorem c65 [Strict] {G : World → Prop} (k : Nat) : Con Tryd.prog G 65 (D65.fnAt E65 k) := Def.con2 mixed (fun k => TypesOK.mk' types _) (fun k => FnsOK.nil) D65 Tryd.func65 (by kernel_rfl) (fun k => by kernel_rfl) (fx := []) (fun k => rfl) (by kernel_rfl) k
/-- loop.example/g00218/impl.isRunning -/
noncomputable def D66 : Def := { fn := Tryd.f66, code := Tryd.f66.body.getD .skip, ps := [.val K4, .val (.int .i64)], res := .val .bool, pl := [6, 13], L := lookL [(6, [.var 2 K4, .mp 6 .str .bool, .val 58 (.slice K3), .val 59 (.int .i64), .val 60 (.int .i64)]), (13, [.var 2 K4, .val 96 (.slice K2), .val 97 (.int .i64), .val 98 (.int .i64)])] }
noncomputable def E66 (k : Nat) : Ctx := mkCx base [(60, D60.fnAt E60 k), (61, D61.fnAt E61 k), (62, D62.fnAt E62 k), (63, D63.fnAt E63 k)]
theorem c66 {G : World → Prop} (k : Nat) : Con Tryd.prog G 66 (D66.fnAt E66 k) := Def.con2 mixed (fun k => TypesOK.mk' types _) (fun k => FnsOK.cons (c60 k) (by kernel_rfl) (FnsOK.cons (c61 k) (by kernel_rfl) (FnsOK.cons (c62 k) (by kernel_rfl) (FnsOK.cons (c63 k) (by kernel_rfl) (FnsOK.nil))))) D66 Tryd.func66 (by kernel_rfl) (fun k => by kernel_rfl) (fx := []) (fun k => rfl) (by kernel_rfl) k
/-- loop.example/g00218/impl.isStore -/
noncomputable def D38 : Def := { fn := Tryd.f38, code := Tryd.f38.body.getD .skip, ps := [.val K5], res := .val .bool, pl := [5, 12, 23, 28], L := lookL [(5, [.var 1 K5, .mp 3 (.int .i64) .bool, .val 35 (.slice (.int .i64)), .val 36 (.int .i64), .val 37 (.int .i64)]), (12, [.var 1 K5, .mp 3 (.int .i64) .bool, .val 56 (.slice K1), .val 57 (.int .i64), .val 58 (.int .i64)]), (23, [.var 1 K5, .mp 3 (.int .i64) .bool, .val 147 (.slice K4), .val 148 (.int .i64), .val 149 (.int .i64)]), (28, [.var 1 K5, .mp 3 (.int .i64) .bool, .var 12 K4, .val 147 (.slice K4), .val 148 (.int .i64), .val 149 (.int .i64), .val 175 (.slice K2), .val 176 (.int .i64), .val 177 (.int .i64)])] }
noncomputable def E38 (k : Nat) : Ctx := mkCx base [(43, D43.fnAt E43 k), (60, D60.fnAt E60 k), (61, D61.fnAt E61 k), (62, D62.fnAt E62 k), (63, D63.fnAt E63 k), (64, D64.fnAt E64 k), (65, D65.fnAt E65 k), (66, D66.fnAt E66 k)]
theorem c38 {G : World → Prop} (k : Nat) : Con Tryd.prog G 38 (D38.fnAt E38 k) := Def.con2 mixed (fun k => TypesOK.mk' types _) (fun k => FnsOK.cons (c43 k) (by kernel_rfl) (FnsOK.cons (c60 k) (by kernel_rfl) (FnsOK.cons (c61 k) (by kernel_rfl) (FnsOK.cons (c62 k) (by kernel_rfl) (FnsOK.cons (c63 k) (by kernel_rfl) (FnsOK.cons (c64 k) (by kernel_rfl) (FnsOK.cons (c65 k) (by kernel_rfl) (FnsOK.cons (c66 k) (by kernel_rfl) (FnsOK.nil))))))))) D38 Tryd.func38 (by kernel_rfl) (fun k => by kernel_rfl) (fx := []) (fun k => rfl) (by kernel_rfl) k
/-- loop.example/g00218/impl.copyStore -/
noncomputable def D52 : Def := { fn := Tryd.f52, code := Tryd.f52.body.getD .skip, ps := [.val K5], res := .agg (.pair (.val (.int .i64)) (.pair (.own 39 K1) (.pair (.deep 61 K4 [91, 75]) (.own 3 (.int .i64))))), pl := [3], L := lookL [(3, [.own 2065 39 K1, .deep 2066 61 K4 [91, 75], .own 2067 3 (.int .i64), .vat 2 K5 [.v (.int .i64), .r 2065, .d 2066, .r 2067], .own 2073 39 K1, .deep 2074 61 K4 [91, 75], .own 2075 3 (.int .i64), .vat 3 K5 [.v (.int .i64), .r 2073, .d 2074, .r 2075], .val 18 (.slice K4), .val 19 (.int .i64), .val 20 (.int .i64)])] }
noncomputable def E52 (k : Nat) : Ctx := mkCx (dpCx base [(30, [91, 75])]) []
theorem c52 [Strict] {G : World → Prop} (k : Nat) : Con Tryd.prog G 52 (D52.fnAt E52 k) := Def.con2 mixed (fun k => TypesOK.mk' (TypesOK.dp types [(30, [91, 75])]) _) (fun k => FnsOK.nil) D52 Tryd.func52 (by kernel_rfl) (fun k => by kernel_rfl) (fx := []) (fun k => rfl) (by kernel_rfl) k
/-- loop.example/g00218/impl.AdvanceEpoch -/
noncomputable def D22 : Def := { fn := Tryd.f22, code := Tryd.f22.body.getD .skip, ps := [.val K5], res := .tup (.pair (.agg (.pair (.val (.int .i64)) (.pair (.own 39 K1) (.pair (.deep 61 K4 [91, 75]) (.own 3 (.int .i64)))))) (.val .bool)), pl := [], L := lookL [] }
noncomputable def E22 (k : Nat) : Ctx := mkCx (dpCx base [(30, [91, 75])]) [(38, D38.fnAt E38 k), (52, D52.fnAt E52 k)]
theorem c22 {G : World → Prop} (k : Nat) : Con Tryd.prog G 22 (D22.fnAt E22 k) := Def.con2 mixed (fun k => TypesOK.mk' (TypesOK.dp types [(30, [91, 75])]) _) (fun k => FnsOK.cons (c38 k) (by kernel_rfl) (FnsOK.cons (c52 k) (by kernel_rfl) (FnsOK.nil))) D22 Tryd.func22 (by kernel_rfl) (fun k => by kernel_rfl) (fx := []) (fun k => rfl) (by kernel_rfl) k
/-- loop.example/g00218/laws.heldRecordS -/
noncomputable def D53 : Def := { fn := Tryd.f53, code := Tryd.f53.body.getD .skip, ps := [.val (.slice K1), .val (.int .i64)], res := .val (.int .i64), pl := [2], L := lookL [(2, [.val 0 (.slice K1), .val 1 (.int .i64), .val 5 (.int .i64)])] }
noncomputable def E53 (k : Nat) : Ctx := mkCx base [(50, D50.fnAt E50 k)]
theorem c53 [Strict] {G : World → Prop} (k : Nat) : Con Tryd.prog G 53 (D53.fnAt E53 k) := Def.con2 mixed (fun k => TypesOK.mk' types _) (fun k => FnsOK.cons (c50 k) (by kernel_rfl) (FnsOK.nil)) D53 Tryd.func53 (by kernel_rfl) (fun k => by kernel_rfl) (fx := []) (fun k => rfl) (by kernel_rfl) k
/-- loop.example/g00218/laws.heldCellS -/
noncomputable def D20 : Def := { fn := Tryd.f20, code := Tryd.f20.body.getD .skip, ps := [.val (.slice K2), .val (.int .i64)], res := .val (.int .i64), pl := [2], L := lookL [(2, [.val 0 (.slice K2), .val 1 (.int .i64), .val 5 (.int .i64)])] }
noncomputable def E20 (k : Nat) : Ctx := mkCx base [(50, D50.fnAt E50 k)]
theorem c20 [Strict] {G : World → Prop} (k : Nat) : Con Tryd.prog G 20 (D20.fnAt E20 k) := Def.con2 mixed (fun k => TypesOK.mk' types _) (fun k => FnsOK.cons (c50 k) (by kernel_rfl) (FnsOK.nil)) D20 Tryd.func20 (by kernel_rfl) (fun k => by kernel_rfl) (fx := []) (fun k => rfl) (by kernel_rfl) k
/-- loop.example/g00218/laws.heldLookS -/
noncomputable def D72 : Def := { fn := Tryd.f72, code := Tryd.f72.body.getD .skip, ps := [.val (.slice K3), .val (.int .i64)], res := .val (.int .i64), pl := [2], L := lookL [(2, [.val 0 (.slice K3), .val 1 (.int .i64), .val 5 (.int .i64)])] }
noncomputable def E72 (k : Nat) : Ctx := mkCx base [(50, D50.fnAt E50 k)]
theorem c72 [Strict] {G : World → Prop} (k : Nat) : Con Tryd.prog G 72 (D72.fnAt E72 k) := Def.con2 mixed (fun k => TypesOK.mk' types _) (fun k => FnsOK.cons (c50 k) (by kernel_rfl) (FnsOK.nil)) D72 Tryd.func72 (by kernel_rfl) (fun k => by kernel_rfl) (fx := []) (fun k => rfl) (by kernel_rfl) k
/-- loop.example/g00218/laws.heldRunningS -/
noncomputable def D54 : Def := { fn := Tryd.f54, code := Tryd.f54.body.getD .skip, ps := [.val (.slice K4), .val (.int .i64)], res := .val (.int .i64), pl := [2], L := lookL [(2, [.val 0 (.slice K4), .val 1 (.int .i64), .val 5 (.int .i64)])] }
noncomputable def E54 (k : Nat) : Ctx := mkCx base [(20, D20.fnAt E20 k), (72, D72.fnAt E72 k)]
theorem c54 [Strict] {G : World → Prop} (k : Nat) : Con Tryd.prog G 54 (D54.fnAt E54 k) := Def.con2 mixed (fun k => TypesOK.mk' types _) (fun k => FnsOK.cons (c20 k) (by kernel_rfl) (FnsOK.cons (c72 k) (by kernel_rfl) (FnsOK.nil))) D54 Tryd.func54 (by kernel_rfl) (fun k => by kernel_rfl) (fx := []) (fun k => rfl) (by kernel_rfl) k
/-- loop.example/g00218/laws.heldIntS -/
noncomputable def D55 : Def := { fn := Tryd.f55, code := Tryd.f55.body.getD .skip, ps := [.val (.slice (.int .i64)), .val (.int .i64)], res := .val (.int .i64), pl := [2], L := lookL [(2, [.val 0 (.slice (.int .i64)), .val 1 (.int .i64), .val 5 (.int .i64)])] }
noncomputable def E55 (k : Nat) : Ctx := mkCx base []
theorem c55 [Strict] {G : World → Prop} (k : Nat) : Con Tryd.prog G 55 (D55.fnAt E55 k) := Def.con2 mixed (fun k => TypesOK.mk' types _) (fun k => FnsOK.nil) D55 Tryd.func55 (by kernel_rfl) (fun k => by kernel_rfl) (fx := []) (fun k => rfl) (by kernel_rfl) k
/-- loop.example/g00218/laws.heldStore -/
noncomputable def D23 : Def := { fn := Tryd.f23, code := Tryd.f23.body.getD .skip, ps := [.val K5, .val (.int .i64)], res := .val (.int .i64), pl := [], L := lookL [] }
noncomputable def E23 (k : Nat) : Ctx := mkCx base [(53, D53.fnAt E53 k), (54, D54.fnAt E54 k), (55, D55.fnAt E55 k)]
theorem c23 [Strict] {G : World → Prop} (k : Nat) : Con Tryd.prog G 23 (D23.fnAt E23 k) := Def.con2 mixed (fun k => TypesOK.mk' types _) (fun k => FnsOK.cons (c53 k) (by kernel_rfl) (FnsOK.cons (c54 k) (by kernel_rfl) (FnsOK.cons (c55 k) (by kernel_rfl) (FnsOK.nil)))) D23 Tryd.func23 (by kernel_rfl) (fun k => by kernel_rfl) (fx := []) (fun k => rfl) (by kernel_rfl) k
/-- loop.example/g00218/laws.szRecord -/
noncomputable def D56 : Def := { fn := Tryd.f56, code := Tryd.f56.body.getD .skip, ps := [.val K1, .val (.int .i64)], res := .val (.int .i64), pl := [], L := lookL [] }
noncomputable def E56 (k : Nat) : Ctx := mkCx base []
theorem c56 [Strict] {G : World → Prop} (k : Nat) : Con Tryd.prog G 56 (D56.fnAt E56 k) := Def.con2 mixed (fun k => TypesOK.mk' types _) (fun k => FnsOK.nil) D56 Tryd.func56 (by kernel_rfl) (fun k => by kernel_rfl) (fx := []) (fun k => rfl) (by kernel_rfl) k
/-- loop.example/g00218/laws.szRecordS -/
noncomputable def D24 : Def := { fn := Tryd.f24, code := Tryd.f24.body.getD .skip, ps := [.val (.slice K1), .val (.int .i64)], res := .val (.int .i64), pl := [5], L := lookL [(5, [.val 0 (.slice K1), .val 1 (.int .i64), .val 5 (.int .i64)])] }
noncomputable def E24 (k : Nat) : Ctx := mkCx base [(56, D56.fnAt E56 k)]
theorem c24 [Strict] {G : World → Prop} (k : Nat) : Con Tryd.prog G 24 (D24.fnAt E24 k) := Def.con2 mixed (fun k => TypesOK.mk' types _) (fun k => FnsOK.cons (c56 k) (by kernel_rfl) (FnsOK.nil)) D24 Tryd.func24 (by kernel_rfl) (fun k => by kernel_rfl) (fx := []) (fun k => rfl) (by kernel_rfl) k
/-- loop.example/g00218/laws.szLook -/
noncomputable def D83 : Def := { fn := Tryd.f83, code := Tryd.f83.body.getD .skip, ps := [.val K3, .val (.int .i64)], res := .val (.int .i64), pl := [], L := lookL [] }
noncomputable def E83 (k : Nat) : Ctx := mkCx base []
theorem c83 [Strict] {G : World → Prop} (k : Nat) : Con Tryd.prog G 83 (D83.fnAt E83 k) := Def.con2 mixed (fun k => TypesOK.mk' types _) (fun k => FnsOK.nil) D83 Tryd.func83 (by kernel_rfl) (fun k => by kernel_rfl) (fx := []) (fun k => rfl) (by kernel_rfl) k
/-- loop.example/g00218/laws.szLookS -/
noncomputable def D73 : Def := { fn := Tryd.f73, code := Tryd.f73.body.getD .skip, ps := [.val (.slice K3), .val (.int .i64)], res := .val (.int .i64), pl := [5], L := lookL [(5, [.val 0 (.slice K3), .val 1 (.int .i64), .val 5 (.int .i64)])] }
noncomputable def E73 (k : Nat) : Ctx := mkCx base [(83, D83.fnAt E83 k)]
theorem c73 [Strict] {G : World → Prop} (k : Nat) : Con Tryd.prog G 73 (D73.fnAt E73 k) := Def.con2 mixed (fun k => TypesOK.mk' types _) (fun k => FnsOK.cons (c83 k) (by kernel_rfl) (FnsOK.nil)) D73 Tryd.func73 (by kernel_rfl) (fun k => by kernel_rfl) (fx := []) (fun k => rfl) (by kernel_rfl) k
/-- loop.example/g00218/laws.szCell -/
noncomputable def D84 : Def := { fn := Tryd.f84, code := Tryd.f84.body.getD .skip, ps := [.val K2, .val (.int .i64)], res := .val (.int .i64), pl := [], L := lookL [] }
noncomputable def E84 (k : Nat) : Ctx := mkCx base []
theorem c84 [Strict] {G : World → Prop} (k : Nat) : Con Tryd.prog G 84 (D84.fnAt E84 k) := Def.con2 mixed (fun k => TypesOK.mk' types _) (fun k => FnsOK.nil) D84 Tryd.func84 (by kernel_rfl) (fun k => by kernel_rfl) (fx := []) (fun k => rfl) (by kernel_rfl) k
/-- loop.example/g00218/laws.szCellS -/
noncomputable def D74 : Def := { fn := Tryd.f74, code := Tryd.f74.body.getD .skip, ps := [.val (.slice K2), .val (.int .i64)], res := .val (.int .i64), pl := [5], L := lookL [(5, [.val 0 (.slice K2), .val 1 (.int .i64), .val 5 (.int .i64)])] }
noncomputable def E74 (k : Nat) : Ctx := mkCx base [(84, D84.fnAt E84 k)]
theorem c74 [Strict] {G : World → Prop} (k : Nat) : Con Tryd.prog G 74 (D74.fnAt E74 k) := Def.con2 mixed (fun k => TypesOK.mk' types _) (fun k => FnsOK.cons (c84 k) (by kernel_rfl) (FnsOK.nil)) D74 Tryd.func74 (by kernel_rfl) (fun k => by kernel_rfl) (fx := []) (fun k => rfl) (by kernel_rfl) k
/-- loop.example/g00218/laws.szRunning -/
noncomputable def D57 : Def := { fn := Tryd.f57, code := Tryd.f57.body.getD .skip, ps := [.val K4, .val (.int .i64)], res := .val (.int .i64), pl := [], L := lookL [] }
noncomputable def E57 (k : Nat) : Ctx := mkCx base [(73, D73.fnAt E73 k), (74, D74.fnAt E74 k)]
theorem c57 [Strict] {G : World → Prop} (k : Nat) : Con Tryd.prog G 57 (D57.fnAt E57 k) := Def.con2 mixed (fun k => TypesOK.mk' types _) (fun k => FnsOK.cons (c73 k) (by kernel_rfl) (FnsOK.cons (c74 k) (by kernel_rfl) (FnsOK.nil))) D57 Tryd.func57 (by kernel_rfl) (fun k => by kernel_rfl) (fx := []) (fun k => rfl) (by kernel_rfl) k
/-- loop.example/g00218/laws.szRunningS -/
noncomputable def D25 : Def := { fn := Tryd.f25, code := Tryd.f25.body.getD .skip, ps := [.val (.slice K4), .val (.int .i64)], res := .val (.int .i64), pl := [5], L := lookL [(5, [.val 0 (.slice K4), .val 1 (.int .i64), .val 5 (.int .i64)])] }
noncomputable def E25 (k : Nat) : Ctx := mkCx base [(57, D57.fnAt E57 k)]
theorem c25 [Strict] {G : World → Prop} (k : Nat) : Con Tryd.prog G 25 (D25.fnAt E25 k) := Def.con2 mixed (fun k => TypesOK.mk' types _) (fun k => FnsOK.cons (c57 k) (by kernel_rfl) (FnsOK.nil)) D25 Tryd.func25 (by kernel_rfl) (fun k => by kernel_rfl) (fx := []) (fun k => rfl) (by kernel_rfl) k
/-- loop.example/g00218/laws.szIntS -/
noncomputable def D26 : Def := { fn := Tryd.f26, code := Tryd.f26.body.getD .skip, ps := [.val (.slice (.int .i64)), .val (.int .i64)], res := .val (.int .i64), pl := [], L := lookL [] }
noncomputable def E26 (k : Nat) : Ctx := mkCx base []
theorem c26 [Strict] {G : World → Prop} (k : Nat) : Con Tryd.prog G 26 (D26.fnAt E26 k) := Def.con2 mixed (fun k => TypesOK.mk' types _) (fun k => FnsOK.nil) D26 Tryd.func26 (by kernel_rfl) (fun k => by kernel_rfl) (fx := []) (fun k => rfl) (by kernel_rfl) k
/-- loop.example/g00218/laws.szStore -/
noncomputable def D7 : Def := { fn := Tryd.f7, code := Tryd.f7.body.getD .skip, ps := [.val K5, .val (.int .i64)], res := .val (.int .i64), pl := [], L := lookL [] }
noncomputable def E7 (k : Nat) : Ctx := mkCx base [(24, D24.fnAt E24 k), (25, D25.fnAt E25 k), (26, D26.fnAt E26 k)]
theorem c7 [Strict] {G : World → Prop} (k : Nat) : Con Tryd.prog G 7 (D7.fnAt E7 k) := Def.con2 mixed (fun k => TypesOK.mk' types _) (fun k => FnsOK.cons (c24 k) (by kernel_rfl) (FnsOK.cons (c25 k) (by kernel_rfl) (FnsOK.cons (c26 k) (by kernel_rfl) (FnsOK.nil)))) D7 Tryd.func7 (by kernel_rfl) (fun k => by kernel_rfl) (fx := []) (fun k => rfl) (by kernel_rfl) k
/-- loop.example/g00218/laws.toTid -/
noncomputable def D75 : Def := { fn := Tryd.f75, code := Tryd.f75.body.getD .skip, ps := [.val K0], res := .val K0, pl := [], L := lookL [] }
noncomputable def E75 (k : Nat) : Ctx := mkCx base []
theorem c75 [Strict] {G : World → Prop} (k : Nat) : Con Tryd.prog G 75 (D75.fnAt E75 k) := Def.con2 mixed (fun k => TypesOK.mk' types _) (fun k => FnsOK.nil) D75 Tryd.func75 (by kernel_rfl) (fun k => by kernel_rfl) (fx := []) (fun k => rfl) (by kernel_rfl) k
/-- loop.example/g00218/laws.toRecord -/
noncomputable def D58 : Def := { fn := Tryd.f58, code := Tryd.f58.body.getD .skip, ps := [.val K1], res := .val K1, pl := [], L := lookL [] }
noncomputable def E58 (k : Nat) : Ctx := mkCx base [(75, D75.fnAt E75 k)]
theorem c58 [Strict] {G : World → Prop} (k : Nat) : Con Tryd.prog G 58 (D58.fnAt E58 k) := Def.con2 mixed (fun k => TypesOK.mk' types _) (fun k => FnsOK.cons (c75 k) (by kernel_rfl) (FnsOK.nil)) D58 Tryd.func58 (by kernel_rfl) (fun k => by kernel_rfl) (fx := []) (fun k => rfl) (by kernel_rfl) k
/-- loop.example/g00218/laws.toRecordS -/
noncomputable def D35 : Def := { fn := Tryd.f35, code := Tryd.f35.body.getD .skip, ps := [.val (.slice K1)], res := .own 39 K1, pl := [3], L := lookL [(3, [.val 0 (.slice K1), .own 3 39 K1, .val 4 (.int .i64)])] }
noncomputable def E35 (k : Nat) : Ctx := mkCx base [(58, D58.fnAt E58 k)]
theorem c35 [Strict] {G : World → Prop} (k : Nat) : Con Tryd.prog G 35 (D35.fnAt E35 k) := Def.con2 mixed (fun k => TypesOK.mk' types _) (fun k => FnsOK.cons (c58 k) (by kernel_rfl) (FnsOK.nil)) D35 Tryd.func35 (by kernel_rfl) (fun k => by kernel_rfl) (fx := []) (fun k => rfl) (by kernel_rfl) k
/-- loop.example/g00218/laws.toLook -/
noncomputable def D85 : Def := { fn := Tryd.f85, code := Tryd.f85.body.getD .skip, ps := [.val K3], res := .val K3, pl := [], L := lookL [] }
noncomputable def E85 (k : Nat) : Ctx := mkCx base [(75, D75.fnAt E75 k)]
theorem c85 [Strict] {G : World → Prop} (k : Nat) : Con Tryd.prog G 85 (D85.fnAt E85 k) := Def.con2 mixed (fun k => TypesOK.mk' types _) (fun k => FnsOK.cons (c75 k) (by kernel_rfl) (FnsOK.nil)) D85 Tryd.func85 (by kernel_rfl) (fun k => by kernel_rfl) (fx := []) (fun k => rfl) (by kernel_rfl) k
/-- loop.example/g00218/laws.toLookS -/
noncomputable def D76 : Def := { fn := Tryd.f76, code := Tryd.f76.body.getD .skip, ps := [.val (.slice K3)], res := .own 91 K3, pl := [3], L := lookL [(3, [.val 0 (.slice K3), .own 3 91 K3, .val 4 (.int .i64)])] }
noncomputable def E76 (k : Nat) : Ctx := mkCx base [(85, D85.fnAt E85 k)]
theorem c76 [Strict] {G : World → Prop} (k : Nat) : Con Tryd.prog G 76 (D76.fnAt E76 k) := Def.con2 mixed (fun k => TypesOK.mk' types _) (fun k => FnsOK.cons (c85 k) (by kernel_rfl) (FnsOK.nil)) D76 Tryd.func76 (by kernel_rfl) (fun k => by kernel_rfl) (fx := []) (fun k => rfl) (by kernel_rfl) k
/-- loop.example/g00218/laws.toCell -/
noncomputable def D86 : Def := { fn := Tryd.f86, code := Tryd.f86.body.getD .skip, ps := [.val K2], res := .val K2, pl := [], L := lookL [] }
noncomputable def E86 (k : Nat) : Ctx := mkCx base []
theorem c86 [Strict] {G : World → Prop} (k : Nat) : Con Tryd.prog G 86 (D86.fnAt E86 k) := Def.con2 mixed (fun k => TypesOK.mk' types _) (fun k => FnsOK.nil) D86 Tryd.func86 (by kernel_rfl) (fun k => by kernel_rfl) (fx := []) (fun k => rfl) (by kernel_rfl) k
/-- loop.example/g00218/laws.toCellS -/
noncomputable def D77 : Def := { fn := Tryd.f77, code := Tryd.f77.body.getD .skip, ps := [.val (.slice K2)], res := .own 75 K2, pl := [3], L := lookL [(3, [.val 0 (.slice K2), .own 3 75 K2, .val 4 (.int .i64)])] }
noncomputable def E77 (k : Nat) : Ctx := mkCx base [(86, D86.fnAt E86 k)]
theorem c77 [Strict] {G : World → Prop} (k : Nat) : Con Tryd.prog G 77 (D77.fnAt E77 k) := Def.con2 mixed (fun k => TypesOK.mk' types _) (fun k => FnsOK.cons (c86 k) (by kernel_rfl) (FnsOK.nil)) D77 Tryd.func77 (by kernel_rfl) (fun k => by kernel_rfl) (fx := []) (fun k => rfl) (by kernel_rfl) k
/-- loop.example/g00218/laws.toRunning -/
noncomputable def D59 : Def := { fn := Tryd.f59, code := Tryd.f59.body.getD .skip, ps := [.val K4], res := .agg (.pair (.val (.int .i64)) (.pair (.val (.int .i64)) (.pair (.own 91 K3) (.pair (.own 75 K2) (.val K0))))), pl := [], L := lookL [] }
noncomputable def E59 (k : Nat) : Ctx := mkCx base [(75, D75.fnAt E75 k), (76, D76.fnAt E76 k), (77, D77.fnAt E77 k)]
theorem c59 [Strict] {G : World → Prop} (k : Nat) : Con Tryd.prog G 59 (D59.fnAt E59 k) := Def.con2 mixed (fun k => TypesOK.mk' types _) (fun k => FnsOK.cons (c75 k) (by kernel_rfl) (FnsOK.cons (c76 k) (by kernel_rfl) (FnsOK.cons (c77 k) (by kernel_rfl) (FnsOK.nil)))) D59 Tryd.func59 (by kernel_rfl) (fun k => by kernel_rfl) (fx := []) (fun k => rfl) (by kernel_rfl) k
/-- loop.example/g00218/laws.toRunningS -/
noncomputable def D36 : Def := { fn := Tryd.f36, code := Tryd.f36.body.getD .skip, ps := [.val (.slice K4)], res := .deep 61 K4 [91, 75], pl := [3], L := lookL [(3, [.val 0 (.slice K4), .deep 3 61 K4 [91, 75], .val 4 (.int .i64)])] }
noncomputable def E36 (k : Nat) : Ctx := mkCx (dpCx base [(30, [91, 75])]) [(59, D59.fnAt E59 k)]
theorem c36 [Strict] {G : World → Prop} (k : Nat) : Con Tryd.prog G 36 (D36.fnAt E36 k) := Def.con2 mixed (fun k => TypesOK.mk' (TypesOK.dp types [(30, [91, 75])]) _) (fun k => FnsOK.cons (c59 k) (by kernel_rfl) (FnsOK.nil)) D36 Tryd.func36 (by kernel_rfl) (fun k => by kernel_rfl) (fx := []) (fun k => rfl) (by kernel_rfl) k
/-- loop.example/g00218/laws.toIntS -/
noncomputable def D37 : Def := { fn := Tryd.f37, code := Tryd.f37.body.getD .skip, ps := [.val (.slice (.int .i64))], res := .own 3 (.int .i64), pl := [3], L := lookL [(3, [.val 0 (.slice (.int .i64)), .own 3 3 (.int .i64), .val 4 (.int .i64)])] }
noncomputable def E37 (k : Nat) : Ctx := mkCx base []
theorem c37 [Strict] {G : World → Prop} (k : Nat) : Con Tryd.prog G 37 (D37.fnAt E37 k) := Def.con2 mixed (fun k => TypesOK.mk' types _) (fun k => FnsOK.nil) D37 Tryd.func37 (by kernel_rfl) (fun k => by kernel_rfl) (fx := []) (fun k => rfl) (by kernel_rfl) k
/-- loop.example/g00218/laws.toStore -/
noncomputable def D9 : Def := { fn := Tryd.f9, code := Tryd.f9.body.getD .skip, ps := [.val K5], res := .agg (.pair (.val (.int .i64)) (.pair (.own 39 K1) (.pair (.deep 61 K4 [91, 75]) (.own 3 (.int .i64))))), pl := [], L := lookL [] }
noncomputable def E9 (k : Nat) : Ctx := mkCx (dpCx base [(30, [91, 75])]) [(35, D35.fnAt E35 k), (36, D36.fnAt E36 k), (37, D37.fnAt E37 k)]
theorem c9 [Strict] {G : World → Prop} (k : Nat) : Con Tryd.prog G 9 (D9.fnAt E9 k) := Def.con2 mixed (fun k => TypesOK.mk' (TypesOK.dp types [(30, [91, 75])]) _) (fun k => FnsOK.cons (c35 k) (by kernel_rfl) (FnsOK.cons (c36 k) (by kernel_rfl) (FnsOK.cons (c37 k) (by kernel_rfl) (FnsOK.nil)))) D9 Tryd.func9 (by kernel_rfl) (fun k => by kernel_rfl) (fx := []) (fun k => rfl) (by kernel_rfl) k
/-- loop.example/g00218/laws.FnExactAdvanceEpoch -/
noncomputable def D6 : Def := { fn := Tryd.f6, code := Tryd.f6.body.getD .skip, ps := [.val K5], res := .val .bool, pl := [], L := lookL [] }
noncomputable def E6 (k : Nat) : Ctx := mkCx base [(11, D11.fnAt E11 k), (18, D18.fnAt E18 k), (21, D21.fnAt E21 k), (22, D22.fnAt E22 k), (23, D23.fnAt E23 k), (7, D7.fnAt E7 k), (9, D9.fnAt E9 k)]
theorem c6 {G : World → Prop} (k : Nat) : Con Tryd.prog G 6 (D6.fnAt E6 k) := Def.con2 mixed (fun k => TypesOK.mk' types _) (fun k => FnsOK.cons (c11 k) (by kernel_rfl) (FnsOK.cons (c18 k) (by kernel_rfl) (FnsOK.cons (c21 k) (by kernel_rfl) (FnsOK.cons (c22 k) (by kernel_rfl) (FnsOK.cons (c23 k) (by kernel_rfl) (FnsOK.cons (c7 k) (by kernel_rfl) (FnsOK.cons (c9 k) (by kernel_rfl) (FnsOK.nil)))))))) D6 Tryd.func6 (by kernel_rfl) (fun k => by kernel_rfl) (fx := []) (fun k => rfl) (by kernel_rfl) k
end Go.Proofs.YtolcbchdijdolaaDoor.Fms
