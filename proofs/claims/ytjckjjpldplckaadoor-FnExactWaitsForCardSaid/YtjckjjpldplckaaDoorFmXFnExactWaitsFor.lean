/- FnExactWaitsFor, by the functional machine. -/
import Derived.Test.YtjckjjpldplckaaDoorTrim
import Derived.Test.YtjckjjpldplckaaDoorFmZ
import Derived.Test.YtjckjjpldplckaaDoorFmGv
import Derived.Test.YtjckjjpldplckaaDoorFmXFnExactWaitsForLays
import Derived.Test.YtjckjjpldplckaaDoorFmSo
import Derived.Test.YtjckjjpldplckaaDoorProg
set_option maxRecDepth 100000
set_option linter.unusedVariables false
open Go Go.Fm
namespace Go.Proofs.YtjckjjpldplckaaDoor.Fms
abbrev K1 : Kind := .struct (.pair (.int .i64) (.int .i64))
abbrev K0 : Kind := .struct (.pair .str (.pair (.slice K1) (.slice K1)))
def table : List TRow := [⟨2, (.int .i64), 0, 0, false, none⟩, ⟨3, (.int .i64), 0, 0, false, none⟩, ⟨4, .bool, 0, 0, false, none⟩, ⟨5, (.int .u8), 0, 0, false, none⟩, ⟨9, .str, 0, 0, false, none⟩, ⟨22, (.slice K0), 2199023255552, 58, false, none⟩, ⟨25, (.slice K0), 2199023255552, 61, false, none⟩, ⟨29, (.slice (.int .i64)), 17592186044416, 3, false, none⟩, ⟨50, (.slice K1), 8796093022208, 92, false, none⟩, ⟨56, (.slice K1), 8796093022208, 118, false, none⟩, ⟨57, K0, 0, 0, false, none⟩, ⟨58, K0, 0, 0, false, none⟩, ⟨59, (.slice K1), 8796093022208, 64, false, none⟩, ⟨60, K0, 0, 0, false, none⟩, ⟨61, K0, 0, 0, false, none⟩, ⟨63, K1, 0, 0, true, none⟩, ⟨64, K1, 0, 0, true, none⟩, ⟨91, K1, 0, 0, true, none⟩, ⟨92, K1, 0, 0, true, none⟩, ⟨98, .unit, 0, 0, false, some (3, 4)⟩, ⟨102, (.slice (.int .u8)), 140737488355328, 5, false, none⟩, ⟨118, K1, 0, 0, true, none⟩]
def base : Ctx := ctxOf table
theorem types : TypesOK Tryd.prog base := typesOK_of (by kernel_rfl)
theorem mixed : Tryd.prog.follows .mixedOrders = true := by kernel_rfl
/-- loop.example/g00218/laws.toHold -/
noncomputable def D95 : Def := { fn := Tryd.f95, code := Tryd.f95.body.getD .skip, ps := [.val K1], res := .val K1, pl := [], L := lookL [] }
noncomputable def E95 (k : Nat) : Ctx := mkCx base []
theorem c95 [Strict] {G : World → Prop} (k : Nat) : Con Tryd.prog G 95 (D95.fnAt E95 k) := Def.con2 mixed (fun k => TypesOK.mk' types _) (fun k => FnsOK.nil) D95 Tryd.func95 (by kernel_rfl) (fun k => by kernel_rfl) (fx := []) (fun k => rfl) (by kernel_rfl) k
/-- loop.example/g00218/laws.toHoldS -/
noncomputable def D69 : Def := { fn := Tryd.f69, code := Tryd.f69.body.getD .skip, ps := [.val (.slice K1)], res := .own 64 K1, pl := [3], L := lookL [(3, [.val 0 (.slice K1), .own 3 64 K1, .val 4 (.int .i64)])] }
noncomputable def E69 (k : Nat) : Ctx := mkCx base [(95, D95.fnAt E95 k)]
theorem c69 [Strict] {G : World → Prop} (k : Nat) : Con Tryd.prog G 69 (D69.fnAt E69 k) := Def.con2 mixed (fun k => TypesOK.mk' types _) (fun k => FnsOK.cons (c95 k) (by kernel_rfl) (FnsOK.nil)) D69 Tryd.func69 (by kernel_rfl) (fun k => by kernel_rfl) (fx := []) (fun k => rfl) (by kernel_rfl) k
/-- loop.example/g00218/laws.toLock -/
noncomputable def D42 : Def := { fn := Tryd.f42, code := Tryd.f42.body.getD .skip, ps := [.val K0], res := .agg (.pair (.val .str) (.pair (.own 64 K1) (.own 64 K1))), pl := [], L := lookL [] }
noncomputable def E42 (k : Nat) : Ctx := mkCx base [(69, D69.fnAt E69 k)]
theorem c42 [Strict] {G : World → Prop} (k : Nat) : Con Tryd.prog G 42 (D42.fnAt E42 k) := Def.con2 mixed (fun k => TypesOK.mk' types _) (fun k => FnsOK.cons (c69 k) (by kernel_rfl) (FnsOK.nil)) D42 Tryd.func42 (by kernel_rfl) (fun k => by kernel_rfl) (fx := []) (fun k => rfl) (by kernel_rfl) k
/-- loop.example/g00218/laws.toLockS -/
noncomputable def D11 : Def := { fn := Tryd.f11, code := Tryd.f11.body.getD .skip, ps := [.val (.slice K0)], res := .deep 61 K0 [64, 64], pl := [3], L := lookL [(3, [.val 0 (.slice K0), .deep 3 61 K0 [64, 64], .val 4 (.int .i64)])] }
noncomputable def E11 (k : Nat) : Ctx := mkCx (dpCx base [(25, [64, 64])]) [(42, D42.fnAt E42 k)]
theorem c11 [Strict] {G : World → Prop} (k : Nat) : Con Tryd.prog G 11 (D11.fnAt E11 k) := Def.con2 mixed (fun k => TypesOK.mk' (TypesOK.dp types [(25, [64, 64])]) _) (fun k => FnsOK.cons (c42 k) (by kernel_rfl) (FnsOK.nil)) D11 Tryd.func11 (by kernel_rfl) (fun k => by kernel_rfl) (fx := []) (fun k => rfl) (by kernel_rfl) k
/-- loop.example/g00218/laws.eqHold -/
noncomputable def D99 : Def := { fn := Tryd.f99, code := Tryd.f99.body.getD .skip, ps := [.val K1, .val K1], res := .val .bool, pl := [], L := lookL [] }
noncomputable def E99 (k : Nat) : Ctx := mkCx base []
theorem c99 [Strict] {G : World → Prop} (k : Nat) : Con Tryd.prog G 99 (D99.fnAt E99 k) := Def.con2 mixed (fun k => TypesOK.mk' types _) (fun k => FnsOK.nil) D99 Tryd.func99 (by kernel_rfl) (fun k => by kernel_rfl) (fx := []) (fun k => rfl) (by kernel_rfl) k
/-- loop.example/g00218/laws.eqHoldS -/
noncomputable def D73 : Def := { fn := Tryd.f73, code := Tryd.f73.body.getD .skip, ps := [.val (.slice K1), .val (.slice K1)], res := .val .bool, pl := [4], L := lookL [(4, [.val 0 (.slice K1), .val 1 (.slice K1), .val 5 (.int .i64)])] }
noncomputable def E73 (k : Nat) : Ctx := mkCx base [(99, D99.fnAt E99 k)]
theorem c73 [Strict] {G : World → Prop} (k : Nat) : Con Tryd.prog G 73 (D73.fnAt E73 k) := Def.con2 mixed (fun k => TypesOK.mk' types _) (fun k => FnsOK.cons (c99 k) (by kernel_rfl) (FnsOK.nil)) D73 Tryd.func73 (by kernel_rfl) (fun k => by kernel_rfl) (fx := []) (fun k => rfl) (by kernel_rfl) k
/-- loop.example/g00218/laws.eqLock -/
noncomputable def D44 : Def := { fn := Tryd.f44, code := Tryd.f44.body.getD .skip, ps := [.val K0, .val K0], res := .val .bool, pl := [], L := lookL [] }
noncomputable def E44 (k : Nat) : Ctx := mkCx base [(73, D73.fnAt E73 k)]
theorem c44 [Strict] {G : World → Prop} (k : Nat) : Con Tryd.prog G 44 (D44.fnAt E44 k) := Def.con2 mixed (fun k => TypesOK.mk' types _) (fun k => FnsOK.cons (c73 k) (by kernel_rfl) (FnsOK.nil)) D44 Tryd.func44 (by kernel_rfl) (fun k => by kernel_rfl) (fx := []) (fun k => rfl) (by kernel_rfl) k
/-- loop.example/g00218/laws.eqLockS -/
noncomputable def D13 : Def := { fn := Tryd.f13, code := Tryd.f13.body.getD .skip, ps := [.val (.slice K0), .val (.slice K0)], res := .val .bool, pl := [4], L := lookL [(4, [.val 0 (.slice K0), .val 1 (.slice K0), .val 5 (.int .i64)])] }
noncomputable def E13 (k : Nat) : Ctx := mkCx base [(44, D44.fnAt E44 k)]
theorem c13 [Strict] {G : World → Prop} (k : Nat) : Con Tryd.prog G 13 (D13.fnAt E13 k) := Def.con2 mixed (fun k => TypesOK.mk' types _) (fun k => FnsOK.cons (c44 k) (by kernel_rfl) (FnsOK.nil)) D13 Tryd.func13 (by kernel_rfl) (fun k => by kernel_rfl) (fx := []) (fun k => rfl) (by kernel_rfl) k
/-- loop.example/g00218/laws.markText -/
noncomputable def D49 : Def := { fn := Tryd.f49, code := Tryd.f49.body.getD .skip, ps := [.val (.int .i64)], res := .val .str, pl := [4], L := lookL [(4, [.val 0 (.int .i64), .val 3 .str])] }
noncomputable def E49 (k : Nat) : Ctx := mkCx base []
theorem c49 [Strict] {G : World → Prop} (k : Nat) : Con Tryd.prog G 49 (D49.fnAt E49 k) := Def.con2 mixed (fun k => TypesOK.mk' types _) (fun k => FnsOK.nil) D49 Tryd.func49 (by kernel_rfl) (fun k => by kernel_rfl) (fx := []) (fun k => rfl) (by kernel_rfl) k
/-- loop.example/g00218/laws.markHoldS -/
noncomputable def D50 : Def := { fn := Tryd.f50, code := Tryd.f50.body.getD .skip, ps := [.own 64 K1, .val (.int .i64)], res := .back 0 64 K1 (.val (.int .i64)), pl := [2], L := lookL [(2, [.own 0 64 K1, .val 1 (.int .i64), .val 5 (.int .i64)])] }
noncomputable def E50 (k : Nat) : Ctx := mkCx (fxCx base [0]) []
theorem c50 [Strict] {G : World → Prop} (k : Nat) : Con Tryd.prog G 50 (D50.fnAt E50 k) := Def.con2 mixed (fun k => TypesOK.mk' (types.fx [0]) _) (fun k => FnsOK.nil) D50 Tryd.func50 (by kernel_rfl) (fun k => by kernel_rfl) (fx := [0]) (fun k => rfl) (by kernel_rfl) k
/-- loop.example/g00218/laws.markLockS -/
noncomputable def D17 : Def := { fn := Tryd.f17, code := Tryd.f17.body.getD .skip, ps := [.deep 61 K0 [64, 64], .val (.int .i64)], res := .dback 0 61 K0 [64, 64] (.val (.int .i64)), pl := [2], L := lookL [(2, [.deep 0 61 K0 [64, 64], .val 1 (.int .i64), .val 5 (.int .i64)])] }
noncomputable def E17 (k : Nat) : Ctx := mkCx (dpCx (fxCx base [0]) [(25, [64, 64])]) [(49, D49.fnAt E49 k), (50, D50.fnAt E50 k)]
theorem c17 [Strict] {G : World → Prop} (k : Nat) : Con Tryd.prog G 17 (D17.fnAt E17 k) := Def.con2 mixed (fun k => TypesOK.mk' (TypesOK.dp (types.fx [0]) [(25, [64, 64])]) _) (fun k => FnsOK.cons (c49 k) (by kernel_rfl) (FnsOK.cons (c50 k) (by kernel_rfl) (FnsOK.nil))) D17 Tryd.func17 (by kernel_rfl) (fun k => by kernel_rfl) (fx := [0]) (fun k => rfl) (by kernel_rfl) k
/-- loop.example/g00218/spec.l1In -/
noncomputable def D68 : Def := { fn := Tryd.f68, code := Tryd.f68.body.getD .skip, ps := [.val (.int .i64), .val (.int .i64), .val (.int .i64)], res := .val .bool, pl := [], L := lookL [] }
noncomputable def E68 (k : Nat) : Ctx := mkCx base []
theorem c68 [Strict] {G : World → Prop} (k : Nat) : Con Tryd.prog G 68 (D68.fnAt E68 k) := Def.con2 mixed (fun k => TypesOK.mk' types _) (fun k => FnsOK.nil) D68 Tryd.func68 (by kernel_rfl) (fun k => by kernel_rfl) (fx := []) (fun k => rfl) (by kernel_rfl) k
/-- loop.example/g00218/spec.l1Key -/
noncomputable def D37 : Def := { fn := Tryd.f37, code := Tryd.f37.body.getD .skip, ps := [.val .str], res := .val .bool, pl := [2], L := lookL [(2, [.val 0 .str, .val 3 (.int .i64)])] }
noncomputable def E37 (k : Nat) : Ctx := mkCx base [(68, D68.fnAt E68 k)]
theorem c37 [Strict] {G : World → Prop} (k : Nat) : Con Tryd.prog G 37 (D37.fnAt E37 k) := Def.con2 mixed (fun k => TypesOK.mk' types _) (fun k => FnsOK.cons (c68 k) (by kernel_rfl) (FnsOK.nil)) D37 Tryd.func37 (by kernel_rfl) (fun k => by kernel_rfl) (fx := []) (fun k => rfl) (by kernel_rfl) k
/-- loop.example/g00218/spec.l4Txn -/
noncomputable def D51 : Def := { fn := Tryd.f51, code := Tryd.f51.body.getD .skip, ps := [.val (.int .i64)], res := .val .bool, pl := [], L := lookL [] }
noncomputable def E51 (k : Nat) : Ctx := mkCx base [(68, D68.fnAt E68 k)]
theorem c51 [Strict] {G : World → Prop} (k : Nat) : Con Tryd.prog G 51 (D51.fnAt E51 k) := Def.con2 mixed (fun k => TypesOK.mk' types _) (fun k => FnsOK.cons (c68 k) (by kernel_rfl) (FnsOK.nil)) D51 Tryd.func51 (by kernel_rfl) (fun k => by kernel_rfl) (fx := []) (fun k => rfl) (by kernel_rfl) k
/-- loop.example/g00218/spec.l4Hold -/
noncomputable def D38 : Def := { fn := Tryd.f38, code := Tryd.f38.body.getD .skip, ps := [.val K1], res := .val .bool, pl := [], L := lookL [] }
noncomputable def E38 (k : Nat) : Ctx := mkCx base [(51, D51.fnAt E51 k), (68, D68.fnAt E68 k)]
theorem c38 [Strict] {G : World → Prop} (k : Nat) : Con Tryd.prog G 38 (D38.fnAt E38 k) := Def.con2 mixed (fun k => TypesOK.mk' types _) (fun k => FnsOK.cons (c51 k) (by kernel_rfl) (FnsOK.cons (c68 k) (by kernel_rfl) (FnsOK.nil))) D38 Tryd.func38 (by kernel_rfl) (fun k => by kernel_rfl) (fx := []) (fun k => rfl) (by kernel_rfl) k
/-- loop.example/g00218/spec.l1Has -/
noncomputable def D39 : Def := { fn := Tryd.f39, code := Tryd.f39.body.getD .skip, ps := [.val (.slice (.int .i64)), .val (.int .i64)], res := .val .bool, pl := [2], L := lookL [(2, [.val 1 (.int .i64), .val 7 (.slice (.int .i64)), .val 8 (.int .i64), .val 9 (.int .i64)])] }
noncomputable def E39 (k : Nat) : Ctx := mkCx base []
theorem c39 [Strict] {G : World → Prop} (k : Nat) : Con Tryd.prog G 39 (D39.fnAt E39 k) := Def.con2 mixed (fun k => TypesOK.mk' types _) (fun k => FnsOK.nil) D39 Tryd.func39 (by kernel_rfl) (fun k => by kernel_rfl) (fx := []) (fun k => rfl) (by kernel_rfl) k
/-- loop.example/g00218/spec.l4Can -/
noncomputable def D40 : Def := { fn := Tryd.f40, code := Tryd.f40.body.getD .skip, ps := [.val K0, .val K1], res := .val .bool, pl := [2], L := lookL [(2, [.var 3 K1, .val 8 (.slice K1), .val 9 (.int .i64), .val 10 (.int .i64)])] }
noncomputable def E40 (k : Nat) : Ctx := mkCx base []
theorem c40 [Strict] {G : World → Prop} (k : Nat) : Con Tryd.prog G 40 (D40.fnAt E40 k) := Def.con2 mixed (fun k => TypesOK.mk' types _) (fun k => FnsOK.nil) D40 Tryd.func40 (by kernel_rfl) (fun k => by kernel_rfl) (fx := []) (fun k => rfl) (by kernel_rfl) k
/-- loop.example/g00218/spec.l4Elder -/
noncomputable def D41 : Def := { fn := Tryd.f41, code := Tryd.f41.body.getD .skip, ps := [.val K0, .val (.int .i64)], res := .val .bool, pl := [2], L := lookL [(2, [.val 1 (.int .i64), .val 8 (.slice K1), .val 9 (.int .i64), .val 10 (.int .i64)])] }
noncomputable def E41 (k : Nat) : Ctx := mkCx base []
theorem c41 [Strict] {G : World → Prop} (k : Nat) : Con Tryd.prog G 41 (D41.fnAt E41 k) := Def.con2 mixed (fun k => TypesOK.mk' types _) (fun k => FnsOK.nil) D41 Tryd.func41 (by kernel_rfl) (fun k => by kernel_rfl) (fx := []) (fun k => rfl) (by kernel_rfl) k
/-- loop.example/g00218/spec.GoodLocks -/
noncomputable def D10 : Def := { fn := Tryd.f10, code := Tryd.f10.body.getD .skip, ps := [.val (.slice K0)], res := .val .bool, pl := [3, 8, 14], L := lookL [(3, [.val 0 (.slice K0), .own 3 3 (.int .i64), .val 10 (.slice K0), .val 11 (.int .i64), .val 12 (.int .i64)]), (8, [.val 0 (.slice K0), .own 3 3 (.int .i64), .var 5 K0, .val 10 (.slice K0), .val 11 (.int .i64), .val 12 (.int .i64), .val 49 (.slice K1), .val 50 (.int .i64), .val 51 (.int .i64)]), (14, [.val 0 (.slice K0), .own 3 3 (.int .i64), .var 5 K0, .val 10 (.slice K0), .val 11 (.int .i64), .val 12 (.int .i64), .val 88 (.slice K1), .val 89 (.int .i64), .val 90 (.int .i64)])] }
noncomputable def E10 (k : Nat) : Ctx := mkCx base [(37, D37.fnAt E37 k), (38, D38.fnAt E38 k), (39, D39.fnAt E39 k), (40, D40.fnAt E40 k), (41, D41.fnAt E41 k)]
theorem c10 [Strict] {G : World → Prop} (k : Nat) : Con Tryd.prog G 10 (D10.fnAt E10 k) := Def.con2 mixed (fun k => TypesOK.mk' types _) (fun k => FnsOK.cons (c37 k) (by kernel_rfl) (FnsOK.cons (c38 k) (by kernel_rfl) (FnsOK.cons (c39 k) (by kernel_rfl) (FnsOK.cons (c40 k) (by kernel_rfl) (FnsOK.cons (c41 k) (by kernel_rfl) (FnsOK.nil)))))) D10 Tryd.func10 (by kernel_rfl) (fun k => by kernel_rfl) (fx := []) (fun k => rfl) (by kernel_rfl) k
/-- loop.example/g00218/spec.l4Pair -/
noncomputable def D64 : Def := { fn := Tryd.f64, code := Tryd.f64.body.getD .skip, ps := [.val (.slice K1), .val K1], res := .val (.slice K1), pl := [2], L := lookL [(2, [.val 0 (.slice K1), .var 3 K1, .val 5 (.int .i64)])] }
noncomputable def E64 (k : Nat) : Ctx := mkCx base []
theorem c64 [Strict] {G : World → Prop} (k : Nat) : Con Tryd.prog G 64 (D64.fnAt E64 k) := Def.con2 mixed (fun k => TypesOK.mk' types _) (fun k => FnsOK.nil) D64 Tryd.func64 (by kernel_rfl) (fun k => by kernel_rfl) (fx := []) (fun k => rfl) (by kernel_rfl) k
/-- loop.example/g00218/spec.WaitsFor -/
noncomputable def D31 : Def := { fn := Tryd.f31, code := Tryd.f31.body.getD .skip, ps := [.val (.slice K0)], res := .tup (.pair (.val (.slice K1)) (.val .bool)), pl := [5, 8, 11, 17], L := lookL [(5, [.val 4 (.slice K1), .val 16 (.slice K0), .val 17 (.int .i64), .val 18 (.int .i64)]), (8, [.val 4 (.slice K1), .var 6 K0, .val 16 (.slice K0), .val 17 (.int .i64), .val 18 (.int .i64), .val 23 (.slice K1), .val 24 (.int .i64), .val 25 (.int .i64)]), (11, [.val 4 (.slice K1), .var 6 K0, .val 7 (.int .i64), .var 8 K1, .val 16 (.slice K0), .val 17 (.int .i64), .val 18 (.int .i64), .val 23 (.slice K1), .val 24 (.int .i64), .val 25 (.int .i64), .val 31 (.slice K1), .val 32 (.int .i64), .val 33 (.int .i64)]), (17, [.val 4 (.slice K1), .var 6 K0, .var 8 K1, .val 16 (.slice K0), .val 17 (.int .i64), .val 18 (.int .i64), .val 23 (.slice K1), .val 24 (.int .i64), .val 25 (.int .i64), .val 53 (.slice K1), .val 54 (.int .i64), .val 55 (.int .i64)])] }
noncomputable def E31 (k : Nat) : Ctx := mkCx base [(10, D10.fnAt E10 k), (64, D64.fnAt E64 k)]
theorem c31 [Strict] {G : World → Prop} (k : Nat) : Con Tryd.prog G 31 (D31.fnAt E31 k) := Def.con2 mixed (fun k => TypesOK.mk' types _) (fun k => FnsOK.cons (c10 k) (by kernel_rfl) (FnsOK.cons (c64 k) (by kernel_rfl) (FnsOK.nil))) D31 Tryd.func31 (by kernel_rfl) (fun k => by kernel_rfl) (fx := []) (fun k => rfl) (by kernel_rfl) k
/-- loop.example/g00218/impl.isKey -/
noncomputable def D48 : Def := { fn := Tryd.f48, code := Tryd.f48.body.getD .skip, ps := [.val .str], res := .val .bool, pl := [], L := lookL [] }
noncomputable def E48 (k : Nat) : Ctx := mkCx base [(74, ⟨[.val .str, .val .str], .val .str, fun v => MapW.strings_Trim.f v.1 v.2.1⟩)]
theorem c48 {G : World → Prop} (k : Nat) : Con Tryd.prog G 48 (D48.fnAt E48 k) := Def.con2 mixed (fun k => TypesOK.mk' types _) (fun k => FnsOK.cons (Con.text2 (fun h => h) MapW.strings_Trim.f MapW.strings_Trim.calls) (by kernel_rfl) (FnsOK.nil)) D48 Tryd.func48 (by kernel_rfl) (fun k => by kernel_rfl) (fx := []) (fun k => rfl) (by kernel_rfl) k
/-- loop.example/g00218/impl.in -/
noncomputable def D76 : Def := { fn := Tryd.f76, code := Tryd.f76.body.getD .skip, ps := [.val (.int .i64), .val (.int .i64), .val (.int .i64)], res := .val .bool, pl := [], L := lookL [] }
noncomputable def E76 (k : Nat) : Ctx := mkCx base []
theorem c76 [Strict] {G : World → Prop} (k : Nat) : Con Tryd.prog G 76 (D76.fnAt E76 k) := Def.con2 mixed (fun k => TypesOK.mk' types _) (fun k => FnsOK.nil) D76 Tryd.func76 (by kernel_rfl) (fun k => by kernel_rfl) (fx := []) (fun k => rfl) (by kernel_rfl) k
/-- loop.example/g00218/impl.isTxn -/
noncomputable def D54 : Def := { fn := Tryd.f54, code := Tryd.f54.body.getD .skip, ps := [.val (.int .i64)], res := .val .bool, pl := [], L := lookL [] }
noncomputable def E54 (k : Nat) : Ctx := mkCx base [(76, D76.fnAt E76 k)]
theorem c54 [Strict] {G : World → Prop} (k : Nat) : Con Tryd.prog G 54 (D54.fnAt E54 k) := Def.con2 mixed (fun k => TypesOK.mk' types _) (fun k => FnsOK.cons (c76 k) (by kernel_rfl) (FnsOK.nil)) D54 Tryd.func54 (by kernel_rfl) (fun k => by kernel_rfl) (fx := []) (fun k => rfl) (by kernel_rfl) k
/-- loop.example/g00218/impl.isMode -/
noncomputable def D70 : Def := { fn := Tryd.f70, code := Tryd.f70.body.getD .skip, ps := [.val (.int .i64)], res := .val .bool, pl := [], L := lookL [] }
noncomputable def E70 (k : Nat) : Ctx := mkCx base []
theorem c70 [Strict] {G : World → Prop} (k : Nat) : Con Tryd.prog G 70 (D70.fnAt E70 k) := Def.con2 mixed (fun k => TypesOK.mk' types _) (fun k => FnsOK.nil) D70 Tryd.func70 (by kernel_rfl) (fun k => by kernel_rfl) (fx := []) (fun k => rfl) (by kernel_rfl) k
/-- (loop.example/g00218/impl.Lock).isElder$1 -/
noncomputable def D96 : Def := { fn := Tryd.f96, code := Tryd.f96.body.getD .skip, ps := [.val K1, .val (.ref (.int .i64))], res := .val .bool, pl := [], L := lookL [] }
noncomputable def E96 (k : Nat) : Ctx := mkCx base []
theorem c96 [Strict] {G : World → Prop} (k : Nat) : Con Tryd.prog G 96 (D96.fnAt E96 k) := Def.con2 mixed (fun k => TypesOK.mk' types _) (fun k => FnsOK.nil) D96 Tryd.func96 (by kernel_rfl) (fun k => by kernel_rfl) (fx := []) (fun k => rfl) (by kernel_rfl) k
/-- slices.IndexFunc[[]loop.example/g00218/impl.Hold,loop.example/g00218/impl.Hold] -/
noncomputable def D107 : Def := { fn := Tryd.f107, code := Tryd.f107.body.getD .skip, ps := [.val (.slice K1), .val (.clo 96 (.pair (.ref (.int .i64)) .unit))], res := .val (.int .i64), pl := [2], L := lookL [(2, [.val 0 (.slice K1), .val 1 (.clo 96 (.pair (.ref (.int .i64)) .unit)), .val 7 (.int .i64), .val 8 (.int .i64)])] }
noncomputable def E107 (k : Nat) : Ctx := mkCx base [(96, D96.fnAt E96 k)]
theorem c107 [Strict] {G : World → Prop} (k : Nat) : Con Tryd.prog G 107 (D107.fnAt E107 k) := Def.con2 mixed (fun k => TypesOK.mk' types _) (fun k => FnsOK.cons (c96 k) (by kernel_rfl) (FnsOK.nil)) D107 Tryd.func107 (by kernel_rfl) (fun k => by kernel_rfl) (fx := []) (fun k => rfl) (by kernel_rfl) k
/-- slices.ContainsFunc[[]loop.example/g00218/impl.Hold,loop.example/g00218/impl.Hold] -/
noncomputable def D83 : Def := { fn := Tryd.f83, code := Tryd.f83.body.getD .skip, ps := [.val (.slice K1), .val (.clo 96 (.pair (.ref (.int .i64)) .unit))], res := .val .bool, pl := [], L := lookL [] }
noncomputable def E83 (k : Nat) : Ctx := mkCx base [(107, D107.fnAt E107 k)]
theorem c83 [Strict] {G : World → Prop} (k : Nat) : Con Tryd.prog G 83 (D83.fnAt E83 k) := Def.con2 mixed (fun k => TypesOK.mk' types _) (fun k => FnsOK.cons (c107 k) (by kernel_rfl) (FnsOK.nil)) D83 Tryd.func83 (by kernel_rfl) (fun k => by kernel_rfl) (fx := []) (fun k => rfl) (by kernel_rfl) k
/-- (loop.example/g00218/impl.Lock).isElder$2 -/
noncomputable def D97 : Def := { fn := Tryd.f97, code := Tryd.f97.body.getD .skip, ps := [.val K1, .val (.ref (.int .i64))], res := .val .bool, pl := [], L := lookL [] }
noncomputable def E97 (k : Nat) : Ctx := mkCx base []
theorem c97 [Strict] {G : World → Prop} (k : Nat) : Con Tryd.prog G 97 (D97.fnAt E97 k) := Def.con2 mixed (fun k => TypesOK.mk' types _) (fun k => FnsOK.nil) D97 Tryd.func97 (by kernel_rfl) (fun k => by kernel_rfl) (fx := []) (fun k => rfl) (by kernel_rfl) k
/-- slices.IndexFunc[[]loop.example/g00218/impl.Hold,loop.example/g00218/impl.Hold] -/
noncomputable def D107_1 : Def := { fn := Tryd.f107, code := Tryd.f107.body.getD .skip, ps := [.val (.slice K1), .val (.clo 97 (.pair (.ref (.int .i64)) .unit))], res := .val (.int .i64), pl := [2], L := lookL [(2, [.val 0 (.slice K1), .val 1 (.clo 97 (.pair (.ref (.int .i64)) .unit)), .val 7 (.int .i64), .val 8 (.int .i64)])] }
noncomputable def E107_1 (k : Nat) : Ctx := mkCx base [(97, D97.fnAt E97 k)]
theorem c107_1 [Strict] {G : World → Prop} (k : Nat) : Con Tryd.prog G 107 (D107_1.fnAt E107_1 k) := Def.con2 mixed (fun k => TypesOK.mk' types _) (fun k => FnsOK.cons (c97 k) (by kernel_rfl) (FnsOK.nil)) D107_1 Tryd.func107 (by kernel_rfl) (fun k => by kernel_rfl) (fx := []) (fun k => rfl) (by kernel_rfl) k
/-- slices.ContainsFunc[[]loop.example/g00218/impl.Hold,loop.example/g00218/impl.Hold] -/
noncomputable def D83_1 : Def := { fn := Tryd.f83, code := Tryd.f83.body.getD .skip, ps := [.val (.slice K1), .val (.clo 97 (.pair (.ref (.int .i64)) .unit))], res := .val .bool, pl := [], L := lookL [] }
noncomputable def E83_1 (k : Nat) : Ctx := mkCx base [(107, D107_1.fnAt E107_1 k)]
theorem c83_1 [Strict] {G : World → Prop} (k : Nat) : Con Tryd.prog G 83 (D83_1.fnAt E83_1 k) := Def.con2 mixed (fun k => TypesOK.mk' types _) (fun k => FnsOK.cons (c107_1 k) (by kernel_rfl) (FnsOK.nil)) D83_1 Tryd.func83 (by kernel_rfl) (fun k => by kernel_rfl) (fx := []) (fun k => rfl) (by kernel_rfl) k
/-- (loop.example/g00218/impl.Lock).isElder -/
noncomputable def D71 : Def := { fn := Tryd.f71, code := Tryd.f71.body.getD .skip, ps := [.val K0, .val (.int .i64), .val (.slice K1)], res := .val .bool, pl := [], L := lookL [] }
noncomputable def E71 (k : Nat) : Ctx := altCx (mkCx base []) [(83, D83.fnAt E83 k), (83, D83_1.fnAt E83_1 k)]
theorem c71 [Strict] {G : World → Prop} (k : Nat) : Con Tryd.prog G 71 (D71.fnAt E71 k) := Def.con2 mixed (fun k => (TypesOK.mk' types _).alt _) (fun k => FnsOK.alt (c83 k) (by kernel_rfl) (FnsOK.alt (c83_1 k) (by kernel_rfl) ((FnsOK.alt0 (FnsOK.nil))))) D71 Tryd.func71 (by kernel_rfl) (fun k => by kernel_rfl) (fx := []) (fun k => rfl) (by kernel_rfl) k
/-- (loop.example/g00218/impl.Lock).may$1 -/
noncomputable def D98 : Def := { fn := Tryd.f98, code := Tryd.f98.body.getD .skip, ps := [.val K1, .val (.ref K1)], res := .val .bool, pl := [], L := lookL [] }
noncomputable def E98 (k : Nat) : Ctx := mkCx base []
theorem c98 [Strict] {G : World → Prop} (k : Nat) : Con Tryd.prog G 98 (D98.fnAt E98 k) := Def.con2 mixed (fun k => TypesOK.mk' types _) (fun k => FnsOK.nil) D98 Tryd.func98 (by kernel_rfl) (fun k => by kernel_rfl) (fx := []) (fun k => rfl) (by kernel_rfl) k
/-- slices.IndexFunc[[]loop.example/g00218/impl.Hold,loop.example/g00218/impl.Hold] -/
noncomputable def D107_2 : Def := { fn := Tryd.f107, code := Tryd.f107.body.getD .skip, ps := [.val (.slice K1), .val (.clo 98 (.pair (.ref K1) .unit))], res := .val (.int .i64), pl := [2], L := lookL [(2, [.val 0 (.slice K1), .val 1 (.clo 98 (.pair (.ref K1) .unit)), .val 7 (.int .i64), .val 8 (.int .i64)])] }
noncomputable def E107_2 (k : Nat) : Ctx := mkCx base [(98, D98.fnAt E98 k)]
theorem c107_2 [Strict] {G : World → Prop} (k : Nat) : Con Tryd.prog G 107 (D107_2.fnAt E107_2 k) := Def.con2 mixed (fun k => TypesOK.mk' types _) (fun k => FnsOK.cons (c98 k) (by kernel_rfl) (FnsOK.nil)) D107_2 Tryd.func107 (by kernel_rfl) (fun k => by kernel_rfl) (fx := []) (fun k => rfl) (by kernel_rfl) k
/-- slices.ContainsFunc[[]loop.example/g00218/impl.Hold,loop.example/g00218/impl.Hold] -/
noncomputable def D83_2 : Def := { fn := Tryd.f83, code := Tryd.f83.body.getD .skip, ps := [.val (.slice K1), .val (.clo 98 (.pair (.ref K1) .unit))], res := .val .bool, pl := [], L := lookL [] }
noncomputable def E83_2 (k : Nat) : Ctx := mkCx base [(107, D107_2.fnAt E107_2 k)]
theorem c83_2 [Strict] {G : World → Prop} (k : Nat) : Con Tryd.prog G 83 (D83_2.fnAt E83_2 k) := Def.con2 mixed (fun k => TypesOK.mk' types _) (fun k => FnsOK.cons (c107_2 k) (by kernel_rfl) (FnsOK.nil)) D83_2 Tryd.func83 (by kernel_rfl) (fun k => by kernel_rfl) (fx := []) (fun k => rfl) (by kernel_rfl) k
/-- (loop.example/g00218/impl.Lock).may -/
noncomputable def D72 : Def := { fn := Tryd.f72, code := Tryd.f72.body.getD .skip, ps := [.val K0, .val K1], res := .val .bool, pl := [], L := lookL [] }
noncomputable def E72 (k : Nat) : Ctx := mkCx base [(83, D83_2.fnAt E83_2 k)]
theorem c72 [Strict] {G : World → Prop} (k : Nat) : Con Tryd.prog G 72 (D72.fnAt E72 k) := Def.con2 mixed (fun k => TypesOK.mk' types _) (fun k => FnsOK.cons (c83_2 k) (by kernel_rfl) (FnsOK.nil)) D72 Tryd.func72 (by kernel_rfl) (fun k => by kernel_rfl) (fx := []) (fun k => rfl) (by kernel_rfl) k
/-- loop.example/g00218/impl.areLocks -/
noncomputable def D43 : Def := { fn := Tryd.f43, code := Tryd.f43.body.getD .skip, ps := [.val (.slice K0)], res := .val .bool, pl := [3, 8, 14], L := lookL [(3, [.val 0 (.slice K0), .mp 3 (.int .i64) .bool, .val 11 (.slice K0), .val 12 (.int .i64), .val 13 (.int .i64)]), (8, [.val 0 (.slice K0), .mp 3 (.int .i64) .bool, .var 5 K0, .val 11 (.slice K0), .val 12 (.int .i64), .val 13 (.int .i64), .val 50 (.slice K1), .val 51 (.int .i64), .val 52 (.int .i64)]), (14, [.val 0 (.slice K0), .mp 3 (.int .i64) .bool, .var 5 K0, .val 11 (.slice K0), .val 12 (.int .i64), .val 13 (.int .i64), .val 96 (.slice K1), .val 97 (.int .i64), .val 98 (.int .i64)])] }
noncomputable def E43 (k : Nat) : Ctx := mkCx base [(48, D48.fnAt E48 k), (54, D54.fnAt E54 k), (70, D70.fnAt E70 k), (71, D71.fnAt E71 k), (72, D72.fnAt E72 k)]
theorem c43 {G : World → Prop} (k : Nat) : Con Tryd.prog G 43 (D43.fnAt E43 k) := Def.con2 mixed (fun k => TypesOK.mk' types _) (fun k => FnsOK.cons (c48 k) (by kernel_rfl) (FnsOK.cons (c54 k) (by kernel_rfl) (FnsOK.cons (c70 k) (by kernel_rfl) (FnsOK.cons (c71 k) (by kernel_rfl) (FnsOK.cons (c72 k) (by kernel_rfl) (FnsOK.nil)))))) D43 Tryd.func43 (by kernel_rfl) (fun k => by kernel_rfl) (fx := []) (fun k => rfl) (by kernel_rfl) k
/-- cmp.Or[int] -/
noncomputable def D92 : Def := { fn := Tryd.f92, code := Tryd.f92.body.getD .skip, ps := [.val (.slice (.int .i64))], res := .val (.int .i64), pl := [3], L := lookL [(3, [.val 3 (.int .i64), .val 6 (.slice (.int .i64)), .val 7 (.int .i64), .val 8 (.int .i64)])] }
noncomputable def E92 (k : Nat) : Ctx := mkCx base []
theorem c92 [Strict] {G : World → Prop} (k : Nat) : Con Tryd.prog G 92 (D92.fnAt E92 k) := Def.con2 mixed (fun k => TypesOK.mk' types _) (fun k => FnsOK.nil) D92 Tryd.func92 (by kernel_rfl) (fun k => by kernel_rfl) (fx := []) (fun k => rfl) (by kernel_rfl) k
/-- cmp.isNaN[int] -/
noncomputable def D116 : Def := { fn := Tryd.f116, code := Tryd.f116.body.getD .skip, ps := [.val (.int .i64)], res := .val .bool, pl := [], L := lookL [] }
noncomputable def E116 (k : Nat) : Ctx := mkCx base []
theorem c116 [Strict] {G : World → Prop} (k : Nat) : Con Tryd.prog G 116 (D116.fnAt E116 k) := Def.con2 mixed (fun k => TypesOK.mk' types _) (fun k => FnsOK.nil) D116 Tryd.func116 (by kernel_rfl) (fun k => by kernel_rfl) (fx := []) (fun k => rfl) (by kernel_rfl) k
/-- cmp.Compare[int] -/
noncomputable def D93 : Def := { fn := Tryd.f93, code := Tryd.f93.body.getD .skip, ps := [.val (.int .i64), .val (.int .i64)], res := .val (.int .i64), pl := [], L := lookL [] }
noncomputable def E93 (k : Nat) : Ctx := mkCx base [(116, D116.fnAt E116 k)]
theorem c93 [Strict] {G : World → Prop} (k : Nat) : Con Tryd.prog G 93 (D93.fnAt E93 k) := Def.con2 mixed (fun k => TypesOK.mk' types _) (fun k => FnsOK.cons (c116 k) (by kernel_rfl) (FnsOK.nil)) D93 Tryd.func93 (by kernel_rfl) (fun k => by kernel_rfl) (fx := []) (fun k => rfl) (by kernel_rfl) k
/-- loop.example/g00218/impl.sortPairs$1 -/
noncomputable def D91 : Def := { fn := Tryd.f91, code := Tryd.f91.body.getD .skip, ps := [.val K1, .val K1], res := .val (.int .i64), pl := [], L := lookL [] }
noncomputable def E91 (k : Nat) : Ctx := mkCx base [(92, D92.fnAt E92 k), (93, D93.fnAt E93 k)]
theorem c91 [Strict] {G : World → Prop} (k : Nat) : Con Tryd.prog G 91 (D91.fnAt E91 k) := Def.con2 mixed (fun k => TypesOK.mk' types _) (fun k => FnsOK.cons (c92 k) (by kernel_rfl) (FnsOK.cons (c93 k) (by kernel_rfl) (FnsOK.nil))) D91 Tryd.func91 (by kernel_rfl) (fun k => by kernel_rfl) (fx := []) (fun k => rfl) (by kernel_rfl) k
/-- slices.Compact[[]loop.example/g00218/impl.Pair,loop.example/g00218/impl.Pair] -/
noncomputable def D94 : Def := { fn := Tryd.f94, code := Tryd.f94.body.getD .skip, ps := [.own 92 K1], res := .own 92 K1, pl := [4, 9], L := lookL [(4, [.own 0 92 K1, .val 3 (.int .i64)]), (9, [.own 0 92 K1, .val 3 (.int .i64), .sub 4 0, .val 5 (.int .i64)])] }
noncomputable def E94 (k : Nat) : Ctx := mkCx base []
theorem c94 [Strict] {G : World → Prop} (k : Nat) : Con Tryd.prog G 94 (D94.fnAt E94 k) := Def.con2 mixed (fun k => TypesOK.mk' types _) (fun k => FnsOK.nil) D94 Tryd.func94 (by kernel_rfl) (fun k => by kernel_rfl) (fx := []) (fun k => rfl) (by kernel_rfl) k
/-- loop.example/g00218/impl.sortPairs -/
noncomputable def D65 : Def := { fn := Tryd.f65, code := Tryd.f65.body.getD .skip, ps := [.own 92 K1], res := .own 92 K1, pl := [], L := lookL [] }
noncomputable def E65 (k : Nat) : Ctx := mkCx base [(90, sortFn 92 K1 91 (fun v => D91.F E91 k v) cfPair), (94, D94.fnAt E94 k)]
theorem c65 [Strict] {G : World → Prop} (k : Nat) : Con Tryd.prog G 65 (D65.fnAt E65 k) := Def.con2 mixed (fun k => TypesOK.mk' types _) (fun k => FnsOK.cons (Con.sortPair types Go.Proofs.Tryd.laysSort (by kernel_rfl) (by kernel_rfl) 92 (by kernel_rfl) (@c91 told (fun _ => True) k)) (by kernel_rfl) (FnsOK.cons (c94 k) (by kernel_rfl) (FnsOK.nil))) D65 Tryd.func65 (by kernel_rfl) (fun k => by kernel_rfl) (fx := []) (fun k => rfl) (by kernel_rfl) k
/-- loop.example/g00218/impl.WaitsFor -/
noncomputable def D32 : Def := { fn := Tryd.f32, code := Tryd.f32.body.getD .skip, ps := [.val (.slice K0)], res := .tup (.pair (.own 92 K1) (.val .bool)), pl := [5, 8, 11], L := lookL [(5, [.own 4 92 K1, .val 15 (.slice K0), .val 16 (.int .i64), .val 17 (.int .i64)]), (8, [.own 4 92 K1, .var 6 K0, .val 15 (.slice K0), .val 16 (.int .i64), .val 17 (.int .i64), .val 22 (.slice K1), .val 23 (.int .i64), .val 24 (.int .i64)]), (11, [.own 4 92 K1, .var 6 K0, .var 8 K1, .val 15 (.slice K0), .val 16 (.int .i64), .val 17 (.int .i64), .val 22 (.slice K1), .val 23 (.int .i64), .val 24 (.int .i64), .val 37 (.slice K1), .val 38 (.int .i64), .val 39 (.int .i64)])] }
noncomputable def E32 (k : Nat) : Ctx := mkCx base [(43, D43.fnAt E43 k), (65, D65.fnAt E65 k)]
theorem c32 {G : World → Prop} (k : Nat) : Con Tryd.prog G 32 (D32.fnAt E32 k) := Def.con2 mixed (fun k => TypesOK.mk' types _) (fun k => FnsOK.cons (c43 k) (by kernel_rfl) (FnsOK.cons (c65 k) (by kernel_rfl) (FnsOK.nil))) D32 Tryd.func32 (by kernel_rfl) (fun k => by kernel_rfl) (fx := []) (fun k => rfl) (by kernel_rfl) k
/-- loop.example/g00218/laws.eqPair -/
noncomputable def D66 : Def := { fn := Tryd.f66, code := Tryd.f66.body.getD .skip, ps := [.val K1, .val K1], res := .val .bool, pl := [], L := lookL [] }
noncomputable def E66 (k : Nat) : Ctx := mkCx base []
theorem c66 [Strict] {G : World → Prop} (k : Nat) : Con Tryd.prog G 66 (D66.fnAt E66 k) := Def.con2 mixed (fun k => TypesOK.mk' types _) (fun k => FnsOK.nil) D66 Tryd.func66 (by kernel_rfl) (fun k => by kernel_rfl) (fx := []) (fun k => rfl) (by kernel_rfl) k
/-- loop.example/g00218/laws.eqPairS -/
noncomputable def D33 : Def := { fn := Tryd.f33, code := Tryd.f33.body.getD .skip, ps := [.val (.slice K1), .val (.slice K1)], res := .val .bool, pl := [4], L := lookL [(4, [.val 0 (.slice K1), .val 1 (.slice K1), .val 5 (.int .i64)])] }
noncomputable def E33 (k : Nat) : Ctx := mkCx base [(66, D66.fnAt E66 k)]
theorem c33 [Strict] {G : World → Prop} (k : Nat) : Con Tryd.prog G 33 (D33.fnAt E33 k) := Def.con2 mixed (fun k => TypesOK.mk' types _) (fun k => FnsOK.cons (c66 k) (by kernel_rfl) (FnsOK.nil)) D33 Tryd.func33 (by kernel_rfl) (fun k => by kernel_rfl) (fx := []) (fun k => rfl) (by kernel_rfl) k
/-- loop.example/g00218/laws.markPairS -/
noncomputable def D34 : Def := { fn := Tryd.f34, code := Tryd.f34.body.getD .skip, ps := [.own 92 K1, .val (.int .i64)], res := .back 0 92 K1 (.val (.int .i64)), pl := [2], L := lookL [(2, [.own 0 92 K1, .val 1 (.int .i64), .val 5 (.int .i64)])] }
noncomputable def E34 (k : Nat) : Ctx := mkCx (fxCx base [0]) []
theorem c34 [Strict] {G : World → Prop} (k : Nat) : Con Tryd.prog G 34 (D34.fnAt E34 k) := Def.con2 mixed (fun k => TypesOK.mk' (types.fx [0]) _) (fun k => FnsOK.nil) D34 Tryd.func34 (by kernel_rfl) (fun k => by kernel_rfl) (fx := [0]) (fun k => rfl) (by kernel_rfl) k
/-- loop.example/g00218/laws.heldPairS -/
noncomputable def D35 : Def := { fn := Tryd.f35, code := Tryd.f35.body.getD .skip, ps := [.val (.slice K1), .val (.int .i64)], res := .val (.int .i64), pl := [2], L := lookL [(2, [.val 0 (.slice K1), .val 1 (.int .i64), .val 5 (.int .i64)])] }
noncomputable def E35 (k : Nat) : Ctx := mkCx base []
theorem c35 [Strict] {G : World → Prop} (k : Nat) : Con Tryd.prog G 35 (D35.fnAt E35 k) := Def.con2 mixed (fun k => TypesOK.mk' types _) (fun k => FnsOK.nil) D35 Tryd.func35 (by kernel_rfl) (fun k => by kernel_rfl) (fx := []) (fun k => rfl) (by kernel_rfl) k
/-- loop.example/g00218/laws.szHoldS -/
noncomputable def D67 : Def := { fn := Tryd.f67, code := Tryd.f67.body.getD .skip, ps := [.val (.slice K1), .val (.int .i64)], res := .val (.int .i64), pl := [], L := lookL [] }
noncomputable def E67 (k : Nat) : Ctx := mkCx base []
theorem c67 [Strict] {G : World → Prop} (k : Nat) : Con Tryd.prog G 67 (D67.fnAt E67 k) := Def.con2 mixed (fun k => TypesOK.mk' types _) (fun k => FnsOK.nil) D67 Tryd.func67 (by kernel_rfl) (fun k => by kernel_rfl) (fx := []) (fun k => rfl) (by kernel_rfl) k
/-- loop.example/g00218/laws.szLock -/
noncomputable def D36 : Def := { fn := Tryd.f36, code := Tryd.f36.body.getD .skip, ps := [.val K0, .val (.int .i64)], res := .val (.int .i64), pl := [], L := lookL [] }
noncomputable def E36 (k : Nat) : Ctx := mkCx base [(67, D67.fnAt E67 k)]
theorem c36 [Strict] {G : World → Prop} (k : Nat) : Con Tryd.prog G 36 (D36.fnAt E36 k) := Def.con2 mixed (fun k => TypesOK.mk' types _) (fun k => FnsOK.cons (c67 k) (by kernel_rfl) (FnsOK.nil)) D36 Tryd.func36 (by kernel_rfl) (fun k => by kernel_rfl) (fx := []) (fun k => rfl) (by kernel_rfl) k
/-- loop.example/g00218/laws.szLockS -/
noncomputable def D9 : Def := { fn := Tryd.f9, code := Tryd.f9.body.getD .skip, ps := [.val (.slice K0), .val (.int .i64)], res := .val (.int .i64), pl := [5], L := lookL [(5, [.val 0 (.slice K0), .val 1 (.int .i64), .val 5 (.int .i64)])] }
noncomputable def E9 (k : Nat) : Ctx := mkCx base [(36, D36.fnAt E36 k)]
theorem c9 [Strict] {G : World → Prop} (k : Nat) : Con Tryd.prog G 9 (D9.fnAt E9 k) := Def.con2 mixed (fun k => TypesOK.mk' types _) (fun k => FnsOK.cons (c36 k) (by kernel_rfl) (FnsOK.nil)) D9 Tryd.func9 (by kernel_rfl) (fun k => by kernel_rfl) (fx := []) (fun k => rfl) (by kernel_rfl) k
/-- loop.example/g00218/laws.FnExactWaitsFor -/
noncomputable def D8 : Def := { fn := Tryd.f8, code := Tryd.f8.body.getD .skip, ps := [.val (.slice K0)], res := .val .bool, pl := [], L := lookL [] }
noncomputable def E8 (k : Nat) : Ctx := mkCx (dpCx base [(25, [64, 64])]) [(11, D11.fnAt E11 k), (13, D13.fnAt E13 k), (17, D17.fnAt E17 k), (31, D31.fnAt E31 k), (32, D32.fnAt E32 k), (33, D33.fnAt E33 k), (34, D34.fnAt E34 k), (35, D35.fnAt E35 k), (9, D9.fnAt E9 k)]
theorem c8 {G : World → Prop} (k : Nat) : Con Tryd.prog G 8 (D8.fnAt E8 k) := Def.con2 mixed (fun k => TypesOK.mk' (TypesOK.dp types [(25, [64, 64])]) _) (fun k => FnsOK.cons (c11 k) (by kernel_rfl) (FnsOK.cons (c13 k) (by kernel_rfl) (FnsOK.cons (c17 k) (by kernel_rfl) (FnsOK.cons (c31 k) (by kernel_rfl) (FnsOK.cons (c32 k) (by kernel_rfl) (FnsOK.cons (c33 k) (by kernel_rfl) (FnsOK.cons (c34 k) (by kernel_rfl) (FnsOK.cons (c35 k) (by kernel_rfl) (FnsOK.cons (c9 k) (by kernel_rfl) (FnsOK.nil)))))))))) D8 Tryd.func8 (by kernel_rfl) (fun k => by kernel_rfl) (fx := []) (fun k => rfl) (by kernel_rfl) k
end Go.Proofs.YtjckjjpldplckaaDoor.Fms
