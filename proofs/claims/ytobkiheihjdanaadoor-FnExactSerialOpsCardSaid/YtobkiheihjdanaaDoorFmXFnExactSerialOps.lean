/- FnExactSerialOps, by the functional machine. -/
import Derived.Test.YtobkiheihjdanaaDoorTrim
import Derived.Test.YtobkiheihjdanaaDoorFmZ
import Derived.Test.YtobkiheihjdanaaDoorFmGv
import Derived.Test.YtobkiheihjdanaaDoorFmXFnExactSerialOpsLays
import Derived.Test.YtobkiheihjdanaaDoorProg
set_option maxRecDepth 100000
set_option linter.unusedVariables false
open Go Go.Fm
namespace Go.Proofs.YtobkiheihjdanaaDoor.Fms
abbrev K0 : Kind := .struct (.pair (.int .i64) (.pair (.int .i64) .str))
def table : List TRow := [⟨2, (.int .i64), 0, 0, false, none⟩, ⟨3, (.int .i64), 0, 0, false, none⟩, ⟨4, .bool, 0, 0, false, none⟩, ⟨5, (.int .u8), 0, 0, false, none⟩, ⟨9, .str, 0, 0, false, none⟩, ⟨22, (.slice K0), 4398046511104, 58, false, none⟩, ⟨25, (.slice K0), 4398046511104, 59, false, none⟩, ⟨37, (.slice (.int .i64)), 17592186044416, 3, false, none⟩, ⟨57, K0, 0, 0, true, none⟩, ⟨58, K0, 0, 0, true, none⟩, ⟨59, K0, 0, 0, true, none⟩, ⟨93, (.arr 9 .bool), 0, 0, true, none⟩, ⟨94, (.slice (.int .u8)), 140737488355328, 5, false, none⟩]
def base : Ctx := ctxOf table
theorem types : TypesOK Tryd.prog base := typesOK_of (by kernel_rfl)
theorem mixed : Tryd.prog.follows .mixedOrders = true := by kernel_rfl
/-- loop.example/g00218/laws.szOp -/
noncomputable def D45 : Def := { fn := Tryd.f45, code := Tryd.f45.body.getD .skip, ps := [.val K0, .val (.int .i64)], res := .val (.int .i64), pl := [], L := lookL [] }
noncomputable def E45 (k : Nat) : Ctx := mkCx base []
theorem c45 {G : World → Prop} (k : Nat) : Con Tryd.prog G 45 (D45.fnAt E45 k) := Def.con2 mixed (fun k => TypesOK.mk' types _) (fun k => FnsOK.nil) D45 Tryd.func45 (by kernel_rfl) (fun k => by kernel_rfl) (fx := []) (fun k => rfl) (by kernel_rfl) k
/-- loop.example/g00218/laws.szOpS -/
noncomputable def D11 : Def := { fn := Tryd.f11, code := Tryd.f11.body.getD .skip, ps := [.val (.slice K0), .val (.int .i64)], res := .val (.int .i64), pl := [5], L := lookL [(5, [.val 0 (.slice K0), .val 1 (.int .i64), .val 5 (.int .i64)])] }
noncomputable def E11 (k : Nat) : Ctx := mkCx base [(45, D45.fnAt E45 k)]
theorem c11 {G : World → Prop} (k : Nat) : Con Tryd.prog G 11 (D11.fnAt E11 k) := Def.con2 mixed (fun k => TypesOK.mk' types _) (fun k => FnsOK.cons (c45 k) (by kernel_rfl) (FnsOK.nil)) D11 Tryd.func11 (by kernel_rfl) (fun k => by kernel_rfl) (fx := []) (fun k => rfl) (by kernel_rfl) k
/-- loop.example/g00218/laws.toOp -/
noncomputable def D48 : Def := { fn := Tryd.f48, code := Tryd.f48.body.getD .skip, ps := [.val K0], res := .val K0, pl := [], L := lookL [] }
noncomputable def E48 (k : Nat) : Ctx := mkCx base []
theorem c48 {G : World → Prop} (k : Nat) : Con Tryd.prog G 48 (D48.fnAt E48 k) := Def.con2 mixed (fun k => TypesOK.mk' types _) (fun k => FnsOK.nil) D48 Tryd.func48 (by kernel_rfl) (fun k => by kernel_rfl) (fx := []) (fun k => rfl) (by kernel_rfl) k
/-- loop.example/g00218/laws.toOpS -/
noncomputable def D13 : Def := { fn := Tryd.f13, code := Tryd.f13.body.getD .skip, ps := [.val (.slice K0)], res := .own 59 K0, pl := [3], L := lookL [(3, [.val 0 (.slice K0), .own 3 59 K0, .val 4 (.int .i64)])] }
noncomputable def E13 (k : Nat) : Ctx := mkCx base [(48, D48.fnAt E48 k)]
theorem c13 {G : World → Prop} (k : Nat) : Con Tryd.prog G 13 (D13.fnAt E13 k) := Def.con2 mixed (fun k => TypesOK.mk' types _) (fun k => FnsOK.cons (c48 k) (by kernel_rfl) (FnsOK.nil)) D13 Tryd.func13 (by kernel_rfl) (fun k => by kernel_rfl) (fx := []) (fun k => rfl) (by kernel_rfl) k
/-- loop.example/g00218/laws.eqOp -/
noncomputable def D50 : Def := { fn := Tryd.f50, code := Tryd.f50.body.getD .skip, ps := [.val K0, .val K0], res := .val .bool, pl := [], L := lookL [] }
noncomputable def E50 (k : Nat) : Ctx := mkCx base []
theorem c50 {G : World → Prop} (k : Nat) : Con Tryd.prog G 50 (D50.fnAt E50 k) := Def.con2 mixed (fun k => TypesOK.mk' types _) (fun k => FnsOK.nil) D50 Tryd.func50 (by kernel_rfl) (fun k => by kernel_rfl) (fx := []) (fun k => rfl) (by kernel_rfl) k
/-- loop.example/g00218/laws.eqOpS -/
noncomputable def D15 : Def := { fn := Tryd.f15, code := Tryd.f15.body.getD .skip, ps := [.val (.slice K0), .val (.slice K0)], res := .val .bool, pl := [4], L := lookL [(4, [.val 0 (.slice K0), .val 1 (.slice K0), .val 5 (.int .i64)])] }
noncomputable def E15 (k : Nat) : Ctx := mkCx base [(50, D50.fnAt E50 k)]
theorem c15 {G : World → Prop} (k : Nat) : Con Tryd.prog G 15 (D15.fnAt E15 k) := Def.con2 mixed (fun k => TypesOK.mk' types _) (fun k => FnsOK.cons (c50 k) (by kernel_rfl) (FnsOK.nil)) D15 Tryd.func15 (by kernel_rfl) (fun k => by kernel_rfl) (fx := []) (fun k => rfl) (by kernel_rfl) k
/-- loop.example/g00218/laws.markText -/
noncomputable def D55 : Def := { fn := Tryd.f55, code := Tryd.f55.body.getD .skip, ps := [.val (.int .i64)], res := .val .str, pl := [4], L := lookL [(4, [.val 0 (.int .i64), .val 3 .str])] }
noncomputable def E55 (k : Nat) : Ctx := mkCx base []
theorem c55 {G : World → Prop} (k : Nat) : Con Tryd.prog G 55 (D55.fnAt E55 k) := Def.con2 mixed (fun k => TypesOK.mk' types _) (fun k => FnsOK.nil) D55 Tryd.func55 (by kernel_rfl) (fun k => by kernel_rfl) (fx := []) (fun k => rfl) (by kernel_rfl) k
/-- loop.example/g00218/laws.markOpS -/
noncomputable def D21 : Def := { fn := Tryd.f21, code := Tryd.f21.body.getD .skip, ps := [.own 59 K0, .val (.int .i64)], res := .back 0 59 K0 (.val (.int .i64)), pl := [2], L := lookL [(2, [.own 0 59 K0, .val 1 (.int .i64), .val 5 (.int .i64)])] }
noncomputable def E21 (k : Nat) : Ctx := mkCx (fxCx base [0]) [(55, D55.fnAt E55 k)]
theorem c21 {G : World → Prop} (k : Nat) : Con Tryd.prog G 21 (D21.fnAt E21 k) := Def.con2 mixed (fun k => TypesOK.mk' (types.fx [0]) _) (fun k => FnsOK.cons (c55 k) (by kernel_rfl) (FnsOK.nil)) D21 Tryd.func21 (by kernel_rfl) (fun k => by kernel_rfl) (fx := [0]) (fun k => rfl) (by kernel_rfl) k
/-- loop.example/g00218/laws.toIntS -/
noncomputable def D25 : Def := { fn := Tryd.f25, code := Tryd.f25.body.getD .skip, ps := [.val (.slice (.int .i64))], res := .own 3 (.int .i64), pl := [3], L := lookL [(3, [.val 0 (.slice (.int .i64)), .own 3 3 (.int .i64), .val 4 (.int .i64)])] }
noncomputable def E25 (k : Nat) : Ctx := mkCx base []
theorem c25 {G : World → Prop} (k : Nat) : Con Tryd.prog G 25 (D25.fnAt E25 k) := Def.con2 mixed (fun k => TypesOK.mk' types _) (fun k => FnsOK.nil) D25 Tryd.func25 (by kernel_rfl) (fun k => by kernel_rfl) (fx := []) (fun k => rfl) (by kernel_rfl) k
/-- loop.example/g00218/laws.eqIntS -/
noncomputable def D27 : Def := { fn := Tryd.f27, code := Tryd.f27.body.getD .skip, ps := [.val (.slice (.int .i64)), .val (.slice (.int .i64))], res := .val .bool, pl := [4], L := lookL [(4, [.val 0 (.slice (.int .i64)), .val 1 (.slice (.int .i64)), .val 5 (.int .i64)])] }
noncomputable def E27 (k : Nat) : Ctx := mkCx base []
theorem c27 {G : World → Prop} (k : Nat) : Con Tryd.prog G 27 (D27.fnAt E27 k) := Def.con2 mixed (fun k => TypesOK.mk' types _) (fun k => FnsOK.nil) D27 Tryd.func27 (by kernel_rfl) (fun k => by kernel_rfl) (fx := []) (fun k => rfl) (by kernel_rfl) k
/-- loop.example/g00218/spec.l1In -/
noncomputable def D46 : Def := { fn := Tryd.f46, code := Tryd.f46.body.getD .skip, ps := [.val (.int .i64), .val (.int .i64), .val (.int .i64)], res := .val .bool, pl := [], L := lookL [] }
noncomputable def E46 (k : Nat) : Ctx := mkCx base []
theorem c46 {G : World → Prop} (k : Nat) : Con Tryd.prog G 46 (D46.fnAt E46 k) := Def.con2 mixed (fun k => TypesOK.mk' types _) (fun k => FnsOK.nil) D46 Tryd.func46 (by kernel_rfl) (fun k => by kernel_rfl) (fx := []) (fun k => rfl) (by kernel_rfl) k
/-- loop.example/g00218/spec.l1Key -/
noncomputable def D47 : Def := { fn := Tryd.f47, code := Tryd.f47.body.getD .skip, ps := [.val .str], res := .val .bool, pl := [2], L := lookL [(2, [.val 0 .str, .val 3 (.int .i64)])] }
noncomputable def E47 (k : Nat) : Ctx := mkCx base [(46, D46.fnAt E46 k)]
theorem c47 {G : World → Prop} (k : Nat) : Con Tryd.prog G 47 (D47.fnAt E47 k) := Def.con2 mixed (fun k => TypesOK.mk' types _) (fun k => FnsOK.cons (c46 k) (by kernel_rfl) (FnsOK.nil)) D47 Tryd.func47 (by kernel_rfl) (fun k => by kernel_rfl) (fx := []) (fun k => rfl) (by kernel_rfl) k
/-- loop.example/g00218/spec.GoodOps -/
noncomputable def D12 : Def := { fn := Tryd.f12, code := Tryd.f12.body.getD .skip, ps := [.val (.slice K0)], res := .val .bool, pl := [4, 11], L := lookL [(4, [.val 0 (.slice K0), .val 12 (.slice K0), .val 13 (.int .i64), .val 14 (.int .i64)]), (11, [.val 0 (.slice K0), .var 4 K0, .val 5 .bool, .val 6 .bool, .val 12 (.slice K0), .val 13 (.int .i64), .val 14 (.int .i64), .val 52 (.slice K0), .val 53 (.int .i64), .val 54 (.int .i64)])] }
noncomputable def E12 (k : Nat) : Ctx := mkCx base [(46, D46.fnAt E46 k), (47, D47.fnAt E47 k)]
theorem c12 {G : World → Prop} (k : Nat) : Con Tryd.prog G 12 (D12.fnAt E12 k) := Def.con2 mixed (fun k => TypesOK.mk' types _) (fun k => FnsOK.cons (c46 k) (by kernel_rfl) (FnsOK.cons (c47 k) (by kernel_rfl) (FnsOK.nil))) D12 Tryd.func12 (by kernel_rfl) (fun k => by kernel_rfl) (fx := []) (fun k => rfl) (by kernel_rfl) k
/-- loop.example/g00218/spec.l3Txns -/
noncomputable def D60 : Def := { fn := Tryd.f60, code := Tryd.f60.body.getD .skip, ps := [.val (.slice K0)], res := .own 3 (.int .i64), pl := [3, 6], L := lookL [(3, [.val 0 (.slice K0), .own 3 3 (.int .i64), .val 4 (.int .i64)]), (6, [.val 0 (.slice K0), .own 3 3 (.int .i64), .val 4 (.int .i64), .val 11 (.slice K0), .val 12 (.int .i64), .val 13 (.int .i64)])] }
noncomputable def E60 (k : Nat) : Ctx := mkCx base []
theorem c60 {G : World → Prop} (k : Nat) : Con Tryd.prog G 60 (D60.fnAt E60 k) := Def.con2 mixed (fun k => TypesOK.mk' types _) (fun k => FnsOK.nil) D60 Tryd.func60 (by kernel_rfl) (fun k => by kernel_rfl) (fx := []) (fun k => rfl) (by kernel_rfl) k
/-- loop.example/g00218/spec.l1Has -/
noncomputable def D61 : Def := { fn := Tryd.f61, code := Tryd.f61.body.getD .skip, ps := [.val (.slice (.int .i64)), .val (.int .i64)], res := .val .bool, pl := [2], L := lookL [(2, [.val 1 (.int .i64), .val 7 (.slice (.int .i64)), .val 8 (.int .i64), .val 9 (.int .i64)])] }
noncomputable def E61 (k : Nat) : Ctx := mkCx base []
theorem c61 {G : World → Prop} (k : Nat) : Con Tryd.prog G 61 (D61.fnAt E61 k) := Def.con2 mixed (fun k => TypesOK.mk' types _) (fun k => FnsOK.nil) D61 Tryd.func61 (by kernel_rfl) (fun k => by kernel_rfl) (fx := []) (fun k => rfl) (by kernel_rfl) k
/-- loop.example/g00218/spec.SerialOps -/
noncomputable def D28 : Def := { fn := Tryd.f28, code := Tryd.f28.body.getD .skip, ps := [.val (.slice K0), .val (.slice (.int .i64))], res := .tup (.pair (.own 59 K0) (.val .bool)), pl := [5, 12, 15], L := lookL [(5, [.val 0 (.slice K0), .val 1 (.slice (.int .i64)), .val 6 (.slice (.int .i64)), .val 26 (.slice (.int .i64)), .val 27 (.int .i64), .val 28 (.int .i64)]), (12, [.val 0 (.slice K0), .own 9 59 K0, .val 45 (.slice (.int .i64)), .val 46 (.int .i64), .val 47 (.int .i64)]), (15, [.val 0 (.slice K0), .own 9 59 K0, .val 11 (.int .i64), .val 45 (.slice (.int .i64)), .val 46 (.int .i64), .val 47 (.int .i64), .val 51 (.slice K0), .val 52 (.int .i64), .val 53 (.int .i64)])] }
noncomputable def E28 (k : Nat) : Ctx := mkCx base [(12, D12.fnAt E12 k), (60, D60.fnAt E60 k), (61, D61.fnAt E61 k)]
theorem c28 {G : World → Prop} (k : Nat) : Con Tryd.prog G 28 (D28.fnAt E28 k) := Def.con2 mixed (fun k => TypesOK.mk' types _) (fun k => FnsOK.cons (c12 k) (by kernel_rfl) (FnsOK.cons (c60 k) (by kernel_rfl) (FnsOK.cons (c61 k) (by kernel_rfl) (FnsOK.nil)))) D28 Tryd.func28 (by kernel_rfl) (fun k => by kernel_rfl) (fx := []) (fun k => rfl) (by kernel_rfl) k
/-- loop.example/g00218/impl.in -/
noncomputable def D57 : Def := { fn := Tryd.f57, code := Tryd.f57.body.getD .skip, ps := [.val (.int .i64), .val (.int .i64), .val (.int .i64)], res := .val .bool, pl := [], L := lookL [] }
noncomputable def E57 (k : Nat) : Ctx := mkCx base []
theorem c57 {G : World → Prop} (k : Nat) : Con Tryd.prog G 57 (D57.fnAt E57 k) := Def.con2 mixed (fun k => TypesOK.mk' types _) (fun k => FnsOK.nil) D57 Tryd.func57 (by kernel_rfl) (fun k => by kernel_rfl) (fx := []) (fun k => rfl) (by kernel_rfl) k
/-- loop.example/g00218/impl.isKey -/
noncomputable def D79 : Def := { fn := Tryd.f79, code := Tryd.f79.body.getD .skip, ps := [.val .str], res := .val .bool, pl := [], L := lookL [] }
noncomputable def E79 (k : Nat) : Ctx := mkCx base [(90, ⟨[.val .str, .val .str], .val .str, fun v => MapW.strings_Trim.f v.1 v.2.1⟩)]
theorem c79 {G : World → Prop} (k : Nat) : Con Tryd.prog G 79 (D79.fnAt E79 k) := Def.con2 mixed (fun k => TypesOK.mk' types _) (fun k => FnsOK.cons (Con.text2 MapW.strings_Trim.f MapW.strings_Trim.calls) (by kernel_rfl) (FnsOK.nil)) D79 Tryd.func79 (by kernel_rfl) (fun k => by kernel_rfl) (fx := []) (fun k => rfl) (by kernel_rfl) k
/-- loop.example/g00218/impl.areOps -/
noncomputable def D49 : Def := { fn := Tryd.f49, code := Tryd.f49.body.getD .skip, ps := [.val (.slice K0)], res := .val .bool, pl := [4], L := lookL [(4, [.val 0 (.slice K0), .var 3 (.arr 9 .bool), .var 4 (.arr 9 .bool), .val 9 (.slice K0), .val 10 (.int .i64), .val 11 (.int .i64)])] }
noncomputable def E49 (k : Nat) : Ctx := mkCx base [(57, D57.fnAt E57 k), (79, D79.fnAt E79 k)]
theorem c49 {G : World → Prop} (k : Nat) : Con Tryd.prog G 49 (D49.fnAt E49 k) := Def.con2 mixed (fun k => TypesOK.mk' types _) (fun k => FnsOK.cons (c57 k) (by kernel_rfl) (FnsOK.cons (c79 k) (by kernel_rfl) (FnsOK.nil))) D49 Tryd.func49 (by kernel_rfl) (fun k => by kernel_rfl) (fx := []) (fun k => rfl) (by kernel_rfl) k
/-- slices.Equal[[]int,int] -/
noncomputable def D63 : Def := { fn := Tryd.f63, code := Tryd.f63.body.getD .skip, ps := [.val (.slice (.int .i64)), .val (.slice (.int .i64))], res := .val .bool, pl := [4], L := lookL [(4, [.val 0 (.slice (.int .i64)), .val 1 (.slice (.int .i64)), .val 12 (.int .i64), .val 13 (.int .i64)])] }
noncomputable def E63 (k : Nat) : Ctx := mkCx base []
theorem c63 {G : World → Prop} (k : Nat) : Con Tryd.prog G 63 (D63.fnAt E63 k) := Def.con2 mixed (fun k => TypesOK.mk' types _) (fun k => FnsOK.nil) D63 Tryd.func63 (by kernel_rfl) (fun k => by kernel_rfl) (fx := []) (fun k => rfl) (by kernel_rfl) k
/-- loop.example/g00218/impl.txnsOf -/
noncomputable def D64 : Def := { fn := Tryd.f64, code := Tryd.f64.body.getD .skip, ps := [.val (.slice K0)], res := .own 3 (.int .i64), pl := [3], L := lookL [(3, [.own 3 3 (.int .i64), .val 7 (.slice K0), .val 8 (.int .i64), .val 9 (.int .i64)])] }
noncomputable def E64 (k : Nat) : Ctx := mkCx base [(62, sortIntFn 3)]
theorem c64 {G : World → Prop} (k : Nat) : Con Tryd.prog G 64 (D64.fnAt E64 k) := Def.con2 mixed (fun k => TypesOK.mk' types _) (fun k => FnsOK.cons (Con.sortInt Go.Proofs.Tryd.lays189 (by kernel_rfl) 3) (by kernel_rfl) (FnsOK.nil)) D64 Tryd.func64 (by kernel_rfl) (fun k => by kernel_rfl) (fx := []) (fun k => rfl) (by kernel_rfl) k
/-- loop.example/g00218/impl.SerialOps -/
noncomputable def D29 : Def := { fn := Tryd.f29, code := Tryd.f29.body.getD .skip, ps := [.val (.slice K0), .val (.slice (.int .i64))], res := .tup (.pair (.own 59 K0) (.val .bool)), pl := [9, 12], L := lookL [(9, [.val 0 (.slice K0), .own 7 59 K0, .val 26 (.slice (.int .i64)), .val 27 (.int .i64), .val 28 (.int .i64)]), (12, [.val 0 (.slice K0), .own 7 59 K0, .val 9 (.int .i64), .val 26 (.slice (.int .i64)), .val 27 (.int .i64), .val 28 (.int .i64), .val 32 (.slice K0), .val 33 (.int .i64), .val 34 (.int .i64)])] }
noncomputable def E29 (k : Nat) : Ctx := mkCx base [(49, D49.fnAt E49 k), (62, sortIntFn 3), (63, D63.fnAt E63 k), (64, D64.fnAt E64 k)]
theorem c29 {G : World → Prop} (k : Nat) : Con Tryd.prog G 29 (D29.fnAt E29 k) := Def.con2 mixed (fun k => TypesOK.mk' types _) (fun k => FnsOK.cons (c49 k) (by kernel_rfl) (FnsOK.cons (Con.sortInt Go.Proofs.Tryd.lays189 (by kernel_rfl) 3) (by kernel_rfl) (FnsOK.cons (c63 k) (by kernel_rfl) (FnsOK.cons (c64 k) (by kernel_rfl) (FnsOK.nil))))) D29 Tryd.func29 (by kernel_rfl) (fun k => by kernel_rfl) (fx := []) (fun k => rfl) (by kernel_rfl) k
/-- loop.example/g00218/laws.markIntS -/
noncomputable def D30 : Def := { fn := Tryd.f30, code := Tryd.f30.body.getD .skip, ps := [.own 3 (.int .i64), .val (.int .i64)], res := .back 0 3 (.int .i64) (.val (.int .i64)), pl := [2], L := lookL [(2, [.own 0 3 (.int .i64), .val 1 (.int .i64), .val 5 (.int .i64)])] }
noncomputable def E30 (k : Nat) : Ctx := mkCx (fxCx base [0]) []
theorem c30 {G : World → Prop} (k : Nat) : Con Tryd.prog G 30 (D30.fnAt E30 k) := Def.con2 mixed (fun k => TypesOK.mk' (types.fx [0]) _) (fun k => FnsOK.nil) D30 Tryd.func30 (by kernel_rfl) (fun k => by kernel_rfl) (fx := [0]) (fun k => rfl) (by kernel_rfl) k
/-- loop.example/g00218/laws.heldOpS -/
noncomputable def D31 : Def := { fn := Tryd.f31, code := Tryd.f31.body.getD .skip, ps := [.val (.slice K0), .val (.int .i64)], res := .val (.int .i64), pl := [2], L := lookL [(2, [.val 0 (.slice K0), .val 1 (.int .i64), .val 5 (.int .i64)])] }
noncomputable def E31 (k : Nat) : Ctx := mkCx base [(55, D55.fnAt E55 k)]
theorem c31 {G : World → Prop} (k : Nat) : Con Tryd.prog G 31 (D31.fnAt E31 k) := Def.con2 mixed (fun k => TypesOK.mk' types _) (fun k => FnsOK.cons (c55 k) (by kernel_rfl) (FnsOK.nil)) D31 Tryd.func31 (by kernel_rfl) (fun k => by kernel_rfl) (fx := []) (fun k => rfl) (by kernel_rfl) k
/-- loop.example/g00218/laws.FnExactSerialOps -/
noncomputable def D7 : Def := { fn := Tryd.f7, code := Tryd.f7.body.getD .skip, ps := [.val (.slice K0), .val (.slice (.int .i64))], res := .val .bool, pl := [], L := lookL [] }
noncomputable def E7 (k : Nat) : Ctx := mkCx base [(11, D11.fnAt E11 k), (13, D13.fnAt E13 k), (15, D15.fnAt E15 k), (21, D21.fnAt E21 k), (25, D25.fnAt E25 k), (27, D27.fnAt E27 k), (28, D28.fnAt E28 k), (29, D29.fnAt E29 k), (30, D30.fnAt E30 k), (31, D31.fnAt E31 k)]
theorem c7 {G : World → Prop} (k : Nat) : Con Tryd.prog G 7 (D7.fnAt E7 k) := Def.con2 mixed (fun k => TypesOK.mk' types _) (fun k => FnsOK.cons (c11 k) (by kernel_rfl) (FnsOK.cons (c13 k) (by kernel_rfl) (FnsOK.cons (c15 k) (by kernel_rfl) (FnsOK.cons (c21 k) (by kernel_rfl) (FnsOK.cons (c25 k) (by kernel_rfl) (FnsOK.cons (c27 k) (by kernel_rfl) (FnsOK.cons (c28 k) (by kernel_rfl) (FnsOK.cons (c29 k) (by kernel_rfl) (FnsOK.cons (c30 k) (by kernel_rfl) (FnsOK.cons (c31 k) (by kernel_rfl) (FnsOK.nil))))))))))) D7 Tryd.func7 (by kernel_rfl) (fun k => by kernel_rfl) (fx := []) (fun k => rfl) (by kernel_rfl) k
end Go.Proofs.YtobkiheihjdanaaDoor.Fms
