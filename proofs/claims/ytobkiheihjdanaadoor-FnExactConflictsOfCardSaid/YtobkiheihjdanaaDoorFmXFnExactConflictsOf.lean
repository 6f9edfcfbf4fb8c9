/- FnExactConflictsOf, by the functional machine. -/
import Derived.Test.YtobkiheihjdanaaDoorTrim
import Derived.Test.YtobkiheihjdanaaDoorFmZ
import Derived.Test.YtobkiheihjdanaaDoorFmGv
import Derived.Test.YtobkiheihjdanaaDoorFmXFnExactConflictsOfLays
import Derived.Test.YtobkiheihjdanaaDoorFmSo
import Derived.Test.YtobkiheihjdanaaDoorProg
set_option maxRecDepth 100000
set_option linter.unusedVariables false
open Go Go.Fm
namespace Go.Proofs.YtobkiheihjdanaaDoor.Fms
abbrev K1 : Kind := .struct (.pair (.int .i64) (.int .i64))
abbrev K0 : Kind := .struct (.pair (.int .i64) (.pair (.int .i64) .str))
def table : List TRow := [⟨2, (.int .i64), 0, 0, false, none⟩, ⟨3, (.int .i64), 0, 0, false, none⟩, ⟨4, .bool, 0, 0, false, none⟩, ⟨5, (.int .u8), 0, 0, false, none⟩, ⟨9, .str, 0, 0, false, none⟩, ⟨22, (.slice K0), 4398046511104, 58, false, none⟩, ⟨25, (.slice K0), 4398046511104, 59, false, none⟩, ⟨31, (.slice K1), 8796093022208, 68, false, none⟩, ⟨37, (.slice (.int .i64)), 17592186044416, 3, false, none⟩, ⟨57, K0, 0, 0, true, none⟩, ⟨58, K0, 0, 0, true, none⟩, ⟨59, K0, 0, 0, true, none⟩, ⟨67, K1, 0, 0, true, none⟩, ⟨68, K1, 0, 0, true, none⟩, ⟨93, (.arr 9 .bool), 0, 0, true, none⟩, ⟨94, (.slice (.int .u8)), 140737488355328, 5, false, none⟩]
def base : Ctx := ctxOf table
theorem types : TypesOK Tryd.prog base := typesOK_of (by kernel_rfl)
theorem mixed : Tryd.prog.follows .mixedOrders = true := by kernel_rfl
/-- loop.example/g00218/laws.szOp -/
noncomputable def D45 : Def := { fn := Tryd.f45, code := Tryd.f45.body.getD .skip, ps := [.val K0, .val (.int .i64)], res := .val (.int .i64), pl := [], L := lookL [] }
noncomputable def E45 (k : Nat) : Ctx := mkCx base []
theorem c45 [Strict] {G : World → Prop} (k : Nat) : Con Tryd.prog G 45 (D45.fnAt E45 k) := Def.con2 mixed (fun k => TypesOK.mk' types _) (fun k => FnsOK.nil) D45 Tryd.func45 (by kernel_rfl) (fun k => by kernel_rfl) (fx := []) (fun k => rfl) (by kernel_rfl) k
/-- loop.example/g00218/laws.szOpS -/
noncomputable def D11 : Def := { fn := Tryd.f11, code := Tryd.f11.body.getD .skip, ps := [.val (.slice K0), .val (.int .i64)], res := .val (.int .i64), pl := [5], L := lookL [(5, [.val 0 (.slice K0), .val 1 (.int .i64), .val 5 (.int .i64)])] }
noncomputable def E11 (k : Nat) : Ctx := mkCx base [(45, D45.fnAt E45 k)]
theorem c11 [Strict] {G : World → Prop} (k : Nat) : Con Tryd.prog G 11 (D11.fnAt E11 k) := Def.con2 mixed (fun k => TypesOK.mk' types _) (fun k => FnsOK.cons (c45 k) (by kernel_rfl) (FnsOK.nil)) D11 Tryd.func11 (by kernel_rfl) (fun k => by kernel_rfl) (fx := []) (fun k => rfl) (by kernel_rfl) k
/-- loop.example/g00218/laws.toOp -/
noncomputable def D48 : Def := { fn := Tryd.f48, code := Tryd.f48.body.getD .skip, ps := [.val K0], res := .val K0, pl := [], L := lookL [] }
noncomputable def E48 (k : Nat) : Ctx := mkCx base []
theorem c48 [Strict] {G : World → Prop} (k : Nat) : Con Tryd.prog G 48 (D48.fnAt E48 k) := Def.con2 mixed (fun k => TypesOK.mk' types _) (fun k => FnsOK.nil) D48 Tryd.func48 (by kernel_rfl) (fun k => by kernel_rfl) (fx := []) (fun k => rfl) (by kernel_rfl) k
/-- loop.example/g00218/laws.toOpS -/
noncomputable def D13 : Def := { fn := Tryd.f13, code := Tryd.f13.body.getD .skip, ps := [.val (.slice K0)], res := .own 59 K0, pl := [3], L := lookL [(3, [.val 0 (.slice K0), .own 3 59 K0, .val 4 (.int .i64)])] }
noncomputable def E13 (k : Nat) : Ctx := mkCx base [(48, D48.fnAt E48 k)]
theorem c13 [Strict] {G : World → Prop} (k : Nat) : Con Tryd.prog G 13 (D13.fnAt E13 k) := Def.con2 mixed (fun k => TypesOK.mk' types _) (fun k => FnsOK.cons (c48 k) (by kernel_rfl) (FnsOK.nil)) D13 Tryd.func13 (by kernel_rfl) (fun k => by kernel_rfl) (fx := []) (fun k => rfl) (by kernel_rfl) k
/-- loop.example/g00218/laws.eqOp -/
noncomputable def D50 : Def := { fn := Tryd.f50, code := Tryd.f50.body.getD .skip, ps := [.val K0, .val K0], res := .val .bool, pl := [], L := lookL [] }
noncomputable def E50 (k : Nat) : Ctx := mkCx base []
theorem c50 [Strict] {G : World → Prop} (k : Nat) : Con Tryd.prog G 50 (D50.fnAt E50 k) := Def.con2 mixed (fun k => TypesOK.mk' types _) (fun k => FnsOK.nil) D50 Tryd.func50 (by kernel_rfl) (fun k => by kernel_rfl) (fx := []) (fun k => rfl) (by kernel_rfl) k
/-- loop.example/g00218/laws.eqOpS -/
noncomputable def D15 : Def := { fn := Tryd.f15, code := Tryd.f15.body.getD .skip, ps := [.val (.slice K0), .val (.slice K0)], res := .val .bool, pl := [4], L := lookL [(4, [.val 0 (.slice K0), .val 1 (.slice K0), .val 5 (.int .i64)])] }
noncomputable def E15 (k : Nat) : Ctx := mkCx base [(50, D50.fnAt E50 k)]
theorem c15 [Strict] {G : World → Prop} (k : Nat) : Con Tryd.prog G 15 (D15.fnAt E15 k) := Def.con2 mixed (fun k => TypesOK.mk' types _) (fun k => FnsOK.cons (c50 k) (by kernel_rfl) (FnsOK.nil)) D15 Tryd.func15 (by kernel_rfl) (fun k => by kernel_rfl) (fx := []) (fun k => rfl) (by kernel_rfl) k
/-- loop.example/g00218/laws.eqPair -/
noncomputable def D54 : Def := { fn := Tryd.f54, code := Tryd.f54.body.getD .skip, ps := [.val K1, .val K1], res := .val .bool, pl := [], L := lookL [] }
noncomputable def E54 (k : Nat) : Ctx := mkCx base []
theorem c54 [Strict] {G : World → Prop} (k : Nat) : Con Tryd.prog G 54 (D54.fnAt E54 k) := Def.con2 mixed (fun k => TypesOK.mk' types _) (fun k => FnsOK.nil) D54 Tryd.func54 (by kernel_rfl) (fun k => by kernel_rfl) (fx := []) (fun k => rfl) (by kernel_rfl) k
/-- loop.example/g00218/laws.eqPairS -/
noncomputable def D20 : Def := { fn := Tryd.f20, code := Tryd.f20.body.getD .skip, ps := [.val (.slice K1), .val (.slice K1)], res := .val .bool, pl := [4], L := lookL [(4, [.val 0 (.slice K1), .val 1 (.slice K1), .val 5 (.int .i64)])] }
noncomputable def E20 (k : Nat) : Ctx := mkCx base [(54, D54.fnAt E54 k)]
theorem c20 [Strict] {G : World → Prop} (k : Nat) : Con Tryd.prog G 20 (D20.fnAt E20 k) := Def.con2 mixed (fun k => TypesOK.mk' types _) (fun k => FnsOK.cons (c54 k) (by kernel_rfl) (FnsOK.nil)) D20 Tryd.func20 (by kernel_rfl) (fun k => by kernel_rfl) (fx := []) (fun k => rfl) (by kernel_rfl) k
/-- loop.example/g00218/laws.markText -/
noncomputable def D55 : Def := { fn := Tryd.f55, code := Tryd.f55.body.getD .skip, ps := [.val (.int .i64)], res := .val .str, pl := [4], L := lookL [(4, [.val 0 (.int .i64), .val 3 .str])] }
noncomputable def E55 (k : Nat) : Ctx := mkCx base []
theorem c55 [Strict] {G : World → Prop} (k : Nat) : Con Tryd.prog G 55 (D55.fnAt E55 k) := Def.con2 mixed (fun k => TypesOK.mk' types _) (fun k => FnsOK.nil) D55 Tryd.func55 (by kernel_rfl) (fun k => by kernel_rfl) (fx := []) (fun k => rfl) (by kernel_rfl) k
/-- loop.example/g00218/laws.markOpS -/
noncomputable def D21 : Def := { fn := Tryd.f21, code := Tryd.f21.body.getD .skip, ps := [.own 59 K0, .val (.int .i64)], res := .back 0 59 K0 (.val (.int .i64)), pl := [2], L := lookL [(2, [.own 0 59 K0, .val 1 (.int .i64), .val 5 (.int .i64)])] }
noncomputable def E21 (k : Nat) : Ctx := mkCx (fxCx base [0]) [(55, D55.fnAt E55 k)]
theorem c21 [Strict] {G : World → Prop} (k : Nat) : Con Tryd.prog G 21 (D21.fnAt E21 k) := Def.con2 mixed (fun k => TypesOK.mk' (types.fx [0]) _) (fun k => FnsOK.cons (c55 k) (by kernel_rfl) (FnsOK.nil)) D21 Tryd.func21 (by kernel_rfl) (fun k => by kernel_rfl) (fx := [0]) (fun k => rfl) (by kernel_rfl) k
/-- loop.example/g00218/laws.markPairS -/
noncomputable def D22 : Def := { fn := Tryd.f22, code := Tryd.f22.body.getD .skip, ps := [.own 68 K1, .val (.int .i64)], res := .back 0 68 K1 (.val (.int .i64)), pl := [2], L := lookL [(2, [.own 0 68 K1, .val 1 (.int .i64), .val 5 (.int .i64)])] }
noncomputable def E22 (k : Nat) : Ctx := mkCx (fxCx base [0]) []
theorem c22 [Strict] {G : World → Prop} (k : Nat) : Con Tryd.prog G 22 (D22.fnAt E22 k) := Def.con2 mixed (fun k => TypesOK.mk' (types.fx [0]) _) (fun k => FnsOK.nil) D22 Tryd.func22 (by kernel_rfl) (fun k => by kernel_rfl) (fx := [0]) (fun k => rfl) (by kernel_rfl) k
/-- loop.example/g00218/laws.heldPairS -/
noncomputable def D23 : Def := { fn := Tryd.f23, code := Tryd.f23.body.getD .skip, ps := [.val (.slice K1), .val (.int .i64)], res := .val (.int .i64), pl := [2], L := lookL [(2, [.val 0 (.slice K1), .val 1 (.int .i64), .val 5 (.int .i64)])] }
noncomputable def E23 (k : Nat) : Ctx := mkCx base []
theorem c23 [Strict] {G : World → Prop} (k : Nat) : Con Tryd.prog G 23 (D23.fnAt E23 k) := Def.con2 mixed (fun k => TypesOK.mk' types _) (fun k => FnsOK.nil) D23 Tryd.func23 (by kernel_rfl) (fun k => by kernel_rfl) (fx := []) (fun k => rfl) (by kernel_rfl) k
/-- loop.example/g00218/spec.l1In -/
noncomputable def D46 : Def := { fn := Tryd.f46, code := Tryd.f46.body.getD .skip, ps := [.val (.int .i64), .val (.int .i64), .val (.int .i64)], res := .val .bool, pl := [], L := lookL [] }
noncomputable def E46 (k : Nat) : Ctx := mkCx base []
theorem c46 [Strict] {G : World → Prop} (k : Nat) : Con Tryd.prog G 46 (D46.fnAt E46 k) := Def.con2 mixed (fun k => TypesOK.mk' types _) (fun k => FnsOK.nil) D46 Tryd.func46 (by kernel_rfl) (fun k => by kernel_rfl) (fx := []) (fun k => rfl) (by kernel_rfl) k
/-- loop.example/g00218/spec.l1Key -/
noncomputable def D47 : Def := { fn := Tryd.f47, code := Tryd.f47.body.getD .skip, ps := [.val .str], res := .val .bool, pl := [2], L := lookL [(2, [.val 0 .str, .val 3 (.int .i64)])] }
noncomputable def E47 (k : Nat) : Ctx := mkCx base [(46, D46.fnAt E46 k)]
theorem c47 [Strict] {G : World → Prop} (k : Nat) : Con Tryd.prog G 47 (D47.fnAt E47 k) := Def.con2 mixed (fun k => TypesOK.mk' types _) (fun k => FnsOK.cons (c46 k) (by kernel_rfl) (FnsOK.nil)) D47 Tryd.func47 (by kernel_rfl) (fun k => by kernel_rfl) (fx := []) (fun k => rfl) (by kernel_rfl) k
/-- loop.example/g00218/spec.GoodOps -/
noncomputable def D12 : Def := { fn := Tryd.f12, code := Tryd.f12.body.getD .skip, ps := [.val (.slice K0)], res := .val .bool, pl := [4, 11], L := lookL [(4, [.val 0 (.slice K0), .val 12 (.slice K0), .val 13 (.int .i64), .val 14 (.int .i64)]), (11, [.val 0 (.slice K0), .var 4 K0, .val 5 .bool, .val 6 .bool, .val 12 (.slice K0), .val 13 (.int .i64), .val 14 (.int .i64), .val 52 (.slice K0), .val 53 (.int .i64), .val 54 (.int .i64)])] }
noncomputable def E12 (k : Nat) : Ctx := mkCx base [(46, D46.fnAt E46 k), (47, D47.fnAt E47 k)]
theorem c12 [Strict] {G : World → Prop} (k : Nat) : Con Tryd.prog G 12 (D12.fnAt E12 k) := Def.con2 mixed (fun k => TypesOK.mk' types _) (fun k => FnsOK.cons (c46 k) (by kernel_rfl) (FnsOK.cons (c47 k) (by kernel_rfl) (FnsOK.nil))) D12 Tryd.func12 (by kernel_rfl) (fun k => by kernel_rfl) (fx := []) (fun k => rfl) (by kernel_rfl) k
/-- loop.example/g00218/spec.l3Txns -/
noncomputable def D60 : Def := { fn := Tryd.f60, code := Tryd.f60.body.getD .skip, ps := [.val (.slice K0)], res := .own 3 (.int .i64), pl := [3, 6], L := lookL [(3, [.val 0 (.slice K0), .own 3 3 (.int .i64), .val 4 (.int .i64)]), (6, [.val 0 (.slice K0), .own 3 3 (.int .i64), .val 4 (.int .i64), .val 11 (.slice K0), .val 12 (.int .i64), .val 13 (.int .i64)])] }
noncomputable def E60 (k : Nat) : Ctx := mkCx base []
theorem c60 [Strict] {G : World → Prop} (k : Nat) : Con Tryd.prog G 60 (D60.fnAt E60 k) := Def.con2 mixed (fun k => TypesOK.mk' types _) (fun k => FnsOK.nil) D60 Tryd.func60 (by kernel_rfl) (fun k => by kernel_rfl) (fx := []) (fun k => rfl) (by kernel_rfl) k
/-- loop.example/g00218/spec.l3Clash -/
noncomputable def D84 : Def := { fn := Tryd.f84, code := Tryd.f84.body.getD .skip, ps := [.val K0, .val K0], res := .val .bool, pl := [], L := lookL [] }
noncomputable def E84 (k : Nat) : Ctx := mkCx base []
theorem c84 [Strict] {G : World → Prop} (k : Nat) : Con Tryd.prog G 84 (D84.fnAt E84 k) := Def.con2 mixed (fun k => TypesOK.mk' types _) (fun k => FnsOK.nil) D84 Tryd.func84 (by kernel_rfl) (fun k => by kernel_rfl) (fx := []) (fun k => rfl) (by kernel_rfl) k
/-- loop.example/g00218/spec.l3Conflicts -/
noncomputable def D65 : Def := { fn := Tryd.f65, code := Tryd.f65.body.getD .skip, ps := [.val (.slice K0)], res := .own 68 K1, pl := [3, 6, 10, 13], L := lookL [(3, [.val 0 (.slice K0), .own 3 68 K1, .val 14 (.slice (.int .i64)), .val 15 (.int .i64), .val 16 (.int .i64)]), (6, [.val 0 (.slice K0), .own 3 68 K1, .val 5 (.int .i64), .val 14 (.slice (.int .i64)), .val 15 (.int .i64), .val 16 (.int .i64), .val 21 (.slice (.int .i64)), .val 22 (.int .i64), .val 23 (.int .i64)]), (10, [.val 0 (.slice K0), .own 3 68 K1, .val 5 (.int .i64), .val 7 (.int .i64), .val 8 .bool, .val 14 (.slice (.int .i64)), .val 15 (.int .i64), .val 16 (.int .i64), .val 21 (.slice (.int .i64)), .val 22 (.int .i64), .val 23 (.int .i64), .val 27 (.slice K0), .val 28 (.int .i64), .val 29 (.int .i64)]), (13, [.val 0 (.slice K0), .own 3 68 K1, .val 5 (.int .i64), .val 7 (.int .i64), .val 8 .bool, .var 10 K0, .val 14 (.slice (.int .i64)), .val 15 (.int .i64), .val 16 (.int .i64), .val 21 (.slice (.int .i64)), .val 22 (.int .i64), .val 23 (.int .i64), .val 27 (.slice K0), .val 28 (.int .i64), .val 29 (.int .i64), .val 37 (.slice K0), .val 38 (.int .i64), .val 39 (.int .i64)])] }
noncomputable def E65 (k : Nat) : Ctx := mkCx base [(60, D60.fnAt E60 k), (84, D84.fnAt E84 k)]
theorem c65 [Strict] {G : World → Prop} (k : Nat) : Con Tryd.prog G 65 (D65.fnAt E65 k) := Def.con2 mixed (fun k => TypesOK.mk' types _) (fun k => FnsOK.cons (c60 k) (by kernel_rfl) (FnsOK.cons (c84 k) (by kernel_rfl) (FnsOK.nil))) D65 Tryd.func65 (by kernel_rfl) (fun k => by kernel_rfl) (fx := []) (fun k => rfl) (by kernel_rfl) k
/-- loop.example/g00218/spec.ConflictsOf -/
noncomputable def D32 : Def := { fn := Tryd.f32, code := Tryd.f32.body.getD .skip, ps := [.val (.slice K0)], res := .tup (.pair (.own 68 K1) (.val .bool)), pl := [], L := lookL [] }
noncomputable def E32 (k : Nat) : Ctx := mkCx base [(12, D12.fnAt E12 k), (65, D65.fnAt E65 k)]
theorem c32 [Strict] {G : World → Prop} (k : Nat) : Con Tryd.prog G 32 (D32.fnAt E32 k) := Def.con2 mixed (fun k => TypesOK.mk' types _) (fun k => FnsOK.cons (c12 k) (by kernel_rfl) (FnsOK.cons (c65 k) (by kernel_rfl) (FnsOK.nil))) D32 Tryd.func32 (by kernel_rfl) (fun k => by kernel_rfl) (fx := []) (fun k => rfl) (by kernel_rfl) k
/-- loop.example/g00218/impl.in -/
noncomputable def D57 : Def := { fn := Tryd.f57, code := Tryd.f57.body.getD .skip, ps := [.val (.int .i64), .val (.int .i64), .val (.int .i64)], res := .val .bool, pl := [], L := lookL [] }
noncomputable def E57 (k : Nat) : Ctx := mkCx base []
theorem c57 [Strict] {G : World → Prop} (k : Nat) : Con Tryd.prog G 57 (D57.fnAt E57 k) := Def.con2 mixed (fun k => TypesOK.mk' types _) (fun k => FnsOK.nil) D57 Tryd.func57 (by kernel_rfl) (fun k => by kernel_rfl) (fx := []) (fun k => rfl) (by kernel_rfl) k
/-- loop.example/g00218/impl.isKey -/
noncomputable def D79 : Def := { fn := Tryd.f79, code := Tryd.f79.body.getD .skip, ps := [.val .str], res := .val .bool, pl := [], L := lookL [] }
noncomputable def E79 (k : Nat) : Ctx := mkCx base [(90, ⟨[.val .str, .val .str], .val .str, fun v => MapW.strings_Trim.f v.1 v.2.1⟩)]
theorem c79 {G : World → Prop} (k : Nat) : Con Tryd.prog G 79 (D79.fnAt E79 k) := Def.con2 mixed (fun k => TypesOK.mk' types _) (fun k => FnsOK.cons (Con.text2 (fun h => h) MapW.strings_Trim.f MapW.strings_Trim.calls) (by kernel_rfl) (FnsOK.nil)) D79 Tryd.func79 (by kernel_rfl) (fun k => by kernel_rfl) (fx := []) (fun k => rfl) (by kernel_rfl) k
/-- loop.example/g00218/impl.areOps -/
noncomputable def D49 : Def := { fn := Tryd.f49, code := Tryd.f49.body.getD .skip, ps := [.val (.slice K0)], res := .val .bool, pl := [4], L := lookL [(4, [.val 0 (.slice K0), .var 3 (.arr 9 .bool), .var 4 (.arr 9 .bool), .val 9 (.slice K0), .val 10 (.int .i64), .val 11 (.int .i64)])] }
noncomputable def E49 (k : Nat) : Ctx := mkCx base [(57, D57.fnAt E57 k), (79, D79.fnAt E79 k)]
theorem c49 {G : World → Prop} (k : Nat) : Con Tryd.prog G 49 (D49.fnAt E49 k) := Def.con2 mixed (fun k => TypesOK.mk' types _) (fun k => FnsOK.cons (c57 k) (by kernel_rfl) (FnsOK.cons (c79 k) (by kernel_rfl) (FnsOK.nil))) D49 Tryd.func49 (by kernel_rfl) (fun k => by kernel_rfl) (fx := []) (fun k => rfl) (by kernel_rfl) k
/-- cmp.Or[int] -/
noncomputable def D104 : Def := { fn := Tryd.f104, code := Tryd.f104.body.getD .skip, ps := [.val (.slice (.int .i64))], res := .val (.int .i64), pl := [3], L := lookL [(3, [.val 3 (.int .i64), .val 6 (.slice (.int .i64)), .val 7 (.int .i64), .val 8 (.int .i64)])] }
noncomputable def E104 (k : Nat) : Ctx := mkCx base []
theorem c104 [Strict] {G : World → Prop} (k : Nat) : Con Tryd.prog G 104 (D104.fnAt E104 k) := Def.con2 mixed (fun k => TypesOK.mk' types _) (fun k => FnsOK.nil) D104 Tryd.func104 (by kernel_rfl) (fun k => by kernel_rfl) (fx := []) (fun k => rfl) (by kernel_rfl) k
/-- cmp.isNaN[int] -/
noncomputable def D122 : Def := { fn := Tryd.f122, code := Tryd.f122.body.getD .skip, ps := [.val (.int .i64)], res := .val .bool, pl := [], L := lookL [] }
noncomputable def E122 (k : Nat) : Ctx := mkCx base []
theorem c122 [Strict] {G : World → Prop} (k : Nat) : Con Tryd.prog G 122 (D122.fnAt E122 k) := Def.con2 mixed (fun k => TypesOK.mk' types _) (fun k => FnsOK.nil) D122 Tryd.func122 (by kernel_rfl) (fun k => by kernel_rfl) (fx := []) (fun k => rfl) (by kernel_rfl) k
/-- cmp.Compare[int] -/
noncomputable def D105 : Def := { fn := Tryd.f105, code := Tryd.f105.body.getD .skip, ps := [.val (.int .i64), .val (.int .i64)], res := .val (.int .i64), pl := [], L := lookL [] }
noncomputable def E105 (k : Nat) : Ctx := mkCx base [(122, D122.fnAt E122 k)]
theorem c105 [Strict] {G : World → Prop} (k : Nat) : Con Tryd.prog G 105 (D105.fnAt E105 k) := Def.con2 mixed (fun k => TypesOK.mk' types _) (fun k => FnsOK.cons (c122 k) (by kernel_rfl) (FnsOK.nil)) D105 Tryd.func105 (by kernel_rfl) (fun k => by kernel_rfl) (fx := []) (fun k => rfl) (by kernel_rfl) k
/-- loop.example/g00218/impl.sortPairs$1 -/
noncomputable def D103 : Def := { fn := Tryd.f103, code := Tryd.f103.body.getD .skip, ps := [.val K1, .val K1], res := .val (.int .i64), pl := [], L := lookL [] }
noncomputable def E103 (k : Nat) : Ctx := mkCx base [(104, D104.fnAt E104 k), (105, D105.fnAt E105 k)]
theorem c103 [Strict] {G : World → Prop} (k : Nat) : Con Tryd.prog G 103 (D103.fnAt E103 k) := Def.con2 mixed (fun k => TypesOK.mk' types _) (fun k => FnsOK.cons (c104 k) (by kernel_rfl) (FnsOK.cons (c105 k) (by kernel_rfl) (FnsOK.nil))) D103 Tryd.func103 (by kernel_rfl) (fun k => by kernel_rfl) (fx := []) (fun k => rfl) (by kernel_rfl) k
/-- slices.Compact[[]loop.example/g00218/impl.Pair,loop.example/g00218/impl.Pair] -/
noncomputable def D106 : Def := { fn := Tryd.f106, code := Tryd.f106.body.getD .skip, ps := [.own 68 K1], res := .own 68 K1, pl := [4, 9], L := lookL [(4, [.own 0 68 K1, .val 3 (.int .i64)]), (9, [.own 0 68 K1, .val 3 (.int .i64), .sub 4 0, .val 5 (.int .i64)])] }
noncomputable def E106 (k : Nat) : Ctx := mkCx base []
theorem c106 [Strict] {G : World → Prop} (k : Nat) : Con Tryd.prog G 106 (D106.fnAt E106 k) := Def.con2 mixed (fun k => TypesOK.mk' types _) (fun k => FnsOK.nil) D106 Tryd.func106 (by kernel_rfl) (fun k => by kernel_rfl) (fx := []) (fun k => rfl) (by kernel_rfl) k
/-- loop.example/g00218/impl.sortPairs -/
noncomputable def D85 : Def := { fn := Tryd.f85, code := Tryd.f85.body.getD .skip, ps := [.own 68 K1], res := .own 68 K1, pl := [], L := lookL [] }
noncomputable def E85 (k : Nat) : Ctx := mkCx base [(102, sortFn 68 K1 103 (fun v => D103.F E103 k v) cfPair), (106, D106.fnAt E106 k)]
theorem c85 [Strict] {G : World → Prop} (k : Nat) : Con Tryd.prog G 85 (D85.fnAt E85 k) := Def.con2 mixed (fun k => TypesOK.mk' types _) (fun k => FnsOK.cons (Con.sortPair types Go.Proofs.Tryd.laysSort (by kernel_rfl) (by kernel_rfl) 68 (by kernel_rfl) (@c103 told (fun _ => True) k)) (by kernel_rfl) (FnsOK.cons (c106 k) (by kernel_rfl) (FnsOK.nil))) D85 Tryd.func85 (by kernel_rfl) (fun k => by kernel_rfl) (fx := []) (fun k => rfl) (by kernel_rfl) k
/-- loop.example/g00218/impl.conflicts -/
noncomputable def D66 : Def := { fn := Tryd.f66, code := Tryd.f66.body.getD .skip, ps := [.val (.slice K0)], res := .own 68 K1, pl := [3, 6], L := lookL [(3, [.val 0 (.slice K0), .own 3 68 K1, .val 9 (.slice K0), .val 10 (.int .i64), .val 11 (.int .i64)]), (6, [.val 0 (.slice K0), .own 3 68 K1, .var 5 K0, .val 9 (.slice K0), .val 10 (.int .i64), .val 11 (.int .i64), .val 18 (.slice K0), .val 19 (.int .i64), .val 20 (.int .i64)])] }
noncomputable def E66 (k : Nat) : Ctx := mkCx base [(85, D85.fnAt E85 k)]
theorem c66 [Strict] {G : World → Prop} (k : Nat) : Con Tryd.prog G 66 (D66.fnAt E66 k) := Def.con2 mixed (fun k => TypesOK.mk' types _) (fun k => FnsOK.cons (c85 k) (by kernel_rfl) (FnsOK.nil)) D66 Tryd.func66 (by kernel_rfl) (fun k => by kernel_rfl) (fx := []) (fun k => rfl) (by kernel_rfl) k
/-- loop.example/g00218/impl.ConflictsOf -/
noncomputable def D33 : Def := { fn := Tryd.f33, code := Tryd.f33.body.getD .skip, ps := [.val (.slice K0)], res := .tup (.pair (.own 68 K1) (.val .bool)), pl := [], L := lookL [] }
noncomputable def E33 (k : Nat) : Ctx := mkCx base [(49, D49.fnAt E49 k), (66, D66.fnAt E66 k)]
theorem c33 {G : World → Prop} (k : Nat) : Con Tryd.prog G 33 (D33.fnAt E33 k) := Def.con2 mixed (fun k => TypesOK.mk' types _) (fun k => FnsOK.cons (c49 k) (by kernel_rfl) (FnsOK.cons (c66 k) (by kernel_rfl) (FnsOK.nil))) D33 Tryd.func33 (by kernel_rfl) (fun k => by kernel_rfl) (fx := []) (fun k => rfl) (by kernel_rfl) k
/-- loop.example/g00218/laws.FnExactConflictsOf -/
noncomputable def D8 : Def := { fn := Tryd.f8, code := Tryd.f8.body.getD .skip, ps := [.val (.slice K0)], res := .val .bool, pl := [], L := lookL [] }
noncomputable def E8 (k : Nat) : Ctx := mkCx base [(11, D11.fnAt E11 k), (13, D13.fnAt E13 k), (15, D15.fnAt E15 k), (20, D20.fnAt E20 k), (21, D21.fnAt E21 k), (22, D22.fnAt E22 k), (23, D23.fnAt E23 k), (32, D32.fnAt E32 k), (33, D33.fnAt E33 k)]
theorem c8 {G : World → Prop} (k : Nat) : Con Tryd.prog G 8 (D8.fnAt E8 k) := Def.con2 mixed (fun k => TypesOK.mk' types _) (fun k => FnsOK.cons (c11 k) (by kernel_rfl) (FnsOK.cons (c13 k) (by kernel_rfl) (FnsOK.cons (c15 k) (by kernel_rfl) (FnsOK.cons (c20 k) (by kernel_rfl) (FnsOK.cons (c21 k) (by kernel_rfl) (FnsOK.cons (c22 k) (by kernel_rfl) (FnsOK.cons (c23 k) (by kernel_rfl) (FnsOK.cons (c32 k) (by kernel_rfl) (FnsOK.cons (c33 k) (by kernel_rfl) (FnsOK.nil)))))))))) D8 Tryd.func8 (by kernel_rfl) (fun k => by kernel_rfl) (fx := []) (fun k => rfl) (by kernel_rfl) k
end Go.Proofs.YtobkiheihjdanaaDoor.Fms
