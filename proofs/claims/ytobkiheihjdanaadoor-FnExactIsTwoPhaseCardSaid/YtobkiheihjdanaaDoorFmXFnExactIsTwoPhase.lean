/- FnExactIsTwoPhase, by the functional machine. -/
import Derived.Test.YtobkiheihjdanaaDoorTrim
import Derived.Test.YtobkiheihjdanaaDoorFmZ
import Derived.Test.YtobkiheihjdanaaDoorProg
set_option maxRecDepth 100000
set_option linter.unusedVariables false
open Go Go.Fm
namespace Go.Proofs.YtobkiheihjdanaaDoor.Fms
abbrev K0 : Kind := .struct (.pair (.int .i64) (.pair (.int .i64) .str))
abbrev K1 : Kind := .struct (.pair (.int .i64) (.pair .str (.pair (.int .i64) (.pair (.int .i64) .bool))))
def table : List TRow := [⟨2, (.int .i64), 0, 0, false⟩, ⟨3, (.int .i64), 0, 0, false⟩, ⟨4, .bool, 0, 0, false⟩, ⟨5, (.int .u8), 0, 0, false⟩, ⟨9, .str, 0, 0, false⟩, ⟨22, (.slice K0), 4398046511104, 58, false⟩, ⟨25, (.slice K0), 4398046511104, 59, false⟩, ⟨37, (.slice (.int .i64)), 17592186044416, 3, false⟩, ⟨57, K0, 0, 0, true⟩, ⟨58, K0, 0, 0, true⟩, ⟨59, K0, 0, 0, true⟩, ⟨74, (.slice K1), 2932031007402, 96, false⟩, ⟨93, (.arr 9 .bool), 0, 0, true⟩, ⟨95, K1, 0, 0, true⟩, ⟨96, K1, 0, 0, true⟩]
def base : Ctx := ctxOf table
theorem types : TypesOK Tryd.prog base := typesOK_of (by kernel_rfl)
theorem mixed : Tryd.prog.follows .mixedOrders = true := by kernel_rfl
/-- loop.example/g00218/laws.szOp -/
noncomputable def D45 : Def := { fn := Tryd.f45, code := Tryd.f45.body.getD .skip, ps := [.val K0, .val (.int .i64)], res := .val (.int .i64), pl := [], L := lookL [] }
noncomputable def E45 (k : Nat) : Ctx := mkCx base []
theorem c45 {G : World → Prop} (k : Nat) : Con Tryd.prog G 45 (D45.fnAt E45 k) := Def.con2 mixed (fun k => TypesOK.mk' types _) (fun k => FnsOK.nil) D45 Tryd.func45 (by kernel_rfl) (fun k => by kernel_rfl) (by kernel_rfl) k
/-- loop.example/g00218/laws.szOpS -/
noncomputable def D11 : Def := { fn := Tryd.f11, code := Tryd.f11.body.getD .skip, ps := [.val (.slice K0), .val (.int .i64)], res := .val (.int .i64), pl := [5], L := lookL [(5, [.val 0 (.slice K0), .val 1 (.int .i64), .val 5 (.int .i64)])] }
noncomputable def E11 (k : Nat) : Ctx := mkCx base [(45, D45.fnAt E45 k)]
theorem c11 {G : World → Prop} (k : Nat) : Con Tryd.prog G 11 (D11.fnAt E11 k) := Def.con2 mixed (fun k => TypesOK.mk' types _) (fun k => FnsOK.cons (c45 k) (by kernel_rfl) (FnsOK.nil)) D11 Tryd.func11 (by kernel_rfl) (fun k => by kernel_rfl) (by kernel_rfl) k
/-- loop.example/g00218/laws.toOp -/
noncomputable def D48 : Def := { fn := Tryd.f48, code := Tryd.f48.body.getD .skip, ps := [.val K0], res := .val K0, pl := [], L := lookL [] }
noncomputable def E48 (k : Nat) : Ctx := mkCx base []
theorem c48 {G : World → Prop} (k : Nat) : Con Tryd.prog G 48 (D48.fnAt E48 k) := Def.con2 mixed (fun k => TypesOK.mk' types _) (fun k => FnsOK.nil) D48 Tryd.func48 (by kernel_rfl) (fun k => by kernel_rfl) (by kernel_rfl) k
/-- loop.example/g00218/laws.toOpS -/
noncomputable def D13 : Def := { fn := Tryd.f13, code := Tryd.f13.body.getD .skip, ps := [.val (.slice K0)], res := .own 59 K0, pl := [3], L := lookL [(3, [.val 0 (.slice K0), .own 3 59 K0, .val 4 (.int .i64)])] }
noncomputable def E13 (k : Nat) : Ctx := mkCx base [(48, D48.fnAt E48 k)]
theorem c13 {G : World → Prop} (k : Nat) : Con Tryd.prog G 13 (D13.fnAt E13 k) := Def.con2 mixed (fun k => TypesOK.mk' types _) (fun k => FnsOK.cons (c48 k) (by kernel_rfl) (FnsOK.nil)) D13 Tryd.func13 (by kernel_rfl) (fun k => by kernel_rfl) (by kernel_rfl) k
/-- loop.example/g00218/laws.eqOp -/
noncomputable def D50 : Def := { fn := Tryd.f50, code := Tryd.f50.body.getD .skip, ps := [.val K0, .val K0], res := .val .bool, pl := [], L := lookL [] }
noncomputable def E50 (k : Nat) : Ctx := mkCx base []
theorem c50 {G : World → Prop} (k : Nat) : Con Tryd.prog G 50 (D50.fnAt E50 k) := Def.con2 mixed (fun k => TypesOK.mk' types _) (fun k => FnsOK.nil) D50 Tryd.func50 (by kernel_rfl) (fun k => by kernel_rfl) (by kernel_rfl) k
/-- loop.example/g00218/laws.eqOpS -/
noncomputable def D15 : Def := { fn := Tryd.f15, code := Tryd.f15.body.getD .skip, ps := [.val (.slice K0), .val (.slice K0)], res := .val .bool, pl := [4], L := lookL [(4, [.val 0 (.slice K0), .val 1 (.slice K0), .val 5 (.int .i64)])] }
noncomputable def E15 (k : Nat) : Ctx := mkCx base [(50, D50.fnAt E50 k)]
theorem c15 {G : World → Prop} (k : Nat) : Con Tryd.prog G 15 (D15.fnAt E15 k) := Def.con2 mixed (fun k => TypesOK.mk' types _) (fun k => FnsOK.cons (c50 k) (by kernel_rfl) (FnsOK.nil)) D15 Tryd.func15 (by kernel_rfl) (fun k => by kernel_rfl) (by kernel_rfl) k
/-- loop.example/g00218/spec.l1In -/
noncomputable def D46 : Def := { fn := Tryd.f46, code := Tryd.f46.body.getD .skip, ps := [.val (.int .i64), .val (.int .i64), .val (.int .i64)], res := .val .bool, pl := [], L := lookL [] }
noncomputable def E46 (k : Nat) : Ctx := mkCx base []
theorem c46 {G : World → Prop} (k : Nat) : Con Tryd.prog G 46 (D46.fnAt E46 k) := Def.con2 mixed (fun k => TypesOK.mk' types _) (fun k => FnsOK.nil) D46 Tryd.func46 (by kernel_rfl) (fun k => by kernel_rfl) (by kernel_rfl) k
/-- loop.example/g00218/spec.l1Key -/
noncomputable def D47 : Def := { fn := Tryd.f47, code := Tryd.f47.body.getD .skip, ps := [.val .str], res := .val .bool, pl := [2], L := lookL [(2, [.val 0 .str, .val 3 (.int .i64)])] }
noncomputable def E47 (k : Nat) : Ctx := mkCx base [(46, D46.fnAt E46 k)]
theorem c47 {G : World → Prop} (k : Nat) : Con Tryd.prog G 47 (D47.fnAt E47 k) := Def.con2 mixed (fun k => TypesOK.mk' types _) (fun k => FnsOK.cons (c46 k) (by kernel_rfl) (FnsOK.nil)) D47 Tryd.func47 (by kernel_rfl) (fun k => by kernel_rfl) (by kernel_rfl) k
/-- loop.example/g00218/spec.GoodOps -/
noncomputable def D12 : Def := { fn := Tryd.f12, code := Tryd.f12.body.getD .skip, ps := [.val (.slice K0)], res := .val .bool, pl := [4, 11], L := lookL [(4, [.val 0 (.slice K0), .val 12 (.slice K0), .val 13 (.int .i64), .val 14 (.int .i64)]), (11, [.val 0 (.slice K0), .var 4 K0, .val 5 .bool, .val 6 .bool, .val 12 (.slice K0), .val 13 (.int .i64), .val 14 (.int .i64), .val 52 (.slice K0), .val 53 (.int .i64), .val 54 (.int .i64)])] }
noncomputable def E12 (k : Nat) : Ctx := mkCx base [(46, D46.fnAt E46 k), (47, D47.fnAt E47 k)]
theorem c12 {G : World → Prop} (k : Nat) : Con Tryd.prog G 12 (D12.fnAt E12 k) := Def.con2 mixed (fun k => TypesOK.mk' types _) (fun k => FnsOK.cons (c46 k) (by kernel_rfl) (FnsOK.cons (c47 k) (by kernel_rfl) (FnsOK.nil))) D12 Tryd.func12 (by kernel_rfl) (fun k => by kernel_rfl) (by kernel_rfl) k
/-- loop.example/g00218/spec.l3Hold -/
noncomputable def D56 : Def := { fn := Tryd.f56, code := Tryd.f56.body.getD .skip, ps := [.val (.slice K0), .val (.slice (.int .i64)), .val (.int .i64), .val .str], res := .tup (.pair (.val (.int .i64)) (.pair (.val (.int .i64)) (.pair (.val .bool) (.val .bool)))), pl := [5, 10, 12], L := lookL [(5, [.val 1 (.slice (.int .i64)), .val 2 (.int .i64), .val 3 .str, .val 12 (.int .i64), .val 13 (.int .i64), .val 14 .bool, .val 17 (.slice K0), .val 18 (.int .i64), .val 19 (.int .i64)]), (10, [.val 1 (.slice (.int .i64)), .val 2 (.int .i64), .val 3 .str, .val 12 (.int .i64), .val 13 (.int .i64), .val 14 .bool, .val 15 (.int .i64), .var 16 K0, .val 17 (.slice K0), .val 18 (.int .i64), .val 19 (.int .i64)]), (12, [.val 1 (.slice (.int .i64)), .val 2 (.int .i64), .val 3 .str, .val 12 (.int .i64), .val 13 (.int .i64), .val 14 .bool, .var 16 K0, .val 17 (.slice K0), .val 18 (.int .i64), .val 19 (.int .i64)])] }
noncomputable def E56 (k : Nat) : Ctx := mkCx base []
theorem c56 {G : World → Prop} (k : Nat) : Con Tryd.prog G 56 (D56.fnAt E56 k) := Def.con2 mixed (fun k => TypesOK.mk' types _) (fun k => FnsOK.nil) D56 Tryd.func56 (by kernel_rfl) (fun k => by kernel_rfl) (by kernel_rfl) k
/-- loop.example/g00218/spec.IsTwoPhase -/
noncomputable def D24 : Def := { fn := Tryd.f24, code := Tryd.f24.body.getD .skip, ps := [.val (.slice K0), .val (.slice (.int .i64))], res := .tup (.pair (.val .bool) (.val .bool)), pl := [4, 10, 15], L := lookL [(4, [.val 0 (.slice K0), .val 1 (.slice (.int .i64)), .val 30 (.slice K0), .val 31 (.int .i64), .val 32 (.int .i64)]), (10, [.val 0 (.slice K0), .val 1 (.slice (.int .i64)), .val 65 (.slice K0), .val 66 (.int .i64), .val 67 (.int .i64)]), (15, [.val 0 (.slice K0), .val 1 (.slice (.int .i64)), .val 8 (.int .i64), .var 9 K0, .val 10 (.int .i64), .val 11 (.int .i64), .val 12 .bool, .val 65 (.slice K0), .val 66 (.int .i64), .val 67 (.int .i64), .val 87 (.slice K0), .val 88 (.int .i64), .val 89 (.int .i64)])] }
noncomputable def E24 (k : Nat) : Ctx := mkCx base [(12, D12.fnAt E12 k), (46, D46.fnAt E46 k), (56, D56.fnAt E56 k)]
theorem c24 {G : World → Prop} (k : Nat) : Con Tryd.prog G 24 (D24.fnAt E24 k) := Def.con2 mixed (fun k => TypesOK.mk' types _) (fun k => FnsOK.cons (c12 k) (by kernel_rfl) (FnsOK.cons (c46 k) (by kernel_rfl) (FnsOK.cons (c56 k) (by kernel_rfl) (FnsOK.nil)))) D24 Tryd.func24 (by kernel_rfl) (fun k => by kernel_rfl) (by kernel_rfl) k
/-- loop.example/g00218/laws.toIntS -/
noncomputable def D25 : Def := { fn := Tryd.f25, code := Tryd.f25.body.getD .skip, ps := [.val (.slice (.int .i64))], res := .own 3 (.int .i64), pl := [3], L := lookL [(3, [.val 0 (.slice (.int .i64)), .own 3 3 (.int .i64), .val 4 (.int .i64)])] }
noncomputable def E25 (k : Nat) : Ctx := mkCx base []
theorem c25 {G : World → Prop} (k : Nat) : Con Tryd.prog G 25 (D25.fnAt E25 k) := Def.con2 mixed (fun k => TypesOK.mk' types _) (fun k => FnsOK.nil) D25 Tryd.func25 (by kernel_rfl) (fun k => by kernel_rfl) (by kernel_rfl) k
/-- loop.example/g00218/impl.in -/
noncomputable def D57 : Def := { fn := Tryd.f57, code := Tryd.f57.body.getD .skip, ps := [.val (.int .i64), .val (.int .i64), .val (.int .i64)], res := .val .bool, pl := [], L := lookL [] }
noncomputable def E57 (k : Nat) : Ctx := mkCx base []
theorem c57 {G : World → Prop} (k : Nat) : Con Tryd.prog G 57 (D57.fnAt E57 k) := Def.con2 mixed (fun k => TypesOK.mk' types _) (fun k => FnsOK.nil) D57 Tryd.func57 (by kernel_rfl) (fun k => by kernel_rfl) (by kernel_rfl) k
/-- loop.example/g00218/impl.isKey -/
noncomputable def D79 : Def := { fn := Tryd.f79, code := Tryd.f79.body.getD .skip, ps := [.val .str], res := .val .bool, pl := [], L := lookL [] }
noncomputable def E79 (k : Nat) : Ctx := mkCx base [(90, ⟨[.val .str, .val .str], .val .str, fun v => MapW.strings_Trim.f v.1 v.2.1⟩)]
theorem c79 {G : World → Prop} (k : Nat) : Con Tryd.prog G 79 (D79.fnAt E79 k) := Def.con2 mixed (fun k => TypesOK.mk' types _) (fun k => FnsOK.cons (Con.text2 MapW.strings_Trim.f MapW.strings_Trim.calls) (by kernel_rfl) (FnsOK.nil)) D79 Tryd.func79 (by kernel_rfl) (fun k => by kernel_rfl) (by kernel_rfl) k
/-- loop.example/g00218/impl.areOps -/
noncomputable def D49 : Def := { fn := Tryd.f49, code := Tryd.f49.body.getD .skip, ps := [.val (.slice K0)], res := .val .bool, pl := [4], L := lookL [(4, [.val 0 (.slice K0), .var 3 (.arr 9 .bool), .var 4 (.arr 9 .bool), .val 9 (.slice K0), .val 10 (.int .i64), .val 11 (.int .i64)])] }
noncomputable def E49 (k : Nat) : Ctx := mkCx base [(57, D57.fnAt E57 k), (79, D79.fnAt E79 k)]
theorem c49 {G : World → Prop} (k : Nat) : Con Tryd.prog G 49 (D49.fnAt E49 k) := Def.con2 mixed (fun k => TypesOK.mk' types _) (fun k => FnsOK.cons (c57 k) (by kernel_rfl) (FnsOK.cons (c79 k) (by kernel_rfl) (FnsOK.nil))) D49 Tryd.func49 (by kernel_rfl) (fun k => by kernel_rfl) (by kernel_rfl) k
/-- loop.example/g00218/impl.areTwoPhase -/
noncomputable def D58 : Def := { fn := Tryd.f58, code := Tryd.f58.body.getD .skip, ps := [.val (.slice K1)], res := .val .bool, pl := [2, 5], L := lookL [(2, [.val 0 (.slice K1), .val 8 (.slice K1), .val 9 (.int .i64), .val 10 (.int .i64)]), (5, [.val 0 (.slice K1), .val 3 (.int .i64), .var 4 K1, .val 8 (.slice K1), .val 9 (.int .i64), .val 10 (.int .i64), .val 15 (.slice K1), .val 16 (.int .i64), .val 17 (.int .i64)])] }
noncomputable def E58 (k : Nat) : Ctx := mkCx base []
theorem c58 {G : World → Prop} (k : Nat) : Con Tryd.prog G 58 (D58.fnAt E58 k) := Def.con2 mixed (fun k => TypesOK.mk' types _) (fun k => FnsOK.nil) D58 Tryd.func58 (by kernel_rfl) (fun k => by kernel_rfl) (by kernel_rfl) k
/-- loop.example/g00218/impl.spansOf$1 -/
noncomputable def D81 : Def := { fn := Tryd.f81, code := Tryd.f81.body.getD .skip, ps := [.val K1, .val (.ref K0)], res := .val .bool, pl := [], L := lookL [] }
noncomputable def E81 (k : Nat) : Ctx := mkCx base []
theorem c81 {G : World → Prop} (k : Nat) : Con Tryd.prog G 81 (D81.fnAt E81 k) := Def.con2 mixed (fun k => TypesOK.mk' types _) (fun k => FnsOK.nil) D81 Tryd.func81 (by kernel_rfl) (fun k => by kernel_rfl) (by kernel_rfl) k
/-- slices.IndexFunc[[]loop.example/g00218/impl.span,loop.example/g00218/impl.span] -/
noncomputable def D80 : Def := { fn := Tryd.f80, code := Tryd.f80.body.getD .skip, ps := [.val (.slice K1), .val (.clo 81 (.pair (.ref K0) .unit))], res := .val (.int .i64), pl := [2], L := lookL [(2, [.val 0 (.slice K1), .val 1 (.clo 81 (.pair (.ref K0) .unit)), .val 7 (.int .i64), .val 8 (.int .i64)])] }
noncomputable def E80 (k : Nat) : Ctx := mkCx base [(81, D81.fnAt E81 k)]
theorem c80 {G : World → Prop} (k : Nat) : Con Tryd.prog G 80 (D80.fnAt E80 k) := Def.con2 mixed (fun k => TypesOK.mk' types _) (fun k => FnsOK.cons (c81 k) (by kernel_rfl) (FnsOK.nil)) D80 Tryd.func80 (by kernel_rfl) (fun k => by kernel_rfl) (by kernel_rfl) k
/-- loop.example/g00218/impl.spansOf -/
noncomputable def D59 : Def := { fn := Tryd.f59, code := Tryd.f59.body.getD .skip, ps := [.val (.slice K0), .val (.slice (.int .i64))], res := .own 96 K1, pl := [3, 10], L := lookL [(3, [.val 1 (.slice (.int .i64)), .own 5 96 K1, .val 10 (.slice K0), .val 11 (.int .i64), .val 12 (.int .i64)]), (10, [.val 1 (.slice (.int .i64)), .own 5 96 K1, .val 6 (.int .i64), .val 7 (.ref K0), .val 8 (.int .i64), .val 10 (.slice K0), .val 11 (.int .i64), .val 12 (.int .i64)])] }
noncomputable def E59 (k : Nat) : Ctx := mkCx base [(80, D80.fnAt E80 k)]
theorem c59 {G : World → Prop} (k : Nat) : Con Tryd.prog G 59 (D59.fnAt E59 k) := Def.con2 mixed (fun k => TypesOK.mk' types _) (fun k => FnsOK.cons (c80 k) (by kernel_rfl) (FnsOK.nil)) D59 Tryd.func59 (by kernel_rfl) (fun k => by kernel_rfl) (by kernel_rfl) k
/-- loop.example/g00218/impl.IsTwoPhase -/
noncomputable def D26 : Def := { fn := Tryd.f26, code := Tryd.f26.body.getD .skip, ps := [.val (.slice K0), .val (.slice (.int .i64))], res := .tup (.pair (.val .bool) (.val .bool)), pl := [4], L := lookL [(4, [.val 0 (.slice K0), .val 1 (.slice (.int .i64)), .val 18 (.slice K0), .val 19 (.int .i64), .val 20 (.int .i64)])] }
noncomputable def E26 (k : Nat) : Ctx := mkCx base [(49, D49.fnAt E49 k), (57, D57.fnAt E57 k), (58, D58.fnAt E58 k), (59, D59.fnAt E59 k)]
theorem c26 {G : World → Prop} (k : Nat) : Con Tryd.prog G 26 (D26.fnAt E26 k) := Def.con2 mixed (fun k => TypesOK.mk' types _) (fun k => FnsOK.cons (c49 k) (by kernel_rfl) (FnsOK.cons (c57 k) (by kernel_rfl) (FnsOK.cons (c58 k) (by kernel_rfl) (FnsOK.cons (c59 k) (by kernel_rfl) (FnsOK.nil))))) D26 Tryd.func26 (by kernel_rfl) (fun k => by kernel_rfl) (by kernel_rfl) k
/-- loop.example/g00218/laws.eqIntS -/
noncomputable def D27 : Def := { fn := Tryd.f27, code := Tryd.f27.body.getD .skip, ps := [.val (.slice (.int .i64)), .val (.slice (.int .i64))], res := .val .bool, pl := [4], L := lookL [(4, [.val 0 (.slice (.int .i64)), .val 1 (.slice (.int .i64)), .val 5 (.int .i64)])] }
noncomputable def E27 (k : Nat) : Ctx := mkCx base []
theorem c27 {G : World → Prop} (k : Nat) : Con Tryd.prog G 27 (D27.fnAt E27 k) := Def.con2 mixed (fun k => TypesOK.mk' types _) (fun k => FnsOK.nil) D27 Tryd.func27 (by kernel_rfl) (fun k => by kernel_rfl) (by kernel_rfl) k
/-- loop.example/g00218/laws.FnExactIsTwoPhase -/
noncomputable def D6 : Def := { fn := Tryd.f6, code := Tryd.f6.body.getD .skip, ps := [.val (.slice K0), .val (.slice (.int .i64))], res := .val .bool, pl := [], L := lookL [] }
noncomputable def E6 (k : Nat) : Ctx := mkCx base [(11, D11.fnAt E11 k), (13, D13.fnAt E13 k), (15, D15.fnAt E15 k), (24, D24.fnAt E24 k), (25, D25.fnAt E25 k), (26, D26.fnAt E26 k), (27, D27.fnAt E27 k)]
theorem c6 {G : World → Prop} (k : Nat) : Con Tryd.prog G 6 (D6.fnAt E6 k) := Def.con2 mixed (fun k => TypesOK.mk' types _) (fun k => FnsOK.cons (c11 k) (by kernel_rfl) (FnsOK.cons (c13 k) (by kernel_rfl) (FnsOK.cons (c15 k) (by kernel_rfl) (FnsOK.cons (c24 k) (by kernel_rfl) (FnsOK.cons (c25 k) (by kernel_rfl) (FnsOK.cons (c26 k) (by kernel_rfl) (FnsOK.cons (c27 k) (by kernel_rfl) (FnsOK.nil)))))))) D6 Tryd.func6 (by kernel_rfl) (fun k => by kernel_rfl) (by kernel_rfl) k
end Go.Proofs.YtobkiheihjdanaaDoor.Fms
