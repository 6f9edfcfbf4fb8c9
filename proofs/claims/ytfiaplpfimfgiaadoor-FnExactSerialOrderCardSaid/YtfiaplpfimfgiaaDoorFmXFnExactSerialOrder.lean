/- FnExactSerialOrder, by the functional machine. -/
import Derived.Test.YtfiaplpfimfgiaaDoorTrim
import Derived.Test.YtfiaplpfimfgiaaDoorFmZ
import Derived.Test.YtfiaplpfimfgiaaDoorFmGv
import Derived.Test.YtfiaplpfimfgiaaDoorFmXFnExactSerialOrderLays
import Derived.Test.YtfiaplpfimfgiaaDoorFmCp
import Derived.Test.YtfiaplpfimfgiaaDoorFmDl
import Derived.Test.YtfiaplpfimfgiaaDoorFmSo
import Derived.Test.YtfiaplpfimfgiaaDoorProg
set_option maxRecDepth 100000
set_option linter.unusedVariables false
open Go Go.Fm
namespace Go.Proofs.YtfiaplpfimfgiaaDoor.Fms
abbrev K1 : Kind := .struct (.pair (.int .i64) (.int .i64))
abbrev K0 : Kind := .struct (.pair (.int .i64) (.pair (.int .i64) .str))
def table : List TRow := [⟨2, (.int .i64), 0, 0, false, none⟩, ⟨3, (.int .i64), 0, 0, false, none⟩, ⟨4, .bool, 0, 0, false, none⟩, ⟨5, (.int .u8), 0, 0, false, none⟩, ⟨9, .str, 0, 0, false, none⟩, ⟨22, (.slice K0), 4398046511104, 36, false, none⟩, ⟨24, (.slice (.int .i64)), 17592186044416, 3, false, none⟩, ⟨27, (.slice K0), 4398046511104, 38, false, none⟩, ⟨35, K0, 0, 0, true, none⟩, ⟨36, K0, 0, 0, true, none⟩, ⟨38, K0, 0, 0, true, none⟩, ⟨41, (.slice K1), 8796093022208, 46, false, none⟩, ⟨45, K1, 0, 0, true, none⟩, ⟨46, K1, 0, 0, true, none⟩, ⟨55, (.arr 9 .bool), 0, 0, true, none⟩, ⟨59, (.slice (.int .u8)), 140737488355328, 5, false, none⟩]
def base : Ctx := ctxOf table
theorem types : TypesOK Tryd.prog base := typesOK_of (by kernel_rfl)
theorem mixed : Tryd.prog.follows .mixedOrders = true := by kernel_rfl
/-- loop.example/g00218/laws.markText -/
noncomputable def D27 : Def := { fn := Tryd.f27, code := Tryd.f27.body.getD .skip, ps := [.val (.int .i64)], res := .val .str, pl := [4], L := lookL [(4, [.val 0 (.int .i64), .val 3 .str])] }
noncomputable def E27 (k : Nat) : Ctx := mkCx base []
theorem c27 [Strict] {G : World → Prop} (k : Nat) : Con Tryd.prog G 27 (D27.fnAt E27 k) := Def.con2 mixed (fun k => TypesOK.mk' types _) (fun k => FnsOK.nil) D27 Tryd.func27 (by kernel_rfl) (fun k => by kernel_rfl) (fx := []) (fun k => rfl) (by kernel_rfl) k
/-- loop.example/g00218/laws.markOpS -/
noncomputable def D10 : Def := { fn := Tryd.f10, code := Tryd.f10.body.getD .skip, ps := [.own 38 K0, .val (.int .i64)], res := .back 0 38 K0 (.val (.int .i64)), pl := [2], L := lookL [(2, [.own 0 38 K0, .val 1 (.int .i64), .val 5 (.int .i64)])] }
noncomputable def E10 (k : Nat) : Ctx := mkCx (fxCx base [0]) [(27, D27.fnAt E27 k)]
theorem c10 [Strict] {G : World → Prop} (k : Nat) : Con Tryd.prog G 10 (D10.fnAt E10 k) := Def.con2 mixed (fun k => TypesOK.mk' (types.fx [0]) _) (fun k => FnsOK.cons (c27 k) (by kernel_rfl) (FnsOK.nil)) D10 Tryd.func10 (by kernel_rfl) (fun k => by kernel_rfl) (fx := [0]) (fun k => rfl) (by kernel_rfl) k
/-- loop.example/g00218/laws.markIntS -/
noncomputable def D11 : Def := { fn := Tryd.f11, code := Tryd.f11.body.getD .skip, ps := [.own 3 (.int .i64), .val (.int .i64)], res := .back 0 3 (.int .i64) (.val (.int .i64)), pl := [2], L := lookL [(2, [.own 0 3 (.int .i64), .val 1 (.int .i64), .val 5 (.int .i64)])] }
noncomputable def E11 (k : Nat) : Ctx := mkCx (fxCx base [0]) []
theorem c11 [Strict] {G : World → Prop} (k : Nat) : Con Tryd.prog G 11 (D11.fnAt E11 k) := Def.con2 mixed (fun k => TypesOK.mk' (types.fx [0]) _) (fun k => FnsOK.nil) D11 Tryd.func11 (by kernel_rfl) (fun k => by kernel_rfl) (fx := [0]) (fun k => rfl) (by kernel_rfl) k
/-- loop.example/g00218/laws.heldIntS -/
noncomputable def D12 : Def := { fn := Tryd.f12, code := Tryd.f12.body.getD .skip, ps := [.val (.slice (.int .i64)), .val (.int .i64)], res := .val (.int .i64), pl := [2], L := lookL [(2, [.val 0 (.slice (.int .i64)), .val 1 (.int .i64), .val 5 (.int .i64)])] }
noncomputable def E12 (k : Nat) : Ctx := mkCx base []
theorem c12 [Strict] {G : World → Prop} (k : Nat) : Con Tryd.prog G 12 (D12.fnAt E12 k) := Def.con2 mixed (fun k => TypesOK.mk' types _) (fun k => FnsOK.nil) D12 Tryd.func12 (by kernel_rfl) (fun k => by kernel_rfl) (fx := []) (fun k => rfl) (by kernel_rfl) k
/-- loop.example/g00218/laws.szOp -/
noncomputable def D13 : Def := { fn := Tryd.f13, code := Tryd.f13.body.getD .skip, ps := [.val K0, .val (.int .i64)], res := .val (.int .i64), pl := [], L := lookL [] }
noncomputable def E13 (k : Nat) : Ctx := mkCx base []
theorem c13 [Strict] {G : World → Prop} (k : Nat) : Con Tryd.prog G 13 (D13.fnAt E13 k) := Def.con2 mixed (fun k => TypesOK.mk' types _) (fun k => FnsOK.nil) D13 Tryd.func13 (by kernel_rfl) (fun k => by kernel_rfl) (fx := []) (fun k => rfl) (by kernel_rfl) k
/-- loop.example/g00218/laws.szOpS -/
noncomputable def D4 : Def := { fn := Tryd.f4, code := Tryd.f4.body.getD .skip, ps := [.val (.slice K0), .val (.int .i64)], res := .val (.int .i64), pl := [5], L := lookL [(5, [.val 0 (.slice K0), .val 1 (.int .i64), .val 5 (.int .i64)])] }
noncomputable def E4 (k : Nat) : Ctx := mkCx base [(13, D13.fnAt E13 k)]
theorem c4 [Strict] {G : World → Prop} (k : Nat) : Con Tryd.prog G 4 (D4.fnAt E4 k) := Def.con2 mixed (fun k => TypesOK.mk' types _) (fun k => FnsOK.cons (c13 k) (by kernel_rfl) (FnsOK.nil)) D4 Tryd.func4 (by kernel_rfl) (fun k => by kernel_rfl) (fx := []) (fun k => rfl) (by kernel_rfl) k
/-- loop.example/g00218/spec.l1In -/
noncomputable def D28 : Def := { fn := Tryd.f28, code := Tryd.f28.body.getD .skip, ps := [.val (.int .i64), .val (.int .i64), .val (.int .i64)], res := .val .bool, pl := [], L := lookL [] }
noncomputable def E28 (k : Nat) : Ctx := mkCx base []
theorem c28 [Strict] {G : World → Prop} (k : Nat) : Con Tryd.prog G 28 (D28.fnAt E28 k) := Def.con2 mixed (fun k => TypesOK.mk' types _) (fun k => FnsOK.nil) D28 Tryd.func28 (by kernel_rfl) (fun k => by kernel_rfl) (fx := []) (fun k => rfl) (by kernel_rfl) k
/-- loop.example/g00218/spec.l1Key -/
noncomputable def D29 : Def := { fn := Tryd.f29, code := Tryd.f29.body.getD .skip, ps := [.val .str], res := .val .bool, pl := [2], L := lookL [(2, [.val 0 .str, .val 3 (.int .i64)])] }
noncomputable def E29 (k : Nat) : Ctx := mkCx base [(28, D28.fnAt E28 k)]
theorem c29 [Strict] {G : World → Prop} (k : Nat) : Con Tryd.prog G 29 (D29.fnAt E29 k) := Def.con2 mixed (fun k => TypesOK.mk' types _) (fun k => FnsOK.cons (c28 k) (by kernel_rfl) (FnsOK.nil)) D29 Tryd.func29 (by kernel_rfl) (fun k => by kernel_rfl) (fx := []) (fun k => rfl) (by kernel_rfl) k
/-- loop.example/g00218/spec.GoodOps -/
noncomputable def D14 : Def := { fn := Tryd.f14, code := Tryd.f14.body.getD .skip, ps := [.val (.slice K0)], res := .val .bool, pl := [4, 11], L := lookL [(4, [.val 0 (.slice K0), .val 12 (.slice K0), .val 13 (.int .i64), .val 14 (.int .i64)]), (11, [.val 0 (.slice K0), .var 4 K0, .val 5 .bool, .val 6 .bool, .val 12 (.slice K0), .val 13 (.int .i64), .val 14 (.int .i64), .val 52 (.slice K0), .val 53 (.int .i64), .val 54 (.int .i64)])] }
noncomputable def E14 (k : Nat) : Ctx := mkCx base [(28, D28.fnAt E28 k), (29, D29.fnAt E29 k)]
theorem c14 [Strict] {G : World → Prop} (k : Nat) : Con Tryd.prog G 14 (D14.fnAt E14 k) := Def.con2 mixed (fun k => TypesOK.mk' types _) (fun k => FnsOK.cons (c28 k) (by kernel_rfl) (FnsOK.cons (c29 k) (by kernel_rfl) (FnsOK.nil))) D14 Tryd.func14 (by kernel_rfl) (fun k => by kernel_rfl) (fx := []) (fun k => rfl) (by kernel_rfl) k
/-- loop.example/g00218/spec.l3Txns -/
noncomputable def D30 : Def := { fn := Tryd.f30, code := Tryd.f30.body.getD .skip, ps := [.val (.slice K0)], res := .own 3 (.int .i64), pl := [3, 6], L := lookL [(3, [.val 0 (.slice K0), .own 3 3 (.int .i64), .val 4 (.int .i64)]), (6, [.val 0 (.slice K0), .own 3 3 (.int .i64), .val 4 (.int .i64), .val 11 (.slice K0), .val 12 (.int .i64), .val 13 (.int .i64)])] }
noncomputable def E30 (k : Nat) : Ctx := mkCx base []
theorem c30 [Strict] {G : World → Prop} (k : Nat) : Con Tryd.prog G 30 (D30.fnAt E30 k) := Def.con2 mixed (fun k => TypesOK.mk' types _) (fun k => FnsOK.nil) D30 Tryd.func30 (by kernel_rfl) (fun k => by kernel_rfl) (fx := []) (fun k => rfl) (by kernel_rfl) k
/-- loop.example/g00218/spec.l3Clash -/
noncomputable def D39 : Def := { fn := Tryd.f39, code := Tryd.f39.body.getD .skip, ps := [.val K0, .val K0], res := .val .bool, pl := [], L := lookL [] }
noncomputable def E39 (k : Nat) : Ctx := mkCx base []
theorem c39 [Strict] {G : World → Prop} (k : Nat) : Con Tryd.prog G 39 (D39.fnAt E39 k) := Def.con2 mixed (fun k => TypesOK.mk' types _) (fun k => FnsOK.nil) D39 Tryd.func39 (by kernel_rfl) (fun k => by kernel_rfl) (fx := []) (fun k => rfl) (by kernel_rfl) k
/-- loop.example/g00218/spec.l3Conflicts -/
noncomputable def D31 : Def := { fn := Tryd.f31, code := Tryd.f31.body.getD .skip, ps := [.val (.slice K0)], res := .own 46 K1, pl := [3, 6, 10, 13], L := lookL [(3, [.val 0 (.slice K0), .own 3 46 K1, .val 14 (.slice (.int .i64)), .val 15 (.int .i64), .val 16 (.int .i64)]), (6, [.val 0 (.slice K0), .own 3 46 K1, .val 5 (.int .i64), .val 14 (.slice (.int .i64)), .val 15 (.int .i64), .val 16 (.int .i64), .val 21 (.slice (.int .i64)), .val 22 (.int .i64), .val 23 (.int .i64)]), (10, [.val 0 (.slice K0), .own 3 46 K1, .val 5 (.int .i64), .val 7 (.int .i64), .val 8 .bool, .val 14 (.slice (.int .i64)), .val 15 (.int .i64), .val 16 (.int .i64), .val 21 (.slice (.int .i64)), .val 22 (.int .i64), .val 23 (.int .i64), .val 27 (.slice K0), .val 28 (.int .i64), .val 29 (.int .i64)]), (13, [.val 0 (.slice K0), .own 3 46 K1, .val 5 (.int .i64), .val 7 (.int .i64), .val 8 .bool, .var 10 K0, .val 14 (.slice (.int .i64)), .val 15 (.int .i64), .val 16 (.int .i64), .val 21 (.slice (.int .i64)), .val 22 (.int .i64), .val 23 (.int .i64), .val 27 (.slice K0), .val 28 (.int .i64), .val 29 (.int .i64), .val 37 (.slice K0), .val 38 (.int .i64), .val 39 (.int .i64)])] }
noncomputable def E31 (k : Nat) : Ctx := mkCx base [(30, D30.fnAt E30 k), (39, D39.fnAt E39 k)]
theorem c31 [Strict] {G : World → Prop} (k : Nat) : Con Tryd.prog G 31 (D31.fnAt E31 k) := Def.con2 mixed (fun k => TypesOK.mk' types _) (fun k => FnsOK.cons (c30 k) (by kernel_rfl) (FnsOK.cons (c39 k) (by kernel_rfl) (FnsOK.nil))) D31 Tryd.func31 (by kernel_rfl) (fun k => by kernel_rfl) (fx := []) (fun k => rfl) (by kernel_rfl) k
/-- loop.example/g00218/spec.l1Has -/
noncomputable def D32 : Def := { fn := Tryd.f32, code := Tryd.f32.body.getD .skip, ps := [.val (.slice (.int .i64)), .val (.int .i64)], res := .val .bool, pl := [2], L := lookL [(2, [.val 1 (.int .i64), .val 7 (.slice (.int .i64)), .val 8 (.int .i64), .val 9 (.int .i64)])] }
noncomputable def E32 (k : Nat) : Ctx := mkCx base []
theorem c32 [Strict] {G : World → Prop} (k : Nat) : Con Tryd.prog G 32 (D32.fnAt E32 k) := Def.con2 mixed (fun k => TypesOK.mk' types _) (fun k => FnsOK.nil) D32 Tryd.func32 (by kernel_rfl) (fun k => by kernel_rfl) (fx := []) (fun k => rfl) (by kernel_rfl) k
/-- loop.example/g00218/spec.l3Order -/
noncomputable def D15 : Def := { fn := Tryd.f15, code := Tryd.f15.body.getD .skip, ps := [.val (.slice K0)], res := .tup (.pair (.own 3 (.int .i64)) (.val .bool)), pl := [4, 7, 11, 18], L := lookL [(4, [.own 4 3 (.int .i64), .val 5 (.slice (.int .i64)), .val 6 (.slice K1)]), (7, [.own 4 3 (.int .i64), .val 5 (.slice (.int .i64)), .val 6 (.slice K1), .val 7 (.int .i64), .val 22 (.slice (.int .i64)), .val 23 (.int .i64), .val 24 (.int .i64)]), (11, [.own 4 3 (.int .i64), .val 5 (.slice (.int .i64)), .val 6 (.slice K1), .val 7 (.int .i64), .val 9 (.int .i64), .val 10 .bool, .val 22 (.slice (.int .i64)), .val 23 (.int .i64), .val 24 (.int .i64), .val 32 (.slice K1), .val 33 (.int .i64), .val 34 (.int .i64)]), (18, [.own 4 3 (.int .i64), .val 5 (.slice (.int .i64)), .val 6 (.slice K1), .val 7 (.int .i64)])] }
noncomputable def E15 (k : Nat) : Ctx := mkCx base [(30, D30.fnAt E30 k), (31, D31.fnAt E31 k), (32, D32.fnAt E32 k)]
theorem c15 [Strict] {G : World → Prop} (k : Nat) : Con Tryd.prog G 15 (D15.fnAt E15 k) := Def.con2 mixed (fun k => TypesOK.mk' types _) (fun k => FnsOK.cons (c30 k) (by kernel_rfl) (FnsOK.cons (c31 k) (by kernel_rfl) (FnsOK.cons (c32 k) (by kernel_rfl) (FnsOK.nil)))) D15 Tryd.func15 (by kernel_rfl) (fun k => by kernel_rfl) (fx := []) (fun k => rfl) (by kernel_rfl) k
/-- loop.example/g00218/spec.SerialOrder -/
noncomputable def D5 : Def := { fn := Tryd.f5, code := Tryd.f5.body.getD .skip, ps := [.val (.slice K0)], res := .tup (.pair (.own 3 (.int .i64)) (.val .bool)), pl := [], L := lookL [] }
noncomputable def E5 (k : Nat) : Ctx := mkCx base [(14, D14.fnAt E14 k), (15, D15.fnAt E15 k)]
theorem c5 [Strict] {G : World → Prop} (k : Nat) : Con Tryd.prog G 5 (D5.fnAt E5 k) := Def.con2 mixed (fun k => TypesOK.mk' types _) (fun k => FnsOK.cons (c14 k) (by kernel_rfl) (FnsOK.cons (c15 k) (by kernel_rfl) (FnsOK.nil))) D5 Tryd.func5 (by kernel_rfl) (fun k => by kernel_rfl) (fx := []) (fun k => rfl) (by kernel_rfl) k
/-- loop.example/g00218/laws.toOp -/
noncomputable def D16 : Def := { fn := Tryd.f16, code := Tryd.f16.body.getD .skip, ps := [.val K0], res := .val K0, pl := [], L := lookL [] }
noncomputable def E16 (k : Nat) : Ctx := mkCx base []
theorem c16 [Strict] {G : World → Prop} (k : Nat) : Con Tryd.prog G 16 (D16.fnAt E16 k) := Def.con2 mixed (fun k => TypesOK.mk' types _) (fun k => FnsOK.nil) D16 Tryd.func16 (by kernel_rfl) (fun k => by kernel_rfl) (fx := []) (fun k => rfl) (by kernel_rfl) k
/-- loop.example/g00218/laws.toOpS -/
noncomputable def D6 : Def := { fn := Tryd.f6, code := Tryd.f6.body.getD .skip, ps := [.val (.slice K0)], res := .own 38 K0, pl := [3], L := lookL [(3, [.val 0 (.slice K0), .own 3 38 K0, .val 4 (.int .i64)])] }
noncomputable def E6 (k : Nat) : Ctx := mkCx base [(16, D16.fnAt E16 k)]
theorem c6 [Strict] {G : World → Prop} (k : Nat) : Con Tryd.prog G 6 (D6.fnAt E6 k) := Def.con2 mixed (fun k => TypesOK.mk' types _) (fun k => FnsOK.cons (c16 k) (by kernel_rfl) (FnsOK.nil)) D6 Tryd.func6 (by kernel_rfl) (fun k => by kernel_rfl) (fx := []) (fun k => rfl) (by kernel_rfl) k
/-- loop.example/g00218/impl.in -/
noncomputable def D33 : Def := { fn := Tryd.f33, code := Tryd.f33.body.getD .skip, ps := [.val (.int .i64), .val (.int .i64), .val (.int .i64)], res := .val .bool, pl := [], L := lookL [] }
noncomputable def E33 (k : Nat) : Ctx := mkCx base []
theorem c33 [Strict] {G : World → Prop} (k : Nat) : Con Tryd.prog G 33 (D33.fnAt E33 k) := Def.con2 mixed (fun k => TypesOK.mk' types _) (fun k => FnsOK.nil) D33 Tryd.func33 (by kernel_rfl) (fun k => by kernel_rfl) (fx := []) (fun k => rfl) (by kernel_rfl) k
/-- loop.example/g00218/impl.isKey -/
noncomputable def D34 : Def := { fn := Tryd.f34, code := Tryd.f34.body.getD .skip, ps := [.val .str], res := .val .bool, pl := [], L := lookL [] }
noncomputable def E34 (k : Nat) : Ctx := mkCx base [(40, ⟨[.val .str, .val .str], .val .str, fun v => MapW.strings_Trim.f v.1 v.2.1, []⟩)]
theorem c34 {G : World → Prop} (k : Nat) : Con Tryd.prog G 34 (D34.fnAt E34 k) := Def.con2 mixed (fun k => TypesOK.mk' types _) (fun k => FnsOK.cons (Con.text2 (fun h => h) MapW.strings_Trim.f MapW.strings_Trim.calls) (by kernel_rfl) (FnsOK.nil)) D34 Tryd.func34 (by kernel_rfl) (fun k => by kernel_rfl) (fx := []) (fun k => rfl) (by kernel_rfl) k
/-- loop.example/g00218/impl.areOps -/
noncomputable def D17 : Def := { fn := Tryd.f17, code := Tryd.f17.body.getD .skip, ps := [.val (.slice K0)], res := .val .bool, pl := [4], L := lookL [(4, [.val 0 (.slice K0), .var 3 (.arr 9 .bool), .var 4 (.arr 9 .bool), .val 9 (.slice K0), .val 10 (.int .i64), .val 11 (.int .i64)])] }
noncomputable def E17 (k : Nat) : Ctx := mkCx base [(33, D33.fnAt E33 k), (34, D34.fnAt E34 k)]
theorem c17 {G : World → Prop} (k : Nat) : Con Tryd.prog G 17 (D17.fnAt E17 k) := Def.con2 mixed (fun k => TypesOK.mk' types _) (fun k => FnsOK.cons (c33 k) (by kernel_rfl) (FnsOK.cons (c34 k) (by kernel_rfl) (FnsOK.nil))) D17 Tryd.func17 (by kernel_rfl) (fun k => by kernel_rfl) (fx := []) (fun k => rfl) (by kernel_rfl) k
/-- loop.example/g00218/impl.txnsOf -/
noncomputable def D18 : Def := { fn := Tryd.f18, code := Tryd.f18.body.getD .skip, ps := [.val (.slice K0)], res := .own 3 (.int .i64), pl := [3], L := lookL [(3, [.own 3 3 (.int .i64), .val 7 (.slice K0), .val 8 (.int .i64), .val 9 (.int .i64)])] }
noncomputable def E18 (k : Nat) : Ctx := mkCx base [(35, sortIntFn 3)]
theorem c18 [Strict] {G : World → Prop} (k : Nat) : Con Tryd.prog G 18 (D18.fnAt E18 k) := Def.con2 mixed (fun k => TypesOK.mk' types _) (fun k => FnsOK.cons (Con.sortInt Go.Proofs.Tryd.lays189 (by kernel_rfl) 3) (by kernel_rfl) (FnsOK.nil)) D18 Tryd.func18 (by kernel_rfl) (fun k => by kernel_rfl) (fx := []) (fun k => rfl) (by kernel_rfl) k
/-- cmp.Or[int] -/
noncomputable def D45 : Def := { fn := Tryd.f45, code := Tryd.f45.body.getD .skip, ps := [.val (.slice (.int .i64))], res := .val (.int .i64), pl := [3], L := lookL [(3, [.val 3 (.int .i64), .val 6 (.slice (.int .i64)), .val 7 (.int .i64), .val 8 (.int .i64)])] }
noncomputable def E45 (k : Nat) : Ctx := mkCx base []
theorem c45 [Strict] {G : World → Prop} (k : Nat) : Con Tryd.prog G 45 (D45.fnAt E45 k) := Def.con2 mixed (fun k => TypesOK.mk' types _) (fun k => FnsOK.nil) D45 Tryd.func45 (by kernel_rfl) (fun k => by kernel_rfl) (fx := []) (fun k => rfl) (by kernel_rfl) k
/-- cmp.isNaN[int] -/
noncomputable def D67 : Def := { fn := Tryd.f67, code := Tryd.f67.body.getD .skip, ps := [.val (.int .i64)], res := .val .bool, pl := [], L := lookL [] }
noncomputable def E67 (k : Nat) : Ctx := mkCx base []
theorem c67 [Strict] {G : World → Prop} (k : Nat) : Con Tryd.prog G 67 (D67.fnAt E67 k) := Def.con2 mixed (fun k => TypesOK.mk' types _) (fun k => FnsOK.nil) D67 Tryd.func67 (by kernel_rfl) (fun k => by kernel_rfl) (fx := []) (fun k => rfl) (by kernel_rfl) k
/-- cmp.Compare[int] -/
noncomputable def D46 : Def := { fn := Tryd.f46, code := Tryd.f46.body.getD .skip, ps := [.val (.int .i64), .val (.int .i64)], res := .val (.int .i64), pl := [], L := lookL [] }
noncomputable def E46 (k : Nat) : Ctx := mkCx base [(67, D67.fnAt E67 k)]
theorem c46 [Strict] {G : World → Prop} (k : Nat) : Con Tryd.prog G 46 (D46.fnAt E46 k) := Def.con2 mixed (fun k => TypesOK.mk' types _) (fun k => FnsOK.cons (c67 k) (by kernel_rfl) (FnsOK.nil)) D46 Tryd.func46 (by kernel_rfl) (fun k => by kernel_rfl) (fx := []) (fun k => rfl) (by kernel_rfl) k
/-- loop.example/g00218/impl.sortPairs$1 -/
noncomputable def D44 : Def := { fn := Tryd.f44, code := Tryd.f44.body.getD .skip, ps := [.val K1, .val K1], res := .val (.int .i64), pl := [], L := lookL [] }
noncomputable def E44 (k : Nat) : Ctx := mkCx base [(45, D45.fnAt E45 k), (46, D46.fnAt E46 k)]
theorem c44 [Strict] {G : World → Prop} (k : Nat) : Con Tryd.prog G 44 (D44.fnAt E44 k) := Def.con2 mixed (fun k => TypesOK.mk' types _) (fun k => FnsOK.cons (c45 k) (by kernel_rfl) (FnsOK.cons (c46 k) (by kernel_rfl) (FnsOK.nil))) D44 Tryd.func44 (by kernel_rfl) (fun k => by kernel_rfl) (fx := []) (fun k => rfl) (by kernel_rfl) k
/-- slices.Compact[[]loop.example/g00218/impl.Pair,loop.example/g00218/impl.Pair] -/
noncomputable def D47 : Def := { fn := Tryd.f47, code := Tryd.f47.body.getD .skip, ps := [.own 46 K1], res := .own 46 K1, pl := [4, 9], L := lookL [(4, [.own 0 46 K1, .val 3 (.int .i64)]), (9, [.own 0 46 K1, .val 3 (.int .i64), .sub 4 0, .val 5 (.int .i64)])] }
noncomputable def E47 (k : Nat) : Ctx := mkCx base []
theorem c47 [Strict] {G : World → Prop} (k : Nat) : Con Tryd.prog G 47 (D47.fnAt E47 k) := Def.con2 mixed (fun k => TypesOK.mk' types _) (fun k => FnsOK.nil) D47 Tryd.func47 (by kernel_rfl) (fun k => by kernel_rfl) (fx := []) (fun k => rfl) (by kernel_rfl) k
/-- loop.example/g00218/impl.sortPairs -/
noncomputable def D36 : Def := { fn := Tryd.f36, code := Tryd.f36.body.getD .skip, ps := [.own 46 K1], res := .own 46 K1, pl := [], L := lookL [] }
noncomputable def E36 (k : Nat) : Ctx := mkCx base [(43, sortFn 46 K1 44 (fun v => D44.F E44 k v) cfPair), (47, D47.fnAt E47 k)]
theorem c36 [Strict] {G : World → Prop} (k : Nat) : Con Tryd.prog G 36 (D36.fnAt E36 k) := Def.con2 mixed (fun k => TypesOK.mk' types _) (fun k => FnsOK.cons (Con.sortPair types Go.Proofs.Tryd.laysSort (by kernel_rfl) (by kernel_rfl) 46 (by kernel_rfl) (@c44 told (fun _ => True) k)) (by kernel_rfl) (FnsOK.cons (c47 k) (by kernel_rfl) (FnsOK.nil))) D36 Tryd.func36 (by kernel_rfl) (fun k => by kernel_rfl) (fx := []) (fun k => rfl) (by kernel_rfl) k
/-- loop.example/g00218/impl.conflicts -/
noncomputable def D19 : Def := { fn := Tryd.f19, code := Tryd.f19.body.getD .skip, ps := [.val (.slice K0)], res := .own 46 K1, pl := [3, 6], L := lookL [(3, [.val 0 (.slice K0), .own 3 46 K1, .val 9 (.slice K0), .val 10 (.int .i64), .val 11 (.int .i64)]), (6, [.val 0 (.slice K0), .own 3 46 K1, .var 5 K0, .val 9 (.slice K0), .val 10 (.int .i64), .val 11 (.int .i64), .val 18 (.slice K0), .val 19 (.int .i64), .val 20 (.int .i64)])] }
noncomputable def E19 (k : Nat) : Ctx := mkCx base [(36, D36.fnAt E36 k)]
theorem c19 [Strict] {G : World → Prop} (k : Nat) : Con Tryd.prog G 19 (D19.fnAt E19 k) := Def.con2 mixed (fun k => TypesOK.mk' types _) (fun k => FnsOK.cons (c36 k) (by kernel_rfl) (FnsOK.nil)) D19 Tryd.func19 (by kernel_rfl) (fun k => by kernel_rfl) (fx := []) (fun k => rfl) (by kernel_rfl) k
/-- slices.Index[[]int,int] -/
noncomputable def D38 : Def := { fn := Tryd.f38, code := Tryd.f38.body.getD .skip, ps := [.val (.slice (.int .i64)), .val (.int .i64)], res := .val (.int .i64), pl := [2], L := lookL [(2, [.val 0 (.slice (.int .i64)), .val 1 (.int .i64), .val 7 (.int .i64), .val 8 (.int .i64)])] }
noncomputable def E38 (k : Nat) : Ctx := mkCx base []
theorem c38 [Strict] {G : World → Prop} (k : Nat) : Con Tryd.prog G 38 (D38.fnAt E38 k) := Def.con2 mixed (fun k => TypesOK.mk' types _) (fun k => FnsOK.nil) D38 Tryd.func38 (by kernel_rfl) (fun k => by kernel_rfl) (fx := []) (fun k => rfl) (by kernel_rfl) k
/-- slices.Contains[[]int,int] -/
noncomputable def D24 : Def := { fn := Tryd.f24, code := Tryd.f24.body.getD .skip, ps := [.val (.slice (.int .i64)), .val (.int .i64)], res := .val .bool, pl := [], L := lookL [] }
noncomputable def E24 (k : Nat) : Ctx := mkCx base [(38, D38.fnAt E38 k)]
theorem c24 [Strict] {G : World → Prop} (k : Nat) : Con Tryd.prog G 24 (D24.fnAt E24 k) := Def.con2 mixed (fun k => TypesOK.mk' types _) (fun k => FnsOK.cons (c38 k) (by kernel_rfl) (FnsOK.nil)) D24 Tryd.func24 (by kernel_rfl) (fun k => by kernel_rfl) (fx := []) (fun k => rfl) (by kernel_rfl) k
/-- loop.example/g00218/impl.SerialOrder$1$1 -/
noncomputable def D23 : Def := { fn := Tryd.f23, code := Tryd.f23.body.getD .skip, ps := [.val K1, .val (.ref (.int .i64)), .val (.ref (.slice (.int .i64)))], res := .val .bool, pl := [], L := lookL [] }
noncomputable def E23 (k : Nat) : Ctx := mkCx base [(24, D24.fnAt E24 k)]
theorem c23 [Strict] {G : World → Prop} (k : Nat) : Con Tryd.prog G 23 (D23.fnAt E23 k) := Def.con2 mixed (fun k => TypesOK.mk' types _) (fun k => FnsOK.cons (c24 k) (by kernel_rfl) (FnsOK.nil)) D23 Tryd.func23 (by kernel_rfl) (fun k => by kernel_rfl) (fx := []) (fun k => rfl) (by kernel_rfl) k
/-- slices.IndexFunc[[]loop.example/g00218/impl.Pair,loop.example/g00218/impl.Pair] -/
noncomputable def D37 : Def := { fn := Tryd.f37, code := Tryd.f37.body.getD .skip, ps := [.val (.slice K1), .val (.clo 23 (.pair (.ref (.int .i64)) (.pair (.ref (.slice (.int .i64))) .unit)))], res := .val (.int .i64), pl := [2], L := lookL [(2, [.val 0 (.slice K1), .val 1 (.clo 23 (.pair (.ref (.int .i64)) (.pair (.ref (.slice (.int .i64))) .unit))), .val 7 (.int .i64), .val 8 (.int .i64)])] }
noncomputable def E37 (k : Nat) : Ctx := mkCx base [(23, D23.fnAt E23 k)]
theorem c37 [Strict] {G : World → Prop} (k : Nat) : Con Tryd.prog G 37 (D37.fnAt E37 k) := Def.con2 mixed (fun k => TypesOK.mk' types _) (fun k => FnsOK.cons (c23 k) (by kernel_rfl) (FnsOK.nil)) D37 Tryd.func37 (by kernel_rfl) (fun k => by kernel_rfl) (fx := []) (fun k => rfl) (by kernel_rfl) k
/-- slices.ContainsFunc[[]loop.example/g00218/impl.Pair,loop.example/g00218/impl.Pair] -/
noncomputable def D22 : Def := { fn := Tryd.f22, code := Tryd.f22.body.getD .skip, ps := [.val (.slice K1), .val (.clo 23 (.pair (.ref (.int .i64)) (.pair (.ref (.slice (.int .i64))) .unit)))], res := .val .bool, pl := [], L := lookL [] }
noncomputable def E22 (k : Nat) : Ctx := mkCx base [(37, D37.fnAt E37 k)]
theorem c22 [Strict] {G : World → Prop} (k : Nat) : Con Tryd.prog G 22 (D22.fnAt E22 k) := Def.con2 mixed (fun k => TypesOK.mk' types _) (fun k => FnsOK.cons (c37 k) (by kernel_rfl) (FnsOK.nil)) D22 Tryd.func22 (by kernel_rfl) (fun k => by kernel_rfl) (fx := []) (fun k => rfl) (by kernel_rfl) k
/-- loop.example/g00218/impl.SerialOrder$1 -/
noncomputable def D21 : Def := { fn := Tryd.f21, code := Tryd.f21.body.getD .skip, ps := [.val (.int .i64), .val (.ref (.slice K1)), .val (.ref (.slice (.int .i64)))], res := .val .bool, pl := [], L := lookL [] }
noncomputable def E21 (k : Nat) : Ctx := mkCx base [(22, D22.fnAt E22 k)]
theorem c21 [Strict] {G : World → Prop} (k : Nat) : Con Tryd.prog G 21 (D21.fnAt E21 k) := Def.con2 mixed (fun k => TypesOK.mk' types _) (fun k => FnsOK.cons (c22 k) (by kernel_rfl) (FnsOK.nil)) D21 Tryd.func21 (by kernel_rfl) (fun k => by kernel_rfl) (fx := []) (fun k => rfl) (by kernel_rfl) k
/-- slices.IndexFunc[[]int,int] -/
noncomputable def D20 : Def := { fn := Tryd.f20, code := Tryd.f20.body.getD .skip, ps := [.val (.slice (.int .i64)), .val (.clo 21 (.pair (.ref (.slice K1)) (.pair (.ref (.slice (.int .i64))) .unit)))], res := .val (.int .i64), pl := [2], L := lookL [(2, [.val 0 (.slice (.int .i64)), .val 1 (.clo 21 (.pair (.ref (.slice K1)) (.pair (.ref (.slice (.int .i64))) .unit))), .val 7 (.int .i64), .val 8 (.int .i64)])] }
noncomputable def E20 (k : Nat) : Ctx := mkCx base [(21, D21.fnAt E21 k)]
theorem c20 [Strict] {G : World → Prop} (k : Nat) : Con Tryd.prog G 20 (D20.fnAt E20 k) := Def.con2 mixed (fun k => TypesOK.mk' types _) (fun k => FnsOK.cons (c21 k) (by kernel_rfl) (FnsOK.nil)) D20 Tryd.func20 (by kernel_rfl) (fun k => by kernel_rfl) (fx := []) (fun k => rfl) (by kernel_rfl) k
/-- loop.example/g00218/impl.SerialOrder -/
noncomputable def D7 : Def := { fn := Tryd.f7, code := Tryd.f7.body.getD .skip, ps := [.val (.slice K0)], res := .tup (.pair (.own 3 (.int .i64)) (.val .bool)), pl := [5], L := lookL [(5, [.own 2080 3 (.int .i64), .vat 4 (.slice (.int .i64)) [.r 2080], .var 5 (.slice K1), .own 6 3 (.int .i64)])] }
noncomputable def E7 (k : Nat) : Ctx := mkCx (ldCx base [21]) [(17, D17.fnAt E17 k), (18, D18.fnAt E18 k), (19, D19.fnAt E19 k), (20, D20.fnAt E20 k), (25, delIntFn 3)]
theorem c7 {G : World → Prop} (k : Nat) : Con Tryd.prog G 7 (D7.fnAt E7 k) := Def.con2 mixed (fun k => TypesOK.mk' (TypesOK.ld types [21]) _) (fun k => FnsOK.cons (c17 k) (by kernel_rfl) (FnsOK.cons (c18 k) (by kernel_rfl) (FnsOK.cons (c19 k) (by kernel_rfl) (FnsOK.cons (c20 k) (by kernel_rfl) (FnsOK.cons (Con.delInt Go.Proofs.Tryd.lays223 (by kernel_rfl) 3) (by kernel_rfl) (FnsOK.nil)))))) D7 Tryd.func7 (by kernel_rfl) (fun k => by kernel_rfl) (fx := []) (fun k => rfl) (by kernel_rfl) k
/-- loop.example/g00218/laws.eqIntS -/
noncomputable def D8 : Def := { fn := Tryd.f8, code := Tryd.f8.body.getD .skip, ps := [.val (.slice (.int .i64)), .val (.slice (.int .i64))], res := .val .bool, pl := [4], L := lookL [(4, [.val 0 (.slice (.int .i64)), .val 1 (.slice (.int .i64)), .val 5 (.int .i64)])] }
noncomputable def E8 (k : Nat) : Ctx := mkCx base []
theorem c8 [Strict] {G : World → Prop} (k : Nat) : Con Tryd.prog G 8 (D8.fnAt E8 k) := Def.con2 mixed (fun k => TypesOK.mk' types _) (fun k => FnsOK.nil) D8 Tryd.func8 (by kernel_rfl) (fun k => by kernel_rfl) (fx := []) (fun k => rfl) (by kernel_rfl) k
/-- loop.example/g00218/laws.eqOp -/
noncomputable def D26 : Def := { fn := Tryd.f26, code := Tryd.f26.body.getD .skip, ps := [.val K0, .val K0], res := .val .bool, pl := [], L := lookL [] }
noncomputable def E26 (k : Nat) : Ctx := mkCx base []
theorem c26 [Strict] {G : World → Prop} (k : Nat) : Con Tryd.prog G 26 (D26.fnAt E26 k) := Def.con2 mixed (fun k => TypesOK.mk' types _) (fun k => FnsOK.nil) D26 Tryd.func26 (by kernel_rfl) (fun k => by kernel_rfl) (fx := []) (fun k => rfl) (by kernel_rfl) k
/-- loop.example/g00218/laws.eqOpS -/
noncomputable def D9 : Def := { fn := Tryd.f9, code := Tryd.f9.body.getD .skip, ps := [.val (.slice K0), .val (.slice K0)], res := .val .bool, pl := [4], L := lookL [(4, [.val 0 (.slice K0), .val 1 (.slice K0), .val 5 (.int .i64)])] }
noncomputable def E9 (k : Nat) : Ctx := mkCx base [(26, D26.fnAt E26 k)]
theorem c9 [Strict] {G : World → Prop} (k : Nat) : Con Tryd.prog G 9 (D9.fnAt E9 k) := Def.con2 mixed (fun k => TypesOK.mk' types _) (fun k => FnsOK.cons (c26 k) (by kernel_rfl) (FnsOK.nil)) D9 Tryd.func9 (by kernel_rfl) (fun k => by kernel_rfl) (fx := []) (fun k => rfl) (by kernel_rfl) k
/-- loop.example/g00218/laws.FnExactSerialOrder -/
noncomputable def D3 : Def := { fn := Tryd.f3, code := Tryd.f3.body.getD .skip, ps := [.val (.slice K0)], res := .val .bool, pl := [], L := lookL [] }
noncomputable def E3 (k : Nat) : Ctx := mkCx base [(10, D10.fnAt E10 k), (11, D11.fnAt E11 k), (12, D12.fnAt E12 k), (4, D4.fnAt E4 k), (5, D5.fnAt E5 k), (6, D6.fnAt E6 k), (7, D7.fnAt E7 k), (8, D8.fnAt E8 k), (9, D9.fnAt E9 k)]
theorem c3 {G : World → Prop} (k : Nat) : Con Tryd.prog G 3 (D3.fnAt E3 k) := Def.con2 mixed (fun k => TypesOK.mk' types _) (fun k => FnsOK.cons (c10 k) (by kernel_rfl) (FnsOK.cons (c11 k) (by kernel_rfl) (FnsOK.cons (c12 k) (by kernel_rfl) (FnsOK.cons (c4 k) (by kernel_rfl) (FnsOK.cons (c5 k) (by kernel_rfl) (FnsOK.cons (c6 k) (by kernel_rfl) (FnsOK.cons (c7 k) (by kernel_rfl) (FnsOK.cons (c8 k) (by kernel_rfl) (FnsOK.cons (c9 k) (by kernel_rfl) (FnsOK.nil)))))))))) D3 Tryd.func3 (by kernel_rfl) (fun k => by kernel_rfl) (fx := []) (fun k => rfl) (by kernel_rfl) k
end Go.Proofs.YtfiaplpfimfgiaaDoor.Fms
