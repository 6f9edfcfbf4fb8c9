/- FnExactReadLog, by the functional machine. -/
import Derived.Test.YtecddhkfhkpeaaaDoorTrim
import Derived.Test.YtecddhkfhkpeaaaDoorFmZ
import Derived.Test.YtecddhkfhkpeaaaDoorFmGv
import Derived.Test.YtecddhkfhkpeaaaDoorFmXFnExactReadLogLays
import Derived.Test.YtecddhkfhkpeaaaDoorFmIt
import Derived.Test.YtecddhkfhkpeaaaDoorFmRl
import Derived.Test.YtecddhkfhkpeaaaDoorProg
set_option maxRecDepth 100000
set_option linter.unusedVariables false
open Go Go.Fm
namespace Go.Proofs.YtecddhkfhkpeaaaDoor.Fms
abbrev K0 : Kind := .struct (.pair (.int .i64) (.pair (.int .i64) .bool))
abbrev K1 : Kind := .struct (.pair (.int .i64) (.pair .str (.pair .str K0)))
def table : List TRow := [⟨2, (.int .i64), 0, 0, false, none⟩, ⟨3, (.int .i64), 0, 0, false, none⟩, ⟨4, .bool, 0, 0, false, none⟩, ⟨5, (.int .u8), 0, 0, false, none⟩, ⟨9, .str, 0, 0, false, none⟩, ⟨22, (.slice K1), 2199023255552, 34, false, none⟩, ⟨31, K0, 0, 0, true, none⟩, ⟨32, K0, 0, 0, true, none⟩, ⟨33, K1, 0, 0, true, none⟩, ⟨34, K1, 0, 0, true, none⟩, ⟨44, (.slice .str), 8796093022208, 9, false, none⟩, ⟨46, .err, 0, 0, false, none⟩, ⟨47, .err, 0, 0, false, none⟩, ⟨53, (.slice (.int .u8)), 140737488355328, 5, false, none⟩]
def base : Ctx := ctxOf table
theorem types : TypesOK Tryd.prog base := typesOK_of (by kernel_rfl)
theorem mixed : Tryd.prog.follows .mixedOrders = true := by kernel_rfl
/-- loop.example/g00218/spec.l1In -/
noncomputable def D18 : Def := { fn := Tryd.f18, code := Tryd.f18.body.getD .skip, ps := [.val (.int .i64), .val (.int .i64), .val (.int .i64)], res := .val .bool, pl := [], L := lookL [] }
noncomputable def E18 (k : Nat) : Ctx := mkCx base []
theorem c18 [Strict] (k : Nat) : Con Tryd.prog (HasAll Tryd.prog 0 1 2) 18 (D18.fnAt E18 k) := Def.con2 mixed (fun k => TypesOK.mk' types _) (fun k => FnsOK.nil) D18 Tryd.func18 (by kernel_rfl) (fun k => by kernel_rfl) (fx := []) (fun k => rfl) (by kernel_rfl) k
/-- loop.example/g00218/spec.l6Number -/
noncomputable def D10 : Def := { fn := Tryd.f10, code := Tryd.f10.body.getD .skip, ps := [.val .str], res := .val (.int .i64), pl := [5], L := lookL [(5, [.val 0 .str, .val 3 (.int .i64), .val 4 (.int .i64)])] }
noncomputable def E10 (k : Nat) : Ctx := mkCx base [(18, D18.fnAt E18 k)]
theorem c10 [Strict] (k : Nat) : Con Tryd.prog (HasAll Tryd.prog 0 1 2) 10 (D10.fnAt E10 k) := Def.con2 mixed (fun k => TypesOK.mk' types _) (fun k => FnsOK.cons (c18 k) (by kernel_rfl) (FnsOK.nil)) D10 Tryd.func10 (by kernel_rfl) (fun k => by kernel_rfl) (fx := []) (fun k => rfl) (by kernel_rfl) k
/-- loop.example/g00218/spec.l1Key -/
noncomputable def D30 : Def := { fn := Tryd.f30, code := Tryd.f30.body.getD .skip, ps := [.val .str], res := .val .bool, pl := [2], L := lookL [(2, [.val 0 .str, .val 3 (.int .i64)])] }
noncomputable def E30 (k : Nat) : Ctx := mkCx base [(18, D18.fnAt E18 k)]
theorem c30 [Strict] (k : Nat) : Con Tryd.prog (HasAll Tryd.prog 0 1 2) 30 (D30.fnAt E30 k) := Def.con2 mixed (fun k => TypesOK.mk' types _) (fun k => FnsOK.cons (c18 k) (by kernel_rfl) (FnsOK.nil)) D30 Tryd.func30 (by kernel_rfl) (fun k => by kernel_rfl) (fx := []) (fun k => rfl) (by kernel_rfl) k
/-- loop.example/g00218/spec.l1Value -/
noncomputable def D31 : Def := { fn := Tryd.f31, code := Tryd.f31.body.getD .skip, ps := [.val .str], res := .val .bool, pl := [2], L := lookL [(2, [.val 0 .str, .val 3 (.int .i64)])] }
noncomputable def E31 (k : Nat) : Ctx := mkCx base []
theorem c31 [Strict] (k : Nat) : Con Tryd.prog (HasAll Tryd.prog 0 1 2) 31 (D31.fnAt E31 k) := Def.con2 mixed (fun k => TypesOK.mk' types _) (fun k => FnsOK.nil) D31 Tryd.func31 (by kernel_rfl) (fun k => by kernel_rfl) (fx := []) (fun k => rfl) (by kernel_rfl) k
/-- loop.example/g00218/spec.l1Tid -/
noncomputable def D32 : Def := { fn := Tryd.f32, code := Tryd.f32.body.getD .skip, ps := [.val K0], res := .val .bool, pl := [], L := lookL [] }
noncomputable def E32 (k : Nat) : Ctx := mkCx base [(18, D18.fnAt E18 k)]
theorem c32 [Strict] (k : Nat) : Con Tryd.prog (HasAll Tryd.prog 0 1 2) 32 (D32.fnAt E32 k) := Def.con2 mixed (fun k => TypesOK.mk' types _) (fun k => FnsOK.cons (c18 k) (by kernel_rfl) (FnsOK.nil)) D32 Tryd.func32 (by kernel_rfl) (fun k => by kernel_rfl) (fx := []) (fun k => rfl) (by kernel_rfl) k
/-- loop.example/g00218/spec.l6Entry -/
noncomputable def D19 : Def := { fn := Tryd.f19, code := Tryd.f19.body.getD .skip, ps := [.val K1], res := .val .bool, pl := [], L := lookL [] }
noncomputable def E19 (k : Nat) : Ctx := mkCx base [(18, D18.fnAt E18 k), (30, D30.fnAt E30 k), (31, D31.fnAt E31 k), (32, D32.fnAt E32 k)]
theorem c19 [Strict] (k : Nat) : Con Tryd.prog (HasAll Tryd.prog 0 1 2) 19 (D19.fnAt E19 k) := Def.con2 mixed (fun k => TypesOK.mk' types _) (fun k => FnsOK.cons (c18 k) (by kernel_rfl) (FnsOK.cons (c30 k) (by kernel_rfl) (FnsOK.cons (c31 k) (by kernel_rfl) (FnsOK.cons (c32 k) (by kernel_rfl) (FnsOK.nil))))) D19 Tryd.func19 (by kernel_rfl) (fun k => by kernel_rfl) (fx := []) (fun k => rfl) (by kernel_rfl) k
/-- loop.example/g00218/spec.GoodLog -/
noncomputable def D11 : Def := { fn := Tryd.f11, code := Tryd.f11.body.getD .skip, ps := [.val (.slice K1)], res := .val .bool, pl := [2, 7], L := lookL [(2, [.val 0 (.slice K1), .val 7 (.slice K1), .val 8 (.int .i64), .val 9 (.int .i64)]), (7, [.val 0 (.slice K1), .var 4 K1, .val 7 (.slice K1), .val 8 (.int .i64), .val 9 (.int .i64), .val 19 (.slice K1), .val 20 (.int .i64), .val 21 (.int .i64)])] }
noncomputable def E11 (k : Nat) : Ctx := mkCx base [(19, D19.fnAt E19 k)]
theorem c11 [Strict] (k : Nat) : Con Tryd.prog (HasAll Tryd.prog 0 1 2) 11 (D11.fnAt E11 k) := Def.con2 mixed (fun k => TypesOK.mk' types _) (fun k => FnsOK.cons (c19 k) (by kernel_rfl) (FnsOK.nil)) D11 Tryd.func11 (by kernel_rfl) (fun k => by kernel_rfl) (fx := []) (fun k => rfl) (by kernel_rfl) k
/-- loop.example/g00218/spec.l1Num -/
noncomputable def D20 : Def := { fn := Tryd.f20, code := Tryd.f20.body.getD .skip, ps := [.val (.int .i64)], res := .val .str, pl := [], L := lookL [] }
noncomputable def R20 : Nat → ArgsT D20.ps → Option D20.res.T
  | 0 => fun _ => none
  | k + 1 => D20.F (fun _ => mkCx base [(20, ⟨D20.ps, D20.res, R20 k, []⟩)]) k
theorem c20 [Strict] (k : Nat) : Con Tryd.prog (HasAll Tryd.prog 0 1 2) 20 ⟨D20.ps, D20.res, R20 k, []⟩ := by
  induction k with
  | zero => exact Con.none
  | succ k ih => exact Def.con2 mixed (cxs := fun _ => mkCx base [(20, ⟨D20.ps, D20.res, R20 k, []⟩)]) (fun _ => TypesOK.mk' types _) (fun _ => FnsOK.cons ih (by kernel_rfl) FnsOK.nil) D20 Tryd.func20 (by kernel_rfl) (fun k => by kernel_rfl) (fx := []) (fun k => rfl) (by kernel_rfl) k
/-- loop.example/g00218/spec.l6Text -/
noncomputable def D12 : Def := { fn := Tryd.f12, code := Tryd.f12.body.getD .skip, ps := [.val (.slice K1)], res := .val .str, pl := [3], L := lookL [(3, [.val 3 .str, .val 6 (.slice K1), .val 7 (.int .i64), .val 8 (.int .i64)])] }
noncomputable def E12 (k : Nat) : Ctx := mkCx base [(20, ⟨D20.ps, D20.res, R20 k, []⟩)]
theorem c12 [Strict] (k : Nat) : Con Tryd.prog (HasAll Tryd.prog 0 1 2) 12 (D12.fnAt E12 k) := Def.con2 mixed (fun k => TypesOK.mk' types _) (fun k => FnsOK.cons (c20 k) (by kernel_rfl) (FnsOK.nil)) D12 Tryd.func12 (by kernel_rfl) (fun k => by kernel_rfl) (fx := []) (fun k => rfl) (by kernel_rfl) k
/-- loop.example/g00218/spec.l6Cut -/
noncomputable def D9 : Def := { fn := Tryd.f9, code := Tryd.f9.body.getD .skip, ps := [.val .str, .val (.int .u8)], res := .tup (.pair (.val .str) (.pair (.val .str) (.val .bool))), pl := [2], L := lookL [(2, [.val 0 .str, .val 1 (.int .u8), .val 7 (.int .i64)])] }
noncomputable def E9 (k : Nat) : Ctx := mkCx base []
theorem c9 [Strict] (k : Nat) : Con Tryd.prog (HasAll Tryd.prog 0 1 2) 9 (D9.fnAt E9 k) := Def.con2 mixed (fun k => TypesOK.mk' types _) (fun k => FnsOK.nil) D9 Tryd.func9 (by kernel_rfl) (fun k => by kernel_rfl) (fx := []) (fun k => rfl) (by kernel_rfl) k
/-- loop.example/g00218/spec.ReadLog -/
noncomputable def D4 : Def := { fn := Tryd.f4, code := Tryd.f4.body.getD .skip, ps := [.val .str], res := .tup (.pair (.own 34 K1) (.val .bool)), pl := [3], L := lookL [(3, [.val 0 .str, .own 4 34 K1, .val 5 .str])] }
noncomputable def E4 (k : Nat) : Ctx := mkCx base [(10, D10.fnAt E10 k), (11, D11.fnAt E11 k), (12, D12.fnAt E12 k), (9, D9.fnAt E9 k)]
theorem c4 [Strict] (k : Nat) : Con Tryd.prog (HasAll Tryd.prog 0 1 2) 4 (D4.fnAt E4 k) := Def.con2 mixed (fun k => TypesOK.mk' types _) (fun k => FnsOK.cons (c10 k) (by kernel_rfl) (FnsOK.cons (c11 k) (by kernel_rfl) (FnsOK.cons (c12 k) (by kernel_rfl) (FnsOK.cons (c9 k) (by kernel_rfl) (FnsOK.nil))))) D4 Tryd.func4 (by kernel_rfl) (fun k => by kernel_rfl) (fx := []) (fun k => rfl) (by kernel_rfl) k
/-- loop.example/g00218/impl.in -/
noncomputable def D37 : Def := { fn := Tryd.f37, code := Tryd.f37.body.getD .skip, ps := [.val (.int .i64), .val (.int .i64), .val (.int .i64)], res := .val .bool, pl := [], L := lookL [] }
noncomputable def E37 (k : Nat) : Ctx := mkCx base []
theorem c37 [Strict] (k : Nat) : Con Tryd.prog (HasAll Tryd.prog 0 1 2) 37 (D37.fnAt E37 k) := Def.con2 mixed (fun k => TypesOK.mk' types _) (fun k => FnsOK.nil) D37 Tryd.func37 (by kernel_rfl) (fun k => by kernel_rfl) (fx := []) (fun k => rfl) (by kernel_rfl) k
/-- loop.example/g00218/impl.isKey -/
noncomputable def D38 : Def := { fn := Tryd.f38, code := Tryd.f38.body.getD .skip, ps := [.val .str], res := .val .bool, pl := [], L := lookL [] }
noncomputable def E38 (k : Nat) : Ctx := mkCx base [(55, ⟨[.val .str, .val .str], .val .str, fun v => MapW.strings_Trim.f v.1 v.2.1, []⟩)]
theorem c38 (k : Nat) : Con Tryd.prog (HasAll Tryd.prog 0 1 2) 38 (D38.fnAt E38 k) := Def.con2 mixed (fun k => TypesOK.mk' types _) (fun k => FnsOK.cons (Con.text2 (fun h => h) MapW.strings_Trim.f MapW.strings_Trim.calls) (by kernel_rfl) (FnsOK.nil)) D38 Tryd.func38 (by kernel_rfl) (fun k => by kernel_rfl) (fx := []) (fun k => rfl) (by kernel_rfl) k
/-- loop.example/g00218/impl.isValue -/
noncomputable def D39 : Def := { fn := Tryd.f39, code := Tryd.f39.body.getD .skip, ps := [.val .str], res := .val .bool, pl := [2], L := lookL [(2, [.val 0 .str, .val 5 (.int .i64), .val 6 (.int .i64)])] }
noncomputable def E39 (k : Nat) : Ctx := mkCx base []
theorem c39 [Strict] (k : Nat) : Con Tryd.prog (HasAll Tryd.prog 0 1 2) 39 (D39.fnAt E39 k) := Def.con2 mixed (fun k => TypesOK.mk' types _) (fun k => FnsOK.nil) D39 Tryd.func39 (by kernel_rfl) (fun k => by kernel_rfl) (fx := []) (fun k => rfl) (by kernel_rfl) k
/-- loop.example/g00218/impl.isTid -/
noncomputable def D40 : Def := { fn := Tryd.f40, code := Tryd.f40.body.getD .skip, ps := [.val K0], res := .val .bool, pl := [], L := lookL [] }
noncomputable def E40 (k : Nat) : Ctx := mkCx base [(37, D37.fnAt E37 k)]
theorem c40 [Strict] (k : Nat) : Con Tryd.prog (HasAll Tryd.prog 0 1 2) 40 (D40.fnAt E40 k) := Def.con2 mixed (fun k => TypesOK.mk' types _) (fun k => FnsOK.cons (c37 k) (by kernel_rfl) (FnsOK.nil)) D40 Tryd.func40 (by kernel_rfl) (fun k => by kernel_rfl) (fx := []) (fun k => rfl) (by kernel_rfl) k
/-- loop.example/g00218/impl.isEntry -/
noncomputable def D24 : Def := { fn := Tryd.f24, code := Tryd.f24.body.getD .skip, ps := [.val K1], res := .val .bool, pl := [], L := lookL [] }
noncomputable def E24 (k : Nat) : Ctx := mkCx base [(37, D37.fnAt E37 k), (38, D38.fnAt E38 k), (39, D39.fnAt E39 k), (40, D40.fnAt E40 k)]
theorem c24 (k : Nat) : Con Tryd.prog (HasAll Tryd.prog 0 1 2) 24 (D24.fnAt E24 k) := Def.con2 mixed (fun k => TypesOK.mk' types _) (fun k => FnsOK.cons (c37 k) (by kernel_rfl) (FnsOK.cons (c38 k) (by kernel_rfl) (FnsOK.cons (c39 k) (by kernel_rfl) (FnsOK.cons (c40 k) (by kernel_rfl) (FnsOK.nil))))) D24 Tryd.func24 (by kernel_rfl) (fun k => by kernel_rfl) (fx := []) (fun k => rfl) (by kernel_rfl) k
/-- loop.example/g00218/impl.entryText -/
noncomputable def D25 : Def := { fn := Tryd.f25, code := Tryd.f25.body.getD .skip, ps := [.val K1], res := .val .str, pl := [], L := lookL [] }
noncomputable def E25 (k : Nat) : Ctx := mkCx base [(41, itoaFn)]
theorem c25 [Strict] (k : Nat) : Con Tryd.prog (HasAll Tryd.prog 0 1 2) 25 (D25.fnAt E25 k) := Def.con2 mixed (fun k => TypesOK.mk' types _) (fun k => FnsOK.cons (Con.weak (fun _ h => h.1) (Con.itoa Go.Proofs.Tryd.laysM171 (by kernel_rfl))) (by kernel_rfl) (FnsOK.nil)) D25 Tryd.func25 (by kernel_rfl) (fun k => by kernel_rfl) (fx := []) (fun k => rfl) (by kernel_rfl) k
/-- loop.example/g00218/impl.readEntry -/
noncomputable def D14 : Def := { fn := Tryd.f14, code := Tryd.f14.body.getD .skip, ps := [.val .str], res := .tup (.pair (.val K1) (.val .bool)), pl := [], L := lookL [] }
noncomputable def E14 (k : Nat) : Ctx := mkCx base [(13, cutFn), (22, splitNFn 9), (23, atoiFn), (24, D24.fnAt E24 k), (25, D25.fnAt E25 k)]
theorem c14 (k : Nat) : Con Tryd.prog (HasAll Tryd.prog 0 1 2) 14 (D14.fnAt E14 k) := Def.con2 mixed (fun k => TypesOK.mk' types _) (fun k => FnsOK.cons (Con.cut Go.Proofs.Tryd.laysRl145 (by kernel_rfl) (by kernel_rfl)) (by kernel_rfl) (FnsOK.cons (Con.splitN Go.Proofs.Tryd.laysRl147 (by kernel_rfl) (by kernel_rfl) (by kernel_rfl) (by kernel_rfl)) (by kernel_rfl) (FnsOK.cons (Con.atoi (fun h => h) Go.Proofs.Tryd.laysRl172 (by kernel_rfl) (by kernel_rfl) (by kernel_rfl)) (by kernel_rfl) (FnsOK.cons (c24 k) (by kernel_rfl) (FnsOK.cons (c25 k) (by kernel_rfl) (FnsOK.nil)))))) D14 Tryd.func14 (by kernel_rfl) (fun k => by kernel_rfl) (fx := []) (fun k => rfl) (by kernel_rfl) k
/-- loop.example/g00218/impl.isLog$1 -/
noncomputable def D27 : Def := { fn := Tryd.f27, code := Tryd.f27.body.getD .skip, ps := [.val K1], res := .val .bool, pl := [], L := lookL [] }
noncomputable def E27 (k : Nat) : Ctx := mkCx base [(24, D24.fnAt E24 k)]
theorem c27 (k : Nat) : Con Tryd.prog (HasAll Tryd.prog 0 1 2) 27 (D27.fnAt E27 k) := Def.con2 mixed (fun k => TypesOK.mk' types _) (fun k => FnsOK.cons (c24 k) (by kernel_rfl) (FnsOK.nil)) D27 Tryd.func27 (by kernel_rfl) (fun k => by kernel_rfl) (fx := []) (fun k => rfl) (by kernel_rfl) k
/-- slices.IndexFunc[[]loop.example/g00218/impl.Entry,loop.example/g00218/impl.Entry] -/
noncomputable def D42 : Def := { fn := Tryd.f42, code := Tryd.f42.body.getD .skip, ps := [.val (.slice K1), .val (.clo 27 .unit)], res := .val (.int .i64), pl := [2], L := lookL [(2, [.val 0 (.slice K1), .val 1 (.clo 27 .unit), .val 7 (.int .i64), .val 8 (.int .i64)])] }
noncomputable def E42 (k : Nat) : Ctx := mkCx base [(27, D27.fnAt E27 k)]
theorem c42 (k : Nat) : Con Tryd.prog (HasAll Tryd.prog 0 1 2) 42 (D42.fnAt E42 k) := Def.con2 mixed (fun k => TypesOK.mk' types _) (fun k => FnsOK.cons (c27 k) (by kernel_rfl) (FnsOK.nil)) D42 Tryd.func42 (by kernel_rfl) (fun k => by kernel_rfl) (fx := []) (fun k => rfl) (by kernel_rfl) k
/-- slices.ContainsFunc[[]loop.example/g00218/impl.Entry,loop.example/g00218/impl.Entry] -/
noncomputable def D26 : Def := { fn := Tryd.f26, code := Tryd.f26.body.getD .skip, ps := [.val (.slice K1), .val (.clo 27 .unit)], res := .val .bool, pl := [], L := lookL [] }
noncomputable def E26 (k : Nat) : Ctx := mkCx base [(42, D42.fnAt E42 k)]
theorem c26 (k : Nat) : Con Tryd.prog (HasAll Tryd.prog 0 1 2) 26 (D26.fnAt E26 k) := Def.con2 mixed (fun k => TypesOK.mk' types _) (fun k => FnsOK.cons (c42 k) (by kernel_rfl) (FnsOK.nil)) D26 Tryd.func26 (by kernel_rfl) (fun k => by kernel_rfl) (fx := []) (fun k => rfl) (by kernel_rfl) k
/-- loop.example/g00218/impl.areAlike -/
noncomputable def D28 : Def := { fn := Tryd.f28, code := Tryd.f28.body.getD .skip, ps := [.val (.slice K1)], res := .val .bool, pl := [2, 5], L := lookL [(2, [.val 0 (.slice K1), .val 7 (.slice K1), .val 8 (.int .i64), .val 9 (.int .i64)]), (5, [.val 0 (.slice K1), .var 4 K1, .val 7 (.slice K1), .val 8 (.int .i64), .val 9 (.int .i64), .val 16 (.slice K1), .val 17 (.int .i64), .val 18 (.int .i64)])] }
noncomputable def E28 (k : Nat) : Ctx := mkCx base []
theorem c28 [Strict] (k : Nat) : Con Tryd.prog (HasAll Tryd.prog 0 1 2) 28 (D28.fnAt E28 k) := Def.con2 mixed (fun k => TypesOK.mk' types _) (fun k => FnsOK.nil) D28 Tryd.func28 (by kernel_rfl) (fun k => by kernel_rfl) (fx := []) (fun k => rfl) (by kernel_rfl) k
/-- loop.example/g00218/impl.isLog -/
noncomputable def D15 : Def := { fn := Tryd.f15, code := Tryd.f15.body.getD .skip, ps := [.val (.slice K1)], res := .val .bool, pl := [], L := lookL [] }
noncomputable def E15 (k : Nat) : Ctx := mkCx base [(26, D26.fnAt E26 k), (28, D28.fnAt E28 k)]
theorem c15 (k : Nat) : Con Tryd.prog (HasAll Tryd.prog 0 1 2) 15 (D15.fnAt E15 k) := Def.con2 mixed (fun k => TypesOK.mk' types _) (fun k => FnsOK.cons (c26 k) (by kernel_rfl) (FnsOK.cons (c28 k) (by kernel_rfl) (FnsOK.nil))) D15 Tryd.func15 (by kernel_rfl) (fun k => by kernel_rfl) (fx := []) (fun k => rfl) (by kernel_rfl) k
/-- loop.example/g00218/impl.ReadLog -/
noncomputable def D5 : Def := { fn := Tryd.f5, code := Tryd.f5.body.getD .skip, ps := [.val .str], res := .tup (.pair (.own 34 K1) (.val .bool)), pl := [2], L := lookL [(2, [.val 0 .str, .own 4 34 K1])] }
noncomputable def E5 (k : Nat) : Ctx := mkCx base [(13, cutFn), (14, D14.fnAt E14 k), (15, D15.fnAt E15 k)]
theorem c5 (k : Nat) : Con Tryd.prog (HasAll Tryd.prog 0 1 2) 5 (D5.fnAt E5 k) := Def.con2 mixed (fun k => TypesOK.mk' types _) (fun k => FnsOK.cons (Con.cut Go.Proofs.Tryd.laysRl145 (by kernel_rfl) (by kernel_rfl)) (by kernel_rfl) (FnsOK.cons (c14 k) (by kernel_rfl) (FnsOK.cons (c15 k) (by kernel_rfl) (FnsOK.nil)))) D5 Tryd.func5 (by kernel_rfl) (fun k => by kernel_rfl) (fx := []) (fun k => rfl) (by kernel_rfl) k
/-- loop.example/g00218/laws.eqTid -/
noncomputable def D29 : Def := { fn := Tryd.f29, code := Tryd.f29.body.getD .skip, ps := [.val K0, .val K0], res := .val .bool, pl := [], L := lookL [] }
noncomputable def E29 (k : Nat) : Ctx := mkCx base []
theorem c29 [Strict] (k : Nat) : Con Tryd.prog (HasAll Tryd.prog 0 1 2) 29 (D29.fnAt E29 k) := Def.con2 mixed (fun k => TypesOK.mk' types _) (fun k => FnsOK.nil) D29 Tryd.func29 (by kernel_rfl) (fun k => by kernel_rfl) (fx := []) (fun k => rfl) (by kernel_rfl) k
/-- loop.example/g00218/laws.eqEntry -/
noncomputable def D16 : Def := { fn := Tryd.f16, code := Tryd.f16.body.getD .skip, ps := [.val K1, .val K1], res := .val .bool, pl := [], L := lookL [] }
noncomputable def E16 (k : Nat) : Ctx := mkCx base [(29, D29.fnAt E29 k)]
theorem c16 [Strict] (k : Nat) : Con Tryd.prog (HasAll Tryd.prog 0 1 2) 16 (D16.fnAt E16 k) := Def.con2 mixed (fun k => TypesOK.mk' types _) (fun k => FnsOK.cons (c29 k) (by kernel_rfl) (FnsOK.nil)) D16 Tryd.func16 (by kernel_rfl) (fun k => by kernel_rfl) (fx := []) (fun k => rfl) (by kernel_rfl) k
/-- loop.example/g00218/laws.eqEntryS -/
noncomputable def D6 : Def := { fn := Tryd.f6, code := Tryd.f6.body.getD .skip, ps := [.val (.slice K1), .val (.slice K1)], res := .val .bool, pl := [4], L := lookL [(4, [.val 0 (.slice K1), .val 1 (.slice K1), .val 5 (.int .i64)])] }
noncomputable def E6 (k : Nat) : Ctx := mkCx base [(16, D16.fnAt E16 k)]
theorem c6 [Strict] (k : Nat) : Con Tryd.prog (HasAll Tryd.prog 0 1 2) 6 (D6.fnAt E6 k) := Def.con2 mixed (fun k => TypesOK.mk' types _) (fun k => FnsOK.cons (c16 k) (by kernel_rfl) (FnsOK.nil)) D6 Tryd.func6 (by kernel_rfl) (fun k => by kernel_rfl) (fx := []) (fun k => rfl) (by kernel_rfl) k
/-- loop.example/g00218/laws.markText -/
noncomputable def D17 : Def := { fn := Tryd.f17, code := Tryd.f17.body.getD .skip, ps := [.val (.int .i64)], res := .val .str, pl := [4], L := lookL [(4, [.val 0 (.int .i64), .val 3 .str])] }
noncomputable def E17 (k : Nat) : Ctx := mkCx base []
theorem c17 [Strict] (k : Nat) : Con Tryd.prog (HasAll Tryd.prog 0 1 2) 17 (D17.fnAt E17 k) := Def.con2 mixed (fun k => TypesOK.mk' types _) (fun k => FnsOK.nil) D17 Tryd.func17 (by kernel_rfl) (fun k => by kernel_rfl) (fx := []) (fun k => rfl) (by kernel_rfl) k
/-- loop.example/g00218/laws.markEntryS -/
noncomputable def D7 : Def := { fn := Tryd.f7, code := Tryd.f7.body.getD .skip, ps := [.own 34 K1, .val (.int .i64)], res := .back 0 34 K1 (.val (.int .i64)), pl := [2], L := lookL [(2, [.own 0 34 K1, .val 1 (.int .i64), .val 5 (.int .i64)])] }
noncomputable def E7 (k : Nat) : Ctx := mkCx (fxCx base [0]) [(17, D17.fnAt E17 k)]
theorem c7 [Strict] (k : Nat) : Con Tryd.prog (HasAll Tryd.prog 0 1 2) 7 (D7.fnAt E7 k) := Def.con2 mixed (fun k => TypesOK.mk' (types.fx [0]) _) (fun k => FnsOK.cons (c17 k) (by kernel_rfl) (FnsOK.nil)) D7 Tryd.func7 (by kernel_rfl) (fun k => by kernel_rfl) (fx := [0]) (fun k => rfl) (by kernel_rfl) k
/-- loop.example/g00218/laws.heldEntryS -/
noncomputable def D8 : Def := { fn := Tryd.f8, code := Tryd.f8.body.getD .skip, ps := [.val (.slice K1), .val (.int .i64)], res := .val (.int .i64), pl := [2], L := lookL [(2, [.val 0 (.slice K1), .val 1 (.int .i64), .val 5 (.int .i64)])] }
noncomputable def E8 (k : Nat) : Ctx := mkCx base [(17, D17.fnAt E17 k)]
theorem c8 [Strict] (k : Nat) : Con Tryd.prog (HasAll Tryd.prog 0 1 2) 8 (D8.fnAt E8 k) := Def.con2 mixed (fun k => TypesOK.mk' types _) (fun k => FnsOK.cons (c17 k) (by kernel_rfl) (FnsOK.nil)) D8 Tryd.func8 (by kernel_rfl) (fun k => by kernel_rfl) (fx := []) (fun k => rfl) (by kernel_rfl) k
/-- loop.example/g00218/laws.FnExactReadLog -/
noncomputable def D3 : Def := { fn := Tryd.f3, code := Tryd.f3.body.getD .skip, ps := [.val .str], res := .val .bool, pl := [], L := lookL [] }
noncomputable def E3 (k : Nat) : Ctx := mkCx base [(4, D4.fnAt E4 k), (5, D5.fnAt E5 k), (6, D6.fnAt E6 k), (7, D7.fnAt E7 k), (8, D8.fnAt E8 k)]
theorem c3 (k : Nat) : Con Tryd.prog (HasAll Tryd.prog 0 1 2) 3 (D3.fnAt E3 k) := Def.con2 mixed (fun k => TypesOK.mk' types _) (fun k => FnsOK.cons (c4 k) (by kernel_rfl) (FnsOK.cons (c5 k) (by kernel_rfl) (FnsOK.cons (c6 k) (by kernel_rfl) (FnsOK.cons (c7 k) (by kernel_rfl) (FnsOK.cons (c8 k) (by kernel_rfl) (FnsOK.nil)))))) D3 Tryd.func3 (by kernel_rfl) (fun k => by kernel_rfl) (fx := []) (fun k => rfl) (by kernel_rfl) k
end Go.Proofs.YtecddhkfhkpeaaaDoor.Fms
