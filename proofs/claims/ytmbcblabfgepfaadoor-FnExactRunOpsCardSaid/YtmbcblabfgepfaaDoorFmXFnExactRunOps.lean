/- FnExactRunOps, by the functional machine. -/
import Derived.Test.YtmbcblabfgepfaaDoorTrim
import Derived.Test.YtmbcblabfgepfaaDoorFmZ
import Derived.Test.YtmbcblabfgepfaaDoorFmGv
import Derived.Test.YtmbcblabfgepfaaDoorFmXFnExactRunOpsLays
import Derived.Test.YtmbcblabfgepfaaDoorFmIt
import Derived.Test.YtmbcblabfgepfaaDoorFmKy
import Derived.Test.YtmbcblabfgepfaaDoorProg
set_option maxRecDepth 100000
set_option linter.unusedVariables false
open Go Go.Fm
namespace Go.Proofs.YtmbcblabfgepfaaDoor.Fms
abbrev K2 : Kind := .struct (.slice .str)
abbrev K1 : Kind := .struct (.pair .str .str)
abbrev K0 : Kind := .struct (.pair (.int .i64) (.pair (.int .i64) .str))
def table : List TRow := [⟨1, .fnk, 0, 0, false, none⟩, ⟨2, (.int .i64), 0, 0, false, none⟩, ⟨3, (.int .i64), 0, 0, false, none⟩, ⟨4, .bool, 0, 0, false, none⟩, ⟨5, (.int .u8), 0, 0, false, none⟩, ⟨9, .str, 0, 0, false, none⟩, ⟨22, (.slice K0), 4398046511104, 39, false, none⟩, ⟨24, (.slice .str), 8796093022208, 9, false, none⟩, ⟨25, (.slice K1), 4398046511104, 48, false, none⟩, ⟨28, (.slice K0), 4398046511104, 43, false, none⟩, ⟨38, K0, 0, 0, true, none⟩, ⟨39, K0, 0, 0, true, none⟩, ⟨41, (.slice (.int .i64)), 17592186044416, 3, false, none⟩, ⟨42, (.slice (.slice .str)), 5864062014805, 24, false, none⟩, ⟨43, K0, 0, 0, true, none⟩, ⟨47, K1, 0, 0, true, none⟩, ⟨48, K1, 0, 0, true, none⟩, ⟨56, (.slice (.int .u8)), 140737488355328, 5, false, none⟩, ⟨57, (.arr 9 .bool), 0, 0, true, none⟩, ⟨58, .unit, 0, 0, false, some (9, 9)⟩, ⟨59, (.arr 9 (.int .i64)), 0, 0, true, none⟩, ⟨60, (.arr 9 (.slice .str)), 0, 0, false, none⟩, ⟨64, .fnk, 0, 0, false, none⟩, ⟨65, .fnk, 0, 0, false, none⟩]
def base : Ctx := ctxOf table
theorem types : TypesOK Tryd.prog base := typesOK_of (by kernel_rfl)
theorem mixed : Tryd.prog.follows .mixedOrders = true := by kernel_rfl
/-- loop.example/g00218/laws.eqOp -/
noncomputable def D25 : Def := { fn := Tryd.f25, code := Tryd.f25.body.getD .skip, ps := [.val K0, .val K0], res := .val .bool, pl := [], L := lookL [] }
noncomputable def E25 (k : Nat) : Ctx := mkCx base []
theorem c25 [Strict] (k : Nat) : Con Tryd.prog (HasTab Tryd.prog) 25 (D25.fnAt E25 k) := Def.con2 mixed (fun k => TypesOK.mk' types _) (fun k => FnsOK.nil) D25 Tryd.func25 (by kernel_rfl) (fun k => by kernel_rfl) (fx := []) (fun k => rfl) (by kernel_rfl) k
/-- loop.example/g00218/laws.eqOpS -/
noncomputable def D10 : Def := { fn := Tryd.f10, code := Tryd.f10.body.getD .skip, ps := [.val (.slice K0), .val (.slice K0)], res := .val .bool, pl := [4], L := lookL [(4, [.val 0 (.slice K0), .val 1 (.slice K0), .val 5 (.int .i64)])] }
noncomputable def E10 (k : Nat) : Ctx := mkCx base [(25, D25.fnAt E25 k)]
theorem c10 [Strict] (k : Nat) : Con Tryd.prog (HasTab Tryd.prog) 10 (D10.fnAt E10 k) := Def.con2 mixed (fun k => TypesOK.mk' types _) (fun k => FnsOK.cons (c25 k) (by kernel_rfl) (FnsOK.nil)) D10 Tryd.func10 (by kernel_rfl) (fun k => by kernel_rfl) (fx := []) (fun k => rfl) (by kernel_rfl) k
/-- loop.example/g00218/laws.markText -/
noncomputable def D26 : Def := { fn := Tryd.f26, code := Tryd.f26.body.getD .skip, ps := [.val (.int .i64)], res := .val .str, pl := [4], L := lookL [(4, [.val 0 (.int .i64), .val 3 .str])] }
noncomputable def E26 (k : Nat) : Ctx := mkCx base []
theorem c26 [Strict] (k : Nat) : Con Tryd.prog (HasTab Tryd.prog) 26 (D26.fnAt E26 k) := Def.con2 mixed (fun k => TypesOK.mk' types _) (fun k => FnsOK.nil) D26 Tryd.func26 (by kernel_rfl) (fun k => by kernel_rfl) (fx := []) (fun k => rfl) (by kernel_rfl) k
/-- loop.example/g00218/laws.markOpS -/
noncomputable def D11 : Def := { fn := Tryd.f11, code := Tryd.f11.body.getD .skip, ps := [.own 43 K0, .val (.int .i64)], res := .back 0 43 K0 (.val (.int .i64)), pl := [2], L := lookL [(2, [.own 0 43 K0, .val 1 (.int .i64), .val 5 (.int .i64)])] }
noncomputable def E11 (k : Nat) : Ctx := mkCx (fxCx base [0]) [(26, D26.fnAt E26 k)]
theorem c11 [Strict] (k : Nat) : Con Tryd.prog (HasTab Tryd.prog) 11 (D11.fnAt E11 k) := Def.con2 mixed (fun k => TypesOK.mk' (types.fx [0]) _) (fun k => FnsOK.cons (c26 k) (by kernel_rfl) (FnsOK.nil)) D11 Tryd.func11 (by kernel_rfl) (fun k => by kernel_rfl) (fx := [0]) (fun k => rfl) (by kernel_rfl) k
/-- loop.example/g00218/laws.markStringS -/
noncomputable def D12 : Def := { fn := Tryd.f12, code := Tryd.f12.body.getD .skip, ps := [.own 9 .str, .val (.int .i64)], res := .back 0 9 .str (.val (.int .i64)), pl := [2], L := lookL [(2, [.own 0 9 .str, .val 1 (.int .i64), .val 5 (.int .i64)])] }
noncomputable def E12 (k : Nat) : Ctx := mkCx (fxCx base [0]) [(26, D26.fnAt E26 k)]
theorem c12 [Strict] (k : Nat) : Con Tryd.prog (HasTab Tryd.prog) 12 (D12.fnAt E12 k) := Def.con2 mixed (fun k => TypesOK.mk' (types.fx [0]) _) (fun k => FnsOK.cons (c26 k) (by kernel_rfl) (FnsOK.nil)) D12 Tryd.func12 (by kernel_rfl) (fun k => by kernel_rfl) (fx := [0]) (fun k => rfl) (by kernel_rfl) k
/-- loop.example/g00218/laws.markCellS -/
noncomputable def D13 : Def := { fn := Tryd.f13, code := Tryd.f13.body.getD .skip, ps := [.own 48 K1, .val (.int .i64)], res := .back 0 48 K1 (.val (.int .i64)), pl := [2], L := lookL [(2, [.own 0 48 K1, .val 1 (.int .i64), .val 5 (.int .i64)])] }
noncomputable def E13 (k : Nat) : Ctx := mkCx (fxCx base [0]) [(26, D26.fnAt E26 k)]
theorem c13 [Strict] (k : Nat) : Con Tryd.prog (HasTab Tryd.prog) 13 (D13.fnAt E13 k) := Def.con2 mixed (fun k => TypesOK.mk' (types.fx [0]) _) (fun k => FnsOK.cons (c26 k) (by kernel_rfl) (FnsOK.nil)) D13 Tryd.func13 (by kernel_rfl) (fun k => by kernel_rfl) (fx := [0]) (fun k => rfl) (by kernel_rfl) k
/-- loop.example/g00218/laws.heldStringS -/
noncomputable def D14 : Def := { fn := Tryd.f14, code := Tryd.f14.body.getD .skip, ps := [.val (.slice .str), .val (.int .i64)], res := .val (.int .i64), pl := [2], L := lookL [(2, [.val 0 (.slice .str), .val 1 (.int .i64), .val 5 (.int .i64)])] }
noncomputable def E14 (k : Nat) : Ctx := mkCx base [(26, D26.fnAt E26 k)]
theorem c14 [Strict] (k : Nat) : Con Tryd.prog (HasTab Tryd.prog) 14 (D14.fnAt E14 k) := Def.con2 mixed (fun k => TypesOK.mk' types _) (fun k => FnsOK.cons (c26 k) (by kernel_rfl) (FnsOK.nil)) D14 Tryd.func14 (by kernel_rfl) (fun k => by kernel_rfl) (fx := []) (fun k => rfl) (by kernel_rfl) k
/-- loop.example/g00218/laws.heldCellS -/
noncomputable def D15 : Def := { fn := Tryd.f15, code := Tryd.f15.body.getD .skip, ps := [.val (.slice K1), .val (.int .i64)], res := .val (.int .i64), pl := [2], L := lookL [(2, [.val 0 (.slice K1), .val 1 (.int .i64), .val 5 (.int .i64)])] }
noncomputable def E15 (k : Nat) : Ctx := mkCx base [(26, D26.fnAt E26 k)]
theorem c15 [Strict] (k : Nat) : Con Tryd.prog (HasTab Tryd.prog) 15 (D15.fnAt E15 k) := Def.con2 mixed (fun k => TypesOK.mk' types _) (fun k => FnsOK.cons (c26 k) (by kernel_rfl) (FnsOK.nil)) D15 Tryd.func15 (by kernel_rfl) (fun k => by kernel_rfl) (fx := []) (fun k => rfl) (by kernel_rfl) k
/-- loop.example/g00218/laws.szOp -/
noncomputable def D16 : Def := { fn := Tryd.f16, code := Tryd.f16.body.getD .skip, ps := [.val K0, .val (.int .i64)], res := .val (.int .i64), pl := [], L := lookL [] }
noncomputable def E16 (k : Nat) : Ctx := mkCx base []
theorem c16 [Strict] (k : Nat) : Con Tryd.prog (HasTab Tryd.prog) 16 (D16.fnAt E16 k) := Def.con2 mixed (fun k => TypesOK.mk' types _) (fun k => FnsOK.nil) D16 Tryd.func16 (by kernel_rfl) (fun k => by kernel_rfl) (fx := []) (fun k => rfl) (by kernel_rfl) k
/-- loop.example/g00218/laws.szOpS -/
noncomputable def D4 : Def := { fn := Tryd.f4, code := Tryd.f4.body.getD .skip, ps := [.val (.slice K0), .val (.int .i64)], res := .val (.int .i64), pl := [5], L := lookL [(5, [.val 0 (.slice K0), .val 1 (.int .i64), .val 5 (.int .i64)])] }
noncomputable def E4 (k : Nat) : Ctx := mkCx base [(16, D16.fnAt E16 k)]
theorem c4 [Strict] (k : Nat) : Con Tryd.prog (HasTab Tryd.prog) 4 (D4.fnAt E4 k) := Def.con2 mixed (fun k => TypesOK.mk' types _) (fun k => FnsOK.cons (c16 k) (by kernel_rfl) (FnsOK.nil)) D4 Tryd.func4 (by kernel_rfl) (fun k => by kernel_rfl) (fx := []) (fun k => rfl) (by kernel_rfl) k
/-- loop.example/g00218/spec.l1In -/
noncomputable def D27 : Def := { fn := Tryd.f27, code := Tryd.f27.body.getD .skip, ps := [.val (.int .i64), .val (.int .i64), .val (.int .i64)], res := .val .bool, pl := [], L := lookL [] }
noncomputable def E27 (k : Nat) : Ctx := mkCx base []
theorem c27 [Strict] (k : Nat) : Con Tryd.prog (HasTab Tryd.prog) 27 (D27.fnAt E27 k) := Def.con2 mixed (fun k => TypesOK.mk' types _) (fun k => FnsOK.nil) D27 Tryd.func27 (by kernel_rfl) (fun k => by kernel_rfl) (fx := []) (fun k => rfl) (by kernel_rfl) k
/-- loop.example/g00218/spec.l1Key -/
noncomputable def D28 : Def := { fn := Tryd.f28, code := Tryd.f28.body.getD .skip, ps := [.val .str], res := .val .bool, pl := [2], L := lookL [(2, [.val 0 .str, .val 3 (.int .i64)])] }
noncomputable def E28 (k : Nat) : Ctx := mkCx base [(27, D27.fnAt E27 k)]
theorem c28 [Strict] (k : Nat) : Con Tryd.prog (HasTab Tryd.prog) 28 (D28.fnAt E28 k) := Def.con2 mixed (fun k => TypesOK.mk' types _) (fun k => FnsOK.cons (c27 k) (by kernel_rfl) (FnsOK.nil)) D28 Tryd.func28 (by kernel_rfl) (fun k => by kernel_rfl) (fx := []) (fun k => rfl) (by kernel_rfl) k
/-- loop.example/g00218/spec.GoodOps -/
noncomputable def D17 : Def := { fn := Tryd.f17, code := Tryd.f17.body.getD .skip, ps := [.val (.slice K0)], res := .val .bool, pl := [4, 11], L := lookL [(4, [.val 0 (.slice K0), .val 12 (.slice K0), .val 13 (.int .i64), .val 14 (.int .i64)]), (11, [.val 0 (.slice K0), .var 4 K0, .val 5 .bool, .val 6 .bool, .val 12 (.slice K0), .val 13 (.int .i64), .val 14 (.int .i64), .val 52 (.slice K0), .val 53 (.int .i64), .val 54 (.int .i64)])] }
noncomputable def E17 (k : Nat) : Ctx := mkCx base [(27, D27.fnAt E27 k), (28, D28.fnAt E28 k)]
theorem c17 [Strict] (k : Nat) : Con Tryd.prog (HasTab Tryd.prog) 17 (D17.fnAt E17 k) := Def.con2 mixed (fun k => TypesOK.mk' types _) (fun k => FnsOK.cons (c27 k) (by kernel_rfl) (FnsOK.cons (c28 k) (by kernel_rfl) (FnsOK.nil))) D17 Tryd.func17 (by kernel_rfl) (fun k => by kernel_rfl) (fx := []) (fun k => rfl) (by kernel_rfl) k
/-- loop.example/g00218/spec.l3Value -/
noncomputable def D18 : Def := { fn := Tryd.f18, code := Tryd.f18.body.getD .skip, ps := [.val (.slice K1), .val .str], res := .val .str, pl := [2], L := lookL [(2, [.val 1 .str, .val 7 (.slice K1), .val 8 (.int .i64), .val 9 (.int .i64)])] }
noncomputable def E18 (k : Nat) : Ctx := mkCx base []
theorem c18 [Strict] (k : Nat) : Con Tryd.prog (HasTab Tryd.prog) 18 (D18.fnAt E18 k) := Def.con2 mixed (fun k => TypesOK.mk' types _) (fun k => FnsOK.nil) D18 Tryd.func18 (by kernel_rfl) (fun k => by kernel_rfl) (fx := []) (fun k => rfl) (by kernel_rfl) k
/-- loop.example/g00218/spec.l1Num -/
noncomputable def D19 : Def := { fn := Tryd.f19, code := Tryd.f19.body.getD .skip, ps := [.val (.int .i64)], res := .val .str, pl := [], L := lookL [] }
noncomputable def R19 : Nat → ArgsT D19.ps → Option D19.res.T
  | 0 => fun _ => none
  | k + 1 => D19.F (fun _ => mkCx base [(19, ⟨D19.ps, D19.res, R19 k, D19.sh⟩)]) k
noncomputable def E19 (k : Nat) : Ctx := mkCx base [(19, ⟨D19.ps, D19.res, R19 k, D19.sh⟩)]
theorem c19 [Strict] (k : Nat) : Con Tryd.prog (HasTab Tryd.prog) 19 ⟨D19.ps, D19.res, R19 k, D19.sh⟩ := by
  induction k with
  | zero => exact Con.none
  | succ k ih => exact Def.con2 mixed (cxs := fun _ => E19 k) (fun _ => TypesOK.mk' types _) (fun _ => FnsOK.cons (ih) (by kernel_rfl) (FnsOK.nil)) D19 Tryd.func19 (by kernel_rfl) (fun _ => by kernel_rfl) (fx := []) (fun _ => rfl) (by kernel_rfl) k
/-- loop.example/g00218/spec.l3Cells -/
noncomputable def D20 : Def := { fn := Tryd.f20, code := Tryd.f20.body.getD .skip, ps := [.val (.slice K1), .val K1], res := .own 48 K1, pl := [2, 9], L := lookL [(2, [.val 0 (.slice K1), .var 3 K1, .val 5 (.int .i64)]), (9, [.val 0 (.slice K1), .val 5 (.int .i64), .own 6 48 K1])] }
noncomputable def E20 (k : Nat) : Ctx := mkCx base []
theorem c20 [Strict] (k : Nat) : Con Tryd.prog (HasTab Tryd.prog) 20 (D20.fnAt E20 k) := Def.con2 mixed (fun k => TypesOK.mk' types _) (fun k => FnsOK.nil) D20 Tryd.func20 (by kernel_rfl) (fun k => by kernel_rfl) (fx := []) (fun k => rfl) (by kernel_rfl) k
/-- loop.example/g00218/spec.RunOps -/
noncomputable def D5 : Def := { fn := Tryd.f5, code := Tryd.f5.body.getD .skip, ps := [.val (.slice K0)], res := .tup (.pair (.own 9 .str) (.pair (.own 48 K1) (.val .bool))), pl := [8, 17, 21], L := lookL [(8, [.own 5 48 K1, .own 6 3 (.int .i64), .own 7 3 (.int .i64), .deep 8 24 K2 [9], .val 21 (.slice K0), .val 22 (.int .i64), .val 23 (.int .i64)]), (17, [.own 5 48 K1, .own 6 3 (.int .i64), .own 7 3 (.int .i64), .deep 8 24 K2 [9], .var 10 K0, .val 21 (.slice K0), .val 22 (.int .i64), .val 23 (.int .i64)]), (21, [.own 5 48 K1, .own 12 9 .str, .deep 99 24 K2 [9], .val 100 (.int .i64), .val 101 (.int .i64)])] }
noncomputable def E5 (k : Nat) : Ctx := mkCx (dpCx base [(42, [9])]) [(17, D17.fnAt E17 k), (18, D18.fnAt E18 k), (19, ⟨D19.ps, D19.res, R19 k, D19.sh⟩), (20, D20.fnAt E20 k)]
theorem c5 [Strict] (k : Nat) : Con Tryd.prog (HasTab Tryd.prog) 5 (D5.fnAt E5 k) := Def.con2 mixed (fun k => TypesOK.mk' (TypesOK.dp types [(42, [9])]) _) (fun k => FnsOK.cons (c17 k) (by kernel_rfl) (FnsOK.cons (c18 k) (by kernel_rfl) (FnsOK.cons (c19 k) (by kernel_rfl) (FnsOK.cons (c20 k) (by kernel_rfl) (FnsOK.nil))))) D5 Tryd.func5 (by kernel_rfl) (fun k => by kernel_rfl) (fx := []) (fun k => rfl) (by kernel_rfl) k
/-- loop.example/g00218/laws.toOp -/
noncomputable def D21 : Def := { fn := Tryd.f21, code := Tryd.f21.body.getD .skip, ps := [.val K0], res := .val K0, pl := [], L := lookL [] }
noncomputable def E21 (k : Nat) : Ctx := mkCx base []
theorem c21 [Strict] (k : Nat) : Con Tryd.prog (HasTab Tryd.prog) 21 (D21.fnAt E21 k) := Def.con2 mixed (fun k => TypesOK.mk' types _) (fun k => FnsOK.nil) D21 Tryd.func21 (by kernel_rfl) (fun k => by kernel_rfl) (fx := []) (fun k => rfl) (by kernel_rfl) k
/-- loop.example/g00218/laws.toOpS -/
noncomputable def D6 : Def := { fn := Tryd.f6, code := Tryd.f6.body.getD .skip, ps := [.val (.slice K0)], res := .own 43 K0, pl := [3], L := lookL [(3, [.val 0 (.slice K0), .own 3 43 K0, .val 4 (.int .i64)])] }
noncomputable def E6 (k : Nat) : Ctx := mkCx base [(21, D21.fnAt E21 k)]
theorem c6 [Strict] (k : Nat) : Con Tryd.prog (HasTab Tryd.prog) 6 (D6.fnAt E6 k) := Def.con2 mixed (fun k => TypesOK.mk' types _) (fun k => FnsOK.cons (c21 k) (by kernel_rfl) (FnsOK.nil)) D6 Tryd.func6 (by kernel_rfl) (fun k => by kernel_rfl) (fx := []) (fun k => rfl) (by kernel_rfl) k
/-- loop.example/g00218/impl.in -/
noncomputable def D29 : Def := { fn := Tryd.f29, code := Tryd.f29.body.getD .skip, ps := [.val (.int .i64), .val (.int .i64), .val (.int .i64)], res := .val .bool, pl := [], L := lookL [] }
noncomputable def E29 (k : Nat) : Ctx := mkCx base []
theorem c29 [Strict] (k : Nat) : Con Tryd.prog (HasTab Tryd.prog) 29 (D29.fnAt E29 k) := Def.con2 mixed (fun k => TypesOK.mk' types _) (fun k => FnsOK.nil) D29 Tryd.func29 (by kernel_rfl) (fun k => by kernel_rfl) (fx := []) (fun k => rfl) (by kernel_rfl) k
/-- loop.example/g00218/impl.isKey -/
noncomputable def D30 : Def := { fn := Tryd.f30, code := Tryd.f30.body.getD .skip, ps := [.val .str], res := .val .bool, pl := [], L := lookL [] }
noncomputable def E30 (k : Nat) : Ctx := mkCx base [(33, ⟨[.val .str, .val .str], .val .str, fun v => MapW.strings_Trim.f v.1 v.2.1, []⟩)]
theorem c30 (k : Nat) : Con Tryd.prog (HasTab Tryd.prog) 30 (D30.fnAt E30 k) := Def.con2 mixed (fun k => TypesOK.mk' types _) (fun k => FnsOK.cons (Con.text2 (fun h => h) MapW.strings_Trim.f MapW.strings_Trim.calls) (by kernel_rfl) (FnsOK.nil)) D30 Tryd.func30 (by kernel_rfl) (fun k => by kernel_rfl) (fx := []) (fun k => rfl) (by kernel_rfl) k
/-- loop.example/g00218/impl.areOps -/
noncomputable def D22 : Def := { fn := Tryd.f22, code := Tryd.f22.body.getD .skip, ps := [.val (.slice K0)], res := .val .bool, pl := [4], L := lookL [(4, [.val 0 (.slice K0), .var 3 (.arr 9 .bool), .var 4 (.arr 9 .bool), .val 9 (.slice K0), .val 10 (.int .i64), .val 11 (.int .i64)])] }
noncomputable def E22 (k : Nat) : Ctx := mkCx base [(29, D29.fnAt E29 k), (30, D30.fnAt E30 k)]
theorem c22 (k : Nat) : Con Tryd.prog (HasTab Tryd.prog) 22 (D22.fnAt E22 k) := Def.con2 mixed (fun k => TypesOK.mk' types _) (fun k => FnsOK.cons (c29 k) (by kernel_rfl) (FnsOK.cons (c30 k) (by kernel_rfl) (FnsOK.nil))) D22 Tryd.func22 (by kernel_rfl) (fun k => by kernel_rfl) (fx := []) (fun k => rfl) (by kernel_rfl) k
/-- loop.example/g00218/impl.cellsOf -/
noncomputable def D32 : Def := { fn := Tryd.f32, code := Tryd.f32.body.getD .skip, ps := [.val (.mpk .str .str)], res := .own 48 K1, pl := [3], L := lookL [(3, [.val 0 (.mpk .str .str), .own 3 48 K1, .val 9 (.slice .str), .val 10 (.int .i64), .val 11 (.int .i64)])] }
noncomputable def E32 (k : Nat) : Ctx := mkCx base [(35, sortedKeysFn 47 9  .str), (36, keysFn 47  .str)]
theorem c32 (k : Nat) : Con Tryd.prog (HasTab Tryd.prog) 32 (D32.fnAt E32 k) := Def.con2 mixed (fun k => TypesOK.mk' types _) (fun k => FnsOK.cons (Con.sortedKeys (fun h => h) Go.Proofs.Tryd.laysKy6 Go.Proofs.Tryd.laysKy7 Go.Proofs.Tryd.laysKyM (by kernel_rfl) (by kernel_rfl) (by kernel_rfl) (by kernel_rfl)  .str) (by kernel_rfl) (FnsOK.cons (Con.keys Go.Proofs.Tryd.laysKy7 (by kernel_rfl) (by kernel_rfl)  .str) (by kernel_rfl) (FnsOK.nil))) D32 Tryd.func32 (by kernel_rfl) (fun k => by kernel_rfl) (fx := []) (fun k => rfl) (by kernel_rfl) k
/-- loop.example/g00218/impl.runOps -/
noncomputable def D23 : Def := { fn := Tryd.f23, code := Tryd.f23.body.getD .skip, ps := [.val (.slice K0)], res := .tup (.pair (.own 9 .str) (.own 48 K1)), pl := [5, 15, 19], L := lookL [(5, [.mp 4 .str .str, .var 5 (.arr 9 (.int .i64)), .var 6 (.arr 9 (.int .i64)), .arr 7 60 K2 [9], .val 19 (.slice K0), .val 20 (.int .i64), .val 21 (.int .i64)]), (15, [.mp 4 .str .str, .var 5 (.arr 9 (.int .i64)), .var 6 (.arr 9 (.int .i64)), .arr 7 60 K2 [9], .var 9 K0, .val 19 (.slice K0), .val 20 (.int .i64), .val 21 (.int .i64)]), (19, [.mp 4 .str .str, .own 12 9 .str, .val 89 (.arr 9 (.slice .str)), .val 90 (.int .i64)])] }
noncomputable def E23 (k : Nat) : Ctx := mkCx (dpCx base [(60, [9])]) [(31, itoaFn), (32, D32.fnAt E32 k)]
theorem c23 (k : Nat) : Con Tryd.prog (HasTab Tryd.prog) 23 (D23.fnAt E23 k) := Def.con2 mixed (fun k => TypesOK.mk' (TypesOK.dp types [(60, [9])]) _) (fun k => FnsOK.cons (Con.itoa Go.Proofs.Tryd.laysM171 (by kernel_rfl)) (by kernel_rfl) (FnsOK.cons (c32 k) (by kernel_rfl) (FnsOK.nil))) D23 Tryd.func23 (by kernel_rfl) (fun k => by kernel_rfl) (fx := []) (fun k => rfl) (by kernel_rfl) k
/-- loop.example/g00218/impl.RunOps -/
noncomputable def D7 : Def := { fn := Tryd.f7, code := Tryd.f7.body.getD .skip, ps := [.val (.slice K0)], res := .tup (.pair (.own 9 .str) (.pair (.own 48 K1) (.val .bool))), pl := [], L := lookL [] }
noncomputable def E7 (k : Nat) : Ctx := mkCx base [(22, D22.fnAt E22 k), (23, D23.fnAt E23 k)]
theorem c7 (k : Nat) : Con Tryd.prog (HasTab Tryd.prog) 7 (D7.fnAt E7 k) := Def.con2 mixed (fun k => TypesOK.mk' types _) (fun k => FnsOK.cons (c22 k) (by kernel_rfl) (FnsOK.cons (c23 k) (by kernel_rfl) (FnsOK.nil))) D7 Tryd.func7 (by kernel_rfl) (fun k => by kernel_rfl) (fx := []) (fun k => rfl) (by kernel_rfl) k
/-- loop.example/g00218/laws.eqStringS -/
noncomputable def D8 : Def := { fn := Tryd.f8, code := Tryd.f8.body.getD .skip, ps := [.val (.slice .str), .val (.slice .str)], res := .val .bool, pl := [4], L := lookL [(4, [.val 0 (.slice .str), .val 1 (.slice .str), .val 5 (.int .i64)])] }
noncomputable def E8 (k : Nat) : Ctx := mkCx base []
theorem c8 [Strict] (k : Nat) : Con Tryd.prog (HasTab Tryd.prog) 8 (D8.fnAt E8 k) := Def.con2 mixed (fun k => TypesOK.mk' types _) (fun k => FnsOK.nil) D8 Tryd.func8 (by kernel_rfl) (fun k => by kernel_rfl) (fx := []) (fun k => rfl) (by kernel_rfl) k
/-- loop.example/g00218/laws.eqCell -/
noncomputable def D24 : Def := { fn := Tryd.f24, code := Tryd.f24.body.getD .skip, ps := [.val K1, .val K1], res := .val .bool, pl := [], L := lookL [] }
noncomputable def E24 (k : Nat) : Ctx := mkCx base []
theorem c24 [Strict] (k : Nat) : Con Tryd.prog (HasTab Tryd.prog) 24 (D24.fnAt E24 k) := Def.con2 mixed (fun k => TypesOK.mk' types _) (fun k => FnsOK.nil) D24 Tryd.func24 (by kernel_rfl) (fun k => by kernel_rfl) (fx := []) (fun k => rfl) (by kernel_rfl) k
/-- loop.example/g00218/laws.eqCellS -/
noncomputable def D9 : Def := { fn := Tryd.f9, code := Tryd.f9.body.getD .skip, ps := [.val (.slice K1), .val (.slice K1)], res := .val .bool, pl := [4], L := lookL [(4, [.val 0 (.slice K1), .val 1 (.slice K1), .val 5 (.int .i64)])] }
noncomputable def E9 (k : Nat) : Ctx := mkCx base [(24, D24.fnAt E24 k)]
theorem c9 [Strict] (k : Nat) : Con Tryd.prog (HasTab Tryd.prog) 9 (D9.fnAt E9 k) := Def.con2 mixed (fun k => TypesOK.mk' types _) (fun k => FnsOK.cons (c24 k) (by kernel_rfl) (FnsOK.nil)) D9 Tryd.func9 (by kernel_rfl) (fun k => by kernel_rfl) (fx := []) (fun k => rfl) (by kernel_rfl) k
/-- loop.example/g00218/laws.FnExactRunOps -/
noncomputable def D3 : Def := { fn := Tryd.f3, code := Tryd.f3.body.getD .skip, ps := [.val (.slice K0)], res := .val .bool, pl := [], L := lookL [] }
noncomputable def E3 (k : Nat) : Ctx := mkCx base [(10, D10.fnAt E10 k), (11, D11.fnAt E11 k), (12, D12.fnAt E12 k), (13, D13.fnAt E13 k), (14, D14.fnAt E14 k), (15, D15.fnAt E15 k), (4, D4.fnAt E4 k), (5, D5.fnAt E5 k), (6, D6.fnAt E6 k), (7, D7.fnAt E7 k), (8, D8.fnAt E8 k), (9, D9.fnAt E9 k)]
theorem c3 (k : Nat) : Con Tryd.prog (HasTab Tryd.prog) 3 (D3.fnAt E3 k) := Def.con2 mixed (fun k => TypesOK.mk' types _) (fun k => FnsOK.cons (c10 k) (by kernel_rfl) (FnsOK.cons (c11 k) (by kernel_rfl) (FnsOK.cons (c12 k) (by kernel_rfl) (FnsOK.cons (c13 k) (by kernel_rfl) (FnsOK.cons (c14 k) (by kernel_rfl) (FnsOK.cons (c15 k) (by kernel_rfl) (FnsOK.cons (c4 k) (by kernel_rfl) (FnsOK.cons (c5 k) (by kernel_rfl) (FnsOK.cons (c6 k) (by kernel_rfl) (FnsOK.cons (c7 k) (by kernel_rfl) (FnsOK.cons (c8 k) (by kernel_rfl) (FnsOK.cons (c9 k) (by kernel_rfl) (FnsOK.nil))))))))))))) D3 Tryd.func3 (by kernel_rfl) (fun k => by kernel_rfl) (fx := []) (fun k => rfl) (by kernel_rfl) k
end Go.Proofs.YtmbcblabfgepfaaDoor.Fms
