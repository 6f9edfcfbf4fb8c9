/- FnExactLogText, by the functional machine. -/
import Derived.Test.YtaenobdphjindaaDoorTrim
import Derived.Test.YtaenobdphjindaaDoorFmZ
import Derived.Test.YtaenobdphjindaaDoorFmGv
import Derived.Test.YtaenobdphjindaaDoorFmXFnExactLogTextLays
import Derived.Test.YtaenobdphjindaaDoorFmIt
import Derived.Test.YtaenobdphjindaaDoorProg
set_option maxRecDepth 100000
set_option linter.unusedVariables false
open Go Go.Fm
namespace Go.Proofs.YtaenobdphjindaaDoor.Fms
abbrev K1 : Kind := .struct (.pair (.int .i64) (.pair (.int .i64) .bool))
abbrev K0 : Kind := .struct (.pair (.int .i64) (.pair .str (.pair .str K1)))
def table : List TRow := [⟨2, (.int .i64), 0, 0, false, none⟩, ⟨3, (.int .i64), 0, 0, false, none⟩, ⟨4, .bool, 0, 0, false, none⟩, ⟨5, (.int .u8), 0, 0, false, none⟩, ⟨9, .str, 0, 0, false, none⟩, ⟨22, (.slice K0), 2199023255552, 50, false, none⟩, ⟨25, (.slice K0), 2199023255552, 53, false, none⟩, ⟨47, K1, 0, 0, true, none⟩, ⟨48, K1, 0, 0, true, none⟩, ⟨49, K0, 0, 0, true, none⟩, ⟨50, K0, 0, 0, true, none⟩, ⟨51, K1, 0, 0, true, none⟩, ⟨52, K0, 0, 0, true, none⟩, ⟨53, K0, 0, 0, true, none⟩, ⟨76, (.slice (.int .u8)), 140737488355328, 5, false, none⟩]
def base : Ctx := ctxOf table
theorem types : TypesOK Tryd.prog base := typesOK_of (by kernel_rfl)
theorem mixed : Tryd.prog.follows .mixedOrders = true := by kernel_rfl
/-- loop.example/g00218/laws.szEntry -/
noncomputable def D32 : Def := { fn := Tryd.f32, code := Tryd.f32.body.getD .skip, ps := [.val K0, .val (.int .i64)], res := .val (.int .i64), pl := [], L := lookL [] }
noncomputable def E32 (k : Nat) : Ctx := mkCx base []
theorem c32 (k : Nat) : Con Tryd.prog (HasTab Tryd.prog) 32 (D32.fnAt E32 k) := Def.con2 mixed (fun k => TypesOK.mk' types _) (fun k => FnsOK.nil) D32 Tryd.func32 (by kernel_rfl) (fun k => by kernel_rfl) (fx := []) (fun k => rfl) (by kernel_rfl) k
/-- loop.example/g00218/laws.szEntryS -/
noncomputable def D10 : Def := { fn := Tryd.f10, code := Tryd.f10.body.getD .skip, ps := [.val (.slice K0), .val (.int .i64)], res := .val (.int .i64), pl := [5], L := lookL [(5, [.val 0 (.slice K0), .val 1 (.int .i64), .val 5 (.int .i64)])] }
noncomputable def E10 (k : Nat) : Ctx := mkCx base [(32, D32.fnAt E32 k)]
theorem c10 (k : Nat) : Con Tryd.prog (HasTab Tryd.prog) 10 (D10.fnAt E10 k) := Def.con2 mixed (fun k => TypesOK.mk' types _) (fun k => FnsOK.cons (c32 k) (by kernel_rfl) (FnsOK.nil)) D10 Tryd.func10 (by kernel_rfl) (fun k => by kernel_rfl) (fx := []) (fun k => rfl) (by kernel_rfl) k
/-- loop.example/g00218/laws.toTid -/
noncomputable def D56 : Def := { fn := Tryd.f56, code := Tryd.f56.body.getD .skip, ps := [.val K1], res := .val K1, pl := [], L := lookL [] }
noncomputable def E56 (k : Nat) : Ctx := mkCx base []
theorem c56 (k : Nat) : Con Tryd.prog (HasTab Tryd.prog) 56 (D56.fnAt E56 k) := Def.con2 mixed (fun k => TypesOK.mk' types _) (fun k => FnsOK.nil) D56 Tryd.func56 (by kernel_rfl) (fun k => by kernel_rfl) (fx := []) (fun k => rfl) (by kernel_rfl) k
/-- loop.example/g00218/laws.toEntry -/
noncomputable def D34 : Def := { fn := Tryd.f34, code := Tryd.f34.body.getD .skip, ps := [.val K0], res := .val K0, pl := [], L := lookL [] }
noncomputable def E34 (k : Nat) : Ctx := mkCx base [(56, D56.fnAt E56 k)]
theorem c34 (k : Nat) : Con Tryd.prog (HasTab Tryd.prog) 34 (D34.fnAt E34 k) := Def.con2 mixed (fun k => TypesOK.mk' types _) (fun k => FnsOK.cons (c56 k) (by kernel_rfl) (FnsOK.nil)) D34 Tryd.func34 (by kernel_rfl) (fun k => by kernel_rfl) (fx := []) (fun k => rfl) (by kernel_rfl) k
/-- loop.example/g00218/laws.toEntryS -/
noncomputable def D12 : Def := { fn := Tryd.f12, code := Tryd.f12.body.getD .skip, ps := [.val (.slice K0)], res := .own 53 K0, pl := [3], L := lookL [(3, [.val 0 (.slice K0), .own 3 53 K0, .val 4 (.int .i64)])] }
noncomputable def E12 (k : Nat) : Ctx := mkCx base [(34, D34.fnAt E34 k)]
theorem c12 (k : Nat) : Con Tryd.prog (HasTab Tryd.prog) 12 (D12.fnAt E12 k) := Def.con2 mixed (fun k => TypesOK.mk' types _) (fun k => FnsOK.cons (c34 k) (by kernel_rfl) (FnsOK.nil)) D12 Tryd.func12 (by kernel_rfl) (fun k => by kernel_rfl) (fx := []) (fun k => rfl) (by kernel_rfl) k
/-- loop.example/g00218/laws.eqTid -/
noncomputable def D59 : Def := { fn := Tryd.f59, code := Tryd.f59.body.getD .skip, ps := [.val K1, .val K1], res := .val .bool, pl := [], L := lookL [] }
noncomputable def E59 (k : Nat) : Ctx := mkCx base []
theorem c59 (k : Nat) : Con Tryd.prog (HasTab Tryd.prog) 59 (D59.fnAt E59 k) := Def.con2 mixed (fun k => TypesOK.mk' types _) (fun k => FnsOK.nil) D59 Tryd.func59 (by kernel_rfl) (fun k => by kernel_rfl) (fx := []) (fun k => rfl) (by kernel_rfl) k
/-- loop.example/g00218/laws.eqEntry -/
noncomputable def D36 : Def := { fn := Tryd.f36, code := Tryd.f36.body.getD .skip, ps := [.val K0, .val K0], res := .val .bool, pl := [], L := lookL [] }
noncomputable def E36 (k : Nat) : Ctx := mkCx base [(59, D59.fnAt E59 k)]
theorem c36 (k : Nat) : Con Tryd.prog (HasTab Tryd.prog) 36 (D36.fnAt E36 k) := Def.con2 mixed (fun k => TypesOK.mk' types _) (fun k => FnsOK.cons (c59 k) (by kernel_rfl) (FnsOK.nil)) D36 Tryd.func36 (by kernel_rfl) (fun k => by kernel_rfl) (fx := []) (fun k => rfl) (by kernel_rfl) k
/-- loop.example/g00218/laws.eqEntryS -/
noncomputable def D14 : Def := { fn := Tryd.f14, code := Tryd.f14.body.getD .skip, ps := [.val (.slice K0), .val (.slice K0)], res := .val .bool, pl := [4], L := lookL [(4, [.val 0 (.slice K0), .val 1 (.slice K0), .val 5 (.int .i64)])] }
noncomputable def E14 (k : Nat) : Ctx := mkCx base [(36, D36.fnAt E36 k)]
theorem c14 (k : Nat) : Con Tryd.prog (HasTab Tryd.prog) 14 (D14.fnAt E14 k) := Def.con2 mixed (fun k => TypesOK.mk' types _) (fun k => FnsOK.cons (c36 k) (by kernel_rfl) (FnsOK.nil)) D14 Tryd.func14 (by kernel_rfl) (fun k => by kernel_rfl) (fx := []) (fun k => rfl) (by kernel_rfl) k
/-- loop.example/g00218/spec.l1In -/
noncomputable def D45 : Def := { fn := Tryd.f45, code := Tryd.f45.body.getD .skip, ps := [.val (.int .i64), .val (.int .i64), .val (.int .i64)], res := .val .bool, pl := [], L := lookL [] }
noncomputable def E45 (k : Nat) : Ctx := mkCx base []
theorem c45 (k : Nat) : Con Tryd.prog (HasTab Tryd.prog) 45 (D45.fnAt E45 k) := Def.con2 mixed (fun k => TypesOK.mk' types _) (fun k => FnsOK.nil) D45 Tryd.func45 (by kernel_rfl) (fun k => by kernel_rfl) (fx := []) (fun k => rfl) (by kernel_rfl) k
/-- loop.example/g00218/spec.l1Key -/
noncomputable def D53 : Def := { fn := Tryd.f53, code := Tryd.f53.body.getD .skip, ps := [.val .str], res := .val .bool, pl := [2], L := lookL [(2, [.val 0 .str, .val 3 (.int .i64)])] }
noncomputable def E53 (k : Nat) : Ctx := mkCx base [(45, D45.fnAt E45 k)]
theorem c53 (k : Nat) : Con Tryd.prog (HasTab Tryd.prog) 53 (D53.fnAt E53 k) := Def.con2 mixed (fun k => TypesOK.mk' types _) (fun k => FnsOK.cons (c45 k) (by kernel_rfl) (FnsOK.nil)) D53 Tryd.func53 (by kernel_rfl) (fun k => by kernel_rfl) (fx := []) (fun k => rfl) (by kernel_rfl) k
/-- loop.example/g00218/spec.l1Value -/
noncomputable def D54 : Def := { fn := Tryd.f54, code := Tryd.f54.body.getD .skip, ps := [.val .str], res := .val .bool, pl := [2], L := lookL [(2, [.val 0 .str, .val 3 (.int .i64)])] }
noncomputable def E54 (k : Nat) : Ctx := mkCx base []
theorem c54 (k : Nat) : Con Tryd.prog (HasTab Tryd.prog) 54 (D54.fnAt E54 k) := Def.con2 mixed (fun k => TypesOK.mk' types _) (fun k => FnsOK.nil) D54 Tryd.func54 (by kernel_rfl) (fun k => by kernel_rfl) (fx := []) (fun k => rfl) (by kernel_rfl) k
/-- loop.example/g00218/spec.l1Tid -/
noncomputable def D55 : Def := { fn := Tryd.f55, code := Tryd.f55.body.getD .skip, ps := [.val K1], res := .val .bool, pl := [], L := lookL [] }
noncomputable def E55 (k : Nat) : Ctx := mkCx base [(45, D45.fnAt E45 k)]
theorem c55 (k : Nat) : Con Tryd.prog (HasTab Tryd.prog) 55 (D55.fnAt E55 k) := Def.con2 mixed (fun k => TypesOK.mk' types _) (fun k => FnsOK.cons (c45 k) (by kernel_rfl) (FnsOK.nil)) D55 Tryd.func55 (by kernel_rfl) (fun k => by kernel_rfl) (fx := []) (fun k => rfl) (by kernel_rfl) k
/-- loop.example/g00218/spec.l6Entry -/
noncomputable def D33 : Def := { fn := Tryd.f33, code := Tryd.f33.body.getD .skip, ps := [.val K0], res := .val .bool, pl := [], L := lookL [] }
noncomputable def E33 (k : Nat) : Ctx := mkCx base [(45, D45.fnAt E45 k), (53, D53.fnAt E53 k), (54, D54.fnAt E54 k), (55, D55.fnAt E55 k)]
theorem c33 (k : Nat) : Con Tryd.prog (HasTab Tryd.prog) 33 (D33.fnAt E33 k) := Def.con2 mixed (fun k => TypesOK.mk' types _) (fun k => FnsOK.cons (c45 k) (by kernel_rfl) (FnsOK.cons (c53 k) (by kernel_rfl) (FnsOK.cons (c54 k) (by kernel_rfl) (FnsOK.cons (c55 k) (by kernel_rfl) (FnsOK.nil))))) D33 Tryd.func33 (by kernel_rfl) (fun k => by kernel_rfl) (fx := []) (fun k => rfl) (by kernel_rfl) k
/-- loop.example/g00218/spec.GoodLog -/
noncomputable def D11 : Def := { fn := Tryd.f11, code := Tryd.f11.body.getD .skip, ps := [.val (.slice K0)], res := .val .bool, pl := [2, 7], L := lookL [(2, [.val 0 (.slice K0), .val 7 (.slice K0), .val 8 (.int .i64), .val 9 (.int .i64)]), (7, [.val 0 (.slice K0), .var 4 K0, .val 7 (.slice K0), .val 8 (.int .i64), .val 9 (.int .i64), .val 19 (.slice K0), .val 20 (.int .i64), .val 21 (.int .i64)])] }
noncomputable def E11 (k : Nat) : Ctx := mkCx base [(33, D33.fnAt E33 k)]
theorem c11 (k : Nat) : Con Tryd.prog (HasTab Tryd.prog) 11 (D11.fnAt E11 k) := Def.con2 mixed (fun k => TypesOK.mk' types _) (fun k => FnsOK.cons (c33 k) (by kernel_rfl) (FnsOK.nil)) D11 Tryd.func11 (by kernel_rfl) (fun k => by kernel_rfl) (fx := []) (fun k => rfl) (by kernel_rfl) k
/-- loop.example/g00218/spec.l1Num -/
noncomputable def D61 : Def := { fn := Tryd.f61, code := Tryd.f61.body.getD .skip, ps := [.val (.int .i64)], res := .val .str, pl := [], L := lookL [] }
noncomputable def R61 : Nat → ArgsT D61.ps → Option D61.res.T
  | 0 => fun _ => none
  | k + 1 => D61.F (fun _ => mkCx base [(61, ⟨D61.ps, D61.res, R61 k⟩)]) k
theorem c61 (k : Nat) : Con Tryd.prog (HasTab Tryd.prog) 61 ⟨D61.ps, D61.res, R61 k⟩ := by
  induction k with
  | zero => exact Con.none
  | succ k ih => exact Def.con2 mixed (cxs := fun _ => mkCx base [(61, ⟨D61.ps, D61.res, R61 k⟩)]) (fun _ => TypesOK.mk' types _) (fun _ => FnsOK.cons ih (by kernel_rfl) FnsOK.nil) D61 Tryd.func61 (by kernel_rfl) (fun k => by kernel_rfl) (fx := []) (fun k => rfl) (by kernel_rfl) k
/-- loop.example/g00218/spec.l6Text -/
noncomputable def D41 : Def := { fn := Tryd.f41, code := Tryd.f41.body.getD .skip, ps := [.val (.slice K0)], res := .val .str, pl := [3], L := lookL [(3, [.val 3 .str, .val 6 (.slice K0), .val 7 (.int .i64), .val 8 (.int .i64)])] }
noncomputable def E41 (k : Nat) : Ctx := mkCx base [(61, ⟨D61.ps, D61.res, R61 k⟩)]
theorem c41 (k : Nat) : Con Tryd.prog (HasTab Tryd.prog) 41 (D41.fnAt E41 k) := Def.con2 mixed (fun k => TypesOK.mk' types _) (fun k => FnsOK.cons (c61 k) (by kernel_rfl) (FnsOK.nil)) D41 Tryd.func41 (by kernel_rfl) (fun k => by kernel_rfl) (fx := []) (fun k => rfl) (by kernel_rfl) k
/-- loop.example/g00218/spec.LogText -/
noncomputable def D19 : Def := { fn := Tryd.f19, code := Tryd.f19.body.getD .skip, ps := [.val (.slice K0)], res := .tup (.pair (.val .str) (.val .bool)), pl := [], L := lookL [] }
noncomputable def E19 (k : Nat) : Ctx := mkCx base [(11, D11.fnAt E11 k), (41, D41.fnAt E41 k)]
theorem c19 (k : Nat) : Con Tryd.prog (HasTab Tryd.prog) 19 (D19.fnAt E19 k) := Def.con2 mixed (fun k => TypesOK.mk' types _) (fun k => FnsOK.cons (c11 k) (by kernel_rfl) (FnsOK.cons (c41 k) (by kernel_rfl) (FnsOK.nil))) D19 Tryd.func19 (by kernel_rfl) (fun k => by kernel_rfl) (fx := []) (fun k => rfl) (by kernel_rfl) k
/-- loop.example/g00218/impl.areAlike -/
noncomputable def D37 : Def := { fn := Tryd.f37, code := Tryd.f37.body.getD .skip, ps := [.val (.slice K0)], res := .val .bool, pl := [2, 5], L := lookL [(2, [.val 0 (.slice K0), .val 7 (.slice K0), .val 8 (.int .i64), .val 9 (.int .i64)]), (5, [.val 0 (.slice K0), .var 4 K0, .val 7 (.slice K0), .val 8 (.int .i64), .val 9 (.int .i64), .val 16 (.slice K0), .val 17 (.int .i64), .val 18 (.int .i64)])] }
noncomputable def E37 (k : Nat) : Ctx := mkCx base []
theorem c37 (k : Nat) : Con Tryd.prog (HasTab Tryd.prog) 37 (D37.fnAt E37 k) := Def.con2 mixed (fun k => TypesOK.mk' types _) (fun k => FnsOK.nil) D37 Tryd.func37 (by kernel_rfl) (fun k => by kernel_rfl) (fx := []) (fun k => rfl) (by kernel_rfl) k
/-- loop.example/g00218/impl.in -/
noncomputable def D46 : Def := { fn := Tryd.f46, code := Tryd.f46.body.getD .skip, ps := [.val (.int .i64), .val (.int .i64), .val (.int .i64)], res := .val .bool, pl := [], L := lookL [] }
noncomputable def E46 (k : Nat) : Ctx := mkCx base []
theorem c46 (k : Nat) : Con Tryd.prog (HasTab Tryd.prog) 46 (D46.fnAt E46 k) := Def.con2 mixed (fun k => TypesOK.mk' types _) (fun k => FnsOK.nil) D46 Tryd.func46 (by kernel_rfl) (fun k => by kernel_rfl) (fx := []) (fun k => rfl) (by kernel_rfl) k
/-- loop.example/g00218/impl.isKey -/
noncomputable def D74 : Def := { fn := Tryd.f74, code := Tryd.f74.body.getD .skip, ps := [.val .str], res := .val .bool, pl := [], L := lookL [] }
noncomputable def E74 (k : Nat) : Ctx := mkCx base [(87, ⟨[.val .str, .val .str], .val .str, fun v => MapW.strings_Trim.f v.1 v.2.1⟩)]
theorem c74 (k : Nat) : Con Tryd.prog (HasTab Tryd.prog) 74 (D74.fnAt E74 k) := Def.con2 mixed (fun k => TypesOK.mk' types _) (fun k => FnsOK.cons (Con.text2 MapW.strings_Trim.f MapW.strings_Trim.calls) (by kernel_rfl) (FnsOK.nil)) D74 Tryd.func74 (by kernel_rfl) (fun k => by kernel_rfl) (fx := []) (fun k => rfl) (by kernel_rfl) k
/-- loop.example/g00218/impl.isValue -/
noncomputable def D75 : Def := { fn := Tryd.f75, code := Tryd.f75.body.getD .skip, ps := [.val .str], res := .val .bool, pl := [2], L := lookL [(2, [.val 0 .str, .val 5 (.int .i64), .val 6 (.int .i64)])] }
noncomputable def E75 (k : Nat) : Ctx := mkCx base []
theorem c75 (k : Nat) : Con Tryd.prog (HasTab Tryd.prog) 75 (D75.fnAt E75 k) := Def.con2 mixed (fun k => TypesOK.mk' types _) (fun k => FnsOK.nil) D75 Tryd.func75 (by kernel_rfl) (fun k => by kernel_rfl) (fx := []) (fun k => rfl) (by kernel_rfl) k
/-- loop.example/g00218/impl.isTid -/
noncomputable def D76 : Def := { fn := Tryd.f76, code := Tryd.f76.body.getD .skip, ps := [.val K1], res := .val .bool, pl := [], L := lookL [] }
noncomputable def E76 (k : Nat) : Ctx := mkCx base [(46, D46.fnAt E46 k)]
theorem c76 (k : Nat) : Con Tryd.prog (HasTab Tryd.prog) 76 (D76.fnAt E76 k) := Def.con2 mixed (fun k => TypesOK.mk' types _) (fun k => FnsOK.cons (c46 k) (by kernel_rfl) (FnsOK.nil)) D76 Tryd.func76 (by kernel_rfl) (fun k => by kernel_rfl) (fx := []) (fun k => rfl) (by kernel_rfl) k
/-- loop.example/g00218/impl.isEntry -/
noncomputable def D58 : Def := { fn := Tryd.f58, code := Tryd.f58.body.getD .skip, ps := [.val K0], res := .val .bool, pl := [], L := lookL [] }
noncomputable def E58 (k : Nat) : Ctx := mkCx base [(46, D46.fnAt E46 k), (74, D74.fnAt E74 k), (75, D75.fnAt E75 k), (76, D76.fnAt E76 k)]
theorem c58 (k : Nat) : Con Tryd.prog (HasTab Tryd.prog) 58 (D58.fnAt E58 k) := Def.con2 mixed (fun k => TypesOK.mk' types _) (fun k => FnsOK.cons (c46 k) (by kernel_rfl) (FnsOK.cons (c74 k) (by kernel_rfl) (FnsOK.cons (c75 k) (by kernel_rfl) (FnsOK.cons (c76 k) (by kernel_rfl) (FnsOK.nil))))) D58 Tryd.func58 (by kernel_rfl) (fun k => by kernel_rfl) (fx := []) (fun k => rfl) (by kernel_rfl) k
/-- loop.example/g00218/impl.isLog$1 -/
noncomputable def D57 : Def := { fn := Tryd.f57, code := Tryd.f57.body.getD .skip, ps := [.val K0], res := .val .bool, pl := [], L := lookL [] }
noncomputable def E57 (k : Nat) : Ctx := mkCx base [(58, D58.fnAt E58 k)]
theorem c57 (k : Nat) : Con Tryd.prog (HasTab Tryd.prog) 57 (D57.fnAt E57 k) := Def.con2 mixed (fun k => TypesOK.mk' types _) (fun k => FnsOK.cons (c58 k) (by kernel_rfl) (FnsOK.nil)) D57 Tryd.func57 (by kernel_rfl) (fun k => by kernel_rfl) (fx := []) (fun k => rfl) (by kernel_rfl) k
/-- slices.IndexFunc[[]loop.example/g00218/impl.Entry,loop.example/g00218/impl.Entry] -/
noncomputable def D60 : Def := { fn := Tryd.f60, code := Tryd.f60.body.getD .skip, ps := [.val (.slice K0), .val (.clo 57 .unit)], res := .val (.int .i64), pl := [2], L := lookL [(2, [.val 0 (.slice K0), .val 1 (.clo 57 .unit), .val 7 (.int .i64), .val 8 (.int .i64)])] }
noncomputable def E60 (k : Nat) : Ctx := mkCx base [(57, D57.fnAt E57 k)]
theorem c60 (k : Nat) : Con Tryd.prog (HasTab Tryd.prog) 60 (D60.fnAt E60 k) := Def.con2 mixed (fun k => TypesOK.mk' types _) (fun k => FnsOK.cons (c57 k) (by kernel_rfl) (FnsOK.nil)) D60 Tryd.func60 (by kernel_rfl) (fun k => by kernel_rfl) (fx := []) (fun k => rfl) (by kernel_rfl) k
/-- slices.ContainsFunc[[]loop.example/g00218/impl.Entry,loop.example/g00218/impl.Entry] -/
noncomputable def D38 : Def := { fn := Tryd.f38, code := Tryd.f38.body.getD .skip, ps := [.val (.slice K0), .val (.clo 57 .unit)], res := .val .bool, pl := [], L := lookL [] }
noncomputable def E38 (k : Nat) : Ctx := mkCx base [(60, D60.fnAt E60 k)]
theorem c38 (k : Nat) : Con Tryd.prog (HasTab Tryd.prog) 38 (D38.fnAt E38 k) := Def.con2 mixed (fun k => TypesOK.mk' types _) (fun k => FnsOK.cons (c60 k) (by kernel_rfl) (FnsOK.nil)) D38 Tryd.func38 (by kernel_rfl) (fun k => by kernel_rfl) (fx := []) (fun k => rfl) (by kernel_rfl) k
/-- loop.example/g00218/impl.isLog -/
noncomputable def D35 : Def := { fn := Tryd.f35, code := Tryd.f35.body.getD .skip, ps := [.val (.slice K0)], res := .val .bool, pl := [], L := lookL [] }
noncomputable def E35 (k : Nat) : Ctx := mkCx base [(37, D37.fnAt E37 k), (38, D38.fnAt E38 k)]
theorem c35 (k : Nat) : Con Tryd.prog (HasTab Tryd.prog) 35 (D35.fnAt E35 k) := Def.con2 mixed (fun k => TypesOK.mk' types _) (fun k => FnsOK.cons (c37 k) (by kernel_rfl) (FnsOK.cons (c38 k) (by kernel_rfl) (FnsOK.nil))) D35 Tryd.func35 (by kernel_rfl) (fun k => by kernel_rfl) (fx := []) (fun k => rfl) (by kernel_rfl) k
/-- loop.example/g00218/impl.entryText -/
noncomputable def D62 : Def := { fn := Tryd.f62, code := Tryd.f62.body.getD .skip, ps := [.val K0], res := .val .str, pl := [], L := lookL [] }
noncomputable def E62 (k : Nat) : Ctx := mkCx base [(77, itoaFn)]
theorem c62 (k : Nat) : Con Tryd.prog (HasTab Tryd.prog) 62 (D62.fnAt E62 k) := Def.con2 mixed (fun k => TypesOK.mk' types _) (fun k => FnsOK.cons (Con.itoa Go.Proofs.Tryd.laysM171 (by kernel_rfl)) (by kernel_rfl) (FnsOK.nil)) D62 Tryd.func62 (by kernel_rfl) (fun k => by kernel_rfl) (fx := []) (fun k => rfl) (by kernel_rfl) k
/-- loop.example/g00218/impl.logText -/
noncomputable def D42 : Def := { fn := Tryd.f42, code := Tryd.f42.body.getD .skip, ps := [.val (.slice K0)], res := .val .str, pl := [3], L := lookL [(3, [.val 3 .str, .val 6 (.slice K0), .val 7 (.int .i64), .val 8 (.int .i64)])] }
noncomputable def E42 (k : Nat) : Ctx := mkCx base [(62, D62.fnAt E62 k)]
theorem c42 (k : Nat) : Con Tryd.prog (HasTab Tryd.prog) 42 (D42.fnAt E42 k) := Def.con2 mixed (fun k => TypesOK.mk' types _) (fun k => FnsOK.cons (c62 k) (by kernel_rfl) (FnsOK.nil)) D42 Tryd.func42 (by kernel_rfl) (fun k => by kernel_rfl) (fx := []) (fun k => rfl) (by kernel_rfl) k
/-- loop.example/g00218/impl.LogText -/
noncomputable def D20 : Def := { fn := Tryd.f20, code := Tryd.f20.body.getD .skip, ps := [.val (.slice K0)], res := .tup (.pair (.val .str) (.val .bool)), pl := [], L := lookL [] }
noncomputable def E20 (k : Nat) : Ctx := mkCx base [(35, D35.fnAt E35 k), (42, D42.fnAt E42 k)]
theorem c20 (k : Nat) : Con Tryd.prog (HasTab Tryd.prog) 20 (D20.fnAt E20 k) := Def.con2 mixed (fun k => TypesOK.mk' types _) (fun k => FnsOK.cons (c35 k) (by kernel_rfl) (FnsOK.cons (c42 k) (by kernel_rfl) (FnsOK.nil))) D20 Tryd.func20 (by kernel_rfl) (fun k => by kernel_rfl) (fx := []) (fun k => rfl) (by kernel_rfl) k
/-- loop.example/g00218/laws.FnExactLogText -/
noncomputable def D5 : Def := { fn := Tryd.f5, code := Tryd.f5.body.getD .skip, ps := [.val (.slice K0)], res := .val .bool, pl := [], L := lookL [] }
noncomputable def E5 (k : Nat) : Ctx := mkCx base [(10, D10.fnAt E10 k), (12, D12.fnAt E12 k), (14, D14.fnAt E14 k), (19, D19.fnAt E19 k), (20, D20.fnAt E20 k)]
theorem c5 (k : Nat) : Con Tryd.prog (HasTab Tryd.prog) 5 (D5.fnAt E5 k) := Def.con2 mixed (fun k => TypesOK.mk' types _) (fun k => FnsOK.cons (c10 k) (by kernel_rfl) (FnsOK.cons (c12 k) (by kernel_rfl) (FnsOK.cons (c14 k) (by kernel_rfl) (FnsOK.cons (c19 k) (by kernel_rfl) (FnsOK.cons (c20 k) (by kernel_rfl) (FnsOK.nil)))))) D5 Tryd.func5 (by kernel_rfl) (fun k => by kernel_rfl) (fx := []) (fun k => rfl) (by kernel_rfl) k
end Go.Proofs.YtaenobdphjindaaDoor.Fms
