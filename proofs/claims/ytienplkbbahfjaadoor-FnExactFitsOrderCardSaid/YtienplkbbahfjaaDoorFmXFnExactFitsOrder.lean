/- FnExactFitsOrder, by the functional machine. -/
import Derived.Test.YtienplkbbahfjaaDoorTrim
import Derived.Test.YtienplkbbahfjaaDoorFmZ
import Derived.Test.YtienplkbbahfjaaDoorFmGv
import Derived.Test.YtienplkbbahfjaaDoorFmXFnExactFitsOrderLays
import Derived.Test.YtienplkbbahfjaaDoorFmCp
import Derived.Test.YtienplkbbahfjaaDoorProg
set_option maxRecDepth 100000
set_option linter.unusedVariables false
open Go Go.Fm
namespace Go.Proofs.YtienplkbbahfjaaDoor.Fms
abbrev K1 : Kind := .struct (.pair .str .str)
abbrev K0 : Kind := .struct (.pair (.int .i64) (.pair .bool (.pair .str (.pair .str (.pair (.int .i64) (.int .i64))))))
def table : List TRow := [⟨2, (.int .i64), 0, 0, false, none⟩, ⟨3, (.int .i64), 0, 0, false, none⟩, ⟨4, .bool, 0, 0, false, none⟩, ⟨5, (.int .u8), 0, 0, false, none⟩, ⟨9, .str, 0, 0, false, none⟩, ⟨22, (.slice K0), 2199023255552, 45, false, none⟩, ⟨25, (.slice K0), 2199023255552, 46, false, none⟩, ⟨31, (.slice (.int .i64)), 17592186044416, 3, false, none⟩, ⟨44, K0, 0, 0, true, none⟩, ⟨45, K0, 0, 0, true, none⟩, ⟨46, K0, 0, 0, true, none⟩, ⟨56, (.slice K1), 4398046511104, 59, false, none⟩, ⟨58, K1, 0, 0, true, none⟩, ⟨59, K1, 0, 0, true, none⟩, ⟨65, .unit, 0, 0, false, some (3, 4)⟩, ⟨78, .unit, 0, 0, false, some (9, 9)⟩]
def base : Ctx := ctxOf table
theorem types : TypesOK Tryd.prog base := typesOK_of (by kernel_rfl)
theorem mixed : Tryd.prog.follows .mixedOrders = true := by kernel_rfl
/-- loop.example/g00218/laws.toCall -/
noncomputable def D35 : Def := { fn := Tryd.f35, code := Tryd.f35.body.getD .skip, ps := [.val K0], res := .val K0, pl := [], L := lookL [] }
noncomputable def E35 (k : Nat) : Ctx := mkCx base []
theorem c35 {G : World → Prop} (k : Nat) : Con Tryd.prog G 35 (D35.fnAt E35 k) := Def.con2 mixed (fun k => TypesOK.mk' types _) (fun k => FnsOK.nil) D35 Tryd.func35 (by kernel_rfl) (fun k => by kernel_rfl) (fx := []) (fun k => rfl) (by kernel_rfl) k
/-- loop.example/g00218/laws.toCallS -/
noncomputable def D11 : Def := { fn := Tryd.f11, code := Tryd.f11.body.getD .skip, ps := [.val (.slice K0)], res := .own 46 K0, pl := [3], L := lookL [(3, [.val 0 (.slice K0), .own 3 46 K0, .val 4 (.int .i64)])] }
noncomputable def E11 (k : Nat) : Ctx := mkCx base [(35, D35.fnAt E35 k)]
theorem c11 {G : World → Prop} (k : Nat) : Con Tryd.prog G 11 (D11.fnAt E11 k) := Def.con2 mixed (fun k => TypesOK.mk' types _) (fun k => FnsOK.cons (c35 k) (by kernel_rfl) (FnsOK.nil)) D11 Tryd.func11 (by kernel_rfl) (fun k => by kernel_rfl) (fx := []) (fun k => rfl) (by kernel_rfl) k
/-- loop.example/g00218/laws.eqCall -/
noncomputable def D37 : Def := { fn := Tryd.f37, code := Tryd.f37.body.getD .skip, ps := [.val K0, .val K0], res := .val .bool, pl := [], L := lookL [] }
noncomputable def E37 (k : Nat) : Ctx := mkCx base []
theorem c37 {G : World → Prop} (k : Nat) : Con Tryd.prog G 37 (D37.fnAt E37 k) := Def.con2 mixed (fun k => TypesOK.mk' types _) (fun k => FnsOK.nil) D37 Tryd.func37 (by kernel_rfl) (fun k => by kernel_rfl) (fx := []) (fun k => rfl) (by kernel_rfl) k
/-- loop.example/g00218/laws.eqCallS -/
noncomputable def D13 : Def := { fn := Tryd.f13, code := Tryd.f13.body.getD .skip, ps := [.val (.slice K0), .val (.slice K0)], res := .val .bool, pl := [4], L := lookL [(4, [.val 0 (.slice K0), .val 1 (.slice K0), .val 5 (.int .i64)])] }
noncomputable def E13 (k : Nat) : Ctx := mkCx base [(37, D37.fnAt E37 k)]
theorem c13 {G : World → Prop} (k : Nat) : Con Tryd.prog G 13 (D13.fnAt E13 k) := Def.con2 mixed (fun k => TypesOK.mk' types _) (fun k => FnsOK.cons (c37 k) (by kernel_rfl) (FnsOK.nil)) D13 Tryd.func13 (by kernel_rfl) (fun k => by kernel_rfl) (fx := []) (fun k => rfl) (by kernel_rfl) k
/-- loop.example/g00218/laws.eqIntS -/
noncomputable def D18 : Def := { fn := Tryd.f18, code := Tryd.f18.body.getD .skip, ps := [.val (.slice (.int .i64)), .val (.slice (.int .i64))], res := .val .bool, pl := [4], L := lookL [(4, [.val 0 (.slice (.int .i64)), .val 1 (.slice (.int .i64)), .val 5 (.int .i64)])] }
noncomputable def E18 (k : Nat) : Ctx := mkCx base []
theorem c18 {G : World → Prop} (k : Nat) : Con Tryd.prog G 18 (D18.fnAt E18 k) := Def.con2 mixed (fun k => TypesOK.mk' types _) (fun k => FnsOK.nil) D18 Tryd.func18 (by kernel_rfl) (fun k => by kernel_rfl) (fx := []) (fun k => rfl) (by kernel_rfl) k
/-- loop.example/g00218/spec.l1In -/
noncomputable def D31 : Def := { fn := Tryd.f31, code := Tryd.f31.body.getD .skip, ps := [.val (.int .i64), .val (.int .i64), .val (.int .i64)], res := .val .bool, pl := [], L := lookL [] }
noncomputable def E31 (k : Nat) : Ctx := mkCx base []
theorem c31 {G : World → Prop} (k : Nat) : Con Tryd.prog G 31 (D31.fnAt E31 k) := Def.con2 mixed (fun k => TypesOK.mk' types _) (fun k => FnsOK.nil) D31 Tryd.func31 (by kernel_rfl) (fun k => by kernel_rfl) (fx := []) (fun k => rfl) (by kernel_rfl) k
/-- loop.example/g00218/spec.l1Key -/
noncomputable def D32 : Def := { fn := Tryd.f32, code := Tryd.f32.body.getD .skip, ps := [.val .str], res := .val .bool, pl := [2], L := lookL [(2, [.val 0 .str, .val 3 (.int .i64)])] }
noncomputable def E32 (k : Nat) : Ctx := mkCx base [(31, D31.fnAt E31 k)]
theorem c32 {G : World → Prop} (k : Nat) : Con Tryd.prog G 32 (D32.fnAt E32 k) := Def.con2 mixed (fun k => TypesOK.mk' types _) (fun k => FnsOK.cons (c31 k) (by kernel_rfl) (FnsOK.nil)) D32 Tryd.func32 (by kernel_rfl) (fun k => by kernel_rfl) (fx := []) (fun k => rfl) (by kernel_rfl) k
/-- loop.example/g00218/spec.l1Value -/
noncomputable def D33 : Def := { fn := Tryd.f33, code := Tryd.f33.body.getD .skip, ps := [.val .str], res := .val .bool, pl := [2], L := lookL [(2, [.val 0 .str, .val 3 (.int .i64)])] }
noncomputable def E33 (k : Nat) : Ctx := mkCx base []
theorem c33 {G : World → Prop} (k : Nat) : Con Tryd.prog G 33 (D33.fnAt E33 k) := Def.con2 mixed (fun k => TypesOK.mk' types _) (fun k => FnsOK.nil) D33 Tryd.func33 (by kernel_rfl) (fun k => by kernel_rfl) (fx := []) (fun k => rfl) (by kernel_rfl) k
/-- loop.example/g00218/spec.l7Overlap -/
noncomputable def D34 : Def := { fn := Tryd.f34, code := Tryd.f34.body.getD .skip, ps := [.val K0, .val K0], res := .val .bool, pl := [], L := lookL [] }
noncomputable def E34 (k : Nat) : Ctx := mkCx base []
theorem c34 {G : World → Prop} (k : Nat) : Con Tryd.prog G 34 (D34.fnAt E34 k) := Def.con2 mixed (fun k => TypesOK.mk' types _) (fun k => FnsOK.nil) D34 Tryd.func34 (by kernel_rfl) (fun k => by kernel_rfl) (fx := []) (fun k => rfl) (by kernel_rfl) k
/-- loop.example/g00218/spec.GoodCalls -/
noncomputable def D10 : Def := { fn := Tryd.f10, code := Tryd.f10.body.getD .skip, ps := [.val (.slice K0)], res := .val .bool, pl := [2, 7], L := lookL [(2, [.val 0 (.slice K0), .val 7 (.slice K0), .val 8 (.int .i64), .val 9 (.int .i64)]), (7, [.val 0 (.slice K0), .var 4 K0, .val 7 (.slice K0), .val 8 (.int .i64), .val 9 (.int .i64), .val 49 (.slice K0), .val 50 (.int .i64), .val 51 (.int .i64)])] }
noncomputable def E10 (k : Nat) : Ctx := mkCx base [(31, D31.fnAt E31 k), (32, D32.fnAt E32 k), (33, D33.fnAt E33 k), (34, D34.fnAt E34 k)]
theorem c10 {G : World → Prop} (k : Nat) : Con Tryd.prog G 10 (D10.fnAt E10 k) := Def.con2 mixed (fun k => TypesOK.mk' types _) (fun k => FnsOK.cons (c31 k) (by kernel_rfl) (FnsOK.cons (c32 k) (by kernel_rfl) (FnsOK.cons (c33 k) (by kernel_rfl) (FnsOK.cons (c34 k) (by kernel_rfl) (FnsOK.nil))))) D10 Tryd.func10 (by kernel_rfl) (fun k => by kernel_rfl) (fx := []) (fun k => rfl) (by kernel_rfl) k
/-- loop.example/g00218/spec.l1Has -/
noncomputable def D43 : Def := { fn := Tryd.f43, code := Tryd.f43.body.getD .skip, ps := [.val (.slice (.int .i64)), .val (.int .i64)], res := .val .bool, pl := [2], L := lookL [(2, [.val 1 (.int .i64), .val 7 (.slice (.int .i64)), .val 8 (.int .i64), .val 9 (.int .i64)])] }
noncomputable def E43 (k : Nat) : Ctx := mkCx base []
theorem c43 {G : World → Prop} (k : Nat) : Con Tryd.prog G 43 (D43.fnAt E43 k) := Def.con2 mixed (fun k => TypesOK.mk' types _) (fun k => FnsOK.nil) D43 Tryd.func43 (by kernel_rfl) (fun k => by kernel_rfl) (fx := []) (fun k => rfl) (by kernel_rfl) k
/-- loop.example/g00218/spec.l3Cells -/
noncomputable def D44 : Def := { fn := Tryd.f44, code := Tryd.f44.body.getD .skip, ps := [.val (.slice K1), .val K1], res := .own 59 K1, pl := [2, 9], L := lookL [(2, [.val 0 (.slice K1), .var 3 K1, .val 5 (.int .i64)]), (9, [.val 0 (.slice K1), .val 5 (.int .i64), .own 6 59 K1])] }
noncomputable def E44 (k : Nat) : Ctx := mkCx base []
theorem c44 {G : World → Prop} (k : Nat) : Con Tryd.prog G 44 (D44.fnAt E44 k) := Def.con2 mixed (fun k => TypesOK.mk' types _) (fun k => FnsOK.nil) D44 Tryd.func44 (by kernel_rfl) (fun k => by kernel_rfl) (fx := []) (fun k => rfl) (by kernel_rfl) k
/-- loop.example/g00218/spec.l3Value -/
noncomputable def D45 : Def := { fn := Tryd.f45, code := Tryd.f45.body.getD .skip, ps := [.val (.slice K1), .val .str], res := .val .str, pl := [2], L := lookL [(2, [.val 1 .str, .val 7 (.slice K1), .val 8 (.int .i64), .val 9 (.int .i64)])] }
noncomputable def E45 (k : Nat) : Ctx := mkCx base []
theorem c45 {G : World → Prop} (k : Nat) : Con Tryd.prog G 45 (D45.fnAt E45 k) := Def.con2 mixed (fun k => TypesOK.mk' types _) (fun k => FnsOK.nil) D45 Tryd.func45 (by kernel_rfl) (fun k => by kernel_rfl) (fx := []) (fun k => rfl) (by kernel_rfl) k
/-- loop.example/g00218/spec.FitsOrder -/
noncomputable def D27 : Def := { fn := Tryd.f27, code := Tryd.f27.body.getD .skip, ps := [.val (.slice K0), .val (.slice (.int .i64))], res := .tup (.pair (.val .bool) (.val .bool)), pl := [4, 11], L := lookL [(4, [.val 0 (.slice K0), .val 1 (.slice (.int .i64)), .val 22 (.slice (.int .i64)), .val 23 (.int .i64), .val 24 (.int .i64)]), (11, [.val 0 (.slice K0), .val 8 (.slice K1), .val 43 (.slice (.int .i64)), .val 44 (.int .i64), .val 45 (.int .i64)])] }
noncomputable def E27 (k : Nat) : Ctx := mkCx base [(10, D10.fnAt E10 k), (31, D31.fnAt E31 k), (43, D43.fnAt E43 k), (44, D44.fnAt E44 k), (45, D45.fnAt E45 k)]
theorem c27 {G : World → Prop} (k : Nat) : Con Tryd.prog G 27 (D27.fnAt E27 k) := Def.con2 mixed (fun k => TypesOK.mk' types _) (fun k => FnsOK.cons (c10 k) (by kernel_rfl) (FnsOK.cons (c31 k) (by kernel_rfl) (FnsOK.cons (c43 k) (by kernel_rfl) (FnsOK.cons (c44 k) (by kernel_rfl) (FnsOK.cons (c45 k) (by kernel_rfl) (FnsOK.nil)))))) D27 Tryd.func27 (by kernel_rfl) (fun k => by kernel_rfl) (fx := []) (fun k => rfl) (by kernel_rfl) k
/-- loop.example/g00218/laws.toIntS -/
noncomputable def D28 : Def := { fn := Tryd.f28, code := Tryd.f28.body.getD .skip, ps := [.val (.slice (.int .i64))], res := .own 3 (.int .i64), pl := [3], L := lookL [(3, [.val 0 (.slice (.int .i64)), .own 3 3 (.int .i64), .val 4 (.int .i64)])] }
noncomputable def E28 (k : Nat) : Ctx := mkCx base []
theorem c28 {G : World → Prop} (k : Nat) : Con Tryd.prog G 28 (D28.fnAt E28 k) := Def.con2 mixed (fun k => TypesOK.mk' types _) (fun k => FnsOK.nil) D28 Tryd.func28 (by kernel_rfl) (fun k => by kernel_rfl) (fx := []) (fun k => rfl) (by kernel_rfl) k
/-- loop.example/g00218/impl.in -/
noncomputable def D49 : Def := { fn := Tryd.f49, code := Tryd.f49.body.getD .skip, ps := [.val (.int .i64), .val (.int .i64), .val (.int .i64)], res := .val .bool, pl := [], L := lookL [] }
noncomputable def E49 (k : Nat) : Ctx := mkCx base []
theorem c49 {G : World → Prop} (k : Nat) : Con Tryd.prog G 49 (D49.fnAt E49 k) := Def.con2 mixed (fun k => TypesOK.mk' types _) (fun k => FnsOK.nil) D49 Tryd.func49 (by kernel_rfl) (fun k => by kernel_rfl) (fx := []) (fun k => rfl) (by kernel_rfl) k
/-- loop.example/g00218/impl.isKey -/
noncomputable def D52 : Def := { fn := Tryd.f52, code := Tryd.f52.body.getD .skip, ps := [.val .str], res := .val .bool, pl := [], L := lookL [] }
noncomputable def E52 (k : Nat) : Ctx := mkCx base [(62, ⟨[.val .str, .val .str], .val .str, fun v => MapW.strings_Trim.f v.1 v.2.1⟩)]
theorem c52 {G : World → Prop} (k : Nat) : Con Tryd.prog G 52 (D52.fnAt E52 k) := Def.con2 mixed (fun k => TypesOK.mk' types _) (fun k => FnsOK.cons (Con.text2 MapW.strings_Trim.f MapW.strings_Trim.calls) (by kernel_rfl) (FnsOK.nil)) D52 Tryd.func52 (by kernel_rfl) (fun k => by kernel_rfl) (fx := []) (fun k => rfl) (by kernel_rfl) k
/-- loop.example/g00218/impl.isValue -/
noncomputable def D53 : Def := { fn := Tryd.f53, code := Tryd.f53.body.getD .skip, ps := [.val .str], res := .val .bool, pl := [2], L := lookL [(2, [.val 0 .str, .val 5 (.int .i64), .val 6 (.int .i64)])] }
noncomputable def E53 (k : Nat) : Ctx := mkCx base []
theorem c53 {G : World → Prop} (k : Nat) : Con Tryd.prog G 53 (D53.fnAt E53 k) := Def.con2 mixed (fun k => TypesOK.mk' types _) (fun k => FnsOK.nil) D53 Tryd.func53 (by kernel_rfl) (fun k => by kernel_rfl) (fx := []) (fun k => rfl) (by kernel_rfl) k
/-- loop.example/g00218/impl.areCalls -/
noncomputable def D36 : Def := { fn := Tryd.f36, code := Tryd.f36.body.getD .skip, ps := [.val (.slice K0)], res := .val .bool, pl := [3, 10], L := lookL [(3, [.val 0 (.slice K0), .mp 3 (.int .i64) .bool, .val 9 (.slice K0), .val 10 (.int .i64), .val 11 (.int .i64)]), (10, [.val 0 (.slice K0), .mp 3 (.int .i64) .bool, .var 5 K0, .val 9 (.slice K0), .val 10 (.int .i64), .val 11 (.int .i64), .val 69 (.slice K0), .val 70 (.int .i64), .val 71 (.int .i64)])] }
noncomputable def E36 (k : Nat) : Ctx := mkCx base [(49, D49.fnAt E49 k), (52, D52.fnAt E52 k), (53, D53.fnAt E53 k)]
theorem c36 {G : World → Prop} (k : Nat) : Con Tryd.prog G 36 (D36.fnAt E36 k) := Def.con2 mixed (fun k => TypesOK.mk' types _) (fun k => FnsOK.cons (c49 k) (by kernel_rfl) (FnsOK.cons (c52 k) (by kernel_rfl) (FnsOK.cons (c53 k) (by kernel_rfl) (FnsOK.nil)))) D36 Tryd.func36 (by kernel_rfl) (fun k => by kernel_rfl) (fx := []) (fun k => rfl) (by kernel_rfl) k
/-- loop.example/g00218/impl.FitsOrder$1 -/
noncomputable def D48 : Def := { fn := Tryd.f48, code := Tryd.f48.body.getD .skip, ps := [.val (.int .i64), .val (.ref (.slice K0))], res := .val .bool, pl := [], L := lookL [] }
noncomputable def E48 (k : Nat) : Ctx := mkCx base [(49, D49.fnAt E49 k)]
theorem c48 {G : World → Prop} (k : Nat) : Con Tryd.prog G 48 (D48.fnAt E48 k) := Def.con2 mixed (fun k => TypesOK.mk' types _) (fun k => FnsOK.cons (c49 k) (by kernel_rfl) (FnsOK.nil)) D48 Tryd.func48 (by kernel_rfl) (fun k => by kernel_rfl) (fx := []) (fun k => rfl) (by kernel_rfl) k
/-- slices.IndexFunc[[]int,int] -/
noncomputable def D61 : Def := { fn := Tryd.f61, code := Tryd.f61.body.getD .skip, ps := [.val (.slice (.int .i64)), .val (.clo 48 (.pair (.ref (.slice K0)) .unit))], res := .val (.int .i64), pl := [2], L := lookL [(2, [.val 0 (.slice (.int .i64)), .val 1 (.clo 48 (.pair (.ref (.slice K0)) .unit)), .val 7 (.int .i64), .val 8 (.int .i64)])] }
noncomputable def E61 (k : Nat) : Ctx := mkCx base [(48, D48.fnAt E48 k)]
theorem c61 {G : World → Prop} (k : Nat) : Con Tryd.prog G 61 (D61.fnAt E61 k) := Def.con2 mixed (fun k => TypesOK.mk' types _) (fun k => FnsOK.cons (c48 k) (by kernel_rfl) (FnsOK.nil)) D61 Tryd.func61 (by kernel_rfl) (fun k => by kernel_rfl) (fx := []) (fun k => rfl) (by kernel_rfl) k
/-- slices.ContainsFunc[[]int,int] -/
noncomputable def D47 : Def := { fn := Tryd.f47, code := Tryd.f47.body.getD .skip, ps := [.val (.slice (.int .i64)), .val (.clo 48 (.pair (.ref (.slice K0)) .unit))], res := .val .bool, pl := [], L := lookL [] }
noncomputable def E47 (k : Nat) : Ctx := mkCx base [(61, D61.fnAt E61 k)]
theorem c47 {G : World → Prop} (k : Nat) : Con Tryd.prog G 47 (D47.fnAt E47 k) := Def.con2 mixed (fun k => TypesOK.mk' types _) (fun k => FnsOK.cons (c61 k) (by kernel_rfl) (FnsOK.nil)) D47 Tryd.func47 (by kernel_rfl) (fun k => by kernel_rfl) (fx := []) (fun k => rfl) (by kernel_rfl) k
/-- loop.example/g00218/impl.fits -/
noncomputable def D51 : Def := { fn := Tryd.f51, code := Tryd.f51.body.getD .skip, ps := [.val (.slice K0), .val (.slice (.int .i64))], res := .val .bool, pl := [3], L := lookL [(3, [.val 0 (.slice K0), .mp 5 .str .str, .val 10 (.slice (.int .i64)), .val 11 (.int .i64), .val 12 (.int .i64)])] }
noncomputable def E51 (k : Nat) : Ctx := mkCx base []
theorem c51 {G : World → Prop} (k : Nat) : Con Tryd.prog G 51 (D51.fnAt E51 k) := Def.con2 mixed (fun k => TypesOK.mk' types _) (fun k => FnsOK.nil) D51 Tryd.func51 (by kernel_rfl) (fun k => by kernel_rfl) (fx := []) (fun k => rfl) (by kernel_rfl) k
/-- loop.example/g00218/impl.FitsOrder -/
noncomputable def D29 : Def := { fn := Tryd.f29, code := Tryd.f29.body.getD .skip, ps := [.val (.slice K0), .val (.slice (.int .i64))], res := .tup (.pair (.val .bool) (.val .bool)), pl := [], L := lookL [] }
noncomputable def E29 (k : Nat) : Ctx := mkCx base [(36, D36.fnAt E36 k), (46, sortIntFn 3), (47, D47.fnAt E47 k), (50, compactIntFn 3), (51, D51.fnAt E51 k)]
theorem c29 {G : World → Prop} (k : Nat) : Con Tryd.prog G 29 (D29.fnAt E29 k) := Def.con2 mixed (fun k => TypesOK.mk' types _) (fun k => FnsOK.cons (c36 k) (by kernel_rfl) (FnsOK.cons (Con.sortInt Go.Proofs.Tryd.lays189 (by kernel_rfl) 3) (by kernel_rfl) (FnsOK.cons (c47 k) (by kernel_rfl) (FnsOK.cons (Con.compactInt Go.Proofs.Tryd.lays220 (by kernel_rfl) 3) (by kernel_rfl) (FnsOK.cons (c51 k) (by kernel_rfl) (FnsOK.nil)))))) D29 Tryd.func29 (by kernel_rfl) (fun k => by kernel_rfl) (fx := []) (fun k => rfl) (by kernel_rfl) k
/-- loop.example/g00218/laws.szCall -/
noncomputable def D30 : Def := { fn := Tryd.f30, code := Tryd.f30.body.getD .skip, ps := [.val K0, .val (.int .i64)], res := .val (.int .i64), pl := [], L := lookL [] }
noncomputable def E30 (k : Nat) : Ctx := mkCx base []
theorem c30 {G : World → Prop} (k : Nat) : Con Tryd.prog G 30 (D30.fnAt E30 k) := Def.con2 mixed (fun k => TypesOK.mk' types _) (fun k => FnsOK.nil) D30 Tryd.func30 (by kernel_rfl) (fun k => by kernel_rfl) (fx := []) (fun k => rfl) (by kernel_rfl) k
/-- loop.example/g00218/laws.szCallS -/
noncomputable def D9 : Def := { fn := Tryd.f9, code := Tryd.f9.body.getD .skip, ps := [.val (.slice K0), .val (.int .i64)], res := .val (.int .i64), pl := [5], L := lookL [(5, [.val 0 (.slice K0), .val 1 (.int .i64), .val 5 (.int .i64)])] }
noncomputable def E9 (k : Nat) : Ctx := mkCx base [(30, D30.fnAt E30 k)]
theorem c9 {G : World → Prop} (k : Nat) : Con Tryd.prog G 9 (D9.fnAt E9 k) := Def.con2 mixed (fun k => TypesOK.mk' types _) (fun k => FnsOK.cons (c30 k) (by kernel_rfl) (FnsOK.nil)) D9 Tryd.func9 (by kernel_rfl) (fun k => by kernel_rfl) (fx := []) (fun k => rfl) (by kernel_rfl) k
/-- loop.example/g00218/laws.FnExactFitsOrder -/
noncomputable def D8 : Def := { fn := Tryd.f8, code := Tryd.f8.body.getD .skip, ps := [.val (.slice K0), .val (.slice (.int .i64))], res := .val .bool, pl := [], L := lookL [] }
noncomputable def E8 (k : Nat) : Ctx := mkCx base [(11, D11.fnAt E11 k), (13, D13.fnAt E13 k), (18, D18.fnAt E18 k), (27, D27.fnAt E27 k), (28, D28.fnAt E28 k), (29, D29.fnAt E29 k), (9, D9.fnAt E9 k)]
theorem c8 {G : World → Prop} (k : Nat) : Con Tryd.prog G 8 (D8.fnAt E8 k) := Def.con2 mixed (fun k => TypesOK.mk' types _) (fun k => FnsOK.cons (c11 k) (by kernel_rfl) (FnsOK.cons (c13 k) (by kernel_rfl) (FnsOK.cons (c18 k) (by kernel_rfl) (FnsOK.cons (c27 k) (by kernel_rfl) (FnsOK.cons (c28 k) (by kernel_rfl) (FnsOK.cons (c29 k) (by kernel_rfl) (FnsOK.cons (c9 k) (by kernel_rfl) (FnsOK.nil)))))))) D8 Tryd.func8 (by kernel_rfl) (fun k => by kernel_rfl) (fx := []) (fun k => rfl) (by kernel_rfl) k
end Go.Proofs.YtienplkbbahfjaaDoor.Fms
