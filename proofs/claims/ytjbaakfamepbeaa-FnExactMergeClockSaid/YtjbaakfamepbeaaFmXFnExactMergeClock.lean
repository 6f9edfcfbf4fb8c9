/- FnExactMergeClock, by the functional machine. -/
import Derived.Test.YtjbaakfamepbeaaFmZ
import Derived.Test.YtjbaakfamepbeaaFmGv
import Derived.Test.YtjbaakfamepbeaaProg
set_option maxRecDepth 100000
set_option linter.unusedVariables false
open Go Go.Fm
namespace Go.Proofs.Ytjbaakfamepbeaa.Fms
abbrev K0 : Kind := .struct (.slice (.int .i64))
def table : List TRow := [⟨3, (.int .i64), 0, 0, false, none⟩, ⟨4, .bool, 0, 0, false, none⟩, ⟨36, (.slice (.int .i64)), 17592186044416, 3, false, none⟩, ⟨72, K0, 0, 0, false, none⟩, ⟨73, K0, 0, 0, false, none⟩, ⟨76, K0, 0, 0, false, none⟩]
def base : Ctx := ctxOf table
theorem types : TypesOK Try.prog base := typesOK_of (by kernel_rfl)
theorem mixed : Try.prog.follows .mixedOrders = true := by kernel_rfl
/-- loop.example/g00218/laws.szIntS -/
noncomputable def D63 : Def := { fn := Try.f63, code := Try.f63.body.getD .skip, ps := [.val (.slice (.int .i64)), .val (.int .i64)], res := .val (.int .i64), pl := [], L := lookL [] }
noncomputable def E63 (k : Nat) : Ctx := mkCx base []
theorem c63 [Strict] {G : World → Prop} (k : Nat) : Con Try.prog G 63 (D63.fnAt E63 k) := Def.con2 mixed (fun k => TypesOK.mk' types _) (fun k => FnsOK.nil) D63 Try.func63 (by kernel_rfl) (fun k => by kernel_rfl) (fx := []) (fun k => rfl) (by kernel_rfl) k
/-- loop.example/g00218/laws.szClock -/
noncomputable def D50 : Def := { fn := Try.f50, code := Try.f50.body.getD .skip, ps := [.val K0, .val (.int .i64)], res := .val (.int .i64), pl := [], L := lookL [] }
noncomputable def E50 (k : Nat) : Ctx := mkCx base [(63, D63.fnAt E63 k)]
theorem c50 [Strict] {G : World → Prop} (k : Nat) : Con Try.prog G 50 (D50.fnAt E50 k) := Def.con2 mixed (fun k => TypesOK.mk' types _) (fun k => FnsOK.cons (c63 k) (by kernel_rfl) (FnsOK.nil)) D50 Try.func50 (by kernel_rfl) (fun k => by kernel_rfl) (fx := []) (fun k => rfl) (by kernel_rfl) k
/-- loop.example/g00218/laws.toIntS -/
noncomputable def D35 : Def := { fn := Try.f35, code := Try.f35.body.getD .skip, ps := [.val (.slice (.int .i64))], res := .own 3 (.int .i64), pl := [3], L := lookL [(3, [.val 0 (.slice (.int .i64)), .own 3 3 (.int .i64), .val 4 (.int .i64)])] }
noncomputable def E35 (k : Nat) : Ctx := mkCx base []
theorem c35 [Strict] {G : World → Prop} (k : Nat) : Con Try.prog G 35 (D35.fnAt E35 k) := Def.con2 mixed (fun k => TypesOK.mk' types _) (fun k => FnsOK.nil) D35 Try.func35 (by kernel_rfl) (fun k => by kernel_rfl) (fx := []) (fun k => rfl) (by kernel_rfl) k
/-- loop.example/g00218/laws.toClock -/
noncomputable def D52 : Def := { fn := Try.f52, code := Try.f52.body.getD .skip, ps := [.val K0], res := .agg (.own 3 (.int .i64)), pl := [], L := lookL [] }
noncomputable def E52 (k : Nat) : Ctx := mkCx base [(35, D35.fnAt E35 k)]
theorem c52 [Strict] {G : World → Prop} (k : Nat) : Con Try.prog G 52 (D52.fnAt E52 k) := Def.con2 mixed (fun k => TypesOK.mk' types _) (fun k => FnsOK.cons (c35 k) (by kernel_rfl) (FnsOK.nil)) D52 Try.func52 (by kernel_rfl) (fun k => by kernel_rfl) (fx := []) (fun k => rfl) (by kernel_rfl) k
/-- loop.example/g00218/laws.eqIntS -/
noncomputable def D37 : Def := { fn := Try.f37, code := Try.f37.body.getD .skip, ps := [.val (.slice (.int .i64)), .val (.slice (.int .i64))], res := .val .bool, pl := [4], L := lookL [(4, [.val 0 (.slice (.int .i64)), .val 1 (.slice (.int .i64)), .val 5 (.int .i64)])] }
noncomputable def E37 (k : Nat) : Ctx := mkCx base []
theorem c37 [Strict] {G : World → Prop} (k : Nat) : Con Try.prog G 37 (D37.fnAt E37 k) := Def.con2 mixed (fun k => TypesOK.mk' types _) (fun k => FnsOK.nil) D37 Try.func37 (by kernel_rfl) (fun k => by kernel_rfl) (fx := []) (fun k => rfl) (by kernel_rfl) k
/-- loop.example/g00218/laws.eqClock -/
noncomputable def D54 : Def := { fn := Try.f54, code := Try.f54.body.getD .skip, ps := [.val K0, .val K0], res := .val .bool, pl := [], L := lookL [] }
noncomputable def E54 (k : Nat) : Ctx := mkCx base [(37, D37.fnAt E37 k)]
theorem c54 [Strict] {G : World → Prop} (k : Nat) : Con Try.prog G 54 (D54.fnAt E54 k) := Def.con2 mixed (fun k => TypesOK.mk' types _) (fun k => FnsOK.cons (c37 k) (by kernel_rfl) (FnsOK.nil)) D54 Try.func54 (by kernel_rfl) (fun k => by kernel_rfl) (fx := []) (fun k => rfl) (by kernel_rfl) k
/-- loop.example/g00218/spec.l1In -/
noncomputable def D64 : Def := { fn := Try.f64, code := Try.f64.body.getD .skip, ps := [.val (.int .i64), .val (.int .i64), .val (.int .i64)], res := .val .bool, pl := [], L := lookL [] }
noncomputable def E64 (k : Nat) : Ctx := mkCx base []
theorem c64 [Strict] {G : World → Prop} (k : Nat) : Con Try.prog G 64 (D64.fnAt E64 k) := Def.con2 mixed (fun k => TypesOK.mk' types _) (fun k => FnsOK.nil) D64 Try.func64 (by kernel_rfl) (fun k => by kernel_rfl) (fx := []) (fun k => rfl) (by kernel_rfl) k
/-- loop.example/g00218/spec.l2Clock -/
noncomputable def D77 : Def := { fn := Try.f77, code := Try.f77.body.getD .skip, ps := [.val K0], res := .val .bool, pl := [2], L := lookL [(2, [.var 1 K0, .val 6 (.slice (.int .i64)), .val 7 (.int .i64), .val 8 (.int .i64)])] }
noncomputable def E77 (k : Nat) : Ctx := mkCx base [(64, D64.fnAt E64 k)]
theorem c77 [Strict] {G : World → Prop} (k : Nat) : Con Try.prog G 77 (D77.fnAt E77 k) := Def.con2 mixed (fun k => TypesOK.mk' types _) (fun k => FnsOK.cons (c64 k) (by kernel_rfl) (FnsOK.nil)) D77 Try.func77 (by kernel_rfl) (fun k => by kernel_rfl) (fx := []) (fun k => rfl) (by kernel_rfl) k
/-- loop.example/g00218/spec.l2Merge -/
noncomputable def D79 : Def := { fn := Try.f79, code := Try.f79.body.getD .skip, ps := [.val (.slice (.int .i64)), .val (.slice (.int .i64))], res := .own 3 (.int .i64), pl := [3], L := lookL [(3, [.own 5 3 (.int .i64), .val 11 (.slice (.int .i64)), .val 12 (.int .i64), .val 13 (.int .i64)])] }
noncomputable def E79 (k : Nat) : Ctx := mkCx base []
theorem c79 [Strict] {G : World → Prop} (k : Nat) : Con Try.prog G 79 (D79.fnAt E79 k) := Def.con2 mixed (fun k => TypesOK.mk' types _) (fun k => FnsOK.nil) D79 Try.func79 (by kernel_rfl) (fun k => by kernel_rfl) (fx := []) (fun k => rfl) (by kernel_rfl) k
/-- loop.example/g00218/spec.MergeClock -/
noncomputable def D55 : Def := { fn := Try.f55, code := Try.f55.body.getD .skip, ps := [.val K0, .val K0], res := .tup (.pair (.val K0) (.val .bool)), pl := [], L := lookL [] }
noncomputable def E55 (k : Nat) : Ctx := mkCx base [(77, D77.fnAt E77 k), (79, D79.fnAt E79 k)]
theorem c55 [Strict] {G : World → Prop} (k : Nat) : Con Try.prog G 55 (D55.fnAt E55 k) := Def.con2 mixed (fun k => TypesOK.mk' types _) (fun k => FnsOK.cons (c77 k) (by kernel_rfl) (FnsOK.cons (c79 k) (by kernel_rfl) (FnsOK.nil))) D55 Try.func55 (by kernel_rfl) (fun k => by kernel_rfl) (fx := []) (fun k => rfl) (by kernel_rfl) k
/-- loop.example/g00218/impl.greater -/
noncomputable def D72 : Def := { fn := Try.f72, code := Try.f72.body.getD .skip, ps := [.val (.slice (.int .i64)), .val (.slice (.int .i64))], res := .own 3 (.int .i64), pl := [3], L := lookL [(3, [.val 1 (.slice (.int .i64)), .own 5 3 (.int .i64), .val 9 (.slice (.int .i64)), .val 10 (.int .i64), .val 11 (.int .i64)])] }
noncomputable def E72 (k : Nat) : Ctx := mkCx base []
theorem c72 [Strict] {G : World → Prop} (k : Nat) : Con Try.prog G 72 (D72.fnAt E72 k) := Def.con2 mixed (fun k => TypesOK.mk' types _) (fun k => FnsOK.nil) D72 Try.func72 (by kernel_rfl) (fun k => by kernel_rfl) (fx := []) (fun k => rfl) (by kernel_rfl) k
/-- loop.example/g00218/impl.in -/
noncomputable def D69 : Def := { fn := Try.f69, code := Try.f69.body.getD .skip, ps := [.val (.int .i64), .val (.int .i64), .val (.int .i64)], res := .val .bool, pl := [], L := lookL [] }
noncomputable def E69 (k : Nat) : Ctx := mkCx base []
theorem c69 [Strict] {G : World → Prop} (k : Nat) : Con Try.prog G 69 (D69.fnAt E69 k) := Def.con2 mixed (fun k => TypesOK.mk' types _) (fun k => FnsOK.nil) D69 Try.func69 (by kernel_rfl) (fun k => by kernel_rfl) (fx := []) (fun k => rfl) (by kernel_rfl) k
/-- loop.example/g00218/impl.isClock$1 -/
noncomputable def D84 : Def := { fn := Try.f84, code := Try.f84.body.getD .skip, ps := [.val (.int .i64)], res := .val .bool, pl := [], L := lookL [] }
noncomputable def E84 (k : Nat) : Ctx := mkCx base [(69, D69.fnAt E69 k)]
theorem c84 [Strict] {G : World → Prop} (k : Nat) : Con Try.prog G 84 (D84.fnAt E84 k) := Def.con2 mixed (fun k => TypesOK.mk' types _) (fun k => FnsOK.cons (c69 k) (by kernel_rfl) (FnsOK.nil)) D84 Try.func84 (by kernel_rfl) (fun k => by kernel_rfl) (fx := []) (fun k => rfl) (by kernel_rfl) k
/-- slices.IndexFunc[[]int,int] -/
noncomputable def D83 : Def := { fn := Try.f83, code := Try.f83.body.getD .skip, ps := [.val (.slice (.int .i64)), .val (.clo 84 .unit)], res := .val (.int .i64), pl := [2], L := lookL [(2, [.val 0 (.slice (.int .i64)), .val 1 (.clo 84 .unit), .val 7 (.int .i64), .val 8 (.int .i64)])] }
noncomputable def E83 (k : Nat) : Ctx := mkCx base [(84, D84.fnAt E84 k)]
theorem c83 [Strict] {G : World → Prop} (k : Nat) : Con Try.prog G 83 (D83.fnAt E83 k) := Def.con2 mixed (fun k => TypesOK.mk' types _) (fun k => FnsOK.cons (c84 k) (by kernel_rfl) (FnsOK.nil)) D83 Try.func83 (by kernel_rfl) (fun k => by kernel_rfl) (fx := []) (fun k => rfl) (by kernel_rfl) k
/-- slices.ContainsFunc[[]int,int] -/
noncomputable def D71 : Def := { fn := Try.f71, code := Try.f71.body.getD .skip, ps := [.val (.slice (.int .i64)), .val (.clo 84 .unit)], res := .val .bool, pl := [], L := lookL [] }
noncomputable def E71 (k : Nat) : Ctx := mkCx base [(83, D83.fnAt E83 k)]
theorem c71 [Strict] {G : World → Prop} (k : Nat) : Con Try.prog G 71 (D71.fnAt E71 k) := Def.con2 mixed (fun k => TypesOK.mk' types _) (fun k => FnsOK.cons (c83 k) (by kernel_rfl) (FnsOK.nil)) D71 Try.func71 (by kernel_rfl) (fun k => by kernel_rfl) (fx := []) (fun k => rfl) (by kernel_rfl) k
/-- loop.example/g00218/impl.isClock -/
noncomputable def D78 : Def := { fn := Try.f78, code := Try.f78.body.getD .skip, ps := [.val K0], res := .val .bool, pl := [], L := lookL [] }
noncomputable def E78 (k : Nat) : Ctx := mkCx base [(71, D71.fnAt E71 k)]
theorem c78 [Strict] {G : World → Prop} (k : Nat) : Con Try.prog G 78 (D78.fnAt E78 k) := Def.con2 mixed (fun k => TypesOK.mk' types _) (fun k => FnsOK.cons (c71 k) (by kernel_rfl) (FnsOK.nil)) D78 Try.func78 (by kernel_rfl) (fun k => by kernel_rfl) (fx := []) (fun k => rfl) (by kernel_rfl) k
/-- loop.example/g00218/impl.MergeClock -/
noncomputable def D56 : Def := { fn := Try.f56, code := Try.f56.body.getD .skip, ps := [.val K0, .val K0], res := .tup (.pair (.agg (.own 3 (.int .i64))) (.val .bool)), pl := [], L := lookL [] }
noncomputable def E56 (k : Nat) : Ctx := mkCx base [(72, D72.fnAt E72 k), (78, D78.fnAt E78 k)]
theorem c56 [Strict] {G : World → Prop} (k : Nat) : Con Try.prog G 56 (D56.fnAt E56 k) := Def.con2 mixed (fun k => TypesOK.mk' types _) (fun k => FnsOK.cons (c72 k) (by kernel_rfl) (FnsOK.cons (c78 k) (by kernel_rfl) (FnsOK.nil))) D56 Try.func56 (by kernel_rfl) (fun k => by kernel_rfl) (fx := []) (fun k => rfl) (by kernel_rfl) k
/-- loop.example/g00218/laws.markIntS -/
noncomputable def D38 : Def := { fn := Try.f38, code := Try.f38.body.getD .skip, ps := [.own 3 (.int .i64), .val (.int .i64)], res := .back 0 3 (.int .i64) (.val (.int .i64)), pl := [2], L := lookL [(2, [.own 0 3 (.int .i64), .val 1 (.int .i64), .val 5 (.int .i64)])] }
noncomputable def E38 (k : Nat) : Ctx := mkCx (fxCx base [0]) []
theorem c38 [Strict] {G : World → Prop} (k : Nat) : Con Try.prog G 38 (D38.fnAt E38 k) := Def.con2 mixed (fun k => TypesOK.mk' (types.fx [0]) _) (fun k => FnsOK.nil) D38 Try.func38 (by kernel_rfl) (fun k => by kernel_rfl) (fx := [0]) (fun k => rfl) (by kernel_rfl) k
/-- loop.example/g00218/laws.markClock -/
noncomputable def D57 : Def := { fn := Try.f57, code := Try.f57.body.getD .skip, sh := [1, 0], ps := [.own 3 (.int .i64), .val (.int .i64)], res := .back 0 3 (.int .i64) (.val (.int .i64)), pl := [], L := lookL [] }
noncomputable def E57 (k : Nat) : Ctx := mkCx (fxCx base [0]) [(38, D38.fnAt E38 k)]
theorem c57 [Strict] {G : World → Prop} (k : Nat) : Con Try.prog G 57 (D57.fnAt E57 k) := Def.con2 mixed (fun k => TypesOK.mk' (types.fx [0]) _) (fun k => FnsOK.cons (c38 k) (by kernel_rfl) (FnsOK.nil)) D57 Try.func57 (by kernel_rfl) (fun k => by kernel_rfl) (fx := [0]) (fun k => rfl) (by kernel_rfl) k
/-- loop.example/g00218/laws.heldIntS -/
noncomputable def D39 : Def := { fn := Try.f39, code := Try.f39.body.getD .skip, ps := [.val (.slice (.int .i64)), .val (.int .i64)], res := .val (.int .i64), pl := [2], L := lookL [(2, [.val 0 (.slice (.int .i64)), .val 1 (.int .i64), .val 5 (.int .i64)])] }
noncomputable def E39 (k : Nat) : Ctx := mkCx base []
theorem c39 [Strict] {G : World → Prop} (k : Nat) : Con Try.prog G 39 (D39.fnAt E39 k) := Def.con2 mixed (fun k => TypesOK.mk' types _) (fun k => FnsOK.nil) D39 Try.func39 (by kernel_rfl) (fun k => by kernel_rfl) (fx := []) (fun k => rfl) (by kernel_rfl) k
/-- loop.example/g00218/laws.heldClock -/
noncomputable def D58 : Def := { fn := Try.f58, code := Try.f58.body.getD .skip, ps := [.val K0, .val (.int .i64)], res := .val (.int .i64), pl := [], L := lookL [] }
noncomputable def E58 (k : Nat) : Ctx := mkCx base [(39, D39.fnAt E39 k)]
theorem c58 [Strict] {G : World → Prop} (k : Nat) : Con Try.prog G 58 (D58.fnAt E58 k) := Def.con2 mixed (fun k => TypesOK.mk' types _) (fun k => FnsOK.cons (c39 k) (by kernel_rfl) (FnsOK.nil)) D58 Try.func58 (by kernel_rfl) (fun k => by kernel_rfl) (fx := []) (fun k => rfl) (by kernel_rfl) k
/-- loop.example/g00218/laws.FnExactMergeClock -/
noncomputable def D14 : Def := { fn := Try.f14, code := Try.f14.body.getD .skip, ps := [.val K0, .val K0], res := .val .bool, pl := [], L := lookL [] }
noncomputable def E14 (k : Nat) : Ctx := mkCx base [(50, D50.fnAt E50 k), (52, D52.fnAt E52 k), (54, D54.fnAt E54 k), (55, D55.fnAt E55 k), (56, D56.fnAt E56 k), (57, D57.fnAt E57 k), (58, D58.fnAt E58 k)]
theorem c14 [Strict] {G : World → Prop} (k : Nat) : Con Try.prog G 14 (D14.fnAt E14 k) := Def.con2 mixed (fun k => TypesOK.mk' types _) (fun k => FnsOK.cons (c50 k) (by kernel_rfl) (FnsOK.cons (c52 k) (by kernel_rfl) (FnsOK.cons (c54 k) (by kernel_rfl) (FnsOK.cons (c55 k) (by kernel_rfl) (FnsOK.cons (c56 k) (by kernel_rfl) (FnsOK.cons (c57 k) (by kernel_rfl) (FnsOK.cons (c58 k) (by kernel_rfl) (FnsOK.nil)))))))) D14 Try.func14 (by kernel_rfl) (fun k => by kernel_rfl) (fx := []) (fun k => rfl) (by kernel_rfl) k
end Go.Proofs.Ytjbaakfamepbeaa.Fms
