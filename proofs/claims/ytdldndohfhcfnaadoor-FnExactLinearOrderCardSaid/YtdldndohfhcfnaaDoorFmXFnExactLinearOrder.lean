/- FnExactLinearOrder, by the functional machine. -/
import Derived.Test.YtdldndohfhcfnaaDoorTrim
import Derived.Test.YtdldndohfhcfnaaDoorFmZ
import Derived.Test.YtdldndohfhcfnaaDoorFmGv
import Derived.Test.YtdldndohfhcfnaaDoorFmIt
import Derived.Test.YtdldndohfhcfnaaDoorFmPq
import Derived.Test.YtdldndohfhcfnaaDoorProg
set_option maxRecDepth 100000
set_option linter.unusedVariables false
open Go Go.Fm
namespace Go.Proofs.YtdldndohfhcfnaaDoor.Fms
abbrev K1 : Kind := .struct (.pair .str .str)
abbrev K0 : Kind := .struct (.pair (.int .i64) (.pair .bool (.pair .str (.pair .str (.pair (.int .i64) (.int .i64))))))
abbrev K2 : Kind := .struct (.pair (.slice K0) (.pair .bool (.pair (.slice .bool) (.pair (.slice (.int .i64)) (.slice K1)))))
def table : List TRow := [⟨1, .fnk, 0, 0, false, none⟩, ⟨2, (.int .i64), 0, 0, false, none⟩, ⟨3, (.int .i64), 0, 0, false, none⟩, ⟨4, .bool, 0, 0, false, none⟩, ⟨5, (.int .u8), 0, 0, false, none⟩, ⟨9, .str, 0, 0, false, none⟩, ⟨22, (.slice K0), 2199023255552, 38, false, none⟩, ⟨26, (.slice K0), 2199023255552, 41, false, none⟩, ⟨30, (.slice (.int .i64)), 17592186044416, 3, false, none⟩, ⟨37, K0, 0, 0, true, none⟩, ⟨38, K0, 0, 0, true, none⟩, ⟨41, K0, 0, 0, true, none⟩, ⟨47, (.ref K2), 0, 0, false, none⟩, ⟨48, (.slice .bool), 140737488355328, 4, false, none⟩, ⟨49, (.slice K1), 4398046511104, 62, false, none⟩, ⟨50, K2, 0, 0, false, none⟩, ⟨51, K2, 0, 0, false, none⟩, ⟨53, .unit, 0, 0, false, some (3, 4)⟩, ⟨54, .fnk, 0, 0, false, none⟩, ⟨56, .fnk, 0, 0, false, none⟩, ⟨59, (.slice (.int .u8)), 140737488355328, 5, false, none⟩, ⟨61, K1, 0, 0, true, none⟩, ⟨62, K1, 0, 0, true, none⟩, ⟨65, .unit, 0, 0, false, some (9, 9)⟩]
def base : Ctx := ctxOf table
theorem types : TypesOK Tryd.prog base := typesOK_of (by kernel_rfl)
theorem mixed : Tryd.prog.follows .mixedOrders = true := by kernel_rfl
/-- loop.example/g00218/laws.eqCall -/
noncomputable def D25 : Def := { fn := Tryd.f25, code := Tryd.f25.body.getD .skip, ps := [.val K0, .val K0], res := .val .bool, pl := [], L := lookL [] }
noncomputable def E25 (k : Nat) : Ctx := mkCx base []
theorem c25 [Strict] {G : World → Prop} (k : Nat) : Con Tryd.prog G 25 (D25.fnAt E25 k) := Def.con2 mixed (fun k => TypesOK.mk' types _) (fun k => FnsOK.nil) D25 Tryd.func25 (by kernel_rfl) (fun k => by kernel_rfl) (fx := []) (fun k => rfl) (by kernel_rfl) k
/-- loop.example/g00218/laws.eqCallS -/
noncomputable def D10 : Def := { fn := Tryd.f10, code := Tryd.f10.body.getD .skip, ps := [.val (.slice K0), .val (.slice K0)], res := .val .bool, pl := [4], L := lookL [(4, [.val 0 (.slice K0), .val 1 (.slice K0), .val 5 (.int .i64)])] }
noncomputable def E10 (k : Nat) : Ctx := mkCx base [(25, D25.fnAt E25 k)]
theorem c10 [Strict] {G : World → Prop} (k : Nat) : Con Tryd.prog G 10 (D10.fnAt E10 k) := Def.con2 mixed (fun k => TypesOK.mk' types _) (fun k => FnsOK.cons (c25 k) (by kernel_rfl) (FnsOK.nil)) D10 Tryd.func10 (by kernel_rfl) (fun k => by kernel_rfl) (fx := []) (fun k => rfl) (by kernel_rfl) k
/-- loop.example/g00218/spec.l1In -/
noncomputable def D27 : Def := { fn := Tryd.f27, code := Tryd.f27.body.getD .skip, ps := [.val (.int .i64), .val (.int .i64), .val (.int .i64)], res := .val .bool, pl := [], L := lookL [] }
noncomputable def E27 (k : Nat) : Ctx := mkCx base []
theorem c27 [Strict] {G : World → Prop} (k : Nat) : Con Tryd.prog G 27 (D27.fnAt E27 k) := Def.con2 mixed (fun k => TypesOK.mk' types _) (fun k => FnsOK.nil) D27 Tryd.func27 (by kernel_rfl) (fun k => by kernel_rfl) (fx := []) (fun k => rfl) (by kernel_rfl) k
/-- loop.example/g00218/spec.l1Key -/
noncomputable def D28 : Def := { fn := Tryd.f28, code := Tryd.f28.body.getD .skip, ps := [.val .str], res := .val .bool, pl := [2], L := lookL [(2, [.val 0 .str, .val 3 (.int .i64)])] }
noncomputable def E28 (k : Nat) : Ctx := mkCx base [(27, D27.fnAt E27 k)]
theorem c28 [Strict] {G : World → Prop} (k : Nat) : Con Tryd.prog G 28 (D28.fnAt E28 k) := Def.con2 mixed (fun k => TypesOK.mk' types _) (fun k => FnsOK.cons (c27 k) (by kernel_rfl) (FnsOK.nil)) D28 Tryd.func28 (by kernel_rfl) (fun k => by kernel_rfl) (fx := []) (fun k => rfl) (by kernel_rfl) k
/-- loop.example/g00218/spec.l1Value -/
noncomputable def D29 : Def := { fn := Tryd.f29, code := Tryd.f29.body.getD .skip, ps := [.val .str], res := .val .bool, pl := [2], L := lookL [(2, [.val 0 .str, .val 3 (.int .i64)])] }
noncomputable def E29 (k : Nat) : Ctx := mkCx base []
theorem c29 [Strict] {G : World → Prop} (k : Nat) : Con Tryd.prog G 29 (D29.fnAt E29 k) := Def.con2 mixed (fun k => TypesOK.mk' types _) (fun k => FnsOK.nil) D29 Tryd.func29 (by kernel_rfl) (fun k => by kernel_rfl) (fx := []) (fun k => rfl) (by kernel_rfl) k
/-- loop.example/g00218/spec.l7Overlap -/
noncomputable def D30 : Def := { fn := Tryd.f30, code := Tryd.f30.body.getD .skip, ps := [.val K0, .val K0], res := .val .bool, pl := [], L := lookL [] }
noncomputable def E30 (k : Nat) : Ctx := mkCx base []
theorem c30 [Strict] {G : World → Prop} (k : Nat) : Con Tryd.prog G 30 (D30.fnAt E30 k) := Def.con2 mixed (fun k => TypesOK.mk' types _) (fun k => FnsOK.nil) D30 Tryd.func30 (by kernel_rfl) (fun k => by kernel_rfl) (fx := []) (fun k => rfl) (by kernel_rfl) k
/-- loop.example/g00218/spec.GoodCalls -/
noncomputable def D20 : Def := { fn := Tryd.f20, code := Tryd.f20.body.getD .skip, ps := [.val (.slice K0)], res := .val .bool, pl := [2, 7], L := lookL [(2, [.val 0 (.slice K0), .val 7 (.slice K0), .val 8 (.int .i64), .val 9 (.int .i64)]), (7, [.val 0 (.slice K0), .var 4 K0, .val 7 (.slice K0), .val 8 (.int .i64), .val 9 (.int .i64), .val 49 (.slice K0), .val 50 (.int .i64), .val 51 (.int .i64)])] }
noncomputable def E20 (k : Nat) : Ctx := mkCx base [(27, D27.fnAt E27 k), (28, D28.fnAt E28 k), (29, D29.fnAt E29 k), (30, D30.fnAt E30 k)]
theorem c20 [Strict] {G : World → Prop} (k : Nat) : Con Tryd.prog G 20 (D20.fnAt E20 k) := Def.con2 mixed (fun k => TypesOK.mk' types _) (fun k => FnsOK.cons (c27 k) (by kernel_rfl) (FnsOK.cons (c28 k) (by kernel_rfl) (FnsOK.cons (c29 k) (by kernel_rfl) (FnsOK.cons (c30 k) (by kernel_rfl) (FnsOK.nil))))) D20 Tryd.func20 (by kernel_rfl) (fun k => by kernel_rfl) (fx := []) (fun k => rfl) (by kernel_rfl) k
/-- loop.example/g00218/spec.l3Value -/
noncomputable def D45 : Def := { fn := Tryd.f45, code := Tryd.f45.body.getD .skip, ps := [.val (.slice K1), .val .str], res := .val .str, pl := [2], L := lookL [(2, [.val 1 .str, .val 7 (.slice K1), .val 8 (.int .i64), .val 9 (.int .i64)])] }
noncomputable def E45 (k : Nat) : Ctx := mkCx base []
theorem c45 [Strict] {G : World → Prop} (k : Nat) : Con Tryd.prog G 45 (D45.fnAt E45 k) := Def.con2 mixed (fun k => TypesOK.mk' types _) (fun k => FnsOK.nil) D45 Tryd.func45 (by kernel_rfl) (fun k => by kernel_rfl) (fx := []) (fun k => rfl) (by kernel_rfl) k
/-- (*loop.example/g00218/spec.l7S).may -/
noncomputable def D40 : Def := { fn := Tryd.f40, code := Tryd.f40.body.getD .skip, ps := [.val (.ref K2), .val (.int .i64)], res := .val .bool, pl := [2], L := lookL [(2, [.val 0 (.ref K2), .val 1 (.int .i64), .val 10 (.slice K0), .val 11 (.int .i64), .val 12 (.int .i64)])] }
noncomputable def E40 (k : Nat) : Ctx := mkCx base [(45, D45.fnAt E45 k)]
theorem c40 [Strict] {G : World → Prop} (k : Nat) : Con Tryd.prog G 40 (D40.fnAt E40 k) := Def.con2 mixed (fun k => TypesOK.mk' types _) (fun k => FnsOK.cons (c45 k) (by kernel_rfl) (FnsOK.nil)) D40 Tryd.func40 (by kernel_rfl) (fun k => by kernel_rfl) (fx := []) (fun k => rfl) (by kernel_rfl) k
/-- loop.example/g00218/spec.l3Cells -/
noncomputable def D41 : Def := { fn := Tryd.f41, code := Tryd.f41.body.getD .skip, ps := [.val (.slice K1), .val K1], res := .own 62 K1, pl := [2, 9], L := lookL [(2, [.val 0 (.slice K1), .var 3 K1, .val 5 (.int .i64)]), (9, [.val 0 (.slice K1), .val 5 (.int .i64), .own 6 62 K1])] }
noncomputable def E41 (k : Nat) : Ctx := mkCx base []
theorem c41 [Strict] {G : World → Prop} (k : Nat) : Con Tryd.prog G 41 (D41.fnAt E41 k) := Def.con2 mixed (fun k => TypesOK.mk' types _) (fun k => FnsOK.nil) D41 Tryd.func41 (by kernel_rfl) (fun k => by kernel_rfl) (fx := []) (fun k => rfl) (by kernel_rfl) k
/-- (*loop.example/g00218/spec.l7S).search -/
noncomputable def D31 : DefQ := { fn := Tryd.f31, code := Tryd.f31.body.getD .skip, k := K2, ps := [.val (.slice K0), .val .bool, .own 4 .bool, .own 3 (.int .i64), .val (.slice K1)], res := .val .bool, out := .pair (.val (.slice K0)) (.pair (.val .bool) (.pair (.own 4 .bool) (.pair (.own 3 (.int .i64)) (.val (.slice K1))))), pl := [4, 10], L := lookL [(4, [.own 2050 4 .bool, .own 2051 3 (.int .i64), .vat 0 K2 [.v (.slice K0), .v .bool, .r 2050, .r 2051, .v (.slice K1)], .val 20 (.slice K0), .val 21 (.int .i64), .val 22 (.int .i64)]), (10, [.own 2050 4 .bool, .own 2051 3 (.int .i64), .vat 0 K2 [.v (.slice K0), .v .bool, .r 2050, .r 2051, .v (.slice K1)], .val 3 (.int .i64), .val 5 (.slice K1), .val 20 (.slice K0), .val 21 (.int .i64), .val 22 (.int .i64)])] }
noncomputable def R31 : Nat → ArgsT D31.ps → Option D31.rs.T
  | 0 => fun _ => none
  | k + 1 => D31.F (fun _ => pfCx (mkCx (fxCx base [0]) [(40, D40.fnAt E40 k), (41, D41.fnAt E41 k)]) [(31, ⟨D31.k, D31.ps, D31.res, D31.out, R31 k⟩)]) k
noncomputable def E31 (k : Nat) : Ctx := pfCx (mkCx (fxCx base [0]) [(40, D40.fnAt E40 k), (41, D41.fnAt E41 k)]) [(31, ⟨D31.k, D31.ps, D31.res, D31.out, R31 k⟩)]
theorem c31 [Strict] {G : World → Prop} (k : Nat) : ConQ Tryd.prog G 31 ⟨D31.k, D31.ps, D31.res, D31.out, R31 k⟩ := by
  induction k with
  | zero => exact ConQ.none
  | succ k ih => exact DefQ.con mixed (cxs := fun _ => E31 k) (fun _ => (TypesOK.mk' (types.fx [0]) _).pf _) (fun _ => FnsOK.qs (ih) (by kernel_rfl) (FnsOK.q0 (FnsOK.cons (c40 k) (by kernel_rfl) (FnsOK.cons (c41 k) (by kernel_rfl) (FnsOK.nil))))) D31 Tryd.func31 (by kernel_rfl) (fun _ => by kernel_rfl) (fun _ => rfl) (by kernel_rfl) k
/-- loop.example/g00218/spec.l7Search -/
noncomputable def D21 : Def := { fn := Tryd.f21, code := Tryd.f21.body.getD .skip, ps := [.val (.slice K0), .val .bool], res := .tup (.pair (.val (.slice (.int .i64))) (.val .bool)), pl := [], L := lookL [] }
noncomputable def E21 (k : Nat) : Ctx := pfCx (mkCx base []) [(31, ⟨D31.k, D31.ps, D31.res, D31.out, R31 k⟩)]
theorem c21 [Strict] {G : World → Prop} (k : Nat) : Con Tryd.prog G 21 (D21.fnAt E21 k) := Def.con2 mixed (fun k => (TypesOK.mk' types _).pf _) (fun k => FnsOK.qs (c31 k) (by kernel_rfl) (FnsOK.q0 (FnsOK.nil))) D21 Tryd.func21 (by kernel_rfl) (fun k => by kernel_rfl) (fx := []) (fun k => rfl) (by kernel_rfl) k
/-- loop.example/g00218/spec.LinearOrder -/
noncomputable def D13 : Def := { fn := Tryd.f13, code := Tryd.f13.body.getD .skip, ps := [.val (.slice K0)], res := .tup (.pair (.val (.slice (.int .i64))) (.val .bool)), pl := [], L := lookL [] }
noncomputable def E13 (k : Nat) : Ctx := mkCx base [(20, D20.fnAt E20 k), (21, D21.fnAt E21 k)]
theorem c13 [Strict] {G : World → Prop} (k : Nat) : Con Tryd.prog G 13 (D13.fnAt E13 k) := Def.con2 mixed (fun k => TypesOK.mk' types _) (fun k => FnsOK.cons (c20 k) (by kernel_rfl) (FnsOK.cons (c21 k) (by kernel_rfl) (FnsOK.nil))) D13 Tryd.func13 (by kernel_rfl) (fun k => by kernel_rfl) (fx := []) (fun k => rfl) (by kernel_rfl) k
/-- loop.example/g00218/impl.in -/
noncomputable def D32 : Def := { fn := Tryd.f32, code := Tryd.f32.body.getD .skip, ps := [.val (.int .i64), .val (.int .i64), .val (.int .i64)], res := .val .bool, pl := [], L := lookL [] }
noncomputable def E32 (k : Nat) : Ctx := mkCx base []
theorem c32 [Strict] {G : World → Prop} (k : Nat) : Con Tryd.prog G 32 (D32.fnAt E32 k) := Def.con2 mixed (fun k => TypesOK.mk' types _) (fun k => FnsOK.nil) D32 Tryd.func32 (by kernel_rfl) (fun k => by kernel_rfl) (fx := []) (fun k => rfl) (by kernel_rfl) k
/-- loop.example/g00218/impl.isKey -/
noncomputable def D33 : Def := { fn := Tryd.f33, code := Tryd.f33.body.getD .skip, ps := [.val .str], res := .val .bool, pl := [], L := lookL [] }
noncomputable def E33 (k : Nat) : Ctx := mkCx base [(42, ⟨[.val .str, .val .str], .val .str, fun v => MapW.strings_Trim.f v.1 v.2.1, []⟩)]
theorem c33 {G : World → Prop} (k : Nat) : Con Tryd.prog G 33 (D33.fnAt E33 k) := Def.con2 mixed (fun k => TypesOK.mk' types _) (fun k => FnsOK.cons (Con.text2 (fun h => h) MapW.strings_Trim.f MapW.strings_Trim.calls) (by kernel_rfl) (FnsOK.nil)) D33 Tryd.func33 (by kernel_rfl) (fun k => by kernel_rfl) (fx := []) (fun k => rfl) (by kernel_rfl) k
/-- loop.example/g00218/impl.isValue -/
noncomputable def D34 : Def := { fn := Tryd.f34, code := Tryd.f34.body.getD .skip, ps := [.val .str], res := .val .bool, pl := [2], L := lookL [(2, [.val 0 .str, .val 5 (.int .i64), .val 6 (.int .i64)])] }
noncomputable def E34 (k : Nat) : Ctx := mkCx base []
theorem c34 [Strict] {G : World → Prop} (k : Nat) : Con Tryd.prog G 34 (D34.fnAt E34 k) := Def.con2 mixed (fun k => TypesOK.mk' types _) (fun k => FnsOK.nil) D34 Tryd.func34 (by kernel_rfl) (fun k => by kernel_rfl) (fx := []) (fun k => rfl) (by kernel_rfl) k
/-- loop.example/g00218/impl.areCalls -/
noncomputable def D23 : Def := { fn := Tryd.f23, code := Tryd.f23.body.getD .skip, ps := [.val (.slice K0)], res := .val .bool, pl := [3, 10], L := lookL [(3, [.val 0 (.slice K0), .mp 3 (.int .i64) .bool, .val 9 (.slice K0), .val 10 (.int .i64), .val 11 (.int .i64)]), (10, [.val 0 (.slice K0), .mp 3 (.int .i64) .bool, .var 5 K0, .val 9 (.slice K0), .val 10 (.int .i64), .val 11 (.int .i64), .val 69 (.slice K0), .val 70 (.int .i64), .val 71 (.int .i64)])] }
noncomputable def E23 (k : Nat) : Ctx := mkCx base [(32, D32.fnAt E32 k), (33, D33.fnAt E33 k), (34, D34.fnAt E34 k)]
theorem c23 {G : World → Prop} (k : Nat) : Con Tryd.prog G 23 (D23.fnAt E23 k) := Def.con2 mixed (fun k => TypesOK.mk' types _) (fun k => FnsOK.cons (c32 k) (by kernel_rfl) (FnsOK.cons (c33 k) (by kernel_rfl) (FnsOK.cons (c34 k) (by kernel_rfl) (FnsOK.nil)))) D23 Tryd.func23 (by kernel_rfl) (fun k => by kernel_rfl) (fx := []) (fun k => rfl) (by kernel_rfl) k
/-- loop.example/g00218/impl.callOrder$1$1 -/
noncomputable def D37 : Def := { fn := Tryd.f37, code := Tryd.f37.body.getD .skip, ps := [.val (.int .i64), .val (.ref K0), .val (.ref (.slice K0)), .val (.ref .bool)], res := .val .bool, pl := [], L := lookL [] }
noncomputable def E37 (k : Nat) : Ctx := mkCx base []
theorem c37 [Strict] {G : World → Prop} (k : Nat) : Con Tryd.prog G 37 (D37.fnAt E37 k) := Def.con2 mixed (fun k => TypesOK.mk' types _) (fun k => FnsOK.nil) D37 Tryd.func37 (by kernel_rfl) (fun k => by kernel_rfl) (fx := []) (fun k => rfl) (by kernel_rfl) k
/-- slices.IndexFunc[[]int,int] -/
noncomputable def D43 : Def := { fn := Tryd.f43, code := Tryd.f43.body.getD .skip, ps := [.val (.slice (.int .i64)), .val (.clo 37 (.pair (.ref K0) (.pair (.ref (.slice K0)) (.pair (.ref .bool) .unit))))], res := .val (.int .i64), pl := [2], L := lookL [(2, [.val 0 (.slice (.int .i64)), .val 1 (.clo 37 (.pair (.ref K0) (.pair (.ref (.slice K0)) (.pair (.ref .bool) .unit)))), .val 7 (.int .i64), .val 8 (.int .i64)])] }
noncomputable def E43 (k : Nat) : Ctx := mkCx base [(37, D37.fnAt E37 k)]
theorem c43 [Strict] {G : World → Prop} (k : Nat) : Con Tryd.prog G 43 (D43.fnAt E43 k) := Def.con2 mixed (fun k => TypesOK.mk' types _) (fun k => FnsOK.cons (c37 k) (by kernel_rfl) (FnsOK.nil)) D43 Tryd.func43 (by kernel_rfl) (fun k => by kernel_rfl) (fx := []) (fun k => rfl) (by kernel_rfl) k
/-- slices.ContainsFunc[[]int,int] -/
noncomputable def D36 : Def := { fn := Tryd.f36, code := Tryd.f36.body.getD .skip, ps := [.val (.slice (.int .i64)), .val (.clo 37 (.pair (.ref K0) (.pair (.ref (.slice K0)) (.pair (.ref .bool) .unit))))], res := .val .bool, pl := [], L := lookL [] }
noncomputable def E36 (k : Nat) : Ctx := mkCx base [(43, D43.fnAt E43 k)]
theorem c36 [Strict] {G : World → Prop} (k : Nat) : Con Tryd.prog G 36 (D36.fnAt E36 k) := Def.con2 mixed (fun k => TypesOK.mk' types _) (fun k => FnsOK.cons (c43 k) (by kernel_rfl) (FnsOK.nil)) D36 Tryd.func36 (by kernel_rfl) (fun k => by kernel_rfl) (fx := []) (fun k => rfl) (by kernel_rfl) k
/-- slices.Index[[]int,int] -/
noncomputable def D44 : Def := { fn := Tryd.f44, code := Tryd.f44.body.getD .skip, ps := [.val (.slice (.int .i64)), .val (.int .i64)], res := .val (.int .i64), pl := [2], L := lookL [(2, [.val 0 (.slice (.int .i64)), .val 1 (.int .i64), .val 7 (.int .i64), .val 8 (.int .i64)])] }
noncomputable def E44 (k : Nat) : Ctx := mkCx base []
theorem c44 [Strict] {G : World → Prop} (k : Nat) : Con Tryd.prog G 44 (D44.fnAt E44 k) := Def.con2 mixed (fun k => TypesOK.mk' types _) (fun k => FnsOK.nil) D44 Tryd.func44 (by kernel_rfl) (fun k => by kernel_rfl) (fx := []) (fun k => rfl) (by kernel_rfl) k
/-- slices.Contains[[]int,int] -/
noncomputable def D38 : Def := { fn := Tryd.f38, code := Tryd.f38.body.getD .skip, ps := [.val (.slice (.int .i64)), .val (.int .i64)], res := .val .bool, pl := [], L := lookL [] }
noncomputable def E38 (k : Nat) : Ctx := mkCx base [(44, D44.fnAt E44 k)]
theorem c38 [Strict] {G : World → Prop} (k : Nat) : Con Tryd.prog G 38 (D38.fnAt E38 k) := Def.con2 mixed (fun k => TypesOK.mk' types _) (fun k => FnsOK.cons (c44 k) (by kernel_rfl) (FnsOK.nil)) D38 Tryd.func38 (by kernel_rfl) (fun k => by kernel_rfl) (fx := []) (fun k => rfl) (by kernel_rfl) k
/-- loop.example/g00218/impl.fits -/
noncomputable def D39 : Def := { fn := Tryd.f39, code := Tryd.f39.body.getD .skip, ps := [.val (.slice K0), .val (.slice (.int .i64))], res := .val .bool, pl := [3], L := lookL [(3, [.val 0 (.slice K0), .mp 5 .str .str, .val 10 (.slice (.int .i64)), .val 11 (.int .i64), .val 12 (.int .i64)])] }
noncomputable def E39 (k : Nat) : Ctx := mkCx base []
theorem c39 [Strict] {G : World → Prop} (k : Nat) : Con Tryd.prog G 39 (D39.fnAt E39 k) := Def.con2 mixed (fun k => TypesOK.mk' types _) (fun k => FnsOK.nil) D39 Tryd.func39 (by kernel_rfl) (fun k => by kernel_rfl) (fx := []) (fun k => rfl) (by kernel_rfl) k
/-- loop.example/g00218/impl.callOrder$1 -/
noncomputable def D35 : Def := { fn := Tryd.f35, code := Tryd.f35.body.getD .skip, ps := [.own 3 (.int .i64), .val (.ref (.slice K0)), .val (.ref .bool), .val (.recB 35 2 (.pair (.ref (.slice K0)) (.pair (.ref .bool) .unit)))], res := .tup (.pair (.own 3 (.int .i64)) (.val .bool)), pl := [4], L := lookL [(4, [.val 0 (.slice (.int .i64)), .val 1 (.ref (.slice K0)), .val 2 (.ref .bool), .val 3 (.recB 35 2 (.pair (.ref (.slice K0)) (.pair (.ref .bool) .unit))), .val 19 (.slice K0), .val 20 (.int .i64), .val 21 (.int .i64)])] }
noncomputable def R35 : Nat → ArgsT D35.ps → Option D35.res.T
  | 0 => fun _ => none
  | k + 1 => D35.F (fun _ => mkCx base [(35, ⟨D35.ps, D35.res, R35 k, D35.sh⟩), (36, D36.fnAt E36 k), (38, D38.fnAt E38 k), (39, D39.fnAt E39 k)]) k
noncomputable def E35 (k : Nat) : Ctx := mkCx base [(35, ⟨D35.ps, D35.res, R35 k, D35.sh⟩), (36, D36.fnAt E36 k), (38, D38.fnAt E38 k), (39, D39.fnAt E39 k)]
theorem c35 [Strict] {G : World → Prop} (k : Nat) : Con Tryd.prog G 35 ⟨D35.ps, D35.res, R35 k, D35.sh⟩ := by
  induction k with
  | zero => exact Con.none
  | succ k ih => exact Def.con2 mixed (cxs := fun _ => E35 k) (fun _ => TypesOK.mk' types _) (fun _ => FnsOK.cons (ih) (by kernel_rfl) (FnsOK.cons (c36 k) (by kernel_rfl) (FnsOK.cons (c38 k) (by kernel_rfl) (FnsOK.cons (c39 k) (by kernel_rfl) (FnsOK.nil))))) D35 Tryd.func35 (by kernel_rfl) (fun _ => by kernel_rfl) (fx := []) (fun _ => rfl) (by kernel_rfl) k
/-- loop.example/g00218/impl.callOrder -/
noncomputable def D24 : Def := { fn := Tryd.f24, code := Tryd.f24.body.getD .skip, ps := [.val (.slice K0), .val .bool], res := .tup (.pair (.own 3 (.int .i64)) (.val .bool)), pl := [], L := lookL [] }
noncomputable def E24 (k : Nat) : Ctx := mkCx (ldCx base [35]) [(35, ⟨D35.ps, D35.res, R35 k, D35.sh⟩)]
theorem c24 [Strict] {G : World → Prop} (k : Nat) : Con Tryd.prog G 24 (D24.fnAt E24 k) := Def.con2 mixed (fun k => TypesOK.mk' (TypesOK.ld types [35]) _) (fun k => FnsOK.cons (c35 k) (by kernel_rfl) (FnsOK.nil)) D24 Tryd.func24 (by kernel_rfl) (fun k => by kernel_rfl) (fx := []) (fun k => rfl) (by kernel_rfl) k
/-- loop.example/g00218/impl.LinearOrder -/
noncomputable def D14 : Def := { fn := Tryd.f14, code := Tryd.f14.body.getD .skip, ps := [.val (.slice K0)], res := .tup (.pair (.own 3 (.int .i64)) (.val .bool)), pl := [], L := lookL [] }
noncomputable def E14 (k : Nat) : Ctx := mkCx base [(23, D23.fnAt E23 k), (24, D24.fnAt E24 k)]
theorem c14 {G : World → Prop} (k : Nat) : Con Tryd.prog G 14 (D14.fnAt E14 k) := Def.con2 mixed (fun k => TypesOK.mk' types _) (fun k => FnsOK.cons (c23 k) (by kernel_rfl) (FnsOK.cons (c24 k) (by kernel_rfl) (FnsOK.nil))) D14 Tryd.func14 (by kernel_rfl) (fun k => by kernel_rfl) (fx := []) (fun k => rfl) (by kernel_rfl) k
/-- loop.example/g00218/laws.eqIntS -/
noncomputable def D15 : Def := { fn := Tryd.f15, code := Tryd.f15.body.getD .skip, ps := [.val (.slice (.int .i64)), .val (.slice (.int .i64))], res := .val .bool, pl := [4], L := lookL [(4, [.val 0 (.slice (.int .i64)), .val 1 (.slice (.int .i64)), .val 5 (.int .i64)])] }
noncomputable def E15 (k : Nat) : Ctx := mkCx base []
theorem c15 [Strict] {G : World → Prop} (k : Nat) : Con Tryd.prog G 15 (D15.fnAt E15 k) := Def.con2 mixed (fun k => TypesOK.mk' types _) (fun k => FnsOK.nil) D15 Tryd.func15 (by kernel_rfl) (fun k => by kernel_rfl) (fx := []) (fun k => rfl) (by kernel_rfl) k
/-- loop.example/g00218/laws.markText -/
noncomputable def D26 : Def := { fn := Tryd.f26, code := Tryd.f26.body.getD .skip, ps := [.val (.int .i64)], res := .val .str, pl := [4], L := lookL [(4, [.val 0 (.int .i64), .val 3 .str])] }
noncomputable def E26 (k : Nat) : Ctx := mkCx base []
theorem c26 [Strict] {G : World → Prop} (k : Nat) : Con Tryd.prog G 26 (D26.fnAt E26 k) := Def.con2 mixed (fun k => TypesOK.mk' types _) (fun k => FnsOK.nil) D26 Tryd.func26 (by kernel_rfl) (fun k => by kernel_rfl) (fx := []) (fun k => rfl) (by kernel_rfl) k
/-- loop.example/g00218/laws.markCallS -/
noncomputable def D16 : Def := { fn := Tryd.f16, code := Tryd.f16.body.getD .skip, ps := [.own 41 K0, .val (.int .i64)], res := .back 0 41 K0 (.val (.int .i64)), pl := [2], L := lookL [(2, [.own 0 41 K0, .val 1 (.int .i64), .val 5 (.int .i64)])] }
noncomputable def E16 (k : Nat) : Ctx := mkCx (fxCx base [0]) [(26, D26.fnAt E26 k)]
theorem c16 [Strict] {G : World → Prop} (k : Nat) : Con Tryd.prog G 16 (D16.fnAt E16 k) := Def.con2 mixed (fun k => TypesOK.mk' (types.fx [0]) _) (fun k => FnsOK.cons (c26 k) (by kernel_rfl) (FnsOK.nil)) D16 Tryd.func16 (by kernel_rfl) (fun k => by kernel_rfl) (fx := [0]) (fun k => rfl) (by kernel_rfl) k
/-- loop.example/g00218/laws.markIntS -/
noncomputable def D17 : Def := { fn := Tryd.f17, code := Tryd.f17.body.getD .skip, ps := [.own 3 (.int .i64), .val (.int .i64)], res := .back 0 3 (.int .i64) (.val (.int .i64)), pl := [2], L := lookL [(2, [.own 0 3 (.int .i64), .val 1 (.int .i64), .val 5 (.int .i64)])] }
noncomputable def E17 (k : Nat) : Ctx := mkCx (fxCx base [0]) []
theorem c17 [Strict] {G : World → Prop} (k : Nat) : Con Tryd.prog G 17 (D17.fnAt E17 k) := Def.con2 mixed (fun k => TypesOK.mk' (types.fx [0]) _) (fun k => FnsOK.nil) D17 Tryd.func17 (by kernel_rfl) (fun k => by kernel_rfl) (fx := [0]) (fun k => rfl) (by kernel_rfl) k
/-- loop.example/g00218/laws.heldIntS -/
noncomputable def D18 : Def := { fn := Tryd.f18, code := Tryd.f18.body.getD .skip, ps := [.val (.slice (.int .i64)), .val (.int .i64)], res := .val (.int .i64), pl := [2], L := lookL [(2, [.val 0 (.slice (.int .i64)), .val 1 (.int .i64), .val 5 (.int .i64)])] }
noncomputable def E18 (k : Nat) : Ctx := mkCx base []
theorem c18 [Strict] {G : World → Prop} (k : Nat) : Con Tryd.prog G 18 (D18.fnAt E18 k) := Def.con2 mixed (fun k => TypesOK.mk' types _) (fun k => FnsOK.nil) D18 Tryd.func18 (by kernel_rfl) (fun k => by kernel_rfl) (fx := []) (fun k => rfl) (by kernel_rfl) k
/-- loop.example/g00218/laws.szCall -/
noncomputable def D19 : Def := { fn := Tryd.f19, code := Tryd.f19.body.getD .skip, ps := [.val K0, .val (.int .i64)], res := .val (.int .i64), pl := [], L := lookL [] }
noncomputable def E19 (k : Nat) : Ctx := mkCx base []
theorem c19 [Strict] {G : World → Prop} (k : Nat) : Con Tryd.prog G 19 (D19.fnAt E19 k) := Def.con2 mixed (fun k => TypesOK.mk' types _) (fun k => FnsOK.nil) D19 Tryd.func19 (by kernel_rfl) (fun k => by kernel_rfl) (fx := []) (fun k => rfl) (by kernel_rfl) k
/-- loop.example/g00218/laws.szCallS -/
noncomputable def D6 : Def := { fn := Tryd.f6, code := Tryd.f6.body.getD .skip, ps := [.val (.slice K0), .val (.int .i64)], res := .val (.int .i64), pl := [5], L := lookL [(5, [.val 0 (.slice K0), .val 1 (.int .i64), .val 5 (.int .i64)])] }
noncomputable def E6 (k : Nat) : Ctx := mkCx base [(19, D19.fnAt E19 k)]
theorem c6 [Strict] {G : World → Prop} (k : Nat) : Con Tryd.prog G 6 (D6.fnAt E6 k) := Def.con2 mixed (fun k => TypesOK.mk' types _) (fun k => FnsOK.cons (c19 k) (by kernel_rfl) (FnsOK.nil)) D6 Tryd.func6 (by kernel_rfl) (fun k => by kernel_rfl) (fx := []) (fun k => rfl) (by kernel_rfl) k
/-- loop.example/g00218/laws.toCall -/
noncomputable def D22 : Def := { fn := Tryd.f22, code := Tryd.f22.body.getD .skip, ps := [.val K0], res := .val K0, pl := [], L := lookL [] }
noncomputable def E22 (k : Nat) : Ctx := mkCx base []
theorem c22 [Strict] {G : World → Prop} (k : Nat) : Con Tryd.prog G 22 (D22.fnAt E22 k) := Def.con2 mixed (fun k => TypesOK.mk' types _) (fun k => FnsOK.nil) D22 Tryd.func22 (by kernel_rfl) (fun k => by kernel_rfl) (fx := []) (fun k => rfl) (by kernel_rfl) k
/-- loop.example/g00218/laws.toCallS -/
noncomputable def D8 : Def := { fn := Tryd.f8, code := Tryd.f8.body.getD .skip, ps := [.val (.slice K0)], res := .own 41 K0, pl := [3], L := lookL [(3, [.val 0 (.slice K0), .own 3 41 K0, .val 4 (.int .i64)])] }
noncomputable def E8 (k : Nat) : Ctx := mkCx base [(22, D22.fnAt E22 k)]
theorem c8 [Strict] {G : World → Prop} (k : Nat) : Con Tryd.prog G 8 (D8.fnAt E8 k) := Def.con2 mixed (fun k => TypesOK.mk' types _) (fun k => FnsOK.cons (c22 k) (by kernel_rfl) (FnsOK.nil)) D8 Tryd.func8 (by kernel_rfl) (fun k => by kernel_rfl) (fx := []) (fun k => rfl) (by kernel_rfl) k
/-- loop.example/g00218/laws.FnExactLinearOrder -/
noncomputable def D5 : Def := { fn := Tryd.f5, code := Tryd.f5.body.getD .skip, ps := [.val (.slice K0)], res := .val .bool, pl := [], L := lookL [] }
noncomputable def E5 (k : Nat) : Ctx := mkCx base [(10, D10.fnAt E10 k), (13, D13.fnAt E13 k), (14, D14.fnAt E14 k), (15, D15.fnAt E15 k), (16, D16.fnAt E16 k), (17, D17.fnAt E17 k), (18, D18.fnAt E18 k), (6, D6.fnAt E6 k), (8, D8.fnAt E8 k)]
theorem c5 {G : World → Prop} (k : Nat) : Con Tryd.prog G 5 (D5.fnAt E5 k) := Def.con2 mixed (fun k => TypesOK.mk' types _) (fun k => FnsOK.cons (c10 k) (by kernel_rfl) (FnsOK.cons (c13 k) (by kernel_rfl) (FnsOK.cons (c14 k) (by kernel_rfl) (FnsOK.cons (c15 k) (by kernel_rfl) (FnsOK.cons (c16 k) (by kernel_rfl) (FnsOK.cons (c17 k) (by kernel_rfl) (FnsOK.cons (c18 k) (by kernel_rfl) (FnsOK.cons (c6 k) (by kernel_rfl) (FnsOK.cons (c8 k) (by kernel_rfl) (FnsOK.nil)))))))))) D5 Tryd.func5 (by kernel_rfl) (fun k => by kernel_rfl) (fx := []) (fun k => rfl) (by kernel_rfl) k
end Go.Proofs.YtdldndohfhcfnaaDoor.Fms
