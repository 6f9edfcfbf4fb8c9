/- FnExactReplayOrder, by the functional machine. -/
import Derived.Test.YtolcbchdijdolaaGreatDoorTrim
import Derived.Test.YtolcbchdijdolaaGreatDoorFmZ
import Derived.Test.YtolcbchdijdolaaGreatDoorFmGv
import Derived.Test.YtolcbchdijdolaaGreatDoorFmXFnExactReplayOrderLays
import Derived.Test.YtolcbchdijdolaaGreatDoorFmKy
import Derived.Test.YtolcbchdijdolaaGreatDoorProg
set_option maxRecDepth 100000
set_option linter.unusedVariables false
open Go Go.Fm
namespace Go.Proofs.YtolcbchdijdolaaGreatDoor.Fms
abbrev K1 : Kind := .struct (.pair .str .str)
abbrev K5 : Kind := .struct (.pair (.int .i64) (.pair (.int .i64) .bool))
abbrev K2 : Kind := .struct (.pair .str (.pair .str K5))
abbrev K0 : Kind := .struct (.pair .str (.pair .str (.pair K5 (.int .i64))))
abbrev K3 : Kind := .struct (.pair (.int .i64) (.pair (.int .i64) (.pair (.slice K2) (.pair (.slice K1) K5))))
abbrev K4 : Kind := .struct (.pair (.int .i64) (.pair (.slice K0) (.pair (.slice K3) (.slice (.int .i64)))))
def table : List TRow := [⟨2, (.int .i64), 0, 0, false, none⟩, ⟨3, (.int .i64), 0, 0, false, none⟩, ⟨4, .bool, 0, 0, false, none⟩, ⟨5, (.int .u8), 0, 0, false, none⟩, ⟨9, .str, 0, 0, false, none⟩, ⟨22, (.slice K0), 2199023255552, 69, false, none⟩, ⟨23, (.slice K3), 1599289640401, 74, false, none⟩, ⟨24, (.slice (.int .i64)), 17592186044416, 3, false, none⟩, ⟨25, K4, 0, 0, false, none⟩, ⟨26, K4, 0, 0, false, none⟩, ⟨28, (.slice K1), 4398046511104, 57, false, none⟩, ⟨31, (.slice K0), 2199023255552, 76, false, none⟩, ⟨32, (.slice K3), 1599289640401, 55, false, none⟩, ⟨33, K4, 0, 0, false, none⟩, ⟨34, K4, 0, 0, false, none⟩, ⟨50, .unit, 0, 0, false, some (9, 9)⟩, ⟨51, (.slice K2), 2513169434916, 102, false, none⟩, ⟨52, K5, 0, 0, true, none⟩, ⟨53, K5, 0, 0, true, none⟩, ⟨54, K3, 0, 0, false, none⟩, ⟨55, K3, 0, 0, false, none⟩, ⟨56, K1, 0, 0, true, none⟩, ⟨57, K1, 0, 0, true, none⟩, ⟨67, K5, 0, 0, true, none⟩, ⟨68, K0, 0, 0, true, none⟩, ⟨69, K0, 0, 0, true, none⟩, ⟨71, (.slice K2), 2513169434916, 122, false, none⟩, ⟨72, (.slice K1), 4398046511104, 124, false, none⟩, ⟨73, K3, 0, 0, false, none⟩, ⟨74, K3, 0, 0, false, none⟩, ⟨75, K0, 0, 0, true, none⟩, ⟨76, K0, 0, 0, true, none⟩, ⟨85, .unit, 0, 0, false, some (3, 4)⟩, ⟨90, (.slice .str), 8796093022208, 9, false, none⟩, ⟨98, (.slice (.int .u8)), 140737488355328, 5, false, none⟩, ⟨101, K2, 0, 0, true, none⟩, ⟨102, K2, 0, 0, true, none⟩, ⟨109, (.ref K3), 0, 0, false, none⟩, ⟨113, .unit, 0, 0, false, some (9, 4)⟩, ⟨114, (.ref K4), 0, 0, false, none⟩, ⟨121, K2, 0, 0, true, none⟩, ⟨122, K2, 0, 0, true, none⟩, ⟨124, K1, 0, 0, true, none⟩, ⟨134, (.int .u64), 0, 0, false, none⟩]
def base : Ctx := ctxOf table
theorem types : TypesOK Tryz.prog base := typesOK_of (by kernel_rfl)
theorem mixed : Tryz.prog.follows .mixedOrders = true := by kernel_rfl
/-- loop.example/g00218/laws.markText -/
noncomputable def D32 : Def := { fn := Tryz.f32, code := Tryz.f32.body.getD .skip, ps := [.val (.int .i64)], res := .val .str, pl := [4], L := lookL [(4, [.val 0 (.int .i64), .val 3 .str])] }
noncomputable def E32 (k : Nat) : Ctx := mkCx base []
theorem c32 [Strict] {G : World → Prop} (k : Nat) : Con Tryz.prog G 32 (D32.fnAt E32 k) := Def.con2 mixed (fun k => TypesOK.mk' types _) (fun k => FnsOK.nil) D32 Tryz.func32 (by kernel_rfl) (fun k => by kernel_rfl) (fx := []) (fun k => rfl) (by kernel_rfl) k
/-- loop.example/g00218/laws.markRecordS -/
noncomputable def D29 : Def := { fn := Tryz.f29, code := Tryz.f29.body.getD .skip, ps := [.own 76 K0, .val (.int .i64)], res := .back 0 76 K0 (.val (.int .i64)), pl := [2], L := lookL [(2, [.own 0 76 K0, .val 1 (.int .i64), .val 5 (.int .i64)])] }
noncomputable def E29 (k : Nat) : Ctx := mkCx (fxCx base [0]) [(32, D32.fnAt E32 k)]
theorem c29 [Strict] {G : World → Prop} (k : Nat) : Con Tryz.prog G 29 (D29.fnAt E29 k) := Def.con2 mixed (fun k => TypesOK.mk' (types.fx [0]) _) (fun k => FnsOK.cons (c32 k) (by kernel_rfl) (FnsOK.nil)) D29 Tryz.func29 (by kernel_rfl) (fun k => by kernel_rfl) (fx := [0]) (fun k => rfl) (by kernel_rfl) k
/-- loop.example/g00218/laws.markCellS -/
noncomputable def D11 : Def := { fn := Tryz.f11, code := Tryz.f11.body.getD .skip, ps := [.own 57 K1, .val (.int .i64)], res := .back 0 57 K1 (.val (.int .i64)), pl := [2], L := lookL [(2, [.own 0 57 K1, .val 1 (.int .i64), .val 5 (.int .i64)])] }
noncomputable def E11 (k : Nat) : Ctx := mkCx (fxCx base [0]) [(32, D32.fnAt E32 k)]
theorem c11 [Strict] {G : World → Prop} (k : Nat) : Con Tryz.prog G 11 (D11.fnAt E11 k) := Def.con2 mixed (fun k => TypesOK.mk' (types.fx [0]) _) (fun k => FnsOK.cons (c32 k) (by kernel_rfl) (FnsOK.nil)) D11 Tryz.func11 (by kernel_rfl) (fun k => by kernel_rfl) (fx := [0]) (fun k => rfl) (by kernel_rfl) k
/-- loop.example/g00218/laws.markLookS -/
noncomputable def D56 : Def := { fn := Tryz.f56, code := Tryz.f56.body.getD .skip, ps := [.own 102 K2, .val (.int .i64)], res := .back 0 102 K2 (.val (.int .i64)), pl := [2], L := lookL [(2, [.own 0 102 K2, .val 1 (.int .i64), .val 5 (.int .i64)])] }
noncomputable def E56 (k : Nat) : Ctx := mkCx (fxCx base [0]) [(32, D32.fnAt E32 k)]
theorem c56 [Strict] {G : World → Prop} (k : Nat) : Con Tryz.prog G 56 (D56.fnAt E56 k) := Def.con2 mixed (fun k => TypesOK.mk' (types.fx [0]) _) (fun k => FnsOK.cons (c32 k) (by kernel_rfl) (FnsOK.nil)) D56 Tryz.func56 (by kernel_rfl) (fun k => by kernel_rfl) (fx := [0]) (fun k => rfl) (by kernel_rfl) k
/-- loop.example/g00218/laws.markRunningS -/
noncomputable def D30 : Def := { fn := Tryz.f30, code := Tryz.f30.body.getD .skip, ps := [.deep 55 K3 [102, 57], .val (.int .i64)], res := .dback 0 55 K3 [102, 57] (.val (.int .i64)), pl := [2], L := lookL [(2, [.deep 0 55 K3 [102, 57], .val 1 (.int .i64), .val 5 (.int .i64)])] }
noncomputable def E30 (k : Nat) : Ctx := mkCx (dpCx (fxCx base [0]) [(32, [102, 57])]) [(11, D11.fnAt E11 k), (56, D56.fnAt E56 k)]
theorem c30 [Strict] {G : World → Prop} (k : Nat) : Con Tryz.prog G 30 (D30.fnAt E30 k) := Def.con2 mixed (fun k => TypesOK.mk' (TypesOK.dp (types.fx [0]) [(32, [102, 57])]) _) (fun k => FnsOK.cons (c11 k) (by kernel_rfl) (FnsOK.cons (c56 k) (by kernel_rfl) (FnsOK.nil))) D30 Tryz.func30 (by kernel_rfl) (fun k => by kernel_rfl) (fx := [0]) (fun k => rfl) (by kernel_rfl) k
/-- loop.example/g00218/laws.markIntS -/
noncomputable def D31 : Def := { fn := Tryz.f31, code := Tryz.f31.body.getD .skip, ps := [.own 3 (.int .i64), .val (.int .i64)], res := .back 0 3 (.int .i64) (.val (.int .i64)), pl := [2], L := lookL [(2, [.own 0 3 (.int .i64), .val 1 (.int .i64), .val 5 (.int .i64)])] }
noncomputable def E31 (k : Nat) : Ctx := mkCx (fxCx base [0]) []
theorem c31 [Strict] {G : World → Prop} (k : Nat) : Con Tryz.prog G 31 (D31.fnAt E31 k) := Def.con2 mixed (fun k => TypesOK.mk' (types.fx [0]) _) (fun k => FnsOK.nil) D31 Tryz.func31 (by kernel_rfl) (fun k => by kernel_rfl) (fx := [0]) (fun k => rfl) (by kernel_rfl) k
/-- loop.example/g00218/laws.markStore -/
noncomputable def D10 : Def := { fn := Tryz.f10, code := Tryz.f10.body.getD .skip, sh := [4, 0], ps := [.val (.int .i64), .own 76 K0, .deep 55 K3 [102, 57], .own 3 (.int .i64), .val (.int .i64)], res := .back 1 76 K0 (.dback 2 55 K3 [102, 57] (.back 3 3 (.int .i64) (.val (.int .i64)))), pl := [], L := lookL [] }
noncomputable def E10 (k : Nat) : Ctx := mkCx (dpCx (fxCx base [0, 0, 0]) [(32, [102, 57])]) [(29, D29.fnAt E29 k), (30, D30.fnAt E30 k), (31, D31.fnAt E31 k)]
theorem c10 [Strict] {G : World → Prop} (k : Nat) : Con Tryz.prog G 10 (D10.fnAt E10 k) := Def.con2 mixed (fun k => TypesOK.mk' (TypesOK.dp (types.fx [0, 0, 0]) [(32, [102, 57])]) _) (fun k => FnsOK.cons (c29 k) (by kernel_rfl) (FnsOK.cons (c30 k) (by kernel_rfl) (FnsOK.cons (c31 k) (by kernel_rfl) (FnsOK.nil)))) D10 Tryz.func10 (by kernel_rfl) (fun k => by kernel_rfl) (fx := [0, 0, 0]) (fun k => rfl) (by kernel_rfl) k
/-- loop.example/g00218/laws.heldCellS -/
noncomputable def D12 : Def := { fn := Tryz.f12, code := Tryz.f12.body.getD .skip, ps := [.val (.slice K1), .val (.int .i64)], res := .val (.int .i64), pl := [2], L := lookL [(2, [.val 0 (.slice K1), .val 1 (.int .i64), .val 5 (.int .i64)])] }
noncomputable def E12 (k : Nat) : Ctx := mkCx base [(32, D32.fnAt E32 k)]
theorem c12 [Strict] {G : World → Prop} (k : Nat) : Con Tryz.prog G 12 (D12.fnAt E12 k) := Def.con2 mixed (fun k => TypesOK.mk' types _) (fun k => FnsOK.cons (c32 k) (by kernel_rfl) (FnsOK.nil)) D12 Tryz.func12 (by kernel_rfl) (fun k => by kernel_rfl) (fx := []) (fun k => rfl) (by kernel_rfl) k
/-- loop.example/g00218/laws.szRecord -/
noncomputable def D33 : Def := { fn := Tryz.f33, code := Tryz.f33.body.getD .skip, ps := [.val K0, .val (.int .i64)], res := .val (.int .i64), pl := [], L := lookL [] }
noncomputable def E33 (k : Nat) : Ctx := mkCx base []
theorem c33 [Strict] {G : World → Prop} (k : Nat) : Con Tryz.prog G 33 (D33.fnAt E33 k) := Def.con2 mixed (fun k => TypesOK.mk' types _) (fun k => FnsOK.nil) D33 Tryz.func33 (by kernel_rfl) (fun k => by kernel_rfl) (fx := []) (fun k => rfl) (by kernel_rfl) k
/-- loop.example/g00218/laws.szRecordS -/
noncomputable def D13 : Def := { fn := Tryz.f13, code := Tryz.f13.body.getD .skip, ps := [.val (.slice K0), .val (.int .i64)], res := .val (.int .i64), pl := [5], L := lookL [(5, [.val 0 (.slice K0), .val 1 (.int .i64), .val 5 (.int .i64)])] }
noncomputable def E13 (k : Nat) : Ctx := mkCx base [(33, D33.fnAt E33 k)]
theorem c13 [Strict] {G : World → Prop} (k : Nat) : Con Tryz.prog G 13 (D13.fnAt E13 k) := Def.con2 mixed (fun k => TypesOK.mk' types _) (fun k => FnsOK.cons (c33 k) (by kernel_rfl) (FnsOK.nil)) D13 Tryz.func13 (by kernel_rfl) (fun k => by kernel_rfl) (fx := []) (fun k => rfl) (by kernel_rfl) k
/-- loop.example/g00218/laws.szLook -/
noncomputable def D74 : Def := { fn := Tryz.f74, code := Tryz.f74.body.getD .skip, ps := [.val K2, .val (.int .i64)], res := .val (.int .i64), pl := [], L := lookL [] }
noncomputable def E74 (k : Nat) : Ctx := mkCx base []
theorem c74 [Strict] {G : World → Prop} (k : Nat) : Con Tryz.prog G 74 (D74.fnAt E74 k) := Def.con2 mixed (fun k => TypesOK.mk' types _) (fun k => FnsOK.nil) D74 Tryz.func74 (by kernel_rfl) (fun k => by kernel_rfl) (fx := []) (fun k => rfl) (by kernel_rfl) k
/-- loop.example/g00218/laws.szLookS -/
noncomputable def D57 : Def := { fn := Tryz.f57, code := Tryz.f57.body.getD .skip, ps := [.val (.slice K2), .val (.int .i64)], res := .val (.int .i64), pl := [5], L := lookL [(5, [.val 0 (.slice K2), .val 1 (.int .i64), .val 5 (.int .i64)])] }
noncomputable def E57 (k : Nat) : Ctx := mkCx base [(74, D74.fnAt E74 k)]
theorem c57 [Strict] {G : World → Prop} (k : Nat) : Con Tryz.prog G 57 (D57.fnAt E57 k) := Def.con2 mixed (fun k => TypesOK.mk' types _) (fun k => FnsOK.cons (c74 k) (by kernel_rfl) (FnsOK.nil)) D57 Tryz.func57 (by kernel_rfl) (fun k => by kernel_rfl) (fx := []) (fun k => rfl) (by kernel_rfl) k
/-- loop.example/g00218/laws.szCell -/
noncomputable def D75 : Def := { fn := Tryz.f75, code := Tryz.f75.body.getD .skip, ps := [.val K1, .val (.int .i64)], res := .val (.int .i64), pl := [], L := lookL [] }
noncomputable def E75 (k : Nat) : Ctx := mkCx base []
theorem c75 [Strict] {G : World → Prop} (k : Nat) : Con Tryz.prog G 75 (D75.fnAt E75 k) := Def.con2 mixed (fun k => TypesOK.mk' types _) (fun k => FnsOK.nil) D75 Tryz.func75 (by kernel_rfl) (fun k => by kernel_rfl) (fx := []) (fun k => rfl) (by kernel_rfl) k
/-- loop.example/g00218/laws.szCellS -/
noncomputable def D58 : Def := { fn := Tryz.f58, code := Tryz.f58.body.getD .skip, ps := [.val (.slice K1), .val (.int .i64)], res := .val (.int .i64), pl := [5], L := lookL [(5, [.val 0 (.slice K1), .val 1 (.int .i64), .val 5 (.int .i64)])] }
noncomputable def E58 (k : Nat) : Ctx := mkCx base [(75, D75.fnAt E75 k)]
theorem c58 [Strict] {G : World → Prop} (k : Nat) : Con Tryz.prog G 58 (D58.fnAt E58 k) := Def.con2 mixed (fun k => TypesOK.mk' types _) (fun k => FnsOK.cons (c75 k) (by kernel_rfl) (FnsOK.nil)) D58 Tryz.func58 (by kernel_rfl) (fun k => by kernel_rfl) (fx := []) (fun k => rfl) (by kernel_rfl) k
/-- loop.example/g00218/laws.szRunning -/
noncomputable def D34 : Def := { fn := Tryz.f34, code := Tryz.f34.body.getD .skip, ps := [.val K3, .val (.int .i64)], res := .val (.int .i64), pl := [], L := lookL [] }
noncomputable def E34 (k : Nat) : Ctx := mkCx base [(57, D57.fnAt E57 k), (58, D58.fnAt E58 k)]
theorem c34 [Strict] {G : World → Prop} (k : Nat) : Con Tryz.prog G 34 (D34.fnAt E34 k) := Def.con2 mixed (fun k => TypesOK.mk' types _) (fun k => FnsOK.cons (c57 k) (by kernel_rfl) (FnsOK.cons (c58 k) (by kernel_rfl) (FnsOK.nil))) D34 Tryz.func34 (by kernel_rfl) (fun k => by kernel_rfl) (fx := []) (fun k => rfl) (by kernel_rfl) k
/-- loop.example/g00218/laws.szRunningS -/
noncomputable def D14 : Def := { fn := Tryz.f14, code := Tryz.f14.body.getD .skip, ps := [.val (.slice K3), .val (.int .i64)], res := .val (.int .i64), pl := [5], L := lookL [(5, [.val 0 (.slice K3), .val 1 (.int .i64), .val 5 (.int .i64)])] }
noncomputable def E14 (k : Nat) : Ctx := mkCx base [(34, D34.fnAt E34 k)]
theorem c14 [Strict] {G : World → Prop} (k : Nat) : Con Tryz.prog G 14 (D14.fnAt E14 k) := Def.con2 mixed (fun k => TypesOK.mk' types _) (fun k => FnsOK.cons (c34 k) (by kernel_rfl) (FnsOK.nil)) D14 Tryz.func14 (by kernel_rfl) (fun k => by kernel_rfl) (fx := []) (fun k => rfl) (by kernel_rfl) k
/-- loop.example/g00218/laws.szIntS -/
noncomputable def D15 : Def := { fn := Tryz.f15, code := Tryz.f15.body.getD .skip, ps := [.val (.slice (.int .i64)), .val (.int .i64)], res := .val (.int .i64), pl := [], L := lookL [] }
noncomputable def E15 (k : Nat) : Ctx := mkCx base []
theorem c15 [Strict] {G : World → Prop} (k : Nat) : Con Tryz.prog G 15 (D15.fnAt E15 k) := Def.con2 mixed (fun k => TypesOK.mk' types _) (fun k => FnsOK.nil) D15 Tryz.func15 (by kernel_rfl) (fun k => by kernel_rfl) (fx := []) (fun k => rfl) (by kernel_rfl) k
/-- loop.example/g00218/laws.szStore -/
noncomputable def D4 : Def := { fn := Tryz.f4, code := Tryz.f4.body.getD .skip, ps := [.val K4, .val (.int .i64)], res := .val (.int .i64), pl := [], L := lookL [] }
noncomputable def E4 (k : Nat) : Ctx := mkCx base [(13, D13.fnAt E13 k), (14, D14.fnAt E14 k), (15, D15.fnAt E15 k)]
theorem c4 [Strict] {G : World → Prop} (k : Nat) : Con Tryz.prog G 4 (D4.fnAt E4 k) := Def.con2 mixed (fun k => TypesOK.mk' types _) (fun k => FnsOK.cons (c13 k) (by kernel_rfl) (FnsOK.cons (c14 k) (by kernel_rfl) (FnsOK.cons (c15 k) (by kernel_rfl) (FnsOK.nil)))) D4 Tryz.func4 (by kernel_rfl) (fun k => by kernel_rfl) (fx := []) (fun k => rfl) (by kernel_rfl) k
/-- loop.example/g00218/spec.l1In -/
noncomputable def D17 : Def := { fn := Tryz.f17, code := Tryz.f17.body.getD .skip, ps := [.val (.int .i64), .val (.int .i64), .val (.int .i64)], res := .val .bool, pl := [], L := lookL [] }
noncomputable def E17 (k : Nat) : Ctx := mkCx base []
theorem c17 [Strict] {G : World → Prop} (k : Nat) : Con Tryz.prog G 17 (D17.fnAt E17 k) := Def.con2 mixed (fun k => TypesOK.mk' types _) (fun k => FnsOK.nil) D17 Tryz.func17 (by kernel_rfl) (fun k => by kernel_rfl) (fx := []) (fun k => rfl) (by kernel_rfl) k
/-- loop.example/g00218/spec.l1Key -/
noncomputable def D35 : Def := { fn := Tryz.f35, code := Tryz.f35.body.getD .skip, ps := [.val .str], res := .val .bool, pl := [2], L := lookL [(2, [.val 0 .str, .val 3 (.int .i64)])] }
noncomputable def E35 (k : Nat) : Ctx := mkCx base [(17, D17.fnAt E17 k)]
theorem c35 [Strict] {G : World → Prop} (k : Nat) : Con Tryz.prog G 35 (D35.fnAt E35 k) := Def.con2 mixed (fun k => TypesOK.mk' types _) (fun k => FnsOK.cons (c17 k) (by kernel_rfl) (FnsOK.nil)) D35 Tryz.func35 (by kernel_rfl) (fun k => by kernel_rfl) (fx := []) (fun k => rfl) (by kernel_rfl) k
/-- loop.example/g00218/spec.l1Value -/
noncomputable def D36 : Def := { fn := Tryz.f36, code := Tryz.f36.body.getD .skip, ps := [.val .str], res := .val .bool, pl := [2], L := lookL [(2, [.val 0 .str, .val 3 (.int .i64)])] }
noncomputable def E36 (k : Nat) : Ctx := mkCx base []
theorem c36 [Strict] {G : World → Prop} (k : Nat) : Con Tryz.prog G 36 (D36.fnAt E36 k) := Def.con2 mixed (fun k => TypesOK.mk' types _) (fun k => FnsOK.nil) D36 Tryz.func36 (by kernel_rfl) (fun k => by kernel_rfl) (fx := []) (fun k => rfl) (by kernel_rfl) k
/-- loop.example/g00218/spec.l1Tid -/
noncomputable def D37 : Def := { fn := Tryz.f37, code := Tryz.f37.body.getD .skip, ps := [.val K5], res := .val .bool, pl := [], L := lookL [] }
noncomputable def E37 (k : Nat) : Ctx := mkCx base [(17, D17.fnAt E17 k)]
theorem c37 [Strict] {G : World → Prop} (k : Nat) : Con Tryz.prog G 37 (D37.fnAt E37 k) := Def.con2 mixed (fun k => TypesOK.mk' types _) (fun k => FnsOK.cons (c17 k) (by kernel_rfl) (FnsOK.nil)) D37 Tryz.func37 (by kernel_rfl) (fun k => by kernel_rfl) (fx := []) (fun k => rfl) (by kernel_rfl) k
/-- loop.example/g00218/spec.l5State -/
noncomputable def D38 : Def := { fn := Tryz.f38, code := Tryz.f38.body.getD .skip, ps := [.val K4, .val (.int .i64)], res := .val (.int .i64), pl := [], L := lookL [] }
noncomputable def E38 (k : Nat) : Ctx := mkCx base [(17, D17.fnAt E17 k)]
theorem c38 [Strict] {G : World → Prop} (k : Nat) : Con Tryz.prog G 38 (D38.fnAt E38 k) := Def.con2 mixed (fun k => TypesOK.mk' types _) (fun k => FnsOK.cons (c17 k) (by kernel_rfl) (FnsOK.nil)) D38 Tryz.func38 (by kernel_rfl) (fun k => by kernel_rfl) (fx := []) (fun k => rfl) (by kernel_rfl) k
/-- loop.example/g00218/spec.l5Writes -/
noncomputable def D39 : Def := { fn := Tryz.f39, code := Tryz.f39.body.getD .skip, ps := [.val K3, .val .str], res := .val .bool, pl := [2], L := lookL [(2, [.val 1 .str, .val 8 (.slice K1), .val 9 (.int .i64), .val 10 (.int .i64)])] }
noncomputable def E39 (k : Nat) : Ctx := mkCx base []
theorem c39 [Strict] {G : World → Prop} (k : Nat) : Con Tryz.prog G 39 (D39.fnAt E39 k) := Def.con2 mixed (fun k => TypesOK.mk' types _) (fun k => FnsOK.nil) D39 Tryz.func39 (by kernel_rfl) (fun k => by kernel_rfl) (fx := []) (fun k => rfl) (by kernel_rfl) k
/-- loop.example/g00218/spec.l5Find -/
noncomputable def D59 : Def := { fn := Tryz.f59, code := Tryz.f59.body.getD .skip, ps := [.val K4, .val .str], res := .tup (.pair (.val K0) (.val .bool)), pl := [2], L := lookL [(2, [.val 1 .str, .var 4 K0, .val 9 (.slice K0), .val 10 (.int .i64), .val 11 (.int .i64)])] }
noncomputable def E59 (k : Nat) : Ctx := mkCx base []
theorem c59 [Strict] {G : World → Prop} (k : Nat) : Con Tryz.prog G 59 (D59.fnAt E59 k) := Def.con2 mixed (fun k => TypesOK.mk' types _) (fun k => FnsOK.nil) D59 Tryz.func59 (by kernel_rfl) (fun k => by kernel_rfl) (fx := []) (fun k => rfl) (by kernel_rfl) k
/-- loop.example/g00218/spec.l5Running -/
noncomputable def D40 : Def := { fn := Tryz.f40, code := Tryz.f40.body.getD .skip, ps := [.val K4, .val (.int .i64)], res := .val .bool, pl := [5, 10, 18], L := lookL [(5, [.var 2 K4, .var 5 K3, .val 38 (.slice K2), .val 39 (.int .i64), .val 40 (.int .i64)]), (10, [.var 2 K4, .var 5 K3, .var 7 K2, .val 38 (.slice K2), .val 39 (.int .i64), .val 40 (.int .i64), .val 69 (.slice K2), .val 70 (.int .i64), .val 71 (.int .i64)]), (18, [.var 2 K4, .var 5 K3, .val 10 .bool, .val 91 (.slice K1), .val 92 (.int .i64), .val 93 (.int .i64)])] }
noncomputable def E40 (k : Nat) : Ctx := mkCx base [(17, D17.fnAt E17 k), (35, D35.fnAt E35 k), (36, D36.fnAt E36 k), (37, D37.fnAt E37 k), (59, D59.fnAt E59 k)]
theorem c40 [Strict] {G : World → Prop} (k : Nat) : Con Tryz.prog G 40 (D40.fnAt E40 k) := Def.con2 mixed (fun k => TypesOK.mk' types _) (fun k => FnsOK.cons (c17 k) (by kernel_rfl) (FnsOK.cons (c35 k) (by kernel_rfl) (FnsOK.cons (c36 k) (by kernel_rfl) (FnsOK.cons (c37 k) (by kernel_rfl) (FnsOK.cons (c59 k) (by kernel_rfl) (FnsOK.nil)))))) D40 Tryz.func40 (by kernel_rfl) (fun k => by kernel_rfl) (fx := []) (fun k => rfl) (by kernel_rfl) k
/-- loop.example/g00218/spec.l1Has -/
noncomputable def D41 : Def := { fn := Tryz.f41, code := Tryz.f41.body.getD .skip, ps := [.val (.slice (.int .i64)), .val (.int .i64)], res := .val .bool, pl := [2], L := lookL [(2, [.val 1 (.int .i64), .val 7 (.slice (.int .i64)), .val 8 (.int .i64), .val 9 (.int .i64)])] }
noncomputable def E41 (k : Nat) : Ctx := mkCx base []
theorem c41 [Strict] {G : World → Prop} (k : Nat) : Con Tryz.prog G 41 (D41.fnAt E41 k) := Def.con2 mixed (fun k => TypesOK.mk' types _) (fun k => FnsOK.nil) D41 Tryz.func41 (by kernel_rfl) (fun k => by kernel_rfl) (fx := []) (fun k => rfl) (by kernel_rfl) k
/-- loop.example/g00218/spec.GoodStore -/
noncomputable def D16 : Def := { fn := Tryz.f16, code := Tryz.f16.body.getD .skip, ps := [.val K4], res := .val .bool, pl := [4, 15, 23], L := lookL [(4, [.var 1 K4, .val 29 (.slice K0), .val 30 (.int .i64), .val 31 (.int .i64)]), (15, [.var 1 K4, .val 6 (.int .i64), .val 113 (.slice K3), .val 114 (.int .i64), .val 115 (.int .i64)]), (23, [.var 1 K4, .val 6 (.int .i64), .val 136 (.slice (.int .i64)), .val 137 (.int .i64), .val 138 (.int .i64)])] }
noncomputable def E16 (k : Nat) : Ctx := mkCx base [(17, D17.fnAt E17 k), (35, D35.fnAt E35 k), (36, D36.fnAt E36 k), (37, D37.fnAt E37 k), (38, D38.fnAt E38 k), (39, D39.fnAt E39 k), (40, D40.fnAt E40 k), (41, D41.fnAt E41 k)]
theorem c16 [Strict] {G : World → Prop} (k : Nat) : Con Tryz.prog G 16 (D16.fnAt E16 k) := Def.con2 mixed (fun k => TypesOK.mk' types _) (fun k => FnsOK.cons (c17 k) (by kernel_rfl) (FnsOK.cons (c35 k) (by kernel_rfl) (FnsOK.cons (c36 k) (by kernel_rfl) (FnsOK.cons (c37 k) (by kernel_rfl) (FnsOK.cons (c38 k) (by kernel_rfl) (FnsOK.cons (c39 k) (by kernel_rfl) (FnsOK.cons (c40 k) (by kernel_rfl) (FnsOK.cons (c41 k) (by kernel_rfl) (FnsOK.nil))))))))) D16 Tryz.func16 (by kernel_rfl) (fun k => by kernel_rfl) (fx := []) (fun k => rfl) (by kernel_rfl) k
/-- loop.example/g00218/spec.l3Cells -/
noncomputable def D42 : Def := { fn := Tryz.f42, code := Tryz.f42.body.getD .skip, ps := [.val (.slice K1), .val K1], res := .own 57 K1, pl := [2, 9], L := lookL [(2, [.val 0 (.slice K1), .var 3 K1, .val 5 (.int .i64)]), (9, [.val 0 (.slice K1), .val 5 (.int .i64), .own 6 57 K1])] }
noncomputable def E42 (k : Nat) : Ctx := mkCx base []
theorem c42 [Strict] {G : World → Prop} (k : Nat) : Con Tryz.prog G 42 (D42.fnAt E42 k) := Def.con2 mixed (fun k => TypesOK.mk' types _) (fun k => FnsOK.nil) D42 Tryz.func42 (by kernel_rfl) (fun k => by kernel_rfl) (fx := []) (fun k => rfl) (by kernel_rfl) k
/-- loop.example/g00218/spec.l5Replay -/
noncomputable def D18 : Def := { fn := Tryz.f18, code := Tryz.f18.body.getD .skip, ps := [.val K4, .val (.int .i64)], res := .own 57 K1, pl := [3, 6], L := lookL [(3, [.var 2 K4, .own 5 57 K1, .val 13 (.slice (.int .i64)), .val 14 (.int .i64), .val 15 (.int .i64)]), (6, [.var 2 K4, .own 5 57 K1, .val 13 (.slice (.int .i64)), .val 14 (.int .i64), .val 15 (.int .i64), .val 25 (.slice K1), .val 26 (.int .i64), .val 27 (.int .i64)])] }
noncomputable def E18 (k : Nat) : Ctx := mkCx base [(42, D42.fnAt E42 k)]
theorem c18 [Strict] {G : World → Prop} (k : Nat) : Con Tryz.prog G 18 (D18.fnAt E18 k) := Def.con2 mixed (fun k => TypesOK.mk' types _) (fun k => FnsOK.cons (c42 k) (by kernel_rfl) (FnsOK.nil)) D18 Tryz.func18 (by kernel_rfl) (fun k => by kernel_rfl) (fx := []) (fun k => rfl) (by kernel_rfl) k
/-- loop.example/g00218/spec.ReplayOrder -/
noncomputable def D5 : Def := { fn := Tryz.f5, code := Tryz.f5.body.getD .skip, ps := [.val K4, .val (.int .i64)], res := .tup (.pair (.own 57 K1) (.val .bool)), pl := [], L := lookL [] }
noncomputable def E5 (k : Nat) : Ctx := mkCx base [(16, D16.fnAt E16 k), (17, D17.fnAt E17 k), (18, D18.fnAt E18 k)]
theorem c5 [Strict] {G : World → Prop} (k : Nat) : Con Tryz.prog G 5 (D5.fnAt E5 k) := Def.con2 mixed (fun k => TypesOK.mk' types _) (fun k => FnsOK.cons (c16 k) (by kernel_rfl) (FnsOK.cons (c17 k) (by kernel_rfl) (FnsOK.cons (c18 k) (by kernel_rfl) (FnsOK.nil)))) D5 Tryz.func5 (by kernel_rfl) (fun k => by kernel_rfl) (fx := []) (fun k => rfl) (by kernel_rfl) k
/-- loop.example/g00218/laws.toTid -/
noncomputable def D60 : Def := { fn := Tryz.f60, code := Tryz.f60.body.getD .skip, ps := [.val K5], res := .val K5, pl := [], L := lookL [] }
noncomputable def E60 (k : Nat) : Ctx := mkCx base []
theorem c60 [Strict] {G : World → Prop} (k : Nat) : Con Tryz.prog G 60 (D60.fnAt E60 k) := Def.con2 mixed (fun k => TypesOK.mk' types _) (fun k => FnsOK.nil) D60 Tryz.func60 (by kernel_rfl) (fun k => by kernel_rfl) (fx := []) (fun k => rfl) (by kernel_rfl) k
/-- loop.example/g00218/laws.toRecord -/
noncomputable def D43 : Def := { fn := Tryz.f43, code := Tryz.f43.body.getD .skip, ps := [.val K0], res := .val K0, pl := [], L := lookL [] }
noncomputable def E43 (k : Nat) : Ctx := mkCx base [(60, D60.fnAt E60 k)]
theorem c43 [Strict] {G : World → Prop} (k : Nat) : Con Tryz.prog G 43 (D43.fnAt E43 k) := Def.con2 mixed (fun k => TypesOK.mk' types _) (fun k => FnsOK.cons (c60 k) (by kernel_rfl) (FnsOK.nil)) D43 Tryz.func43 (by kernel_rfl) (fun k => by kernel_rfl) (fx := []) (fun k => rfl) (by kernel_rfl) k
/-- loop.example/g00218/laws.toRecordS -/
noncomputable def D19 : Def := { fn := Tryz.f19, code := Tryz.f19.body.getD .skip, ps := [.val (.slice K0)], res := .own 76 K0, pl := [3], L := lookL [(3, [.val 0 (.slice K0), .own 3 76 K0, .val 4 (.int .i64)])] }
noncomputable def E19 (k : Nat) : Ctx := mkCx base [(43, D43.fnAt E43 k)]
theorem c19 [Strict] {G : World → Prop} (k : Nat) : Con Tryz.prog G 19 (D19.fnAt E19 k) := Def.con2 mixed (fun k => TypesOK.mk' types _) (fun k => FnsOK.cons (c43 k) (by kernel_rfl) (FnsOK.nil)) D19 Tryz.func19 (by kernel_rfl) (fun k => by kernel_rfl) (fx := []) (fun k => rfl) (by kernel_rfl) k
/-- loop.example/g00218/laws.toLook -/
noncomputable def D76 : Def := { fn := Tryz.f76, code := Tryz.f76.body.getD .skip, ps := [.val K2], res := .val K2, pl := [], L := lookL [] }
noncomputable def E76 (k : Nat) : Ctx := mkCx base [(60, D60.fnAt E60 k)]
theorem c76 [Strict] {G : World → Prop} (k : Nat) : Con Tryz.prog G 76 (D76.fnAt E76 k) := Def.con2 mixed (fun k => TypesOK.mk' types _) (fun k => FnsOK.cons (c60 k) (by kernel_rfl) (FnsOK.nil)) D76 Tryz.func76 (by kernel_rfl) (fun k => by kernel_rfl) (fx := []) (fun k => rfl) (by kernel_rfl) k
/-- loop.example/g00218/laws.toLookS -/
noncomputable def D61 : Def := { fn := Tryz.f61, code := Tryz.f61.body.getD .skip, ps := [.val (.slice K2)], res := .own 102 K2, pl := [3], L := lookL [(3, [.val 0 (.slice K2), .own 3 102 K2, .val 4 (.int .i64)])] }
noncomputable def E61 (k : Nat) : Ctx := mkCx base [(76, D76.fnAt E76 k)]
theorem c61 [Strict] {G : World → Prop} (k : Nat) : Con Tryz.prog G 61 (D61.fnAt E61 k) := Def.con2 mixed (fun k => TypesOK.mk' types _) (fun k => FnsOK.cons (c76 k) (by kernel_rfl) (FnsOK.nil)) D61 Tryz.func61 (by kernel_rfl) (fun k => by kernel_rfl) (fx := []) (fun k => rfl) (by kernel_rfl) k
/-- loop.example/g00218/laws.toCell -/
noncomputable def D77 : Def := { fn := Tryz.f77, code := Tryz.f77.body.getD .skip, ps := [.val K1], res := .val K1, pl := [], L := lookL [] }
noncomputable def E77 (k : Nat) : Ctx := mkCx base []
theorem c77 [Strict] {G : World → Prop} (k : Nat) : Con Tryz.prog G 77 (D77.fnAt E77 k) := Def.con2 mixed (fun k => TypesOK.mk' types _) (fun k => FnsOK.nil) D77 Tryz.func77 (by kernel_rfl) (fun k => by kernel_rfl) (fx := []) (fun k => rfl) (by kernel_rfl) k
/-- loop.example/g00218/laws.toCellS -/
noncomputable def D62 : Def := { fn := Tryz.f62, code := Tryz.f62.body.getD .skip, ps := [.val (.slice K1)], res := .own 57 K1, pl := [3], L := lookL [(3, [.val 0 (.slice K1), .own 3 57 K1, .val 4 (.int .i64)])] }
noncomputable def E62 (k : Nat) : Ctx := mkCx base [(77, D77.fnAt E77 k)]
theorem c62 [Strict] {G : World → Prop} (k : Nat) : Con Tryz.prog G 62 (D62.fnAt E62 k) := Def.con2 mixed (fun k => TypesOK.mk' types _) (fun k => FnsOK.cons (c77 k) (by kernel_rfl) (FnsOK.nil)) D62 Tryz.func62 (by kernel_rfl) (fun k => by kernel_rfl) (fx := []) (fun k => rfl) (by kernel_rfl) k
/-- loop.example/g00218/laws.toRunning -/
noncomputable def D44 : Def := { fn := Tryz.f44, code := Tryz.f44.body.getD .skip, ps := [.val K3], res := .agg (.pair (.val (.int .i64)) (.pair (.val (.int .i64)) (.pair (.own 102 K2) (.pair (.own 57 K1) (.val K5))))), pl := [], L := lookL [] }
noncomputable def E44 (k : Nat) : Ctx := mkCx base [(60, D60.fnAt E60 k), (61, D61.fnAt E61 k), (62, D62.fnAt E62 k)]
theorem c44 [Strict] {G : World → Prop} (k : Nat) : Con Tryz.prog G 44 (D44.fnAt E44 k) := Def.con2 mixed (fun k => TypesOK.mk' types _) (fun k => FnsOK.cons (c60 k) (by kernel_rfl) (FnsOK.cons (c61 k) (by kernel_rfl) (FnsOK.cons (c62 k) (by kernel_rfl) (FnsOK.nil)))) D44 Tryz.func44 (by kernel_rfl) (fun k => by kernel_rfl) (fx := []) (fun k => rfl) (by kernel_rfl) k
/-- loop.example/g00218/laws.toRunningS -/
noncomputable def D20 : Def := { fn := Tryz.f20, code := Tryz.f20.body.getD .skip, ps := [.val (.slice K3)], res := .deep 55 K3 [102, 57], pl := [3], L := lookL [(3, [.val 0 (.slice K3), .deep 3 55 K3 [102, 57], .val 4 (.int .i64)])] }
noncomputable def E20 (k : Nat) : Ctx := mkCx (dpCx base [(32, [102, 57])]) [(44, D44.fnAt E44 k)]
theorem c20 [Strict] {G : World → Prop} (k : Nat) : Con Tryz.prog G 20 (D20.fnAt E20 k) := Def.con2 mixed (fun k => TypesOK.mk' (TypesOK.dp types [(32, [102, 57])]) _) (fun k => FnsOK.cons (c44 k) (by kernel_rfl) (FnsOK.nil)) D20 Tryz.func20 (by kernel_rfl) (fun k => by kernel_rfl) (fx := []) (fun k => rfl) (by kernel_rfl) k
/-- loop.example/g00218/laws.toIntS -/
noncomputable def D21 : Def := { fn := Tryz.f21, code := Tryz.f21.body.getD .skip, ps := [.val (.slice (.int .i64))], res := .own 3 (.int .i64), pl := [3], L := lookL [(3, [.val 0 (.slice (.int .i64)), .own 3 3 (.int .i64), .val 4 (.int .i64)])] }
noncomputable def E21 (k : Nat) : Ctx := mkCx base []
theorem c21 [Strict] {G : World → Prop} (k : Nat) : Con Tryz.prog G 21 (D21.fnAt E21 k) := Def.con2 mixed (fun k => TypesOK.mk' types _) (fun k => FnsOK.nil) D21 Tryz.func21 (by kernel_rfl) (fun k => by kernel_rfl) (fx := []) (fun k => rfl) (by kernel_rfl) k
/-- loop.example/g00218/laws.toStore -/
noncomputable def D6 : Def := { fn := Tryz.f6, code := Tryz.f6.body.getD .skip, ps := [.val K4], res := .agg (.pair (.val (.int .i64)) (.pair (.own 76 K0) (.pair (.deep 55 K3 [102, 57]) (.own 3 (.int .i64))))), pl := [], L := lookL [] }
noncomputable def E6 (k : Nat) : Ctx := mkCx (dpCx base [(32, [102, 57])]) [(19, D19.fnAt E19 k), (20, D20.fnAt E20 k), (21, D21.fnAt E21 k)]
theorem c6 [Strict] {G : World → Prop} (k : Nat) : Con Tryz.prog G 6 (D6.fnAt E6 k) := Def.con2 mixed (fun k => TypesOK.mk' (TypesOK.dp types [(32, [102, 57])]) _) (fun k => FnsOK.cons (c19 k) (by kernel_rfl) (FnsOK.cons (c20 k) (by kernel_rfl) (FnsOK.cons (c21 k) (by kernel_rfl) (FnsOK.nil)))) D6 Tryz.func6 (by kernel_rfl) (fun k => by kernel_rfl) (fx := []) (fun k => rfl) (by kernel_rfl) k
/-- loop.example/g00218/impl.in -/
noncomputable def D23 : Def := { fn := Tryz.f23, code := Tryz.f23.body.getD .skip, ps := [.val (.int .i64), .val (.int .i64), .val (.int .i64)], res := .val .bool, pl := [], L := lookL [] }
noncomputable def E23 (k : Nat) : Ctx := mkCx base []
theorem c23 [Strict] {G : World → Prop} (k : Nat) : Con Tryz.prog G 23 (D23.fnAt E23 k) := Def.con2 mixed (fun k => TypesOK.mk' types _) (fun k => FnsOK.nil) D23 Tryz.func23 (by kernel_rfl) (fun k => by kernel_rfl) (fx := []) (fun k => rfl) (by kernel_rfl) k
/-- loop.example/g00218/impl.isKey -/
noncomputable def D45 : Def := { fn := Tryz.f45, code := Tryz.f45.body.getD .skip, ps := [.val .str], res := .val .bool, pl := [], L := lookL [] }
noncomputable def E45 (k : Nat) : Ctx := mkCx base [(63, ⟨[.val .str, .val .str], .val .str, fun v => MapW.strings_Trim.f v.1 v.2.1, []⟩)]
theorem c45 {G : World → Prop} (k : Nat) : Con Tryz.prog G 45 (D45.fnAt E45 k) := Def.con2 mixed (fun k => TypesOK.mk' types _) (fun k => FnsOK.cons (Con.text2 (fun h => h) MapW.strings_Trim.f MapW.strings_Trim.calls) (by kernel_rfl) (FnsOK.nil)) D45 Tryz.func45 (by kernel_rfl) (fun k => by kernel_rfl) (fx := []) (fun k => rfl) (by kernel_rfl) k
/-- loop.example/g00218/impl.isValue -/
noncomputable def D46 : Def := { fn := Tryz.f46, code := Tryz.f46.body.getD .skip, ps := [.val .str], res := .val .bool, pl := [2], L := lookL [(2, [.val 0 .str, .val 5 (.int .i64), .val 6 (.int .i64)])] }
noncomputable def E46 (k : Nat) : Ctx := mkCx base []
theorem c46 [Strict] {G : World → Prop} (k : Nat) : Con Tryz.prog G 46 (D46.fnAt E46 k) := Def.con2 mixed (fun k => TypesOK.mk' types _) (fun k => FnsOK.nil) D46 Tryz.func46 (by kernel_rfl) (fun k => by kernel_rfl) (fx := []) (fun k => rfl) (by kernel_rfl) k
/-- loop.example/g00218/impl.isTid -/
noncomputable def D47 : Def := { fn := Tryz.f47, code := Tryz.f47.body.getD .skip, ps := [.val K5], res := .val .bool, pl := [], L := lookL [] }
noncomputable def E47 (k : Nat) : Ctx := mkCx base [(23, D23.fnAt E23 k)]
theorem c47 [Strict] {G : World → Prop} (k : Nat) : Con Tryz.prog G 47 (D47.fnAt E47 k) := Def.con2 mixed (fun k => TypesOK.mk' types _) (fun k => FnsOK.cons (c23 k) (by kernel_rfl) (FnsOK.nil)) D47 Tryz.func47 (by kernel_rfl) (fun k => by kernel_rfl) (fx := []) (fun k => rfl) (by kernel_rfl) k
/-- (*loop.example/g00218/impl.Running).writeAt$1 -/
noncomputable def D65 : Def := { fn := Tryz.f65, code := Tryz.f65.body.getD .skip, ps := [.val K1, .val .str], res := .val (.int .i64), pl := [], L := lookL [] }
noncomputable def E65 (k : Nat) : Ctx := mkCx base [(66, cmpFn)]
theorem c65 [Strict] {G : World → Prop} (k : Nat) : Con Tryz.prog G 65 (D65.fnAt E65 k) := Def.con2 mixed (fun k => TypesOK.mk' types _) (fun k => FnsOK.cons (Con.cmp Go.Proofs.Tryz.lays106 (by kernel_rfl)) (by kernel_rfl) (FnsOK.nil)) D65 Tryz.func65 (by kernel_rfl) (fun k => by kernel_rfl) (fx := []) (fun k => rfl) (by kernel_rfl) k
/-- slices.BinarySearchFunc[[]loop.example/g00218/impl.Cell,loop.example/g00218/impl.Cell,string] -/
noncomputable def D64 : Def := { fn := Tryz.f64, code := Tryz.f64.body.getD .skip, ps := [.val (.slice K1), .val .str, .val (.clo 65 .unit)], res := .tup (.pair (.val (.int .i64)) (.val .bool)), pl := [3], L := lookL [(3, [.val 0 (.slice K1), .val 1 .str, .val 2 (.clo 65 .unit), .val 8 (.int .i64), .val 9 (.int .i64), .val 10 (.int .i64)])] }
noncomputable def E64 (k : Nat) : Ctx := mkCx base [(65, D65.fnAt E65 k)]
theorem c64 [Strict] {G : World → Prop} (k : Nat) : Con Tryz.prog G 64 (D64.fnAt E64 k) := Def.con2 mixed (fun k => TypesOK.mk' types _) (fun k => FnsOK.cons (c65 k) (by kernel_rfl) (FnsOK.nil)) D64 Tryz.func64 (by kernel_rfl) (fun k => by kernel_rfl) (fx := []) (fun k => rfl) (by kernel_rfl) k
/-- (*loop.example/g00218/impl.Running).writeAt -/
noncomputable def D48 : Def := { fn := Tryz.f48, code := Tryz.f48.body.getD .skip, ps := [.val (.ref K3), .val .str], res := .tup (.pair (.val (.int .i64)) (.val .bool)), pl := [], L := lookL [] }
noncomputable def E48 (k : Nat) : Ctx := mkCx base [(64, D64.fnAt E64 k)]
theorem c48 [Strict] {G : World → Prop} (k : Nat) : Con Tryz.prog G 48 (D48.fnAt E48 k) := Def.con2 mixed (fun k => TypesOK.mk' types _) (fun k => FnsOK.cons (c64 k) (by kernel_rfl) (FnsOK.nil)) D48 Tryz.func48 (by kernel_rfl) (fun k => by kernel_rfl) (fx := []) (fun k => rfl) (by kernel_rfl) k
/-- loop.example/g00218/impl.owns -/
noncomputable def D49 : Def := { fn := Tryz.f49, code := Tryz.f49.body.getD .skip, ps := [.val (.int .i64)], res := .val .bool, pl := [], L := lookL [] }
noncomputable def E49 (k : Nat) : Ctx := mkCx base []
theorem c49 [Strict] {G : World → Prop} (k : Nat) : Con Tryz.prog G 49 (D49.fnAt E49 k) := Def.con2 mixed (fun k => TypesOK.mk' types _) (fun k => FnsOK.nil) D49 Tryz.func49 (by kernel_rfl) (fun k => by kernel_rfl) (fx := []) (fun k => rfl) (by kernel_rfl) k
/-- loop.example/g00218/impl.isRunning -/
noncomputable def D50 : Def := { fn := Tryz.f50, code := Tryz.f50.body.getD .skip, ps := [.val K3, .val (.int .i64)], res := .val .bool, pl := [6, 13], L := lookL [(6, [.var 2 K3, .mp 6 .str .bool, .val 58 (.slice K2), .val 59 (.int .i64), .val 60 (.int .i64)]), (13, [.var 2 K3, .val 96 (.slice K1), .val 97 (.int .i64), .val 98 (.int .i64)])] }
noncomputable def E50 (k : Nat) : Ctx := mkCx base [(23, D23.fnAt E23 k), (45, D45.fnAt E45 k), (46, D46.fnAt E46 k), (47, D47.fnAt E47 k)]
theorem c50 {G : World → Prop} (k : Nat) : Con Tryz.prog G 50 (D50.fnAt E50 k) := Def.con2 mixed (fun k => TypesOK.mk' types _) (fun k => FnsOK.cons (c23 k) (by kernel_rfl) (FnsOK.cons (c45 k) (by kernel_rfl) (FnsOK.cons (c46 k) (by kernel_rfl) (FnsOK.cons (c47 k) (by kernel_rfl) (FnsOK.nil))))) D50 Tryz.func50 (by kernel_rfl) (fun k => by kernel_rfl) (fx := []) (fun k => rfl) (by kernel_rfl) k
/-- (*loop.example/g00218/impl.Store).at$1 -/
noncomputable def D68 : Def := { fn := Tryz.f68, code := Tryz.f68.body.getD .skip, ps := [.val K0, .val .str], res := .val (.int .i64), pl := [], L := lookL [] }
noncomputable def E68 (k : Nat) : Ctx := mkCx base [(66, cmpFn)]
theorem c68 [Strict] {G : World → Prop} (k : Nat) : Con Tryz.prog G 68 (D68.fnAt E68 k) := Def.con2 mixed (fun k => TypesOK.mk' types _) (fun k => FnsOK.cons (Con.cmp Go.Proofs.Tryz.lays106 (by kernel_rfl)) (by kernel_rfl) (FnsOK.nil)) D68 Tryz.func68 (by kernel_rfl) (fun k => by kernel_rfl) (fx := []) (fun k => rfl) (by kernel_rfl) k
/-- slices.BinarySearchFunc[[]loop.example/g00218/impl.Record,loop.example/g00218/impl.Record,string] -/
noncomputable def D67 : Def := { fn := Tryz.f67, code := Tryz.f67.body.getD .skip, ps := [.val (.slice K0), .val .str, .val (.clo 68 .unit)], res := .tup (.pair (.val (.int .i64)) (.val .bool)), pl := [3], L := lookL [(3, [.val 0 (.slice K0), .val 1 .str, .val 2 (.clo 68 .unit), .val 8 (.int .i64), .val 9 (.int .i64), .val 10 (.int .i64)])] }
noncomputable def E67 (k : Nat) : Ctx := mkCx base [(68, D68.fnAt E68 k)]
theorem c67 [Strict] {G : World → Prop} (k : Nat) : Con Tryz.prog G 67 (D67.fnAt E67 k) := Def.con2 mixed (fun k => TypesOK.mk' types _) (fun k => FnsOK.cons (c68 k) (by kernel_rfl) (FnsOK.nil)) D67 Tryz.func67 (by kernel_rfl) (fun k => by kernel_rfl) (fx := []) (fun k => rfl) (by kernel_rfl) k
/-- (*loop.example/g00218/impl.Store).at -/
noncomputable def D51 : Def := { fn := Tryz.f51, code := Tryz.f51.body.getD .skip, ps := [.val (.ref K4), .val .str], res := .tup (.pair (.val (.int .i64)) (.val .bool)), pl := [], L := lookL [] }
noncomputable def E51 (k : Nat) : Ctx := mkCx base [(67, D67.fnAt E67 k)]
theorem c51 [Strict] {G : World → Prop} (k : Nat) : Con Tryz.prog G 51 (D51.fnAt E51 k) := Def.con2 mixed (fun k => TypesOK.mk' types _) (fun k => FnsOK.cons (c67 k) (by kernel_rfl) (FnsOK.nil)) D51 Tryz.func51 (by kernel_rfl) (fun k => by kernel_rfl) (fx := []) (fun k => rfl) (by kernel_rfl) k
/-- loop.example/g00218/impl.isStore -/
noncomputable def D22 : Def := { fn := Tryz.f22, code := Tryz.f22.body.getD .skip, ps := [.val K4], res := .val .bool, pl := [5, 12, 23, 28], L := lookL [(5, [.var 1 K4, .mp 3 (.int .i64) .bool, .val 35 (.slice (.int .i64)), .val 36 (.int .i64), .val 37 (.int .i64)]), (12, [.var 1 K4, .mp 3 (.int .i64) .bool, .val 56 (.slice K0), .val 57 (.int .i64), .val 58 (.int .i64)]), (23, [.var 1 K4, .mp 3 (.int .i64) .bool, .val 147 (.slice K3), .val 148 (.int .i64), .val 149 (.int .i64)]), (28, [.var 1 K4, .mp 3 (.int .i64) .bool, .var 12 K3, .val 147 (.slice K3), .val 148 (.int .i64), .val 149 (.int .i64), .val 175 (.slice K1), .val 176 (.int .i64), .val 177 (.int .i64)])] }
noncomputable def E22 (k : Nat) : Ctx := mkCx base [(23, D23.fnAt E23 k), (45, D45.fnAt E45 k), (46, D46.fnAt E46 k), (47, D47.fnAt E47 k), (48, D48.fnAt E48 k), (49, D49.fnAt E49 k), (50, D50.fnAt E50 k), (51, D51.fnAt E51 k)]
theorem c22 {G : World → Prop} (k : Nat) : Con Tryz.prog G 22 (D22.fnAt E22 k) := Def.con2 mixed (fun k => TypesOK.mk' types _) (fun k => FnsOK.cons (c23 k) (by kernel_rfl) (FnsOK.cons (c45 k) (by kernel_rfl) (FnsOK.cons (c46 k) (by kernel_rfl) (FnsOK.cons (c47 k) (by kernel_rfl) (FnsOK.cons (c48 k) (by kernel_rfl) (FnsOK.cons (c49 k) (by kernel_rfl) (FnsOK.cons (c50 k) (by kernel_rfl) (FnsOK.cons (c51 k) (by kernel_rfl) (FnsOK.nil))))))))) D22 Tryz.func22 (by kernel_rfl) (fun k => by kernel_rfl) (fx := []) (fun k => rfl) (by kernel_rfl) k
/-- loop.example/g00218/impl.cellsOf -/
noncomputable def D24 : Def := { fn := Tryz.f24, code := Tryz.f24.body.getD .skip, ps := [.val (.mpk .str .str)], res := .own 57 K1, pl := [3], L := lookL [(3, [.val 0 (.mpk .str .str), .own 3 57 K1, .val 9 (.slice .str), .val 10 (.int .i64), .val 11 (.int .i64)])] }
noncomputable def E24 (k : Nat) : Ctx := mkCx base [(52, sortedKeysFn 71 9  .str), (53, keysFn 71  .str)]
theorem c24 {G : World → Prop} (k : Nat) : Con Tryz.prog G 24 (D24.fnAt E24 k) := Def.con2 mixed (fun k => TypesOK.mk' types _) (fun k => FnsOK.cons (Con.sortedKeys (fun h => h) Go.Proofs.Tryz.laysKy6 Go.Proofs.Tryz.laysKy7 Go.Proofs.Tryz.laysKyM (by kernel_rfl) (by kernel_rfl) (by kernel_rfl) (by kernel_rfl)  .str) (by kernel_rfl) (FnsOK.cons (Con.keys Go.Proofs.Tryz.laysKy7 (by kernel_rfl) (by kernel_rfl)  .str) (by kernel_rfl) (FnsOK.nil))) D24 Tryz.func24 (by kernel_rfl) (fun k => by kernel_rfl) (fx := []) (fun k => rfl) (by kernel_rfl) k
/-- loop.example/g00218/impl.ReplayOrder -/
noncomputable def D7 : Def := { fn := Tryz.f7, code := Tryz.f7.body.getD .skip, ps := [.val K4, .val (.int .i64)], res := .tup (.pair (.own 57 K1) (.val .bool)), pl := [5, 8], L := lookL [(5, [.var 2 K4, .mp 6 .str .str, .val 26 (.slice (.int .i64)), .val 27 (.int .i64), .val 28 (.int .i64)]), (8, [.var 2 K4, .mp 6 .str .str, .val 26 (.slice (.int .i64)), .val 27 (.int .i64), .val 28 (.int .i64), .val 38 (.slice K1), .val 39 (.int .i64), .val 40 (.int .i64)])] }
noncomputable def E7 (k : Nat) : Ctx := mkCx base [(22, D22.fnAt E22 k), (23, D23.fnAt E23 k), (24, D24.fnAt E24 k)]
theorem c7 {G : World → Prop} (k : Nat) : Con Tryz.prog G 7 (D7.fnAt E7 k) := Def.con2 mixed (fun k => TypesOK.mk' types _) (fun k => FnsOK.cons (c22 k) (by kernel_rfl) (FnsOK.cons (c23 k) (by kernel_rfl) (FnsOK.cons (c24 k) (by kernel_rfl) (FnsOK.nil)))) D7 Tryz.func7 (by kernel_rfl) (fun k => by kernel_rfl) (fx := []) (fun k => rfl) (by kernel_rfl) k
/-- loop.example/g00218/laws.eqCell -/
noncomputable def D25 : Def := { fn := Tryz.f25, code := Tryz.f25.body.getD .skip, ps := [.val K1, .val K1], res := .val .bool, pl := [], L := lookL [] }
noncomputable def E25 (k : Nat) : Ctx := mkCx base []
theorem c25 [Strict] {G : World → Prop} (k : Nat) : Con Tryz.prog G 25 (D25.fnAt E25 k) := Def.con2 mixed (fun k => TypesOK.mk' types _) (fun k => FnsOK.nil) D25 Tryz.func25 (by kernel_rfl) (fun k => by kernel_rfl) (fx := []) (fun k => rfl) (by kernel_rfl) k
/-- loop.example/g00218/laws.eqCellS -/
noncomputable def D8 : Def := { fn := Tryz.f8, code := Tryz.f8.body.getD .skip, ps := [.val (.slice K1), .val (.slice K1)], res := .val .bool, pl := [4], L := lookL [(4, [.val 0 (.slice K1), .val 1 (.slice K1), .val 5 (.int .i64)])] }
noncomputable def E8 (k : Nat) : Ctx := mkCx base [(25, D25.fnAt E25 k)]
theorem c8 [Strict] {G : World → Prop} (k : Nat) : Con Tryz.prog G 8 (D8.fnAt E8 k) := Def.con2 mixed (fun k => TypesOK.mk' types _) (fun k => FnsOK.cons (c25 k) (by kernel_rfl) (FnsOK.nil)) D8 Tryz.func8 (by kernel_rfl) (fun k => by kernel_rfl) (fx := []) (fun k => rfl) (by kernel_rfl) k
/-- loop.example/g00218/laws.eqTid -/
noncomputable def D72 : Def := { fn := Tryz.f72, code := Tryz.f72.body.getD .skip, ps := [.val K5, .val K5], res := .val .bool, pl := [], L := lookL [] }
noncomputable def E72 (k : Nat) : Ctx := mkCx base []
theorem c72 [Strict] {G : World → Prop} (k : Nat) : Con Tryz.prog G 72 (D72.fnAt E72 k) := Def.con2 mixed (fun k => TypesOK.mk' types _) (fun k => FnsOK.nil) D72 Tryz.func72 (by kernel_rfl) (fun k => by kernel_rfl) (fx := []) (fun k => rfl) (by kernel_rfl) k
/-- loop.example/g00218/laws.eqRecord -/
noncomputable def D54 : Def := { fn := Tryz.f54, code := Tryz.f54.body.getD .skip, ps := [.val K0, .val K0], res := .val .bool, pl := [], L := lookL [] }
noncomputable def E54 (k : Nat) : Ctx := mkCx base [(72, D72.fnAt E72 k)]
theorem c54 [Strict] {G : World → Prop} (k : Nat) : Con Tryz.prog G 54 (D54.fnAt E54 k) := Def.con2 mixed (fun k => TypesOK.mk' types _) (fun k => FnsOK.cons (c72 k) (by kernel_rfl) (FnsOK.nil)) D54 Tryz.func54 (by kernel_rfl) (fun k => by kernel_rfl) (fx := []) (fun k => rfl) (by kernel_rfl) k
/-- loop.example/g00218/laws.eqRecordS -/
noncomputable def D26 : Def := { fn := Tryz.f26, code := Tryz.f26.body.getD .skip, ps := [.val (.slice K0), .val (.slice K0)], res := .val .bool, pl := [4], L := lookL [(4, [.val 0 (.slice K0), .val 1 (.slice K0), .val 5 (.int .i64)])] }
noncomputable def E26 (k : Nat) : Ctx := mkCx base [(54, D54.fnAt E54 k)]
theorem c26 [Strict] {G : World → Prop} (k : Nat) : Con Tryz.prog G 26 (D26.fnAt E26 k) := Def.con2 mixed (fun k => TypesOK.mk' types _) (fun k => FnsOK.cons (c54 k) (by kernel_rfl) (FnsOK.nil)) D26 Tryz.func26 (by kernel_rfl) (fun k => by kernel_rfl) (fx := []) (fun k => rfl) (by kernel_rfl) k
/-- loop.example/g00218/laws.eqLook -/
noncomputable def D89 : Def := { fn := Tryz.f89, code := Tryz.f89.body.getD .skip, ps := [.val K2, .val K2], res := .val .bool, pl := [], L := lookL [] }
noncomputable def E89 (k : Nat) : Ctx := mkCx base [(72, D72.fnAt E72 k)]
theorem c89 [Strict] {G : World → Prop} (k : Nat) : Con Tryz.prog G 89 (D89.fnAt E89 k) := Def.con2 mixed (fun k => TypesOK.mk' types _) (fun k => FnsOK.cons (c72 k) (by kernel_rfl) (FnsOK.nil)) D89 Tryz.func89 (by kernel_rfl) (fun k => by kernel_rfl) (fx := []) (fun k => rfl) (by kernel_rfl) k
/-- loop.example/g00218/laws.eqLookS -/
noncomputable def D73 : Def := { fn := Tryz.f73, code := Tryz.f73.body.getD .skip, ps := [.val (.slice K2), .val (.slice K2)], res := .val .bool, pl := [4], L := lookL [(4, [.val 0 (.slice K2), .val 1 (.slice K2), .val 5 (.int .i64)])] }
noncomputable def E73 (k : Nat) : Ctx := mkCx base [(89, D89.fnAt E89 k)]
theorem c73 [Strict] {G : World → Prop} (k : Nat) : Con Tryz.prog G 73 (D73.fnAt E73 k) := Def.con2 mixed (fun k => TypesOK.mk' types _) (fun k => FnsOK.cons (c89 k) (by kernel_rfl) (FnsOK.nil)) D73 Tryz.func73 (by kernel_rfl) (fun k => by kernel_rfl) (fx := []) (fun k => rfl) (by kernel_rfl) k
/-- loop.example/g00218/laws.eqRunning -/
noncomputable def D55 : Def := { fn := Tryz.f55, code := Tryz.f55.body.getD .skip, ps := [.val K3, .val K3], res := .val .bool, pl := [], L := lookL [] }
noncomputable def E55 (k : Nat) : Ctx := mkCx base [(72, D72.fnAt E72 k), (73, D73.fnAt E73 k), (8, D8.fnAt E8 k)]
theorem c55 [Strict] {G : World → Prop} (k : Nat) : Con Tryz.prog G 55 (D55.fnAt E55 k) := Def.con2 mixed (fun k => TypesOK.mk' types _) (fun k => FnsOK.cons (c72 k) (by kernel_rfl) (FnsOK.cons (c73 k) (by kernel_rfl) (FnsOK.cons (c8 k) (by kernel_rfl) (FnsOK.nil)))) D55 Tryz.func55 (by kernel_rfl) (fun k => by kernel_rfl) (fx := []) (fun k => rfl) (by kernel_rfl) k
/-- loop.example/g00218/laws.eqRunningS -/
noncomputable def D27 : Def := { fn := Tryz.f27, code := Tryz.f27.body.getD .skip, ps := [.val (.slice K3), .val (.slice K3)], res := .val .bool, pl := [4], L := lookL [(4, [.val 0 (.slice K3), .val 1 (.slice K3), .val 5 (.int .i64)])] }
noncomputable def E27 (k : Nat) : Ctx := mkCx base [(55, D55.fnAt E55 k)]
theorem c27 [Strict] {G : World → Prop} (k : Nat) : Con Tryz.prog G 27 (D27.fnAt E27 k) := Def.con2 mixed (fun k => TypesOK.mk' types _) (fun k => FnsOK.cons (c55 k) (by kernel_rfl) (FnsOK.nil)) D27 Tryz.func27 (by kernel_rfl) (fun k => by kernel_rfl) (fx := []) (fun k => rfl) (by kernel_rfl) k
/-- loop.example/g00218/laws.eqIntS -/
noncomputable def D28 : Def := { fn := Tryz.f28, code := Tryz.f28.body.getD .skip, ps := [.val (.slice (.int .i64)), .val (.slice (.int .i64))], res := .val .bool, pl := [4], L := lookL [(4, [.val 0 (.slice (.int .i64)), .val 1 (.slice (.int .i64)), .val 5 (.int .i64)])] }
noncomputable def E28 (k : Nat) : Ctx := mkCx base []
theorem c28 [Strict] {G : World → Prop} (k : Nat) : Con Tryz.prog G 28 (D28.fnAt E28 k) := Def.con2 mixed (fun k => TypesOK.mk' types _) (fun k => FnsOK.nil) D28 Tryz.func28 (by kernel_rfl) (fun k => by kernel_rfl) (fx := []) (fun k => rfl) (by kernel_rfl) k
/-- loop.example/g00218/laws.eqStore -/
noncomputable def D9 : Def := { fn := Tryz.f9, code := Tryz.f9.body.getD .skip, ps := [.val K4, .val K4], res := .val .bool, pl := [], L := lookL [] }
noncomputable def E9 (k : Nat) : Ctx := mkCx base [(26, D26.fnAt E26 k), (27, D27.fnAt E27 k), (28, D28.fnAt E28 k)]
theorem c9 [Strict] {G : World → Prop} (k : Nat) : Con Tryz.prog G 9 (D9.fnAt E9 k) := Def.con2 mixed (fun k => TypesOK.mk' types _) (fun k => FnsOK.cons (c26 k) (by kernel_rfl) (FnsOK.cons (c27 k) (by kernel_rfl) (FnsOK.cons (c28 k) (by kernel_rfl) (FnsOK.nil)))) D9 Tryz.func9 (by kernel_rfl) (fun k => by kernel_rfl) (fx := []) (fun k => rfl) (by kernel_rfl) k
/-- loop.example/g00218/laws.FnExactReplayOrder -/
noncomputable def D3 : Def := { fn := Tryz.f3, code := Tryz.f3.body.getD .skip, ps := [.val K4, .val (.int .i64)], res := .val .bool, pl := [], L := lookL [] }
noncomputable def E3 (k : Nat) : Ctx := mkCx base [(10, D10.fnAt E10 k), (11, D11.fnAt E11 k), (12, D12.fnAt E12 k), (4, D4.fnAt E4 k), (5, D5.fnAt E5 k), (6, D6.fnAt E6 k), (7, D7.fnAt E7 k), (8, D8.fnAt E8 k), (9, D9.fnAt E9 k)]
theorem c3 {G : World → Prop} (k : Nat) : Con Tryz.prog G 3 (D3.fnAt E3 k) := Def.con2 mixed (fun k => TypesOK.mk' types _) (fun k => FnsOK.cons (c10 k) (by kernel_rfl) (FnsOK.cons (c11 k) (by kernel_rfl) (FnsOK.cons (c12 k) (by kernel_rfl) (FnsOK.cons (c4 k) (by kernel_rfl) (FnsOK.cons (c5 k) (by kernel_rfl) (FnsOK.cons (c6 k) (by kernel_rfl) (FnsOK.cons (c7 k) (by kernel_rfl) (FnsOK.cons (c8 k) (by kernel_rfl) (FnsOK.cons (c9 k) (by kernel_rfl) (FnsOK.nil)))))))))) D3 Tryz.func3 (by kernel_rfl) (fun k => by kernel_rfl) (fx := []) (fun k => rfl) (by kernel_rfl) k
end Go.Proofs.YtolcbchdijdolaaGreatDoor.Fms
