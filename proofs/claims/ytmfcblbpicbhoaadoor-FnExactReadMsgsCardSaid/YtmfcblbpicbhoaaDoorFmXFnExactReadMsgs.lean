/- FnExactReadMsgs, by the functional machine. -/
import Derived.Test.YtmfcblbpicbhoaaDoorTrim
import Derived.Test.YtmfcblbpicbhoaaDoorFmZ
import Derived.Test.YtmfcblbpicbhoaaDoorFmGv
import Derived.Test.YtmfcblbpicbhoaaDoorProg
set_option maxRecDepth 100000
set_option linter.unusedVariables false
open Go Go.Fm
namespace Go.Proofs.YtmfcblbpicbhoaaDoor.Fms
abbrev K2 : Kind := .struct .unit
abbrev K0 : Kind := .struct (.pair (.int .i64) (.pair (.int .i64) .bool))
abbrev K1 : Kind := .struct (.pair (.int .i64) (.pair (.int .i64) (.pair (.int .i64) (.pair (.int .i64) (.pair .str (.pair .str K0))))))
def table : List TRow := [⟨2, (.int .i64), 0, 0, false, none⟩, ⟨3, (.int .i64), 0, 0, false, none⟩, ⟨4, .bool, 0, 0, false, none⟩, ⟨5, (.int .u8), 0, 0, false, none⟩, ⟨6, (.int .u8), 0, 0, false, none⟩, ⟨9, .str, 0, 0, false, none⟩, ⟨22, K0, 0, 0, true, none⟩, ⟨28, K0, 0, 0, true, none⟩, ⟨29, K1, 0, 0, true, none⟩, ⟨30, K1, 0, 0, true, none⟩, ⟨42, (.slice K1), 1599289640401, 30, false, none⟩, ⟨56, (.int .u64), 0, 0, false, none⟩, ⟨57, (.slice (.int .u8)), 140737488355328, 5, false, none⟩, ⟨58, (.int .u64), 0, 0, false, none⟩, ⟨60, K2, 0, 0, true, none⟩, ⟨61, K2, 0, 0, true, none⟩, ⟨63, (.int .u16), 0, 0, false, none⟩]
def base : Ctx := ctxOf table
theorem types : TypesOK Tryd.prog base := typesOK_of (by kernel_rfl)
theorem mixed : Tryd.prog.follows .mixedOrders = true := by kernel_rfl
/-- loop.example/g00218/laws.eqTid -/
noncomputable def D36 : Def := { fn := Tryd.f36, code := Tryd.f36.body.getD .skip, ps := [.val K0, .val K0], res := .val .bool, pl := [], L := lookL [] }
noncomputable def E36 (k : Nat) : Ctx := mkCx base []
theorem c36 {G : World → Prop} (k : Nat) : Con Tryd.prog G 36 (D36.fnAt E36 k) := Def.con2 mixed (fun k => TypesOK.mk' types _) (fun k => FnsOK.nil) D36 Tryd.func36 (by kernel_rfl) (fun k => by kernel_rfl) (fx := []) (fun k => rfl) (by kernel_rfl) k
/-- loop.example/g00218/laws.eqMsg -/
noncomputable def D16 : Def := { fn := Tryd.f16, code := Tryd.f16.body.getD .skip, ps := [.val K1, .val K1], res := .val .bool, pl := [], L := lookL [] }
noncomputable def E16 (k : Nat) : Ctx := mkCx base [(36, D36.fnAt E36 k)]
theorem c16 {G : World → Prop} (k : Nat) : Con Tryd.prog G 16 (D16.fnAt E16 k) := Def.con2 mixed (fun k => TypesOK.mk' types _) (fun k => FnsOK.cons (c36 k) (by kernel_rfl) (FnsOK.nil)) D16 Tryd.func16 (by kernel_rfl) (fun k => by kernel_rfl) (fx := []) (fun k => rfl) (by kernel_rfl) k
/-- loop.example/g00218/laws.eqMsgS -/
noncomputable def D21 : Def := { fn := Tryd.f21, code := Tryd.f21.body.getD .skip, ps := [.val (.slice K1), .val (.slice K1)], res := .val .bool, pl := [4], L := lookL [(4, [.val 0 (.slice K1), .val 1 (.slice K1), .val 5 (.int .i64)])] }
noncomputable def E21 (k : Nat) : Ctx := mkCx base [(16, D16.fnAt E16 k)]
theorem c21 {G : World → Prop} (k : Nat) : Con Tryd.prog G 21 (D21.fnAt E21 k) := Def.con2 mixed (fun k => TypesOK.mk' types _) (fun k => FnsOK.cons (c16 k) (by kernel_rfl) (FnsOK.nil)) D21 Tryd.func21 (by kernel_rfl) (fun k => by kernel_rfl) (fx := []) (fun k => rfl) (by kernel_rfl) k
/-- loop.example/g00218/spec.l1In -/
noncomputable def D26 : Def := { fn := Tryd.f26, code := Tryd.f26.body.getD .skip, ps := [.val (.int .i64), .val (.int .i64), .val (.int .i64)], res := .val .bool, pl := [], L := lookL [] }
noncomputable def E26 (k : Nat) : Ctx := mkCx base []
theorem c26 {G : World → Prop} (k : Nat) : Con Tryd.prog G 26 (D26.fnAt E26 k) := Def.con2 mixed (fun k => TypesOK.mk' types _) (fun k => FnsOK.nil) D26 Tryd.func26 (by kernel_rfl) (fun k => by kernel_rfl) (fx := []) (fun k => rfl) (by kernel_rfl) k
/-- loop.example/g00218/spec.l1Tid -/
noncomputable def D29 : Def := { fn := Tryd.f29, code := Tryd.f29.body.getD .skip, ps := [.val K0], res := .val .bool, pl := [], L := lookL [] }
noncomputable def E29 (k : Nat) : Ctx := mkCx base [(26, D26.fnAt E26 k)]
theorem c29 {G : World → Prop} (k : Nat) : Con Tryd.prog G 29 (D29.fnAt E29 k) := Def.con2 mixed (fun k => TypesOK.mk' types _) (fun k => FnsOK.cons (c26 k) (by kernel_rfl) (FnsOK.nil)) D29 Tryd.func29 (by kernel_rfl) (fun k => by kernel_rfl) (fx := []) (fun k => rfl) (by kernel_rfl) k
/-- loop.example/g00218/spec.UnpackTid -/
noncomputable def D48 : Def := { fn := Tryd.f48, code := Tryd.f48.body.getD .skip, ps := [.val (.int .u64)], res := .tup (.pair (.val K0) (.val .bool)), pl := [], L := lookL [] }
noncomputable def E48 (k : Nat) : Ctx := mkCx base [(29, D29.fnAt E29 k)]
theorem c48 {G : World → Prop} (k : Nat) : Con Tryd.prog G 48 (D48.fnAt E48 k) := Def.con2 mixed (fun k => TypesOK.mk' types _) (fun k => FnsOK.cons (c29 k) (by kernel_rfl) (FnsOK.nil)) D48 Tryd.func48 (by kernel_rfl) (fun k => by kernel_rfl) (fx := []) (fun k => rfl) (by kernel_rfl) k
/-- loop.example/g00218/spec.l1Key -/
noncomputable def D27 : Def := { fn := Tryd.f27, code := Tryd.f27.body.getD .skip, ps := [.val .str], res := .val .bool, pl := [2], L := lookL [(2, [.val 0 .str, .val 3 (.int .i64)])] }
noncomputable def E27 (k : Nat) : Ctx := mkCx base [(26, D26.fnAt E26 k)]
theorem c27 {G : World → Prop} (k : Nat) : Con Tryd.prog G 27 (D27.fnAt E27 k) := Def.con2 mixed (fun k => TypesOK.mk' types _) (fun k => FnsOK.cons (c26 k) (by kernel_rfl) (FnsOK.nil)) D27 Tryd.func27 (by kernel_rfl) (fun k => by kernel_rfl) (fx := []) (fun k => rfl) (by kernel_rfl) k
/-- loop.example/g00218/spec.l1Value -/
noncomputable def D28 : Def := { fn := Tryd.f28, code := Tryd.f28.body.getD .skip, ps := [.val .str], res := .val .bool, pl := [2], L := lookL [(2, [.val 0 .str, .val 3 (.int .i64)])] }
noncomputable def E28 (k : Nat) : Ctx := mkCx base []
theorem c28 {G : World → Prop} (k : Nat) : Con Tryd.prog G 28 (D28.fnAt E28 k) := Def.con2 mixed (fun k => TypesOK.mk' types _) (fun k => FnsOK.nil) D28 Tryd.func28 (by kernel_rfl) (fun k => by kernel_rfl) (fx := []) (fun k => rfl) (by kernel_rfl) k
/-- loop.example/g00218/spec.GoodMsg -/
noncomputable def D9 : Def := { fn := Tryd.f9, code := Tryd.f9.body.getD .skip, ps := [.val K1], res := .val .bool, pl := [], L := lookL [] }
noncomputable def E9 (k : Nat) : Ctx := mkCx base [(26, D26.fnAt E26 k), (27, D27.fnAt E27 k), (28, D28.fnAt E28 k), (29, D29.fnAt E29 k)]
theorem c9 {G : World → Prop} (k : Nat) : Con Tryd.prog G 9 (D9.fnAt E9 k) := Def.con2 mixed (fun k => TypesOK.mk' types _) (fun k => FnsOK.cons (c26 k) (by kernel_rfl) (FnsOK.cons (c27 k) (by kernel_rfl) (FnsOK.cons (c28 k) (by kernel_rfl) (FnsOK.cons (c29 k) (by kernel_rfl) (FnsOK.nil))))) D9 Tryd.func9 (by kernel_rfl) (fun k => by kernel_rfl) (fx := []) (fun k => rfl) (by kernel_rfl) k
/-- loop.example/g00218/spec.l1Read -/
noncomputable def D34 : Def := { fn := Tryd.f34, code := Tryd.f34.body.getD .skip, ps := [.val .str], res := .tup (.pair (.val K1) (.val (.int .i64))), pl := [5], L := lookL [(5, [.val 0 .str, .var 2 K1, .val 4 (.int .u64), .val 5 (.int .i64)])] }
noncomputable def E34 (k : Nat) : Ctx := mkCx base [(48, D48.fnAt E48 k), (9, D9.fnAt E9 k)]
theorem c34 {G : World → Prop} (k : Nat) : Con Tryd.prog G 34 (D34.fnAt E34 k) := Def.con2 mixed (fun k => TypesOK.mk' types _) (fun k => FnsOK.cons (c48 k) (by kernel_rfl) (FnsOK.cons (c9 k) (by kernel_rfl) (FnsOK.nil))) D34 Tryd.func34 (by kernel_rfl) (fun k => by kernel_rfl) (fx := []) (fun k => rfl) (by kernel_rfl) k
/-- loop.example/g00218/spec.ReadMsgs -/
noncomputable def D22 : Def := { fn := Tryd.f22, code := Tryd.f22.body.getD .skip, ps := [.val .str], res := .tup (.pair (.own 30 K1) (.val .bool)), pl := [2], L := lookL [(2, [.val 0 .str, .own 4 30 K1])] }
noncomputable def E22 (k : Nat) : Ctx := mkCx base [(34, D34.fnAt E34 k)]
theorem c22 {G : World → Prop} (k : Nat) : Con Tryd.prog G 22 (D22.fnAt E22 k) := Def.con2 mixed (fun k => TypesOK.mk' types _) (fun k => FnsOK.cons (c34 k) (by kernel_rfl) (FnsOK.nil)) D22 Tryd.func22 (by kernel_rfl) (fun k => by kernel_rfl) (fx := []) (fun k => rfl) (by kernel_rfl) k
/-- loop.example/g00218/impl.in -/
noncomputable def D40 : Def := { fn := Tryd.f40, code := Tryd.f40.body.getD .skip, ps := [.val (.int .i64), .val (.int .i64), .val (.int .i64)], res := .val .bool, pl := [], L := lookL [] }
noncomputable def E40 (k : Nat) : Ctx := mkCx base []
theorem c40 {G : World → Prop} (k : Nat) : Con Tryd.prog G 40 (D40.fnAt E40 k) := Def.con2 mixed (fun k => TypesOK.mk' types _) (fun k => FnsOK.nil) D40 Tryd.func40 (by kernel_rfl) (fun k => by kernel_rfl) (fx := []) (fun k => rfl) (by kernel_rfl) k
/-- loop.example/g00218/impl.isKey -/
noncomputable def D41 : Def := { fn := Tryd.f41, code := Tryd.f41.body.getD .skip, ps := [.val .str], res := .val .bool, pl := [], L := lookL [] }
noncomputable def E41 (k : Nat) : Ctx := mkCx base [(53, ⟨[.val .str, .val .str], .val .str, fun v => MapW.strings_Trim.f v.1 v.2.1⟩)]
theorem c41 {G : World → Prop} (k : Nat) : Con Tryd.prog G 41 (D41.fnAt E41 k) := Def.con2 mixed (fun k => TypesOK.mk' types _) (fun k => FnsOK.cons (Con.text2 MapW.strings_Trim.f MapW.strings_Trim.calls) (by kernel_rfl) (FnsOK.nil)) D41 Tryd.func41 (by kernel_rfl) (fun k => by kernel_rfl) (fx := []) (fun k => rfl) (by kernel_rfl) k
/-- loop.example/g00218/impl.isValue -/
noncomputable def D42 : Def := { fn := Tryd.f42, code := Tryd.f42.body.getD .skip, ps := [.val .str], res := .val .bool, pl := [2], L := lookL [(2, [.val 0 .str, .val 5 (.int .i64), .val 6 (.int .i64)])] }
noncomputable def E42 (k : Nat) : Ctx := mkCx base []
theorem c42 {G : World → Prop} (k : Nat) : Con Tryd.prog G 42 (D42.fnAt E42 k) := Def.con2 mixed (fun k => TypesOK.mk' types _) (fun k => FnsOK.nil) D42 Tryd.func42 (by kernel_rfl) (fun k => by kernel_rfl) (fx := []) (fun k => rfl) (by kernel_rfl) k
/-- loop.example/g00218/impl.isTid -/
noncomputable def D43 : Def := { fn := Tryd.f43, code := Tryd.f43.body.getD .skip, ps := [.val K0], res := .val .bool, pl := [], L := lookL [] }
noncomputable def E43 (k : Nat) : Ctx := mkCx base [(40, D40.fnAt E40 k)]
theorem c43 {G : World → Prop} (k : Nat) : Con Tryd.prog G 43 (D43.fnAt E43 k) := Def.con2 mixed (fun k => TypesOK.mk' types _) (fun k => FnsOK.cons (c40 k) (by kernel_rfl) (FnsOK.nil)) D43 Tryd.func43 (by kernel_rfl) (fun k => by kernel_rfl) (fx := []) (fun k => rfl) (by kernel_rfl) k
/-- loop.example/g00218/impl.isMsg -/
noncomputable def D31 : Def := { fn := Tryd.f31, code := Tryd.f31.body.getD .skip, ps := [.val K1], res := .val .bool, pl := [], L := lookL [] }
noncomputable def E31 (k : Nat) : Ctx := mkCx base [(40, D40.fnAt E40 k), (41, D41.fnAt E41 k), (42, D42.fnAt E42 k), (43, D43.fnAt E43 k)]
theorem c31 {G : World → Prop} (k : Nat) : Con Tryd.prog G 31 (D31.fnAt E31 k) := Def.con2 mixed (fun k => TypesOK.mk' types _) (fun k => FnsOK.cons (c40 k) (by kernel_rfl) (FnsOK.cons (c41 k) (by kernel_rfl) (FnsOK.cons (c42 k) (by kernel_rfl) (FnsOK.cons (c43 k) (by kernel_rfl) (FnsOK.nil))))) D31 Tryd.func31 (by kernel_rfl) (fun k => by kernel_rfl) (fx := []) (fun k => rfl) (by kernel_rfl) k
/-- loop.example/g00218/impl.UnpackTid -/
noncomputable def D49 : Def := { fn := Tryd.f49, code := Tryd.f49.body.getD .skip, ps := [.val (.int .u64)], res := .tup (.pair (.val K0) (.val .bool)), pl := [], L := lookL [] }
noncomputable def E49 (k : Nat) : Ctx := mkCx base []
theorem c49 {G : World → Prop} (k : Nat) : Con Tryd.prog G 49 (D49.fnAt E49 k) := Def.con2 mixed (fun k => TypesOK.mk' types _) (fun k => FnsOK.nil) D49 Tryd.func49 (by kernel_rfl) (fun k => by kernel_rfl) (fx := []) (fun k => rfl) (by kernel_rfl) k
/-- (encoding/binary.bigEndian).Uint64 -/
noncomputable def D50 : Def := { fn := Tryd.f50, code := Tryd.f50.body.getD .skip, ps := [.val K2, .val (.slice (.int .u8))], res := .val (.int .u64), pl := [], L := lookL [] }
noncomputable def E50 (k : Nat) : Ctx := mkCx base []
theorem c50 {G : World → Prop} (k : Nat) : Con Tryd.prog G 50 (D50.fnAt E50 k) := Def.con2 mixed (fun k => TypesOK.mk' types _) (fun k => FnsOK.nil) D50 Tryd.func50 (by kernel_rfl) (fun k => by kernel_rfl) (fx := []) (fun k => rfl) (by kernel_rfl) k
/-- (encoding/binary.bigEndian).Uint16 -/
noncomputable def D51 : Def := { fn := Tryd.f51, code := Tryd.f51.body.getD .skip, ps := [.val K2, .val (.slice (.int .u8))], res := .val (.int .u16), pl := [], L := lookL [] }
noncomputable def E51 (k : Nat) : Ctx := mkCx base []
theorem c51 {G : World → Prop} (k : Nat) : Con Tryd.prog G 51 (D51.fnAt E51 k) := Def.con2 mixed (fun k => TypesOK.mk' types _) (fun k => FnsOK.nil) D51 Tryd.func51 (by kernel_rfl) (fun k => by kernel_rfl) (fx := []) (fun k => rfl) (by kernel_rfl) k
/-- loop.example/g00218/impl.readMsg -/
noncomputable def D35 : Def := { fn := Tryd.f35, code := Tryd.f35.body.getD .skip, ps := [.val .str], res := .tup (.pair (.val K1) (.val (.int .i64))), pl := [], L := lookL [] }
noncomputable def E35 (k : Nat) : Ctx := mkCx base [(31, D31.fnAt E31 k), (49, D49.fnAt E49 k), (50, D50.fnAt E50 k), (51, D51.fnAt E51 k)]
theorem c35 {G : World → Prop} (k : Nat) : Con Tryd.prog G 35 (D35.fnAt E35 k) := Def.con2 mixed (fun k => TypesOK.mk' types _) (fun k => FnsOK.cons (c31 k) (by kernel_rfl) (FnsOK.cons (c49 k) (by kernel_rfl) (FnsOK.cons (c50 k) (by kernel_rfl) (FnsOK.cons (c51 k) (by kernel_rfl) (FnsOK.nil))))) D35 Tryd.func35 (by kernel_rfl) (fun k => by kernel_rfl) (fx := []) (fun k => rfl) (by kernel_rfl) k
/-- loop.example/g00218/impl.ReadMsgs -/
noncomputable def D23 : Def := { fn := Tryd.f23, code := Tryd.f23.body.getD .skip, ps := [.val .str], res := .tup (.pair (.own 30 K1) (.val .bool)), pl := [2], L := lookL [(2, [.val 0 .str, .own 4 30 K1])] }
noncomputable def E23 (k : Nat) : Ctx := mkCx base [(35, D35.fnAt E35 k)]
theorem c23 {G : World → Prop} (k : Nat) : Con Tryd.prog G 23 (D23.fnAt E23 k) := Def.con2 mixed (fun k => TypesOK.mk' types _) (fun k => FnsOK.cons (c35 k) (by kernel_rfl) (FnsOK.nil)) D23 Tryd.func23 (by kernel_rfl) (fun k => by kernel_rfl) (fx := []) (fun k => rfl) (by kernel_rfl) k
/-- loop.example/g00218/laws.markText -/
noncomputable def D39 : Def := { fn := Tryd.f39, code := Tryd.f39.body.getD .skip, ps := [.val (.int .i64)], res := .val .str, pl := [4], L := lookL [(4, [.val 0 (.int .i64), .val 3 .str])] }
noncomputable def E39 (k : Nat) : Ctx := mkCx base []
theorem c39 {G : World → Prop} (k : Nat) : Con Tryd.prog G 39 (D39.fnAt E39 k) := Def.con2 mixed (fun k => TypesOK.mk' types _) (fun k => FnsOK.nil) D39 Tryd.func39 (by kernel_rfl) (fun k => by kernel_rfl) (fx := []) (fun k => rfl) (by kernel_rfl) k
/-- loop.example/g00218/laws.markMsgS -/
noncomputable def D24 : Def := { fn := Tryd.f24, code := Tryd.f24.body.getD .skip, ps := [.own 30 K1, .val (.int .i64)], res := .back 0 30 K1 (.val (.int .i64)), pl := [2], L := lookL [(2, [.own 0 30 K1, .val 1 (.int .i64), .val 5 (.int .i64)])] }
noncomputable def E24 (k : Nat) : Ctx := mkCx (fxCx base [0]) [(39, D39.fnAt E39 k)]
theorem c24 {G : World → Prop} (k : Nat) : Con Tryd.prog G 24 (D24.fnAt E24 k) := Def.con2 mixed (fun k => TypesOK.mk' (types.fx [0]) _) (fun k => FnsOK.cons (c39 k) (by kernel_rfl) (FnsOK.nil)) D24 Tryd.func24 (by kernel_rfl) (fun k => by kernel_rfl) (fx := [0]) (fun k => rfl) (by kernel_rfl) k
/-- loop.example/g00218/laws.heldMsgS -/
noncomputable def D25 : Def := { fn := Tryd.f25, code := Tryd.f25.body.getD .skip, ps := [.val (.slice K1), .val (.int .i64)], res := .val (.int .i64), pl := [2], L := lookL [(2, [.val 0 (.slice K1), .val 1 (.int .i64), .val 5 (.int .i64)])] }
noncomputable def E25 (k : Nat) : Ctx := mkCx base [(39, D39.fnAt E39 k)]
theorem c25 {G : World → Prop} (k : Nat) : Con Tryd.prog G 25 (D25.fnAt E25 k) := Def.con2 mixed (fun k => TypesOK.mk' types _) (fun k => FnsOK.cons (c39 k) (by kernel_rfl) (FnsOK.nil)) D25 Tryd.func25 (by kernel_rfl) (fun k => by kernel_rfl) (fx := []) (fun k => rfl) (by kernel_rfl) k
/-- loop.example/g00218/laws.FnExactReadMsgs -/
noncomputable def D7 : Def := { fn := Tryd.f7, code := Tryd.f7.body.getD .skip, ps := [.val .str], res := .val .bool, pl := [], L := lookL [] }
noncomputable def E7 (k : Nat) : Ctx := mkCx base [(21, D21.fnAt E21 k), (22, D22.fnAt E22 k), (23, D23.fnAt E23 k), (24, D24.fnAt E24 k), (25, D25.fnAt E25 k)]
theorem c7 {G : World → Prop} (k : Nat) : Con Tryd.prog G 7 (D7.fnAt E7 k) := Def.con2 mixed (fun k => TypesOK.mk' types _) (fun k => FnsOK.cons (c21 k) (by kernel_rfl) (FnsOK.cons (c22 k) (by kernel_rfl) (FnsOK.cons (c23 k) (by kernel_rfl) (FnsOK.cons (c24 k) (by kernel_rfl) (FnsOK.cons (c25 k) (by kernel_rfl) (FnsOK.nil)))))) D7 Tryd.func7 (by kernel_rfl) (fun k => by kernel_rfl) (fx := []) (fun k => rfl) (by kernel_rfl) k
end Go.Proofs.YtmfcblbpicbhoaaDoor.Fms
