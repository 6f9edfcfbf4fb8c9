/- FnExactMsgsBytes, by the functional machine. -/
import Derived.Test.YtmfcblbpicbhoaaDoorTrim
import Derived.Test.YtmfcblbpicbhoaaDoorFmZ
import Derived.Test.YtmfcblbpicbhoaaDoorFmGv
import Derived.Test.YtmfcblbpicbhoaaDoorProg
set_option maxRecDepth 100000
set_option linter.unusedVariables false
open Go Go.Fm
namespace Go.Proofs.YtmfcblbpicbhoaaDoor.Fms
abbrev K2 : Kind := .struct .unit
abbrev K1 : Kind := .struct (.pair (.int .i64) (.pair (.int .i64) .bool))
abbrev K3 : Kind := .struct (.pair (.int .i64) (.pair (.int .i64) (.pair .bool (.int .u8))))
abbrev K0 : Kind := .struct (.pair (.int .i64) (.pair (.int .i64) (.pair (.int .i64) (.pair (.int .i64) (.pair .str (.pair .str K1))))))
def table : List TRow := [⟨2, (.int .i64), 0, 0, false, none⟩, ⟨3, (.int .i64), 0, 0, false, none⟩, ⟨4, .bool, 0, 0, false, none⟩, ⟨5, (.int .u8), 0, 0, false, none⟩, ⟨6, (.int .u8), 0, 0, false, none⟩, ⟨7, K3, 0, 0, true, none⟩, ⟨8, K3, 0, 0, true, none⟩, ⟨9, .str, 0, 0, false, none⟩, ⟨22, K1, 0, 0, true, none⟩, ⟨23, K1, 0, 0, true, none⟩, ⟨24, K0, 0, 0, true, none⟩, ⟨25, K0, 0, 0, true, none⟩, ⟨28, K1, 0, 0, true, none⟩, ⟨29, K0, 0, 0, true, none⟩, ⟨30, K0, 0, 0, true, none⟩, ⟨39, (.slice K0), 1599289640401, 25, false, none⟩, ⟨42, (.slice K0), 1599289640401, 30, false, none⟩, ⟨56, (.int .u64), 0, 0, false, none⟩, ⟨57, (.slice (.int .u8)), 140737488355328, 5, false, none⟩, ⟨58, (.int .u64), 0, 0, false, none⟩, ⟨60, K2, 0, 0, true, none⟩, ⟨61, K2, 0, 0, true, none⟩, ⟨63, (.int .u16), 0, 0, false, none⟩]
def base : Ctx := ctxOf table
theorem types : TypesOK Tryd.prog base := typesOK_of (by kernel_rfl)
theorem mixed : Tryd.prog.follows .mixedOrders = true := by kernel_rfl
/-- loop.example/g00218/laws.szMsg -/
noncomputable def D8 : Def := { fn := Tryd.f8, code := Tryd.f8.body.getD .skip, ps := [.val K0, .val (.int .i64)], res := .val (.int .i64), pl := [], L := lookL [] }
noncomputable def E8 (k : Nat) : Ctx := mkCx base []
theorem c8 {G : World → Prop} (k : Nat) : Con Tryd.prog G 8 (D8.fnAt E8 k) := Def.con2 mixed (fun k => TypesOK.mk' types _) (fun k => FnsOK.nil) D8 Tryd.func8 (by kernel_rfl) (fun k => by kernel_rfl) (fx := []) (fun k => rfl) (by kernel_rfl) k
/-- loop.example/g00218/laws.szMsgS -/
noncomputable def D17 : Def := { fn := Tryd.f17, code := Tryd.f17.body.getD .skip, ps := [.val (.slice K0), .val (.int .i64)], res := .val (.int .i64), pl := [5], L := lookL [(5, [.val 0 (.slice K0), .val 1 (.int .i64), .val 5 (.int .i64)])] }
noncomputable def E17 (k : Nat) : Ctx := mkCx base [(8, D8.fnAt E8 k)]
theorem c17 {G : World → Prop} (k : Nat) : Con Tryd.prog G 17 (D17.fnAt E17 k) := Def.con2 mixed (fun k => TypesOK.mk' types _) (fun k => FnsOK.cons (c8 k) (by kernel_rfl) (FnsOK.nil)) D17 Tryd.func17 (by kernel_rfl) (fun k => by kernel_rfl) (fx := []) (fun k => rfl) (by kernel_rfl) k
/-- loop.example/g00218/spec.l1Pack -/
noncomputable def D44 : Def := { fn := Tryd.f44, code := Tryd.f44.body.getD .skip, ps := [.val K1], res := .val (.int .u64), pl := [], L := lookL [] }
noncomputable def E44 (k : Nat) : Ctx := mkCx base []
theorem c44 {G : World → Prop} (k : Nat) : Con Tryd.prog G 44 (D44.fnAt E44 k) := Def.con2 mixed (fun k => TypesOK.mk' types _) (fun k => FnsOK.nil) D44 Tryd.func44 (by kernel_rfl) (fun k => by kernel_rfl) (fx := []) (fun k => rfl) (by kernel_rfl) k
/-- loop.example/g00218/spec.l1Bytes -/
noncomputable def D32 : Def := { fn := Tryd.f32, code := Tryd.f32.body.getD .skip, ps := [.val K0], res := .val .str, pl := [4], L := lookL [(4, [.var 1 K0, .own 3 5 (.int .u8), .val 4 (.int .u64), .val 5 (.int .i64)])] }
noncomputable def E32 (k : Nat) : Ctx := mkCx base [(44, D44.fnAt E44 k)]
theorem c32 {G : World → Prop} (k : Nat) : Con Tryd.prog G 32 (D32.fnAt E32 k) := Def.con2 mixed (fun k => TypesOK.mk' types _) (fun k => FnsOK.cons (c44 k) (by kernel_rfl) (FnsOK.nil)) D32 Tryd.func32 (by kernel_rfl) (fun k => by kernel_rfl) (fx := []) (fun k => rfl) (by kernel_rfl) k
/-- loop.example/g00218/spec.l1In -/
noncomputable def D26 : Def := { fn := Tryd.f26, code := Tryd.f26.body.getD .skip, ps := [.val (.int .i64), .val (.int .i64), .val (.int .i64)], res := .val .bool, pl := [], L := lookL [] }
noncomputable def E26 (k : Nat) : Ctx := mkCx base []
theorem c26 {G : World → Prop} (k : Nat) : Con Tryd.prog G 26 (D26.fnAt E26 k) := Def.con2 mixed (fun k => TypesOK.mk' types _) (fun k => FnsOK.nil) D26 Tryd.func26 (by kernel_rfl) (fun k => by kernel_rfl) (fx := []) (fun k => rfl) (by kernel_rfl) k
/-- loop.example/g00218/spec.l1Key -/
noncomputable def D27 : Def := { fn := Tryd.f27, code := Tryd.f27.body.getD .skip, ps := [.val .str], res := .val .bool, pl := [2], L := lookL [(2, [.val 0 .str, .val 3 (.int .i64)])] }
noncomputable def E27 (k : Nat) : Ctx := mkCx base [(26, D26.fnAt E26 k)]
theorem c27 {G : World → Prop} (k : Nat) : Con Tryd.prog G 27 (D27.fnAt E27 k) := Def.con2 mixed (fun k => TypesOK.mk' types _) (fun k => FnsOK.cons (c26 k) (by kernel_rfl) (FnsOK.nil)) D27 Tryd.func27 (by kernel_rfl) (fun k => by kernel_rfl) (fx := []) (fun k => rfl) (by kernel_rfl) k
/-- loop.example/g00218/spec.l1Value -/
noncomputable def D28 : Def := { fn := Tryd.f28, code := Tryd.f28.body.getD .skip, ps := [.val .str], res := .val .bool, pl := [2], L := lookL [(2, [.val 0 .str, .val 3 (.int .i64)])] }
noncomputable def E28 (k : Nat) : Ctx := mkCx base []
theorem c28 {G : World → Prop} (k : Nat) : Con Tryd.prog G 28 (D28.fnAt E28 k) := Def.con2 mixed (fun k => TypesOK.mk' types _) (fun k => FnsOK.nil) D28 Tryd.func28 (by kernel_rfl) (fun k => by kernel_rfl) (fx := []) (fun k => rfl) (by kernel_rfl) k
/-- loop.example/g00218/spec.l1Tid -/
noncomputable def D29 : Def := { fn := Tryd.f29, code := Tryd.f29.body.getD .skip, ps := [.val K1], res := .val .bool, pl := [], L := lookL [] }
noncomputable def E29 (k : Nat) : Ctx := mkCx base [(26, D26.fnAt E26 k)]
theorem c29 {G : World → Prop} (k : Nat) : Con Tryd.prog G 29 (D29.fnAt E29 k) := Def.con2 mixed (fun k => TypesOK.mk' types _) (fun k => FnsOK.cons (c26 k) (by kernel_rfl) (FnsOK.nil)) D29 Tryd.func29 (by kernel_rfl) (fun k => by kernel_rfl) (fx := []) (fun k => rfl) (by kernel_rfl) k
/-- loop.example/g00218/spec.GoodMsg -/
noncomputable def D9 : Def := { fn := Tryd.f9, code := Tryd.f9.body.getD .skip, ps := [.val K0], res := .val .bool, pl := [], L := lookL [] }
noncomputable def E9 (k : Nat) : Ctx := mkCx base [(26, D26.fnAt E26 k), (27, D27.fnAt E27 k), (28, D28.fnAt E28 k), (29, D29.fnAt E29 k)]
theorem c9 {G : World → Prop} (k : Nat) : Con Tryd.prog G 9 (D9.fnAt E9 k) := Def.con2 mixed (fun k => TypesOK.mk' types _) (fun k => FnsOK.cons (c26 k) (by kernel_rfl) (FnsOK.cons (c27 k) (by kernel_rfl) (FnsOK.cons (c28 k) (by kernel_rfl) (FnsOK.cons (c29 k) (by kernel_rfl) (FnsOK.nil))))) D9 Tryd.func9 (by kernel_rfl) (fun k => by kernel_rfl) (fx := []) (fun k => rfl) (by kernel_rfl) k
/-- loop.example/g00218/spec.MsgsBytes -/
noncomputable def D18 : Def := { fn := Tryd.f18, code := Tryd.f18.body.getD .skip, ps := [.val (.slice K0)], res := .tup (.pair (.val .str) (.val .bool)), pl := [5], L := lookL [(5, [.val 4 .str, .val 10 (.slice K0), .val 11 (.int .i64), .val 12 (.int .i64)])] }
noncomputable def E18 (k : Nat) : Ctx := mkCx base [(32, D32.fnAt E32 k), (9, D9.fnAt E9 k)]
theorem c18 {G : World → Prop} (k : Nat) : Con Tryd.prog G 18 (D18.fnAt E18 k) := Def.con2 mixed (fun k => TypesOK.mk' types _) (fun k => FnsOK.cons (c32 k) (by kernel_rfl) (FnsOK.cons (c9 k) (by kernel_rfl) (FnsOK.nil))) D18 Tryd.func18 (by kernel_rfl) (fun k => by kernel_rfl) (fx := []) (fun k => rfl) (by kernel_rfl) k
/-- loop.example/g00218/laws.toTid -/
noncomputable def D30 : Def := { fn := Tryd.f30, code := Tryd.f30.body.getD .skip, ps := [.val K1], res := .val K1, pl := [], L := lookL [] }
noncomputable def E30 (k : Nat) : Ctx := mkCx base []
theorem c30 {G : World → Prop} (k : Nat) : Con Tryd.prog G 30 (D30.fnAt E30 k) := Def.con2 mixed (fun k => TypesOK.mk' types _) (fun k => FnsOK.nil) D30 Tryd.func30 (by kernel_rfl) (fun k => by kernel_rfl) (fx := []) (fun k => rfl) (by kernel_rfl) k
/-- loop.example/g00218/laws.toMsg -/
noncomputable def D10 : Def := { fn := Tryd.f10, code := Tryd.f10.body.getD .skip, ps := [.val K0], res := .val K0, pl := [], L := lookL [] }
noncomputable def E10 (k : Nat) : Ctx := mkCx base [(30, D30.fnAt E30 k)]
theorem c10 {G : World → Prop} (k : Nat) : Con Tryd.prog G 10 (D10.fnAt E10 k) := Def.con2 mixed (fun k => TypesOK.mk' types _) (fun k => FnsOK.cons (c30 k) (by kernel_rfl) (FnsOK.nil)) D10 Tryd.func10 (by kernel_rfl) (fun k => by kernel_rfl) (fx := []) (fun k => rfl) (by kernel_rfl) k
/-- loop.example/g00218/laws.toMsgS -/
noncomputable def D19 : Def := { fn := Tryd.f19, code := Tryd.f19.body.getD .skip, ps := [.val (.slice K0)], res := .own 30 K0, pl := [3], L := lookL [(3, [.val 0 (.slice K0), .own 3 30 K0, .val 4 (.int .i64)])] }
noncomputable def E19 (k : Nat) : Ctx := mkCx base [(10, D10.fnAt E10 k)]
theorem c19 {G : World → Prop} (k : Nat) : Con Tryd.prog G 19 (D19.fnAt E19 k) := Def.con2 mixed (fun k => TypesOK.mk' types _) (fun k => FnsOK.cons (c10 k) (by kernel_rfl) (FnsOK.nil)) D19 Tryd.func19 (by kernel_rfl) (fun k => by kernel_rfl) (fx := []) (fun k => rfl) (by kernel_rfl) k
/-- (encoding/binary.bigEndian).AppendUint16 -/
noncomputable def D45 : Def := { fn := Tryd.f45, code := Tryd.f45.body.getD .skip, ps := [.val K2, .own 5 (.int .u8), .val (.int .u16)], res := .own 5 (.int .u8), pl := [], L := lookL [] }
noncomputable def E45 (k : Nat) : Ctx := mkCx base []
theorem c45 {G : World → Prop} (k : Nat) : Con Tryd.prog G 45 (D45.fnAt E45 k) := Def.con2 mixed (fun k => TypesOK.mk' types _) (fun k => FnsOK.nil) D45 Tryd.func45 (by kernel_rfl) (fun k => by kernel_rfl) (fx := []) (fun k => rfl) (by kernel_rfl) k
/-- (encoding/binary.bigEndian).AppendUint64 -/
noncomputable def D46 : Def := { fn := Tryd.f46, code := Tryd.f46.body.getD .skip, ps := [.val K2, .own 5 (.int .u8), .val (.int .u64)], res := .own 5 (.int .u8), pl := [], L := lookL [] }
noncomputable def E46 (k : Nat) : Ctx := mkCx base []
theorem c46 {G : World → Prop} (k : Nat) : Con Tryd.prog G 46 (D46.fnAt E46 k) := Def.con2 mixed (fun k => TypesOK.mk' types _) (fun k => FnsOK.nil) D46 Tryd.func46 (by kernel_rfl) (fun k => by kernel_rfl) (fx := []) (fun k => rfl) (by kernel_rfl) k
/-- loop.example/g00218/impl.packTid -/
noncomputable def D47 : Def := { fn := Tryd.f47, code := Tryd.f47.body.getD .skip, ps := [.val K1], res := .val (.int .u64), pl := [], L := lookL [] }
noncomputable def E47 (k : Nat) : Ctx := mkCx base []
theorem c47 {G : World → Prop} (k : Nat) : Con Tryd.prog G 47 (D47.fnAt E47 k) := Def.con2 mixed (fun k => TypesOK.mk' types _) (fun k => FnsOK.nil) D47 Tryd.func47 (by kernel_rfl) (fun k => by kernel_rfl) (fx := []) (fun k => rfl) (by kernel_rfl) k
/-- loop.example/g00218/impl.msgBytes -/
noncomputable def D33 : Def := { fn := Tryd.f33, code := Tryd.f33.body.getD .skip, ps := [.val K0], res := .val .str, pl := [], L := lookL [] }
noncomputable def E33 (k : Nat) : Ctx := mkCx base [(45, D45.fnAt E45 k), (46, D46.fnAt E46 k), (47, D47.fnAt E47 k)]
theorem c33 {G : World → Prop} (k : Nat) : Con Tryd.prog G 33 (D33.fnAt E33 k) := Def.con2 mixed (fun k => TypesOK.mk' types _) (fun k => FnsOK.cons (c45 k) (by kernel_rfl) (FnsOK.cons (c46 k) (by kernel_rfl) (FnsOK.cons (c47 k) (by kernel_rfl) (FnsOK.nil)))) D33 Tryd.func33 (by kernel_rfl) (fun k => by kernel_rfl) (fx := []) (fun k => rfl) (by kernel_rfl) k
/-- loop.example/g00218/impl.in -/
noncomputable def D40 : Def := { fn := Tryd.f40, code := Tryd.f40.body.getD .skip, ps := [.val (.int .i64), .val (.int .i64), .val (.int .i64)], res := .val .bool, pl := [], L := lookL [] }
noncomputable def E40 (k : Nat) : Ctx := mkCx base []
theorem c40 {G : World → Prop} (k : Nat) : Con Tryd.prog G 40 (D40.fnAt E40 k) := Def.con2 mixed (fun k => TypesOK.mk' types _) (fun k => FnsOK.nil) D40 Tryd.func40 (by kernel_rfl) (fun k => by kernel_rfl) (fx := []) (fun k => rfl) (by kernel_rfl) k
/-- loop.example/g00218/impl.isKey -/
noncomputable def D41 : Def := { fn := Tryd.f41, code := Tryd.f41.body.getD .skip, ps := [.val .str], res := .val .bool, pl := [], L := lookL [] }
noncomputable def E41 (k : Nat) : Ctx := mkCx base [(53, ⟨[.val .str, .val .str], .val .str, fun v => MapW.strings_Trim.f v.1 v.2.1⟩)]
theorem c41 {G : World → Prop} (k : Nat) : Con Tryd.prog G 41 (D41.fnAt E41 k) := Def.con2 mixed (fun k => TypesOK.mk' types _) (fun k => FnsOK.cons (Con.text2 MapW.strings_Trim.f MapW.strings_Trim.calls) (by kernel_rfl) (FnsOK.nil)) D41 Tryd.func41 (by kernel_rfl) (fun k => by kernel_rfl) (fx := []) (fun k => rfl) (by kernel_rfl) k
/-- loop.example/g00218/impl.isValue -/
noncomputable def D42 : Def := { fn := Tryd.f42, code := Tryd.f42.body.getD .skip, ps := [.val .str], res := .val .bool, pl := [2], L := lookL [(2, [.val 0 .str, .val 5 (.int .i64), .val 6 (.int .i64)])] }
noncomputable def E42 (k : Nat) : Ctx := mkCx base []
theorem c42 {G : World → Prop} (k : Nat) : Con Tryd.prog G 42 (D42.fnAt E42 k) := Def.con2 mixed (fun k => TypesOK.mk' types _) (fun k => FnsOK.nil) D42 Tryd.func42 (by kernel_rfl) (fun k => by kernel_rfl) (fx := []) (fun k => rfl) (by kernel_rfl) k
/-- loop.example/g00218/impl.isTid -/
noncomputable def D43 : Def := { fn := Tryd.f43, code := Tryd.f43.body.getD .skip, ps := [.val K1], res := .val .bool, pl := [], L := lookL [] }
noncomputable def E43 (k : Nat) : Ctx := mkCx base [(40, D40.fnAt E40 k)]
theorem c43 {G : World → Prop} (k : Nat) : Con Tryd.prog G 43 (D43.fnAt E43 k) := Def.con2 mixed (fun k => TypesOK.mk' types _) (fun k => FnsOK.cons (c40 k) (by kernel_rfl) (FnsOK.nil)) D43 Tryd.func43 (by kernel_rfl) (fun k => by kernel_rfl) (fx := []) (fun k => rfl) (by kernel_rfl) k
/-- loop.example/g00218/impl.isMsg -/
noncomputable def D31 : Def := { fn := Tryd.f31, code := Tryd.f31.body.getD .skip, ps := [.val K0], res := .val .bool, pl := [], L := lookL [] }
noncomputable def E31 (k : Nat) : Ctx := mkCx base [(40, D40.fnAt E40 k), (41, D41.fnAt E41 k), (42, D42.fnAt E42 k), (43, D43.fnAt E43 k)]
theorem c31 {G : World → Prop} (k : Nat) : Con Tryd.prog G 31 (D31.fnAt E31 k) := Def.con2 mixed (fun k => TypesOK.mk' types _) (fun k => FnsOK.cons (c40 k) (by kernel_rfl) (FnsOK.cons (c41 k) (by kernel_rfl) (FnsOK.cons (c42 k) (by kernel_rfl) (FnsOK.cons (c43 k) (by kernel_rfl) (FnsOK.nil))))) D31 Tryd.func31 (by kernel_rfl) (fun k => by kernel_rfl) (fx := []) (fun k => rfl) (by kernel_rfl) k
/-- loop.example/g00218/impl.MsgsBytes$1 -/
noncomputable def D38 : Def := { fn := Tryd.f38, code := Tryd.f38.body.getD .skip, ps := [.val K0], res := .val .bool, pl := [], L := lookL [] }
noncomputable def E38 (k : Nat) : Ctx := mkCx base [(31, D31.fnAt E31 k)]
theorem c38 {G : World → Prop} (k : Nat) : Con Tryd.prog G 38 (D38.fnAt E38 k) := Def.con2 mixed (fun k => TypesOK.mk' types _) (fun k => FnsOK.cons (c31 k) (by kernel_rfl) (FnsOK.nil)) D38 Tryd.func38 (by kernel_rfl) (fun k => by kernel_rfl) (fx := []) (fun k => rfl) (by kernel_rfl) k
/-- slices.IndexFunc[[]loop.example/g00218/impl.Msg,loop.example/g00218/impl.Msg] -/
noncomputable def D52 : Def := { fn := Tryd.f52, code := Tryd.f52.body.getD .skip, ps := [.val (.slice K0), .val (.clo 38 .unit)], res := .val (.int .i64), pl := [2], L := lookL [(2, [.val 0 (.slice K0), .val 1 (.clo 38 .unit), .val 7 (.int .i64), .val 8 (.int .i64)])] }
noncomputable def E52 (k : Nat) : Ctx := mkCx base [(38, D38.fnAt E38 k)]
theorem c52 {G : World → Prop} (k : Nat) : Con Tryd.prog G 52 (D52.fnAt E52 k) := Def.con2 mixed (fun k => TypesOK.mk' types _) (fun k => FnsOK.cons (c38 k) (by kernel_rfl) (FnsOK.nil)) D52 Tryd.func52 (by kernel_rfl) (fun k => by kernel_rfl) (fx := []) (fun k => rfl) (by kernel_rfl) k
/-- slices.ContainsFunc[[]loop.example/g00218/impl.Msg,loop.example/g00218/impl.Msg] -/
noncomputable def D37 : Def := { fn := Tryd.f37, code := Tryd.f37.body.getD .skip, ps := [.val (.slice K0), .val (.clo 38 .unit)], res := .val .bool, pl := [], L := lookL [] }
noncomputable def E37 (k : Nat) : Ctx := mkCx base [(52, D52.fnAt E52 k)]
theorem c37 {G : World → Prop} (k : Nat) : Con Tryd.prog G 37 (D37.fnAt E37 k) := Def.con2 mixed (fun k => TypesOK.mk' types _) (fun k => FnsOK.cons (c52 k) (by kernel_rfl) (FnsOK.nil)) D37 Tryd.func37 (by kernel_rfl) (fun k => by kernel_rfl) (fx := []) (fun k => rfl) (by kernel_rfl) k
/-- loop.example/g00218/impl.MsgsBytes -/
noncomputable def D20 : Def := { fn := Tryd.f20, code := Tryd.f20.body.getD .skip, ps := [.val (.slice K0)], res := .tup (.pair (.val .str) (.val .bool)), pl := [5], L := lookL [(5, [.val 4 .str, .val 14 (.slice K0), .val 15 (.int .i64), .val 16 (.int .i64)])] }
noncomputable def E20 (k : Nat) : Ctx := mkCx base [(33, D33.fnAt E33 k), (37, D37.fnAt E37 k)]
theorem c20 {G : World → Prop} (k : Nat) : Con Tryd.prog G 20 (D20.fnAt E20 k) := Def.con2 mixed (fun k => TypesOK.mk' types _) (fun k => FnsOK.cons (c33 k) (by kernel_rfl) (FnsOK.cons (c37 k) (by kernel_rfl) (FnsOK.nil))) D20 Tryd.func20 (by kernel_rfl) (fun k => by kernel_rfl) (fx := []) (fun k => rfl) (by kernel_rfl) k
/-- loop.example/g00218/laws.eqTid -/
noncomputable def D36 : Def := { fn := Tryd.f36, code := Tryd.f36.body.getD .skip, ps := [.val K1, .val K1], res := .val .bool, pl := [], L := lookL [] }
noncomputable def E36 (k : Nat) : Ctx := mkCx base []
theorem c36 {G : World → Prop} (k : Nat) : Con Tryd.prog G 36 (D36.fnAt E36 k) := Def.con2 mixed (fun k => TypesOK.mk' types _) (fun k => FnsOK.nil) D36 Tryd.func36 (by kernel_rfl) (fun k => by kernel_rfl) (fx := []) (fun k => rfl) (by kernel_rfl) k
/-- loop.example/g00218/laws.eqMsg -/
noncomputable def D16 : Def := { fn := Tryd.f16, code := Tryd.f16.body.getD .skip, ps := [.val K0, .val K0], res := .val .bool, pl := [], L := lookL [] }
noncomputable def E16 (k : Nat) : Ctx := mkCx base [(36, D36.fnAt E36 k)]
theorem c16 {G : World → Prop} (k : Nat) : Con Tryd.prog G 16 (D16.fnAt E16 k) := Def.con2 mixed (fun k => TypesOK.mk' types _) (fun k => FnsOK.cons (c36 k) (by kernel_rfl) (FnsOK.nil)) D16 Tryd.func16 (by kernel_rfl) (fun k => by kernel_rfl) (fx := []) (fun k => rfl) (by kernel_rfl) k
/-- loop.example/g00218/laws.eqMsgS -/
noncomputable def D21 : Def := { fn := Tryd.f21, code := Tryd.f21.body.getD .skip, ps := [.val (.slice K0), .val (.slice K0)], res := .val .bool, pl := [4], L := lookL [(4, [.val 0 (.slice K0), .val 1 (.slice K0), .val 5 (.int .i64)])] }
noncomputable def E21 (k : Nat) : Ctx := mkCx base [(16, D16.fnAt E16 k)]
theorem c21 {G : World → Prop} (k : Nat) : Con Tryd.prog G 21 (D21.fnAt E21 k) := Def.con2 mixed (fun k => TypesOK.mk' types _) (fun k => FnsOK.cons (c16 k) (by kernel_rfl) (FnsOK.nil)) D21 Tryd.func21 (by kernel_rfl) (fun k => by kernel_rfl) (fx := []) (fun k => rfl) (by kernel_rfl) k
/-- loop.example/g00218/laws.FnExactMsgsBytes -/
noncomputable def D6 : Def := { fn := Tryd.f6, code := Tryd.f6.body.getD .skip, ps := [.val (.slice K0)], res := .val .bool, pl := [], L := lookL [] }
noncomputable def E6 (k : Nat) : Ctx := mkCx base [(17, D17.fnAt E17 k), (18, D18.fnAt E18 k), (19, D19.fnAt E19 k), (20, D20.fnAt E20 k), (21, D21.fnAt E21 k)]
theorem c6 {G : World → Prop} (k : Nat) : Con Tryd.prog G 6 (D6.fnAt E6 k) := Def.con2 mixed (fun k => TypesOK.mk' types _) (fun k => FnsOK.cons (c17 k) (by kernel_rfl) (FnsOK.cons (c18 k) (by kernel_rfl) (FnsOK.cons (c19 k) (by kernel_rfl) (FnsOK.cons (c20 k) (by kernel_rfl) (FnsOK.cons (c21 k) (by kernel_rfl) (FnsOK.nil)))))) D6 Tryd.func6 (by kernel_rfl) (fun k => by kernel_rfl) (fx := []) (fun k => rfl) (by kernel_rfl) k
end Go.Proofs.YtmfcblbpicbhoaaDoor.Fms
