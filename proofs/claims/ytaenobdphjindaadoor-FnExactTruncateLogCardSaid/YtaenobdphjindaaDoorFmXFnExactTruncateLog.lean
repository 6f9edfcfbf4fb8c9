/- FnExactTruncateLog, by the functional machine. -/
import Derived.Test.YtaenobdphjindaaDoorTrim
import Derived.Test.YtaenobdphjindaaDoorFmZ
import Derived.Test.YtaenobdphjindaaDoorFmGv
import Derived.Test.YtaenobdphjindaaDoorFmXFnExactTruncateLogLays
import Derived.Test.YtaenobdphjindaaDoorFmIns
import Derived.Test.YtaenobdphjindaaDoorFmXFnExactTruncateLogIns
import Derived.Test.YtaenobdphjindaaDoorProg
set_option maxRecDepth 100000
set_option linter.unusedVariables false
open Go Go.Fm
namespace Go.Proofs.YtaenobdphjindaaDoor.Fms
abbrev K6 : Kind := .struct (.pair .str .str)
abbrev K1 : Kind := .struct (.pair (.int .i64) (.pair (.int .i64) .bool))
abbrev K5 : Kind := .struct (.pair .str (.pair .str K1))
abbrev K0 : Kind := .struct (.pair (.int .i64) (.pair .str (.pair .str K1)))
abbrev K3 : Kind := .struct (.pair .str (.pair .str (.pair K1 (.int .i64))))
abbrev K4 : Kind := .struct (.pair (.int .i64) (.pair (.int .i64) (.pair (.slice K5) (.pair (.slice K6) K1))))
abbrev K2 : Kind := .struct (.pair (.int .i64) (.pair (.slice K3) (.pair (.slice K4) (.slice (.int .i64)))))
def table : List TRow := [⟨2, (.int .i64), 0, 0, false, none⟩, ⟨3, (.int .i64), 0, 0, false, none⟩, ⟨4, .bool, 0, 0, false, none⟩, ⟨5, (.int .u8), 0, 0, false, none⟩, ⟨9, .str, 0, 0, false, none⟩, ⟨22, (.slice K0), 2199023255552, 50, false, none⟩, ⟨25, (.slice K0), 2199023255552, 53, false, none⟩, ⟨39, (.slice K3), 2199023255552, 64, false, none⟩, ⟨47, K1, 0, 0, true, none⟩, ⟨48, K1, 0, 0, true, none⟩, ⟨49, K0, 0, 0, true, none⟩, ⟨50, K0, 0, 0, true, none⟩, ⟨51, K1, 0, 0, true, none⟩, ⟨52, K0, 0, 0, true, none⟩, ⟨53, K0, 0, 0, true, none⟩, ⟨63, K3, 0, 0, true, none⟩, ⟨64, K3, 0, 0, true, none⟩, ⟨76, (.slice (.int .u8)), 140737488355328, 5, false, none⟩, ⟨84, (.slice K4), 1599289640401, 177, false, none⟩, ⟨85, (.slice (.int .i64)), 17592186044416, 3, false, none⟩, ⟨86, K2, 0, 0, false, none⟩, ⟨87, K2, 0, 0, false, none⟩, ⟨97, (.int .u64), 0, 0, false, none⟩, ⟨174, (.slice K5), 2513169434916, 180, false, none⟩, ⟨175, (.slice K6), 4398046511104, 182, false, none⟩, ⟨176, K4, 0, 0, false, none⟩, ⟨177, K4, 0, 0, false, none⟩, ⟨179, K5, 0, 0, true, none⟩, ⟨180, K5, 0, 0, true, none⟩, ⟨181, K6, 0, 0, true, none⟩, ⟨182, K6, 0, 0, true, none⟩]
def base : Ctx := ctxOf table
theorem types : TypesOK Tryd.prog base := typesOK_of (by kernel_rfl)
theorem mixed : Tryd.prog.follows .mixedOrders = true := by kernel_rfl
/-- loop.example/g00218/laws.szEntry -/
noncomputable def D32 : Def := { fn := Tryd.f32, code := Tryd.f32.body.getD .skip, ps := [.val K0, .val (.int .i64)], res := .val (.int .i64), pl := [], L := lookL [] }
noncomputable def E32 (k : Nat) : Ctx := mkCx base []
theorem c32 {G : World → Prop} (k : Nat) : Con Tryd.prog G 32 (D32.fnAt E32 k) := Def.con2 mixed (fun k => TypesOK.mk' types _) (fun k => FnsOK.nil) D32 Tryd.func32 (by kernel_rfl) (fun k => by kernel_rfl) (fx := []) (fun k => rfl) (by kernel_rfl) k
/-- loop.example/g00218/laws.szEntryS -/
noncomputable def D10 : Def := { fn := Tryd.f10, code := Tryd.f10.body.getD .skip, ps := [.val (.slice K0), .val (.int .i64)], res := .val (.int .i64), pl := [5], L := lookL [(5, [.val 0 (.slice K0), .val 1 (.int .i64), .val 5 (.int .i64)])] }
noncomputable def E10 (k : Nat) : Ctx := mkCx base [(32, D32.fnAt E32 k)]
theorem c10 {G : World → Prop} (k : Nat) : Con Tryd.prog G 10 (D10.fnAt E10 k) := Def.con2 mixed (fun k => TypesOK.mk' types _) (fun k => FnsOK.cons (c32 k) (by kernel_rfl) (FnsOK.nil)) D10 Tryd.func10 (by kernel_rfl) (fun k => by kernel_rfl) (fx := []) (fun k => rfl) (by kernel_rfl) k
/-- loop.example/g00218/laws.toTid -/
noncomputable def D56 : Def := { fn := Tryd.f56, code := Tryd.f56.body.getD .skip, ps := [.val K1], res := .val K1, pl := [], L := lookL [] }
noncomputable def E56 (k : Nat) : Ctx := mkCx base []
theorem c56 {G : World → Prop} (k : Nat) : Con Tryd.prog G 56 (D56.fnAt E56 k) := Def.con2 mixed (fun k => TypesOK.mk' types _) (fun k => FnsOK.nil) D56 Tryd.func56 (by kernel_rfl) (fun k => by kernel_rfl) (fx := []) (fun k => rfl) (by kernel_rfl) k
/-- loop.example/g00218/laws.toEntry -/
noncomputable def D34 : Def := { fn := Tryd.f34, code := Tryd.f34.body.getD .skip, ps := [.val K0], res := .val K0, pl := [], L := lookL [] }
noncomputable def E34 (k : Nat) : Ctx := mkCx base [(56, D56.fnAt E56 k)]
theorem c34 {G : World → Prop} (k : Nat) : Con Tryd.prog G 34 (D34.fnAt E34 k) := Def.con2 mixed (fun k => TypesOK.mk' types _) (fun k => FnsOK.cons (c56 k) (by kernel_rfl) (FnsOK.nil)) D34 Tryd.func34 (by kernel_rfl) (fun k => by kernel_rfl) (fx := []) (fun k => rfl) (by kernel_rfl) k
/-- loop.example/g00218/laws.toEntryS -/
noncomputable def D12 : Def := { fn := Tryd.f12, code := Tryd.f12.body.getD .skip, ps := [.val (.slice K0)], res := .own 53 K0, pl := [3], L := lookL [(3, [.val 0 (.slice K0), .own 3 53 K0, .val 4 (.int .i64)])] }
noncomputable def E12 (k : Nat) : Ctx := mkCx base [(34, D34.fnAt E34 k)]
theorem c12 {G : World → Prop} (k : Nat) : Con Tryd.prog G 12 (D12.fnAt E12 k) := Def.con2 mixed (fun k => TypesOK.mk' types _) (fun k => FnsOK.cons (c34 k) (by kernel_rfl) (FnsOK.nil)) D12 Tryd.func12 (by kernel_rfl) (fun k => by kernel_rfl) (fx := []) (fun k => rfl) (by kernel_rfl) k
/-- loop.example/g00218/laws.eqTid -/
noncomputable def D59 : Def := { fn := Tryd.f59, code := Tryd.f59.body.getD .skip, ps := [.val K1, .val K1], res := .val .bool, pl := [], L := lookL [] }
noncomputable def E59 (k : Nat) : Ctx := mkCx base []
theorem c59 {G : World → Prop} (k : Nat) : Con Tryd.prog G 59 (D59.fnAt E59 k) := Def.con2 mixed (fun k => TypesOK.mk' types _) (fun k => FnsOK.nil) D59 Tryd.func59 (by kernel_rfl) (fun k => by kernel_rfl) (fx := []) (fun k => rfl) (by kernel_rfl) k
/-- loop.example/g00218/laws.eqEntry -/
noncomputable def D36 : Def := { fn := Tryd.f36, code := Tryd.f36.body.getD .skip, ps := [.val K0, .val K0], res := .val .bool, pl := [], L := lookL [] }
noncomputable def E36 (k : Nat) : Ctx := mkCx base [(59, D59.fnAt E59 k)]
theorem c36 {G : World → Prop} (k : Nat) : Con Tryd.prog G 36 (D36.fnAt E36 k) := Def.con2 mixed (fun k => TypesOK.mk' types _) (fun k => FnsOK.cons (c59 k) (by kernel_rfl) (FnsOK.nil)) D36 Tryd.func36 (by kernel_rfl) (fun k => by kernel_rfl) (fx := []) (fun k => rfl) (by kernel_rfl) k
/-- loop.example/g00218/laws.eqEntryS -/
noncomputable def D14 : Def := { fn := Tryd.f14, code := Tryd.f14.body.getD .skip, ps := [.val (.slice K0), .val (.slice K0)], res := .val .bool, pl := [4], L := lookL [(4, [.val 0 (.slice K0), .val 1 (.slice K0), .val 5 (.int .i64)])] }
noncomputable def E14 (k : Nat) : Ctx := mkCx base [(36, D36.fnAt E36 k)]
theorem c14 {G : World → Prop} (k : Nat) : Con Tryd.prog G 14 (D14.fnAt E14 k) := Def.con2 mixed (fun k => TypesOK.mk' types _) (fun k => FnsOK.cons (c36 k) (by kernel_rfl) (FnsOK.nil)) D14 Tryd.func14 (by kernel_rfl) (fun k => by kernel_rfl) (fx := []) (fun k => rfl) (by kernel_rfl) k
/-- loop.example/g00218/laws.markText -/
noncomputable def D40 : Def := { fn := Tryd.f40, code := Tryd.f40.body.getD .skip, ps := [.val (.int .i64)], res := .val .str, pl := [4], L := lookL [(4, [.val 0 (.int .i64), .val 3 .str])] }
noncomputable def E40 (k : Nat) : Ctx := mkCx base []
theorem c40 {G : World → Prop} (k : Nat) : Con Tryd.prog G 40 (D40.fnAt E40 k) := Def.con2 mixed (fun k => TypesOK.mk' types _) (fun k => FnsOK.nil) D40 Tryd.func40 (by kernel_rfl) (fun k => by kernel_rfl) (fx := []) (fun k => rfl) (by kernel_rfl) k
/-- loop.example/g00218/laws.markEntryS -/
noncomputable def D17 : Def := { fn := Tryd.f17, code := Tryd.f17.body.getD .skip, ps := [.own 53 K0, .val (.int .i64)], res := .back 0 53 K0 (.val (.int .i64)), pl := [2], L := lookL [(2, [.own 0 53 K0, .val 1 (.int .i64), .val 5 (.int .i64)])] }
noncomputable def E17 (k : Nat) : Ctx := mkCx (fxCx base [0]) [(40, D40.fnAt E40 k)]
theorem c17 {G : World → Prop} (k : Nat) : Con Tryd.prog G 17 (D17.fnAt E17 k) := Def.con2 mixed (fun k => TypesOK.mk' (types.fx [0]) _) (fun k => FnsOK.cons (c40 k) (by kernel_rfl) (FnsOK.nil)) D17 Tryd.func17 (by kernel_rfl) (fun k => by kernel_rfl) (fx := [0]) (fun k => rfl) (by kernel_rfl) k
/-- loop.example/g00218/laws.heldEntryS -/
noncomputable def D18 : Def := { fn := Tryd.f18, code := Tryd.f18.body.getD .skip, ps := [.val (.slice K0), .val (.int .i64)], res := .val (.int .i64), pl := [2], L := lookL [(2, [.val 0 (.slice K0), .val 1 (.int .i64), .val 5 (.int .i64)])] }
noncomputable def E18 (k : Nat) : Ctx := mkCx base [(40, D40.fnAt E40 k)]
theorem c18 {G : World → Prop} (k : Nat) : Con Tryd.prog G 18 (D18.fnAt E18 k) := Def.con2 mixed (fun k => TypesOK.mk' types _) (fun k => FnsOK.cons (c40 k) (by kernel_rfl) (FnsOK.nil)) D18 Tryd.func18 (by kernel_rfl) (fun k => by kernel_rfl) (fx := []) (fun k => rfl) (by kernel_rfl) k
/-- loop.example/g00218/spec.l1In -/
noncomputable def D45 : Def := { fn := Tryd.f45, code := Tryd.f45.body.getD .skip, ps := [.val (.int .i64), .val (.int .i64), .val (.int .i64)], res := .val .bool, pl := [], L := lookL [] }
noncomputable def E45 (k : Nat) : Ctx := mkCx base []
theorem c45 {G : World → Prop} (k : Nat) : Con Tryd.prog G 45 (D45.fnAt E45 k) := Def.con2 mixed (fun k => TypesOK.mk' types _) (fun k => FnsOK.nil) D45 Tryd.func45 (by kernel_rfl) (fun k => by kernel_rfl) (fx := []) (fun k => rfl) (by kernel_rfl) k
/-- loop.example/g00218/spec.l1Key -/
noncomputable def D53 : Def := { fn := Tryd.f53, code := Tryd.f53.body.getD .skip, ps := [.val .str], res := .val .bool, pl := [2], L := lookL [(2, [.val 0 .str, .val 3 (.int .i64)])] }
noncomputable def E53 (k : Nat) : Ctx := mkCx base [(45, D45.fnAt E45 k)]
theorem c53 {G : World → Prop} (k : Nat) : Con Tryd.prog G 53 (D53.fnAt E53 k) := Def.con2 mixed (fun k => TypesOK.mk' types _) (fun k => FnsOK.cons (c45 k) (by kernel_rfl) (FnsOK.nil)) D53 Tryd.func53 (by kernel_rfl) (fun k => by kernel_rfl) (fx := []) (fun k => rfl) (by kernel_rfl) k
/-- loop.example/g00218/spec.l1Value -/
noncomputable def D54 : Def := { fn := Tryd.f54, code := Tryd.f54.body.getD .skip, ps := [.val .str], res := .val .bool, pl := [2], L := lookL [(2, [.val 0 .str, .val 3 (.int .i64)])] }
noncomputable def E54 (k : Nat) : Ctx := mkCx base []
theorem c54 {G : World → Prop} (k : Nat) : Con Tryd.prog G 54 (D54.fnAt E54 k) := Def.con2 mixed (fun k => TypesOK.mk' types _) (fun k => FnsOK.nil) D54 Tryd.func54 (by kernel_rfl) (fun k => by kernel_rfl) (fx := []) (fun k => rfl) (by kernel_rfl) k
/-- loop.example/g00218/spec.l1Tid -/
noncomputable def D55 : Def := { fn := Tryd.f55, code := Tryd.f55.body.getD .skip, ps := [.val K1], res := .val .bool, pl := [], L := lookL [] }
noncomputable def E55 (k : Nat) : Ctx := mkCx base [(45, D45.fnAt E45 k)]
theorem c55 {G : World → Prop} (k : Nat) : Con Tryd.prog G 55 (D55.fnAt E55 k) := Def.con2 mixed (fun k => TypesOK.mk' types _) (fun k => FnsOK.cons (c45 k) (by kernel_rfl) (FnsOK.nil)) D55 Tryd.func55 (by kernel_rfl) (fun k => by kernel_rfl) (fx := []) (fun k => rfl) (by kernel_rfl) k
/-- loop.example/g00218/spec.l6Entry -/
noncomputable def D33 : Def := { fn := Tryd.f33, code := Tryd.f33.body.getD .skip, ps := [.val K0], res := .val .bool, pl := [], L := lookL [] }
noncomputable def E33 (k : Nat) : Ctx := mkCx base [(45, D45.fnAt E45 k), (53, D53.fnAt E53 k), (54, D54.fnAt E54 k), (55, D55.fnAt E55 k)]
theorem c33 {G : World → Prop} (k : Nat) : Con Tryd.prog G 33 (D33.fnAt E33 k) := Def.con2 mixed (fun k => TypesOK.mk' types _) (fun k => FnsOK.cons (c45 k) (by kernel_rfl) (FnsOK.cons (c53 k) (by kernel_rfl) (FnsOK.cons (c54 k) (by kernel_rfl) (FnsOK.cons (c55 k) (by kernel_rfl) (FnsOK.nil))))) D33 Tryd.func33 (by kernel_rfl) (fun k => by kernel_rfl) (fx := []) (fun k => rfl) (by kernel_rfl) k
/-- loop.example/g00218/spec.GoodLog -/
noncomputable def D11 : Def := { fn := Tryd.f11, code := Tryd.f11.body.getD .skip, ps := [.val (.slice K0)], res := .val .bool, pl := [2, 7], L := lookL [(2, [.val 0 (.slice K0), .val 7 (.slice K0), .val 8 (.int .i64), .val 9 (.int .i64)]), (7, [.val 0 (.slice K0), .var 4 K0, .val 7 (.slice K0), .val 8 (.int .i64), .val 9 (.int .i64), .val 19 (.slice K0), .val 20 (.int .i64), .val 21 (.int .i64)])] }
noncomputable def E11 (k : Nat) : Ctx := mkCx base [(33, D33.fnAt E33 k)]
theorem c11 {G : World → Prop} (k : Nat) : Con Tryd.prog G 11 (D11.fnAt E11 k) := Def.con2 mixed (fun k => TypesOK.mk' types _) (fun k => FnsOK.cons (c33 k) (by kernel_rfl) (FnsOK.nil)) D11 Tryd.func11 (by kernel_rfl) (fun k => by kernel_rfl) (fx := []) (fun k => rfl) (by kernel_rfl) k
/-- loop.example/g00218/spec.l5Find -/
noncomputable def D68 : Def := { fn := Tryd.f68, code := Tryd.f68.body.getD .skip, ps := [.val K2, .val .str], res := .tup (.pair (.val K3) (.val .bool)), pl := [2], L := lookL [(2, [.val 1 .str, .var 4 K3, .val 9 (.slice K3), .val 10 (.int .i64), .val 11 (.int .i64)])] }
noncomputable def E68 (k : Nat) : Ctx := mkCx base []
theorem c68 {G : World → Prop} (k : Nat) : Con Tryd.prog G 68 (D68.fnAt E68 k) := Def.con2 mixed (fun k => TypesOK.mk' types _) (fun k => FnsOK.nil) D68 Tryd.func68 (by kernel_rfl) (fun k => by kernel_rfl) (fx := []) (fun k => rfl) (by kernel_rfl) k
/-- loop.example/g00218/spec.l1Compare -/
noncomputable def D69 : Def := { fn := Tryd.f69, code := Tryd.f69.body.getD .skip, ps := [.val K1, .val K1], res := .val (.int .i64), pl := [], L := lookL [] }
noncomputable def E69 (k : Nat) : Ctx := mkCx base []
theorem c69 {G : World → Prop} (k : Nat) : Con Tryd.prog G 69 (D69.fnAt E69 k) := Def.con2 mixed (fun k => TypesOK.mk' types _) (fun k => FnsOK.nil) D69 Tryd.func69 (by kernel_rfl) (fun k => by kernel_rfl) (fx := []) (fun k => rfl) (by kernel_rfl) k
/-- loop.example/g00218/spec.l5Put -/
noncomputable def D70 : Def := { fn := Tryd.f70, code := Tryd.f70.body.getD .skip, ps := [.val K2, .val K3], res := .val K2, pl := [2, 9], L := lookL [(2, [.var 2 K2, .var 3 K3, .var 4 K2, .val 5 (.int .i64)]), (9, [.var 2 K2, .var 4 K2, .val 5 (.int .i64), .own 6 64 K3])] }
noncomputable def E70 (k : Nat) : Ctx := mkCx base []
theorem c70 {G : World → Prop} (k : Nat) : Con Tryd.prog G 70 (D70.fnAt E70 k) := Def.con2 mixed (fun k => TypesOK.mk' types _) (fun k => FnsOK.nil) D70 Tryd.func70 (by kernel_rfl) (fun k => by kernel_rfl) (fx := []) (fun k => rfl) (by kernel_rfl) k
/-- loop.example/g00218/spec.l6Replay -/
noncomputable def D47 : Def := { fn := Tryd.f47, code := Tryd.f47.body.getD .skip, ps := [.val (.slice K0)], res := .val (.slice K3), pl := [3], L := lookL [(3, [.var 3 K2, .val 9 (.slice K0), .val 10 (.int .i64), .val 11 (.int .i64)])] }
noncomputable def E47 (k : Nat) : Ctx := mkCx base [(68, D68.fnAt E68 k), (69, D69.fnAt E69 k), (70, D70.fnAt E70 k)]
theorem c47 {G : World → Prop} (k : Nat) : Con Tryd.prog G 47 (D47.fnAt E47 k) := Def.con2 mixed (fun k => TypesOK.mk' types _) (fun k => FnsOK.cons (c68 k) (by kernel_rfl) (FnsOK.cons (c69 k) (by kernel_rfl) (FnsOK.cons (c70 k) (by kernel_rfl) (FnsOK.nil)))) D47 Tryd.func47 (by kernel_rfl) (fun k => by kernel_rfl) (fx := []) (fun k => rfl) (by kernel_rfl) k
/-- loop.example/g00218/spec.l6Compact -/
noncomputable def D43 : Def := { fn := Tryd.f43, code := Tryd.f43.body.getD .skip, ps := [.val (.slice K0)], res := .own 53 K0, pl := [3, 6], L := lookL [(3, [.val 0 (.slice K0), .own 3 53 K0, .val 9 (.slice K3), .val 10 (.int .i64), .val 11 (.int .i64)]), (6, [.val 0 (.slice K0), .own 3 53 K0, .var 5 K3, .val 9 (.slice K3), .val 10 (.int .i64), .val 11 (.int .i64), .val 15 (.slice K0), .val 16 (.int .i64), .val 17 (.int .i64)])] }
noncomputable def E43 (k : Nat) : Ctx := mkCx base [(47, D47.fnAt E47 k)]
theorem c43 {G : World → Prop} (k : Nat) : Con Tryd.prog G 43 (D43.fnAt E43 k) := Def.con2 mixed (fun k => TypesOK.mk' types _) (fun k => FnsOK.cons (c47 k) (by kernel_rfl) (FnsOK.nil)) D43 Tryd.func43 (by kernel_rfl) (fun k => by kernel_rfl) (fx := []) (fun k => rfl) (by kernel_rfl) k
/-- loop.example/g00218/spec.TruncateLog -/
noncomputable def D23 : Def := { fn := Tryd.f23, code := Tryd.f23.body.getD .skip, ps := [.val (.slice K0), .val (.int .i64)], res := .tup (.pair (.own 53 K0) (.pair (.own 53 K0) (.val .bool))), pl := [5], L := lookL [(5, [.val 1 (.int .i64), .own 7 53 K0, .own 8 53 K0, .val 19 (.slice K0), .val 20 (.int .i64), .val 21 (.int .i64)])] }
noncomputable def E23 (k : Nat) : Ctx := mkCx base [(11, D11.fnAt E11 k), (43, D43.fnAt E43 k), (45, D45.fnAt E45 k)]
theorem c23 {G : World → Prop} (k : Nat) : Con Tryd.prog G 23 (D23.fnAt E23 k) := Def.con2 mixed (fun k => TypesOK.mk' types _) (fun k => FnsOK.cons (c11 k) (by kernel_rfl) (FnsOK.cons (c43 k) (by kernel_rfl) (FnsOK.cons (c45 k) (by kernel_rfl) (FnsOK.nil)))) D23 Tryd.func23 (by kernel_rfl) (fun k => by kernel_rfl) (fx := []) (fun k => rfl) (by kernel_rfl) k
/-- loop.example/g00218/impl.areAlike -/
noncomputable def D37 : Def := { fn := Tryd.f37, code := Tryd.f37.body.getD .skip, ps := [.val (.slice K0)], res := .val .bool, pl := [2, 5], L := lookL [(2, [.val 0 (.slice K0), .val 7 (.slice K0), .val 8 (.int .i64), .val 9 (.int .i64)]), (5, [.val 0 (.slice K0), .var 4 K0, .val 7 (.slice K0), .val 8 (.int .i64), .val 9 (.int .i64), .val 16 (.slice K0), .val 17 (.int .i64), .val 18 (.int .i64)])] }
noncomputable def E37 (k : Nat) : Ctx := mkCx base []
theorem c37 {G : World → Prop} (k : Nat) : Con Tryd.prog G 37 (D37.fnAt E37 k) := Def.con2 mixed (fun k => TypesOK.mk' types _) (fun k => FnsOK.nil) D37 Tryd.func37 (by kernel_rfl) (fun k => by kernel_rfl) (fx := []) (fun k => rfl) (by kernel_rfl) k
/-- loop.example/g00218/impl.in -/
noncomputable def D46 : Def := { fn := Tryd.f46, code := Tryd.f46.body.getD .skip, ps := [.val (.int .i64), .val (.int .i64), .val (.int .i64)], res := .val .bool, pl := [], L := lookL [] }
noncomputable def E46 (k : Nat) : Ctx := mkCx base []
theorem c46 {G : World → Prop} (k : Nat) : Con Tryd.prog G 46 (D46.fnAt E46 k) := Def.con2 mixed (fun k => TypesOK.mk' types _) (fun k => FnsOK.nil) D46 Tryd.func46 (by kernel_rfl) (fun k => by kernel_rfl) (fx := []) (fun k => rfl) (by kernel_rfl) k
/-- loop.example/g00218/impl.isKey -/
noncomputable def D74 : Def := { fn := Tryd.f74, code := Tryd.f74.body.getD .skip, ps := [.val .str], res := .val .bool, pl := [], L := lookL [] }
noncomputable def E74 (k : Nat) : Ctx := mkCx base [(87, ⟨[.val .str, .val .str], .val .str, fun v => MapW.strings_Trim.f v.1 v.2.1⟩)]
theorem c74 {G : World → Prop} (k : Nat) : Con Tryd.prog G 74 (D74.fnAt E74 k) := Def.con2 mixed (fun k => TypesOK.mk' types _) (fun k => FnsOK.cons (Con.text2 MapW.strings_Trim.f MapW.strings_Trim.calls) (by kernel_rfl) (FnsOK.nil)) D74 Tryd.func74 (by kernel_rfl) (fun k => by kernel_rfl) (fx := []) (fun k => rfl) (by kernel_rfl) k
/-- loop.example/g00218/impl.isValue -/
noncomputable def D75 : Def := { fn := Tryd.f75, code := Tryd.f75.body.getD .skip, ps := [.val .str], res := .val .bool, pl := [2], L := lookL [(2, [.val 0 .str, .val 5 (.int .i64), .val 6 (.int .i64)])] }
noncomputable def E75 (k : Nat) : Ctx := mkCx base []
theorem c75 {G : World → Prop} (k : Nat) : Con Tryd.prog G 75 (D75.fnAt E75 k) := Def.con2 mixed (fun k => TypesOK.mk' types _) (fun k => FnsOK.nil) D75 Tryd.func75 (by kernel_rfl) (fun k => by kernel_rfl) (fx := []) (fun k => rfl) (by kernel_rfl) k
/-- loop.example/g00218/impl.isTid -/
noncomputable def D76 : Def := { fn := Tryd.f76, code := Tryd.f76.body.getD .skip, ps := [.val K1], res := .val .bool, pl := [], L := lookL [] }
noncomputable def E76 (k : Nat) : Ctx := mkCx base [(46, D46.fnAt E46 k)]
theorem c76 {G : World → Prop} (k : Nat) : Con Tryd.prog G 76 (D76.fnAt E76 k) := Def.con2 mixed (fun k => TypesOK.mk' types _) (fun k => FnsOK.cons (c46 k) (by kernel_rfl) (FnsOK.nil)) D76 Tryd.func76 (by kernel_rfl) (fun k => by kernel_rfl) (fx := []) (fun k => rfl) (by kernel_rfl) k
/-- loop.example/g00218/impl.isEntry -/
noncomputable def D58 : Def := { fn := Tryd.f58, code := Tryd.f58.body.getD .skip, ps := [.val K0], res := .val .bool, pl := [], L := lookL [] }
noncomputable def E58 (k : Nat) : Ctx := mkCx base [(46, D46.fnAt E46 k), (74, D74.fnAt E74 k), (75, D75.fnAt E75 k), (76, D76.fnAt E76 k)]
theorem c58 {G : World → Prop} (k : Nat) : Con Tryd.prog G 58 (D58.fnAt E58 k) := Def.con2 mixed (fun k => TypesOK.mk' types _) (fun k => FnsOK.cons (c46 k) (by kernel_rfl) (FnsOK.cons (c74 k) (by kernel_rfl) (FnsOK.cons (c75 k) (by kernel_rfl) (FnsOK.cons (c76 k) (by kernel_rfl) (FnsOK.nil))))) D58 Tryd.func58 (by kernel_rfl) (fun k => by kernel_rfl) (fx := []) (fun k => rfl) (by kernel_rfl) k
/-- loop.example/g00218/impl.isLog$1 -/
noncomputable def D57 : Def := { fn := Tryd.f57, code := Tryd.f57.body.getD .skip, ps := [.val K0], res := .val .bool, pl := [], L := lookL [] }
noncomputable def E57 (k : Nat) : Ctx := mkCx base [(58, D58.fnAt E58 k)]
theorem c57 {G : World → Prop} (k : Nat) : Con Tryd.prog G 57 (D57.fnAt E57 k) := Def.con2 mixed (fun k => TypesOK.mk' types _) (fun k => FnsOK.cons (c58 k) (by kernel_rfl) (FnsOK.nil)) D57 Tryd.func57 (by kernel_rfl) (fun k => by kernel_rfl) (fx := []) (fun k => rfl) (by kernel_rfl) k
/-- slices.IndexFunc[[]loop.example/g00218/impl.Entry,loop.example/g00218/impl.Entry] -/
noncomputable def D60 : Def := { fn := Tryd.f60, code := Tryd.f60.body.getD .skip, ps := [.val (.slice K0), .val (.clo 57 .unit)], res := .val (.int .i64), pl := [2], L := lookL [(2, [.val 0 (.slice K0), .val 1 (.clo 57 .unit), .val 7 (.int .i64), .val 8 (.int .i64)])] }
noncomputable def E60 (k : Nat) : Ctx := mkCx base [(57, D57.fnAt E57 k)]
theorem c60 {G : World → Prop} (k : Nat) : Con Tryd.prog G 60 (D60.fnAt E60 k) := Def.con2 mixed (fun k => TypesOK.mk' types _) (fun k => FnsOK.cons (c57 k) (by kernel_rfl) (FnsOK.nil)) D60 Tryd.func60 (by kernel_rfl) (fun k => by kernel_rfl) (fx := []) (fun k => rfl) (by kernel_rfl) k
/-- slices.ContainsFunc[[]loop.example/g00218/impl.Entry,loop.example/g00218/impl.Entry] -/
noncomputable def D38 : Def := { fn := Tryd.f38, code := Tryd.f38.body.getD .skip, ps := [.val (.slice K0), .val (.clo 57 .unit)], res := .val .bool, pl := [], L := lookL [] }
noncomputable def E38 (k : Nat) : Ctx := mkCx base [(60, D60.fnAt E60 k)]
theorem c38 {G : World → Prop} (k : Nat) : Con Tryd.prog G 38 (D38.fnAt E38 k) := Def.con2 mixed (fun k => TypesOK.mk' types _) (fun k => FnsOK.cons (c60 k) (by kernel_rfl) (FnsOK.nil)) D38 Tryd.func38 (by kernel_rfl) (fun k => by kernel_rfl) (fx := []) (fun k => rfl) (by kernel_rfl) k
/-- loop.example/g00218/impl.isLog -/
noncomputable def D35 : Def := { fn := Tryd.f35, code := Tryd.f35.body.getD .skip, ps := [.val (.slice K0)], res := .val .bool, pl := [], L := lookL [] }
noncomputable def E35 (k : Nat) : Ctx := mkCx base [(37, D37.fnAt E37 k), (38, D38.fnAt E38 k)]
theorem c35 {G : World → Prop} (k : Nat) : Con Tryd.prog G 35 (D35.fnAt E35 k) := Def.con2 mixed (fun k => TypesOK.mk' types _) (fun k => FnsOK.cons (c37 k) (by kernel_rfl) (FnsOK.cons (c38 k) (by kernel_rfl) (FnsOK.nil))) D35 Tryd.func35 (by kernel_rfl) (fun k => by kernel_rfl) (fx := []) (fun k => rfl) (by kernel_rfl) k
/-- loop.example/g00218/impl.compact$1 -/
noncomputable def D64 : Def := { fn := Tryd.f64, code := Tryd.f64.body.getD .skip, ps := [.val K0, .val .str], res := .val (.int .i64), pl := [], L := lookL [] }
noncomputable def E64 (k : Nat) : Ctx := mkCx base [(65, cmpFn)]
theorem c64 {G : World → Prop} (k : Nat) : Con Tryd.prog G 64 (D64.fnAt E64 k) := Def.con2 mixed (fun k => TypesOK.mk' types _) (fun k => FnsOK.cons (Con.cmp Go.Proofs.Tryd.lays106 (by kernel_rfl)) (by kernel_rfl) (FnsOK.nil)) D64 Tryd.func64 (by kernel_rfl) (fun k => by kernel_rfl) (fx := []) (fun k => rfl) (by kernel_rfl) k
/-- slices.BinarySearchFunc[[]loop.example/g00218/impl.Entry,loop.example/g00218/impl.Entry,string] -/
noncomputable def D63 : Def := { fn := Tryd.f63, code := Tryd.f63.body.getD .skip, ps := [.val (.slice K0), .val .str, .val (.clo 64 .unit)], res := .tup (.pair (.val (.int .i64)) (.val .bool)), pl := [3], L := lookL [(3, [.val 0 (.slice K0), .val 1 .str, .val 2 (.clo 64 .unit), .val 8 (.int .i64), .val 9 (.int .i64), .val 10 (.int .i64)])] }
noncomputable def E63 (k : Nat) : Ctx := mkCx base [(64, D64.fnAt E64 k)]
theorem c63 {G : World → Prop} (k : Nat) : Con Tryd.prog G 63 (D63.fnAt E63 k) := Def.con2 mixed (fun k => TypesOK.mk' types _) (fun k => FnsOK.cons (c64 k) (by kernel_rfl) (FnsOK.nil)) D63 Tryd.func63 (by kernel_rfl) (fun k => by kernel_rfl) (fx := []) (fun k => rfl) (by kernel_rfl) k
/-- cmp.Or[int] -/
noncomputable def D81 : Def := { fn := Tryd.f81, code := Tryd.f81.body.getD .skip, ps := [.val (.slice (.int .i64))], res := .val (.int .i64), pl := [3], L := lookL [(3, [.val 3 (.int .i64), .val 6 (.slice (.int .i64)), .val 7 (.int .i64), .val 8 (.int .i64)])] }
noncomputable def E81 (k : Nat) : Ctx := mkCx base []
theorem c81 {G : World → Prop} (k : Nat) : Con Tryd.prog G 81 (D81.fnAt E81 k) := Def.con2 mixed (fun k => TypesOK.mk' types _) (fun k => FnsOK.nil) D81 Tryd.func81 (by kernel_rfl) (fun k => by kernel_rfl) (fx := []) (fun k => rfl) (by kernel_rfl) k
/-- cmp.isNaN[int] -/
noncomputable def D91 : Def := { fn := Tryd.f91, code := Tryd.f91.body.getD .skip, ps := [.val (.int .i64)], res := .val .bool, pl := [], L := lookL [] }
noncomputable def E91 (k : Nat) : Ctx := mkCx base []
theorem c91 {G : World → Prop} (k : Nat) : Con Tryd.prog G 91 (D91.fnAt E91 k) := Def.con2 mixed (fun k => TypesOK.mk' types _) (fun k => FnsOK.nil) D91 Tryd.func91 (by kernel_rfl) (fun k => by kernel_rfl) (fx := []) (fun k => rfl) (by kernel_rfl) k
/-- cmp.Compare[int] -/
noncomputable def D82 : Def := { fn := Tryd.f82, code := Tryd.f82.body.getD .skip, ps := [.val (.int .i64), .val (.int .i64)], res := .val (.int .i64), pl := [], L := lookL [] }
noncomputable def E82 (k : Nat) : Ctx := mkCx base [(91, D91.fnAt E91 k)]
theorem c82 {G : World → Prop} (k : Nat) : Con Tryd.prog G 82 (D82.fnAt E82 k) := Def.con2 mixed (fun k => TypesOK.mk' types _) (fun k => FnsOK.cons (c91 k) (by kernel_rfl) (FnsOK.nil)) D82 Tryd.func82 (by kernel_rfl) (fun k => by kernel_rfl) (fx := []) (fun k => rfl) (by kernel_rfl) k
/-- loop.example/g00218/impl.compareTid -/
noncomputable def D67 : Def := { fn := Tryd.f67, code := Tryd.f67.body.getD .skip, ps := [.val K1, .val K1], res := .val (.int .i64), pl := [], L := lookL [] }
noncomputable def E67 (k : Nat) : Ctx := mkCx base [(81, D81.fnAt E81 k), (82, D82.fnAt E82 k)]
theorem c67 {G : World → Prop} (k : Nat) : Con Tryd.prog G 67 (D67.fnAt E67 k) := Def.con2 mixed (fun k => TypesOK.mk' types _) (fun k => FnsOK.cons (c81 k) (by kernel_rfl) (FnsOK.cons (c82 k) (by kernel_rfl) (FnsOK.nil))) D67 Tryd.func67 (by kernel_rfl) (fun k => by kernel_rfl) (fx := []) (fun k => rfl) (by kernel_rfl) k
/-- loop.example/g00218/impl.compact -/
noncomputable def D44 : Def := { fn := Tryd.f44, code := Tryd.f44.body.getD .skip, ps := [.val (.slice K0)], res := .own 53 K0, pl := [3], L := lookL [(3, [.own 3 53 K0, .val 9 (.slice K0), .val 10 (.int .i64), .val 11 (.int .i64)])] }
noncomputable def E44 (k : Nat) : Ctx := mkCx base [(63, D63.fnAt E63 k), (66, insFn 53 K0 64), (67, D67.fnAt E67 k)]
theorem c44 {G : World → Prop} (k : Nat) : Con Tryd.prog G 44 (D44.fnAt E44 k) := Def.con2 mixed (fun k => TypesOK.mk' types _) (fun k => FnsOK.cons (c63 k) (by kernel_rfl) (FnsOK.cons (Con.insert (B := 64) (by decide) Go.Proofs.YtaenobdphjindaaDoor.Ins66.roads) (by kernel_rfl) (FnsOK.cons (c67 k) (by kernel_rfl) (FnsOK.nil)))) D44 Tryd.func44 (by kernel_rfl) (fun k => by kernel_rfl) (fx := []) (fun k => rfl) (by kernel_rfl) k
/-- loop.example/g00218/impl.TruncateLog -/
noncomputable def D24 : Def := { fn := Tryd.f24, code := Tryd.f24.body.getD .skip, ps := [.val (.slice K0), .val (.int .i64)], res := .tup (.pair (.own 53 K0) (.pair (.own 53 K0) (.val .bool))), pl := [5], L := lookL [(5, [.val 1 (.int .i64), .own 7 53 K0, .own 8 53 K0, .val 21 (.slice K0), .val 22 (.int .i64), .val 23 (.int .i64)])] }
noncomputable def E24 (k : Nat) : Ctx := mkCx base [(35, D35.fnAt E35 k), (44, D44.fnAt E44 k), (46, D46.fnAt E46 k)]
theorem c24 {G : World → Prop} (k : Nat) : Con Tryd.prog G 24 (D24.fnAt E24 k) := Def.con2 mixed (fun k => TypesOK.mk' types _) (fun k => FnsOK.cons (c35 k) (by kernel_rfl) (FnsOK.cons (c44 k) (by kernel_rfl) (FnsOK.cons (c46 k) (by kernel_rfl) (FnsOK.nil)))) D24 Tryd.func24 (by kernel_rfl) (fun k => by kernel_rfl) (fx := []) (fun k => rfl) (by kernel_rfl) k
/-- loop.example/g00218/laws.FnExactTruncateLog -/
noncomputable def D7 : Def := { fn := Tryd.f7, code := Tryd.f7.body.getD .skip, ps := [.val (.slice K0), .val (.int .i64)], res := .val .bool, pl := [], L := lookL [] }
noncomputable def E7 (k : Nat) : Ctx := mkCx base [(10, D10.fnAt E10 k), (12, D12.fnAt E12 k), (14, D14.fnAt E14 k), (17, D17.fnAt E17 k), (18, D18.fnAt E18 k), (23, D23.fnAt E23 k), (24, D24.fnAt E24 k)]
theorem c7 {G : World → Prop} (k : Nat) : Con Tryd.prog G 7 (D7.fnAt E7 k) := Def.con2 mixed (fun k => TypesOK.mk' types _) (fun k => FnsOK.cons (c10 k) (by kernel_rfl) (FnsOK.cons (c12 k) (by kernel_rfl) (FnsOK.cons (c14 k) (by kernel_rfl) (FnsOK.cons (c17 k) (by kernel_rfl) (FnsOK.cons (c18 k) (by kernel_rfl) (FnsOK.cons (c23 k) (by kernel_rfl) (FnsOK.cons (c24 k) (by kernel_rfl) (FnsOK.nil)))))))) D7 Tryd.func7 (by kernel_rfl) (fun k => by kernel_rfl) (fx := []) (fun k => rfl) (by kernel_rfl) k
end Go.Proofs.YtaenobdphjindaaDoor.Fms
