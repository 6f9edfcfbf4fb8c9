/- strings.Trim at an ASCII cutset, in the form of the print's contracts: what it gives, told as a function of its two texts. Condition: the texts' sizes are within bounds and the cutset is ASCII (the function gives nothing else). -/
import Derived.Test.YtecddhkfhkpeaaaDoorProg
import Derived.WalkKit
import Derived.Ground.NamesProg
import Derived.Shelf.Strings.SlTrimAscii
namespace Go.Proofs
open Go.Shelf
def Tryd.lays160_ren : Go.Shelf.Ren := ⟨fun | 160 => 55 | 232 => 66 | 231 => 65 | 227 => 67 | 234 => 69 | 233 => 68 | 236 => 71 | 235 => 70 | 228 => 76 | 271 => 78 | 151 => 77 | 197 => 60 | 120 => 84 | 152 => 83 | 260 => 73 | 137 => 90 | 119 => 91 | 224 => 45 | 225 => 44 | 217 => 43 | 266 => 57 | n => n, fun | 9 => 9 | 4 => 4 | 3 => 3 | 5 => 5 | 117 => 85 | 116 => 84 | 0 => 0 | 124 => 88 | 21 => 21 | 105 => 73 | 46 => 61 | 119 => 102 | 139 => 105 | 138 => 104 | n => n, fun | 3 => 3 | 4 => 4 | n => n⟩
theorem Tryd.lays160 : Go.Proofs.Lays.n160 Tryd.prog Tryd.lays160_ren := {
  mixed := by kernel_rfl,
  f119 := Tryd.func91.trans (congrArg some (by kernel_rfl)),
  f120 := Tryd.func84.trans (congrArg some (by kernel_rfl)),
  f137 := Tryd.func90.trans (congrArg some (by kernel_rfl)),
  f151 := Tryd.func77.trans (congrArg some (by kernel_rfl)),
  f152 := Tryd.func83.trans (congrArg some (by kernel_rfl)),
  f160 := Tryd.func55.trans (congrArg some (by kernel_rfl)),
  f197 := Tryd.func60.trans (congrArg some (by kernel_rfl)),
  f217 := Tryd.func43.trans (congrArg some (by kernel_rfl)),
  f224 := Tryd.func45.trans (congrArg some (by kernel_rfl)),
  f225 := Tryd.func44.trans (congrArg some (by kernel_rfl)),
  f227 := Tryd.func67.trans (congrArg some (by kernel_rfl)),
  f228 := Tryd.func76.trans (congrArg some (by kernel_rfl)),
  f231 := Tryd.func65.trans (congrArg some (by kernel_rfl)),
  f232 := Tryd.func66.trans (congrArg some (by kernel_rfl)),
  f233 := Tryd.func68.trans (congrArg some (by kernel_rfl)),
  f234 := Tryd.func69.trans (congrArg some (by kernel_rfl)),
  f235 := Tryd.func70.trans (congrArg some (by kernel_rfl)),
  f236 := Tryd.func71.trans (congrArg some (by kernel_rfl)),
  f260 := Tryd.func73.trans (congrArg some (by kernel_rfl)),
  f266 := Tryd.func57.trans (congrArg some (by kernel_rfl)),
  f271 := Tryd.func78.trans (congrArg some (by kernel_rfl)),
  t0 := Tryd.underlying0,
  a0 := Tryd.isAgg0,
  z0 := Tryd.sizeOf0,
  v0 := Tryd.zeroValue0,
  t3 := Tryd.underlying3,
  a3 := Tryd.isAgg3,
  z3 := Tryd.sizeOf3,
  v3 := Tryd.zeroValue3,
  t4 := Tryd.underlying4,
  a4 := Tryd.isAgg4,
  z4 := Tryd.sizeOf4,
  v4 := Tryd.zeroValue4,
  t5 := Tryd.underlying5,
  a5 := Tryd.isAgg5,
  z5 := Tryd.sizeOf5,
  v5 := Tryd.zeroValue5,
  t9 := Tryd.underlying9,
  a9 := Tryd.isAgg9,
  z9 := Tryd.sizeOf9,
  v9 := Tryd.zeroValue9,
  t21 := Tryd.underlying21,
  a21 := Tryd.isAgg21,
  z21 := Tryd.sizeOf21,
  v21 := Tryd.zeroValue21,
  t46 := Tryd.underlying61,
  a46 := Tryd.isAgg61,
  z46 := Tryd.sizeOf61,
  v46 := Tryd.zeroValue61,
  t105 := Tryd.underlying73,
  a105 := Tryd.isAgg73,
  z105 := Tryd.sizeOf73,
  v105 := Tryd.zeroValue73,
  t116 := Tryd.underlying84,
  a116 := Tryd.isAgg84,
  z116 := Tryd.sizeOf84,
  t117 := Tryd.underlying85,
  a117 := Tryd.isAgg85,
  z117 := Tryd.sizeOf85,
  v117 := Tryd.zeroValue85,
  t119 := Tryd.underlying102,
  a119 := Tryd.isAgg102,
  z119 := Tryd.sizeOf102,
  t124 := Tryd.underlying88,
  a124 := Tryd.isAgg88,
  z124 := Tryd.sizeOf88,
  v124 := Tryd.zeroValue88,
  t138 := Tryd.underlying104,
  a138 := Tryd.isAgg104,
  z138 := Tryd.sizeOf104,
  v138 := Tryd.zeroValue104,
  t139 := Tryd.underlying105,
  a139 := Tryd.isAgg105,
  z139 := Tryd.sizeOf105,
  v139 := Tryd.zeroValue105,
  g3 := by kernel_rfl,
  g4 := by kernel_rfl }
end Go.Proofs
namespace Go.Proofs.YtecddhkfhkpeaaaDoor.MapW
open Go.RowKit Go.Shelf Go.Lib
set_option linter.unusedSimpArgs false
set_option linter.unusedVariables false
def strings_Trim.f (a0 a1 : ByteArray) : Option ByteArray :=
  if a0.size ≤ 9223372036854775807 ∧ a1.size < 4294967281 ∧ a1.data.toList.all (fun b => decide (b.toNat < 128)) = true then
    some ⟨(Lib.trimS a0.data.toList a1.data.toList).toArray⟩ else none
theorem strings_Trim.calls (a0 a1 : ByteArray) (r : ByteArray) (w : World) (h : strings_Trim.f a0 a1 = some r) :
    Calls Tryd.prog 55 #[.string a0, .string a1] w fun e w' => e = .returned (.string r) ∧ Below w.heap.size w w' := by
  unfold strings_Trim.f at h
  split at h
  · rename_i hc
    obtain ⟨h1, h2, h3⟩ := hc
    obtain rfl := Option.some.inj h
    exact Any.strings_Trim_laid Tryd.lays160 (by kernel_rfl) a0 a1 w h1 h2 (ascii_of_all h3)
  · cases h
end Go.Proofs.YtecddhkfhkpeaaaDoor.MapW
