/- strings.Trim at an ASCII cutset, in the form of the print's contracts: what it gives, told as a function of its two texts. Condition: the texts' sizes are within bounds and the cutset is ASCII (the function gives nothing else). -/
import Derived.Test.YtmfcblbpicbhoaaDoorProg
import Derived.WalkKit
import Derived.Ground.NamesProg
import Derived.Shelf.Strings.SlTrimAscii
namespace Go.Proofs
open Go.Shelf
def Tryd.lays160_ren : Go.Shelf.Ren := ⟨fun | 160 => 53 | 232 => 55 | 231 => 54 | 227 => 56 | 234 => 58 | 233 => 57 | 236 => 60 | 235 => 59 | 228 => 61 | 271 => 64 | 151 => 63 | 197 => 62 | 120 => 67 | 152 => 66 | 260 => 65 | 137 => 68 | 119 => 69 | 224 => 70 | 225 => 71 | 217 => 72 | 266 => 73 | n => n, fun | 9 => 9 | 4 => 4 | 3 => 3 | 5 => 5 | 117 => 74 | 116 => 73 | 0 => 0 | 124 => 77 | 21 => 21 | 105 => 79 | 46 => 56 | 119 => 83 | 139 => 86 | 138 => 85 | n => n, fun | 3 => 1 | 4 => 2 | n => n⟩
theorem Tryd.lays160 : Go.Proofs.Lays.n160 Tryd.prog Tryd.lays160_ren := {
  mixed := by kernel_rfl,
  f119 := Tryd.func69.trans (congrArg some (by kernel_rfl)),
  f120 := Tryd.func67.trans (congrArg some (by kernel_rfl)),
  f137 := Tryd.func68.trans (congrArg some (by kernel_rfl)),
  f151 := Tryd.func63.trans (congrArg some (by kernel_rfl)),
  f152 := Tryd.func66.trans (congrArg some (by kernel_rfl)),
  f160 := Tryd.func53.trans (congrArg some (by kernel_rfl)),
  f197 := Tryd.func62.trans (congrArg some (by kernel_rfl)),
  f217 := Tryd.func72.trans (congrArg some (by kernel_rfl)),
  f224 := Tryd.func70.trans (congrArg some (by kernel_rfl)),
  f225 := Tryd.func71.trans (congrArg some (by kernel_rfl)),
  f227 := Tryd.func56.trans (congrArg some (by kernel_rfl)),
  f228 := Tryd.func61.trans (congrArg some (by kernel_rfl)),
  f231 := Tryd.func54.trans (congrArg some (by kernel_rfl)),
  f232 := Tryd.func55.trans (congrArg some (by kernel_rfl)),
  f233 := Tryd.func57.trans (congrArg some (by kernel_rfl)),
  f234 := Tryd.func58.trans (congrArg some (by kernel_rfl)),
  f235 := Tryd.func59.trans (congrArg some (by kernel_rfl)),
  f236 := Tryd.func60.trans (congrArg some (by kernel_rfl)),
  f260 := Tryd.func65.trans (congrArg some (by kernel_rfl)),
  f266 := Tryd.func73.trans (congrArg some (by kernel_rfl)),
  f271 := Tryd.func64.trans (congrArg some (by kernel_rfl)),
  t0 := Tryd.underlying0,
  a0 := Tryd.isAgg0,
  z0 := Tryd.sizeOf0,
  v0 := Tryd.zeroValue0,
  t3 := Tryd.underlying3,
  a3 := Tryd.isAgg3,
  z3 := Tryd.sizeOf3,
  v3 := Tryd.zeroValue3,
  t4 := Tryd.underlying4,
  a4 := Tryd.isAgg4,
  z4 := Tryd.sizeOf4,
  v4 := Tryd.zeroValue4,
  t5 := Tryd.underlying5,
  a5 := Tryd.isAgg5,
  z5 := Tryd.sizeOf5,
  v5 := Tryd.zeroValue5,
  t9 := Tryd.underlying9,
  a9 := Tryd.isAgg9,
  z9 := Tryd.sizeOf9,
  v9 := Tryd.zeroValue9,
  t21 := Tryd.underlying21,
  a21 := Tryd.isAgg21,
  z21 := Tryd.sizeOf21,
  v21 := Tryd.zeroValue21,
  t46 := Tryd.underlying56,
  a46 := Tryd.isAgg56,
  z46 := Tryd.sizeOf56,
  v46 := Tryd.zeroValue56,
  t105 := Tryd.underlying79,
  a105 := Tryd.isAgg79,
  z105 := Tryd.sizeOf79,
  v105 := Tryd.zeroValue79,
  t116 := Tryd.underlying73,
  a116 := Tryd.isAgg73,
  z116 := Tryd.sizeOf73,
  t117 := Tryd.underlying74,
  a117 := Tryd.isAgg74,
  z117 := Tryd.sizeOf74,
  v117 := Tryd.zeroValue74,
  t119 := Tryd.underlying83,
  a119 := Tryd.isAgg83,
  z119 := Tryd.sizeOf83,
  t124 := Tryd.underlying77,
  a124 := Tryd.isAgg77,
  z124 := Tryd.sizeOf77,
  v124 := Tryd.zeroValue77,
  t138 := Tryd.underlying85,
  a138 := Tryd.isAgg85,
  z138 := Tryd.sizeOf85,
  v138 := Tryd.zeroValue85,
  t139 := Tryd.underlying86,
  a139 := Tryd.isAgg86,
  z139 := Tryd.sizeOf86,
  v139 := Tryd.zeroValue86,
  g3 := by kernel_rfl,
  g4 := by kernel_rfl }
end Go.Proofs
namespace Go.Proofs.YtmfcblbpicbhoaaDoor.MapW
open Go.RowKit Go.Shelf Go.Lib
set_option linter.unusedSimpArgs false
set_option linter.unusedVariables false
def strings_Trim.f (a0 a1 : ByteArray) : Option ByteArray :=
  if a0.size ≤ 9223372036854775807 ∧ a1.size < 4294967281 ∧ a1.data.toList.all (fun b => decide (b.toNat < 128)) = true then
    some ⟨(Lib.trimS a0.data.toList a1.data.toList).toArray⟩ else none
theorem strings_Trim.calls (a0 a1 : ByteArray) (r : ByteArray) (w : World) (h : strings_Trim.f a0 a1 = some r) :
    Calls Tryd.prog 53 #[.string a0, .string a1] w fun e w' => e = .returned (.string r) ∧ Below w.heap.size w w' := by
  unfold strings_Trim.f at h
  split at h
  · rename_i hc
    obtain ⟨h1, h2, h3⟩ := hc
    obtain rfl := Option.some.inj h
    exact Any.strings_Trim_laid Tryd.lays160 (by kernel_rfl) a0 a1 w h1 h2 (ascii_of_all h3)
  · cases h
end Go.Proofs.YtmfcblbpicbhoaaDoor.MapW
