/- strings.Trim at an ASCII cutset, in the form of the print's contracts: what it gives, told as a function of its two texts. Condition: the texts' sizes are within bounds and the cutset is ASCII (the function gives nothing else). -/
import Derived.Test.YtmbcblabfgepfaaDoorProg
import Derived.WalkKit
import Derived.Ground.NamesProg
import Derived.Shelf.Strings.SlTrimAscii
namespace Go.Proofs
open Go.Shelf
def Tryd.lays160_ren : Go.Shelf.Ren := ⟨fun | 160 => 33 | 232 => 38 | 231 => 37 | 227 => 39 | 234 => 41 | 233 => 40 | 236 => 43 | 235 => 42 | 228 => 48 | 271 => 51 | 151 => 50 | 197 => 49 | 120 => 61 | 152 => 60 | 260 => 59 | 137 => 77 | 119 => 78 | 224 => 79 | 225 => 80 | 217 => 89 | 266 => 91 | n => n, fun | 9 => 9 | 4 => 4 | 3 => 3 | 5 => 5 | 117 => 70 | 116 => 69 | 0 => 0 | 124 => 73 | 21 => 21 | 105 => 77 | 46 => 89 | 119 => 107 | 139 => 110 | 138 => 109 | n => n, fun | 3 => 1 | 4 => 2 | n => n⟩
theorem Tryd.lays160 : Go.Proofs.Lays.n160 Tryd.prog Tryd.lays160_ren := {
  mixed := by kernel_rfl,
  f119 := Tryd.func78.trans (congrArg some (by kernel_rfl)),
  f120 := Tryd.func61.trans (congrArg some (by kernel_rfl)),
  f137 := Tryd.func77.trans (congrArg some (by kernel_rfl)),
  f151 := Tryd.func50.trans (congrArg some (by kernel_rfl)),
  f152 := Tryd.func60.trans (congrArg some (by kernel_rfl)),
  f160 := Tryd.func33.trans (congrArg some (by kernel_rfl)),
  f197 := Tryd.func49.trans (congrArg some (by kernel_rfl)),
  f217 := Tryd.func89.trans (congrArg some (by kernel_rfl)),
  f224 := Tryd.func79.trans (congrArg some (by kernel_rfl)),
  f225 := Tryd.func80.trans (congrArg some (by kernel_rfl)),
  f227 := Tryd.func39.trans (congrArg some (by kernel_rfl)),
  f228 := Tryd.func48.trans (congrArg some (by kernel_rfl)),
  f231 := Tryd.func37.trans (congrArg some (by kernel_rfl)),
  f232 := Tryd.func38.trans (congrArg some (by kernel_rfl)),
  f233 := Tryd.func40.trans (congrArg some (by kernel_rfl)),
  f234 := Tryd.func41.trans (congrArg some (by kernel_rfl)),
  f235 := Tryd.func42.trans (congrArg some (by kernel_rfl)),
  f236 := Tryd.func43.trans (congrArg some (by kernel_rfl)),
  f260 := Tryd.func59.trans (congrArg some (by kernel_rfl)),
  f266 := Tryd.func91.trans (congrArg some (by kernel_rfl)),
  f271 := Tryd.func51.trans (congrArg some (by kernel_rfl)),
  t0 := Tryd.underlying0,
  a0 := Tryd.isAgg0,
  z0 := Tryd.sizeOf0,
  v0 := Tryd.zeroValue0,
  t3 := Tryd.underlying3,
  a3 := Tryd.isAgg3,
  z3 := Tryd.sizeOf3,
  v3 := Tryd.zeroValue3,
  t4 := Tryd.underlying4,
  a4 := Tryd.isAgg4,
  z4 := Tryd.sizeOf4,
  v4 := Tryd.zeroValue4,
  t5 := Tryd.underlying5,
  a5 := Tryd.isAgg5,
  z5 := Tryd.sizeOf5,
  v5 := Tryd.zeroValue5,
  t9 := Tryd.underlying9,
  a9 := Tryd.isAgg9,
  z9 := Tryd.sizeOf9,
  v9 := Tryd.zeroValue9,
  t21 := Tryd.underlying21,
  a21 := Tryd.isAgg21,
  z21 := Tryd.sizeOf21,
  v21 := Tryd.zeroValue21,
  t46 := Tryd.underlying89,
  a46 := Tryd.isAgg89,
  z46 := Tryd.sizeOf89,
  v46 := Tryd.zeroValue89,
  t105 := Tryd.underlying77,
  a105 := Tryd.isAgg77,
  z105 := Tryd.sizeOf77,
  v105 := Tryd.zeroValue77,
  t116 := Tryd.underlying69,
  a116 := Tryd.isAgg69,
  z116 := Tryd.sizeOf69,
  t117 := Tryd.underlying70,
  a117 := Tryd.isAgg70,
  z117 := Tryd.sizeOf70,
  v117 := Tryd.zeroValue70,
  t119 := Tryd.underlying107,
  a119 := Tryd.isAgg107,
  z119 := Tryd.sizeOf107,
  t124 := Tryd.underlying73,
  a124 := Tryd.isAgg73,
  z124 := Tryd.sizeOf73,
  v124 := Tryd.zeroValue73,
  t138 := Tryd.underlying109,
  a138 := Tryd.isAgg109,
  z138 := Tryd.sizeOf109,
  v138 := Tryd.zeroValue109,
  t139 := Tryd.underlying110,
  a139 := Tryd.isAgg110,
  z139 := Tryd.sizeOf110,
  v139 := Tryd.zeroValue110,
  g3 := by kernel_rfl,
  g4 := by kernel_rfl }
end Go.Proofs
namespace Go.Proofs.YtmbcblabfgepfaaDoor.MapW
open Go.RowKit Go.Shelf Go.Lib
set_option linter.unusedSimpArgs false
set_option linter.unusedVariables false
def strings_Trim.f (a0 a1 : ByteArray) : Option ByteArray :=
  if a0.size ≤ 9223372036854775807 ∧ a1.size < 4294967281 ∧ a1.data.toList.all (fun b => decide (b.toNat < 128)) = true then
    some ⟨(Lib.trimS a0.data.toList a1.data.toList).toArray⟩ else none
theorem strings_Trim.calls (a0 a1 : ByteArray) (r : ByteArray) (w : World) (h : strings_Trim.f a0 a1 = some r) :
    Calls Tryd.prog 33 #[.string a0, .string a1] w fun e w' => e = .returned (.string r) ∧ Below w.heap.size w w' := by
  unfold strings_Trim.f at h
  split at h
  · rename_i hc
    obtain ⟨h1, h2, h3⟩ := hc
    obtain rfl := Option.some.inj h
    exact Any.strings_Trim_laid Tryd.lays160 (by kernel_rfl) a0 a1 w h1 h2 (ascii_of_all h3)
  · cases h
end Go.Proofs.YtmbcblabfgepfaaDoor.MapW
