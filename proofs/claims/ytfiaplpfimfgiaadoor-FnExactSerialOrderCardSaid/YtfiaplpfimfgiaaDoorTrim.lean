/- strings.Trim at an ASCII cutset, in the form of the print's contracts: what it gives, told as a function of its two texts. Condition: the texts' sizes are within bounds and the cutset is ASCII (the function gives nothing else). -/
import Derived.Test.YtfiaplpfimfgiaaDoorProg
import Derived.WalkKit
import Derived.Ground.NamesProg
import Derived.Shelf.Strings.SlTrimAscii
namespace Go.Proofs
open Go.Shelf
def Tryd.lays160_ren : Go.Shelf.Ren := ⟨fun | 160 => 40 | 232 => 49 | 231 => 48 | 227 => 50 | 234 => 52 | 233 => 51 | 236 => 54 | 235 => 53 | 228 => 68 | 271 => 71 | 151 => 70 | 197 => 69 | 120 => 87 | 152 => 86 | 260 => 85 | 137 => 92 | 119 => 93 | 224 => 94 | 225 => 95 | 217 => 97 | 266 => 98 | n => n, fun | 9 => 9 | 4 => 4 | 3 => 3 | 5 => 5 | 117 => 71 | 116 => 70 | 0 => 0 | 124 => 74 | 21 => 21 | 105 => 90 | 46 => 63 | 119 => 110 | 139 => 113 | 138 => 112 | n => n, fun | 3 => 0 | 4 => 1 | n => n⟩
theorem Tryd.lays160 : Go.Proofs.Lays.n160 Tryd.prog Tryd.lays160_ren := {
  mixed := by kernel_rfl,
  f119 := Tryd.func93.trans (congrArg some (by kernel_rfl)),
  f120 := Tryd.func87.trans (congrArg some (by kernel_rfl)),
  f137 := Tryd.func92.trans (congrArg some (by kernel_rfl)),
  f151 := Tryd.func70.trans (congrArg some (by kernel_rfl)),
  f152 := Tryd.func86.trans (congrArg some (by kernel_rfl)),
  f160 := Tryd.func40.trans (congrArg some (by kernel_rfl)),
  f197 := Tryd.func69.trans (congrArg some (by kernel_rfl)),
  f217 := Tryd.func97.trans (congrArg some (by kernel_rfl)),
  f224 := Tryd.func94.trans (congrArg some (by kernel_rfl)),
  f225 := Tryd.func95.trans (congrArg some (by kernel_rfl)),
  f227 := Tryd.func50.trans (congrArg some (by kernel_rfl)),
  f228 := Tryd.func68.trans (congrArg some (by kernel_rfl)),
  f231 := Tryd.func48.trans (congrArg some (by kernel_rfl)),
  f232 := Tryd.func49.trans (congrArg some (by kernel_rfl)),
  f233 := Tryd.func51.trans (congrArg some (by kernel_rfl)),
  f234 := Tryd.func52.trans (congrArg some (by kernel_rfl)),
  f235 := Tryd.func53.trans (congrArg some (by kernel_rfl)),
  f236 := Tryd.func54.trans (congrArg some (by kernel_rfl)),
  f260 := Tryd.func85.trans (congrArg some (by kernel_rfl)),
  f266 := Tryd.func98.trans (congrArg some (by kernel_rfl)),
  f271 := Tryd.func71.trans (congrArg some (by kernel_rfl)),
  t0 := Tryd.underlying0,
  a0 := Tryd.isAgg0,
  z0 := Tryd.sizeOf0,
  v0 := Tryd.zeroValue0,
  t3 := Tryd.underlying3,
  a3 := Tryd.isAgg3,
  z3 := Tryd.sizeOf3,
  v3 := Tryd.zeroValue3,
  t4 := Tryd.underlying4,
  a4 := Tryd.isAgg4,
  z4 := Tryd.sizeOf4,
  v4 := Tryd.zeroValue4,
  t5 := Tryd.underlying5,
  a5 := Tryd.isAgg5,
  z5 := Tryd.sizeOf5,
  v5 := Tryd.zeroValue5,
  t9 := Tryd.underlying9,
  a9 := Tryd.isAgg9,
  z9 := Tryd.sizeOf9,
  v9 := Tryd.zeroValue9,
  t21 := Tryd.underlying21,
  a21 := Tryd.isAgg21,
  z21 := Tryd.sizeOf21,
  v21 := Tryd.zeroValue21,
  t46 := Tryd.underlying63,
  a46 := Tryd.isAgg63,
  z46 := Tryd.sizeOf63,
  v46 := Tryd.zeroValue63,
  t105 := Tryd.underlying90,
  a105 := Tryd.isAgg90,
  z105 := Tryd.sizeOf90,
  v105 := Tryd.zeroValue90,
  t116 := Tryd.underlying70,
  a116 := Tryd.isAgg70,
  z116 := Tryd.sizeOf70,
  t117 := Tryd.underlying71,
  a117 := Tryd.isAgg71,
  z117 := Tryd.sizeOf71,
  v117 := Tryd.zeroValue71,
  t119 := Tryd.underlying110,
  a119 := Tryd.isAgg110,
  z119 := Tryd.sizeOf110,
  t124 := Tryd.underlying74,
  a124 := Tryd.isAgg74,
  z124 := Tryd.sizeOf74,
  v124 := Tryd.zeroValue74,
  t138 := Tryd.underlying112,
  a138 := Tryd.isAgg112,
  z138 := Tryd.sizeOf112,
  v138 := Tryd.zeroValue112,
  t139 := Tryd.underlying113,
  a139 := Tryd.isAgg113,
  z139 := Tryd.sizeOf113,
  v139 := Tryd.zeroValue113,
  g3 := by kernel_rfl,
  g4 := by kernel_rfl }
end Go.Proofs
namespace Go.Proofs.YtfiaplpfimfgiaaDoor.MapW
open Go.RowKit Go.Shelf Go.Lib
set_option linter.unusedSimpArgs false
set_option linter.unusedVariables false
def strings_Trim.f (a0 a1 : ByteArray) : Option ByteArray :=
  if a0.size ≤ 9223372036854775807 ∧ a1.size < 4294967281 ∧ a1.data.toList.all (fun b => decide (b.toNat < 128)) = true then
    some ⟨(Lib.trimS a0.data.toList a1.data.toList).toArray⟩ else none
theorem strings_Trim.calls (a0 a1 : ByteArray) (r : ByteArray) (w : World) (h : strings_Trim.f a0 a1 = some r) :
    Calls Tryd.prog 40 #[.string a0, .string a1] w fun e w' => e = .returned (.string r) ∧ Below w.heap.size w w' := by
  unfold strings_Trim.f at h
  split at h
  · rename_i hc
    obtain ⟨h1, h2, h3⟩ := hc
    obtain rfl := Option.some.inj h
    exact Any.strings_Trim_laid Tryd.lays160 (by kernel_rfl) a0 a1 w h1 h2 (ascii_of_all h3)
  · cases h
end Go.Proofs.YtfiaplpfimfgiaaDoor.MapW
