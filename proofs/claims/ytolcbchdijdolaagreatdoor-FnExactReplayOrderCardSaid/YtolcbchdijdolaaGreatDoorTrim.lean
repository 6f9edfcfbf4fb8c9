/- strings.Trim at an ASCII cutset, in the form of the print's contracts: what it gives, told as a function of its two texts. Condition: the texts' sizes are within bounds and the cutset is ASCII (the function gives nothing else). -/
import Derived.Test.YtolcbchdijdolaaGreatDoorProg
import Derived.WalkKit
import Derived.Ground.NamesProg
import Derived.Shelf.Strings.SlTrimAscii
namespace Go.Proofs
open Go.Shelf
def Tryz.lays160_ren : Go.Shelf.Ren := ⟨fun | 160 => 63 | 232 => 79 | 231 => 78 | 227 => 80 | 234 => 82 | 233 => 81 | 236 => 84 | 235 => 83 | 228 => 90 | 271 => 93 | 151 => 92 | 197 => 91 | 120 => 108 | 152 => 107 | 260 => 106 | 137 => 115 | 119 => 116 | 224 => 117 | 225 => 118 | 217 => 120 | 266 => 121 | n => n, fun | 9 => 9 | 4 => 4 | 3 => 3 | 5 => 5 | 117 => 130 | 116 => 129 | 0 => 0 | 124 => 133 | 21 => 21 | 105 => 140 | 46 => 134 | 119 => 162 | 139 => 165 | 138 => 164 | n => n, fun | 3 => 1 | 4 => 2 | n => n⟩
theorem Tryz.lays160 : Go.Proofs.Lays.n160 Tryz.prog Tryz.lays160_ren := {
  mixed := by kernel_rfl,
  f119 := Tryz.func116.trans (congrArg some (by kernel_rfl)),
  f120 := Tryz.func108.trans (congrArg some (by kernel_rfl)),
  f137 := Tryz.func115.trans (congrArg some (by kernel_rfl)),
  f151 := Tryz.func92.trans (congrArg some (by kernel_rfl)),
  f152 := Tryz.func107.trans (congrArg some (by kernel_rfl)),
  f160 := Tryz.func63.trans (congrArg some (by kernel_rfl)),
  f197 := Tryz.func91.trans (congrArg some (by kernel_rfl)),
  f217 := Tryz.func120.trans (congrArg some (by kernel_rfl)),
  f224 := Tryz.func117.trans (congrArg some (by kernel_rfl)),
  f225 := Tryz.func118.trans (congrArg some (by kernel_rfl)),
  f227 := Tryz.func80.trans (congrArg some (by kernel_rfl)),
  f228 := Tryz.func90.trans (congrArg some (by kernel_rfl)),
  f231 := Tryz.func78.trans (congrArg some (by kernel_rfl)),
  f232 := Tryz.func79.trans (congrArg some (by kernel_rfl)),
  f233 := Tryz.func81.trans (congrArg some (by kernel_rfl)),
  f234 := Tryz.func82.trans (congrArg some (by kernel_rfl)),
  f235 := Tryz.func83.trans (congrArg some (by kernel_rfl)),
  f236 := Tryz.func84.trans (congrArg some (by kernel_rfl)),
  f260 := Tryz.func106.trans (congrArg some (by kernel_rfl)),
  f266 := Tryz.func121.trans (congrArg some (by kernel_rfl)),
  f271 := Tryz.func93.trans (congrArg some (by kernel_rfl)),
  t0 := Tryz.underlying0,
  a0 := Tryz.isAgg0,
  z0 := Tryz.sizeOf0,
  v0 := Tryz.zeroValue0,
  t3 := Tryz.underlying3,
  a3 := Tryz.isAgg3,
  z3 := Tryz.sizeOf3,
  v3 := Tryz.zeroValue3,
  t4 := Tryz.underlying4,
  a4 := Tryz.isAgg4,
  z4 := Tryz.sizeOf4,
  v4 := Tryz.zeroValue4,
  t5 := Tryz.underlying5,
  a5 := Tryz.isAgg5,
  z5 := Tryz.sizeOf5,
  v5 := Tryz.zeroValue5,
  t9 := Tryz.underlying9,
  a9 := Tryz.isAgg9,
  z9 := Tryz.sizeOf9,
  v9 := Tryz.zeroValue9,
  t21 := Tryz.underlying21,
  a21 := Tryz.isAgg21,
  z21 := Tryz.sizeOf21,
  v21 := Tryz.zeroValue21,
  t46 := Tryz.underlying134,
  a46 := Tryz.isAgg134,
  z46 := Tryz.sizeOf134,
  v46 := Tryz.zeroValue134,
  t105 := Tryz.underlying140,
  a105 := Tryz.isAgg140,
  z105 := Tryz.sizeOf140,
  v105 := Tryz.zeroValue140,
  t116 := Tryz.underlying129,
  a116 := Tryz.isAgg129,
  z116 := Tryz.sizeOf129,
  t117 := Tryz.underlying130,
  a117 := Tryz.isAgg130,
  z117 := Tryz.sizeOf130,
  v117 := Tryz.zeroValue130,
  t119 := Tryz.underlying162,
  a119 := Tryz.isAgg162,
  z119 := Tryz.sizeOf162,
  t124 := Tryz.underlying133,
  a124 := Tryz.isAgg133,
  z124 := Tryz.sizeOf133,
  v124 := Tryz.zeroValue133,
  t138 := Tryz.underlying164,
  a138 := Tryz.isAgg164,
  z138 := Tryz.sizeOf164,
  v138 := Tryz.zeroValue164,
  t139 := Tryz.underlying165,
  a139 := Tryz.isAgg165,
  z139 := Tryz.sizeOf165,
  v139 := Tryz.zeroValue165,
  g3 := by kernel_rfl,
  g4 := by kernel_rfl }
end Go.Proofs
namespace Go.Proofs.YtolcbchdijdolaaGreatDoor.MapW
open Go.RowKit Go.Shelf Go.Lib
set_option linter.unusedSimpArgs false
set_option linter.unusedVariables false
def strings_Trim.f (a0 a1 : ByteArray) : Option ByteArray :=
  if a0.size ≤ 9223372036854775807 ∧ a1.size < 4294967281 ∧ a1.data.toList.all (fun b => decide (b.toNat < 128)) = true then
    some ⟨(Lib.trimS a0.data.toList a1.data.toList).toArray⟩ else none
theorem strings_Trim.calls (a0 a1 : ByteArray) (r : ByteArray) (w : World) (h : strings_Trim.f a0 a1 = some r) :
    Calls Tryz.prog 63 #[.string a0, .string a1] w fun e w' => e = .returned (.string r) ∧ Below w.heap.size w w' := by
  unfold strings_Trim.f at h
  split at h
  · rename_i hc
    obtain ⟨h1, h2, h3⟩ := hc
    obtain rfl := Option.some.inj h
    exact Any.strings_Trim_laid Tryz.lays160 (by kernel_rfl) a0 a1 w h1 h2 (ascii_of_all h3)
  · cases h
end Go.Proofs.YtolcbchdijdolaaGreatDoor.MapW
