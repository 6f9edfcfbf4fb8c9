/- strings.Trim at an ASCII cutset, in the form of the print's contracts: what it gives, told as a function of its two texts. Condition: the texts' sizes are within bounds and the cutset is ASCII (the function gives nothing else). -/
import Derived.Test.YtolcbchdijdolaaDoorProg
import Derived.WalkKit
import Derived.Ground.NamesProg
import Derived.Shelf.Strings.SlTrimAscii
namespace Go.Proofs
open Go.Shelf
def Tryd.lays160_ren : Go.Shelf.Ren := ⟨fun | 160 => 78 | 232 => 88 | 231 => 87 | 227 => 89 | 234 => 91 | 233 => 90 | 236 => 93 | 235 => 92 | 228 => 96 | 271 => 99 | 151 => 98 | 197 => 97 | 120 => 102 | 152 => 101 | 260 => 100 | 137 => 103 | 119 => 104 | 224 => 105 | 225 => 106 | 217 => 107 | 266 => 108 | n => n, fun | 9 => 9 | 4 => 4 | 3 => 3 | 5 => 5 | 117 => 126 | 116 => 125 | 0 => 0 | 124 => 129 | 21 => 21 | 105 => 132 | 46 => 115 | 119 => 136 | 139 => 139 | 138 => 138 | n => n, fun | 3 => 1 | 4 => 2 | n => n⟩
theorem Tryd.lays160 : Go.Proofs.Lays.n160 Tryd.prog Tryd.lays160_ren := {
  mixed := by kernel_rfl,
  f119 := Tryd.func104.trans (congrArg some (by kernel_rfl)),
  f120 := Tryd.func102.trans (congrArg some (by kernel_rfl)),
  f137 := Tryd.func103.trans (congrArg some (by kernel_rfl)),
  f151 := Tryd.func98.trans (congrArg some (by kernel_rfl)),
  f152 := Tryd.func101.trans (congrArg some (by kernel_rfl)),
  f160 := Tryd.func78.trans (congrArg some (by kernel_rfl)),
  f197 := Tryd.func97.trans (congrArg some (by kernel_rfl)),
  f217 := Tryd.func107.trans (congrArg some (by kernel_rfl)),
  f224 := Tryd.func105.trans (congrArg some (by kernel_rfl)),
  f225 := Tryd.func106.trans (congrArg some (by kernel_rfl)),
  f227 := Tryd.func89.trans (congrArg some (by kernel_rfl)),
  f228 := Tryd.func96.trans (congrArg some (by kernel_rfl)),
  f231 := Tryd.func87.trans (congrArg some (by kernel_rfl)),
  f232 := Tryd.func88.trans (congrArg some (by kernel_rfl)),
  f233 := Tryd.func90.trans (congrArg some (by kernel_rfl)),
  f234 := Tryd.func91.trans (congrArg some (by kernel_rfl)),
  f235 := Tryd.func92.trans (congrArg some (by kernel_rfl)),
  f236 := Tryd.func93.trans (congrArg some (by kernel_rfl)),
  f260 := Tryd.func100.trans (congrArg some (by kernel_rfl)),
  f266 := Tryd.func108.trans (congrArg some (by kernel_rfl)),
  f271 := Tryd.func99.trans (congrArg some (by kernel_rfl)),
  t0 := Tryd.underlying0,
  a0 := Tryd.isAgg0,
  z0 := Tryd.sizeOf0,
  v0 := Tryd.zeroValue0,
  t3 := Tryd.underlying3,
  a3 := Tryd.isAgg3,
  z3 := Tryd.sizeOf3,
  v3 := Tryd.zeroValue3,
  t4 := Tryd.underlying4,
  a4 := Tryd.isAgg4,
  z4 := Tryd.sizeOf4,
  v4 := Tryd.zeroValue4,
  t5 := Tryd.underlying5,
  a5 := Tryd.isAgg5,
  z5 := Tryd.sizeOf5,
  v5 := Tryd.zeroValue5,
  t9 := Tryd.underlying9,
  a9 := Tryd.isAgg9,
  z9 := Tryd.sizeOf9,
  v9 := Tryd.zeroValue9,
  t21 := Tryd.underlying21,
  a21 := Tryd.isAgg21,
  z21 := Tryd.sizeOf21,
  v21 := Tryd.zeroValue21,
  t46 := Tryd.underlying115,
  a46 := Tryd.isAgg115,
  z46 := Tryd.sizeOf115,
  v46 := Tryd.zeroValue115,
  t105 := Tryd.underlying132,
  a105 := Tryd.isAgg132,
  z105 := Tryd.sizeOf132,
  v105 := Tryd.zeroValue132,
  t116 := Tryd.underlying125,
  a116 := Tryd.isAgg125,
  z116 := Tryd.sizeOf125,
  t117 := Tryd.underlying126,
  a117 := Tryd.isAgg126,
  z117 := Tryd.sizeOf126,
  v117 := Tryd.zeroValue126,
  t119 := Tryd.underlying136,
  a119 := Tryd.isAgg136,
  z119 := Tryd.sizeOf136,
  t124 := Tryd.underlying129,
  a124 := Tryd.isAgg129,
  z124 := Tryd.sizeOf129,
  v124 := Tryd.zeroValue129,
  t138 := Tryd.underlying138,
  a138 := Tryd.isAgg138,
  z138 := Tryd.sizeOf138,
  v138 := Tryd.zeroValue138,
  t139 := Tryd.underlying139,
  a139 := Tryd.isAgg139,
  z139 := Tryd.sizeOf139,
  v139 := Tryd.zeroValue139,
  g3 := by kernel_rfl,
  g4 := by kernel_rfl }
end Go.Proofs
namespace Go.Proofs.YtolcbchdijdolaaDoor.MapW
open Go.RowKit Go.Shelf Go.Lib
set_option linter.unusedSimpArgs false
set_option linter.unusedVariables false
def strings_Trim.f (a0 a1 : ByteArray) : Option ByteArray :=
  if a0.size ≤ 9223372036854775807 ∧ a1.size < 4294967281 ∧ a1.data.toList.all (fun b => decide (b.toNat < 128)) = true then
    some ⟨(Lib.trimS a0.data.toList a1.data.toList).toArray⟩ else none
theorem strings_Trim.calls (a0 a1 : ByteArray) (r : ByteArray) (w : World) (h : strings_Trim.f a0 a1 = some r) :
    Calls Tryd.prog 78 #[.string a0, .string a1] w fun e w' => e = .returned (.string r) ∧ Below w.heap.size w w' := by
  unfold strings_Trim.f at h
  split at h
  · rename_i hc
    obtain ⟨h1, h2, h3⟩ := hc
    obtain rfl := Option.some.inj h
    exact Any.strings_Trim_laid Tryd.lays160 (by kernel_rfl) a0 a1 w h1 h2 (ascii_of_all h3)
  · cases h
end Go.Proofs.YtolcbchdijdolaaDoor.MapW
