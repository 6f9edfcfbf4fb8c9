/- strings.Trim at an ASCII cutset, in the form of the print's contracts: what it gives, told as a function of its two texts. Condition: the texts' sizes are within bounds and the cutset is ASCII (the function gives nothing else). -/
import Derived.Test.YtjckjjpldplckaaDoorProg
import Derived.WalkKit
import Derived.Ground.NamesProg
import Derived.Shelf.Strings.SlTrimAscii
namespace Go.Proofs
open Go.Shelf
def Tryd.lays160_ren : Go.Shelf.Ren := ⟨fun | 160 => 74 | 232 => 101 | 231 => 100 | 227 => 102 | 234 => 104 | 233 => 103 | 236 => 106 | 235 => 105 | 228 => 117 | 271 => 120 | 151 => 119 | 197 => 118 | 120 => 137 | 152 => 136 | 260 => 135 | 137 => 145 | 119 => 146 | 224 => 147 | 225 => 148 | 217 => 151 | 266 => 152 | n => n, fun | 9 => 9 | 4 => 4 | 3 => 3 | 5 => 5 | 117 => 123 | 116 => 122 | 0 => 0 | 124 => 126 | 21 => 21 | 105 => 136 | 46 => 131 | 119 => 159 | 139 => 162 | 138 => 161 | n => n, fun | 3 => 1 | 4 => 2 | n => n⟩
theorem Tryd.lays160 : Go.Proofs.Lays.n160 Tryd.prog Tryd.lays160_ren := {
  mixed := by kernel_rfl,
  f119 := Tryd.func146.trans (congrArg some (by kernel_rfl)),
  f120 := Tryd.func137.trans (congrArg some (by kernel_rfl)),
  f137 := Tryd.func145.trans (congrArg some (by kernel_rfl)),
  f151 := Tryd.func119.trans (congrArg some (by kernel_rfl)),
  f152 := Tryd.func136.trans (congrArg some (by kernel_rfl)),
  f160 := Tryd.func74.trans (congrArg some (by kernel_rfl)),
  f197 := Tryd.func118.trans (congrArg some (by kernel_rfl)),
  f217 := Tryd.func151.trans (congrArg some (by kernel_rfl)),
  f224 := Tryd.func147.trans (congrArg some (by kernel_rfl)),
  f225 := Tryd.func148.trans (congrArg some (by kernel_rfl)),
  f227 := Tryd.func102.trans (congrArg some (by kernel_rfl)),
  f228 := Tryd.func117.trans (congrArg some (by kernel_rfl)),
  f231 := Tryd.func100.trans (congrArg some (by kernel_rfl)),
  f232 := Tryd.func101.trans (congrArg some (by kernel_rfl)),
  f233 := Tryd.func103.trans (congrArg some (by kernel_rfl)),
  f234 := Tryd.func104.trans (congrArg some (by kernel_rfl)),
  f235 := Tryd.func105.trans (congrArg some (by kernel_rfl)),
  f236 := Tryd.func106.trans (congrArg some (by kernel_rfl)),
  f260 := Tryd.func135.trans (congrArg some (by kernel_rfl)),
  f266 := Tryd.func152.trans (congrArg some (by kernel_rfl)),
  f271 := Tryd.func120.trans (congrArg some (by kernel_rfl)),
  t0 := Tryd.underlying0,
  a0 := Tryd.isAgg0,
  z0 := Tryd.sizeOf0,
  v0 := Tryd.zeroValue0,
  t3 := Tryd.underlying3,
  a3 := Tryd.isAgg3,
  z3 := Tryd.sizeOf3,
  v3 := Tryd.zeroValue3,
  t4 := Tryd.underlying4,
  a4 := Tryd.isAgg4,
  z4 := Tryd.sizeOf4,
  v4 := Tryd.zeroValue4,
  t5 := Tryd.underlying5,
  a5 := Tryd.isAgg5,
  z5 := Tryd.sizeOf5,
  v5 := Tryd.zeroValue5,
  t9 := Tryd.underlying9,
  a9 := Tryd.isAgg9,
  z9 := Tryd.sizeOf9,
  v9 := Tryd.zeroValue9,
  t21 := Tryd.underlying21,
  a21 := Tryd.isAgg21,
  z21 := Tryd.sizeOf21,
  v21 := Tryd.zeroValue21,
  t46 := Tryd.underlying131,
  a46 := Tryd.isAgg131,
  z46 := Tryd.sizeOf131,
  v46 := Tryd.zeroValue131,
  t105 := Tryd.underlying136,
  a105 := Tryd.isAgg136,
  z105 := Tryd.sizeOf136,
  v105 := Tryd.zeroValue136,
  t116 := Tryd.underlying122,
  a116 := Tryd.isAgg122,
  z116 := Tryd.sizeOf122,
  t117 := Tryd.underlying123,
  a117 := Tryd.isAgg123,
  z117 := Tryd.sizeOf123,
  v117 := Tryd.zeroValue123,
  t119 := Tryd.underlying159,
  a119 := Tryd.isAgg159,
  z119 := Tryd.sizeOf159,
  t124 := Tryd.underlying126,
  a124 := Tryd.isAgg126,
  z124 := Tryd.sizeOf126,
  v124 := Tryd.zeroValue126,
  t138 := Tryd.underlying161,
  a138 := Tryd.isAgg161,
  z138 := Tryd.sizeOf161,
  v138 := Tryd.zeroValue161,
  t139 := Tryd.underlying162,
  a139 := Tryd.isAgg162,
  z139 := Tryd.sizeOf162,
  v139 := Tryd.zeroValue162,
  g3 := by kernel_rfl,
  g4 := by kernel_rfl }
end Go.Proofs
namespace Go.Proofs.YtjckjjpldplckaaDoor.MapW
open Go.RowKit Go.Shelf Go.Lib
set_option linter.unusedSimpArgs false
set_option linter.unusedVariables false
def strings_Trim.f (a0 a1 : ByteArray) : Option ByteArray :=
  if a0.size ≤ 9223372036854775807 ∧ a1.size < 4294967281 ∧ a1.data.toList.all (fun b => decide (b.toNat < 128)) = true then
    some ⟨(Lib.trimS a0.data.toList a1.data.toList).toArray⟩ else none
theorem strings_Trim.calls (a0 a1 : ByteArray) (r : ByteArray) (w : World) (h : strings_Trim.f a0 a1 = some r) :
    Calls Tryd.prog 74 #[.string a0, .string a1] w fun e w' => e = .returned (.string r) ∧ Below w.heap.size w w' := by
  unfold strings_Trim.f at h
  split at h
  · rename_i hc
    obtain ⟨h1, h2, h3⟩ := hc
    obtain rfl := Option.some.inj h
    exact Any.strings_Trim_laid Tryd.lays160 (by kernel_rfl) a0 a1 w h1 h2 (ascii_of_all h3)
  · cases h
end Go.Proofs.YtjckjjpldplckaaDoor.MapW
