/- strings.Trim at an ASCII cutset, in the form of the print's contracts: what it gives, told as a function of its two texts. Condition: the texts' sizes are within bounds and the cutset is ASCII (the function gives nothing else). -/
import Derived.Test.YtaenobdphjindaaDoorProg
import Derived.WalkKit
import Derived.Ground.NamesProg
import Derived.Shelf.Strings.SlTrimAscii
namespace Go.Proofs
open Go.Shelf
def Tryd.lays160_ren : Go.Shelf.Ren := ⟨fun | 160 => 87 | 232 => 105 | 231 => 104 | 227 => 106 | 234 => 108 | 233 => 107 | 236 => 110 | 235 => 109 | 228 => 121 | 271 => 123 | 151 => 122 | 197 => 116 | 120 => 132 | 152 => 131 | 260 => 128 | 137 => 138 | 119 => 139 | 224 => 94 | 225 => 93 | 217 => 92 | 266 => 113 | n => n, fun | 9 => 9 | 4 => 4 | 3 => 3 | 5 => 5 | 117 => 117 | 116 => 116 | 0 => 0 | 124 => 120 | 21 => 21 | 105 => 126 | 46 => 97 | 119 => 152 | 139 => 155 | 138 => 154 | n => n, fun | 3 => 4 | 4 => 5 | n => n⟩
theorem Tryd.lays160 : Go.Proofs.Lays.n160 Tryd.prog Tryd.lays160_ren := {
  mixed := by kernel_rfl,
  f119 := Tryd.func139.trans (congrArg some (by kernel_rfl)),
  f120 := Tryd.func132.trans (congrArg some (by kernel_rfl)),
  f137 := Tryd.func138.trans (congrArg some (by kernel_rfl)),
  f151 := Tryd.func122.trans (congrArg some (by kernel_rfl)),
  f152 := Tryd.func131.trans (congrArg some (by kernel_rfl)),
  f160 := Tryd.func87.trans (congrArg some (by kernel_rfl)),
  f197 := Tryd.func116.trans (congrArg some (by kernel_rfl)),
  f217 := Tryd.func92.trans (congrArg some (by kernel_rfl)),
  f224 := Tryd.func94.trans (congrArg some (by kernel_rfl)),
  f225 := Tryd.func93.trans (congrArg some (by kernel_rfl)),
  f227 := Tryd.func106.trans (congrArg some (by kernel_rfl)),
  f228 := Tryd.func121.trans (congrArg some (by kernel_rfl)),
  f231 := Tryd.func104.trans (congrArg some (by kernel_rfl)),
  f232 := Tryd.func105.trans (congrArg some (by kernel_rfl)),
  f233 := Tryd.func107.trans (congrArg some (by kernel_rfl)),
  f234 := Tryd.func108.trans (congrArg some (by kernel_rfl)),
  f235 := Tryd.func109.trans (congrArg some (by kernel_rfl)),
  f236 := Tryd.func110.trans (congrArg some (by kernel_rfl)),
  f260 := Tryd.func128.trans (congrArg some (by kernel_rfl)),
  f266 := Tryd.func113.trans (congrArg some (by kernel_rfl)),
  f271 := Tryd.func123.trans (congrArg some (by kernel_rfl)),
  t0 := Tryd.underlying0,
  a0 := Tryd.isAgg0,
  z0 := Tryd.sizeOf0,
  v0 := Tryd.zeroValue0,
  t3 := Tryd.underlying3,
  a3 := Tryd.isAgg3,
  z3 := Tryd.sizeOf3,
  v3 := Tryd.zeroValue3,
  t4 := Tryd.underlying4,
  a4 := Tryd.isAgg4,
  z4 := Tryd.sizeOf4,
  v4 := Tryd.zeroValue4,
  t5 := Tryd.underlying5,
  a5 := Tryd.isAgg5,
  z5 := Tryd.sizeOf5,
  v5 := Tryd.zeroValue5,
  t9 := Tryd.underlying9,
  a9 := Tryd.isAgg9,
  z9 := Tryd.sizeOf9,
  v9 := Tryd.zeroValue9,
  t21 := Tryd.underlying21,
  a21 := Tryd.isAgg21,
  z21 := Tryd.sizeOf21,
  v21 := Tryd.zeroValue21,
  t46 := Tryd.underlying97,
  a46 := Tryd.isAgg97,
  z46 := Tryd.sizeOf97,
  v46 := Tryd.zeroValue97,
  t105 := Tryd.underlying126,
  a105 := Tryd.isAgg126,
  z105 := Tryd.sizeOf126,
  v105 := Tryd.zeroValue126,
  t116 := Tryd.underlying116,
  a116 := Tryd.isAgg116,
  z116 := Tryd.sizeOf116,
  t117 := Tryd.underlying117,
  a117 := Tryd.isAgg117,
  z117 := Tryd.sizeOf117,
  v117 := Tryd.zeroValue117,
  t119 := Tryd.underlying152,
  a119 := Tryd.isAgg152,
  z119 := Tryd.sizeOf152,
  t124 := Tryd.underlying120,
  a124 := Tryd.isAgg120,
  z124 := Tryd.sizeOf120,
  v124 := Tryd.zeroValue120,
  t138 := Tryd.underlying154,
  a138 := Tryd.isAgg154,
  z138 := Tryd.sizeOf154,
  v138 := Tryd.zeroValue154,
  t139 := Tryd.underlying155,
  a139 := Tryd.isAgg155,
  z139 := Tryd.sizeOf155,
  v139 := Tryd.zeroValue155,
  g3 := by kernel_rfl,
  g4 := by kernel_rfl }
end Go.Proofs
namespace Go.Proofs.YtaenobdphjindaaDoor.MapW
open Go.RowKit Go.Shelf Go.Lib
set_option linter.unusedSimpArgs false
set_option linter.unusedVariables false
def strings_Trim.f (a0 a1 : ByteArray) : Option ByteArray :=
  if a0.size ≤ 9223372036854775807 ∧ a1.size < 4294967281 ∧ a1.data.toList.all (fun b => decide (b.toNat < 128)) = true then
    some ⟨(Lib.trimS a0.data.toList a1.data.toList).toArray⟩ else none
theorem strings_Trim.calls (a0 a1 : ByteArray) (r : ByteArray) (w : World) (h : strings_Trim.f a0 a1 = some r) :
    Calls Tryd.prog 87 #[.string a0, .string a1] w fun e w' => e = .returned (.string r) ∧ Below w.heap.size w w' := by
  unfold strings_Trim.f at h
  split at h
  · rename_i hc
    obtain ⟨h1, h2, h3⟩ := hc
    obtain rfl := Option.some.inj h
    exact Any.strings_Trim_laid Tryd.lays160 (by kernel_rfl) a0 a1 w h1 h2 (ascii_of_all h3)
  · cases h
end Go.Proofs.YtaenobdphjindaaDoor.MapW
