/- strings.Trim at an ASCII cutset, in the form of the print's contracts: what it gives, told as a function of its two texts. Condition: the texts' sizes are within bounds and the cutset is ASCII (the function gives nothing else). -/
import Derived.Test.YtobkiheihjdanaaDoorProg
import Derived.WalkKit
import Derived.Ground.NamesProg
import Derived.Shelf.Strings.SlTrimAscii
namespace Go.Proofs
open Go.Shelf
def Tryd.lays160_ren : Go.Shelf.Ren := ⟨fun | 160 => 90 | 232 => 111 | 231 => 110 | 227 => 112 | 234 => 114 | 233 => 113 | 236 => 116 | 235 => 115 | 228 => 128 | 271 => 131 | 151 => 130 | 197 => 129 | 120 => 149 | 152 => 148 | 260 => 147 | 137 => 166 | 119 => 167 | 224 => 168 | 225 => 169 | 217 => 177 | 266 => 179 | n => n, fun | 9 => 9 | 4 => 4 | 3 => 3 | 5 => 5 | 117 => 133 | 116 => 132 | 0 => 0 | 124 => 136 | 21 => 21 | 105 => 147 | 46 => 101 | 119 => 176 | 139 => 179 | 138 => 178 | n => n, fun | 3 => 1 | 4 => 2 | n => n⟩
theorem Tryd.lays160 : Go.Proofs.Lays.n160 Tryd.prog Tryd.lays160_ren := {
  mixed := by kernel_rfl,
  f119 := Tryd.func167.trans (congrArg some (by kernel_rfl)),
  f120 := Tryd.func149.trans (congrArg some (by kernel_rfl)),
  f137 := Tryd.func166.trans (congrArg some (by kernel_rfl)),
  f151 := Tryd.func130.trans (congrArg some (by kernel_rfl)),
  f152 := Tryd.func148.trans (congrArg some (by kernel_rfl)),
  f160 := Tryd.func90.trans (congrArg some (by kernel_rfl)),
  f197 := Tryd.func129.trans (congrArg some (by kernel_rfl)),
  f217 := Tryd.func177.trans (congrArg some (by kernel_rfl)),
  f224 := Tryd.func168.trans (congrArg some (by kernel_rfl)),
  f225 := Tryd.func169.trans (congrArg some (by kernel_rfl)),
  f227 := Tryd.func112.trans (congrArg some (by kernel_rfl)),
  f228 := Tryd.func128.trans (congrArg some (by kernel_rfl)),
  f231 := Tryd.func110.trans (congrArg some (by kernel_rfl)),
  f232 := Tryd.func111.trans (congrArg some (by kernel_rfl)),
  f233 := Tryd.func113.trans (congrArg some (by kernel_rfl)),
  f234 := Tryd.func114.trans (congrArg some (by kernel_rfl)),
  f235 := Tryd.func115.trans (congrArg some (by kernel_rfl)),
  f236 := Tryd.func116.trans (congrArg some (by kernel_rfl)),
  f260 := Tryd.func147.trans (congrArg some (by kernel_rfl)),
  f266 := Tryd.func179.trans (congrArg some (by kernel_rfl)),
  f271 := Tryd.func131.trans (congrArg some (by kernel_rfl)),
  t0 := Tryd.underlying0,
  a0 := Tryd.isAgg0,
  z0 := Tryd.sizeOf0,
  v0 := Tryd.zeroValue0,
  t3 := Tryd.underlying3,
  a3 := Tryd.isAgg3,
  z3 := Tryd.sizeOf3,
  v3 := Tryd.zeroValue3,
  t4 := Tryd.underlying4,
  a4 := Tryd.isAgg4,
  z4 := Tryd.sizeOf4,
  v4 := Tryd.zeroValue4,
  t5 := Tryd.underlying5,
  a5 := Tryd.isAgg5,
  z5 := Tryd.sizeOf5,
  v5 := Tryd.zeroValue5,
  t9 := Tryd.underlying9,
  a9 := Tryd.isAgg9,
  z9 := Tryd.sizeOf9,
  v9 := Tryd.zeroValue9,
  t21 := Tryd.underlying21,
  a21 := Tryd.isAgg21,
  z21 := Tryd.sizeOf21,
  v21 := Tryd.zeroValue21,
  t46 := Tryd.underlying101,
  a46 := Tryd.isAgg101,
  z46 := Tryd.sizeOf101,
  v46 := Tryd.zeroValue101,
  t105 := Tryd.underlying147,
  a105 := Tryd.isAgg147,
  z105 := Tryd.sizeOf147,
  v105 := Tryd.zeroValue147,
  t116 := Tryd.underlying132,
  a116 := Tryd.isAgg132,
  z116 := Tryd.sizeOf132,
  t117 := Tryd.underlying133,
  a117 := Tryd.isAgg133,
  z117 := Tryd.sizeOf133,
  v117 := Tryd.zeroValue133,
  t119 := Tryd.underlying176,
  a119 := Tryd.isAgg176,
  z119 := Tryd.sizeOf176,
  t124 := Tryd.underlying136,
  a124 := Tryd.isAgg136,
  z124 := Tryd.sizeOf136,
  v124 := Tryd.zeroValue136,
  t138 := Tryd.underlying178,
  a138 := Tryd.isAgg178,
  z138 := Tryd.sizeOf178,
  v138 := Tryd.zeroValue178,
  t139 := Tryd.underlying179,
  a139 := Tryd.isAgg179,
  z139 := Tryd.sizeOf179,
  v139 := Tryd.zeroValue179,
  g3 := by kernel_rfl,
  g4 := by kernel_rfl }
end Go.Proofs
namespace Go.Proofs.YtobkiheihjdanaaDoor.MapW
open Go.RowKit Go.Shelf Go.Lib
set_option linter.unusedSimpArgs false
set_option linter.unusedVariables false
def strings_Trim.f (a0 a1 : ByteArray) : Option ByteArray :=
  if a0.size ≤ 9223372036854775807 ∧ a1.size < 4294967281 ∧ a1.data.toList.all (fun b => decide (b.toNat < 128)) = true then
    some ⟨(Lib.trimS a0.data.toList a1.data.toList).toArray⟩ else none
theorem strings_Trim.calls (a0 a1 : ByteArray) (r : ByteArray) (w : World) (h : strings_Trim.f a0 a1 = some r) :
    Calls Tryd.prog 90 #[.string a0, .string a1] w fun e w' => e = .returned (.string r) ∧ Below w.heap.size w w' := by
  unfold strings_Trim.f at h
  split at h
  · rename_i hc
    obtain ⟨h1, h2, h3⟩ := hc
    obtain rfl := Option.some.inj h
    exact Any.strings_Trim_laid Tryd.lays160 (by kernel_rfl) a0 a1 w h1 h2 (ascii_of_all h3)
  · cases h
end Go.Proofs.YtobkiheihjdanaaDoor.MapW
