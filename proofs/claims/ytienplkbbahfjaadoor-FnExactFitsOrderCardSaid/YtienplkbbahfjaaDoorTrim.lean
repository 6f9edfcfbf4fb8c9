/- strings.Trim at an ASCII cutset, in the form of the print's contracts: what it gives, told as a function of its two texts. Condition: the texts' sizes are within bounds and the cutset is ASCII (the function gives nothing else). -/
import Derived.Test.YtienplkbbahfjaaDoorProg
import Derived.WalkKit
import Derived.Ground.NamesProg
import Derived.Shelf.Strings.SlTrimAscii
namespace Go.Proofs
open Go.Shelf
def Tryd.lays160_ren : Go.Shelf.Ren := ⟨fun | 160 => 62 | 232 => 77 | 231 => 76 | 227 => 78 | 234 => 80 | 233 => 79 | 236 => 82 | 235 => 81 | 228 => 89 | 271 => 92 | 151 => 91 | 197 => 90 | 120 => 96 | 152 => 95 | 260 => 94 | 137 => 97 | 119 => 98 | 224 => 99 | 225 => 100 | 217 => 101 | 266 => 102 | n => n, fun | 9 => 9 | 4 => 4 | 3 => 3 | 5 => 5 | 117 => 96 | 116 => 95 | 0 => 0 | 124 => 99 | 21 => 21 | 105 => 107 | 46 => 76 | 119 => 114 | 139 => 117 | 138 => 116 | n => n, fun | 3 => 0 | 4 => 1 | n => n⟩
theorem Tryd.lays160 : Go.Proofs.Lays.n160 Tryd.prog Tryd.lays160_ren := {
  mixed := by kernel_rfl,
  f119 := Tryd.func98.trans (congrArg some (by kernel_rfl)),
  f120 := Tryd.func96.trans (congrArg some (by kernel_rfl)),
  f137 := Tryd.func97.trans (congrArg some (by kernel_rfl)),
  f151 := Tryd.func91.trans (congrArg some (by kernel_rfl)),
  f152 := Tryd.func95.trans (congrArg some (by kernel_rfl)),
  f160 := Tryd.func62.trans (congrArg some (by kernel_rfl)),
  f197 := Tryd.func90.trans (congrArg some (by kernel_rfl)),
  f217 := Tryd.func101.trans (congrArg some (by kernel_rfl)),
  f224 := Tryd.func99.trans (congrArg some (by kernel_rfl)),
  f225 := Tryd.func100.trans (congrArg some (by kernel_rfl)),
  f227 := Tryd.func78.trans (congrArg some (by kernel_rfl)),
  f228 := Tryd.func89.trans (congrArg some (by kernel_rfl)),
  f231 := Tryd.func76.trans (congrArg some (by kernel_rfl)),
  f232 := Tryd.func77.trans (congrArg some (by kernel_rfl)),
  f233 := Tryd.func79.trans (congrArg some (by kernel_rfl)),
  f234 := Tryd.func80.trans (congrArg some (by kernel_rfl)),
  f235 := Tryd.func81.trans (congrArg some (by kernel_rfl)),
  f236 := Tryd.func82.trans (congrArg some (by kernel_rfl)),
  f260 := Tryd.func94.trans (congrArg some (by kernel_rfl)),
  f266 := Tryd.func102.trans (congrArg some (by kernel_rfl)),
  f271 := Tryd.func92.trans (congrArg some (by kernel_rfl)),
  t0 := Tryd.underlying0,
  a0 := Tryd.isAgg0,
  z0 := Tryd.sizeOf0,
  v0 := Tryd.zeroValue0,
  t3 := Tryd.underlying3,
  a3 := Tryd.isAgg3,
  z3 := Tryd.sizeOf3,
  v3 := Tryd.zeroValue3,
  t4 := Tryd.underlying4,
  a4 := Tryd.isAgg4,
  z4 := Tryd.sizeOf4,
  v4 := Tryd.zeroValue4,
  t5 := Tryd.underlying5,
  a5 := Tryd.isAgg5,
  z5 := Tryd.sizeOf5,
  v5 := Tryd.zeroValue5,
  t9 := Tryd.underlying9,
  a9 := Tryd.isAgg9,
  z9 := Tryd.sizeOf9,
  v9 := Tryd.zeroValue9,
  t21 := Tryd.underlying21,
  a21 := Tryd.isAgg21,
  z21 := Tryd.sizeOf21,
  v21 := Tryd.zeroValue21,
  t46 := Tryd.underlying76,
  a46 := Tryd.isAgg76,
  z46 := Tryd.sizeOf76,
  v46 := Tryd.zeroValue76,
  t105 := Tryd.underlying107,
  a105 := Tryd.isAgg107,
  z105 := Tryd.sizeOf107,
  v105 := Tryd.zeroValue107,
  t116 := Tryd.underlying95,
  a116 := Tryd.isAgg95,
  z116 := Tryd.sizeOf95,
  t117 := Tryd.underlying96,
  a117 := Tryd.isAgg96,
  z117 := Tryd.sizeOf96,
  v117 := Tryd.zeroValue96,
  t119 := Tryd.underlying114,
  a119 := Tryd.isAgg114,
  z119 := Tryd.sizeOf114,
  t124 := Tryd.underlying99,
  a124 := Tryd.isAgg99,
  z124 := Tryd.sizeOf99,
  v124 := Tryd.zeroValue99,
  t138 := Tryd.underlying116,
  a138 := Tryd.isAgg116,
  z138 := Tryd.sizeOf116,
  v138 := Tryd.zeroValue116,
  t139 := Tryd.underlying117,
  a139 := Tryd.isAgg117,
  z139 := Tryd.sizeOf117,
  v139 := Tryd.zeroValue117,
  g3 := by kernel_rfl,
  g4 := by kernel_rfl }
end Go.Proofs
namespace Go.Proofs.YtienplkbbahfjaaDoor.MapW
open Go.RowKit Go.Shelf Go.Lib
set_option linter.unusedSimpArgs false
set_option linter.unusedVariables false
def strings_Trim.f (a0 a1 : ByteArray) : Option ByteArray :=
  if a0.size ≤ 9223372036854775807 ∧ a1.size < 4294967281 ∧ a1.data.toList.all (fun b => decide (b.toNat < 128)) = true then
    some ⟨(Lib.trimS a0.data.toList a1.data.toList).toArray⟩ else none
theorem strings_Trim.calls (a0 a1 : ByteArray) (r : ByteArray) (w : World) (h : strings_Trim.f a0 a1 = some r) :
    Calls Tryd.prog 62 #[.string a0, .string a1] w fun e w' => e = .returned (.string r) ∧ Below w.heap.size w w' := by
  unfold strings_Trim.f at h
  split at h
  · rename_i hc
    obtain ⟨h1, h2, h3⟩ := hc
    obtain rfl := Option.some.inj h
    exact Any.strings_Trim_laid Tryd.lays160 (by kernel_rfl) a0 a1 w h1 h2 (ascii_of_all h3)
  · cases h
end Go.Proofs.YtienplkbbahfjaaDoor.MapW
