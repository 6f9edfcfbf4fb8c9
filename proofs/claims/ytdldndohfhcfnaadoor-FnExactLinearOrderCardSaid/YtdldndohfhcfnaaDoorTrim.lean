/- strings.Trim at an ASCII cutset, in the form of the print's contracts: what it gives, told as a function of its two texts. Condition: the texts' sizes are within bounds and the cutset is ASCII (the function gives nothing else). -/
import Derived.Test.YtdldndohfhcfnaaDoorProg
import Derived.WalkKit
import Derived.Ground.NamesProg
import Derived.Shelf.Strings.SlTrimAscii
namespace Go.Proofs
open Go.Shelf
def Tryd.lays160_ren : Go.Shelf.Ren := ⟨fun | 160 => 42 | 232 => 47 | 231 => 46 | 227 => 48 | 234 => 50 | 233 => 49 | 236 => 52 | 235 => 51 | 228 => 53 | 271 => 56 | 151 => 55 | 197 => 54 | 120 => 59 | 152 => 58 | 260 => 57 | 137 => 60 | 119 => 61 | 224 => 62 | 225 => 63 | 217 => 64 | 266 => 65 | n => n, fun | 9 => 9 | 4 => 4 | 3 => 3 | 5 => 5 | 117 => 70 | 116 => 69 | 0 => 0 | 124 => 73 | 21 => 21 | 105 => 75 | 46 => 80 | 119 => 79 | 139 => 83 | 138 => 82 | n => n, fun | 3 => 0 | 4 => 1 | n => n⟩
theorem Tryd.lays160 : Go.Proofs.Lays.n160 Tryd.prog Tryd.lays160_ren := {
  mixed := by kernel_rfl,
  f119 := Tryd.func61.trans (congrArg some (by kernel_rfl)),
  f120 := Tryd.func59.trans (congrArg some (by kernel_rfl)),
  f137 := Tryd.func60.trans (congrArg some (by kernel_rfl)),
  f151 := Tryd.func55.trans (congrArg some (by kernel_rfl)),
  f152 := Tryd.func58.trans (congrArg some (by kernel_rfl)),
  f160 := Tryd.func42.trans (congrArg some (by kernel_rfl)),
  f197 := Tryd.func54.trans (congrArg some (by kernel_rfl)),
  f217 := Tryd.func64.trans (congrArg some (by kernel_rfl)),
  f224 := Tryd.func62.trans (congrArg some (by kernel_rfl)),
  f225 := Tryd.func63.trans (congrArg some (by kernel_rfl)),
  f227 := Tryd.func48.trans (congrArg some (by kernel_rfl)),
  f228 := Tryd.func53.trans (congrArg some (by kernel_rfl)),
  f231 := Tryd.func46.trans (congrArg some (by kernel_rfl)),
  f232 := Tryd.func47.trans (congrArg some (by kernel_rfl)),
  f233 := Tryd.func49.trans (congrArg some (by kernel_rfl)),
  f234 := Tryd.func50.trans (congrArg some (by kernel_rfl)),
  f235 := Tryd.func51.trans (congrArg some (by kernel_rfl)),
  f236 := Tryd.func52.trans (congrArg some (by kernel_rfl)),
  f260 := Tryd.func57.trans (congrArg some (by kernel_rfl)),
  f266 := Tryd.func65.trans (congrArg some (by kernel_rfl)),
  f271 := Tryd.func56.trans (congrArg some (by kernel_rfl)),
  t0 := Tryd.underlying0,
  a0 := Tryd.isAgg0,
  z0 := Tryd.sizeOf0,
  v0 := Tryd.zeroValue0,
  t3 := Tryd.underlying3,
  a3 := Tryd.isAgg3,
  z3 := Tryd.sizeOf3,
  v3 := Tryd.zeroValue3,
  t4 := Tryd.underlying4,
  a4 := Tryd.isAgg4,
  z4 := Tryd.sizeOf4,
  v4 := Tryd.zeroValue4,
  t5 := Tryd.underlying5,
  a5 := Tryd.isAgg5,
  z5 := Tryd.sizeOf5,
  v5 := Tryd.zeroValue5,
  t9 := Tryd.underlying9,
  a9 := Tryd.isAgg9,
  z9 := Tryd.sizeOf9,
  v9 := Tryd.zeroValue9,
  t21 := Tryd.underlying21,
  a21 := Tryd.isAgg21,
  z21 := Tryd.sizeOf21,
  v21 := Tryd.zeroValue21,
  t46 := Tryd.underlying80,
  a46 := Tryd.isAgg80,
  z46 := Tryd.sizeOf80,
  v46 := Tryd.zeroValue80,
  t105 := Tryd.underlying75,
  a105 := Tryd.isAgg75,
  z105 := Tryd.sizeOf75,
  v105 := Tryd.zeroValue75,
  t116 := Tryd.underlying69,
  a116 := Tryd.isAgg69,
  z116 := Tryd.sizeOf69,
  t117 := Tryd.underlying70,
  a117 := Tryd.isAgg70,
  z117 := Tryd.sizeOf70,
  v117 := Tryd.zeroValue70,
  t119 := Tryd.underlying79,
  a119 := Tryd.isAgg79,
  z119 := Tryd.sizeOf79,
  t124 := Tryd.underlying73,
  a124 := Tryd.isAgg73,
  z124 := Tryd.sizeOf73,
  v124 := Tryd.zeroValue73,
  t138 := Tryd.underlying82,
  a138 := Tryd.isAgg82,
  z138 := Tryd.sizeOf82,
  v138 := Tryd.zeroValue82,
  t139 := Tryd.underlying83,
  a139 := Tryd.isAgg83,
  z139 := Tryd.sizeOf83,
  v139 := Tryd.zeroValue83,
  g3 := by kernel_rfl,
  g4 := by kernel_rfl }
end Go.Proofs
namespace Go.Proofs.YtdldndohfhcfnaaDoor.MapW
open Go.RowKit Go.Shelf Go.Lib
set_option linter.unusedSimpArgs false
set_option linter.unusedVariables false
def strings_Trim.f (a0 a1 : ByteArray) : Option ByteArray :=
  if a0.size ≤ 9223372036854775807 ∧ a1.size < 4294967281 ∧ a1.data.toList.all (fun b => decide (b.toNat < 128)) = true then
    some ⟨(Lib.trimS a0.data.toList a1.data.toList).toArray⟩ else none
theorem strings_Trim.calls (a0 a1 : ByteArray) (r : ByteArray) (w : World) (h : strings_Trim.f a0 a1 = some r) :
    Calls Tryd.prog 42 #[.string a0, .string a1] w fun e w' => e = .returned (.string r) ∧ Below w.heap.size w w' := by
  unfold strings_Trim.f at h
  split at h
  · rename_i hc
    obtain ⟨h1, h2, h3⟩ := hc
    obtain rfl := Option.some.inj h
    exact Any.strings_Trim_laid Tryd.lays160 (by kernel_rfl) a0 a1 w h1 h2 (ascii_of_all h3)
  · cases h
end Go.Proofs.YtdldndohfhcfnaaDoor.MapW
