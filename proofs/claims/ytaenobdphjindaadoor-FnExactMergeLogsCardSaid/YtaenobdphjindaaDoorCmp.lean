/- strings.Compare in the form of the print's contracts: what it gives, told as a function of its two texts. No condition. -/
import Derived.Test.YtaenobdphjindaaDoorProg
import Derived.Test.YtaenobdphjindaaDoorWMore
import Derived.WalkKit
import Derived.Ground.NamesProg
import Derived.Shelf.Small.Strs
namespace Go.Proofs
open Go.Shelf
def Tryd.lays106_ren : Go.Shelf.Ren := ⟨fun | 106 => 65 | 213 => 78 | 265 => 89 | n => n, fun | 9 => 9 | 3 => 3 | n => n, fun | n => n⟩
theorem Tryd.lays106 : Go.Proofs.Lays.n106 Tryd.prog Tryd.lays106_ren := {
  mixed := by kernel_rfl,
  f106 := Tryd.func65.trans (congrArg some (by kernel_rfl)),
  f213 := Tryd.func78.trans (congrArg some (by kernel_rfl)),
  f265 := Tryd.func89.trans (congrArg some (by kernel_rfl)),
  t3 := Tryd.underlying3,
  a3 := Tryd.isAgg3,
  z3 := Tryd.sizeOf3,
  v3 := Tryd.zeroValue3,
  t9 := Tryd.underlying9,
  a9 := Tryd.isAgg9,
  z9 := Tryd.sizeOf9,
  v9 := Tryd.zeroValue9 }
end Go.Proofs
namespace Go.Proofs.YtaenobdphjindaaDoor.MapW
open Go.RowKit Go.Shelf Go.Lib Go.Proofs.YtaenobdphjindaaDoorW.PrintWords
def strings_Compare.f (a0 a1 : ByteArray) : Option Int := some (Lib.compareBytes a0.data.toList a1.data.toList)
theorem strings_Compare.calls (a0 a1 : ByteArray) (r : Int) (w : World) (h : strings_Compare.f a0 a1 = some r) :
    Calls Tryd.prog 65 #[.string a0, .string a1] w fun e w' => e = .returned (.int .i64 r) ∧ Drawn0 w w' := by
  obtain rfl := Option.some.inj h
  refine (Any.strings_Compare Tryd.lays106 a0 a1 w).mono ?_
  rintro e w' ⟨rfl, rfl⟩
  exact ⟨rfl, Drawn0.refl _⟩
end Go.Proofs.YtaenobdphjindaaDoor.MapW
