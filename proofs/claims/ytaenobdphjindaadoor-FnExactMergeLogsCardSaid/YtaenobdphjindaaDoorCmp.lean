/- strings.Compare in the form of the print's contracts: what it gives, told as a function of its two texts. No condition. -/
import Derived.Test.YtaenobdphjindaaDoorProg
import Derived.Test.YtaenobdphjindaaDoorWMore
import Derived.WalkKit
import Derived.Ground.NamesProg
import Derived.Shelf.Lay
import Derived.Shelf.Small.Strs
namespace Go.Proofs
open Go.Shelf
shelf_lay Lays.n106 Nm 106 at Tryd as Tryd.lays106
end Go.Proofs
namespace Go.Proofs.YtaenobdphjindaaDoor.MapW
open Go.RowKit Go.Shelf Go.Lib Go.Proofs.YtaenobdphjindaaDoorW.PrintWords
def strings_Compare.f (a0 a1 : ByteArray) : Option Int := some (Lib.compareBytes a0.data.toList a1.data.toList)
theorem strings_Compare.calls (a0 a1 : ByteArray) (r : Int) (w : World) (h : strings_Compare.f a0 a1 = some r) :
    Calls Tryd.prog 65 #[.string a0, .string a1] w fun e w' => e = .returned (.int .i64 r) ∧ Drawn0 w w' := by
  obtain rfl := Option.some.inj h
  refine (Any.strings_Compare Tryd.lays106 a0 a1 w).mono ?_
  rintro e w' ⟨rfl, rfl⟩
  exact ⟨rfl, Drawn0.refl _⟩
end Go.Proofs.YtaenobdphjindaaDoor.MapW
