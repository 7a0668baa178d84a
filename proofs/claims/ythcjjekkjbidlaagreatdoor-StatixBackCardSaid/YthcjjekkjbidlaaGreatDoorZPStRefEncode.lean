import Derived.Test.YthcjjekkjbidlaaGreatDoorZPStRefPut
import Derived.Test.YthcjjekkjbidlaaGreatDoorZPStHeld
set_option linter.unusedSimpArgs false
set_option linter.unusedVariables false
/-
  The contract of the reference's Encode.
-/
namespace Go.Proofs.YthcjjekkjbidlaaGreatDoor.St
open Go.RowKit Go.Maps Go.WideMaps Go.Proofs.YthcjjekkjbidlaaGreatDoor.Rf Go.Proofs.YthcjjekkjbidlaaGreatDoor.Rd

theorem bytesWorld_below (w : World) (e : TypeId) (s : ByteArray) : Below w.heap.size w (Lib.bytesWorld w e s) :=
  ⟨rfl, rfl, rfl, by rw [Lib.bytesWorld_size]; omega, fun k hk => Lib.bytesWorld_at_old w e s k hk⟩
end Go.Proofs.YthcjjekkjbidlaaGreatDoor.St
