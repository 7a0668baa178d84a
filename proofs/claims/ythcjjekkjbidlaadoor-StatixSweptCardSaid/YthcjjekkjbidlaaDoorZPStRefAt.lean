import Derived.Test.YthcjjekkjbidlaaDoorZPStStep
import Derived.Test.YthcjjekkjbidlaaDoorZPStRead
import Derived.Test.YthcjjekkjbidlaaDoorZPStDrop
set_option linter.unusedSimpArgs false
set_option linter.unusedVariables false
/-
  How an index of the reference's lies in memory; the contract of its At.
-/
namespace Go.Proofs.YthcjjekkjbidlaaDoor.St
open Go.RowKit Go.Maps Go.WideMaps Go.Proofs.YthcjjekkjbidlaaDoor.Rf Go.Proofs.YthcjjekkjbidlaaDoor.Rd

theorem below_drewN (w : World) (n : Nat) : Below w.heap.size w (w.drewN n) := (Below.refl _ _).trans ⟨rfl, rfl, rfl, Nat.le_of_eq (by rw [World.heap_drewN]), fun _ _ => by rw [World.heap_drewN]⟩

end Go.Proofs.YthcjjekkjbidlaaDoor.St
/-
  The contracts of the reference's Get and of both Freshs.
-/
namespace Go.Proofs.YthcjjekkjbidlaaDoor.St
open Go.RowKit Go.Maps Go.WideMaps Go.Proofs.YthcjjekkjbidlaaDoor.Rf Go.Proofs.YthcjjekkjbidlaaDoor.Rd

theorem range_stat {w : World} {x : Nat} {e : SE} {T : TypeId} (h : w.heap[x]? = some (.cells e.cells.toArray T)) : w.rangeAt x 1 e.stat := fun j v hv => by
  rw [cell_of_heap h]
  match j, hv with
  | 0, hv => exact hv
  | 1, hv => exact hv
  | 2, hv => exact hv
  | 3, hv => exact hv
end Go.Proofs.YthcjjekkjbidlaaDoor.St
