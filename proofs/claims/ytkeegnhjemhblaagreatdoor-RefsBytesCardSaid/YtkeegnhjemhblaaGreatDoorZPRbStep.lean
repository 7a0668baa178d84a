import Derived.Test.YtkeegnhjemhblaaGreatDoorZPRbPair
import Derived.Test.YtkeegnhjemhblaaGreatDoorZPRbAdd
import Derived.Test.YtkeegnhjemhblaaGreatDoorZPStRef
import Derived.Test.YtkeegnhjemhblaaGreatDoorZPRfBack
import Derived.WalkLawsBesides
import Derived.Test.YtkeegnhjemhblaaGreatDoorZPRbEnd
import Derived.Test.YtkeegnhjemhblaaGreatDoorZPRbIds
set_option linter.unusedSimpArgs false
set_option linter.unusedVariables false
/-
  The contract of munimentlaw20's step, on a book of the program's and one of the reference's. Printed by genstep20.py.
-/
set_option linter.unusedSimpArgs false
namespace Go.Proofs.YtkeegnhjemhblaaGreatDoor.Rb
open Go.RowKit Go.Maps Go.WideMaps Go.Proofs.YtkeegnhjemhblaaGreatDoor.Rf

theorem range_all {w : World} {q : Nat} {cs : List Value} {T : TypeId} (h : w.heap[q]? = some (.cells cs.toArray T)) : w.rangeAt q 0 cs := fun j v hj => by
  rw [Nat.zero_add, cell_of_heap h, List.getElem?_toArray]; exact hj
end Go.Proofs.YtkeegnhjemhblaaGreatDoor.Rb
