import Derived.Test.YtkeegnhjemhblaaGreatDoorProg
import Derived.WalkKit
set_option linter.unusedSimpArgs false
set_option linter.unusedVariables false
/-
  Regions and blocks, taken out of a code.
-/
namespace Go.Proofs.YtkeegnhjemhblaaGreatDoor.Sr
def findR (n : Nat) : Code → Option Code
  | .region id ops d => if id = n then some (.region id ops d) else none
  | .seq a b => match findR n a with
    | some c => some c
    | none => findR n b
  | .block _ c => findR n c
  | .cond _ a b => match findR n a with
    | some c => some c
    | none => findR n b
  | .loop c => findR n c
  | _ => none
def findB (n : Nat) : Code → Option Code
  | .seq a b => match findB n a with
    | some c => some c
    | none => findB n b
  | .block k c => if k == n then some (.block k c) else findB n c
  | .cond _ a b => match findB n a with
    | some c => some c
    | none => findB n b
  | .loop c => findB n c
  | _ => none
end Go.Proofs.YtkeegnhjemhblaaGreatDoor.Sr
