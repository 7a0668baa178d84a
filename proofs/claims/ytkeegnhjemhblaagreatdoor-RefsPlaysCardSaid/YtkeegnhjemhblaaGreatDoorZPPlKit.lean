import Derived.Test.YtkeegnhjemhblaaGreatDoorZPRbTwo
import Derived.Test.YtkeegnhjemhblaaGreatDoorZPRfDec2
import Derived.Test.YtkeegnhjemhblaaGreatDoorZPSrPieces
set_option linter.unusedSimpArgs false
set_option linter.unusedVariables false
/-
  RefsPlays' code in pieces.
-/
set_option linter.unusedSimpArgs false
namespace Go.Proofs.YtkeegnhjemhblaaGreatDoor.Rb
open Go.RowKit Go.Maps Go.WideMaps Go.Proofs.YtkeegnhjemhblaaGreatDoor.Rf
noncomputable def plB (n : Nat) : Code := (Tryz.f4.body.bind (Sr.findB n)).getD .skip
end Go.Proofs.YtkeegnhjemhblaaGreatDoor.Rb
