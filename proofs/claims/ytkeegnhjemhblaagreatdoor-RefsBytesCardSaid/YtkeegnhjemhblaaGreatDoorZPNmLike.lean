import Derived.Test.YtkeegnhjemhblaaGreatDoorZPNmPlain
import Derived.Lib.TrimByte
import Derived.Laws.Cover4
set_option linter.unusedSimpArgs false
set_option linter.unusedVariables false
/-
  Plain facts on patterns: what it is to be like a pattern, and that the greedy way with one star kept finds it. No program stands in this text.
-/
namespace Go.Proofs.YtkeegnhjemhblaaGreatDoor.Nm

/-! ### The greedy way -/
/-- What is left of the pattern is stars alone, told from its bytes. -/
def enc (r : Nat) : List UInt8 := (Utf8.encode (Int.ofNat r)).data.toList
end Go.Proofs.YtkeegnhjemhblaaGreatDoor.Nm
