import Derived.Test.YtkeegnhjemhblaaGreatDoorZPNmLike
import Derived.Lib.Split
import Derived.Lib.SplitLaws
set_option linter.unusedSimpArgs false
set_option linter.unusedVariables false
/-
  Plain facts on paths: the names of a path, the path of names. No program stands in this text.
-/
namespace Go.Proofs.YtkeegnhjemhblaaGreatDoor.Nm

def fine (r : Nat) : Bool := !(decide (r < 32)) && !(r == 127) && !(r == 47)
def runesFine (l : List UInt8) : Bool := (seg l).all fun p => fine p.1
def lenFine (l : List UInt8) : Bool := okB l && decide (1 ≤ count l) && decide (count l ≤ 64) && decide (l.length ≤ 255) && !(l == [46]) && !(l == [46, 46])
/-- A name may be. -/
def chk (l : List UInt8) : Bool := lenFine l && runesFine l

end Go.Proofs.YtkeegnhjemhblaaGreatDoor.Nm
