import Derived.Test.YtnkapojbijbbaaaGreatDoorZPSrXins
import Derived.Test.YtnkapojbijbbaaaGreatDoorZPStEncode
import Derived.Deep.RegionLaw
set_option linter.unusedSimpArgs false
set_option linter.unusedVariables false
namespace Go.Proofs.YtnkapojbijbbaaaGreatDoor.Sr
open Go.RowKit Go.Maps Go.WideMaps Rf Go.Proofs.YtnkapojbijbbaaaGreatDoor.Nm St
def delX (xs : Xs) (i : Nat) : Xs := xs.take i ++ xs.drop (i + 1)
end Go.Proofs.YtnkapojbijbbaaaGreatDoor.Sr
namespace Go.Proofs.YtnkapojbijbbaaaGreatDoor.Sr
open Go.RowKit Go.Maps Go.WideMaps Rf Go.Proofs.YtnkapojbijbbaaaGreatDoor.Nm St
def clearA (s : List UInt8) (A : XA) : XA := { A with xs := delX A.xs (seatN s A.xs) }
def clearE (p s : List UInt8) (T : Tr) : Int :=
 if splitE p ≠ 0 then 10 else match getT (splitL p) T.L with
  | none => 6
  | some n => if seatB s n.at_.xs = false then 6 else chgE (clearA s n.at_) n T
end Go.Proofs.YtnkapojbijbbaaaGreatDoor.Sr
