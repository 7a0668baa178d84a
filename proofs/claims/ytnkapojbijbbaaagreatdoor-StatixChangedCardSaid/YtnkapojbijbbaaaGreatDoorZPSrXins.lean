import Derived.Test.YtnkapojbijbbaaaGreatDoorZPSrHapp
import Derived.Test.YtnkapojbijbbaaaGreatDoorZPSrSort
import Derived.Lib.Overlaps
import Derived.Lib.AppendZerosOnto
import Derived.Laws.Externs
import Derived.Laws.CopyRow
import Derived.Test.YtnkapojbijbbaaaGreatDoorZPSrRead
set_option linter.unusedSimpArgs false
set_option linter.unusedVariables false
namespace Go.Proofs.YtnkapojbijbbaaaGreatDoor.Sr
open Go.RowKit Go.Maps Go.WideMaps Rf Go.Proofs.YtnkapojbijbbaaaGreatDoor.Nm St
section
variable {P : Program}
end
def insX (xs : Xs) (i : Nat) (x : List UInt8 × List UInt8) : Xs := xs.take i ++ x :: xs.drop i
section
variable {L X : List Value} {i n : Nat} {p : List Value}
end
end Go.Proofs.YtnkapojbijbbaaaGreatDoor.Sr
namespace Go.Proofs.YtnkapojbijbbaaaGreatDoor.Sr
open Go.RowKit Go.Maps Go.WideMaps Rf Go.Proofs.YtnkapojbijbbaaaGreatDoor.Nm St
def putX (s d : List UInt8) (xs : Xs) : Xs := if seatB s xs then xs.set (seatN s xs) (s, d) else insX xs (seatN s xs) (s, d)
def xattrA (s d : List UInt8) (A : XA) : XA := { A with xs := putX s d A.xs }
def xattrE (p s d : List UInt8) (T : Tr) : Int :=
 if splitE p ≠ 0 then 10 else match getT (splitL p) T.L with
  | none => 6
  | some n => chgE (xattrA s d n.at_) n T
end Go.Proofs.YtnkapojbijbbaaaGreatDoor.Sr
