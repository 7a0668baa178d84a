import Derived.Test.YtnkapojbijbbaaaGreatDoorZPRowKit
import Derived.Test.YtnkapojbijbbaaaGreatDoorZPStStrs
import Derived.Test.YtnkapojbijbbaaaGreatDoorZPStEncode
import Derived.Test.YtnkapojbijbbaaaGreatDoorZPSrSort
import Derived.Test.YtnkapojbijbbaaaGreatDoorZPStMay
import Derived.Test.YtnkapojbijbbaaaGreatDoorZPStRefSet
import Derived.Deep.QuietTactic
import Derived.BigQuiet
set_option linter.unusedSimpArgs false
set_option linter.unusedVariables false
namespace Go.Proofs.YtnkapojbijbbaaaGreatDoor.St
open Go.RowKit Go.Maps Go.WideMaps Rf Rd Go.Proofs.YtnkapojbijbbaaaGreatDoor.Nm
theorem turn_grown {X : List Nat} {w w' w'' : World} {row : Option Nat} (h : Turn X w w') (hg : w'.grownBy w'' row) (hX : ∀ k, row = some k → k ∈ X) : Turn X w w'' :=
 ⟨hg.os.trans h.os, hg.tape.trans h.tape, hg.output.trans h.output, Nat.le_trans h.size hg.size, fun k hk hn => (hg.block k (Nat.lt_of_lt_of_le hk h.size) (fun e => hn (hX k e.symm))).trans (h.block k hk hn)⟩
end Go.Proofs.YtnkapojbijbbaaaGreatDoor.St
