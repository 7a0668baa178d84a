import Derived.Test.YthcjjekkjbidlaaGreatDoorZPShCheck
import Derived.Test.YthcjjekkjbidlaaGreatDoorZPStEncode
import Derived.Test.YthcjjekkjbidlaaGreatDoorRows
import Derived.Test.YthcjjekkjbidlaaGreatDoorZPNmCodec
import Derived.Lib.LaidU8
import Derived.MakeChecks
set_option linter.unusedSimpArgs false
set_option linter.unusedVariables false
/-
  The walk of the law: the chapter's numbers and refusals are as written.
-/
namespace Go.Proofs.YthcjjekkjbidlaaGreatDoor.Sh
open Go.RowKit Go.Proofs.YthcjjekkjbidlaaGreatDoor.Rf Go.Proofs.YthcjjekkjbidlaaGreatDoor.Rd Go.Proofs.YthcjjekkjbidlaaGreatDoor.St
theorem hexB_hx : ∀ n, n < 16 → hexB (hx n) = true := by decide
theorem hexs_all (l : List UInt8) : (hexs l).all hexB = true := by
  induction l with
  | nil => rfl
  | cons c l ih =>
    have := UInt8.toNat_lt c
    rw [hexs, List.flatMap_cons, List.all_append, ← hexs, ih, List.all_cons, List.all_cons, hexB_hx _ (by omega), hexB_hx _ (by omega)]
    rfl
theorem nameL_is (s : List UInt8) : namB (nameL s) = true := by
  rw [namB_iff]
  exact ⟨hexs (Sh.sum s), by rw [nameL, List.append_assoc]; rfl, (paB_iff _).2 ⟨by rw [hexs_length, sum_length], hexs_all _⟩⟩
end Go.Proofs.YthcjjekkjbidlaaGreatDoor.Sh
namespace Go.Proofs.YthcjjekkjbidlaaGreatDoor.St
open Go.RowKit Go.Maps Go.WideMaps Go.Proofs.YthcjjekkjbidlaaGreatDoor.Rf Go.Proofs.YthcjjekkjbidlaaGreatDoor.Rd

end Go.Proofs.YthcjjekkjbidlaaGreatDoor.St
