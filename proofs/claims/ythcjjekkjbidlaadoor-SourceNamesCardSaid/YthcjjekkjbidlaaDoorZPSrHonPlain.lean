import Derived.Test.YthcjjekkjbidlaaDoorZPSrGood
import Derived.Test.YthcjjekkjbidlaaDoorZPNmLike
set_option linter.unusedSimpArgs false
set_option linter.unusedVariables false
/-
  The plain law of StatixHonest: what is entered tells what a file was.
-/
namespace Go.Proofs.YthcjjekkjbidlaaDoor.Sr
open Go.RowKit Go.Maps Go.WideMaps Go.Proofs.YthcjjekkjbidlaaDoor.Rf Go.Proofs.YthcjjekkjbidlaaDoor.Nm Go.Proofs.YthcjjekkjbidlaaDoor.St

/-! ### a node's path, read again -/
/-! ### what the law keeps -/
/-- The entries, the bytes kept beside them, the numbers kept beside them. -/
structure HonRel (T : Tr) (X : List SE) (D : MV (List UInt8)) (K : MV (Nat × Int)) : Prop where
  srt : Srt X
  keyD : ∀ p, (getM D p).isSome = (getL p X).isSome
  ent : ∀ e ∈ X, ∃ b, getM D e.path = some b ∧ getM K e.path = some (e.ino, e.tick) ∧ e.node = 1 ∧ e.size = (b.length : Int) ∧ e.ino ≤ T.most ∧ e.tick ≤ (T.clock : Int) ∧ ∀ x ∈ T.L, x.ino = e.ino → x.tick = e.tick → x.data = b ∧ x.at_.node = 1
end Go.Proofs.YthcjjekkjbidlaaDoor.Sr
