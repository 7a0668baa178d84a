import Derived.Test.YthcjjekkjbidlaaDoorZPStAppend
import Derived.Test.YthcjjekkjbidlaaDoorZPStRead
import Derived.Test.YthcjjekkjbidlaaDoorZPStReg
import Derived.Test.YthcjjekkjbidlaaDoorZPStKit
import Derived.Test.YthcjjekkjbidlaaDoorZPStRef
import Derived.Test.YthcjjekkjbidlaaDoorZPShSum
import Derived.Test.YthcjjekkjbidlaaDoorZPStRefAt
import Derived.Deep.QuietTactic
import Derived.BigQuiet
set_option linter.unusedSimpArgs false
set_option linter.unusedVariables false
/-
  The contract of a node's value: the node, and all beneath it, in their order.
-/
namespace Go.Proofs.YthcjjekkjbidlaaDoor.Sr
open Go.RowKit Go.Maps Go.WideMaps Go.Proofs.YthcjjekkjbidlaaDoor.Rf Go.Proofs.YthcjjekkjbidlaaDoor.Nm Go.Proofs.YthcjjekkjbidlaaDoor.St

abbrev XaT : TypeId := 131
/-- The rows that value has put out: each with a row of extended attributes of its own. -/
structure OutAt (C : Nat) (w : World) (v : Value) (R : List (TE × Value)) : Prop where
  row : w.ownsRow C VnT 11 v R.length (vrows R)
  xrow : ∀ p ∈ R, w.ownsRow C XaT 2 p.2 p.1.at_.xs.length (xcells p.1.at_.xs)
  nod : (ob v ++ R.flatMap fun p => ob p.2).Nodup
theorem OutAt.kept {C : Nat} {w w' : World} {v : Value} {R : List (TE × Value)} (h : OutAt C w v R) (hb : ∀ b ∈ ob v ++ R.flatMap (fun p => ob p.2), b < w.heap.size → w'.heap[b]? = w.heap[b]?) : OutAt C w' v R :=
  ⟨rowS_kept h.row (fun b hx hl => hb b (by simp [hx]) hl), fun p hp => rowS_kept (h.xrow p hp) (fun b hx hl => hb b (List.mem_append_right _ (List.mem_flatMap.2 ⟨p, hp, hx⟩)) hl), h.nod⟩
theorem OutAt.below {C : Nat} {w w' : World} {v : Value} {R : List (TE × Value)} (h : OutAt C w v R) (hb : Below w.heap.size w w') : OutAt C w' v R :=
  h.kept (fun b _ hl => hb.block b hl)
end Go.Proofs.YthcjjekkjbidlaaDoor.Sr
